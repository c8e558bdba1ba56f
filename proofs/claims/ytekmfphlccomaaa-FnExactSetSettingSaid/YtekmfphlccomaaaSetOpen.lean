/- Setting: an argument of the law's own mirror type is read as a list of elements. No condition. -/
import Derived.Test.YtekmfphlccomaaaRow
import Derived.Test.YtekmfphlccomaaaSetFam
namespace Go.Proofs.Ytekmfphlccomaaa
open Go.ChangeShapes Go.WideShapes Go.ChangeAt Go.RowKit Go.Deep

theorem cellsSet : Try.prog.cellsOf 43 = 2 := by kernel_rfl
theorem cellsSetstr : Try.prog.cellsOf 9 = 1 := by kernel_rfl

section
variable {H : Type} {enc : TypeId × Value → H} {w : World} {base : Nat} {spare : Nat → Bool} {held : Bool}
theorem openSet (n : Nat) (cs : List Value) (y : DataW H × List MemPlace) (h : DataW.trod enc Try.prog w base spare held n 43 cs = some y) : ∃ x : Set, cs = encSet x ∧ (x.name.size ≤ 9223372036854775807 ∧ x.text.size ≤ 9223372036854775807) := by
  obtain ⟨xs, m, _, _, hl, hxl, hf⟩ := DataW.trod_struct Try.underlying43 h
  have hl3 : cs.length = 2 := hl.trans cellsSet
  have hx3 : xs.length = 2 := hxl
  match cs, hl3, xs, hx3 with
  | [c0, c1], _, [y0, y1], _ =>
    have e0 : DataW.trod enc Try.prog w base spare held m 9 (List.take (Try.prog.cellsOf 9) [c0, c1]) = some y0 := hf 0 _ rfl
    simp only [cellsSetstr, List.take_succ_cons, List.take_zero] at e0
    obtain ⟨v0, h0, _, w0⟩ := DataW.trod_string Try.underlying9 e0
    simp only [List.cons.injEq, and_true] at h0
    subst h0
    have e1 : DataW.trod enc Try.prog w base spare held m 9 (List.take (Try.prog.cellsOf 9) [c1]) = some y1 := hf 1 _ rfl
    simp only [cellsSetstr, List.take_succ_cons, List.take_zero] at e1
    obtain ⟨v1, h1, _, w1⟩ := DataW.trod_string Try.underlying9 e1
    simp only [List.cons.injEq, and_true] at h1
    subst h1
    exact ⟨⟨v0, v1⟩, rfl, ⟨w0, w1⟩⟩
theorem openSetV {r : Reach} {b0 : Nat} {v : Value} {d : DataW H} {p : List MemPlace} (hv : Value.okWide Try.prog w r b0 43 v) (h : DataW.Trod enc Try.prog w base spare held 43 v d p) : ∃ x : Set, v = .agg #[.string x.name, .string x.text] ∧ (x.name.size ≤ 9223372036854775807 ∧ x.text.size ≤ 9223372036854775807) := by
  obtain ⟨cs, rfl, _⟩ := okWide_struct Try.underlying43 hv
  obtain ⟨fuel, hf⟩ := h
  obtain ⟨x, hx, hg⟩ := openSet fuel _ _ hf
  refine ⟨x, ?_, hg⟩
  have hx' : cs.toList = encSet x := hx
  rw [← Array.toArray_toList (xs := cs), hx']
  rfl
end
end Go.Proofs.Ytekmfphlccomaaa
