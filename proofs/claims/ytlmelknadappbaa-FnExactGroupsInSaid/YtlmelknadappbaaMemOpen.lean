/- Member: an argument of the law's own mirror type is read as a list of elements. No condition. -/
import Derived.Test.YtlmelknadappbaaRow
import Derived.Test.YtlmelknadappbaaMemFam
namespace Go.Proofs.Ytlmelknadappbaa
open Go.ChangeShapes Go.WideShapes Go.ChangeAt Go.RowKit Go.Deep

theorem cellsMem : Try.prog.cellsOf 51 = 3 := by kernel_rfl
theorem cellsMemint : Try.prog.cellsOf 3 = 1 := by kernel_rfl

section
variable {H : Type} {enc : TypeId × Value → H} {w : World} {base : Nat} {spare : Nat → Bool} {held : Bool}
theorem openMem (n : Nat) (cs : List Value) (y : DataW H × List MemPlace) (h : DataW.trod enc Try.prog w base spare held n 51 cs = some y) : ∃ x : Mem, cs = encMem x ∧ (True) := by
  obtain ⟨xs, m, _, _, hl, hxl, hf⟩ := DataW.trod_struct Try.underlying51 h
  have hl3 : cs.length = 3 := hl.trans cellsMem
  have hx3 : xs.length = 3 := hxl
  match cs, hl3, xs, hx3 with
  | [c0, c1, c2], _, [y0, y1, y2], _ =>
    have e0 : DataW.trod enc Try.prog w base spare held m 3 (List.take (Try.prog.cellsOf 3) [c0, c1, c2]) = some y0 := hf 0 _ rfl
    simp only [cellsMemint, List.take_succ_cons, List.take_zero] at e0
    obtain ⟨v0, h0, _, w0⟩ := DataW.trod_int Try.underlying3 e0
    simp only [List.cons.injEq, and_true] at h0
    subst h0
    have e1 : DataW.trod enc Try.prog w base spare held m 3 (List.take (Try.prog.cellsOf 3) [c1, c2]) = some y1 := hf 1 _ rfl
    simp only [cellsMemint, List.take_succ_cons, List.take_zero] at e1
    obtain ⟨v1, h1, _, w1⟩ := DataW.trod_int Try.underlying3 e1
    simp only [List.cons.injEq, and_true] at h1
    subst h1
    have e2 : DataW.trod enc Try.prog w base spare held m 3 (List.take (Try.prog.cellsOf 3) [c2]) = some y2 := hf 2 _ rfl
    simp only [cellsMemint, List.take_succ_cons, List.take_zero] at e2
    obtain ⟨v2, h2, _, w2⟩ := DataW.trod_int Try.underlying3 e2
    simp only [List.cons.injEq, and_true] at h2
    subst h2
    exact ⟨⟨v0, v1, v2⟩, rfl, trivial⟩
theorem openMemV {r : Reach} {b0 : Nat} {v : Value} {d : DataW H} {p : List MemPlace} (hv : Value.okWide Try.prog w r b0 51 v) (h : DataW.Trod enc Try.prog w base spare held 51 v d p) : ∃ x : Mem, v = .agg #[.int .i64 x.num, .int .i64 x.grp, .int .i64 x.ses] ∧ (True) := by
  obtain ⟨cs, rfl, _⟩ := okWide_struct Try.underlying51 hv
  obtain ⟨fuel, hf⟩ := h
  obtain ⟨x, hx, hg⟩ := openMem fuel _ _ hf
  refine ⟨x, ?_, hg⟩
  have hx' : cs.toList = encMem x := hx
  rw [← Array.toArray_toList (xs := cs), hx']
  rfl
end
end Go.Proofs.Ytlmelknadappbaa
