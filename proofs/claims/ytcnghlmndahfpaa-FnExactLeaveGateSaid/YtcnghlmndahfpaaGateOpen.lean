/- Gate: an argument of the law's own mirror type is read as a number and a list of numbers. No condition. -/
import Derived.Test.YtcnghlmndahfpaaRow
import Derived.Test.YtcnghlmndahfpaaIntS
namespace Go.Proofs.Ytcnghlmndahfpaa
open Go.ChangeShapes Go.WideShapes Go.ChangeAt Go.RowKit Go.Deep

theorem cellsGate : Try.prog.cellsOf 24 = 2 := by kernel_rfl
theorem cellsGint : Try.prog.cellsOf 3 = 1 := by kernel_rfl
theorem cellsGints : Try.prog.cellsOf 22 = 1 := by kernel_rfl

section
variable {H : Type} {enc : TypeId × Value → H} {w : World} {base : Nat} {spare : Nat → Bool} {held : Bool}
theorem openInt1 (n : Nat) (cs : List Value) (y : DataW H × List MemPlace) (h : DataW.trod enc Try.prog w base spare held n 3 cs = some y) : ∃ x : Int, cs = encInt1 x ∧ True := by
  obtain ⟨v, hv, _, _⟩ := DataW.trod_int Try.underlying3 h
  exact ⟨v, hv, trivial⟩
theorem openGateC (n : Nat) (cs : List Value) (y : DataW H × List MemPlace) (h : DataW.trod enc Try.prog w base spare held n 24 cs = some y) :
    ∃ f a cap, ∃ l : List Int, cs = [.int .i64 f, .slice a l.length cap] ∧ l.length ≤ 9223372036854775807 ∧ Rd 1 encInt1 w a l := by
  obtain ⟨xs, m, _, _, hl, hxl, hf⟩ := DataW.trod_struct Try.underlying24 h
  have hl3 : cs.length = 2 := hl.trans cellsGate
  have hx3 : xs.length = 2 := hxl
  match cs, hl3, xs, hx3 with
  | [c0, c1], _, [y0, y1], _ =>
    have e0 : DataW.trod enc Try.prog w base spare held m 3 (List.take (Try.prog.cellsOf 3) [c0, c1]) = some y0 := hf 0 _ rfl
    simp only [cellsGint, List.take_succ_cons, List.take_zero] at e0
    obtain ⟨v0, h0, _, _⟩ := DataW.trod_int Try.underlying3 e0
    simp only [List.cons.injEq, and_true] at h0
    subst h0
    have e1 : DataW.trod enc Try.prog w base spare held m 22 (List.take (Try.prog.cellsOf 22) [c1]) = some y1 := hf 1 _ rfl
    simp only [cellsGints, List.take_succ_cons, List.take_zero] at e1
    obtain ⟨a, cap, l, rfl, h1, _, h2⟩ := open_rd (encA := encInt1) (good := fun _ => True) Try.underlying22 cellsGint (by omega) encInt1_len openInt1 e1
    exact ⟨v0, a, cap, l, rfl, h1, h2⟩
theorem openGate {r : Reach} {b0 : Nat} {v : Value} {d : DataW H} {p : List MemPlace} (hv : Value.okWide Try.prog w r b0 24 v) (h : DataW.Trod enc Try.prog w base spare held 24 v d p) :
    ∃ f a cap, ∃ l : List Int, v = .agg #[.int .i64 f, .slice a l.length cap] ∧ l.length ≤ 9223372036854775807 ∧ Rd 1 encInt1 w a l := by
  obtain ⟨cs, rfl, _⟩ := okWide_struct Try.underlying24 hv
  obtain ⟨fuel, hf⟩ := h
  obtain ⟨f, a, cap, l, hx, h1, h2⟩ := openGateC fuel _ _ hf
  refine ⟨f, a, cap, l, ?_, h1, h2⟩
  have hx' : cs.toList = [.int .i64 f, .slice a l.length cap] := hx
  rw [← Array.toArray_toList (xs := cs), hx']
end
end Go.Proofs.Ytcnghlmndahfpaa
