/- A code of bytes, as an argument: read as a list of numbers in 0..255; its length is at most its capacity. No condition. -/
import Derived.Test.YtnibbldfohbfkaaRow
import Derived.Test.YtnibbldfohbfkaaDraw
namespace Go.Proofs.Ytnibbldfohbfkaa
open Go.ChangeShapes Go.WideShapes Go.ChangeAt Go.RowKit Go.Deep

section
variable {H : Type} {enc : TypeId × Value → H} {w : World} {base : Nat} {spare : Nat → Bool} {held : Bool}
theorem openU8 (n : Nat) (cs : List Value) (y : DataW H × List MemPlace) (h : DataW.trod enc Try.prog w base spare held n 5 cs = some y) : ∃ x : Int, cs = encU8 x ∧ (0 ≤ x ∧ x ≤ 255) := by
  obtain ⟨v, hv, _, h2⟩ := DataW.trod_int Try.underlying5 h
  refine ⟨v, hv, ?_⟩
  simp [Lit.wf] at h2
  have h3 : IntKind.u8.min = 0 := by decide
  have h4 : IntKind.u8.max = 255 := by decide
  omega
theorem trod_cap {P : Program} {t e : TypeId} {a : Option Addr} {len cap : Nat} {d : DataW H} {p : List MemPlace} (ht : P.underlying t = some (.slice e)) (h : DataW.Trod enc P w base spare held t (.slice a len cap) d p) : len ≤ cap := by
  obtain ⟨fuel, hf⟩ := h
  rcases open_slice ht hf with ⟨hcs, _⟩ | ⟨a', len', cap', m, n, D, Pl, hcs, hb, hl, hm, hmm, hx, hi⟩
  · injection hcs with h1 h2
    injection h1
    omega
  · injection hcs with h1 h2
    injection h1
    omega
end
end Go.Proofs.Ytnibbldfohbfkaa
