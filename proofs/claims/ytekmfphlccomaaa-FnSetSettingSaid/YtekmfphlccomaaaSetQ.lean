/- SetSetting: the contract of the reference's, ended with what is owned. Condition: texts shorter than 2^63. -/
import Derived.Test.YtekmfphlccomaaaSetE
import Derived.Test.YtekmfphlccomaaaSetMark
import Derived.Test.YtekmfphlccomaaaOwnCap
namespace Go.Proofs.Ytekmfphlccomaaa
open Go.RowKit

theorem owns_shape {α : Type} {w : World} {base e nf : Nat} {enc : α → List Value} (hn : ∀ x, (enc x).length = nf) {a : Option Addr} {cap : Nat} {l : List α} (h : w.ownsRow base e nf (.slice a l.length cap) l.length (l.flatMap enc)) : (a = none ∧ l = [] ∧ cap = 0) ∨ ∃ g, a = some ⟨g, 0, none⟩ := by
  obtain ⟨a', cap', hv, _, _, hsh⟩ := view_owns hn h
  simp only [Value.slice.injEq, true_and] at hv
  obtain ⟨rfl, rfl⟩ := hv
  rcases hsh with h | ⟨g, h, _⟩
  · exact .inl h
  · exact .inr ⟨g, h⟩
theorem specSetSettingS (a : Option Addr) (cap : Nat) (l : List Set) (nm tx : ByteArray) (w : World) (hl : l.length ≤ 9223372036854775807) (hs : FitsS l) (hn : nm.size ≤ 9223372036854775807) (ht : tx.size ≤ 9223372036854775807) (hcap : l.length ≤ cap)
    (hshape : (a = none ∧ l = [] ∧ cap = 0) ∨ ∃ g, a = some ⟨g, 0, none⟩) (hc : Rd 2 encSet w a l) :
    Calls Try.prog 19 #[.slice a l.length cap, .string nm, .string tx] w fun e w' => ∃ u L ok, e = .returned (.tuple #[u, .bool ok]) ∧ SetSR l nm tx L ok ∧ Sep w w' [plRow 33 2 encSet u L] :=
  (specSetSettingR a cap l nm tx w hl hs hn ht hcap hshape hc).mono fun _ _ ⟨v, L, ok, h, hR, ho, hE⟩ => ⟨v, L, ok, h, hR, Sep.of_owns hE ho⟩
end Go.Proofs.Ytekmfphlccomaaa
