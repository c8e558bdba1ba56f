/- Views of slices: of what is owned, of its parts; the row's word for a code of bytes. No condition. -/
import Derived.Test.YtnibbldfohbfkaaDraw
namespace Go.Proofs.Ytnibbldfohbfkaa
open Go.RowKit

/-- What is owned, as a view: it lies at the beginning of a block, or is nil. -/
theorem view_owns {α : Type} {w : World} {base e nf : Nat} {enc : α → List Value} (hn : ∀ x, (enc x).length = nf) {v : Value} {l : List α} (h : w.ownsRow base e nf v l.length (l.flatMap enc)) :
    ∃ a cap, v = .slice a l.length cap ∧ l.length ≤ cap ∧ Rd nf enc w a l ∧ ((a = none ∧ l = [] ∧ cap = 0) ∨ ∃ g, a = some ⟨g, 0, none⟩ ∧ base ≤ g) := by
  obtain ⟨a, cap, hv, hr⟩ := rd_of_owns hn h rfl
  subst hv
  refine ⟨a, cap, rfl, ?_, hr, ?_⟩
  · rcases h.2 with ⟨h1, h2⟩ | ⟨g, cap', cur, h1, _, _, h2, _⟩
    · simp only [Value.slice.injEq] at h1; omega
    · simp only [Value.slice.injEq] at h1; omega
  · rcases h.2 with ⟨h1, h2⟩ | ⟨g, cap', cur, h1, hb, _, h2, _⟩
    · simp only [Value.slice.injEq] at h1
      exact .inl ⟨h1.1, List.eq_nil_of_length_eq_zero h1.2.1, h1.2.2⟩
    · simp only [Value.slice.injEq] at h1
      exact .inr ⟨g, h1.1, hb⟩
theorem Rd.drop {α : Type} {nf : Nat} {enc : α → List Value} {w : World} {b off : Nat} {l : List α} (h : Rd nf enc w (some ⟨b, off, none⟩) l) (k : Nat) : Rd nf enc w (some ⟨b, off + k * nf, none⟩) (l.drop k) := by
  intro i hi
  rw [List.length_drop] at hi
  obtain ⟨b', off', ha, hc⟩ := h (k + i) (by omega)
  simp only [Option.some.injEq, Addr.mk.injEq, and_true] at ha
  obtain ⟨rfl, rfl⟩ := ha
  refine ⟨b, off + k * nf, rfl, fun j u hu => ?_⟩
  rw [List.getElem_drop] at hu
  have := hc j u hu
  rwa [Nat.add_mul, ← Nat.add_assoc] at this
theorem Rd.nil {α : Type} {nf : Nat} {enc : α → List Value} {w : World} {a : Option Addr} : Rd nf enc w a ([] : List α) := fun i hi => by simp at hi
end Go.Proofs.Ytnibbldfohbfkaa
