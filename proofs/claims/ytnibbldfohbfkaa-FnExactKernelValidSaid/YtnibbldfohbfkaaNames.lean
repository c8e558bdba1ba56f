/- Names of the reference; the order of texts. Condition: texts shorter than 2^63. -/
import Derived.Test.YtnibbldfohbfkaaAlive
namespace Go.Proofs.Ytnibbldfohbfkaa
open Go.RowKit

theorem less_total : ∀ a b : List UInt8, (Op.bytesLess b a || b == a) = !(Op.bytesLess a b)
  | [], [] => by simp [Op.bytesLess]
  | [], y :: b => by simp [Op.bytesLess]
  | x :: a, [] => by simp [Op.bytesLess]
  | x :: a, y :: b => by
    have ih := less_total a b
    by_cases h1 : x < y
    · have h2 : ¬ y < x := UInt8.not_lt.2 (UInt8.le_of_lt h1)
      have h3 : y ≠ x := fun e => by subst e; exact absurd h1 (UInt8.lt_irrefl _)
      simp [Op.bytesLess, h1, h2, h3]
    · by_cases h2 : y < x
      · have h3 : x ≠ y := fun e => by subst e; exact absurd h2 (UInt8.lt_irrefl _)
        simp [Op.bytesLess, h1, h2, h3]
      · have h3 : x = y := UInt8.le_antisymm (UInt8.not_lt.1 h2) (UInt8.not_lt.1 h1)
        subst h3
        simpa [Op.bytesLess, UInt8.lt_irrefl] using ih

theorem less_cases (a b : List UInt8) : (Op.bytesLess a b = true ∧ Op.bytesLess b a = false ∧ (b == a) = false) ∨ (Op.bytesLess a b = false ∧ Op.bytesLess b a = true) ∨ (Op.bytesLess a b = false ∧ Op.bytesLess b a = false ∧ (b == a) = true) := by
  have h := less_total a b
  cases h1 : Op.bytesLess a b <;> cases h2 : Op.bytesLess b a <;> cases h3 : (b == a) <;> simp_all

set_option maxHeartbeats 1000000 in
theorem specNameValid (s : ByteArray) (w : World) (hs : s.size ≤ 9223372036854775807) : Calls Try.prog 38 #[.string s] w (RetB (NameOk s) w) := by
  go_enter Try.func38, Try.ntmps38
  go_wp2
  go_loopw [3, 4] (fun i _ wr => ∃ k : Nat, k ≤ s.size ∧ i = .int .i64 k ∧ (∀ j, (h : j < s.size) → j < k → NameChar j s[j].toNat) ∧ Ext w wr) (fun i _ _ => s.size - (intOf i).toNat)
  case atStart => exact ⟨0, Nat.zero_le _, rfl, fun _ _ h => absurd h (Nat.not_lt_zero _), Ext.refl _⟩
  case round =>
    obtain ⟨k, hk, rfl, hpre, hb⟩ := hrel
    have Hpre := Lib.hid hpre
    clear hpre
    by_cases hlt : k < s.size
    · have i0 : (0 : Int) ≤ (k : Int) := by omega
      have i1 : (k : Int) < (s.size : Int) := by omega
      have Hnext : Hid (NameChar k s[k].toNat → ∀ j, (h : j < s.size) → j < k + 1 → NameChar j s[j].toNat) := Lib.hid (fun hc j hj hjk => by
        rcases Nat.lt_succ_iff_lt_or_eq.1 hjk with h' | rfl
        · exact Hpre.out j hj h'
        · exact hc)
      have Hbad : Hid (¬ NameChar k s[k].toNat → ¬ NameOk s) := Lib.hid (fun hc h => hc (h.1 k hlt))
      have Hch : Hid (NameChar k s[k].toNat ↔ ((97 ≤ (s[k].toNat : Int) ∧ (s[k].toNat : Int) ≤ 122) ∨ (0 < k ∧ 48 ≤ (s[k].toNat : Int) ∧ (s[k].toNat : Int) ≤ 57))) := Lib.hid (by unfold NameChar; omega)
      rcases k with _ | m
      · by_cases h1 : 97 ≤ (s[0].toNat : Int) <;> by_cases h2 : (s[0].toNat : Int) ≤ 122
        all_goals first
          | (have Hc := Lib.hid (Hch.out.2 (by omega))
             clear Hch
             go_wp2
             all_goals first
               | (rename_i hq; exfalso; simp at hq; omega)
               | (go_roundw
                  case rel => exact ⟨0 + 1, by omega, by first | rfl | go_num, Hnext.out Hc.out, hb⟩
                  case measure => first | omega | (simp [intOf]; omega) | simp [intOf]))
          | (have Hc := Lib.hid (Hbad.out (fun h => absurd (Hch.out.1 h) (by omega)))
             clear Hch
             go_wp2
             all_goals first
               | (rename_i hq; exfalso; simp at hq; omega)
               | (go_ret
                  exact RetB.mk false rfl (by simp [Hc.out]) hb))
      · have tk : (((m : Int) + 1) == 0) = false := by simp; omega
        by_cases h1 : 97 ≤ (s[m + 1].toNat : Int) <;> by_cases h2 : (s[m + 1].toNat : Int) ≤ 122 <;> by_cases h4 : 48 ≤ (s[m + 1].toNat : Int) <;> by_cases h5 : (s[m + 1].toNat : Int) ≤ 57
        all_goals first
          | omega
          | (have Hc := Lib.hid (Hch.out.2 (by omega))
             clear Hch
             go_wp2
             all_goals first
               | (rename_i hq; exfalso; simp at hq; omega)
               | (go_roundw
                  case rel => exact ⟨m + 1 + 1, by omega, by go_num, Hnext.out Hc.out, hb⟩
                  case measure => first | omega | (simp [intOf]; omega) | simp [intOf]))
          | (have Hc := Lib.hid (Hbad.out (fun h => absurd (Hch.out.1 h) (by omega)))
             clear Hch
             go_wp2
             all_goals first
               | (rename_i hq; exfalso; simp at hq; omega)
               | (go_ret
                  exact RetB.mk false rfl (by simp [Hc.out]) hb))
    · have hall : Hid (∀ j, (h : j < s.size) → NameChar j s[j].toNat) := Lib.hid (fun j hj => Hpre.out j hj (by omega))
      go_wp2_with (go_at_call 25; refine (l1In_any _ _ _ _).mono ?_; rintro e w' ⟨rfl, rfl⟩)
      go_ret
      exact RetB.mk _ rfl ⟨fun h => ⟨hall.out, by have := inB_iff.1 h; omega⟩, fun h => inB_iff.2 (by have := h.2; omega)⟩ hb

def TextChar (c : Nat) : Prop := 32 ≤ c ∧ c ≤ 126 ∧ c ≠ 59
def TextOk (s : ByteArray) : Prop := (∀ k, (h : k < s.size) → TextChar s[k].toNat) ∧ s.size ≤ 16

end Go.Proofs.Ytnibbldfohbfkaa
