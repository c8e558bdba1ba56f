/- Names: contract of the program's NameValid, and of alive. Condition: texts shorter than 2^63. -/
import Derived.Test.YtnibbldfohbfkaaQuiet
import Derived.Test.YtnibbldfohbfkaaInts
namespace Go.Proofs.Ytnibbldfohbfkaa
open Go.RowKit

def NameChar (k c : Nat) : Prop := (97 ≤ c ∧ c ≤ 122) ∨ (0 < k ∧ 48 ≤ c ∧ c ≤ 57)
def NameOk (s : ByteArray) : Prop := (∀ k, (h : k < s.size) → NameChar k s[k].toNat) ∧ 1 ≤ s.size ∧ s.size ≤ 8

set_option maxHeartbeats 1000000 in
theorem implNameValid (s : ByteArray) (w : World) (hs : s.size ≤ 9223372036854775807) : Calls Try.prog 23 #[.string s] w (RetB (NameOk s) w) := by
  go_enter Try.func23, Try.ntmps23
  go_wp2
  go_loopw [3, 6] (fun _ i wr => ∃ k : Nat, k ≤ s.size ∧ i = .int .i64 k ∧ (∀ j, (h : j < s.size) → j < k → NameChar j s[j].toNat) ∧ Ext w wr) (fun _ i _ => s.size - (intOf i).toNat)
  case atStart => exact ⟨0, Nat.zero_le _, rfl, fun _ _ h => absurd h (Nat.not_lt_zero _), Ext.refl _⟩
  case round =>
    obtain ⟨k, hk, rfl, hpre, hb⟩ := hrel
    have Hpre := Lib.hid hpre
    clear hpre
    by_cases hlt : k < s.size
    · have i0 : (0 : Int) ≤ (k : Int) := by omega
      have i1 : (k : Int) < (s.size : Int) := by omega
      have Hnext : Hid (NameChar k s[k].toNat → ∀ j, (h : j < s.size) → j < k + 1 → NameChar j s[j].toNat) := Lib.hid (fun hc j hj hjk => by
        rcases Nat.lt_succ_iff_lt_or_eq.1 hjk with h' | rfl
        · exact Hpre.out j hj h'
        · exact hc)
      have Hbad : Hid (¬ NameChar k s[k].toNat → ¬ NameOk s) := Lib.hid (fun hc h => hc (h.1 k hlt))
      have Hch : Hid (NameChar k s[k].toNat ↔ ((97 ≤ (s[k].toNat : Int) ∧ (s[k].toNat : Int) ≤ 122) ∨ (0 < k ∧ 48 ≤ (s[k].toNat : Int) ∧ (s[k].toNat : Int) ≤ 57))) := Lib.hid (by unfold NameChar; omega)
      by_cases h1 : 97 ≤ (s[k].toNat : Int) <;> by_cases h2 : (s[k].toNat : Int) ≤ 122 <;> by_cases h3 : 0 < k <;> by_cases h4 : 48 ≤ (s[k].toNat : Int) <;> by_cases h5 : (s[k].toNat : Int) ≤ 57
      all_goals first
        | omega
        | (have Hc := Lib.hid (Hch.out.2 (by omega))
           clear Hch
           go_wp2
           go_roundw
           case rel => exact ⟨k + 1, by omega, by go_num, Hnext.out Hc.out, hb⟩
           case measure => simp [intOf]; omega)
        | (have Hc := Lib.hid (Hbad.out (fun h => absurd (Hch.out.1 h) (by omega)))
           clear Hch
           go_wp2
           go_ret
           exact RetB.mk false rfl (by simp [Hc.out]) hb)
    · have hall : Hid (∀ j, (h : j < s.size) → NameChar j s[j].toNat) := Lib.hid (fun j hj => Hpre.out j hj (by omega))
      go_wp2_with (go_at_call 32; refine (within_any _ _ _ _).mono ?_; rintro e w' ⟨rfl, rfl⟩)
      go_ret
      exact RetB.mk _ rfl ⟨fun h => ⟨hall.out, by have := inB_iff.1 h; omega⟩, fun h => inB_iff.2 (by have := h.2; omega)⟩ hb

theorem nameA1 : NameOk ⟨#[97, 49]⟩ := by
  refine ⟨fun k h => ?_, by decide, by decide⟩
  match k, h with
  | 0, _ => exact .inl (show 97 ≤ 97 ∧ 97 ≤ 122 by decide)
  | 1, _ => exact .inr (show 0 < 1 ∧ 48 ≤ 49 ∧ 49 ≤ 57 by decide)
theorem name1A : ¬ NameOk ⟨#[49, 97]⟩ := by
  intro h
  rcases h.1 0 (by decide) with h | h
  · exact absurd (show 97 ≤ 49 from h.1) (by decide)
  · exact absurd h.1 (by decide)

set_option maxHeartbeats 1000000 in
theorem alive_any (w : World) : Calls Try.prog 11 #[] w (RetB True w) := by
  go_enter Try.func11, Try.ntmps11
  go_wp2_with fail
  refine (implNameValid _ _ (by decide)).mono ?_
  rintro e w1 ⟨b, rfl, hb, E⟩
  obtain rfl : b = true := hb.2 nameA1
  clear hb
  go_wp2_with fail
  refine (implNameValid _ _ (by decide)).mono ?_
  rintro e w2 ⟨b, rfl, hb, E2⟩
  obtain rfl : b = false := by
    cases b with
    | false => rfl
    | true => exact absurd (hb.1 rfl) name1A
  clear hb
  go_wp2
  go_ret
  exact RetB.mk true rfl (by simp) (E.trans E2)
end Go.Proofs.Ytnibbldfohbfkaa
