/- Messages: when they are valid; contracts of MailsValid. No condition but that the list is shorter than 2^63. -/
import Derived.Test.YtlbnfnfaojjpaaaMailFam
namespace Go.Proofs.Ytlbnfnfaojjpaaa
open Go.RowKit

def okMail (x : Mail) : Prop := (1 ≤ x.kind ∧ x.kind ≤ 9) ∧ x.text.size ≤ 16
def MailsOk (l : List Mail) : Prop := (∀ (k : Nat) (x : Mail), l[k]? = some x → okMail x) ∧ l.length ≤ 8

theorem mails_bad {l : List Mail} {k : Nat} {x : Mail} (hx : l[k]? = some x) (h : ¬ okMail x) {b : Bool} (hb : b = false) : b = true ↔ MailsOk l := by
  subst hb
  simp only [Bool.false_eq_true, false_iff]
  exact fun hr => h (hr.1 k x hx)
theorem mails_next {l : List Mail} {k : Nat} {x : Mail} (h : ∀ j, j < k → ∀ y, l[j]? = some y → okMail y) (hx : l[k]? = some x) (hk : okMail x) : ∀ j, j < k + 1 → ∀ y, l[j]? = some y → okMail y := by
  intro j hj y hy
  rcases Nat.lt_succ_iff_lt_or_eq.1 hj with h' | rfl
  · exact h j h' y hy
  · rw [hx] at hy; cases hy; exact hk
theorem mails_end {l : List Mail} {k : Nat} (h : ∀ j, j < k → ∀ y, l[j]? = some y → okMail y) (hk : l.length ≤ k) {b : Bool} (hb : b = decide (l.length ≤ 8)) : b = true ↔ MailsOk l := by
  subst hb
  simp only [decide_eq_true_eq]
  exact ⟨fun h8 => ⟨fun j y hy => h j (by have := (List.getElem?_eq_some_iff.1 hy).1; omega) y hy, h8⟩, fun hr => hr.2⟩

set_option maxHeartbeats 1000000 in
theorem specMailsValid (a : Option Addr) (cap : Nat) (l : List Mail) (w : World) (hl : l.length ≤ 9223372036854775807) (hc : Rd 2 encMail w a l) :
    Calls Try.prog 11 #[.slice a l.length cap] w (RetB (MailsOk l) w) := by
  go_enter Try.func11, Try.ntmps11
  go_wp2
  go_loopw [3] (fun i wr => ∃ k : Nat, k ≤ l.length ∧ i = .int .i64 k ∧ (∀ j, j < k → ∀ y, l[j]? = some y → okMail y) ∧ Ext w wr) (fun i _ => l.length - (intOf i).toNat)
  case atStart => exact ⟨0, Nat.zero_le _, rfl, fun _ h => absurd h (Nat.not_lt_zero _), Ext.refl _⟩
  case round =>
    obtain ⟨k, hk, rfl, hpre, hb⟩ := hrel
    have Hpre := Lib.hid hpre
    clear hpre
    by_cases hlt : k < l.length
    · obtain ⟨x, b, off, hx, rfl, c0, c1⟩ := atMail (hc.ext hb) hlt
      have Hx := Lib.hid hx
      clear hx
      by_cases hok : okMail x
      · obtain ⟨⟨h1, h2⟩, h3⟩ := hok
        have e1 : inB x.kind 1 9 = true := inB_iff.2 ⟨h1, h2⟩
        go_wp2_with (go_at_call 33; refine (l1In_any _ _ _ _).mono ?_; rintro e w' ⟨rfl, rfl⟩)
        go_roundw
        case rel => exact ⟨k + 1, by omega, by go_num, mails_next Hpre.out Hx.out ⟨⟨h1, h2⟩, h3⟩, hb⟩
        case measure => simp [intOf]; omega
      · by_cases h1 : 1 ≤ x.kind ∧ x.kind ≤ 9
        · have e1 := inB_iff.2 h1
          have h3 : 16 < x.text.size := by unfold okMail at hok; omega
          go_wp2_with (go_at_call 33; refine (l1In_any _ _ _ _).mono ?_; rintro e w' ⟨rfl, rfl⟩)
          go_ret
          exact RetB.mk _ rfl (mails_bad Hx.out hok rfl) hb
        · have e1 := inB_false h1
          go_wp2_with (go_at_call 33; refine (l1In_any _ _ _ _).mono ?_; rintro e w' ⟨rfl, rfl⟩)
          go_ret
          exact RetB.mk _ rfl (mails_bad Hx.out hok rfl) hb
    · go_wp2
      go_ret
      exact RetB.mk _ rfl (mails_end Hpre.out (by omega) (by simp; omega)) hb

set_option maxHeartbeats 1000000 in
theorem mailBad_any (x : Mail) (w : World) : Calls Try.prog 31 #[.agg #[.int .i64 x.kind, .string x.text]] w (RetB (¬ okMail x) w) := by
  by_cases h1 : 1 ≤ x.kind ∧ x.kind ≤ 9
  · have e1 := inB_iff.2 h1
    go_enter Try.func31, Try.ntmps31
    go_wp2_with (go_at_call 32; refine (within_any _ _ _ _).mono ?_; rintro e w' ⟨rfl, rfl⟩)
    go_ret
    exact RetB.mk (decide (16 < x.text.size)) (by simp; omega) (by simp [okMail, h1]) ((Ext.refl _).alloc _)
  · have e1 := inB_false h1
    go_enter Try.func31, Try.ntmps31
    go_wp2_with (go_at_call 32; refine (within_any _ _ _ _).mono ?_; rintro e w' ⟨rfl, rfl⟩)
    go_ret
    exact RetB.mk true rfl (by simp only [true_iff]; unfold okMail; omega) ((Ext.refl _).alloc _)

set_option maxHeartbeats 1000000 in
theorem idxMail_any (a : Option Addr) (cap : Nat) (l : List Mail) (w : World) (hl : l.length ≤ 9223372036854775807) (hc : Rd 2 encMail w a l) :
    Calls Try.prog 42 #[.slice a l.length cap, .func (.func 31) #[] #[]] w (RetV (fun v _ => ∃ r : Int, v = .int .i64 r ∧ (0 ≤ r ↔ ∃ (j : Nat) (x : Mail), l[j]? = some x ∧ ¬ okMail x)) w) := by
  go_enter Try.func42, Try.ntmps42
  go_wp2
  go_loopw [5, 8] (fun _ i wr => ∃ k : Nat, k ≤ l.length ∧ i = .int .i64 k ∧ (∀ j, j < k → ∀ y, l[j]? = some y → okMail y) ∧ Ext w wr) (fun _ i _ => l.length - (intOf i).toNat)
  case atStart => exact ⟨0, Nat.zero_le _, rfl, fun _ h => absurd h (Nat.not_lt_zero _), Ext.refl _⟩
  case round =>
    obtain ⟨k, hk, rfl, hpre, hb⟩ := hrel
    have Hpre := Lib.hid hpre
    clear hpre
    by_cases hlt : k < l.length
    · obtain ⟨x, b, off, hx, rfl, c0, c1⟩ := atMail (hc.ext hb) hlt
      have Hx := Lib.hid hx
      clear hx
      go_wp2_with (go_at_call 31; refine (mailBad_any x _).mono ?_; rintro e w2 ⟨b0, rfl, he, hb2⟩; have He := Lib.hid he; clear he)
      · have hb0 : b0 = true := by assumption
        go_ret
        exact RetV.mk ⟨_, rfl, by simp only [Int.natCast_nonneg, true_iff]; exact ⟨k, x, Hx.out, He.out.1 hb0⟩⟩ (hb.trans hb2)
      · have hb0 : b0 = false := by assumption
        go_roundw
        case rel => exact ⟨k + 1, by omega, by go_num, mails_next Hpre.out Hx.out (Classical.byContradiction fun h => by rw [He.out.2 h] at hb0; cases hb0), hb.trans hb2⟩
        case measure => simp [intOf]; omega
    · go_wp2
      go_ret
      exact RetV.mk ⟨_, rfl, by simp; exact fun j x hx => Hpre.out j (by have := (List.getElem?_eq_some_iff.1 hx).1; omega) x hx⟩ hb

set_option maxHeartbeats 1000000 in
theorem anyMail_any (a : Option Addr) (cap : Nat) (l : List Mail) (w : World) (hl : l.length ≤ 9223372036854775807) (hc : Rd 2 encMail w a l) :
    Calls Try.prog 30 #[.slice a l.length cap, .func (.func 31) #[] #[]] w (RetB (∃ (j : Nat) (x : Mail), l[j]? = some x ∧ ¬ okMail x) w) := by
  go_enter Try.func30, Try.ntmps30
  go_wp2_with (go_at_call 42; refine (idxMail_any _ _ l _ hl hc).mono ?_; rintro e w2 ⟨v, rfl, ⟨r, rfl, hr⟩, hb2⟩; have Hr := Lib.hid hr; clear hr)
  go_ret
  exact RetB.mk (decide (0 ≤ r)) rfl (by rw [decide_eq_true_eq]; exact Hr.out) hb2

set_option maxHeartbeats 1000000 in
theorem implMailsValid (a : Option Addr) (cap : Nat) (l : List Mail) (w : World) (hl : l.length ≤ 9223372036854775807) (hc : Rd 2 encMail w a l) :
    Calls Try.prog 10 #[.slice a l.length cap] w (RetB (MailsOk l) w) := by
  by_cases h8 : l.length ≤ 8
  · go_enter Try.func10, Try.ntmps10
    go_wp2_with (go_at_call 30; refine (anyMail_any _ _ l _ hl hc).mono ?_; rintro e w2 ⟨b0, rfl, he, hb2⟩; have He := Lib.hid he; clear he)
    go_ret
    refine RetB.mk (!b0) rfl ?_ hb2
    have h := He.out
    unfold MailsOk
    cases b0
    · simp only [Bool.not_false, true_iff]
      exact ⟨fun k x hx => Classical.byContradiction fun hn => Bool.noConfusion (h.2 ⟨k, x, hx, hn⟩), h8⟩
    · simp only [Bool.not_true, Bool.false_eq_true, false_iff]
      obtain ⟨j, x, hx, hn⟩ := h.1 rfl
      exact fun hr => hn (hr.1 j x hx)
  · go_enter Try.func10, Try.ntmps10
    go_wp2_with fail
    go_ret
    exact RetB.mk false rfl (by simp only [Bool.false_eq_true, false_iff]; exact fun hr => h8 hr.2) (Ext.refl _)
end Go.Proofs.Ytlbnfnfaojjpaaa
