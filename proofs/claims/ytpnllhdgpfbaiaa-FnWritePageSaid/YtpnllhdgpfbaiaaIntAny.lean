/- slices.IndexFunc and slices.ContainsFunc on slices of numbers, for a function value whose contract is given. No condition. -/
import Derived.Test.YtpnllhdgpfbaiaaIntS
namespace Go.Proofs.Ytpnllhdgpfbaiaa
open Go.RowKit

set_option maxHeartbeats 1000000 in
theorem idxInt_fn (a : Option Addr) (cap n : Nat) (l : List Int) (w : World) (fn : FuncId) (caps : Array Value) (T : Int → Prop) (hn : n = l.length) (hl : l.length ≤ 9223372036854775807) (hc : Rd 1 encInt1 w a l)
    (hcf : ∀ args w, (callFunc fn args).run Try.prog w = .ok (.enter fn args) w) (hfn : ∀ x w', Ext w w' → Calls Try.prog fn (#[.int .i64 x] ++ caps) w' (RetB (T x) w')) :
    Calls Try.prog 62 #[.slice a n cap, .func (.func fn) #[] caps] w (RetV (fun v _ => ∃ r : Int, v = .int .i64 r ∧ -1 ≤ r ∧ r < n ∧ (∀ (j : Nat) x, (j : Int) < r → l[j]? = some x → ¬ T x) ∧ (0 ≤ r → ∃ x, l[r.toNat]? = some x ∧ T x) ∧ (r < 0 → ∀ (j : Nat) x, l[j]? = some x → ¬ T x)) w) := by
  subst hn
  go_enter Try.func62, Try.ntmps62
  go_wp2
  go_loopw [5, 8] (fun _ i wr => ∃ k : Nat, k ≤ l.length ∧ i = .int .i64 k ∧ (∀ (j : Nat) x, j < k → l[j]? = some x → ¬ T x) ∧ Ext w wr) (fun _ i _ => l.length - (intOf i).toNat)
  case atStart => exact ⟨0, Nat.zero_le _, rfl, fun _ _ h => absurd h (Nat.not_lt_zero _), Ext.refl _⟩
  case round =>
    obtain ⟨k, hk, rfl, hpre, hb⟩ := hrel
    have Hpre := Lib.hid hpre
    clear hpre
    by_cases hlt : k < l.length
    · obtain ⟨x, b, off, hx, rfl, c0⟩ := atInt (hc.ext hb) hlt
      have Hx := Lib.hid hx
      clear hx
      go_wp2_with (refine (hfn x _ hb).mono ?_; rintro e w2 ⟨b0, rfl, he, hb2⟩; have He := Lib.hid he; clear he)
      · have hb0 : b0 = true := by assumption
        go_ret
        exact RetV.mk ⟨_, rfl, by omega, by omega, fun j y hj hy => Hpre.out j y (by omega) hy, fun _ => ⟨x, Hx.out, He.out.1 hb0⟩, fun h => absurd h (by omega)⟩ (hb.trans hb2)
      · have hb0 : b0 = false := by assumption
        go_roundw
        case rel =>
          refine ⟨k + 1, by omega, by go_num, fun j y hj hy hT => ?_, hb.trans hb2⟩
          rcases Nat.lt_succ_iff_lt_or_eq.1 hj with h' | rfl
          · exact Hpre.out j y h' hy hT
          · have h1 := Hx.out
            rw [hy] at h1; cases h1
            rw [He.out.2 hT] at hb0; cases hb0
        case measure => simp [intOf]; omega
    · go_wp2
      go_ret
      have hlen : ∀ j y, l[j]? = some y → j < k := fun j y hy => by have := (List.getElem?_eq_some_iff.1 hy).1; omega
      exact RetV.mk ⟨_, rfl, by omega, by omega, fun j y hj hy => absurd hj (by omega), fun h => absurd h (by omega), fun _ j y hy => Hpre.out j y (hlen j y hy) hy⟩ hb

set_option maxHeartbeats 1000000 in
theorem hasInt_fn (a : Option Addr) (cap n : Nat) (l : List Int) (w : World) (fn : FuncId) (caps : Array Value) (T : Int → Prop) (hn : n = l.length) (hl : l.length ≤ 9223372036854775807) (hc : Rd 1 encInt1 w a l)
    (hcf : ∀ args w, (callFunc fn args).run Try.prog w = .ok (.enter fn args) w) (hfn : ∀ x w', Ext w w' → Calls Try.prog fn (#[.int .i64 x] ++ caps) w' (RetB (T x) w')) :
    Calls Try.prog 44 #[.slice a n cap, .func (.func fn) #[] caps] w (RetB (∃ (j : Nat) (x : Int), l[j]? = some x ∧ T x) w) := by
  subst hn
  go_enter Try.func44, Try.ntmps44
  go_wp2_with (go_at_call 62; refine (idxInt_fn a cap _ l _ fn caps T rfl hl hc hcf hfn).mono ?_; rintro e w2 ⟨v, rfl, ⟨r, rfl, hr⟩, hb2⟩; have Hr := Lib.hid hr; clear hr)
  go_ret
  refine RetB.mk (decide (0 ≤ r)) rfl ?_ hb2
  obtain ⟨h1, h2, h3, h4, h5⟩ := Hr.out
  rw [decide_eq_true_eq]
  constructor
  · intro h
    obtain ⟨x, hx, ht⟩ := h4 h
    exact ⟨_, x, hx, ht⟩
  · rintro ⟨j, x, hx, ht⟩
    rcases Int.lt_or_le r 0 with h | h
    · exact absurd ht (h5 h j x hx)
    · exact h
end Go.Proofs.Ytpnllhdgpfbaiaa
