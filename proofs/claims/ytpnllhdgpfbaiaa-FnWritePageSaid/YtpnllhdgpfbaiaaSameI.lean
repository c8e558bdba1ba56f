/- Lists of numbers compared by the laws' own words. Condition: shorter than 2^63. -/
import Derived.Test.YtpnllhdgpfbaiaaIntS
namespace Go.Proofs.Ytpnllhdgpfbaiaa
open Go.RowKit

set_option maxHeartbeats 2000000 in
theorem sameInts_any (a a' : Option Addr) (cap cap' : Nat) (l m : List Int) (w : World) (hl : l.length ≤ 9223372036854775807) (hm : m.length ≤ 9223372036854775807) (hc : Rd 1 encInt1 w a l) (hd : Rd 1 encInt1 w a' m) :
    Calls Try.prog 30 #[.slice a l.length cap, .slice a' m.length cap'] w (RetB (l = m) w) := by
  by_cases hlen : l.length = m.length
  · have ht : ((l.length : Int) != (m.length : Int)) = false := by simp; omega
    have Hlen := Lib.hid hlen
    clear hlen
    go_enter Try.func30, Try.ntmps30
    go_wp2
    go_loopw [5] (fun i wr => ∃ k : Nat, k ≤ l.length ∧ i = .int .i64 k ∧ (∀ j, j < k → l[j]? = m[j]?) ∧ Ext w wr) (fun i _ => l.length - (intOf i).toNat)
    case atStart => exact ⟨0, Nat.zero_le _, rfl, fun _ h => absurd h (Nat.not_lt_zero _), Ext.refl _⟩
    case round =>
      obtain ⟨k, hk, rfl, hpre, hb⟩ := hrel
      have Hpre := Lib.hid hpre
      clear hpre
      by_cases hlt : k < l.length
      · have hltm : k < m.length := by have := Hlen.out; omega
        obtain ⟨x, b, off, hx, rfl, c0⟩ := atInt (hc.ext hb) hlt
        obtain ⟨y, b', off', hy, rfl, d0⟩ := atInt (hd.ext hb) hltm
        have Hx := Lib.hid hx
        have Hy := Lib.hid hy
        clear hx hy ht
        by_cases hxy : x = y
        · have txy : (x != y) = false := by simpa using hxy
          have Hxy := Lib.hid hxy
          clear hxy
          go_wp2
          go_quiet (fail)
          go_wp2
          go_roundw
          case rel => exact ⟨k + 1, by omega, by go_num, fun j hj => (Nat.lt_succ_iff_lt_or_eq.1 hj).elim (Hpre.out j) (fun e => by rw [e, Hx.out, Hy.out, Hxy.out]), hb.drewN _⟩
          case measure => simp [intOf]; omega
        · have txy : (x != y) = true := by simpa using hxy
          have Hxy := Lib.hid hxy
          clear hxy
          go_wp2
          go_quiet (fail)
          go_wp2
          go_ret
          exact RetB.mk false rfl (by simp only [Bool.false_eq_true, false_iff]; intro h; subst h; have h1 := Hx.out; rw [Hy.out] at h1; cases h1; exact Hxy.out rfl) (hb.drewN _)
      · go_wp2
        go_ret
        exact RetB.mk true rfl (by simp only [true_iff]; exact extInt Hlen.out (fun j hj => Hpre.out j (by omega))) hb
  · have ht : ((l.length : Int) != (m.length : Int)) = true := by simp; omega
    have Hlen := Lib.hid hlen
    clear hlen
    go_enter Try.func30, Try.ntmps30
    go_wp2
    go_ret
    exact RetB.mk false rfl (by simp only [Bool.false_eq_true, false_iff]; intro h; exact Hlen.out (by rw [h])) (Ext.refl _)

end Go.Proofs.Ytpnllhdgpfbaiaa
