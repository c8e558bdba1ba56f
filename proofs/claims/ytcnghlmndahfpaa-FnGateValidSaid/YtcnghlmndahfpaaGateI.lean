/- GateValid of the program: its contract. Condition: queues shorter than 2^63, within their capacity. -/
import Derived.Test.YtcnghlmndahfpaaGate
namespace Go.Proofs.Ytcnghlmndahfpaa
open Go.RowKit

set_option maxHeartbeats 4000000 in
theorem implGateValid (f : Int) (a : Option Addr) (cap : Nat) (l : List Int) (w : World) (hl : l.length ≤ 9223372036854775807) (hcap : l.length ≤ cap) (hc : Rd 1 encInt1 w a l) :
    Calls Try.prog 12 #[.agg #[.int .i64 f, .slice a l.length cap]] w (RetB (GateOk f l) w) := by
  have E := (Ext.refl w).alloc (.cells #[.int .i64 f, .slice a l.length cap] 27)
  have n0 := cell_new w #[.int .i64 f, .slice a l.length cap] 27 0 (.int .i64 f) rfl
  have n1 := cell_new w #[.int .i64 f, .slice a l.length cap] 27 1 (.slice a l.length cap) rfl
  go_enter Try.func12, Try.ntmps12
  go_upto_region 1 with fail
  generalize (w.alloc (.cells #[.int .i64 f, .slice a l.length cap] 27)) = w0 at *
  go_wp2
  go_loopw [3, 4, 8] (fun _ _ i wr => ∃ k : Nat, k ≤ l.length ∧ i = .int .i64 k ∧ (∀ j, j < k → WOkAt l j) ∧ Ext w0 wr) (fun _ _ i _ => l.length - (intOf i).toNat)
  case atStart => exact ⟨0, Nat.zero_le _, rfl, fun _ h => absurd h (Nat.not_lt_zero _), Ext.refl _⟩
  case round =>
    obtain ⟨k, hk, rfl, hpre, hb⟩ := hrel
    have Hpre := Lib.hid hpre
    have m0 := cell_ext hb n0
    have m1 := cell_ext hb n1
    clear hpre
    by_cases hlt : k < l.length
    · obtain ⟨x, b, off, hx, rfl, c0⟩ := atInt ((hc.ext E).ext hb) hlt
      have Hx := Lib.hid hx
      have i0 : (0 : Int) ≤ (k : Int) := by omega
      have i1 : (k : Int) < (l.length : Int) := by omega
      have i2 : (k : Int) ≤ (cap : Int) := by omega
      have hrk := ((hc.ext E).ext hb).take k
      have hlk : k = (l.take k).length := by rw [List.length_take]; omega
      have Hlk := Lib.hid hlk
      clear hx hlk
      go_wp2_with fail
      refine (isProcess_any x _).mono ?_
      rintro e w2 ⟨rfl, rfl⟩
      cases hin : inB x 1 99 with
      | false =>
        have Hbad : Hid (¬ ((1 ≤ x ∧ x ≤ 99) ∧ x ∉ l.take k)) := Lib.hid (fun h => by rw [inB_iff.2 h.1] at hin; cases hin)
        go_wp2
        go_ret
        exact RetB.mk false rfl (gate_bad Hx.out Hbad.out rfl) (E.trans hb)
      | true =>
        have Hok := Lib.hid (inB_iff.1 hin)
        go_wp2_with fail
        refine (hasInt_any _ _ k (l.take k) x wr Hlk.out (by have := Hlk.out; omega) hrk).mono ?_
        rintro e w3 ⟨b3, rfl, hb3, E3⟩
        have Hb3 := Lib.hid hb3
        clear hb3
        cases b3 with
        | true =>
          have Hbad : Hid (¬ ((1 ≤ x ∧ x ≤ 99) ∧ x ∉ l.take k)) := Lib.hid (fun h => h.2 (Hb3.out.1 rfl))
          go_wp2
          go_ret
          exact RetB.mk false rfl (gate_bad Hx.out Hbad.out rfl) (E.trans (hb.trans E3))
        | false =>
          have Hnext := Lib.hid (gate_next Hpre.out Hx.out ⟨Hok.out, fun h => Bool.noConfusion (Hb3.out.2 h)⟩)
          clear Hb3
          go_wp2
          go_roundw
          case rel => exact ⟨k + 1, by omega, by go_num, Hnext.out, hb.trans E3⟩
          case measure => simp [intOf]; omega
    · obtain rfl : k = l.length := by omega
      have hni : ¬ (l.length : Int) < (l.length : Int) := by omega
      have HG : Hid (GateOk f l ↔ (0 ≤ f ∧ f ≤ 9) ∧ l.length ≤ 8 ∧ (f = 0 ∨ l.length = 0)) := Lib.hid ⟨fun h => h.2, fun h => ⟨Hpre.out, h⟩⟩
      by_cases hf : 0 ≤ f ∧ f ≤ 9
      · have ein := inB_iff.2 hf
        have Hf := Lib.hid hf
        clear hf
        by_cases h8 : l.length ≤ 8
        · have t8 : (l.length : Int) ≤ 8 := by omega
          by_cases hz : f = 0
          · have tz : (f == 0) = true := by simpa using hz
            have Hok : Hid (GateOk f l) := Lib.hid (HG.out.2 ⟨Hf.out, h8, .inl hz⟩)
            clear hz
            go_wp2_with (go_at_call 31; refine ((within_any _ _ _ _).mono (fun e w2 h => by rw [ein] at h; exact h)).mono ?_; rintro e w' ⟨rfl, rfl⟩)
            go_ret
            exact RetB.mk true rfl (by simp [Hok.out]) (E.trans hb)
          · have tz : (f == 0) = false := by simpa using hz
            by_cases hl0 : l.length = 0
            · have tl : ((l.length : Int) == 0) = true := by simpa using hl0
              have Hok : Hid (GateOk f l) := Lib.hid (HG.out.2 ⟨Hf.out, h8, .inr hl0⟩)
              clear hz hl0
              go_wp2_with (go_at_call 31; refine ((within_any _ _ _ _).mono (fun e w2 h => by rw [ein] at h; exact h)).mono ?_; rintro e w' ⟨rfl, rfl⟩)
              go_ret
              exact RetB.mk true rfl (by simp [Hok.out]) (E.trans hb)
            · have tl : ((l.length : Int) == 0) = false := by simpa using hl0
              have Hno : Hid (¬ GateOk f l) := Lib.hid (fun h => by have h3 := (HG.out.1 h).2.2; omega)
              clear hz hl0
              go_wp2_with (go_at_call 31; refine ((within_any _ _ _ _).mono (fun e w2 h => by rw [ein] at h; exact h)).mono ?_; rintro e w' ⟨rfl, rfl⟩)
              go_ret
              exact RetB.mk false rfl (by simp [Hno.out]) (E.trans hb)
        · have t8 : (8 : Int) < (l.length : Int) := by omega
          have Hno : Hid (¬ GateOk f l) := Lib.hid (fun h => by have h3 := (HG.out.1 h).2.1; omega)
          clear h8
          go_wp2_with (go_at_call 31; refine ((within_any _ _ _ _).mono (fun e w2 h => by rw [ein] at h; exact h)).mono ?_; rintro e w' ⟨rfl, rfl⟩)
          go_ret
          exact RetB.mk false rfl (by simp [Hno.out]) (E.trans hb)
      · have ein := inB_false hf
        have Hno : Hid (¬ GateOk f l) := Lib.hid (fun h => hf h.2.1)
        clear hf
        go_wp2_with (go_at_call 31; refine ((within_any _ _ _ _).mono (fun e w2 h => by rw [ein] at h; exact h)).mono ?_; rintro e w' ⟨rfl, rfl⟩)
        go_ret
        exact RetB.mk false rfl (by simp [Hno.out]) (E.trans hb)
end Go.Proofs.Ytcnghlmndahfpaa
