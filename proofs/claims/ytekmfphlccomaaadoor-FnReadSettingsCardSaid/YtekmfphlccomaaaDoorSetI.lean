/- SettingsValid of the program: its contract. Condition: lists and texts shorter than 2^63. -/
import Derived.Test.YtekmfphlccomaaaDoorSetV
import Derived.Test.YtekmfphlccomaaaDoorDraw
namespace Go.Proofs.YtekmfphlccomaaaDoor
open Go.RowKit

set_option maxHeartbeats 4000000 in
theorem settingValid_any (x : Set) (w : World) (h1 : x.name.size ≤ 9223372036854775807) (h2 : x.text.size ≤ 9223372036854775807) :
    Calls Tryd.prog 32 #[.agg #[.string x.name, .string x.text]] w (RetB (okSet x) w) := by
  have E := (Ext.refl w).alloc (.cells #[.string x.name, .string x.text] 40)
  have n0 := cell_new w #[.string x.name, .string x.text] 40 0 (.string x.name) rfl
  have n1 := cell_new w #[.string x.name, .string x.text] 40 1 (.string x.text) rfl
  go_enter Tryd.func32, Tryd.ntmps32
  go_upto_region 1 with fail
  generalize (w.alloc (.cells #[.string x.name, .string x.text] 40)) = w0 at *
  obtain ⟨s, hs⟩ : ∃ s, s = x.text := ⟨_, rfl⟩
  have HS : Hid (okSet x ↔ NameOk x.name ∧ TextOk s) := Lib.hid (by rw [hs]; rfl)
  rw [← hs] at n1 h2
  clear hs
  go_wp2
  go_loopw [3, 7] (fun _ i wr => ∃ k : Nat, k ≤ s.size ∧ i = .int .i64 k ∧ (∀ j, (h : j < s.size) → j < k → TextChar s[j].toNat) ∧ Ext w0 wr) (fun _ i _ => s.size - (intOf i).toNat)
  case atStart => exact ⟨0, Nat.zero_le _, rfl, fun _ _ h => absurd h (Nat.not_lt_zero _), Ext.refl _⟩
  case round =>
    obtain ⟨k, hk, rfl, hpre, hb⟩ := hrel
    have Hpre := Lib.hid hpre
    have m0 := cell_ext hb n0
    have m1 := cell_ext hb n1
    clear hpre
    by_cases hlt : k < s.size
    · have i0 : (0 : Int) ≤ (k : Int) := by omega
      have i1 : (k : Int) < (s.size : Int) := by omega
      have Hnext : Hid (TextChar s[k].toNat → ∀ j, (h : j < s.size) → j < k + 1 → TextChar s[j].toNat) := Lib.hid (fun hc j hj hjk => by
        rcases Nat.lt_succ_iff_lt_or_eq.1 hjk with h' | rfl
        · exact Hpre.out j hj h'
        · exact hc)
      have Hbad : Hid (¬ TextChar s[k].toNat → ¬ okSet x) := Lib.hid (fun hc h => hc ((HS.out.1 h).2.1 k hlt))
      have Hch : Hid (TextChar s[k].toNat ↔ ((32 ≤ (s[k].toNat : Int) ∧ (s[k].toNat : Int) ≤ 126) ∧ (s[k].toNat : Int) ≠ 59)) := Lib.hid (by unfold TextChar; omega)
      have hw1 : IntKind.i64.wrap (s[k].toNat : Int) = (s[k].toNat : Int) := IntWalk.i64_in _ (by have := s[k].toNat_lt; omega)
      have hw2 : wrap64 (s[k].toNat : Int) = (s[k].toNat : Int) := by first | exact hw1 | simpa using hw1 | (have := s[k].toNat_lt; unfold wrap64; omega)
      go_wp2_with fail
      refine (within_any _ _ _ _).mono ?_
      rintro e w' ⟨rfl, rfl⟩
      cases hin : inB (s[k].toNat : Int) 32 126 with
      | false =>
        have Hc := Lib.hid (Hbad.out (fun h => by rw [inB_iff.2 (Hch.out.1 h).1] at hin; cases hin))
        clear Hch
        go_wp2
        go_ret
        exact RetB.mk false rfl (by simp [Hc.out]) (E.trans hb)
      | true =>
        by_cases h3 : (s[k].toNat : Int) = 59
        · have Hc := Lib.hid (Hbad.out (fun h => (Hch.out.1 h).2 h3))
          have t3 : ((s[k].toNat : Int) == 59) = true := by simpa using h3
          clear Hch h3
          go_wp2
          go_ret
          exact RetB.mk false rfl (by simp [Hc.out]) (E.trans hb)
        · have Hc := Lib.hid (Hch.out.2 ⟨inB_iff.1 hin, h3⟩)
          have t3 : ((s[k].toNat : Int) == 59) = false := by simpa using h3
          clear Hch h3
          go_wp2
          go_roundw
          case rel => exact ⟨k + 1, by omega, by go_num, Hnext.out Hc.out, hb⟩
          case measure => simp [intOf]; omega
    · have hall : Hid (∀ j, (h : j < s.size) → TextChar s[j].toNat) := Lib.hid (fun j hj => Hpre.out j hj (by omega))
      go_wp2_with fail
      refine (implNameValid _ _ h1).mono ?_
      rintro e w3 ⟨b3, rfl, hb3, E3⟩
      have Hb3 := Lib.hid hb3
      clear hb3
      replace m1 := cell_ext E3 m1
      cases b3 with
      | false =>
        have Hno : Hid (¬ okSet x) := Lib.hid (fun h => Bool.noConfusion (Hb3.out.2 (HS.out.1 h).1))
        clear Hb3
        go_wp2
        go_ret
        exact RetB.mk false rfl (by simp [Hno.out]) (E.trans (hb.trans E3))
      | true =>
        have Hn := Lib.hid (Hb3.out.1 rfl)
        clear Hb3
        by_cases h16 : s.size ≤ 16
        · have h16i : (s.size : Int) ≤ 16 := by omega
          have Hok : Hid (okSet x) := Lib.hid (HS.out.2 ⟨Hn.out, hall.out, h16⟩)
          go_wp2
          go_ret
          exact RetB.mk true (by simp [h16]) (by simp [Hok.out]) (E.trans (hb.trans E3))
        · have h16i : (16 : Int) < (s.size : Int) := by omega
          have Hno : Hid (¬ okSet x) := Lib.hid (fun h => h16 (HS.out.1 h).2.2)
          go_wp2
          go_ret
          exact RetB.mk false (by simp; omega) (by simp [Hno.out]) (E.trans (hb.trans E3))

set_option maxRecDepth 10000 in
set_option maxHeartbeats 8000000 in
theorem implSettingsValid (a : Option Addr) (cap : Nat) (l : List Set) (w : World) (hl : l.length ≤ 9223372036854775807) (hs : FitsS l) (hc : Rd 2 encSet w a l) :
    Calls Tryd.prog 20 #[.slice a l.length cap] w (RetB (SetsOk l) w) := by
  have Hs := Lib.hid hs
  clear hs
  go_enter Tryd.func20, Tryd.ntmps20
  go_wp2
  go_loopw [3, 4, 7] (fun _ _ i wr => ∃ k : Nat, k ≤ l.length ∧ i = .int .i64 k ∧ (∀ j, j < k → SOkAt l j) ∧ Ext w wr) (fun _ _ i _ => l.length - (intOf i).toNat)
  case atStart => exact ⟨0, Nat.zero_le _, rfl, fun _ h => absurd h (Nat.not_lt_zero _), Ext.refl _⟩
  case round =>
    obtain ⟨k, hk, rfl, hpre, hb⟩ := hrel
    have Hpre := Lib.hid hpre
    clear hpre
    by_cases hlt : k < l.length
    rotate_left
    · obtain rfl : k = l.length := by omega
      have hni : ¬ (l.length : Int) < (l.length : Int) := by omega
      by_cases h8 : l.length ≤ 8
      · have h8i : (l.length : Int) ≤ 8 := by omega
        have Hok : Hid (SetsOk l) := Lib.hid ⟨Hpre.out, h8⟩
        go_wp2
        go_ret
        exact RetB.mk true (by simp [h8]) (by simp [Hok.out]) hb
      · have h8i : (8 : Int) < (l.length : Int) := by omega
        have Hno : Hid (¬ SetsOk l) := Lib.hid (fun h => h8 h.2)
        go_wp2
        go_ret
        exact RetB.mk false (by simp; omega) (by simp [Hno.out]) hb
    · obtain ⟨x, b, off, hx, rfl, c0, c1⟩ := atSet (hc.ext hb) hlt
      have Hx := Lib.hid hx
      obtain ⟨z0, z1⟩ := Hs.out x (List.mem_of_getElem? hx)
      have i0 : (0 : Int) ≤ (k : Int) := by omega
      have i1 : (k : Int) < (l.length : Int) := by omega
      have E2 := (Ext.refl wr).alloc (.cells #[.string x.name, .string x.text] 40)
      have n0 := cell_new wr #[.string x.name, .string x.text] 40 0 (.string x.name) rfl
      have n1 := cell_new wr #[.string x.name, .string x.text] 40 1 (.string x.text) rfl
      have Z0 := Lib.hid z0
      have Z1 := Lib.hid z1
      clear hx z0 z1
      go_upto_region 4 with fail
      generalize (wr.alloc (.cells #[.string x.name, .string x.text] 40)) = wa at *
      clear c0 c1
      have hb2 := hb.trans E2
      have m0 := ExtW.cell n0
      have m1 := ExtW.cell n1
      have bm := ExtW.lt n0
      clear n0 n1
      by_cases hN : okSet x
      rotate_left
      · have HN := Lib.hid hN
        have Hbad := Lib.hid (sets_bad (b := false) Hx.out hN rfl)
        clear hN
        (refine wp_region_quiet_ext (by kernel_rfl) (by kernel_rfl) ?_; (repeat (go_big_quiet_step ((go_at_call 32; exact Calls.at_b (T := okSet x) false (by simp [HN.out]) (settingValid_any x _ Z0.out Z1.out))))); refine wpQuiet_nil ?_; intro _ hw'; obtain ⟨sq, hw''⟩ := hw'; subst hw'')
        obtain ⟨w3, hw3⟩ := sq
        go_wp2
        go_ret
        exact RetB.mk false rfl Hbad.out (hb2.trans hw3)
      · have HN := Lib.hid hN
        clear hN
        rcases k with _ | m
        · have Hnext := Lib.hid (sets_next0 Hx.out HN.out)
          (refine wp_region_quiet_ext (by kernel_rfl) (by kernel_rfl) ?_; (repeat (go_big_quiet_step ((go_at_call 32; exact Calls.at_b (T := okSet x) true (by simp [HN.out]) (settingValid_any x _ Z0.out Z1.out))))); refine wpQuiet_nil ?_; intro _ hw'; obtain ⟨sq, hw''⟩ := hw'; subst hw'')
          obtain ⟨w3, hw3⟩ := sq
          go_wp2
          go_roundw
          case rel => exact ⟨0 + 1, by omega, by first | rfl | go_num, Hnext.out, hb2.trans hw3⟩
          case measure => first | omega | (simp [intOf]; omega) | simp [intOf]
        · obtain ⟨p, b', off', hp, ha, d0, d1⟩ := atSet (hc.ext hb2) (show m < l.length by omega)
          obtain ⟨rfl, rfl⟩ : b = b' ∧ off = off' := by simpa using ha
          have Hp := Lib.hid hp
          have p0 := ExtW.cell d0
          have bl := ExtW.lt d0
          have s1 : IntKind.i64.wrap (m : Int) = (m : Int) := IntWalk.i64_in _ (by omega)
          have j0 : (0 : Int) ≤ (m : Int) := by omega
          have j1 : (m : Int) < (l.length : Int) := by omega
          have tk : (0 : Int) < ((m : Int) + 1) := by omega
          clear d0 d1 hp ha
          cases hlt2 : Op.bytesLess p.name.toList x.name.toList with
          | true =>
            have Hnext := Lib.hid (sets_next Hpre.out Hx.out Hp.out HN.out hlt2)
            (refine wp_region_quiet_ext (by kernel_rfl) (by kernel_rfl) ?_; (repeat (go_big_quiet_step ((go_at_call 32; exact Calls.at_b (T := okSet x) true (by simp [HN.out]) (settingValid_any x _ Z0.out Z1.out))))); refine wpQuiet_nil ?_; intro _ hw'; obtain ⟨sq, hw''⟩ := hw'; subst hw'')
            obtain ⟨w3, hw3⟩ := sq
            go_wp2
            go_roundw
            case rel => exact ⟨m + 1 + 1, by omega, by first | rfl | go_num, Hnext.out, hb2.trans hw3⟩
            case measure => first | omega | (simp [intOf]; omega) | simp [intOf]
          | false =>
            have Hbad := Lib.hid (sets_bad2 (b := false) Hx.out Hp.out (fun h => by unfold ltSet at h; rw [hlt2] at h; cases h) rfl)
            (refine wp_region_quiet_ext (by kernel_rfl) (by kernel_rfl) ?_; (repeat (go_big_quiet_step ((go_at_call 32; exact Calls.at_b (T := okSet x) true (by simp [HN.out]) (settingValid_any x _ Z0.out Z1.out))))); refine wpQuiet_nil ?_; intro _ hw'; obtain ⟨sq, hw''⟩ := hw'; subst hw'')
            obtain ⟨w3, hw3⟩ := sq
            go_wp2
            go_ret
            exact RetB.mk false rfl Hbad.out (hb2.trans hw3)
end Go.Proofs.YtekmfphlccomaaaDoor
