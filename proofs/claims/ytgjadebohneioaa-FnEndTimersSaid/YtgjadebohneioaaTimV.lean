/- Timers: when they are valid; contracts of TimersValid. No condition but that lists are shorter than 2^63. -/
import Derived.Test.YtgjadebohneioaaTimFam
import Derived.Test.YtgjadebohneioaaQuiet
import Derived.Test.YtgjadebohneioaaSep
import Derived.Deep.Cut
namespace Go.Proofs.Ytgjadebohneioaa
open Go.RowKit

def okTim (x : Tim) : Prop := (0 ≤ x.tm ∧ x.tm ≤ 100000) ∧ (1 ≤ x.who ∧ x.who ≤ 99) ∧ (0 ≤ x.ag ∧ x.ag ≤ 100000)
def TOkAt (l : List Tim) (k : Nat) : Prop := ∀ x, l[k]? = some x → okTim x ∧ ∀ m p, k = m + 1 → l[m]? = some p → p.tm ≤ x.tm
def TimsOk (l : List Tim) : Prop := (∀ k, k < l.length → TOkAt l k) ∧ l.length ≤ 8
theorem tims_bad {l : List Tim} {k : Nat} {x : Tim} (hx : l[k]? = some x) (h : ¬ okTim x) : ¬ TimsOk l := fun hr => h (hr.1 k (List.getElem?_eq_some_iff.1 hx).1 x hx).1
theorem tims_bad2 {l : List Tim} {m : Nat} {p x : Tim} (hx : l[m + 1]? = some x) (hp : l[m]? = some p) (h : ¬ p.tm ≤ x.tm) : ¬ TimsOk l := fun hr => h ((hr.1 _ (List.getElem?_eq_some_iff.1 hx).1 x hx).2 m p rfl hp)
theorem tims_next {l : List Tim} {k : Nat} (h : ∀ j, j < k → TOkAt l j) (hk : TOkAt l k) : ∀ j, j < k + 1 → TOkAt l j := fun j hj => by
  rcases Nat.lt_succ_iff_lt_or_eq.1 hj with h' | rfl
  · exact h j h'
  · exact hk
theorem tims_ok0 {l : List Tim} {x : Tim} (hx : l[0]? = some x) (h : okTim x) : TOkAt l 0 := fun y hy => by
  rw [hx] at hy; cases hy
  exact ⟨h, fun m p hm => by omega⟩
theorem tims_ok1 {l : List Tim} {m : Nat} {p x : Tim} (hx : l[m + 1]? = some x) (hp : l[m]? = some p) (h : okTim x) (h2 : p.tm ≤ x.tm) : TOkAt l (m + 1) := fun y hy => by
  rw [hx] at hy; cases hy
  refine ⟨h, fun m' p' hm hp' => ?_⟩
  obtain rfl : m = m' := by omega
  rw [hp] at hp'; cases hp'
  exact h2
theorem tims_end {l : List Tim} {k : Nat} (h : ∀ j, j < k → TOkAt l j) (hk : k = l.length) {b : Bool} (hb : b = decide (l.length ≤ 8)) : b = true ↔ TimsOk l := by
  subst hb hk
  simp only [decide_eq_true_eq]
  exact ⟨fun h8 => ⟨h, h8⟩, fun hr => hr.2⟩
theorem no_iff {P : Prop} (h : ¬ P) {b : Bool} (hb : b = false) : b = true ↔ P := by subst hb; simp [h]

set_option maxHeartbeats 400000 in
theorem isTime_any (n : Int) (w : World) : Calls Try.prog 34 #[.int .i64 n] w fun e w' => e = .returned (.bool (inB n 0 100000)) ∧ w = w' := by
  go_enter Try.func34, Try.ntmps34
  go_wp2_with (go_at_call 40; refine (within_any _ _ _ _).mono ?_; rintro e w' ⟨rfl, rfl⟩)
  go_ret
  exact ⟨rfl, rfl⟩
set_option maxHeartbeats 400000 in
theorem isProc_any (n : Int) (w : World) : Calls Try.prog 36 #[.int .i64 n] w fun e w' => e = .returned (.bool (inB n 1 99)) ∧ w = w' := by
  go_enter Try.func36, Try.ntmps36
  go_wp2_with (go_at_call 40; refine (within_any _ _ _ _).mono ?_; rintro e w' ⟨rfl, rfl⟩)
  go_ret
  exact ⟨rfl, rfl⟩

set_option maxHeartbeats 8000000 in
theorem specTimersValid (a : Option Addr) (cap : Nat) (l : List Tim) (w : World) (hl : l.length ≤ 9223372036854775807) (hc : Rd 3 encTim w a l) :
    Calls Try.prog 26 #[.slice a l.length cap] w (RetB (TimsOk l) w) := by
  go_enter Try.func26, Try.ntmps26
  go_wp2
  go_loopw [3] (fun i wr => ∃ k : Nat, k ≤ l.length ∧ i = .int .i64 k ∧ (∀ j, j < k → TOkAt l j) ∧ Ext w wr) (fun i _ => l.length - (intOf i).toNat)
  case atStart => exact ⟨0, Nat.zero_le _, rfl, fun _ h => absurd h (Nat.not_lt_zero _), Ext.refl _⟩
  case round =>
    obtain ⟨k, hk, rfl, hpre, hb⟩ := hrel
    have Hpre := Lib.hid hpre
    clear hpre
    by_cases hlt : k < l.length
    · obtain ⟨x, b, off, hx, rfl, c0, c1, c2⟩ := atTim (hc.ext hb) hlt
      have Hx := Lib.hid hx
      have i1 : (k : Int) < (l.length : Int) := by omega
      clear hx
      rcases k with _ | m
      · simp only [Nat.zero_mul, Nat.add_zero] at c0 c1 c2
        have hE := hb
        have q0 := ExtW.cell c0
        have q1 := ExtW.cell c1
        have q2 := ExtW.cell c2
        have bl := ExtW.lt c0
        cases e1 : inB x.tm 0 100000 with
        | false =>
          have e2 : True := trivial
          have e3 : True := trivial
          have HB : Hid (¬ TimsOk l) := Lib.hid (tims_bad Hx.out (fun h => by rw [inB_iff.2 h.1] at e1; cases e1))
          go_wp2
          (refine wp_region_quiet_ext (by kernel_rfl) (by kernel_rfl) ?_; (repeat (go_big_quiet_step ((go_at_call 37; exact Calls.at_same ((l1In_any _ _ _ _).mono (fun e w2 h => by first | (rw [e1] at h; exact h) | (rw [e2] at h; exact h) | (rw [e3] at h; exact h))))))); refine wpQuiet_nil ?_; intro _ hw'; obtain ⟨sq, hw''⟩ := hw'; subst hw'')
          obtain ⟨w3, hw3⟩ := sq
          go_wp2
          go_ret
          exact RetB.mk false rfl (no_iff HB.out rfl) (hE.trans hw3)
        | true =>
          cases e2 : inB x.who 1 99 with
          | false =>
            have e3 : True := trivial
            have HB : Hid (¬ TimsOk l) := Lib.hid (tims_bad Hx.out (fun h => by rw [inB_iff.2 h.2.1] at e2; cases e2))
            go_wp2
            (refine wp_region_quiet_ext (by kernel_rfl) (by kernel_rfl) ?_; (repeat (go_big_quiet_step ((go_at_call 37; exact Calls.at_same ((l1In_any _ _ _ _).mono (fun e w2 h => by first | (rw [e1] at h; exact h) | (rw [e2] at h; exact h) | (rw [e3] at h; exact h))))))); refine wpQuiet_nil ?_; intro _ hw'; obtain ⟨sq, hw''⟩ := hw'; subst hw'')
            obtain ⟨w3, hw3⟩ := sq
            go_wp2
            go_ret
            exact RetB.mk false rfl (no_iff HB.out rfl) (hE.trans hw3)
          | true =>
            cases e3 : inB x.ag 0 100000 with
            | false =>
              have HB : Hid (¬ TimsOk l) := Lib.hid (tims_bad Hx.out (fun h => by rw [inB_iff.2 h.2.2] at e3; cases e3))
              go_wp2
              (refine wp_region_quiet_ext (by kernel_rfl) (by kernel_rfl) ?_; (repeat (go_big_quiet_step ((go_at_call 37; exact Calls.at_same ((l1In_any _ _ _ _).mono (fun e w2 h => by first | (rw [e1] at h; exact h) | (rw [e2] at h; exact h) | (rw [e3] at h; exact h))))))); refine wpQuiet_nil ?_; intro _ hw'; obtain ⟨sq, hw''⟩ := hw'; subst hw'')
              obtain ⟨w3, hw3⟩ := sq
              go_wp2
              go_ret
              exact RetB.mk false rfl (no_iff HB.out rfl) (hE.trans hw3)
            | true =>
              have Hok : Hid (okTim x) := Lib.hid ⟨inB_iff.1 e1, inB_iff.1 e2, inB_iff.1 e3⟩
              go_wp2
              (refine wp_region_quiet_ext (by kernel_rfl) (by kernel_rfl) ?_; (repeat (go_big_quiet_step ((go_at_call 37; exact Calls.at_same ((l1In_any _ _ _ _).mono (fun e w2 h => by first | (rw [e1] at h; exact h) | (rw [e2] at h; exact h) | (rw [e3] at h; exact h))))))); refine wpQuiet_nil ?_; intro _ hw'; obtain ⟨sq, hw''⟩ := hw'; subst hw'')
              obtain ⟨w3, hw3⟩ := sq
              go_wp2
              go_roundw
              case rel => exact ⟨0 + 1, by omega, by go_num, tims_next Hpre.out (tims_ok0 Hx.out Hok.out), hE.trans hw3⟩
              case measure => simp [intOf]; omega
      · have i2 : (0 : Int) < ((m + 1 : Nat) : Int) := by omega
        have hE := hb
        have q0 := ExtW.cell c0
        have q1 := ExtW.cell c1
        have q2 := ExtW.cell c2
        have bl := ExtW.lt c0
        obtain ⟨p, b', off', hp, ha, d0, d1, d2⟩ := atTim (hc.ext hE) (show m < l.length by omega)
        obtain ⟨rfl, rfl⟩ : b = b' ∧ off = off' := by simpa using ha
        have Hp := Lib.hid hp
        have q3 := ExtW.cell d0
        have bp := ExtW.lt d0
        have s1 : IntKind.i64.wrap (m : Int) = (m : Int) := IntWalk.i64_in _ (by omega)
        have i3 : (m : Int) < (l.length : Int) := by omega
        clear hp ha
        cases e1 : inB x.tm 0 100000 with
        | false =>
          have e2 : True := trivial
          have e3 : True := trivial
          have HB : Hid (¬ TimsOk l) := Lib.hid (tims_bad Hx.out (fun h => by rw [inB_iff.2 h.1] at e1; cases e1))
          go_wp2
          (refine wp_region_quiet_ext (by kernel_rfl) (by kernel_rfl) ?_; (repeat (go_big_quiet_step ((go_at_call 37; exact Calls.at_same ((l1In_any _ _ _ _).mono (fun e w2 h => by first | (rw [e1] at h; exact h) | (rw [e2] at h; exact h) | (rw [e3] at h; exact h))))))); refine wpQuiet_nil ?_; intro _ hw'; obtain ⟨sq, hw''⟩ := hw'; subst hw'')
          obtain ⟨w3, hw3⟩ := sq
          go_wp2
          go_ret
          exact RetB.mk false rfl (no_iff HB.out rfl) (hE.trans hw3)
        | true =>
          cases e2 : inB x.who 1 99 with
          | false =>
            have e3 : True := trivial
            have HB : Hid (¬ TimsOk l) := Lib.hid (tims_bad Hx.out (fun h => by rw [inB_iff.2 h.2.1] at e2; cases e2))
            go_wp2
            (refine wp_region_quiet_ext (by kernel_rfl) (by kernel_rfl) ?_; (repeat (go_big_quiet_step ((go_at_call 37; exact Calls.at_same ((l1In_any _ _ _ _).mono (fun e w2 h => by first | (rw [e1] at h; exact h) | (rw [e2] at h; exact h) | (rw [e3] at h; exact h))))))); refine wpQuiet_nil ?_; intro _ hw'; obtain ⟨sq, hw''⟩ := hw'; subst hw'')
            obtain ⟨w3, hw3⟩ := sq
            go_wp2
            go_ret
            exact RetB.mk false rfl (no_iff HB.out rfl) (hE.trans hw3)
          | true =>
            cases e3 : inB x.ag 0 100000 with
            | false =>
              have HB : Hid (¬ TimsOk l) := Lib.hid (tims_bad Hx.out (fun h => by rw [inB_iff.2 h.2.2] at e3; cases e3))
              go_wp2
              (refine wp_region_quiet_ext (by kernel_rfl) (by kernel_rfl) ?_; (repeat (go_big_quiet_step ((go_at_call 37; exact Calls.at_same ((l1In_any _ _ _ _).mono (fun e w2 h => by first | (rw [e1] at h; exact h) | (rw [e2] at h; exact h) | (rw [e3] at h; exact h))))))); refine wpQuiet_nil ?_; intro _ hw'; obtain ⟨sq, hw''⟩ := hw'; subst hw'')
              obtain ⟨w3, hw3⟩ := sq
              go_wp2
              go_ret
              exact RetB.mk false rfl (no_iff HB.out rfl) (hE.trans hw3)
            | true =>
              have Hok : Hid (okTim x) := Lib.hid ⟨inB_iff.1 e1, inB_iff.1 e2, inB_iff.1 e3⟩
              by_cases h5 : p.tm ≤ x.tm
              · have h6 : ¬ (x.tm < p.tm) := by omega
                have HN := Lib.hid (tims_next Hpre.out (tims_ok1 Hx.out Hp.out Hok.out h5))
                clear h5
                go_wp2
                (refine wp_region_quiet_ext (by kernel_rfl) (by kernel_rfl) ?_; (repeat (go_big_quiet_step ((go_at_call 37; exact Calls.at_same ((l1In_any _ _ _ _).mono (fun e w2 h => by first | (rw [e1] at h; exact h) | (rw [e2] at h; exact h) | (rw [e3] at h; exact h))))))); refine wpQuiet_nil ?_; intro _ hw'; obtain ⟨sq, hw''⟩ := hw'; subst hw'')
                obtain ⟨w3, hw3⟩ := sq
                go_wp2
                go_roundw
                case rel => exact ⟨m + 1 + 1, by omega, by go_num, HN.out, hE.trans hw3⟩
                case measure => simp [intOf]; omega
              · have h6 : x.tm < p.tm := by omega
                have HB := Lib.hid (tims_bad2 Hx.out Hp.out h5)
                clear h5
                go_wp2
                (refine wp_region_quiet_ext (by kernel_rfl) (by kernel_rfl) ?_; (repeat (go_big_quiet_step ((go_at_call 37; exact Calls.at_same ((l1In_any _ _ _ _).mono (fun e w2 h => by first | (rw [e1] at h; exact h) | (rw [e2] at h; exact h) | (rw [e3] at h; exact h))))))); refine wpQuiet_nil ?_; intro _ hw'; obtain ⟨sq, hw''⟩ := hw'; subst hw'')
                obtain ⟨w3, hw3⟩ := sq
                go_wp2
                go_ret
                exact RetB.mk false rfl (no_iff HB.out rfl) (hE.trans hw3)
    · obtain rfl : k = l.length := by omega
      have hni : ¬ (l.length : Int) < (l.length : Int) := by omega
      go_wp2
      go_ret
      exact RetB.mk _ rfl (tims_end Hpre.out rfl (by simp; omega)) hb

set_option maxHeartbeats 8000000 in
theorem implTimersValid (a : Option Addr) (cap : Nat) (l : List Tim) (w : World) (hl : l.length ≤ 9223372036854775807) (hc : Rd 3 encTim w a l) :
    Calls Try.prog 19 #[.slice a l.length cap] w (RetB (TimsOk l) w) := by
  go_enter Try.func19, Try.ntmps19
  go_wp2
  go_loopw [7] (fun i wr => ∃ k : Nat, k ≤ l.length ∧ i = .int .i64 k ∧ (∀ j, j < k → TOkAt l j) ∧ Ext w wr) (fun i _ => l.length - (intOf i).toNat)
  case atStart => exact ⟨0, Nat.zero_le _, rfl, fun _ h => absurd h (Nat.not_lt_zero _), Ext.refl _⟩
  case round =>
    obtain ⟨k, hk, rfl, hpre, hb⟩ := hrel
    have Hpre := Lib.hid hpre
    clear hpre
    by_cases hlt : k < l.length
    · obtain ⟨x, b, off, hx, rfl, c0, c1, c2⟩ := atTim (hc.ext hb) hlt
      have Hx := Lib.hid hx
      have i1 : (k : Int) < (l.length : Int) := by omega
      clear hx
      rcases k with _ | m
      · simp only [Nat.zero_mul, Nat.add_zero] at c0 c1 c2
        have hE := hb.alloc (.cells #[.int .i64 x.tm, .int .i64 x.who, .int .i64 x.ag] 30)
        obtain ⟨n0, n1, n2⟩ : (wr.alloc (.cells #[.int .i64 x.tm, .int .i64 x.who, .int .i64 x.ag] 30)).cell? ⟨wr.heap.size, 0, none⟩ = some (.int .i64 x.tm) ∧ (wr.alloc (.cells #[.int .i64 x.tm, .int .i64 x.who, .int .i64 x.ag] 30)).cell? ⟨wr.heap.size, 1, none⟩ = some (.int .i64 x.who) ∧ (wr.alloc (.cells #[.int .i64 x.tm, .int .i64 x.who, .int .i64 x.ag] 30)).cell? ⟨wr.heap.size, 2, none⟩ = some (.int .i64 x.ag) := by simp
        go_upto_region 4 with fail
        clear c0 c1 c2
        generalize (wr.alloc (.cells #[.int .i64 x.tm, .int .i64 x.who, .int .i64 x.ag] 30)) = wa at *
        have q0 := ExtW.cell n0
        have q1 := ExtW.cell n1
        have q2 := ExtW.cell n2
        have bl := ExtW.lt n0
        cases e1 : inB x.tm 0 100000 with
        | false =>
          have e2 : True := trivial
          have e3 : True := trivial
          have HB : Hid (¬ TimsOk l) := Lib.hid (tims_bad Hx.out (fun h => by rw [inB_iff.2 h.1] at e1; cases e1))
          (refine wp_region_quiet_ext (by kernel_rfl) (by kernel_rfl) ?_; (repeat (go_big_quiet_step ((first | (go_at_call 34; exact Calls.at_same ((isTime_any _ _).mono (fun e w2 h => by first | (rw [e1] at h; exact h) | (rw [e2] at h; exact h) | (rw [e3] at h; exact h)))) | (go_at_call 36; exact Calls.at_same ((isProc_any _ _).mono (fun e w2 h => by first | (rw [e1] at h; exact h) | (rw [e2] at h; exact h) | (rw [e3] at h; exact h)))))))); refine wpQuiet_nil ?_; intro _ hw'; obtain ⟨sq, hw''⟩ := hw'; subst hw'')
          obtain ⟨w3, hw3⟩ := sq
          go_wp2
          go_ret
          exact RetB.mk false rfl (no_iff HB.out rfl) (hE.trans hw3)
        | true =>
          cases e2 : inB x.who 1 99 with
          | false =>
            have e3 : True := trivial
            have HB : Hid (¬ TimsOk l) := Lib.hid (tims_bad Hx.out (fun h => by rw [inB_iff.2 h.2.1] at e2; cases e2))
            (refine wp_region_quiet_ext (by kernel_rfl) (by kernel_rfl) ?_; (repeat (go_big_quiet_step ((first | (go_at_call 34; exact Calls.at_same ((isTime_any _ _).mono (fun e w2 h => by first | (rw [e1] at h; exact h) | (rw [e2] at h; exact h) | (rw [e3] at h; exact h)))) | (go_at_call 36; exact Calls.at_same ((isProc_any _ _).mono (fun e w2 h => by first | (rw [e1] at h; exact h) | (rw [e2] at h; exact h) | (rw [e3] at h; exact h)))))))); refine wpQuiet_nil ?_; intro _ hw'; obtain ⟨sq, hw''⟩ := hw'; subst hw'')
            obtain ⟨w3, hw3⟩ := sq
            go_wp2
            go_ret
            exact RetB.mk false rfl (no_iff HB.out rfl) (hE.trans hw3)
          | true =>
            cases e3 : inB x.ag 0 100000 with
            | false =>
              have HB : Hid (¬ TimsOk l) := Lib.hid (tims_bad Hx.out (fun h => by rw [inB_iff.2 h.2.2] at e3; cases e3))
              (refine wp_region_quiet_ext (by kernel_rfl) (by kernel_rfl) ?_; (repeat (go_big_quiet_step ((first | (go_at_call 34; exact Calls.at_same ((isTime_any _ _).mono (fun e w2 h => by first | (rw [e1] at h; exact h) | (rw [e2] at h; exact h) | (rw [e3] at h; exact h)))) | (go_at_call 36; exact Calls.at_same ((isProc_any _ _).mono (fun e w2 h => by first | (rw [e1] at h; exact h) | (rw [e2] at h; exact h) | (rw [e3] at h; exact h)))))))); refine wpQuiet_nil ?_; intro _ hw'; obtain ⟨sq, hw''⟩ := hw'; subst hw'')
              obtain ⟨w3, hw3⟩ := sq
              go_wp2
              go_ret
              exact RetB.mk false rfl (no_iff HB.out rfl) (hE.trans hw3)
            | true =>
              have Hok : Hid (okTim x) := Lib.hid ⟨inB_iff.1 e1, inB_iff.1 e2, inB_iff.1 e3⟩
              (refine wp_region_quiet_ext (by kernel_rfl) (by kernel_rfl) ?_; (repeat (go_big_quiet_step ((first | (go_at_call 34; exact Calls.at_same ((isTime_any _ _).mono (fun e w2 h => by first | (rw [e1] at h; exact h) | (rw [e2] at h; exact h) | (rw [e3] at h; exact h)))) | (go_at_call 36; exact Calls.at_same ((isProc_any _ _).mono (fun e w2 h => by first | (rw [e1] at h; exact h) | (rw [e2] at h; exact h) | (rw [e3] at h; exact h)))))))); refine wpQuiet_nil ?_; intro _ hw'; obtain ⟨sq, hw''⟩ := hw'; subst hw'')
              obtain ⟨w3, hw3⟩ := sq
              go_wp2
              go_roundw
              case rel => exact ⟨0 + 1, by omega, by go_num, tims_next Hpre.out (tims_ok0 Hx.out Hok.out), hE.trans hw3⟩
              case measure => simp [intOf]; omega
      · have i2 : (0 : Int) < ((m + 1 : Nat) : Int) := by omega
        have hE := hb.alloc (.cells #[.int .i64 x.tm, .int .i64 x.who, .int .i64 x.ag] 30)
        obtain ⟨n0, n1, n2⟩ : (wr.alloc (.cells #[.int .i64 x.tm, .int .i64 x.who, .int .i64 x.ag] 30)).cell? ⟨wr.heap.size, 0, none⟩ = some (.int .i64 x.tm) ∧ (wr.alloc (.cells #[.int .i64 x.tm, .int .i64 x.who, .int .i64 x.ag] 30)).cell? ⟨wr.heap.size, 1, none⟩ = some (.int .i64 x.who) ∧ (wr.alloc (.cells #[.int .i64 x.tm, .int .i64 x.who, .int .i64 x.ag] 30)).cell? ⟨wr.heap.size, 2, none⟩ = some (.int .i64 x.ag) := by simp
        go_upto_region 4 with fail
        clear c0 c1 c2
        generalize (wr.alloc (.cells #[.int .i64 x.tm, .int .i64 x.who, .int .i64 x.ag] 30)) = wa at *
        have q0 := ExtW.cell n0
        have q1 := ExtW.cell n1
        have q2 := ExtW.cell n2
        have bl := ExtW.lt n0
        obtain ⟨p, b', off', hp, ha, d0, d1, d2⟩ := atTim (hc.ext hE) (show m < l.length by omega)
        obtain ⟨rfl, rfl⟩ : b = b' ∧ off = off' := by simpa using ha
        have Hp := Lib.hid hp
        have q3 := ExtW.cell d0
        have bp := ExtW.lt d0
        have s1 : IntKind.i64.wrap (m : Int) = (m : Int) := IntWalk.i64_in _ (by omega)
        have i3 : (m : Int) < (l.length : Int) := by omega
        clear hp ha
        cases e1 : inB x.tm 0 100000 with
        | false =>
          have e2 : True := trivial
          have e3 : True := trivial
          have HB : Hid (¬ TimsOk l) := Lib.hid (tims_bad Hx.out (fun h => by rw [inB_iff.2 h.1] at e1; cases e1))
          (refine wp_region_quiet_ext (by kernel_rfl) (by kernel_rfl) ?_; (repeat (go_big_quiet_step ((first | (go_at_call 34; exact Calls.at_same ((isTime_any _ _).mono (fun e w2 h => by first | (rw [e1] at h; exact h) | (rw [e2] at h; exact h) | (rw [e3] at h; exact h)))) | (go_at_call 36; exact Calls.at_same ((isProc_any _ _).mono (fun e w2 h => by first | (rw [e1] at h; exact h) | (rw [e2] at h; exact h) | (rw [e3] at h; exact h)))))))); refine wpQuiet_nil ?_; intro _ hw'; obtain ⟨sq, hw''⟩ := hw'; subst hw'')
          obtain ⟨w3, hw3⟩ := sq
          go_wp2
          go_ret
          exact RetB.mk false rfl (no_iff HB.out rfl) (hE.trans hw3)
        | true =>
          cases e2 : inB x.who 1 99 with
          | false =>
            have e3 : True := trivial
            have HB : Hid (¬ TimsOk l) := Lib.hid (tims_bad Hx.out (fun h => by rw [inB_iff.2 h.2.1] at e2; cases e2))
            (refine wp_region_quiet_ext (by kernel_rfl) (by kernel_rfl) ?_; (repeat (go_big_quiet_step ((first | (go_at_call 34; exact Calls.at_same ((isTime_any _ _).mono (fun e w2 h => by first | (rw [e1] at h; exact h) | (rw [e2] at h; exact h) | (rw [e3] at h; exact h)))) | (go_at_call 36; exact Calls.at_same ((isProc_any _ _).mono (fun e w2 h => by first | (rw [e1] at h; exact h) | (rw [e2] at h; exact h) | (rw [e3] at h; exact h)))))))); refine wpQuiet_nil ?_; intro _ hw'; obtain ⟨sq, hw''⟩ := hw'; subst hw'')
            obtain ⟨w3, hw3⟩ := sq
            go_wp2
            go_ret
            exact RetB.mk false rfl (no_iff HB.out rfl) (hE.trans hw3)
          | true =>
            cases e3 : inB x.ag 0 100000 with
            | false =>
              have HB : Hid (¬ TimsOk l) := Lib.hid (tims_bad Hx.out (fun h => by rw [inB_iff.2 h.2.2] at e3; cases e3))
              (refine wp_region_quiet_ext (by kernel_rfl) (by kernel_rfl) ?_; (repeat (go_big_quiet_step ((first | (go_at_call 34; exact Calls.at_same ((isTime_any _ _).mono (fun e w2 h => by first | (rw [e1] at h; exact h) | (rw [e2] at h; exact h) | (rw [e3] at h; exact h)))) | (go_at_call 36; exact Calls.at_same ((isProc_any _ _).mono (fun e w2 h => by first | (rw [e1] at h; exact h) | (rw [e2] at h; exact h) | (rw [e3] at h; exact h)))))))); refine wpQuiet_nil ?_; intro _ hw'; obtain ⟨sq, hw''⟩ := hw'; subst hw'')
              obtain ⟨w3, hw3⟩ := sq
              go_wp2
              go_ret
              exact RetB.mk false rfl (no_iff HB.out rfl) (hE.trans hw3)
            | true =>
              have Hok : Hid (okTim x) := Lib.hid ⟨inB_iff.1 e1, inB_iff.1 e2, inB_iff.1 e3⟩
              by_cases h5 : p.tm ≤ x.tm
              · have h6 : ¬ (x.tm < p.tm) := by omega
                have HN := Lib.hid (tims_next Hpre.out (tims_ok1 Hx.out Hp.out Hok.out h5))
                clear h5
                (refine wp_region_quiet_ext (by kernel_rfl) (by kernel_rfl) ?_; (repeat (go_big_quiet_step ((first | (go_at_call 34; exact Calls.at_same ((isTime_any _ _).mono (fun e w2 h => by first | (rw [e1] at h; exact h) | (rw [e2] at h; exact h) | (rw [e3] at h; exact h)))) | (go_at_call 36; exact Calls.at_same ((isProc_any _ _).mono (fun e w2 h => by first | (rw [e1] at h; exact h) | (rw [e2] at h; exact h) | (rw [e3] at h; exact h)))))))); refine wpQuiet_nil ?_; intro _ hw'; obtain ⟨sq, hw''⟩ := hw'; subst hw'')
                obtain ⟨w3, hw3⟩ := sq
                go_wp2
                go_roundw
                case rel => exact ⟨m + 1 + 1, by omega, by go_num, HN.out, hE.trans hw3⟩
                case measure => simp [intOf]; omega
              · have h6 : x.tm < p.tm := by omega
                have HB := Lib.hid (tims_bad2 Hx.out Hp.out h5)
                clear h5
                (refine wp_region_quiet_ext (by kernel_rfl) (by kernel_rfl) ?_; (repeat (go_big_quiet_step ((first | (go_at_call 34; exact Calls.at_same ((isTime_any _ _).mono (fun e w2 h => by first | (rw [e1] at h; exact h) | (rw [e2] at h; exact h) | (rw [e3] at h; exact h)))) | (go_at_call 36; exact Calls.at_same ((isProc_any _ _).mono (fun e w2 h => by first | (rw [e1] at h; exact h) | (rw [e2] at h; exact h) | (rw [e3] at h; exact h)))))))); refine wpQuiet_nil ?_; intro _ hw'; obtain ⟨sq, hw''⟩ := hw'; subst hw'')
                obtain ⟨w3, hw3⟩ := sq
                go_wp2
                go_ret
                exact RetB.mk false rfl (no_iff HB.out rfl) (hE.trans hw3)
    · obtain rfl : k = l.length := by omega
      have hni : ¬ (l.length : Int) < (l.length : Int) := by omega
      go_wp2
      go_ret
      exact RetB.mk _ rfl (tims_end Hpre.out rfl (by simp; omega)) hb
end Go.Proofs.Ytgjadebohneioaa
