/- Locks: when they are valid; contracts of LocksValid. No condition but that the list is shorter than 2^63. -/
import Derived.Test.YtaofbdhljnhlnaaLckFam
import Derived.Test.YtaofbdhljnhlnaaQuiet
namespace Go.Proofs.Ytaofbdhljnhlnaa
open Go.RowKit

def okLck (x : Lck) : Prop := (1 ≤ x.who ∧ x.who ≤ 99) ∧ (1 ≤ x.t ∧ x.t ≤ 40) ∧ 0 ≤ x.f ∧ x.f ≤ x.t - 1
def meetL (p x : Lck) : Prop := p.f < x.t ∧ x.f < p.t
instance (p x : Lck) : Decidable (meetL p x) := by unfold meetL; infer_instance
def clash (p x : Lck) : Prop := meetL p x ∧ (p.who = x.who ∨ p.alone = true ∨ x.alone = true)
instance (p x : Lck) : Decidable (clash p x) := by unfold clash; infer_instance
def LOkAt (l : List Lck) (k : Nat) : Prop := ∀ x, l[k]? = some x → okLck x ∧ ∀ j p, j < k → l[j]? = some p → ¬ clash p x
def LocksOk (l : List Lck) : Prop := (∀ k, k < l.length → LOkAt l k) ∧ l.length ≤ 10

theorem lcks_bad {l : List Lck} {k : Nat} {x : Lck} (hx : l[k]? = some x) (h : ¬ okLck x) {b : Bool} (hb : b = false) : b = true ↔ LocksOk l := by
  subst hb
  simp only [Bool.false_eq_true, false_iff]
  exact fun hr => h (hr.1 k (List.getElem?_eq_some_iff.1 hx).1 x hx).1
theorem lcks_bad2 {l : List Lck} {j k : Nat} {p x : Lck} (hx : l[k]? = some x) (hj : j < k) (hp : l[j]? = some p) (h : clash p x) {b : Bool} (hb : b = false) : b = true ↔ LocksOk l := by
  subst hb
  simp only [Bool.false_eq_true, false_iff]
  exact fun hr => (hr.1 k (List.getElem?_eq_some_iff.1 hx).1 x hx).2 j p hj hp h
theorem lcks_next {l : List Lck} {k : Nat} {x : Lck} (h : ∀ j, j < k → LOkAt l j) (hx : l[k]? = some x) (hok : okLck x) (hn : ∀ j p, j < k → l[j]? = some p → ¬ clash p x) : ∀ j, j < k + 1 → LOkAt l j := by
  intro j hj
  rcases Nat.lt_succ_iff_lt_or_eq.1 hj with h' | rfl
  · exact h j h'
  · intro y hy
    rw [hx] at hy; cases hy
    exact ⟨hok, hn⟩
theorem lcks_end {l : List Lck} {k : Nat} (h : ∀ j, j < k → LOkAt l j) (hk : k = l.length) {b : Bool} (hb : b = decide (l.length ≤ 10)) : b = true ↔ LocksOk l := by
  subst hb hk
  simp only [decide_eq_true_eq]
  exact ⟨fun h8 => ⟨h, h8⟩, fun hr => hr.2⟩
theorem none_next {l : List Lck} {k : Nat} {p x : Lck} (h : ∀ j p, j < k → l[j]? = some p → ¬ clash p x) (hp : l[k]? = some p) (hn : ¬ clash p x) : ∀ j p, j < k + 1 → l[j]? = some p → ¬ clash p x := by
  intro j q hj hq
  rcases Nat.lt_succ_iff_lt_or_eq.1 hj with h' | rfl
  · exact h j q h' hq
  · rw [hp] at hq; cases hq; exact hn

set_option maxHeartbeats 400000 in
theorem l32Meet_any (pw pf pt xw xf xt : Int) (pa xa : Bool) (w : World) :
    Calls Try.prog 32 #[.agg #[.int .i64 pw, .int .i64 pf, .int .i64 pt, .bool pa], .agg #[.int .i64 xw, .int .i64 xf, .int .i64 xt, .bool xa]] w (RetB (pf < xt ∧ xf < pt) w) := by
  by_cases h : pf < xt <;>
  · go_enter Try.func32, Try.ntmps32
    go_wp2
    go_ret
    exact RetB.mk _ rfl (by simp [h] <;> omega) (((Ext.refl _).alloc _).alloc _)

set_option maxHeartbeats 400000 in
theorem meets_any (pw pf pt xw xf xt : Int) (pa xa : Bool) (w : World) :
    Calls Try.prog 36 #[.agg #[.int .i64 pw, .int .i64 pf, .int .i64 pt, .bool pa], .agg #[.int .i64 xw, .int .i64 xf, .int .i64 xt, .bool xa]] w (RetB (pf < xt ∧ xf < pt) w) := by
  by_cases h : pf < xt <;>
  · go_enter Try.func36, Try.ntmps36
    go_wp2
    go_ret
    exact RetB.mk _ rfl (by simp [h] <;> omega) (((Ext.refl _).alloc _).alloc _)

set_option maxHeartbeats 4000000 in
theorem specLocksValid (a : Option Addr) (cap : Nat) (l : List Lck) (w : World) (hl : l.length ≤ 9223372036854775807) (hc : Rd 4 encLck w a l) :
    Calls Try.prog 12 #[.slice a l.length cap] w (RetB (LocksOk l) w) := by
  go_enter Try.func12, Try.ntmps12
  go_wp2
  go_loopw [3, 4, 5] (fun i _ _ wr => ∃ k : Nat, k ≤ l.length ∧ i = .int .i64 k ∧ (∀ j, j < k → LOkAt l j) ∧ Ext w wr) (fun i _ _ _ => l.length - (intOf i).toNat)
  case atStart => exact ⟨0, Nat.zero_le _, rfl, fun _ h => absurd h (Nat.not_lt_zero _), Ext.refl _⟩
  case round =>
    obtain ⟨k, hk, rfl, hpre, hb⟩ := hrel
    have Hpre := Lib.hid hpre
    clear hpre
    by_cases hlt : k < l.length
    · obtain ⟨x, b, off, hx, rfl, c0, c1, c2, c3⟩ := atLck (hc.ext hb) hlt
      have Hx := Lib.hid hx
      clear hx
      by_cases hok : okLck x
      · have Hok := Lib.hid hok
        obtain ⟨h1, h2, h3⟩ := hok
        have e1 : inB x.who 1 99 = true := inB_iff.2 h1
        have e2 : inB x.t 1 40 = true := inB_iff.2 h2
        have e3 : inB x.f 0 (x.t - 1) = true := inB_iff.2 h3
        obtain ⟨h1, h1'⟩ := h1
        obtain ⟨h2, h2'⟩ := h2
        go_wp2_with (go_at_call 31; refine (l1In_any _ _ _ _).mono ?_; rintro e w' ⟨rfl, rfl⟩)
        obtain ⟨n0, n1, n2, n3⟩ : (wr.alloc (.cells #[.int .i64 x.who, .int .i64 x.f, .int .i64 x.t, .bool x.alone] 32)).cell? ⟨wr.heap.size, 0, none⟩ = some (.int .i64 x.who) ∧ (wr.alloc (.cells #[.int .i64 x.who, .int .i64 x.f, .int .i64 x.t, .bool x.alone] 32)).cell? ⟨wr.heap.size, 1, none⟩ = some (.int .i64 x.f) ∧ (wr.alloc (.cells #[.int .i64 x.who, .int .i64 x.f, .int .i64 x.t, .bool x.alone] 32)).cell? ⟨wr.heap.size, 2, none⟩ = some (.int .i64 x.t) ∧ (wr.alloc (.cells #[.int .i64 x.who, .int .i64 x.f, .int .i64 x.t, .bool x.alone] 32)).cell? ⟨wr.heap.size, 3, none⟩ = some (.bool x.alone) := by simp
        have hE := hb.alloc (.cells #[.int .i64 x.who, .int .i64 x.f, .int .i64 x.t, .bool x.alone] 32)
        clear c0 c1 c2 c3 e1 e2 e3
        generalize (wr.alloc (.cells #[.int .i64 x.who, .int .i64 x.f, .int .i64 x.t, .bool x.alone] 32)) = wa at *
        go_loopw [5] (fun i wq => ∃ j : Nat, j ≤ k ∧ i = .int .i64 j ∧ (∀ i p, i < j → l[i]? = some p → ¬ clash p x) ∧ Ext wa wq) (fun i _ => k - (intOf i).toNat)
        case atStart => exact ⟨0, Nat.zero_le _, rfl, fun _ _ h => absurd h (Nat.not_lt_zero _), Ext.refl _⟩
        case round =>
          obtain ⟨j, hj, rfl, hpre, hq⟩ := hrel
          have Hnone := Lib.hid hpre
          clear hpre
          by_cases hjk : j < k
          · obtain ⟨p, b', off', hp, ha, d0, d1, d2, d3⟩ := atLck ((hc.ext hE).ext hq) (show j < l.length by omega)
            obtain ⟨rfl, rfl⟩ : b = b' ∧ off = off' := by simpa using ha
            have Hp := Lib.hid hp
            clear hp ha
            go_wp2
            have q0 := ExtW.cell d0
            have q3 := ExtW.cell d3
            have q1 := ExtW.cell d1
            have q2 := ExtW.cell d2
            have m0 := ExtW.cell (cell_ext hq n0)
            have m1 := ExtW.cell (cell_ext hq n1)
            have m2 := ExtW.cell (cell_ext hq n2)
            have m3 := ExtW.cell (cell_ext hq n3)
            have bl := ExtW.lt d0
            have bm := ExtW.lt (cell_ext hq n0)
            have i0 : (0 : Int) ≤ (j : Int) := by omega
            have i1 : (j : Int) < (l.length : Int) := by omega
            clear n0 n1 n2 n3 d0 d1 d2 d3
            by_cases hm : meetL p x
            · by_cases hw : p.who = x.who
              · have tw : (p.who == x.who) = true := by simpa using hw
                have hcl : clash p x := ⟨hm, .inl hw⟩
                clear hw
                (refine wp_region_quiet_ext (by kernel_rfl) (by kernel_rfl) ?_; (repeat (go_big_quiet_step ((go_at_call 32; exact Calls.at_b (T := meetL p x) true (by simp [hm]) (l32Meet_any _ _ _ _ _ _ _ _ _))))); refine wpQuiet_nil ?_; intro _ hw'; obtain ⟨sq, hw''⟩ := hw'; subst hw'')
                obtain ⟨w3, hw3⟩ := sq
                go_wp2
                go_ret
                exact RetB.mk _ rfl (lcks_bad2 Hx.out hjk Hp.out hcl rfl) ((hE.trans hq).trans hw3)
              · have tw : (p.who == x.who) = false := by simpa using hw
                by_cases hp1 : p.alone = true
                · have hcl : clash p x := ⟨hm, .inr (.inl hp1)⟩
                  clear hw
                  (refine wp_region_quiet_ext (by kernel_rfl) (by kernel_rfl) ?_; (repeat (go_big_quiet_step ((go_at_call 32; exact Calls.at_b (T := meetL p x) true (by simp [hm]) (l32Meet_any _ _ _ _ _ _ _ _ _))))); refine wpQuiet_nil ?_; intro _ hw'; obtain ⟨sq, hw''⟩ := hw'; subst hw'')
                  obtain ⟨w3, hw3⟩ := sq
                  go_wp2
                  go_ret
                  exact RetB.mk _ rfl (lcks_bad2 Hx.out hjk Hp.out hcl rfl) ((hE.trans hq).trans hw3)
                · by_cases hp2 : x.alone = true
                  · have hcl : clash p x := ⟨hm, .inr (.inr hp2)⟩
                    replace hp1 : p.alone = false := by simpa using hp1
                    clear hw
                    (refine wp_region_quiet_ext (by kernel_rfl) (by kernel_rfl) ?_; (repeat (go_big_quiet_step ((go_at_call 32; exact Calls.at_b (T := meetL p x) true (by simp [hm]) (l32Meet_any _ _ _ _ _ _ _ _ _))))); refine wpQuiet_nil ?_; intro _ hw'; obtain ⟨sq, hw''⟩ := hw'; subst hw'')
                    obtain ⟨w3, hw3⟩ := sq
                    go_wp2
                    go_ret
                    exact RetB.mk _ rfl (lcks_bad2 Hx.out hjk Hp.out hcl rfl) ((hE.trans hq).trans hw3)
                  · have hcl : ¬ clash p x := fun h => h.2.elim hw (fun h => h.elim hp1 hp2)
                    replace hp1 : p.alone = false := by simpa using hp1
                    replace hp2 : x.alone = false := by simpa using hp2
                    clear hw
                    (refine wp_region_quiet_ext (by kernel_rfl) (by kernel_rfl) ?_; (repeat (go_big_quiet_step ((go_at_call 32; exact Calls.at_b (T := meetL p x) true (by simp [hm]) (l32Meet_any _ _ _ _ _ _ _ _ _))))); refine wpQuiet_nil ?_; intro _ hw'; obtain ⟨sq, hw''⟩ := hw'; subst hw'')
                    obtain ⟨w3, hw3⟩ := sq
                    go_wp2
                    go_roundw
                    case rel => exact ⟨j + 1, by omega, by go_num, none_next Hnone.out Hp.out hcl, hq.trans hw3⟩
                    case measure => simp [intOf]; omega
            · have hcl : ¬ clash p x := fun h => hm h.1
              (refine wp_region_quiet_ext (by kernel_rfl) (by kernel_rfl) ?_; (repeat (go_big_quiet_step ((go_at_call 32; exact Calls.at_b (T := meetL p x) false (by simp [hm]) (l32Meet_any _ _ _ _ _ _ _ _ _))))); refine wpQuiet_nil ?_; intro _ hw'; obtain ⟨sq, hw''⟩ := hw'; subst hw'')
              obtain ⟨w3, hw3⟩ := sq
              go_wp2
              go_roundw
              case rel => exact ⟨j + 1, by omega, by go_num, none_next Hnone.out Hp.out hcl, hq.trans hw3⟩
              case measure => simp [intOf]; omega
          · obtain rfl : j = k := by omega
            go_wp2
            go_roundw
            case rel => exact ⟨j + 1, by omega, by go_num, lcks_next Hpre.out Hx.out Hok.out Hnone.out, hE.trans hq⟩
            case measure => simp [intOf]; omega
      · by_cases h1 : 1 ≤ x.who ∧ x.who ≤ 99
        · have e1 := inB_iff.2 h1
          by_cases h2 : 1 ≤ x.t ∧ x.t ≤ 40
          · have e2 := inB_iff.2 h2
            have e3 : inB x.f 0 (x.t - 1) = false := inB_false (fun h => hok ⟨h1, h2, h⟩)
            obtain ⟨h2, h2'⟩ := h2
            go_wp2_with (go_at_call 31; refine (l1In_any _ _ _ _).mono ?_; rintro e w' ⟨rfl, rfl⟩)
            go_ret
            exact RetB.mk _ rfl (lcks_bad Hx.out hok rfl) (hb.alloc _)
          · have e2 := inB_false h2
            go_wp2_with (go_at_call 31; refine (l1In_any _ _ _ _).mono ?_; rintro e w' ⟨rfl, rfl⟩)
            go_ret
            exact RetB.mk _ rfl (lcks_bad Hx.out hok rfl) (hb.alloc _)
        · have e1 := inB_false h1
          go_wp2_with (go_at_call 31; refine (l1In_any _ _ _ _).mono ?_; rintro e w' ⟨rfl, rfl⟩)
          go_ret
          exact RetB.mk _ rfl (lcks_bad Hx.out hok rfl) (hb.alloc _)
    · go_wp2
      go_ret
      exact RetB.mk _ rfl (lcks_end Hpre.out (by omega) (by simp; omega)) hb
end Go.Proofs.Ytaofbdhljnhlnaa
