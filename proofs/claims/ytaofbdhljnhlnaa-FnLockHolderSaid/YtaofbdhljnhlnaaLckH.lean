/- LockHolder: contracts of the program's and the reference's. Condition: lists shorter than 2^63. -/
import Derived.Test.YtaofbdhljnhlnaaLckI
namespace Go.Proofs.Ytaofbdhljnhlnaa
open Go.RowKit

/-- It returns a number that fits R; the world has only grown. -/
def RetN (R : Int → Prop) (w : World) (e : Ending) (w' : World) : Prop := ∃ n, e = .returned (.int .i64 n) ∧ R n ∧ Ext w w'
theorem RetN.mk {R : Int → Prop} {w w' : World} {v : Value} (n : Int) (hv : v = .int .i64 n) (h : R n) (hw : Ext w w') : RetN R w (.returned v) w' := ⟨n, by rw [hv], h, hw⟩
theorem owns_cap {w : World} {base e nf : Nat} {a : Option Addr} {n cap : Nat} {xs : List Value} (h : w.ownsRow base e nf (.slice a n cap) n xs) : n ≤ cap := by
  rcases h.2 with ⟨h1, h2⟩ | ⟨g, cap', cur, hv, _, _, h1, _⟩
  · omega
  · simp only [Value.slice.injEq] at hv
    omega

def blocksL (p x : Lck) : Prop := p.who ≠ x.who ∧ meetL p x ∧ (p.alone = true ∨ x.alone = true)
instance (p x : Lck) : Decidable (blocksL p x) := by unfold blocksL; infer_instance
def holdL : List Lck → Lck → Int
  | [], _ => 0
  | p :: l, x => if blocksL p x then p.who else holdL l x
theorem hold_hit {x : Lck} : ∀ {l : List Lck} {k : Nat} {p : Lck}, (∀ (j : Nat) q, j < k → l[j]? = some q → ¬ blocksL q x) → l[k]? = some p → blocksL p x → holdL l x = p.who
  | [], _, _, _, h, _ => by simp at h
  | q :: l, 0, p, _, h, hb => by
    simp only [List.getElem?_cons_zero, Option.some.injEq] at h
    subst h
    simp [holdL, hb]
  | q :: l, k + 1, p, hn, h, hb => by
    have h0 := hn 0 q (by omega) rfl
    rw [holdL, if_neg h0]
    exact hold_hit (l := l) (k := k) (fun j r hj hr => hn (j + 1) r (by omega) (by simpa using hr)) (by simpa using h) hb
theorem hold_none {x : Lck} : ∀ {l : List Lck}, (∀ (j : Nat) q, l[j]? = some q → ¬ blocksL q x) → holdL l x = 0
  | [], _ => rfl
  | q :: l, hn => by
    rw [holdL, if_neg (hn 0 q rfl)]
    exact hold_none (fun j r hr => hn (j + 1) r (by simpa using hr))
theorem bnone_next {l : List Lck} {k : Nat} {p x : Lck} (h : ∀ (j : Nat) p, j < k → l[j]? = some p → ¬ blocksL p x) (hp : l[k]? = some p) (hn : ¬ blocksL p x) : ∀ (j : Nat) p, j < k + 1 → l[j]? = some p → ¬ blocksL p x := by
  intro j q hj hq
  rcases Nat.lt_succ_iff_lt_or_eq.1 hj with h' | rfl
  · exact h j q h' hq
  · rw [hp] at hq; cases hq; exact hn
theorem locks_one {x : Lck} : LocksOk [x] ↔ okLck x := by
  constructor
  · intro h
    exact (h.1 0 (by simp) x rfl).1
  · intro h
    refine ⟨fun k hk y hy => ?_, by simp⟩
    obtain rfl : k = 0 := by simpa using hk
    simp only [List.getElem?_cons_zero, Option.some.injEq] at hy
    subst hy
    exact ⟨h, fun j p hj => by omega⟩
open Classical in
noncomputable def HoldF (l : List Lck) (x : Lck) : Int := if LocksOk l ∧ okLck x then holdL l x else -1
theorem HoldF_ok {l : List Lck} {x : Lck} (h : LocksOk l) (hx : okLck x) : HoldF l x = holdL l x := if_pos ⟨h, hx⟩
theorem HoldF_no {l : List Lck} {x : Lck} (h : ¬ (LocksOk l ∧ okLck x)) : HoldF l x = -1 := if_neg h

set_option maxHeartbeats 4000000 in
theorem implHold (a : Option Addr) (cap : Nat) (l : List Lck) (x : Lck) (w : World) (hl : l.length ≤ 9223372036854775807) (hc : Rd 4 encLck w a l) :
    Calls Try.prog 38 #[.slice a l.length cap, .agg #[.int .i64 x.who, .int .i64 x.f, .int .i64 x.t, .bool x.alone]] w (RetN (fun n => n = holdL l x) w) := by
  go_enter Try.func38, Try.ntmps38
  go_wp2
  obtain ⟨n0, n1, n2, n3⟩ : (w.alloc (.cells #[.int .i64 x.who, .int .i64 x.f, .int .i64 x.t, .bool x.alone] 32)).cell? ⟨w.heap.size, 0, none⟩ = some (.int .i64 x.who) ∧ (w.alloc (.cells #[.int .i64 x.who, .int .i64 x.f, .int .i64 x.t, .bool x.alone] 32)).cell? ⟨w.heap.size, 1, none⟩ = some (.int .i64 x.f) ∧ (w.alloc (.cells #[.int .i64 x.who, .int .i64 x.f, .int .i64 x.t, .bool x.alone] 32)).cell? ⟨w.heap.size, 2, none⟩ = some (.int .i64 x.t) ∧ (w.alloc (.cells #[.int .i64 x.who, .int .i64 x.f, .int .i64 x.t, .bool x.alone] 32)).cell? ⟨w.heap.size, 3, none⟩ = some (.bool x.alone) := by simp
  have hE := (Ext.refl w).alloc (.cells #[.int .i64 x.who, .int .i64 x.f, .int .i64 x.t, .bool x.alone] 32)
  generalize (w.alloc (.cells #[.int .i64 x.who, .int .i64 x.f, .int .i64 x.t, .bool x.alone] 32)) = wa at *
  go_loopw [6, 9] (fun _ i wr => ∃ k : Nat, k ≤ l.length ∧ i = .int .i64 k ∧ (∀ (j : Nat) p, j < k → l[j]? = some p → ¬ blocksL p x) ∧ Ext wa wr) (fun _ i _ => l.length - (intOf i).toNat)
  case atStart => exact ⟨0, Nat.zero_le _, rfl, fun _ _ h => absurd h (Nat.not_lt_zero _), Ext.refl _⟩
  case round =>
    obtain ⟨k, hk, rfl, hpre, hb⟩ := hrel
    have Hpre := Lib.hid hpre
    clear hpre
    by_cases hlt : k < l.length
    · obtain ⟨p, b, off, hp, rfl, c0, c1, c2, c3⟩ := atLck ((hc.ext hE).ext hb) hlt
      have Hp := Lib.hid hp
      clear hp
      have m0 := cell_ext hb n0
      have m1 := cell_ext hb n1
      have m2 := cell_ext hb n2
      have m3 := cell_ext hb n3
      have hbm := World.block_lt_of_cell? wr ⟨w.heap.size, 0, none⟩ m0
      have hne : w.heap.size ≠ wr.heap.size := Nat.ne_of_lt hbm
      have hne' : wr.heap.size ≠ w.heap.size := Ne.symm hne
      clear n0 n1 n2 n3
      by_cases hw : p.who = x.who
      · have tw : (p.who != x.who) = false := by simpa using hw
        have hn : ¬ blocksL p x := fun h => h.1 hw
        clear hw
        go_wp2
        go_roundw
        case rel => exact ⟨k + 1, by omega, by go_num, bnone_next Hpre.out Hp.out hn, hb.alloc _⟩
        case measure => simp [intOf]; omega
      · have tw : (p.who != x.who) = true := by simpa using hw
        have Hw := Lib.hid hw
        clear hw
        go_wp2_with fail
        refine (meets_any _ _ _ _ _ _ _ _ _).mono ?_
        rintro e w2 ⟨b0, rfl, he, hb2⟩
        have He := Lib.hid he
        clear he
        have n0 : (wr.alloc (.cells #[.int .i64 p.who, .int .i64 p.f, .int .i64 p.t, .bool p.alone] 32)).cell? ⟨wr.heap.size, 0, none⟩ = some (.int .i64 p.who) := by simp
        have n3 : (wr.alloc (.cells #[.int .i64 p.who, .int .i64 p.f, .int .i64 p.t, .bool p.alone] 32)).cell? ⟨wr.heap.size, 3, none⟩ = some (.bool p.alone) := by simp
        replace n0 := cell_ext hb2 n0
        replace n3 := cell_ext hb2 n3
        have E2 : Ext wr w2 := ((Ext.refl wr).alloc (.cells #[.int .i64 p.who, .int .i64 p.f, .int .i64 p.t, .bool p.alone] 32)).trans hb2
        replace m0 := cell_ext E2 m0
        replace m3 := cell_ext E2 m3
        replace hb := hb.trans E2
        clear c0 c1 c2 c3 m1 m2 hb2 E2
        cases b0 with
        | false =>
          have hn : ¬ blocksL p x := fun h => Bool.noConfusion (He.out.2 h.2.1)
          go_wp2
          go_roundw
          case rel => exact ⟨k + 1, by omega, by go_num, bnone_next Hpre.out Hp.out hn, hb⟩
          case measure => simp [intOf]; omega
        | true =>
          have hm := He.out.1 rfl
          by_cases h1 : p.alone = true
          · have hcl : blocksL p x := ⟨Hw.out, hm, .inl h1⟩
            clear hm
            go_wp2
            go_ret
            exact RetN.mk _ rfl (hold_hit Hpre.out Hp.out hcl).symm (hE.trans hb)
          · by_cases h2 : x.alone = true
            · have hcl : blocksL p x := ⟨Hw.out, hm, .inr h2⟩
              replace h1 : p.alone = false := by simpa using h1
              clear hm
              go_wp2
              go_ret
              exact RetN.mk _ rfl (hold_hit Hpre.out Hp.out hcl).symm (hE.trans hb)
            · have hn : ¬ blocksL p x := fun h => h.2.2.elim h1 h2
              replace h1 : p.alone = false := by simpa using h1
              replace h2 : x.alone = false := by simpa using h2
              rw [h1] at n3
              rw [h2] at m3
              clear hm h1 h2 He tw
              go_wp2
              go_roundw
              case rel => exact ⟨k + 1, by omega, by go_num, bnone_next Hpre.out Hp.out hn, hb⟩
              case measure => simp [intOf]; omega
    · go_wp2
      go_ret
      exact RetN.mk _ rfl (hold_none (fun j q hq => Hpre.out j q (by have := (List.getElem?_eq_some_iff.1 hq).1; omega) hq)).symm (hE.trans hb)

set_option maxHeartbeats 2000000 in
theorem implLockHolder (a : Option Addr) (cap : Nat) (l : List Lck) (x : Lck) (w : World) (hl : l.length ≤ 9223372036854775807) (hcap : l.length ≤ cap) (hc : Rd 4 encLck w a l) :
    Calls Try.prog 18 #[.slice a l.length cap, .agg #[.int .i64 x.who, .int .i64 x.f, .int .i64 x.t, .bool x.alone]] w (RetN (fun n => n = HoldF l x) w) := by
  go_enter Try.func18, Try.ntmps18
  go_wp2_with fail
  obtain ⟨n0, n1, n2, n3⟩ : (w.alloc (.cells #[.int .i64 x.who, .int .i64 x.f, .int .i64 x.t, .bool x.alone] 32)).cell? ⟨w.heap.size, 0, none⟩ = some (.int .i64 x.who) ∧ (w.alloc (.cells #[.int .i64 x.who, .int .i64 x.f, .int .i64 x.t, .bool x.alone] 32)).cell? ⟨w.heap.size, 1, none⟩ = some (.int .i64 x.f) ∧ (w.alloc (.cells #[.int .i64 x.who, .int .i64 x.f, .int .i64 x.t, .bool x.alone] 32)).cell? ⟨w.heap.size, 2, none⟩ = some (.int .i64 x.t) ∧ (w.alloc (.cells #[.int .i64 x.who, .int .i64 x.f, .int .i64 x.t, .bool x.alone] 32)).cell? ⟨w.heap.size, 3, none⟩ = some (.bool x.alone) := by simp
  have hE := (Ext.refl w).alloc (.cells #[.int .i64 x.who, .int .i64 x.f, .int .i64 x.t, .bool x.alone] 32)
  generalize (w.alloc (.cells #[.int .i64 x.who, .int .i64 x.f, .int .i64 x.t, .bool x.alone] 32)) = wa at *
  refine (implLocksValid a _ l _ hl hcap (hc.ext hE)).mono ?_
  rintro e w2 ⟨b0, rfl, he, hb2⟩
  have He := Lib.hid he
  clear he
  replace n0 := cell_ext hb2 n0
  replace n1 := cell_ext hb2 n1
  replace n2 := cell_ext hb2 n2
  replace n3 := cell_ext hb2 n3
  replace hE := hE.trans hb2
  clear hb2
  cases b0 with
  | false =>
    have hn : ¬ (LocksOk l ∧ okLck x) := fun h => Bool.noConfusion (He.out.2 h.1)
    go_wp2
    go_ret
    exact RetN.mk _ rfl (HoldF_no hn).symm hE
  | true =>
    have hok := He.out.1 rfl
    have Hok := Lib.hid hok
    clear hok He
    go_wp2_with fail
    refine (lockValid_any x _).mono ?_
    rintro e w3 ⟨b1, rfl, he, hb3⟩
    have He := Lib.hid he
    clear he
    replace n0 := cell_ext hb3 n0
    replace n1 := cell_ext hb3 n1
    replace n2 := cell_ext hb3 n2
    replace n3 := cell_ext hb3 n3
    replace hE := hE.trans hb3
    clear hb3
    cases b1 with
    | false =>
      have hn : ¬ (LocksOk l ∧ okLck x) := fun h => Bool.noConfusion (He.out.2 h.2)
      go_wp2
      go_ret
      exact RetN.mk _ rfl (HoldF_no hn).symm hE
    | true =>
      have hx := He.out.1 rfl
      have Hx := Lib.hid hx
      clear hx He
      go_wp2_with fail
      refine (implHold a _ l x _ hl (hc.ext hE)).mono ?_
      rintro e w4 ⟨n, rfl, rfl, hb4⟩
      go_wp2
      go_ret
      exact RetN.mk _ rfl (HoldF_ok Hok.out Hx.out).symm (hE.trans hb4)

set_option maxHeartbeats 4000000 in
theorem specLockHolder (a : Option Addr) (cap : Nat) (l : List Lck) (x : Lck) (w : World) (hl : l.length ≤ 9223372036854775807) (hc : Rd 4 encLck w a l) :
    Calls Try.prog 16 #[.slice a l.length cap, .agg #[.int .i64 x.who, .int .i64 x.f, .int .i64 x.t, .bool x.alone]] w (RetN (fun n => n = HoldF l x) w) := by
  go_enter Try.func16, Try.ntmps16
  go_wp2_with fail
  obtain ⟨n0, n1, n2, n3⟩ : (w.alloc (.cells #[.int .i64 x.who, .int .i64 x.f, .int .i64 x.t, .bool x.alone] 32)).cell? ⟨w.heap.size, 0, none⟩ = some (.int .i64 x.who) ∧ (w.alloc (.cells #[.int .i64 x.who, .int .i64 x.f, .int .i64 x.t, .bool x.alone] 32)).cell? ⟨w.heap.size, 1, none⟩ = some (.int .i64 x.f) ∧ (w.alloc (.cells #[.int .i64 x.who, .int .i64 x.f, .int .i64 x.t, .bool x.alone] 32)).cell? ⟨w.heap.size, 2, none⟩ = some (.int .i64 x.t) ∧ (w.alloc (.cells #[.int .i64 x.who, .int .i64 x.f, .int .i64 x.t, .bool x.alone] 32)).cell? ⟨w.heap.size, 3, none⟩ = some (.bool x.alone) := by simp
  have hE := (Ext.refl w).alloc (.cells #[.int .i64 x.who, .int .i64 x.f, .int .i64 x.t, .bool x.alone] 32)
  generalize (w.alloc (.cells #[.int .i64 x.who, .int .i64 x.f, .int .i64 x.t, .bool x.alone] 32)) = wa at *
  refine (specLocksValid a _ l _ hl (hc.ext hE)).mono ?_
  rintro e w2 ⟨b0, rfl, he, hb2⟩
  have He := Lib.hid he
  clear he
  replace n0 := cell_ext hb2 n0
  replace n1 := cell_ext hb2 n1
  replace n2 := cell_ext hb2 n2
  replace n3 := cell_ext hb2 n3
  replace hE := hE.trans hb2
  clear hb2
  cases b0 with
  | false =>
    have hn : ¬ (LocksOk l ∧ okLck x) := fun h => Bool.noConfusion (He.out.2 h.1)
    go_wp2
    go_ret
    exact RetN.mk _ rfl (HoldF_no hn).symm hE
  | true =>
    have hok := He.out.1 rfl
    have Hok := Lib.hid hok
    clear hok He
    go_wp2_with fail
    have hE2 := (Ext.refl w2).alloc (.cells #[.int .i64 x.who, .int .i64 x.f, .int .i64 x.t, .bool x.alone] 32)
    have rd1 : Rd 4 encLck (w2.alloc (.cells #[.int .i64 x.who, .int .i64 x.f, .int .i64 x.t, .bool x.alone] 32)) (some ⟨w2.heap.size, 0, none⟩) [x] := rd_lit_new [x] encLck_len rfl
    generalize (w2.alloc (.cells #[.int .i64 x.who, .int .i64 x.f, .int .i64 x.t, .bool x.alone] 32)) = wb at *
    refine (specLocksValid (some ⟨w2.heap.size, 0, none⟩) _ [x] _ (by simp) rd1).mono ?_
    rintro e w3 ⟨b1, rfl, he, hb3⟩
    have He := Lib.hid (he.trans locks_one)
    clear he rd1
    replace hE2 := hE2.trans hb3
    replace n0 := cell_ext hE2 n0
    replace n1 := cell_ext hE2 n1
    replace n2 := cell_ext hE2 n2
    replace n3 := cell_ext hE2 n3
    replace hE := hE.trans hE2
    clear hb3 hE2
    cases b1 with
    | false =>
      have hn : ¬ (LocksOk l ∧ okLck x) := fun h => Bool.noConfusion (He.out.2 h.2)
      go_wp2
      go_ret
      exact RetN.mk _ rfl (HoldF_no hn).symm hE
    | true =>
      have hx := He.out.1 rfl
      have Hx := Lib.hid hx
      clear hx He
      go_wp2
      go_loopw [5] (fun i wr => ∃ k : Nat, k ≤ l.length ∧ i = .int .i64 k ∧ (∀ (j : Nat) p, j < k → l[j]? = some p → ¬ blocksL p x) ∧ Ext w3 wr) (fun i _ => l.length - (intOf i).toNat)
      case atStart => exact ⟨0, Nat.zero_le _, rfl, fun _ _ h => absurd h (Nat.not_lt_zero _), Ext.refl _⟩
      case round =>
        obtain ⟨k, hk, rfl, hpre, hb⟩ := hrel
        have Hpre := Lib.hid hpre
        clear hpre
        by_cases hlt : k < l.length
        · obtain ⟨p, b, off, hp, rfl, d0, d1, d2, d3⟩ := atLck ((hc.ext hE).ext hb) hlt
          have Hp := Lib.hid hp
          clear hp
          go_wp2
          have q0 := ExtW.cell d0
          have q1 := ExtW.cell d1
          have q2 := ExtW.cell d2
          have q3 := ExtW.cell d3
          have m0 := ExtW.cell (cell_ext hb n0)
          have m1 := ExtW.cell (cell_ext hb n1)
          have m2 := ExtW.cell (cell_ext hb n2)
          have m3 := ExtW.cell (cell_ext hb n3)
          have bl := ExtW.lt d0
          have bm := ExtW.lt (cell_ext hb n0)
          have i0 : (0 : Int) ≤ (k : Int) := by omega
          have i1 : (k : Int) < (l.length : Int) := by omega
          clear n0 n1 n2 n3 d1 d2 d3
          by_cases hw : p.who = x.who
          · have tw : (p.who != x.who) = false := by simpa using hw
            have hn : ¬ blocksL p x := fun h => h.1 hw
            have hm := True.intro
            clear hw d0
            (refine wp_region_quiet_ext (by kernel_rfl) (by kernel_rfl) ?_; (repeat (go_big_quiet_step ((go_at_call 32; exact Calls.at_b (T := meetL p x) true (by simp [hm]) (l32Meet_any _ _ _ _ _ _ _ _ _))))); refine wpQuiet_nil ?_; intro _ hw'; obtain ⟨sq, hw''⟩ := hw'; subst hw'')
            obtain ⟨w3, hw3⟩ := sq
            go_wp2
            go_roundw
            case rel => exact ⟨k + 1, by omega, by go_num, bnone_next Hpre.out Hp.out hn, hb.trans hw3⟩
            case measure => simp [intOf]; omega
          · have tw : (p.who != x.who) = true := by simpa using hw
            by_cases hm : meetL p x
            · by_cases h1 : p.alone = true
              · have hcl : blocksL p x := ⟨hw, hm, .inl h1⟩
                rw [h1] at q3
                clear hw h1
                (refine wp_region_quiet_ext (by kernel_rfl) (by kernel_rfl) ?_; (repeat (go_big_quiet_step ((go_at_call 32; exact Calls.at_b (T := meetL p x) true (by simp [hm]) (l32Meet_any _ _ _ _ _ _ _ _ _))))); refine wpQuiet_nil ?_; intro _ hw'; obtain ⟨sq, hw''⟩ := hw'; subst hw'')
                obtain ⟨w3, hw3⟩ := sq
                replace d0 := cell_ext hw3 d0
                go_wp2
                go_ret
                exact RetN.mk _ rfl ((HoldF_ok Hok.out Hx.out).trans (hold_hit Hpre.out Hp.out hcl)).symm ((hE.trans hb).trans hw3)
              · by_cases h2 : x.alone = true
                · have hcl : blocksL p x := ⟨hw, hm, .inr h2⟩
                  replace h1 : p.alone = false := by simpa using h1
                  rw [h1] at q3
                  rw [h2] at m3
                  clear hw h1 h2
                  (refine wp_region_quiet_ext (by kernel_rfl) (by kernel_rfl) ?_; (repeat (go_big_quiet_step ((go_at_call 32; exact Calls.at_b (T := meetL p x) true (by simp [hm]) (l32Meet_any _ _ _ _ _ _ _ _ _))))); refine wpQuiet_nil ?_; intro _ hw'; obtain ⟨sq, hw''⟩ := hw'; subst hw'')
                  obtain ⟨w3, hw3⟩ := sq
                  replace d0 := cell_ext hw3 d0
                  go_wp2
                  go_ret
                  exact RetN.mk _ rfl ((HoldF_ok Hok.out Hx.out).trans (hold_hit Hpre.out Hp.out hcl)).symm ((hE.trans hb).trans hw3)
                · have hn : ¬ blocksL p x := fun h => h.2.2.elim h1 h2
                  replace h1 : p.alone = false := by simpa using h1
                  replace h2 : x.alone = false := by simpa using h2
                  rw [h1] at q3
                  rw [h2] at m3
                  clear hw h1 h2 d0
                  (refine wp_region_quiet_ext (by kernel_rfl) (by kernel_rfl) ?_; (repeat (go_big_quiet_step ((go_at_call 32; exact Calls.at_b (T := meetL p x) true (by simp [hm]) (l32Meet_any _ _ _ _ _ _ _ _ _))))); refine wpQuiet_nil ?_; intro _ hw'; obtain ⟨sq, hw''⟩ := hw'; subst hw'')
                  obtain ⟨w3, hw3⟩ := sq
                  go_wp2
                  go_roundw
                  case rel => exact ⟨k + 1, by omega, by go_num, bnone_next Hpre.out Hp.out hn, hb.trans hw3⟩
                  case measure => simp [intOf]; omega
            · have hn : ¬ blocksL p x := fun h => hm h.2.1
              clear hw d0
              (refine wp_region_quiet_ext (by kernel_rfl) (by kernel_rfl) ?_; (repeat (go_big_quiet_step ((go_at_call 32; exact Calls.at_b (T := meetL p x) false (by simp [hm]) (l32Meet_any _ _ _ _ _ _ _ _ _))))); refine wpQuiet_nil ?_; intro _ hw'; obtain ⟨sq, hw''⟩ := hw'; subst hw'')
              obtain ⟨w3, hw3⟩ := sq
              go_wp2
              go_roundw
              case rel => exact ⟨k + 1, by omega, by go_num, bnone_next Hpre.out Hp.out hn, hb.trans hw3⟩
              case measure => simp [intOf]; omega
        · go_wp2
          go_ret
          exact RetN.mk _ rfl ((HoldF_ok Hok.out Hx.out).trans (hold_none (fun j q hq => Hpre.out j q (by have := (List.getElem?_eq_some_iff.1 hq).1; omega) hq))).symm (hE.trans hb)
end Go.Proofs.Ytaofbdhljnhlnaa
