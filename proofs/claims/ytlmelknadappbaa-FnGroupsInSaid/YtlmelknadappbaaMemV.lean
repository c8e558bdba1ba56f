/- Members: when they are valid; contracts of MembersValid. Condition: lists shorter than 2^63. -/
import Derived.Test.YtlmelknadappbaaMemFam
import Derived.Test.YtlmelknadappbaaMemAny
import Derived.Test.YtlmelknadappbaaQuiet
namespace Go.Proofs.Ytlmelknadappbaa
open Go.RowKit

def okMem (x : Mem) : Prop := (1 ≤ x.num ∧ x.num ≤ 99) ∧ (1 ≤ x.grp ∧ x.grp ≤ 99) ∧ 1 ≤ x.ses ∧ x.ses ≤ 99
def apart (p x : Mem) : Prop := p.grp = x.grp ∧ p.ses ≠ x.ses
def MOkAt (l : List Mem) (k : Nat) : Prop := ∀ x, l[k]? = some x → okMem x ∧ (∀ m p, k = m + 1 → l[m]? = some p → p.num < x.num) ∧ ∀ (j : Nat) p, j < k → l[j]? = some p → ¬ apart p x
def MembersOk (l : List Mem) : Prop := (∀ k, k < l.length → MOkAt l k) ∧ l.length ≤ 8
theorem mem_lt {l : List Mem} {k : Nat} {x : Mem} (hx : l[k]? = some x) : k < l.length := (List.getElem?_eq_some_iff.1 hx).1
theorem mems_bad {l : List Mem} {k : Nat} {x : Mem} (hx : l[k]? = some x) (h : ¬ okMem x) {b : Bool} (hb : b = false) : b = true ↔ MembersOk l := by
  subst hb
  simp only [Bool.false_eq_true, false_iff]
  exact fun hr => h (hr.1 k (mem_lt hx) x hx).1
theorem mems_bad2 {l : List Mem} {m : Nat} {p x : Mem} (hx : l[m + 1]? = some x) (hp : l[m]? = some p) (h : ¬ p.num < x.num) {b : Bool} (hb : b = false) : b = true ↔ MembersOk l := by
  subst hb
  simp only [Bool.false_eq_true, false_iff]
  exact fun hr => h ((hr.1 _ (mem_lt hx) x hx).2.1 m p rfl hp)
theorem mems_bad3 {l : List Mem} {j k : Nat} {p x : Mem} (hx : l[k]? = some x) (hj : j < k) (hp : l[j]? = some p) (h : apart p x) {b : Bool} (hb : b = false) : b = true ↔ MembersOk l := by
  subst hb
  simp only [Bool.false_eq_true, false_iff]
  exact fun hr => (hr.1 k (mem_lt hx) x hx).2.2 j p hj hp h
/-- What stands before the inner search. -/
def MPre (l : List Mem) (k : Nat) (x : Mem) : Prop := okMem x ∧ ∀ m p, k = m + 1 → l[m]? = some p → p.num < x.num
theorem mpre0 {l : List Mem} {x : Mem} (h : okMem x) : MPre l 0 x := ⟨h, fun m p hm => by omega⟩
theorem mpre1 {l : List Mem} {m : Nat} {p x : Mem} (h : okMem x) (hp : l[m]? = some p) (hlt : p.num < x.num) : MPre l (m + 1) x := ⟨h, fun m' p' hm hp' => by
  obtain rfl : m = m' := by omega
  rw [hp] at hp'; cases hp'; exact hlt⟩
theorem mems_next {l : List Mem} {k : Nat} {x : Mem} (h : ∀ j, j < k → MOkAt l j) (hx : l[k]? = some x) (hok : MPre l k x) (hn : ∀ (j : Nat) p, j < k → l[j]? = some p → ¬ apart p x) : ∀ j, j < k + 1 → MOkAt l j := by
  intro j hj
  rcases Nat.lt_succ_iff_lt_or_eq.1 hj with h' | rfl
  · exact h j h'
  · intro y hy
    rw [hx] at hy; cases hy
    exact ⟨hok.1, hok.2, hn⟩
theorem mems_end {l : List Mem} {k : Nat} (h : ∀ j, j < k → MOkAt l j) (hk : k = l.length) {b : Bool} (hb : b = decide (l.length ≤ 8)) : b = true ↔ MembersOk l := by
  subst hb hk
  simp only [decide_eq_true_eq]
  exact ⟨fun h8 => ⟨h, h8⟩, fun hr => hr.2⟩
theorem mnone_next {l : List Mem} {k : Nat} {p x : Mem} (h : ∀ (j : Nat) p, j < k → l[j]? = some p → ¬ apart p x) (hp : l[k]? = some p) (hn : ¬ apart p x) : ∀ (j : Nat) p, j < k + 1 → l[j]? = some p → ¬ apart p x := by
  intro j q hj hq
  rcases Nat.lt_succ_iff_lt_or_eq.1 hj with h' | rfl
  · exact h j q h' hq
  · rw [hp] at hq; cases hq; exact hn

set_option maxHeartbeats 4000000 in
theorem specMembersValid (a : Option Addr) (cap : Nat) (l : List Mem) (w : World) (hl : l.length ≤ 9223372036854775807) (hc : Rd 3 encMem w a l) :
    Calls Try.prog 12 #[.slice a l.length cap] w (RetB (MembersOk l) w) := by
  go_enter Try.func12, Try.ntmps12
  go_wp2
  go_loopw [3, 4, 5] (fun i _ _ wr => ∃ k : Nat, k ≤ l.length ∧ i = .int .i64 k ∧ (∀ j, j < k → MOkAt l j) ∧ Ext w wr) (fun i _ _ _ => l.length - (intOf i).toNat)
  case atStart => exact ⟨0, Nat.zero_le _, rfl, fun _ h => absurd h (Nat.not_lt_zero _), Ext.refl _⟩
  case round =>
    obtain ⟨k, hk, rfl, hpre, hb⟩ := hrel
    have Hpre := Lib.hid hpre
    clear hpre
    by_cases hlt : k < l.length
    · obtain ⟨x, b, off, hx, rfl, c0, c1, c2⟩ := atMem (hc.ext hb) hlt
      have Hx := Lib.hid hx
      clear hx
      go_wp2
      obtain ⟨n0, n1, n2⟩ : (wr.alloc (.cells #[.int .i64 x.num, .int .i64 x.grp, .int .i64 x.ses] 33)).cell? ⟨wr.heap.size, 0, none⟩ = some (.int .i64 x.num) ∧ (wr.alloc (.cells #[.int .i64 x.num, .int .i64 x.grp, .int .i64 x.ses] 33)).cell? ⟨wr.heap.size, 1, none⟩ = some (.int .i64 x.grp) ∧ (wr.alloc (.cells #[.int .i64 x.num, .int .i64 x.grp, .int .i64 x.ses] 33)).cell? ⟨wr.heap.size, 2, none⟩ = some (.int .i64 x.ses) := by simp
      have hE := hb.alloc (.cells #[.int .i64 x.num, .int .i64 x.grp, .int .i64 x.ses] 33)
      clear c0 c1 c2
      generalize (wr.alloc (.cells #[.int .i64 x.num, .int .i64 x.grp, .int .i64 x.ses] 33)) = wa at *
      have m0 := ExtW.cell n0
      have m1 := ExtW.cell n1
      have m2 := ExtW.cell n2
      have bm := ExtW.lt n0
      by_cases hok : okMem x
      · have Hok := Lib.hid hok
        obtain ⟨h1, h2, h3⟩ := hok
        have e1 := inB_iff.2 h1
        have e2 := inB_iff.2 h2
        have e3 := inB_iff.2 h3
        clear h1 h2 h3
        rcases k with _ | m
        · (refine wp_region_quiet_ext (by kernel_rfl) (by kernel_rfl) ?_; (repeat (go_big_quiet_step ((go_at_call 34; exact Calls.at_same (l1In_any _ _ _ _))))); refine wpQuiet_nil ?_; intro _ hw'; obtain ⟨sq, hw''⟩ := hw'; subst hw'')
          obtain ⟨w3, hw3⟩ := sq
          replace hE := hE.trans hw3
          replace n0 := cell_ext hw3 n0
          replace n1 := cell_ext hw3 n1
          replace n2 := cell_ext hw3 n2
          have Hok := Lib.hid (mpre0 (l := l) Hok.out)
          clear m0 m1 m2 bm e1 e2 e3
          simp only [] at hE n0 n1 n2 ⊢
          go_wp2
          go_loopw [5] (fun i wq => ∃ j : Nat, j ≤ 0 ∧ i = .int .i64 j ∧ (∀ (i : Nat) p, i < j → l[i]? = some p → ¬ apart p x) ∧ Ext w3 wq) (fun i _ => 0 - (intOf i).toNat)
          case atStart => exact ⟨0, Nat.zero_le _, rfl, fun _ _ h => absurd h (Nat.not_lt_zero _), Ext.refl _⟩
          case round =>
            obtain ⟨j, hj, rfl, hpre, hq⟩ := hrel
            have Hnone := Lib.hid hpre
            clear hpre
            by_cases hjk : j < 0
            · exact absurd hjk (Nat.not_lt_zero _)
            · obtain rfl : j = 0 := by omega
              go_wp2
              go_roundw
              case rel => exact ⟨0 + 1, by omega, by go_num, mems_next Hpre.out Hx.out Hok.out Hnone.out, hE.trans hq⟩
              case measure => simp [intOf]; omega
        · obtain ⟨p, b', off', hp, ha, d0, d1, d2⟩ := atMem (hc.ext hE) (show m < l.length by omega)
          obtain ⟨rfl, rfl⟩ : b = b' ∧ off = off' := by simpa using ha
          have Hp := Lib.hid hp
          clear hp ha
          have q0 := ExtW.cell d0
          have bl := ExtW.lt d0
          have s1 : IntKind.i64.wrap (m : Int) = (m : Int) := IntWalk.i64_in _ (by omega)
          have i0 : (0 : Int) ≤ (m : Int) := by omega
          have i1 : (m : Int) < (l.length : Int) := by omega
          clear d0 d1 d2
          by_cases h5 : x.num ≤ p.num
          · (refine wp_region_quiet_ext (by kernel_rfl) (by kernel_rfl) ?_; (repeat (go_big_quiet_step ((go_at_call 34; exact Calls.at_same (l1In_any _ _ _ _))))); refine wpQuiet_nil ?_; intro _ hw'; obtain ⟨sq, hw''⟩ := hw'; subst hw'')
            obtain ⟨w3, hw3⟩ := sq
            go_wp2
            go_ret
            exact RetB.mk false rfl (mems_bad2 Hx.out Hp.out (by omega) rfl) (hE.trans hw3)
          · (refine wp_region_quiet_ext (by kernel_rfl) (by kernel_rfl) ?_; (repeat (go_big_quiet_step ((go_at_call 34; exact Calls.at_same (l1In_any _ _ _ _))))); refine wpQuiet_nil ?_; intro _ hw'; obtain ⟨sq, hw''⟩ := hw'; subst hw'')
            obtain ⟨w3, hw3⟩ := sq
            replace hE := hE.trans hw3
            replace n0 := cell_ext hw3 n0
            replace n1 := cell_ext hw3 n1
            replace n2 := cell_ext hw3 n2
            have Hok := Lib.hid (mpre1 (l := l) Hok.out Hp.out (by omega))
            clear m0 m1 m2 bm e1 e2 e3 q0 bl h5 s1 Hp
            simp only [] at hE n0 n1 n2 ⊢
            go_wp2
            go_loopw [5] (fun i wq => ∃ j : Nat, j ≤ m + 1 ∧ i = .int .i64 j ∧ (∀ (i : Nat) p, i < j → l[i]? = some p → ¬ apart p x) ∧ Ext w3 wq) (fun i _ => m + 1 - (intOf i).toNat)
            case atStart => exact ⟨0, Nat.zero_le _, rfl, fun _ _ h => absurd h (Nat.not_lt_zero _), Ext.refl _⟩
            case round =>
              obtain ⟨j, hj, rfl, hpre, hq⟩ := hrel
              have Hnone := Lib.hid hpre
              clear hpre
              by_cases hjk : j < m + 1
              · obtain ⟨p, b', off', hp, ha, d0, d1, d2⟩ := atMem ((hc.ext hE).ext hq) (show j < l.length by omega)
                obtain ⟨rfl, rfl⟩ : b = b' ∧ off = off' := by simpa using ha
                have Hp := Lib.hid hp
                clear hp ha
                go_wp2
                have q1 := ExtW.cell d1
                have q2 := ExtW.cell d2
                have m1 := ExtW.cell (cell_ext hq n1)
                have m2 := ExtW.cell (cell_ext hq n2)
                have bl := ExtW.lt d0
                have bm := ExtW.lt (cell_ext hq n0)
                have i0 : (0 : Int) ≤ (j : Int) := by omega
                have i1 : (j : Int) < (l.length : Int) := by omega
                clear n0 n1 n2 d0 d1 d2
                by_cases hg : p.grp = x.grp
                · by_cases hs : p.ses = x.ses
                  · have tg : (p.grp == x.grp) = true := by simpa using hg
                    have ts : (p.ses != x.ses) = false := by simpa using hs
                    have hcl : ¬ apart p x := fun h => h.2 hs
                    clear hg hs
                    (refine wp_region_quiet_ext (by kernel_rfl) (by kernel_rfl) ?_; (repeat (go_big_quiet_step (fail))); refine wpQuiet_nil ?_; intro _ hw'; obtain ⟨sq, hw''⟩ := hw'; subst hw'')
                    obtain ⟨w4, hw4⟩ := sq
                    go_wp2
                    go_roundw
                    case rel => exact ⟨j + 1, by omega, by go_num, mnone_next Hnone.out Hp.out hcl, hq.trans hw4⟩
                    case measure => simp [intOf]; omega
                  · have tg : (p.grp == x.grp) = true := by simpa using hg
                    have ts : (p.ses != x.ses) = true := by simpa using hs
                    have hcl : apart p x := ⟨hg, hs⟩
                    clear hg hs
                    (refine wp_region_quiet_ext (by kernel_rfl) (by kernel_rfl) ?_; (repeat (go_big_quiet_step (fail))); refine wpQuiet_nil ?_; intro _ hw'; obtain ⟨sq, hw''⟩ := hw'; subst hw'')
                    obtain ⟨w4, hw4⟩ := sq
                    go_wp2
                    go_ret
                    exact RetB.mk false rfl (mems_bad3 Hx.out hjk Hp.out hcl rfl) ((hE.trans hq).trans hw4)
                · have tg : (p.grp == x.grp) = false := by simpa using hg
                  have hcl : ¬ apart p x := fun h => hg h.1
                  clear hg
                  (refine wp_region_quiet_ext (by kernel_rfl) (by kernel_rfl) ?_; (repeat (go_big_quiet_step (fail))); refine wpQuiet_nil ?_; intro _ hw'; obtain ⟨sq, hw''⟩ := hw'; subst hw'')
                  obtain ⟨w4, hw4⟩ := sq
                  go_wp2
                  go_roundw
                  case rel => exact ⟨j + 1, by omega, by go_num, mnone_next Hnone.out Hp.out hcl, hq.trans hw4⟩
                  case measure => simp [intOf]; omega
              · obtain rfl : j = m + 1 := by omega
                go_wp2
                go_roundw
                case rel => exact ⟨m + 1 + 1, by omega, by go_num, mems_next Hpre.out Hx.out Hok.out Hnone.out, hE.trans hq⟩
                case measure => simp [intOf]; omega
      · by_cases h1 : 1 ≤ x.num ∧ x.num ≤ 99
        · have e1 := inB_iff.2 h1
          by_cases h2 : 1 ≤ x.grp ∧ x.grp ≤ 99
          · have e2 := inB_iff.2 h2
            have e3 : inB x.ses 1 99 = false := inB_false (fun h => hok ⟨h1, h2, h⟩)
            clear h1 h2
            (refine wp_region_quiet_ext (by kernel_rfl) (by kernel_rfl) ?_; (repeat (go_big_quiet_step ((go_at_call 34; exact Calls.at_same (l1In_any _ _ _ _))))); refine wpQuiet_nil ?_; intro _ hw'; obtain ⟨sq, hw''⟩ := hw'; subst hw'')
            obtain ⟨w3, hw3⟩ := sq
            go_wp2
            go_ret
            exact RetB.mk false rfl (mems_bad Hx.out hok rfl) (hE.trans hw3)
          · have e2 := inB_false h2
            clear h1 h2
            (refine wp_region_quiet_ext (by kernel_rfl) (by kernel_rfl) ?_; (repeat (go_big_quiet_step ((go_at_call 34; exact Calls.at_same (l1In_any _ _ _ _))))); refine wpQuiet_nil ?_; intro _ hw'; obtain ⟨sq, hw''⟩ := hw'; subst hw'')
            obtain ⟨w3, hw3⟩ := sq
            go_wp2
            go_ret
            exact RetB.mk false rfl (mems_bad Hx.out hok rfl) (hE.trans hw3)
        · have e1 := inB_false h1
          clear h1
          (refine wp_region_quiet_ext (by kernel_rfl) (by kernel_rfl) ?_; (repeat (go_big_quiet_step ((go_at_call 34; exact Calls.at_same (l1In_any _ _ _ _))))); refine wpQuiet_nil ?_; intro _ hw'; obtain ⟨sq, hw''⟩ := hw'; subst hw'')
          obtain ⟨w3, hw3⟩ := sq
          go_wp2
          go_ret
          exact RetB.mk false rfl (mems_bad Hx.out hok rfl) (hE.trans hw3)
    · go_wp2
      go_ret
      exact RetB.mk _ rfl (mems_end Hpre.out (by omega) (by simp; omega)) hb

set_option maxHeartbeats 1000000 in
theorem memApart_any (y : Mem) (c : Nat) (x : Mem) (w : World) (m1 : w.cell? ⟨c, 1, none⟩ = some (.int .i64 y.grp)) (m2 : w.cell? ⟨c, 2, none⟩ = some (.int .i64 y.ses)) :
    Calls Try.prog 38 #[.agg #[.int .i64 x.num, .int .i64 x.grp, .int .i64 x.ses], .pointer (some ⟨c, 0, none⟩)] w (RetB (apart x y) w) := by
  have hc := World.block_lt_of_cell? w ⟨c, 1, none⟩ m1
  have hne : c ≠ w.heap.size := Nat.ne_of_lt hc
  have hne' : w.heap.size ≠ c := Ne.symm hne
  by_cases hg : x.grp = y.grp
  · have tg : (x.grp == y.grp) = true := by simpa using hg
    have Hg := Lib.hid hg
    clear hg
    go_enter Try.func38, Try.ntmps38
    go_wp2
    go_ret
    exact RetB.mk (x.ses != y.ses) (by simp) (by simp [apart, Hg.out]) ((Ext.refl _).alloc _)
  · have tg : (x.grp == y.grp) = false := by simpa using hg
    have Hg := Lib.hid hg
    clear hg
    go_enter Try.func38, Try.ntmps38
    go_wp2
    go_ret
    exact RetB.mk false (by simp) (by simp [apart, Hg.out]) ((Ext.refl _).alloc _)

theorem memApart_call (args : Array Value) (w : World) : (callFunc 38 args).run Try.prog w = .ok (.enter 38 args) w := by
  simp [go_sem]

set_option maxHeartbeats 4000000 in
theorem implMembersValid (a : Option Addr) (cap : Nat) (l : List Mem) (w : World) (hl : l.length ≤ 9223372036854775807) (hcap : l.length ≤ cap) (hc : Rd 3 encMem w a l) :
    Calls Try.prog 14 #[.slice a l.length cap] w (RetB (MembersOk l) w) := by
  go_enter Try.func14, Try.ntmps14
  go_wp2
  go_loopw [3, 4, 7] (fun _ _ i wr => ∃ k : Nat, k ≤ l.length ∧ i = .int .i64 k ∧ (∀ j, j < k → MOkAt l j) ∧ Ext w wr) (fun _ _ i _ => l.length - (intOf i).toNat)
  case atStart => exact ⟨0, Nat.zero_le _, rfl, fun _ h => absurd h (Nat.not_lt_zero _), Ext.refl _⟩
  case round =>
    obtain ⟨k, hk, rfl, hpre, hb⟩ := hrel
    have Hpre := Lib.hid hpre
    clear hpre
    by_cases hlt : k < l.length
    · obtain ⟨x, b, off, hx, rfl, c0, c1, c2⟩ := atMem (hc.ext hb) hlt
      have Hx := Lib.hid hx
      clear hx
      go_wp2
      obtain ⟨n0, n1, n2⟩ : (wr.alloc (.cells #[.int .i64 x.num, .int .i64 x.grp, .int .i64 x.ses] 33)).cell? ⟨wr.heap.size, 0, none⟩ = some (.int .i64 x.num) ∧ (wr.alloc (.cells #[.int .i64 x.num, .int .i64 x.grp, .int .i64 x.ses] 33)).cell? ⟨wr.heap.size, 1, none⟩ = some (.int .i64 x.grp) ∧ (wr.alloc (.cells #[.int .i64 x.num, .int .i64 x.grp, .int .i64 x.ses] 33)).cell? ⟨wr.heap.size, 2, none⟩ = some (.int .i64 x.ses) := by simp
      have hE := hb.alloc (.cells #[.int .i64 x.num, .int .i64 x.grp, .int .i64 x.ses] 33)
      clear c0 c1 c2
      generalize (wr.alloc (.cells #[.int .i64 x.num, .int .i64 x.grp, .int .i64 x.ses] 33)) = wa at *
      have m0 := ExtW.cell n0
      have m1 := ExtW.cell n1
      have m2 := ExtW.cell n2
      have bm := ExtW.lt n0
      by_cases hok : okMem x
      · have Hok := Lib.hid hok
        obtain ⟨h1, h2, h3⟩ := hok
        have e1 := inB_iff.2 h1
        have e2 := inB_iff.2 h2
        have e3 := inB_iff.2 h3
        clear h1 h2 h3
        rcases k with _ | m
        · (refine wp_region_quiet_ext (by kernel_rfl) (by kernel_rfl) ?_; (repeat (go_big_quiet_step ((go_at_call 36; exact Calls.at_same (isProcess_any _ _))))); refine wpQuiet_nil ?_; intro _ hw'; obtain ⟨sq, hw''⟩ := hw'; subst hw'')
          obtain ⟨w3, hw3⟩ := sq
          replace hE := hE.trans hw3
          replace n0 := cell_ext hw3 n0
          replace n1 := cell_ext hw3 n1
          replace n2 := cell_ext hw3 n2
          have Hok := Lib.hid (mpre0 (l := l) Hok.out)
          clear m0 m1 m2 bm e1 e2 e3
          simp only [] at hE n0 n1 n2 ⊢
          have i0 : (0 : Int) ≤ ((0 : Nat) : Int) := by omega
          have i1 : (0) ≤ cap := by omega
          go_wp2_with fail
          have hfn : ∀ (p : Mem) w', Ext w3 w' → Calls Try.prog 38 (#[.agg #[.int .i64 p.num, .int .i64 p.grp, .int .i64 p.ses]] ++ #[.pointer (some ⟨wr.heap.size, 0, none⟩)]) w' (RetB (apart p x) w') := fun p w' hw' => by
            rw [app1]
            exact memApart_any x wr.heap.size p w' (cell_ext hw' n1) (cell_ext hw' n2)
          have hlk : (0) = (l.take (0)).length := by simp <;> omega
          have hrk := (hc.ext hE).take (0)
          have hll : (l.take (0)).length ≤ 9223372036854775807 := by simp <;> omega
          (with_reducible refine (hasMem_fn (some ⟨b, off, none⟩) _ (0) (l.take (0)) w3 38 #[.pointer (some ⟨wr.heap.size, 0, none⟩)] (fun p => apart p x) hlk hll hrk memApart_call hfn).mono ?_)
          clear hlk hll hrk hfn
          rintro e w4 ⟨b1, rfl, he, hb3⟩
          have He := Lib.hid he
          clear he n0 n1 n2
          cases b1 with
          | true =>
            have Hx2 := Lib.hid (He.out.1 rfl)
            go_wp2
            go_ret
            refine RetB.mk false rfl ?_ (hE.trans hb3)
            obtain ⟨j, p, hp, hcl⟩ := Hx2.out
            rw [List.getElem?_take] at hp
            split at hp
            · rename_i hjk
              exact mems_bad3 Hx.out hjk hp hcl rfl
            · cases hp
          | false =>
            have Hx2 := Lib.hid (fun h => Bool.noConfusion (He.out.2 h) : ¬ _)
            go_wp2
            go_roundw
            case rel =>
              refine ⟨0 + 1, by omega, by go_num, mems_next Hpre.out Hx.out Hok.out (fun j p hj hp hcl => Hx2.out ⟨j, p, ?_, hcl⟩), hE.trans hb3⟩
              rw [List.getElem?_take, if_pos hj]
              exact hp
            case measure => simp [intOf]; omega
        · obtain ⟨p, b', off', hp, ha, d0, d1, d2⟩ := atMem (hc.ext hE) (show m < l.length by omega)
          obtain ⟨rfl, rfl⟩ : b = b' ∧ off = off' := by simpa using ha
          have Hp := Lib.hid hp
          clear hp ha
          have q0 := ExtW.cell d0
          have bl := ExtW.lt d0
          have s1 : IntKind.i64.wrap (m : Int) = (m : Int) := IntWalk.i64_in _ (by omega)
          have i0 : (0 : Int) ≤ (m : Int) := by omega
          have i1 : (m : Int) < (l.length : Int) := by omega
          clear d0 d1 d2
          by_cases h5 : p.num ≥ x.num
          · (refine wp_region_quiet_ext (by kernel_rfl) (by kernel_rfl) ?_; (repeat (go_big_quiet_step ((go_at_call 36; exact Calls.at_same (isProcess_any _ _))))); refine wpQuiet_nil ?_; intro _ hw'; obtain ⟨sq, hw''⟩ := hw'; subst hw'')
            obtain ⟨w3, hw3⟩ := sq
            go_wp2
            go_ret
            exact RetB.mk false rfl (mems_bad2 Hx.out Hp.out (by omega) rfl) (hE.trans hw3)
          · (refine wp_region_quiet_ext (by kernel_rfl) (by kernel_rfl) ?_; (repeat (go_big_quiet_step ((go_at_call 36; exact Calls.at_same (isProcess_any _ _))))); refine wpQuiet_nil ?_; intro _ hw'; obtain ⟨sq, hw''⟩ := hw'; subst hw'')
            obtain ⟨w3, hw3⟩ := sq
            replace hE := hE.trans hw3
            replace n0 := cell_ext hw3 n0
            replace n1 := cell_ext hw3 n1
            replace n2 := cell_ext hw3 n2
            have Hok := Lib.hid (mpre1 (l := l) Hok.out Hp.out (by omega))
            clear m0 m1 m2 bm e1 e2 e3 q0 bl h5 s1 Hp
            simp only [] at hE n0 n1 n2 ⊢
            have i0 : (0 : Int) ≤ ((m + 1 : Nat) : Int) := by omega
            have i1 : (m + 1) ≤ cap := by omega
            go_wp2_with fail
            have hfn : ∀ (p : Mem) w', Ext w3 w' → Calls Try.prog 38 (#[.agg #[.int .i64 p.num, .int .i64 p.grp, .int .i64 p.ses]] ++ #[.pointer (some ⟨wr.heap.size, 0, none⟩)]) w' (RetB (apart p x) w') := fun p w' hw' => by
              rw [app1]
              exact memApart_any x wr.heap.size p w' (cell_ext hw' n1) (cell_ext hw' n2)
            have hlk : (m + 1) = (l.take (m + 1)).length := by simp <;> omega
            have hrk := (hc.ext hE).take (m + 1)
            have hll : (l.take (m + 1)).length ≤ 9223372036854775807 := by simp <;> omega
            (with_reducible refine (hasMem_fn (some ⟨b, off, none⟩) _ (m + 1) (l.take (m + 1)) w3 38 #[.pointer (some ⟨wr.heap.size, 0, none⟩)] (fun p => apart p x) hlk hll hrk memApart_call hfn).mono ?_)
            clear hlk hll hrk hfn
            rintro e w4 ⟨b1, rfl, he, hb3⟩
            have He := Lib.hid he
            clear he n0 n1 n2
            cases b1 with
            | true =>
              have Hx2 := Lib.hid (He.out.1 rfl)
              go_wp2
              go_ret
              refine RetB.mk false rfl ?_ (hE.trans hb3)
              obtain ⟨j, p, hp, hcl⟩ := Hx2.out
              rw [List.getElem?_take] at hp
              split at hp
              · rename_i hjk
                exact mems_bad3 Hx.out hjk hp hcl rfl
              · cases hp
            | false =>
              have Hx2 := Lib.hid (fun h => Bool.noConfusion (He.out.2 h) : ¬ _)
              go_wp2
              go_roundw
              case rel =>
                refine ⟨m + 1 + 1, by omega, by go_num, mems_next Hpre.out Hx.out Hok.out (fun j p hj hp hcl => Hx2.out ⟨j, p, ?_, hcl⟩), hE.trans hb3⟩
                rw [List.getElem?_take, if_pos hj]
                exact hp
              case measure => simp [intOf]; omega
      · by_cases h1 : 1 ≤ x.num ∧ x.num ≤ 99
        · have e1 := inB_iff.2 h1
          by_cases h2 : 1 ≤ x.grp ∧ x.grp ≤ 99
          · have e2 := inB_iff.2 h2
            have e3 : inB x.ses 1 99 = false := inB_false (fun h => hok ⟨h1, h2, h⟩)
            clear h1 h2
            (refine wp_region_quiet_ext (by kernel_rfl) (by kernel_rfl) ?_; (repeat (go_big_quiet_step ((go_at_call 36; exact Calls.at_same (isProcess_any _ _))))); refine wpQuiet_nil ?_; intro _ hw'; obtain ⟨sq, hw''⟩ := hw'; subst hw'')
            obtain ⟨w3, hw3⟩ := sq
            go_wp2
            go_ret
            exact RetB.mk false rfl (mems_bad Hx.out hok rfl) (hE.trans hw3)
          · have e2 := inB_false h2
            clear h1 h2
            (refine wp_region_quiet_ext (by kernel_rfl) (by kernel_rfl) ?_; (repeat (go_big_quiet_step ((go_at_call 36; exact Calls.at_same (isProcess_any _ _))))); refine wpQuiet_nil ?_; intro _ hw'; obtain ⟨sq, hw''⟩ := hw'; subst hw'')
            obtain ⟨w3, hw3⟩ := sq
            go_wp2
            go_ret
            exact RetB.mk false rfl (mems_bad Hx.out hok rfl) (hE.trans hw3)
        · have e1 := inB_false h1
          clear h1
          (refine wp_region_quiet_ext (by kernel_rfl) (by kernel_rfl) ?_; (repeat (go_big_quiet_step ((go_at_call 36; exact Calls.at_same (isProcess_any _ _))))); refine wpQuiet_nil ?_; intro _ hw'; obtain ⟨sq, hw''⟩ := hw'; subst hw'')
          obtain ⟨w3, hw3⟩ := sq
          go_wp2
          go_ret
          exact RetB.mk false rfl (mems_bad Hx.out hok rfl) (hE.trans hw3)
    · go_wp2
      go_ret
      exact RetB.mk _ rfl (mems_end Hpre.out (by omega) (by simp; omega)) hb

end Go.Proofs.Ytlmelknadappbaa
