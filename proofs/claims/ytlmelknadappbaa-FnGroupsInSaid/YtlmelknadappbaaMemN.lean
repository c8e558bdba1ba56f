/- NewSession: contracts of the program's and the reference's. Condition: lists of at most 2^20. -/
import Derived.Test.YtlmelknadappbaaMemS
namespace Go.Proofs.Ytlmelknadappbaa
open Go.RowKit

/-- Nothing is done: there is no such process, or there is a group with its number. -/
def Stays (l : List Mem) (n r : Int) : Prop := r < 0 ∨ ∃ (j : Nat) (x : Mem), l[j]? = some x ∧ x.grp = n
def NewR (l : List Mem) (n : Int) (L : List Mem) (ok : Bool) : Prop :=
  (¬ MembersOk l → L = [] ∧ ok = false) ∧
  (MembersOk l → ∃ r, FirstAt (fun x : Mem => x.num = n) l r ∧ (Stays l n r → L = l ∧ ok = false) ∧ (¬ Stays l n r → L = l.set r.toNat ⟨n, n, n⟩ ∧ ok = true))
theorem newR_fun {l : List Mem} {n : Int} {L L' : List Mem} {ok ok' : Bool} (h : NewR l n L ok) (h' : NewR l n L' ok') : L = L' ∧ ok = ok' := by
  by_cases hv : MembersOk l
  · obtain ⟨r, h1, h2, h3⟩ := h.2 hv
    obtain ⟨r', k1, k2, k3⟩ := h'.2 hv
    obtain rfl := first_unique h1 k1
    by_cases hs : Stays l n r
    · exact ⟨(h2 hs).1.trans (k2 hs).1.symm, (h2 hs).2.trans (k2 hs).2.symm⟩
    · exact ⟨(h3 hs).1.trans (k3 hs).1.symm, (h3 hs).2.trans (k3 hs).2.symm⟩
  · exact ⟨(h.1 hv).1.trans (h'.1 hv).1.symm, (h.1 hv).2.trans (h'.1 hv).2.symm⟩
theorem newR_len {l : List Mem} {n : Int} {L : List Mem} {ok : Bool} (h : NewR l n L ok) (hl : l.length ≤ 1048576) : L.length ≤ 1048576 := by
  by_cases hv : MembersOk l
  · obtain ⟨r, h1, h2, h3⟩ := h.2 hv
    by_cases hs : Stays l n r
    · rw [(h2 hs).1]; exact hl
    · rw [(h3 hs).1, List.length_set]; exact hl
  · rw [(h.1 hv).1]; simp

set_option maxHeartbeats 2000000 in
theorem specNewSession (a : Option Addr) (cap : Nat) (l : List Mem) (n : Int) (w : World) (hl : l.length ≤ 1048576) (hc : Rd 3 encMem w a l) :
    Calls Try.prog 18 #[.slice a l.length cap, .int .i64 n] w (RetSB 33 3 encMem (NewR l n) w) := by
  have hc0 := hc
  go_enter Try.func18, Try.ntmps18
  go_wp2_with fail
  refine (specMembersValid _ _ l _ (by omega) hc).mono ?_
  rintro e w1 ⟨v0, rfl, hv0, E⟩
  have Hv0 := Lib.hid hv0
  clear hv0
  cases v0 with
  | false =>
    go_wp2
    go_ret2
    have hno : ¬ MembersOk l := fun h => Bool.noConfusion (Hv0.out.2 h)
    exact RetSB.mk (L := []) rfl ⟨fun _ => ⟨rfl, rfl⟩, fun h => absurd h hno⟩ (owns_lit_new [] encMem_len rfl rfl (by omega) E.size) (E.alloc _)
  | true =>
    have hok := Hv0.out.1 rfl
    have Hok := Lib.hid hok
    clear hok Hv0
    go_wp2_with (at_builtin; refine wpList_append_lit rfl _ _ 25 rfl w.heap.size 33 _ 3 _ Try.underlying25 infoMem rfl (by decide) encMem_len encMem_one w1.heap.size rfl (heap_alloc_new _ _) E.size a l.length cap l rfl rfl ((hc.ext E).ext ((Ext.refl _).alloc _)) (by omega) (by omega) (by have := E.size; simp; omega) ?_)
    intro v' w2 hown hE2
    replace E := (E.alloc _).trans hE2
    clear hE2
    go_wp2_with fail
    refine (specPlace a _ l n _ (by omega) (hc0.ext E)).mono ?_
    rintro e w3 ⟨r, rfl, hr, hb3⟩
    have Hr := Lib.hid hr
    clear hr
    replace E := E.trans hb3
    replace hown := ownsRow_ext hown hb3
    clear hb3
    go_wp2
    go_loopw [8] (fun i wr => ∃ k : Nat, k ≤ l.length ∧ i = .int .i64 k ∧ (∀ (j : Nat) x, j < k → l[j]? = some x → x.grp ≠ n) ∧ Ext w3 wr) (fun i _ => l.length - (intOf i).toNat)
    case atStart => exact ⟨0, Nat.zero_le _, rfl, fun _ _ h => absurd h (Nat.not_lt_zero _), Ext.refl _⟩
    case round =>
      obtain ⟨k, hk, rfl, hpre, hb⟩ := hrel
      have Hpre := Lib.hid hpre
      clear hpre
      by_cases hlt : k < l.length
      · obtain ⟨x, b, off, hx, rfl, c0, c1, c2⟩ := atMem ((hc0.ext E).ext hb) hlt
        have Hx := Lib.hid hx
        clear hx hc
        by_cases hg : x.grp = n
        · have tn : (x.grp == n) = true := by simpa using hg
          have Hs : Hid (Stays l n r) := Lib.hid (.inr ⟨k, x, Hx.out, hg⟩)
          clear hg
          go_wp2
          go_ret2
          exact RetSB.mk (L := l) rfl ⟨fun h => absurd Hok.out h, fun _ => ⟨r, Hr.out, fun _ => ⟨rfl, rfl⟩, fun h => absurd Hs.out h⟩⟩ (ownsRow_ext hown hb) (E.trans hb)
        · have tn : (x.grp == n) = false := by simpa using hg
          have Hg := Lib.hid hg
          clear hg
          go_wp2
          go_roundw
          case rel =>
            refine ⟨k + 1, by omega, by go_num, fun j y hj hy => ?_, hb⟩
            rcases Nat.lt_succ_iff_lt_or_eq.1 hj with h' | rfl
            · exact Hpre.out j y h' hy
            · have h1 := Hx.out
              rw [hy] at h1; cases h1
              exact Hg.out
          case measure => simp [intOf]; omega
      · have Hgrp : Hid (¬ ∃ (j : Nat) (x : Mem), l[j]? = some x ∧ x.grp = n) := Lib.hid (fun ⟨j, y, hy, h⟩ => Hpre.out j y (by have := (List.getElem?_eq_some_iff.1 hy).1; omega) hy h)
        replace hown := ownsRow_ext hown hb
        replace E := E.trans hb
        by_cases h0 : r < 0
        · have Hs : Hid (Stays l n r) := Lib.hid (.inl h0)
          go_wp2
          go_ret2
          exact RetSB.mk (L := l) rfl ⟨fun h => absurd Hok.out h, fun _ => ⟨r, Hr.out, fun _ => ⟨rfl, rfl⟩, fun h => absurd Hs.out h⟩⟩ hown E
        · have hr1 : r < l.length := Hr.out.2.1
          have Hs : Hid (¬ Stays l n r) := Lib.hid (fun h => h.elim h0 Hgrp.out)
          have Hr2 := Lib.hid (show NewR l n (l.set r.toNat ⟨n, n, n⟩) true from ⟨fun h => absurd Hok.out h, fun _ => ⟨r, Hr.out, fun h => absurd h Hs.out, fun _ => ⟨rfl, rfl⟩⟩⟩)
          obtain ⟨x, hx, hxn⟩ := Hr.out.2.2.2.1 (by omega)
          obtain ⟨m, rfl⟩ : ∃ m : Nat, r = m := ⟨r.toNat, by omega⟩
          simp only [Int.toNat_natCast] at hx Hr2
          have hm : m < l.length := by omega
          have hlm : l[m] = x := by rw [List.getElem?_eq_getElem hm] at hx; simpa using hx
          have h5 := hown
          rcases hown.2 with ⟨rfl, hz⟩ | ⟨g, cap', cur, rfl, hbg, _⟩
          · exact absurd hz (by omega)
          · have f0 := hown.frozenAt
            have g1 := owns_at encMem_len hown m hm 1 _ rfl
            have g2 := owns_at encMem_len hown m hm 2 _ rfl
            have o1 := owns_set encMem_len hown m 1 (.int .i64 n) ⟨l[m].num, n, l[m].ses⟩ hm (by omega) rfl
            have o2 := owns_set encMem_len o1 m 2 (.int .i64 n) ⟨l[m].num, n, n⟩ (by simp only [List.length_set]; exact hm) (by omega) (by rw [List.getElem_set_self]; rfl)
            rw [List.set_set, hlm, hxn] at o2
            have E2 := (E.setCell (p := ⟨g, m * 3 + 1, none⟩) hbg (.int .i64 n)).setCell (p := ⟨g, m * 3 + 2, none⟩) hbg (.int .i64 n)
            have i0 : (0 : Int) ≤ (m : Int) := by omega
            have i1 : (m : Int) < (l.length : Int) := by omega
            have Ho2 := Lib.hid o2
            clear o1 o2 hx hxn hlm h5 hown
            go_wp2
            go_ret2
            exact RetSB.mk (L := l.set m ⟨n, n, n⟩) rfl Hr2.out (by simpa using Ho2.out) E2

set_option maxHeartbeats 1000000 in
theorem grpIs_any (n : Int) (c : Nat) (x : Mem) (w : World) (m0 : w.cell? ⟨c, 0, none⟩ = some (.int .i64 n)) :
    Calls Try.prog 46 #[.agg #[.int .i64 x.num, .int .i64 x.grp, .int .i64 x.ses], .pointer (some ⟨c, 0, none⟩)] w (RetB (x.grp = n) w) := by
  have hc := World.block_lt_of_cell? w ⟨c, 0, none⟩ m0
  have hne : c ≠ w.heap.size := Nat.ne_of_lt hc
  have hne' : w.heap.size ≠ c := Ne.symm hne
  go_enter Try.func46, Try.ntmps46
  go_wp2
  go_ret
  exact RetB.mk (x.grp == n) (by simp) (by simp) ((Ext.refl _).alloc _)
theorem grpIs_call (args : Array Value) (w : World) : (callFunc 46 args).run Try.prog w = .ok (.enter 46 args) w := by
  simp [go_sem]

set_option maxHeartbeats 2000000 in
theorem implNewSession (a : Option Addr) (cap : Nat) (l : List Mem) (n : Int) (w : World) (hl : l.length ≤ 1048576) (hcap : l.length ≤ cap) (hc : Rd 3 encMem w a l) :
    Calls Try.prog 19 #[.slice a l.length cap, .int .i64 n] w (RetSB 33 3 encMem (NewR l n) w) := by
  have hc0 := hc
  go_enter Try.func19, Try.ntmps19
  go_wp2_with fail
  have n0 : (w.alloc (.cells #[.int .i64 n] 3)).cell? ⟨w.heap.size, 0, none⟩ = some (.int .i64 n) := by simp
  have E := (Ext.refl w).alloc (.cells #[.int .i64 n] 3)
  generalize (w.alloc (.cells #[.int .i64 n] 3)) = wa at *
  refine (implMembersValid _ _ l _ (by omega) hcap (hc.ext E)).mono ?_
  rintro e w1 ⟨v0, rfl, hv0, hb1⟩
  have Hv0 := Lib.hid hv0
  clear hv0
  replace n0 := cell_ext hb1 n0
  replace E := E.trans hb1
  clear hb1
  cases v0 with
  | false =>
    go_wp2
    go_ret2
    have hno : ¬ MembersOk l := fun h => Bool.noConfusion (Hv0.out.2 h)
    exact RetSB.mk (L := []) rfl ⟨fun _ => ⟨rfl, rfl⟩, fun h => absurd h hno⟩ (World.ownsRow_nil _ _ _ _) E
  | true =>
    have hok := Hv0.out.1 rfl
    have Hok := Lib.hid hok
    clear hok Hv0
    go_wp2
    have hcd : Rd 3 encMem w1.drew a l := hc0.ext E.drew
    have n0d : w1.drew.cell? ⟨w.heap.size, 0, none⟩ = some (.int .i64 n) := n0
    refine wp_region_v 7 (V := fun i v wv => match i with
      | 0 => v = .slice a l.length cap
      | 1 => OwnV w.heap.size 33 3 encMem l v wv
      | 2 => v = .slice a l.length cap
      | 3 => v = .int .i64 n
      | 4 => PostI (FirstAt (fun x : Mem => x.num = n) l) v
      | 5 => OwnV w.heap.size 33 3 encMem l v wv
      | 6 => PostI (FirstAt (fun x : Mem => x.num = n) l) v
      | _ => True) rfl (by decide) (by kernel_rfl) (by kernel_rfl) (by kernel_rfl) ?_ ?_ ?_
    · intro i v w2 w3 h hE
      match i with
      | 0 => exact h
      | 1 => exact OwnV.ext h hE
      | 2 => exact h
      | 3 => exact h
      | 4 => exact h
      | 5 => exact OwnV.ext h hE
      | 6 => exact h
      | (n + 7) => trivial
    · intro i o hi ho vs w2 hvl hE hd
      have hc2 := hcd.ext hE
      have c0 := cell_ext hE n0d
      have hsz : w.heap.size ≤ w2.heap.size := Nat.le_trans E.size hE.size
      match vs, hvl with
      | [x0, x1, x2, x3, x4, x5, x6], _ =>
      rcases (show i = 0 ∨ i = 1 ∨ i = 2 ∨ i = 3 ∨ i = 4 ∨ i = 5 ∨ i = 6 by omega) with rfl | rfl | rfl | rfl | rfl | rfl | rfl
      all_goals
        simp only [List.getElem?_cons_zero, List.getElem?_cons_succ, Option.some.injEq] at ho
        subst ho
        simp [Waits, Region.binds] at hd
      · simp [putAll, Act.put, hd]
        go_wp2
        exact ⟨rfl, _, rfl, rfl, Ext.refl _⟩
      · simp [putAll, Act.put, hd]
        go_wp2_with fail
        refine (cloneMem_any a cap l _ hl hc2).mono ?_
        rintro e w3 ⟨v3, rfl, hown, hb3⟩
        obtain ⟨g, c, rfl, _⟩ := rd_of_owns encMem_len hown rfl
        go_wp2
        exact ⟨rfl, _, rfl, ⟨_, _, rfl, ownsRow_base hown hsz⟩, hb3⟩
      · simp [putAll, Act.put, hd]
        go_wp2
        exact ⟨rfl, _, rfl, rfl, Ext.refl _⟩
      · simp [putAll, Act.put, hd]
        go_wp2
        exact ⟨rfl, _, rfl, rfl, Ext.refl _⟩
      · simp [putAll, Act.put, hd]
        go_wp2_with fail
        refine (implPlace a cap l n _ (by omega) hc2).mono ?_
        rintro e w3 ⟨r, rfl, hr, hb3⟩
        have Hr := Lib.hid hr
        clear hr
        go_wp2
        exact ⟨rfl, _, rfl, ⟨r, rfl, Hr.out⟩, hb3⟩
      · have h9 := hd
        simp [putAll, Act.put]
        go_wp2
        exact ⟨rfl, _, rfl, (by first | exact h9 | exact h9.1), Ext.refl _⟩
      · have h9 := hd
        simp [putAll, Act.put]
        go_wp2
        exact ⟨rfl, _, rfl, (by first | exact h9 | exact h9.1), Ext.refl _⟩
    · intro vs w2 hvl hE hV
      match vs, hvl with
      | [x0, x1, x2, x3, x4, x5, x6], _ =>
      obtain ⟨g, c, hy5, hown⟩ := hV 5 (by omega)
      obtain ⟨r, hy6, hr⟩ := hV 6 (by omega)
      have Hr := Lib.hid hr
      clear hV hr
      simp at hy5 hy6
      subst hy5 hy6
      simp only [putAll, Act.put, List.take_succ_cons, List.take_zero, List.drop_succ_cons, List.drop_zero]
      simp
      replace E : Ext w w2 := E.drew.trans hE
      replace n0 := cell_ext hE n0d
      clear hE hcd n0d
      by_cases h0 : r < 0
      · have Hs : Hid (Stays l n r) := Lib.hid (.inl h0)
        go_wp2
        go_ret2
        exact RetSB.mk (L := l) rfl ⟨fun h => absurd Hok.out h, fun _ => ⟨r, Hr.out, fun _ => ⟨rfl, rfl⟩, fun h => absurd Hs.out h⟩⟩ hown E
      · go_wp2_with fail
        have hfn : ∀ (p : Mem) w', Ext w2 w' → Calls Try.prog 46 (#[.agg #[.int .i64 p.num, .int .i64 p.grp, .int .i64 p.ses]] ++ #[.pointer (some ⟨w.heap.size, 0, none⟩)]) w' (RetB (p.grp = n) w') := fun p w' hw' => by
          rw [app1]
          exact grpIs_any n w.heap.size p w' (cell_ext hw' n0)
        have hrk := hc0.ext E
        have hll : l.length ≤ 9223372036854775807 := by omega
        (with_reducible refine (hasMem_fn a _ _ l w2 46 #[.pointer (some ⟨w.heap.size, 0, none⟩)] (fun p => p.grp = n) rfl hll hrk grpIs_call hfn).mono ?_)
        rintro e w3 ⟨b0, rfl, he, hb3⟩
        have He := Lib.hid he
        clear he hfn hrk hll
        replace hown := ownsRow_ext hown hb3
        replace E := E.trans hb3
        replace n0 := cell_ext hb3 n0
        clear hb3
        cases b0 with
        | true =>
          have Hs : Hid (Stays l n r) := Lib.hid (.inr (He.out.1 rfl))
          go_wp2
          go_ret2
          exact RetSB.mk (L := l) rfl ⟨fun h => absurd Hok.out h, fun _ => ⟨r, Hr.out, fun _ => ⟨rfl, rfl⟩, fun h => absurd Hs.out h⟩⟩ hown E
        | false =>
          have Hs : Hid (¬ Stays l n r) := Lib.hid (fun h => h.elim (fun h => absurd h (by omega)) (fun h => Bool.noConfusion (He.out.2 h)))
          have hr1 : r < l.length := Hr.out.2.1
          have Hr2 := Lib.hid (show NewR l n (l.set r.toNat ⟨n, n, n⟩) true from ⟨fun h => absurd Hok.out h, fun _ => ⟨r, Hr.out, fun h => absurd h Hs.out, fun _ => ⟨rfl, rfl⟩⟩⟩)
          obtain ⟨x, hx, hxn⟩ := Hr.out.2.2.2.1 (by omega)
          obtain ⟨m, rfl⟩ : ∃ m : Nat, r = m := ⟨r.toNat, by omega⟩
          simp only [Int.toNat_natCast] at hx Hr2
          have hm : m < l.length := by omega
          have hlm : l[m] = x := by rw [List.getElem?_eq_getElem hm] at hx; simpa using hx
          rcases hown.2 with ⟨hsl, hz⟩ | ⟨g', cap', cur, hsl, hbg, _⟩
          · exact absurd hz (by omega)
          · simp only [Value.slice.injEq, Option.some.injEq, true_and] at hsl
            obtain ⟨rfl, rfl⟩ := hsl
            have f0 := hown.frozenAt
            have g1 := owns_at encMem_len hown m hm 1 _ rfl
            have g2 := owns_at encMem_len hown m hm 2 _ rfl
            have o1 := owns_set encMem_len hown m 1 (.int .i64 n) ⟨l[m].num, n, l[m].ses⟩ hm (by omega) rfl
            have o2 := owns_set encMem_len o1 m 2 (.int .i64 n) ⟨l[m].num, n, n⟩ (by simp only [List.length_set]; exact hm) (by omega) (by rw [List.getElem_set_self]; rfl)
            rw [List.set_set, hlm, hxn] at o2
            have E2 := (E.setCell (p := ⟨g', m * 3 + 1, none⟩) hbg (.int .i64 n)).setCell (p := ⟨g', m * 3 + 2, none⟩) hbg (.int .i64 n)
            have i0 : (0 : Int) ≤ (m : Int) := by omega
            have i1 : (m : Int) < (l.length : Int) := by omega
            have p1 := owns_set encMem_len hown m 2 (.int .i64 n) ⟨l[m].num, l[m].grp, n⟩ hm (by omega) rfl
            have p2 := owns_set encMem_len p1 m 1 (.int .i64 n) ⟨l[m].num, n, n⟩ (by simp only [List.length_set]; exact hm) (by omega) (by rw [List.getElem_set_self]; rfl)
            rw [List.set_set, hlm, hxn] at p2
            have F2 := (E.setCell (p := ⟨g', m * 3 + 2, none⟩) hbg (.int .i64 n)).setCell (p := ⟨g', m * 3 + 1, none⟩) hbg (.int .i64 n)
            have Ho2 := Lib.hid o2
            have Hp2 := Lib.hid p2
            clear o1 o2 hx hxn hlm hown p1 p2
            go_wp2
            go_region
            all_goals
              go_wp2
              go_ret2
              first
                | exact RetSB.mk (L := l.set m ⟨n, n, n⟩) rfl Hr2.out (by simpa using Ho2.out) E2
                | exact RetSB.mk (L := l.set m ⟨n, n, n⟩) rfl Hr2.out (by simpa using Hp2.out) F2
                | exact RetSB.mk (L := l.set m ⟨n, n, n⟩) rfl Hr2.out (by simpa using ownsRow_ext Ho2.out (Ext.refl _).drew) E2.drew
                | exact RetSB.mk (L := l.set m ⟨n, n, n⟩) rfl Hr2.out (by simpa using ownsRow_ext Hp2.out (Ext.refl _).drew) F2.drew
end Go.Proofs.Ytlmelknadappbaa
