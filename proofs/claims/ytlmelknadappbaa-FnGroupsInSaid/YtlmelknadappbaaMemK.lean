/- JoinGroup of the program: its contract. Condition: lists of at most 2^20. -/
import Derived.Test.YtlmelknadappbaaMemJ
namespace Go.Proofs.Ytlmelknadappbaa
open Go.RowKit

theorem cell_new' (w : World) (C : Array Value) (t : TypeId) (o : Nat) (v : Value) (h : C[o]? = some v) : (w.alloc (.cells C t)).cell? ⟨w.heap.size, o, none⟩ = some v := by simp only [World.cell?, heap_alloc_new]; simpa using h

set_option maxHeartbeats 1000000 in
theorem inGrp_any (g : Int) (l : List Mem) (m : Nat) (x : Mem) (b off cap cg cl ck : Nat) (y : Mem) (w : World) (hx : l[m]? = some x) (hl : l.length ≤ 1048576) (hc : Rd 3 encMem w (some ⟨b, off, none⟩) l)
    (g0 : w.cell? ⟨cg, 0, none⟩ = some (.int .i64 g)) (l0 : w.cell? ⟨cl, 0, none⟩ = some (.slice (some ⟨b, off, none⟩) l.length cap)) (k0 : w.cell? ⟨ck, 0, none⟩ = some (.int .i64 (m : Int))) :
    Calls Try.prog 47 #[.agg #[.int .i64 y.num, .int .i64 y.grp, .int .i64 y.ses], .pointer (some ⟨cg, 0, none⟩), .pointer (some ⟨cl, 0, none⟩), .pointer (some ⟨ck, 0, none⟩)] w (RetB (y.grp = g ∧ y.ses = x.ses) w) := by
  have hm : m < l.length := (List.getElem?_eq_some_iff.1 hx).1
  obtain ⟨x', b', off', hx', hb', c0, c1, c2⟩ := atMem hc hm
  obtain ⟨rfl, rfl⟩ : b = b' ∧ off = off' := by simpa using hb'
  rw [hx] at hx'; cases hx'
  clear hb' hx
  have E := (Ext.refl w).alloc (.cells #[.int .i64 y.num, .int .i64 y.grp, .int .i64 y.ses] 33)
  have n0 := cell_new' w #[.int .i64 y.num, .int .i64 y.grp, .int .i64 y.ses] 33 0 (.int .i64 y.num) rfl
  have n1 := cell_new' w #[.int .i64 y.num, .int .i64 y.grp, .int .i64 y.ses] 33 1 (.int .i64 y.grp) rfl
  have n2 := cell_new' w #[.int .i64 y.num, .int .i64 y.grp, .int .i64 y.ses] 33 2 (.int .i64 y.ses) rfl
  replace g0 := cell_ext E g0
  replace l0 := cell_ext E l0
  replace k0 := cell_ext E k0
  replace c2 := cell_ext E c2
  have i0 : (0 : Int) ≤ (m : Int) := by omega
  have i1 : (m : Int) < (l.length : Int) := by omega
  go_enter Try.func47, Try.ntmps47
  go_wp2_with fail
  generalize (w.alloc (.cells #[.int .i64 y.num, .int .i64 y.grp, .int .i64 y.ses] 33)) = w1 at *
  have q0 := ExtW.cell n0
  have q1 := ExtW.cell n1
  have q2 := ExtW.cell n2
  have qg := ExtW.cell g0
  have ql := ExtW.cell l0
  have qk := ExtW.cell k0
  have qc := ExtW.cell c2
  have b0 := ExtW.lt n0
  have b1 := ExtW.lt c2
  clear n0 n1 n2 g0 l0 k0 c0 c1 c2
  by_cases hg : y.grp = g
  · by_cases hs : y.ses = x.ses
    · have tg : (y.grp == g) = true := by simpa using hg
      have ts : (y.ses == x.ses) = true := by simpa using hs
      have Hc := Lib.hid (And.intro hg hs)
      clear hg hs
      (refine wp_region_quiet_ext (by kernel_rfl) (by kernel_rfl) ?_; (repeat (go_big_quiet_step (fail))); refine wpQuiet_nil ?_; intro _ hw'; obtain ⟨sq, hw''⟩ := hw'; subst hw'')
      obtain ⟨w3, hw3⟩ := sq
      go_wp2
      go_ret
      exact RetB.mk true (by simp [ts]) (by simp [Hc.out]) (E.trans hw3)
    · have tg : (y.grp == g) = true := by simpa using hg
      have ts : (y.ses == x.ses) = false := by simpa using hs
      have Hc : Hid (¬ (y.grp = g ∧ y.ses = x.ses)) := Lib.hid (fun h => hs h.2)
      clear hg hs
      (refine wp_region_quiet_ext (by kernel_rfl) (by kernel_rfl) ?_; (repeat (go_big_quiet_step (fail))); refine wpQuiet_nil ?_; intro _ hw'; obtain ⟨sq, hw''⟩ := hw'; subst hw'')
      obtain ⟨w3, hw3⟩ := sq
      go_wp2
      go_ret
      exact RetB.mk false (by simp [ts]) ⟨fun h => Bool.noConfusion h, fun h => absurd h Hc.out⟩ (E.trans hw3)
  · have tg : (y.grp == g) = false := by simpa using hg
    have Hc : Hid (¬ (y.grp = g ∧ y.ses = x.ses)) := Lib.hid (fun h => hg h.1)
    clear hg
    (refine wp_region_quiet_ext (by kernel_rfl) (by kernel_rfl) ?_; (repeat (go_big_quiet_step (fail))); refine wpQuiet_nil ?_; intro _ hw'; obtain ⟨sq, hw''⟩ := hw'; subst hw'')
    obtain ⟨w3, hw3⟩ := sq
    go_wp2
    go_ret
    exact RetB.mk false rfl ⟨fun h => Bool.noConfusion h, fun h => absurd h Hc.out⟩ (E.trans hw3)
theorem inGrp_call (args : Array Value) (w : World) : (callFunc 47 args).run Try.prog w = .ok (.enter 47 args) w := by
  simp [go_sem]
/-- A new cell of a number. -/
def NewI (base : Nat) (v : Value) (w : World) : Prop := ∃ q, v = .pointer (some ⟨q, 0, none⟩) ∧ base + 2 ≤ q ∧ w.heap[q]? = some (.cells #[.int .i64 0] 3 (0, 0))
theorem NewI.ext {base : Nat} {v : Value} {w w' : World} (h : NewI base v w) (hE : Ext w w') : NewI base v w' := by
  obtain ⟨q, h1, h2, h3⟩ := h
  have hlt : q < w.heap.size := by
    rcases Nat.lt_or_ge q w.heap.size with h | h
    · exact h
    · rw [Array.getElem?_eq_none h] at h3; cases h3
  exact ⟨q, h1, h2, by rw [hE.block q hlt]; exact h3⟩
theorem joins_of {l : List Mem} {n g : Int} {m : Nat} {x : Mem} (hok : MembersOk l) (hr : FirstAt (fun x : Mem => x.num = n) l m) (hx : l[m]? = some x) (hs : x.ses ≠ n) (hf : Found l x n g) (hv : MembersOk (l.set m ⟨x.num, g, x.ses⟩)) : JoinR l n g (l.set m ⟨x.num, g, x.ses⟩) true :=
  ⟨fun h => absurd hok h, fun _ => ⟨m, hr, .inl ⟨rfl, by omega, x, by simpa using hx, hs, hf, by simp, hv⟩⟩⟩
theorem stays_of {l : List Mem} {n g : Int} {m : Nat} {x : Mem} (hok : MembersOk l) (hr : FirstAt (fun x : Mem => x.num = n) l m) (hx : l[m]? = some x) (h : x.ses = n ∨ ¬ Found l x n g ∨ ¬ MembersOk (l.set m ⟨x.num, g, x.ses⟩)) : JoinR l n g l false :=
  ⟨fun h => absurd hok h, fun _ => ⟨m, hr, .inr ⟨rfl, rfl, fun M hj => by
    obtain ⟨_, y, hy, h2, h3, hM, hk⟩ := hj
    rw [Int.toNat_natCast, hx] at hy; cases hy
    rcases h with h | h | h
    · exact h2 h
    · exact h h3
    · rw [hM] at hk
      exact h (by simpa using hk)⟩⟩⟩
theorem ownsRow_setCell_other {w : World} {base e nf g n cap : Nat} {xs : List Value} (h : w.ownsRow base e nf (.slice (some ⟨g, 0, none⟩) n cap) n xs) {q o : Nat} (hq : g ≠ q) (u : Value) : (w.setCell ⟨q, o, none⟩ u).ownsRow base e nf (.slice (some ⟨g, 0, none⟩) n cap) n xs :=
  h.kept (row := some q) (grown_setCell (grown_of_ext (Ext.refl w) _) u) (by simp [Value.ownBlock]; omega)

set_option maxHeartbeats 4000000 in
theorem implJoinGroup (a : Option Addr) (cap : Nat) (l : List Mem) (n g : Int) (w : World) (hl : l.length ≤ 1048576) (hcap : l.length ≤ cap) (hc : Rd 3 encMem w a l) :
    Calls Try.prog 23 #[.slice a l.length cap, .int .i64 n, .int .i64 g] w (RetSB 33 3 encMem (JoinR l n g) w) := by
  have hc0 := hc
  go_enter Try.func23, Try.ntmps23
  go_wp2_with fail
  have E := ((Ext.refl w).alloc (.cells #[.slice a l.length cap] 25)).alloc (.cells #[.int .i64 g] 3)
  have l0 := cell_ext ((Ext.refl _).alloc (.cells #[.int .i64 g] 3)) (cell_new' w #[.slice a l.length cap] 25 0 (.slice a l.length cap) rfl)
  have g0 : ((w.alloc (.cells #[.slice a l.length cap] 25)).alloc (.cells #[.int .i64 g] 3)).cell? ⟨w.heap.size + 1, 0, none⟩ = some (.int .i64 g) := by simp
  have hz : w.heap.size + 2 ≤ ((w.alloc (.cells #[.slice a l.length cap] 25)).alloc (.cells #[.int .i64 g] 3)).heap.size := by simp
  generalize ((w.alloc (.cells #[.slice a l.length cap] 25)).alloc (.cells #[.int .i64 g] 3)) = wa at *
  refine (implMembersValid _ _ l _ (by omega) hcap (hc.ext E)).mono ?_
  rintro e w1 ⟨v0, rfl, hv0, hb1⟩
  have Hv0 := Lib.hid hv0
  clear hv0
  replace l0 := cell_ext hb1 l0
  replace g0 := cell_ext hb1 g0
  replace hz := Nat.le_trans hz hb1.size
  replace E := E.trans hb1
  clear hb1
  cases v0 with
  | false =>
    go_wp2
    go_ret2
    have hno : ¬ MembersOk l := fun h => Bool.noConfusion (Hv0.out.2 h)
    exact RetSB.mk (L := []) rfl ⟨fun _ => ⟨rfl, rfl⟩, fun h => absurd h hno⟩ (World.ownsRow_nil _ _ _ _) E
  | true =>
    have hok := Hv0.out.1 rfl
    have Hok := Lib.hid hok
    clear hok Hv0
    go_wp2
    have hcd : Rd 3 encMem w1.drew a l := hc0.ext E.drew
    have l0d : w1.drew.cell? ⟨w.heap.size, 0, none⟩ = some (.slice a l.length cap) := l0
    have g0d : w1.drew.cell? ⟨w.heap.size + 1, 0, none⟩ = some (.int .i64 g) := g0
    refine wp_region_v 7 (V := fun i v wv => match i with
      | 0 => v = .slice a l.length cap
      | 1 => OwnV (w.heap.size + 2) 33 3 encMem l v wv
      | 2 => v = .slice a l.length cap
      | 3 => v = .int .i64 n
      | 4 => PostI (FirstAt (fun x : Mem => x.num = n) l) v
      | 5 => NewI w.heap.size v wv
      | 6 => OwnV (w.heap.size + 2) 33 3 encMem l v wv
      | _ => True) rfl (by decide) (by kernel_rfl) (by kernel_rfl) (by kernel_rfl) ?_ ?_ ?_
    · intro i v w2 w3 h hE
      match i with
      | 0 => exact h
      | 1 => exact OwnV.ext h hE
      | 2 => exact h
      | 3 => exact h
      | 4 => exact h
      | 5 => exact NewI.ext h hE
      | 6 => exact OwnV.ext h hE
      | (n + 7) => trivial
    · intro i o hi ho vs w2 hvl hE hd
      have hc2 := hcd.ext hE
      have c0 := cell_ext hE l0d
      have hsz : w.heap.size ≤ w2.heap.size := Nat.le_trans E.size hE.size
      have hz2 : w.heap.size + 2 ≤ w2.heap.size := Nat.le_trans hz hE.size
      match vs, hvl with
      | [x0, x1, x2, x3, x4, x5, x6], _ =>
      rcases (show i = 0 ∨ i = 1 ∨ i = 2 ∨ i = 3 ∨ i = 4 ∨ i = 5 ∨ i = 6 by omega) with rfl | rfl | rfl | rfl | rfl | rfl | rfl
      all_goals
        simp only [List.getElem?_cons_zero, List.getElem?_cons_succ, Option.some.injEq] at ho
        subst ho
        simp [Waits, Region.binds] at hd
      · simp [putAll, Act.put]
        go_wp2
        exact ⟨rfl, _, rfl, rfl, Ext.refl _⟩
      · simp [putAll, Act.put, hd]
        go_wp2_with fail
        refine (cloneMem_any a cap l _ hl hc2).mono ?_
        rintro e w3 ⟨v3, rfl, hown, hb3⟩
        obtain ⟨g, c, rfl, _⟩ := rd_of_owns encMem_len hown rfl
        go_wp2
        exact ⟨rfl, _, rfl, ⟨_, _, rfl, ownsRow_base hown hz2⟩, hb3⟩
      · simp [putAll, Act.put]
        go_wp2
        exact ⟨rfl, _, rfl, rfl, Ext.refl _⟩
      · simp [putAll, Act.put]
        go_wp2
        exact ⟨rfl, _, rfl, rfl, Ext.refl _⟩
      · simp [putAll, Act.put, hd]
        go_wp2_with fail
        refine (implPlace a cap l n _ (by omega) hc2).mono ?_
        rintro e w3 ⟨r, rfl, hr, hb3⟩
        have Hr := Lib.hid hr
        clear hr
        go_wp2
        exact ⟨rfl, _, rfl, ⟨r, rfl, Hr.out⟩, hb3⟩
      · simp [putAll, Act.put]
        go_wp2
        exact ⟨rfl, _, rfl, ⟨_, rfl, hz2, heap_alloc_new _ _⟩, (Ext.refl _).alloc _⟩
      · have h9 := hd
        simp [putAll, Act.put]
        go_wp2
        exact ⟨rfl, _, rfl, (by first | exact h9 | exact h9.1 | exact h9.1.1 | exact h9.2.1), Ext.refl _⟩
    · intro vs w2 hvl hE hV
      match vs, hvl with
      | [x0, x1, x2, x3, x4, x5, x6], _ =>
      obtain ⟨r, hy4, hr⟩ := hV 4 (by omega)
      obtain ⟨q, hy5, hq, hqh⟩ := hV 5 (by omega)
      obtain ⟨gb, c, hy6, hown⟩ := hV 6 (by omega)
      have Hr := Lib.hid hr
      clear hV hr
      simp at hy4 hy5 hy6
      subst hy4 hy5 hy6
      simp only [putAll, Act.put, List.take_succ_cons, List.take_zero, List.drop_succ_cons, List.drop_zero]
      simp
      replace E : Ext w w2 := E.drew.trans hE
      replace l0 := cell_ext hE l0d
      replace g0 := cell_ext hE g0d
      have qc : w2.cell? ⟨q, 0, none⟩ = some (.int .i64 0) := by simp [World.cell?, hqh]
      have qf : w2.frozen? ⟨q, 0, none⟩ = false := by simp [World.frozen?, hqh]
      have k1 : (w2.setCell ⟨q, 0, none⟩ (.int .i64 r)).cell? ⟨q, 0, none⟩ = some (.int .i64 r) := by simp [World.cell?, World.setCell, Array.getElem?_modify, hqh]
      have l1 : (w2.setCell ⟨q, 0, none⟩ (.int .i64 r)).cell? ⟨w.heap.size, 0, none⟩ = some (.slice a l.length cap) := by
        rw [World.cell?_of_block (w := w2) (Below.heap_setCell _ _ _ _ (by show w.heap.size ≠ q; omega))]; exact l0
      have g1 : (w2.setCell ⟨q, 0, none⟩ (.int .i64 r)).cell? ⟨w.heap.size + 1, 0, none⟩ = some (.int .i64 g) := by
        rw [World.cell?_of_block (w := w2) (Below.heap_setCell _ _ _ _ (by show w.heap.size + 1 ≠ q; omega))]; exact g0
      have hown1 : (w2.setCell ⟨q, 0, none⟩ (.int .i64 r)).ownsRow (w.heap.size + 2) 33 3 (.slice gb l.length c) l.length (l.flatMap encMem) := by
        rcases hown.2 with ⟨h1, h2⟩ | ⟨gg, cap', cur, h1, _, hh, _⟩
        · exact ⟨hown.1, .inl ⟨h1, h2⟩⟩
        · simp only [Value.slice.injEq] at h1
          obtain ⟨rfl, _, rfl⟩ := h1
          exact ownsRow_setCell_other hown (by intro e; rw [e, hqh] at hh; simp at hh) _
      have E1 := E.setCell (p := ⟨q, 0, none⟩) (by show w.heap.size ≤ q; omega) (.int .i64 r)
      go_upto_region 4 with fail
      clear qc qf l0 g0 hown E hqh hcd l0d g0d hE
      generalize (w2.setCell ⟨q, 0, none⟩ (.int .i64 r)) = w3 at *
      by_cases h0 : r < 0
      · have Hj : Hid (JoinR l n g l false) := Lib.hid ⟨fun h => absurd Hok.out h, fun _ => ⟨r, Hr.out, .inr ⟨rfl, rfl, fun M h => by have := h.1; omega⟩⟩⟩
        go_wp2
        go_ret2
        exact RetSB.mk (L := l) rfl Hj.out (ownsRow_base hown1 (by omega)) E1
      · have hr1 : r < l.length := Hr.out.2.1
        obtain ⟨m, rfl⟩ : ∃ m : Nat, r = m := ⟨r.toNat, by omega⟩
        have hm : m < l.length := by omega
        obtain ⟨x, b, off, hx, rfl, c0, c1, c2⟩ := atMem (hc0.ext E1) hm
        have Hx := Lib.hid hx
        clear hx
        have i0 : (0 : Int) ≤ (m : Int) := by omega
        have i1 : (m : Int) < (l.length : Int) := by omega
        by_cases hs : x.ses = n
        · have Hj : Hid (JoinR l n g l false) := Lib.hid (stays_of Hok.out Hr.out Hx.out (.inl hs))
          have ts : (x.ses == n) = true := by simpa using hs
          clear hs
          go_wp2
          go_ret2
          exact RetSB.mk (L := l) rfl Hj.out (ownsRow_base hown1 (by omega)) E1
        · have ts : (x.ses == n) = false := by simpa using hs
          have Hs := Lib.hid hs
          clear hs
          have Hxn := Lib.hid (show l[m] = x from by have h := Hx.out; rw [List.getElem?_eq_getElem hm] at h; simpa using h)
          by_cases hgn : g = n
          · have tg : (g != n) = false := by simpa using hgn
            have Hf : Hid (Found l x n g) := Lib.hid (.inl hgn)
            clear hgn
            rcases hown1.2 with ⟨hsl, hz0⟩ | ⟨gg, cap', cur, hsl, hbg, hh, _⟩
            · exact absurd hz0 (by omega)
            · simp only [Value.slice.injEq, true_and] at hsl
              obtain ⟨rfl, rfl⟩ := hsl
              have f0 := hown1.frozenAt
              have e1 := owns_at encMem_len hown1 m hm 1 _ rfl
              have o1 := owns_set encMem_len hown1 m 1 (.int .i64 g) ⟨l[m].num, g, l[m].ses⟩ hm (by omega) rfl
              rw [Hxn.out] at o1
              have E2 := E1.setCell (p := ⟨gg, m * 3 + 1, none⟩) (by show w.heap.size ≤ gg; omega) (.int .i64 g)
              have l2 : (w3.setCell ⟨gg, m * 3 + 1, none⟩ (.int .i64 g)).cell? ⟨w.heap.size, 0, none⟩ = some (.slice (some ⟨b, off, none⟩) l.length cap) := by
                rw [World.cell?_of_block (w := w3) (Below.heap_setCell _ _ _ _ (by show w.heap.size ≠ gg; omega))]; exact l1
              have hlen : (l.set m ⟨x.num, g, x.ses⟩).length = l.length := List.length_set ..
              have hcapO := owns_cap o1
              have hcall := implMembersValid (some ⟨gg, 0, none⟩) c (l.set m ⟨x.num, g, x.ses⟩) (w3.setCell ⟨gg, m * 3 + 1, none⟩ (.int .i64 g)) (by omega) (by omega) (rd_owns encMem_len o1 hlen.symm)
              rw [hlen] at hcall
              have Ho1 := Lib.hid o1
              clear o1 hcapO
              go_upto_region 9 with fail
              clear hown1 hh f0 e1 g1 k1 l1
              generalize (w3.setCell ⟨gg, m * 3 + 1, none⟩ (.int .i64 g)) = w5 at *
              go_wp2_with fail
              refine hcall.mono ?_
              rintro e w6 ⟨v6, rfl, hv6, hE6⟩
              cases v6 with
              | true =>
                have Hj := Lib.hid (joins_of Hok.out Hr.out Hx.out Hs.out Hf.out (hv6.1 rfl))
                have Ho6 := Lib.hid (ownsRow_base (ownsRow_ext Ho1.out hE6) (show w.heap.size ≤ w.heap.size + 2 by omega))
                clear hv6 hcall
                go_wp2
                go_ret2
                exact RetSB.mk (L := l.set m ⟨x.num, g, x.ses⟩) rfl Hj.out (by simpa using Ho6.out) (E2.trans hE6)
              | false =>
                have Hj := Lib.hid (stays_of (g := g) Hok.out Hr.out Hx.out (.inr (.inr (fun h => Bool.noConfusion (hv6.2 h)))))
                clear hv6 hcall
                replace l2 := cell_ext hE6 l2
                have E6 := E2.trans hE6
                go_wp2_with fail
                refine (cloneMem_any _ cap l _ hl (hc0.ext E6)).mono ?_
                rintro e w7 ⟨v7, rfl, hown7, hb7⟩
                go_wp2
                go_ret2
                exact RetSB.mk (L := l) rfl Hj.out (ownsRow_base hown7 E6.size) (E6.trans hb7)
          · have tg : (g != n) = true := by simpa using hgn
            have Hgn := Lib.hid hgn
            clear hgn
            go_wp2_with fail
            have hfn : ∀ (p : Mem) w', Ext w3 w' → Calls Try.prog 47 (#[.agg #[.int .i64 p.num, .int .i64 p.grp, .int .i64 p.ses]] ++ #[.pointer (some ⟨w.heap.size + 1, 0, none⟩), .pointer (some ⟨w.heap.size, 0, none⟩), .pointer (some ⟨q, 0, none⟩)]) w' (RetB (p.grp = g ∧ p.ses = x.ses) w') := fun p w' hw' => by
              exact inGrp_any g l m x b off cap _ _ _ p w' Hx.out hl ((hc0.ext E1).ext hw') (cell_ext hw' g1) (cell_ext hw' l1) (cell_ext hw' k1)
            have hrk := hc0.ext E1
            have hll : l.length ≤ 9223372036854775807 := by omega
            (with_reducible refine (hasMem_fn _ _ _ l w3 47 #[.pointer (some ⟨w.heap.size + 1, 0, none⟩), .pointer (some ⟨w.heap.size, 0, none⟩), .pointer (some ⟨q, 0, none⟩)] (fun p => p.grp = g ∧ p.ses = x.ses) rfl hll hrk inGrp_call hfn).mono ?_)
            rintro e w4 ⟨b0, rfl, he, hb3⟩
            have He := Lib.hid he
            clear he hfn hrk hll
            cases b0 with
            | false =>
              have hnf : ¬ Found l x n g := fun h => h.elim (fun h => Hgn.out h) (fun h => Bool.noConfusion (He.out.2 h))
              have Hj : Hid (JoinR l n g l false) := Lib.hid (stays_of Hok.out Hr.out Hx.out (.inr (.inl hnf)))
              clear hnf
              have hown2 := ownsRow_ext hown1 hb3
              go_wp2
              go_ret2
              exact RetSB.mk (L := l) rfl Hj.out (ownsRow_base hown2 (by omega)) (E1.trans hb3)
            | true =>
              have Hf : Hid (Found l x n g) := Lib.hid (.inr (He.out.1 rfl))
              replace hown1 := ownsRow_ext hown1 hb3
              replace E1 := E1.trans hb3
              replace l1 := cell_ext hb3 l1
              replace g1 := cell_ext hb3 g1
              replace k1 := cell_ext hb3 k1
              clear c0 c1 c2 He
              rcases hown1.2 with ⟨hsl, hz0⟩ | ⟨gg, cap', cur, hsl, hbg, hh, _⟩
              · exact absurd hz0 (by omega)
              · simp only [Value.slice.injEq, true_and] at hsl
                obtain ⟨rfl, rfl⟩ := hsl
                have f0 := hown1.frozenAt
                have e1 := owns_at encMem_len hown1 m hm 1 _ rfl
                have o1 := owns_set encMem_len hown1 m 1 (.int .i64 g) ⟨l[m].num, g, l[m].ses⟩ hm (by omega) rfl
                rw [Hxn.out] at o1
                have E2 := E1.setCell (p := ⟨gg, m * 3 + 1, none⟩) (by show w.heap.size ≤ gg; omega) (.int .i64 g)
                have l2 : (w4.setCell ⟨gg, m * 3 + 1, none⟩ (.int .i64 g)).cell? ⟨w.heap.size, 0, none⟩ = some (.slice (some ⟨b, off, none⟩) l.length cap) := by
                  rw [World.cell?_of_block (w := w4) (Below.heap_setCell _ _ _ _ (by show w.heap.size ≠ gg; omega))]; exact l1
                have hlen : (l.set m ⟨x.num, g, x.ses⟩).length = l.length := List.length_set ..
                have hcapO := owns_cap o1
                have hcall := implMembersValid (some ⟨gg, 0, none⟩) c (l.set m ⟨x.num, g, x.ses⟩) (w4.setCell ⟨gg, m * 3 + 1, none⟩ (.int .i64 g)) (by omega) (by omega) (rd_owns encMem_len o1 hlen.symm)
                rw [hlen] at hcall
                have Ho1 := Lib.hid o1
                clear o1 hcapO
                go_upto_region 9 with fail
                clear hown1 hh f0 e1 g1 k1 l1
                generalize (w4.setCell ⟨gg, m * 3 + 1, none⟩ (.int .i64 g)) = w5 at *
                go_wp2_with fail
                refine hcall.mono ?_
                rintro e w6 ⟨v6, rfl, hv6, hE6⟩
                cases v6 with
                | true =>
                  have Hj := Lib.hid (joins_of Hok.out Hr.out Hx.out Hs.out Hf.out (hv6.1 rfl))
                  have Ho6 := Lib.hid (ownsRow_base (ownsRow_ext Ho1.out hE6) (show w.heap.size ≤ w.heap.size + 2 by omega))
                  clear hv6 hcall
                  go_wp2
                  go_ret2
                  exact RetSB.mk (L := l.set m ⟨x.num, g, x.ses⟩) rfl Hj.out (by simpa using Ho6.out) (E2.trans hE6)
                | false =>
                  have Hj := Lib.hid (stays_of (g := g) Hok.out Hr.out Hx.out (.inr (.inr (fun h => Bool.noConfusion (hv6.2 h)))))
                  clear hv6 hcall
                  replace l2 := cell_ext hE6 l2
                  have E6 := E2.trans hE6
                  go_wp2_with fail
                  refine (cloneMem_any _ cap l _ hl (hc0.ext E6)).mono ?_
                  rintro e w7 ⟨v7, rfl, hown7, hb7⟩
                  go_wp2
                  go_ret2
                  exact RetSB.mk (L := l) rfl Hj.out (ownsRow_base hown7 E6.size) (E6.trans hb7)
end Go.Proofs.Ytlmelknadappbaa
