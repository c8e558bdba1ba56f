/- SetLock: contracts of the program's and the reference's. Condition: lists of at most 2^20. -/
import Derived.Test.YtaofbdhljnhlnaaLckG
namespace Go.Proofs.Ytaofbdhljnhlnaa
open Go.RowKit

theorem holdL_nonneg (x : Lck) : ∀ {l : List Lck}, (∀ p ∈ l, 0 ≤ p.who) → 0 ≤ holdL l x
  | [], _ => by simp [holdL]
  | p :: l, h => by
    rw [holdL]
    split
    · exact h p (by simp)
    · exact holdL_nonneg x (fun q hq => h q (by simp [hq]))
theorem locks_who {l : List Lck} (h : LocksOk l) : ∀ p ∈ l, 0 ≤ p.who := fun p hp => by
  obtain ⟨k, hk, rfl⟩ := List.getElem_of_mem hp
  have := (h.1 k hk _ (List.getElem?_eq_getElem hk)).1.1
  omega
def setL (l : List Lck) (x : Lck) : List Lck := freeL l x.who x.f x.t ++ [x]
def SetR (l : List Lck) (x : Lck) (L : List Lck) (ok : Bool) : Prop :=
  (¬ (LocksOk l ∧ okLck x) → L = [] ∧ ok = false) ∧ (LocksOk l ∧ okLck x → (holdL l x = 0 ∧ (setL l x).length ≤ 10 → L = setL l x ∧ ok = true) ∧ (¬ (holdL l x = 0 ∧ (setL l x).length ≤ 10) → L = l ∧ ok = false))
theorem setR_fun {l : List Lck} {x : Lck} {L L' : List Lck} {ok ok' : Bool} (h : SetR l x L ok) (h' : SetR l x L' ok') : L = L' ∧ ok = ok' := by
  by_cases hv : LocksOk l ∧ okLck x
  · by_cases hs : holdL l x = 0 ∧ (setL l x).length ≤ 10
    · exact ⟨((h.2 hv).1 hs).1.trans ((h'.2 hv).1 hs).1.symm, ((h.2 hv).1 hs).2.trans ((h'.2 hv).1 hs).2.symm⟩
    · exact ⟨((h.2 hv).2 hs).1.trans ((h'.2 hv).2 hs).1.symm, ((h.2 hv).2 hs).2.trans ((h'.2 hv).2 hs).2.symm⟩
  · exact ⟨(h.1 hv).1.trans (h'.1 hv).1.symm, (h.1 hv).2.trans (h'.1 hv).2.symm⟩
theorem setR_len {l : List Lck} {x : Lck} {L : List Lck} {ok : Bool} (h : SetR l x L ok) (hl : l.length ≤ 1048576) : L.length ≤ 1048576 := by
  by_cases hv : LocksOk l ∧ okLck x
  · by_cases hs : holdL l x = 0 ∧ (setL l x).length ≤ 10
    · rw [((h.2 hv).1 hs).1]; have := hs.2; omega
    · rw [((h.2 hv).2 hs).1]; exact hl
  · rw [(h.1 hv).1]; simp
theorem setR_no {l : List Lck} {x : Lck} (h : ¬ (LocksOk l ∧ okLck x)) : SetR l x [] false := ⟨fun _ => ⟨rfl, rfl⟩, fun hv => absurd hv h⟩
theorem setR_yes {l : List Lck} {x : Lck} (h : LocksOk l ∧ okLck x) (hs : holdL l x = 0 ∧ (setL l x).length ≤ 10) : SetR l x (setL l x) true := ⟨fun hn => absurd h hn, fun _ => ⟨fun _ => ⟨rfl, rfl⟩, fun hn => absurd hs hn⟩⟩
theorem setR_full {l : List Lck} {x : Lck} (h : LocksOk l ∧ okLck x) (hs : ¬ (holdL l x = 0 ∧ (setL l x).length ≤ 10)) : SetR l x l false := ⟨fun hn => absurd h hn, fun _ => ⟨fun hn => absurd hn hs, fun _ => ⟨rfl, rfl⟩⟩⟩

set_option maxHeartbeats 8000000 in
theorem specSetLock (a : Option Addr) (cap : Nat) (l : List Lck) (x : Lck) (w : World) (hl : l.length ≤ 1048576) (hc : Rd 4 encLck w a l) :
    Calls Try.prog 30 #[.slice a l.length cap, .agg #[.int .i64 x.who, .int .i64 x.f, .int .i64 x.t, .bool x.alone]] w (RetSB 32 4 encLck (SetR l x) w) := by
  go_enter Try.func30, Try.ntmps30
  go_wp2_with fail
  have n0 := cell_new1 w #[.int .i64 x.who, .int .i64 x.f, .int .i64 x.t, .bool x.alone] 32 0 (.int .i64 x.who) rfl
  have n1 := cell_new1 w #[.int .i64 x.who, .int .i64 x.f, .int .i64 x.t, .bool x.alone] 32 1 (.int .i64 x.f) rfl
  have n2 := cell_new1 w #[.int .i64 x.who, .int .i64 x.f, .int .i64 x.t, .bool x.alone] 32 2 (.int .i64 x.t) rfl
  have n3 := cell_new1 w #[.int .i64 x.who, .int .i64 x.f, .int .i64 x.t, .bool x.alone] 32 3 (.bool x.alone) rfl
  have E := (Ext.refl w).alloc (.cells #[.int .i64 x.who, .int .i64 x.f, .int .i64 x.t, .bool x.alone] 32)
  generalize (w.alloc (.cells #[.int .i64 x.who, .int .i64 x.f, .int .i64 x.t, .bool x.alone] 32)) = wa at *
  refine (specLockHolder a _ l x _ (by omega) (hc.ext E)).mono ?_
  rintro e w1 ⟨hn, rfl, hhn, hb1⟩
  replace n0 := cell_ext hb1 n0
  replace n1 := cell_ext hb1 n1
  replace n2 := cell_ext hb1 n2
  replace n3 := cell_ext hb1 n3
  replace E := E.trans hb1
  clear hb1
  by_cases hv : LocksOk l ∧ okLck x
  rotate_left
  · have hneg : hn = -1 := hhn.trans (HoldF_no hv)
    subst hneg
    clear hhn
    go_wp2
    go_ret2
    exact RetSB.mk (L := []) rfl (setR_no hv) (owns_lit_new [] encLck_len rfl rfl (by omega) E.size) (E.alloc _)
  · have hh0 : 0 ≤ holdL l x := holdL_nonneg x (locks_who hv.1)
    have hhn' : hn = holdL l x := hhn.trans (HoldF_ok hv.1 hv.2)
    have Hft := Lib.hid hv
    clear hv hhn
    rw [← hhn'] at hh0
    have Hhn := Lib.hid hhn'
    clear hhn'
    go_upto_region 4 with fail
    have hcd : Rd 4 encLck w1.drew a l := hc.ext E.drew
    have n0d : w1.drew.cell? ⟨w.heap.size, 0, none⟩ = some (.int .i64 x.who) := n0
    have n1d : w1.drew.cell? ⟨w.heap.size, 1, none⟩ = some (.int .i64 x.f) := n1
    have n2d : w1.drew.cell? ⟨w.heap.size, 2, none⟩ = some (.int .i64 x.t) := n2
    have n3d : w1.drew.cell? ⟨w.heap.size, 3, none⟩ = some (.bool x.alone) := n3
    refine wp_region_v 10 (V := fun i v wv => match i with
      | 0 => v = .slice a l.length cap
      | 1 => v = .pointer (some ⟨w.heap.size, 0, none⟩)
      | 2 => v = .int .i64 x.who
      | 3 => v = .pointer (some ⟨w.heap.size, 1, none⟩)
      | 4 => v = .int .i64 x.f
      | 5 => v = .pointer (some ⟨w.heap.size, 2, none⟩)
      | 6 => v = .int .i64 x.t
      | 7 => wv.ownsRow w.heap.size 32 4 v (freeL l x.who x.f x.t).length ((freeL l x.who x.f x.t).flatMap encLck)
      | 8 => v = .agg #[.int .i64 x.who, .int .i64 x.f, .int .i64 x.t, .bool x.alone]
      | 9 => ∃ g, v = .slice (some ⟨g, 0, none⟩) 1 1 ∧ Rd 4 encLck wv (some ⟨g, 0, none⟩) [x]
      | _ => True) rfl (by decide) (by kernel_rfl) (by kernel_rfl) (by kernel_rfl) ?_ ?_ ?_
    · intro i v w2 w3 h hE
      match i with
      | 0 => exact h
      | 1 => exact h
      | 2 => exact h
      | 3 => exact h
      | 4 => exact h
      | 5 => exact h
      | 6 => exact h
      | 7 => exact ownsRow_ext h hE
      | 8 => exact h
      | 9 => obtain ⟨g, h1, h2⟩ := h; exact ⟨g, h1, h2.ext hE⟩
      | (n + 10) => trivial
    · intro i o hi ho vs w2 hvl hE hd
      have hc2 := hcd.ext hE
      have c0 := cell_ext hE n0d
      have c1 := cell_ext hE n1d
      have c2 := cell_ext hE n2d
      have c3 := cell_ext hE n3d
      have hsz : w.heap.size ≤ w2.heap.size := Nat.le_trans E.size hE.size
      match vs, hvl with
      | [x0, x1, x2, x3, x4, x5, x6, x7, x8, x9], _ =>
      rcases (show i = 0 ∨ i = 1 ∨ i = 2 ∨ i = 3 ∨ i = 4 ∨ i = 5 ∨ i = 6 ∨ i = 7 ∨ i = 8 ∨ i = 9 by omega) with rfl | rfl | rfl | rfl | rfl | rfl | rfl | rfl | rfl | rfl
      all_goals
        simp only [List.getElem?_cons_zero, List.getElem?_cons_succ, Option.some.injEq] at ho
        subst ho
        simp [Waits, Region.binds] at hd
        simp [putAll, Act.put, hd]
      · go_wp2
        exact ⟨rfl, _, rfl, rfl, Ext.refl _⟩
      · go_wp2
        exact ⟨rfl, _, rfl, rfl, Ext.refl _⟩
      · go_wp2
        exact ⟨rfl, _, rfl, rfl, Ext.refl _⟩
      · go_wp2
        exact ⟨rfl, _, rfl, rfl, Ext.refl _⟩
      · go_wp2
        exact ⟨rfl, _, rfl, rfl, Ext.refl _⟩
      · go_wp2
        exact ⟨rfl, _, rfl, rfl, Ext.refl _⟩
      · go_wp2
        exact ⟨rfl, _, rfl, rfl, Ext.refl _⟩
      · go_wp2_with fail
        refine (specFree a cap l x.who x.f x.t _ hl hc2).mono ?_
        rintro e w3 ⟨v3, rfl, hown, hb3⟩
        have hown3 := ownsRow_base hown hsz
        go_wp2
        exact ⟨rfl, _, rfl, hown3, hb3⟩
      · go_wp2
        exact ⟨rfl, _, rfl, rfl, Ext.refl _⟩
      · go_wp2
        exact ⟨rfl, _, rfl, ⟨_, rfl, rd_lit_new [x] encLck_len rfl⟩, (Ext.refl _).alloc _⟩
    · intro vs w2 hvl hE hV
      match vs, hvl with
      | [x0, x1, x2, x3, x4, x5, x6, x7, x8, x9], _ =>
      have h7 := hV 7 (by omega); obtain ⟨g, h9, rdm⟩ := hV 9 (by omega)
      have hfl := freeL_le x.who x.f x.t l
      clear hV
      simp at h9
      subst h9
      replace h7 : w2.ownsRow w.heap.size 32 4 x7 (freeL l x.who x.f x.t).length ((freeL l x.who x.f x.t).flatMap encLck) := h7
      obtain ⟨L0, hL0⟩ : ∃ L0, L0 = freeL l x.who x.f x.t := ⟨_, rfl⟩
      rw [← hL0] at h7 hfl
      have HL0 := Lib.hid hL0
      clear hL0
      simp only [putAll, Act.put, List.take_succ_cons, List.take_zero, List.drop_succ_cons, List.drop_zero]
      simp
      have E2 : Ext w w2 := E.drew.trans hE
      replace n0 := cell_ext hE n0d
      replace n1 := cell_ext hE n1d
      replace n2 := cell_ext hE n2d
      replace n3 := cell_ext hE n3d
      clear hcd n0d n1d n2d n3d hE
      go_wp2_with (at_builtin; refine wpList_append_rd rfl _ _ 25 rfl w.heap.size 32 _ 4 _ Try.underlying25 infoLck rfl (by decide) encLck_len encLck_one _ L0.length L0 rfl h7 rfl _ 1 1 [x] rfl rfl rdm (by omega) (by omega) E2.size ?_)
      intro v' w3 hown hg
      have hown2 : w3.ownsRow w.heap.size 32 4 v' (L0 ++ [x]).length ((L0 ++ [x]).flatMap encLck) := by simpa using hown
      have E3 : Ext w w3 := E2.grown hg (fun k h => (h7.lt k h).1)
      have hLs : setL l x = L0 ++ [x] := by rw [HL0.out]; rfl
      have hfl2 : (L0 ++ [x]).length ≤ L0.length + 1 := by simp
      obtain ⟨L, hL⟩ : ∃ L, L = L0 ++ [x] := ⟨_, rfl⟩
      rw [← hL] at hown2 hfl2 hLs
      have HL := Lib.hid hLs
      clear hL hLs hown hg h7 rdm
      obtain ⟨a3, c3, rfl, _⟩ := rd_of_owns encLck_len hown2 rfl
      by_cases hz : hn = 0
      · by_cases hs : L.length ≤ 10
        · have Hj := Lib.hid (setR_yes Hft.out ⟨Hhn.out ▸ hz, by rw [HL.out]; exact hs⟩)
          rw [HL.out] at Hj
          have hs1 : (L.length : Int) ≤ 10 := by omega
          clear HL Hhn Hft HL0
          go_wp2
          go_ret2
          exact RetSB.mk (L := L) rfl Hj.out hown2 E3
        · have Hj := Lib.hid (setR_full Hft.out (fun h => hs (by have := h.2; rw [HL.out] at this; exact this)))
          have hs1 : (10 : Int) < (L.length : Int) := by omega
          clear HL Hhn Hft HL0
          go_wp2_with (at_builtin; refine wpList_append_lit rfl _ _ 25 rfl w.heap.size 32 _ 4 _ Try.underlying25 infoLck rfl (by decide) encLck_len encLck_one w3.heap.size rfl (heap_alloc_new _ _) E3.size a l.length cap l rfl rfl ((hc.ext E3).ext ((Ext.refl _).alloc _)) (by omega) (by omega) (by have := E3.size; simp; omega) ?_)
          intro v' w9 hown9 hE9
          go_wp2
          go_ret2
          exact RetSB.mk (L := l) rfl Hj.out hown9 ((E3.alloc _).trans hE9)
      · have Hj := Lib.hid (setR_full Hft.out (fun h => hz (Hhn.out.trans h.1)))
        have hz1 : 0 < hn := by omega
        clear HL Hhn Hft HL0
        go_wp2_with (at_builtin; refine wpList_append_lit rfl _ _ 25 rfl w.heap.size 32 _ 4 _ Try.underlying25 infoLck rfl (by decide) encLck_len encLck_one w3.heap.size rfl (heap_alloc_new _ _) E3.size a l.length cap l rfl rfl ((hc.ext E3).ext ((Ext.refl _).alloc _)) (by omega) (by omega) (by have := E3.size; simp; omega) ?_)
        intro v' w9 hown9 hE9
        go_wp2
        go_ret2
        exact RetSB.mk (L := l) rfl Hj.out hown9 ((E3.alloc _).trans hE9)

set_option maxHeartbeats 8000000 in
theorem implSetLock (a : Option Addr) (cap : Nat) (l : List Lck) (x : Lck) (w : World) (hl : l.length ≤ 1048576) (hcap : l.length ≤ cap) (hc : Rd 4 encLck w a l) :
    Calls Try.prog 29 #[.slice a l.length cap, .agg #[.int .i64 x.who, .int .i64 x.f, .int .i64 x.t, .bool x.alone]] w (RetSB 32 4 encLck (SetR l x) w) := by
  go_enter Try.func29, Try.ntmps29
  go_wp2_with fail
  have n0 := cell_new1 w #[.int .i64 x.who, .int .i64 x.f, .int .i64 x.t, .bool x.alone] 32 0 (.int .i64 x.who) rfl
  have n1 := cell_new1 w #[.int .i64 x.who, .int .i64 x.f, .int .i64 x.t, .bool x.alone] 32 1 (.int .i64 x.f) rfl
  have n2 := cell_new1 w #[.int .i64 x.who, .int .i64 x.f, .int .i64 x.t, .bool x.alone] 32 2 (.int .i64 x.t) rfl
  have n3 := cell_new1 w #[.int .i64 x.who, .int .i64 x.f, .int .i64 x.t, .bool x.alone] 32 3 (.bool x.alone) rfl
  have E := (Ext.refl w).alloc (.cells #[.int .i64 x.who, .int .i64 x.f, .int .i64 x.t, .bool x.alone] 32)
  generalize (w.alloc (.cells #[.int .i64 x.who, .int .i64 x.f, .int .i64 x.t, .bool x.alone] 32)) = wa at *
  refine (implLocksValid _ _ l _ (by omega) hcap (hc.ext E)).mono ?_
  rintro e w0 ⟨v0, rfl, hv0, hb1⟩
  replace n0 := cell_ext hb1 n0
  replace n1 := cell_ext hb1 n1
  replace n2 := cell_ext hb1 n2
  replace n3 := cell_ext hb1 n3
  replace E := E.trans hb1
  have Hv := Lib.hid hv0
  clear hb1 hv0
  cases v0 with
  | false =>
    have hno : ¬ (LocksOk l ∧ okLck x) := fun h => Bool.noConfusion (Hv.out.2 h.1)
    go_wp2
    go_ret2
    exact RetSB.mk (L := []) rfl (setR_no hno) (World.ownsRow_nil _ _ _ _) E
  | true =>
    have Hok := Lib.hid (Hv.out.1 rfl)
    clear Hv
    go_wp2_with fail
    refine (lockValid_any x _).mono ?_
    rintro e w1 ⟨v1, rfl, hv0, hb1⟩
    replace n0 := cell_ext hb1 n0
    replace n1 := cell_ext hb1 n1
    replace n2 := cell_ext hb1 n2
    replace n3 := cell_ext hb1 n3
    replace E := E.trans hb1
    have Hv := Lib.hid hv0
    clear hb1 hv0
    cases v1 with
    | false =>
      have hno : ¬ (LocksOk l ∧ okLck x) := fun h => Bool.noConfusion (Hv.out.2 h.2)
      go_wp2
      go_ret2
      exact RetSB.mk (L := []) rfl (setR_no hno) (World.ownsRow_nil _ _ _ _) E
    | true =>
      have Hft := Lib.hid (And.intro Hok.out (Hv.out.1 rfl))
      clear Hv Hok
      go_upto_region 3 with fail
      have hcd : Rd 4 encLck w1.drew a l := hc.ext E.drew
      have n0d : w1.drew.cell? ⟨w.heap.size, 0, none⟩ = some (.int .i64 x.who) := n0
      have n1d : w1.drew.cell? ⟨w.heap.size, 1, none⟩ = some (.int .i64 x.f) := n1
      have n2d : w1.drew.cell? ⟨w.heap.size, 2, none⟩ = some (.int .i64 x.t) := n2
      have n3d : w1.drew.cell? ⟨w.heap.size, 3, none⟩ = some (.bool x.alone) := n3
      refine wp_region_v 10 (V := fun i v wv => match i with
        | 0 => v = .slice a l.length cap
        | 1 => v = .pointer (some ⟨w.heap.size, 0, none⟩)
        | 2 => v = .int .i64 x.who
        | 3 => v = .pointer (some ⟨w.heap.size, 1, none⟩)
        | 4 => v = .int .i64 x.f
        | 5 => v = .pointer (some ⟨w.heap.size, 2, none⟩)
        | 6 => v = .int .i64 x.t
        | 7 => wv.ownsRow (w.heap.size + 1) 32 4 v (freeL l x.who x.f x.t).length ((freeL l x.who x.f x.t).flatMap encLck)
        | 8 => v = .agg #[.int .i64 x.who, .int .i64 x.f, .int .i64 x.t, .bool x.alone]
        | 9 => ∃ g, v = .slice (some ⟨g, 0, none⟩) 1 1 ∧ Rd 4 encLck wv (some ⟨g, 0, none⟩) [x]
        | _ => True) rfl (by decide) (by kernel_rfl) (by kernel_rfl) (by kernel_rfl) ?_ ?_ ?_
      · intro i v w2 w3 h hE
        match i with
        | 0 => exact h
        | 1 => exact h
        | 2 => exact h
        | 3 => exact h
        | 4 => exact h
        | 5 => exact h
        | 6 => exact h
        | 7 => exact ownsRow_ext h hE
        | 8 => exact h
        | 9 => obtain ⟨g, h1, h2⟩ := h; exact ⟨g, h1, h2.ext hE⟩
        | (n + 10) => trivial
      · intro i o hi ho vs w2 hvl hE hd
        have hc2 := hcd.ext hE
        have c0 := cell_ext hE n0d
        have c1 := cell_ext hE n1d
        have c2 := cell_ext hE n2d
        have c3 := cell_ext hE n3d
        have hsz : w.heap.size + 1 ≤ w2.heap.size := Nat.le_trans (World.block_lt_of_cell? w1 ⟨w.heap.size, 0, none⟩ n0) hE.size
        match vs, hvl with
        | [x0, x1, x2, x3, x4, x5, x6, x7, x8, x9], _ =>
        rcases (show i = 0 ∨ i = 1 ∨ i = 2 ∨ i = 3 ∨ i = 4 ∨ i = 5 ∨ i = 6 ∨ i = 7 ∨ i = 8 ∨ i = 9 by omega) with rfl | rfl | rfl | rfl | rfl | rfl | rfl | rfl | rfl | rfl
        all_goals
          simp only [List.getElem?_cons_zero, List.getElem?_cons_succ, Option.some.injEq] at ho
          subst ho
          simp [Waits, Region.binds] at hd
          simp [putAll, Act.put, hd]
        · go_wp2
          exact ⟨rfl, _, rfl, rfl, Ext.refl _⟩
        · go_wp2
          exact ⟨rfl, _, rfl, rfl, Ext.refl _⟩
        · go_wp2
          exact ⟨rfl, _, rfl, rfl, Ext.refl _⟩
        · go_wp2
          exact ⟨rfl, _, rfl, rfl, Ext.refl _⟩
        · go_wp2
          exact ⟨rfl, _, rfl, rfl, Ext.refl _⟩
        · go_wp2
          exact ⟨rfl, _, rfl, rfl, Ext.refl _⟩
        · go_wp2
          exact ⟨rfl, _, rfl, rfl, Ext.refl _⟩
        · go_wp2_with fail
          refine (implFree a cap l x.who x.f x.t _ hl hc2).mono ?_
          rintro e w3 ⟨v3, rfl, hown, hb3⟩
          have hown3 := ownsRow_base hown hsz
          go_wp2
          exact ⟨rfl, _, rfl, hown3, hb3⟩
        · go_wp2
          exact ⟨rfl, _, rfl, rfl, Ext.refl _⟩
        · go_wp2
          exact ⟨rfl, _, rfl, ⟨_, rfl, rd_lit_new [x] encLck_len rfl⟩, (Ext.refl _).alloc _⟩
      · intro vs w2 hvl hE hV
        match vs, hvl with
        | [x0, x1, x2, x3, x4, x5, x6, x7, x8, x9], _ =>
        have h7 := hV 7 (by omega); obtain ⟨g, h9, rdm⟩ := hV 9 (by omega)
        have hfl := freeL_le x.who x.f x.t l
        clear hV
        simp at h9
        subst h9
        replace h7 : w2.ownsRow (w.heap.size + 1) 32 4 x7 (freeL l x.who x.f x.t).length ((freeL l x.who x.f x.t).flatMap encLck) := h7
        obtain ⟨L0, hL0⟩ : ∃ L0, L0 = freeL l x.who x.f x.t := ⟨_, rfl⟩
        rw [← hL0] at h7 hfl
        have HL0 := Lib.hid hL0
        clear hL0
        simp only [putAll, Act.put, List.take_succ_cons, List.take_zero, List.drop_succ_cons, List.drop_zero]
        simp
        have E2 : Ext w w2 := E.drew.trans hE
        replace n0 := cell_ext hE n0d
        replace n1 := cell_ext hE n1d
        replace n2 := cell_ext hE n2d
        replace n3 := cell_ext hE n3d
        have hz2 : w.heap.size + 1 ≤ w2.heap.size := World.block_lt_of_cell? w2 ⟨w.heap.size, 0, none⟩ n0
        clear hcd n0d n1d n2d n3d hE
        go_wp2_with (at_builtin; refine wpList_append_rd rfl _ _ 25 rfl (w.heap.size + 1) 32 _ 4 _ Try.underlying25 infoLck rfl (by decide) encLck_len encLck_one _ L0.length L0 rfl h7 rfl _ 1 1 [x] rfl rfl rdm (by omega) (by omega) hz2 ?_)
        intro v' w3 hown hg
        have hown2 : w3.ownsRow (w.heap.size + 1) 32 4 v' (L0 ++ [x]).length ((L0 ++ [x]).flatMap encLck) := by simpa using hown
        have E3 : Ext w w3 := E2.grown hg (fun k h => by have := (h7.lt k h).1; omega)
        have hLs : setL l x = L0 ++ [x] := by rw [HL0.out]; rfl
        have hfl2 : (L0 ++ [x]).length ≤ L0.length + 1 := by simp
        replace n0 := cell_grown hg (by intro e; have := (h7.lt _ e.symm).1; omega) n0
        replace n1 := cell_grown hg (by intro e; have := (h7.lt _ e.symm).1; omega) n1
        replace n2 := cell_grown hg (by intro e; have := (h7.lt _ e.symm).1; omega) n2
        replace n3 := cell_grown hg (by intro e; have := (h7.lt _ e.symm).1; omega) n3
        obtain ⟨L, hL⟩ : ∃ L, L = L0 ++ [x] := ⟨_, rfl⟩
        rw [← hL] at hown2 hfl2 hLs
        have HL := Lib.hid hLs
        clear hL hLs hown hg h7 rdm
        obtain ⟨a3, c3, rfl, _⟩ := rd_of_owns encLck_len hown2 rfl
        go_wp2_with fail
        refine (implHold a _ l x _ (by omega) (hc.ext E3)).mono ?_
        rintro e w4 ⟨hn, rfl, hhn, hb4⟩
        have Hhn := Lib.hid hhn
        clear hhn
        have E4 := E3.trans hb4
        replace hown2 := ownsRow_base (ownsRow_ext hown2 hb4) (show w.heap.size ≤ w.heap.size + 1 by omega)
        by_cases hz : hn = 0
        · have tz : (hn != 0) = false := by simpa using hz
          by_cases hs : L.length ≤ 10
          · have Hj := Lib.hid (setR_yes Hft.out ⟨Hhn.out ▸ hz, by rw [HL.out]; exact hs⟩)
            rw [HL.out] at Hj
            have hs1 : (L.length : Int) ≤ 10 := by omega
            clear HL Hhn Hft HL0 hz
            go_wp2
            go_ret2
            exact RetSB.mk (L := L) rfl Hj.out hown2 E4
          · have Hj := Lib.hid (setR_full Hft.out (fun h => hs (by have := h.2; rw [HL.out] at this; exact this)))
            have hs1 : (10 : Int) < (L.length : Int) := by omega
            clear HL Hhn Hft HL0 hz
            go_wp2_with fail
            refine (cloneLck_any a cap l _ hl (hc.ext E4)).mono ?_
            rintro e w9 ⟨v9, rfl, hown9, hb9⟩
            go_wp2
            go_ret2
            exact RetSB.mk (L := l) rfl Hj.out (ownsRow_base hown9 E4.size) (E4.trans hb9)
        · have tz : (hn != 0) = true := by simpa using hz
          have Hj := Lib.hid (setR_full Hft.out (fun h => hz (Hhn.out.trans h.1)))
          clear HL Hhn Hft HL0 hz
          go_wp2_with fail
          refine (cloneLck_any a cap l _ hl (hc.ext E4)).mono ?_
          rintro e w9 ⟨v9, rfl, hown9, hb9⟩
          go_wp2
          go_ret2
          exact RetSB.mk (L := l) rfl Hj.out (ownsRow_base hown9 E4.size) (E4.trans hb9)
end Go.Proofs.Ytaofbdhljnhlnaa
