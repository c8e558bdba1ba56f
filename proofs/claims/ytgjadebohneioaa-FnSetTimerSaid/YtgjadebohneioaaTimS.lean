/- SetTimer: contracts of setTimer, of the program's SetTimer and of the reference's. Condition: lists of at most 2^19. -/
import Derived.Test.YtgjadebohneioaaTimV
import Derived.Test.YtgjadebohneioaaTimIns
import Derived.Test.YtgjadebohneioaaOrdC
namespace Go.Proofs.Ytgjadebohneioaa
open Go.RowKit

/-- The place for x: behind all that end not later. -/
def Pos (l : List Tim) (x : Tim) (k : Nat) : Prop := k ≤ l.length ∧ (∀ (j : Nat) y, k ≤ j → l[j]? = some y → x.tm < y.tm) ∧ (∀ (m : Nat) y, k = m + 1 → l[m]? = some y → y.tm ≤ x.tm)
theorem pos_fun {l : List Tim} {x : Tim} {h k : Nat} (a : Pos l x h) (b : Pos l x k) : h = k := by
  rcases Nat.lt_trichotomy h k with c | c | c
  · obtain ⟨m, rfl⟩ : ∃ m, k = m + 1 := ⟨k - 1, by omega⟩
    have hm : m < l.length := by have := b.1; omega
    have h1 := b.2.2 m _ rfl (List.getElem?_eq_getElem hm)
    have h2 := a.2.1 m _ (by omega) (List.getElem?_eq_getElem hm)
    omega
  · exact c
  · obtain ⟨m, rfl⟩ : ∃ m, h = m + 1 := ⟨h - 1, by omega⟩
    have hm : m < l.length := by have := a.1; omega
    have h1 := a.2.2 m _ rfl (List.getElem?_eq_getElem hm)
    have h2 := b.2.1 m _ (by omega) (List.getElem?_eq_getElem hm)
    omega
def insT (l : List Tim) (x : Tim) (k : Nat) : List Tim := l.take k ++ x :: l.drop k
theorem insT_len {l : List Tim} {x : Tim} {k : Nat} (h : k ≤ l.length) : (insT l x k).length = l.length + 1 := by simp [insT]; omega
def InsR (l : List Tim) (x : Tim) (L : List Tim) : Prop := ∃ k, Pos l x k ∧ L = insT l x k
theorem insR_fun {l : List Tim} {x : Tim} {L M : List Tim} (h : InsR l x L) (h' : InsR l x M) : L = M := by
  obtain ⟨k, hk, rfl⟩ := h
  obtain ⟨m, hm, rfl⟩ := h'
  rw [pos_fun hk hm]
theorem insR_len {l : List Tim} {x : Tim} {L : List Tim} (h : InsR l x L) : L.length = l.length + 1 := by
  obtain ⟨k, hk, rfl⟩ := h
  exact insT_len hk.1
def SetTR (l : List Tim) (x : Tim) (L : List Tim) (ok : Bool) : Prop :=
  (¬ TimsOk l ∧ L = [] ∧ ok = false) ∨ (TimsOk l ∧ ∃ M, InsR l x M ∧ ((TimsOk M ∧ L = M ∧ ok = true) ∨ (¬ TimsOk M ∧ L = l ∧ ok = false)))
theorem setTR_fun {l : List Tim} {x : Tim} {L L' : List Tim} {ok ok' : Bool} (h : SetTR l x L ok) (h' : SetTR l x L' ok') : L = L' ∧ ok = ok' := by
  rcases h with ⟨h, rfl, rfl⟩ | ⟨h, M, hM, hc⟩ <;> rcases h' with ⟨h', rfl, rfl⟩ | ⟨h', M', hM', hc'⟩
  · exact ⟨rfl, rfl⟩
  · exact absurd h' h
  · exact absurd h h'
  · obtain rfl := insR_fun hM hM'
    rcases hc with ⟨c, rfl, rfl⟩ | ⟨c, rfl, rfl⟩ <;> rcases hc' with ⟨c', rfl, rfl⟩ | ⟨c', rfl, rfl⟩
    · exact ⟨rfl, rfl⟩
    · exact absurd c c'
    · exact absurd c' c
    · exact ⟨rfl, rfl⟩
theorem setTR_len {l : List Tim} {x : Tim} {L : List Tim} {ok : Bool} (h : SetTR l x L ok) : L.length ≤ 8 := by
  rcases h with ⟨_, rfl, _⟩ | ⟨h, M, hM, ⟨c, rfl, _⟩ | ⟨_, rfl, _⟩⟩
  · simp
  · exact c.2
  · exact h.2

def VSt (B : Nat) (p : Option Addr) (cap k : Nat) (l L : List Tim) (x : Tim) : Nat → Value → World → Prop := fun i v wv => match i with
  | 0 => v = .slice p l.length cap
  | 1 => wv.ownsRow B 30 3 v l.length (l.flatMap encTim)
  | 2 => v = .int .i64 k
  | 3 => v = .agg #[.int .i64 x.tm, .int .i64 x.who, .int .i64 x.ag]
  | 4 => ∃ g, v = .slice (some ⟨g, 0, none⟩) 1 1 ∧ B ≤ g ∧ wv.heap[g]? = some (.cells (encTim x).toArray 30)
  | 5 => wv.ownsRow B 30 3 v L.length (L.flatMap encTim)
  | 6 => wv.ownsRow B 30 3 v L.length (L.flatMap encTim)
  | _ => True
theorem VSt.ext {B : Nat} {p : Option Addr} {cap k : Nat} {l L : List Tim} {x : Tim} (i : Nat) (v : Value) (w w' : World) (h : VSt B p cap k l L x i v w) (hE : Ext w w') : VSt B p cap k l L x i v w' := by
  match i with
  | 0 | 2 | 3 => exact h
  | 1 | 5 | 6 => exact ownsRow_ext (show w.ownsRow _ _ _ _ _ _ from h) hE
  | 4 => obtain ⟨g, h1, h2, h3⟩ := h; exact ⟨g, h1, h2, by rw [hE.block g (Array.getElem?_eq_some_iff.1 h3).1]; exact h3⟩
  | (n + 7) => trivial

set_option maxHeartbeats 8000000 in
theorem setTimer_any (a : Option Addr) (cap : Nat) (l : List Tim) (x : Tim) (w : World) (hl : l.length ≤ 500000) (hc : Rd 3 encTim w a l) :
    Calls Try.prog 27 #[.slice a l.length cap, .agg #[.int .i64 x.tm, .int .i64 x.who, .int .i64 x.ag]] w fun e w' => ∃ u L, e = .returned u ∧ InsR l x L ∧ Sep w w' [plRow 30 3 encTim u L] := by
  go_enter Try.func27, Try.ntmps27
  have S := Sep.start w
  replace S : Sep w (w.alloc (.cells #[.int .i64 x.tm, .int .i64 x.who, .int .i64 x.ag] 30)) [plBox w.heap.size #[.int .i64 x.tm, .int .i64 x.who, .int .i64 x.ag] 30] := S.alloc_at (by simp) _ _
  go_upto_region 1 with fail
  generalize (w.alloc (.cells #[.int .i64 x.tm, .int .i64 x.who, .int .i64 x.ag] 30)) = w1 at *
  go_wp2
  go_loopw [5] (fun i wr => ∃ k : Nat, k ≤ l.length ∧ i = .int .i64 k ∧ (∀ (j : Nat) y, k ≤ j → l[j]? = some y → x.tm < y.tm) ∧ Sep w wr [plBox w.heap.size #[.int .i64 x.tm, .int .i64 x.who, .int .i64 x.ag] 30]) (fun i _ => (intOf i).toNat)
  case atStart => exact ⟨l.length, Nat.le_refl _, rfl, fun j y hj hy => by have := (List.getElem?_eq_some_iff.1 hy).1; omega, S⟩
  case round =>
    clear S
    obtain ⟨k, hk, rfl, hall, S⟩ := hrel
    have Hall := Lib.hid hall
    clear hall
    have hexit : (∀ (m : Nat) y, k = m + 1 → l[m]? = some y → y.tm ≤ x.tm) → Hid (InsR l x (insT l x k)) := fun h => Lib.hid ⟨k, ⟨hk, Hall.out, h⟩, rfl⟩
    rcases k with _ | m
    · have HR := hexit (fun m y h => by omega)
      clear hexit
      obtain ⟨bx0c0, bx0f0⟩ : wr.cell? ⟨w.heap.size, 0, none⟩ = some (.int .i64 x.tm) ∧ wr.frozen? ⟨w.heap.size, 0, none⟩ = false := bx (S.box 0 rfl) 0 rfl
      obtain ⟨bx0c1, bx0f1⟩ : wr.cell? ⟨w.heap.size, 1, none⟩ = some (.int .i64 x.who) ∧ wr.frozen? ⟨w.heap.size, 1, none⟩ = false := bx (S.box 0 rfl) 1 rfl
      obtain ⟨bx0c2, bx0f2⟩ : wr.cell? ⟨w.heap.size, 2, none⟩ = some (.int .i64 x.ag) ∧ wr.frozen? ⟨w.heap.size, 2, none⟩ = false := bx (S.box 0 rfl) 2 rfl
      go_wp2
      go_quiet (fail)
      go_upto_region 4 with fail
      have S9 := S.drewN nq
      clear bx0c0 bx0f0 bx0c1 bx0f1 bx0c2 bx0f2
      clear S
      generalize (wr.drewN nq) = w4 at *
      have S := S9
      clear S9
      obtain ⟨bx0c0, bx0f0⟩ : w4.cell? ⟨w.heap.size, 0, none⟩ = some (.int .i64 x.tm) ∧ w4.frozen? ⟨w.heap.size, 0, none⟩ = false := bx (S.box 0 rfl) 0 rfl
      obtain ⟨bx0c1, bx0f1⟩ : w4.cell? ⟨w.heap.size, 1, none⟩ = some (.int .i64 x.who) ∧ w4.frozen? ⟨w.heap.size, 1, none⟩ = false := bx (S.box 0 rfl) 1 rfl
      obtain ⟨bx0c2, bx0f2⟩ : w4.cell? ⟨w.heap.size, 2, none⟩ = some (.int .i64 x.ag) ∧ w4.frozen? ⟨w.heap.size, 2, none⟩ = false := bx (S.box 0 rfl) 2 rfl
      have hc4 := hc.ext S.ext.drew
      have hK9 : 0 ≤ l.length := hk
      have Hlen := Lib.hid (insT_len (x := x) hk)
      refine wp_region_c (V := VSt w4.heap.size a cap (0) l (insT l x (0)) x) (Ext w4.drew) (fun i => if i = 1 then some 5 else if i = 4 then some 5 else none) [(6, 5)] 7 0 rfl (by decide) (by kernel_rfl) (by kernel_rfl) (by kernel_rfl) (by kernel_rfl) (Ext.refl _) (fun r hr => by omega) ?_ ?_
      · intro i o hi ho vz w5 hvl hE hd _
        have d0 := cell_ext hE (show w4.drew.cell? _ = _ from bx0c0)
        have d1 := cell_ext hE (show w4.drew.cell? _ = _ from bx0c1)
        have d2 := cell_ext hE (show w4.drew.cell? _ = _ from bx0c2)
        have hsz : w4.heap.size ≤ w5.heap.size := hE.size
        have hc5 := hc4.ext hE
        clear bx0c0 bx0f0 bx0c1 bx0f1 bx0c2 bx0f2
        match vz, hvl with
        | [y0, y1, y2, y3, y4, y5, y6], _ =>
        rcases (show i = 0 ∨ i = 1 ∨ i = 2 ∨ i = 3 ∨ i = 4 ∨ i = 5 ∨ i = 6 by omega) with rfl | rfl | rfl | rfl | rfl | rfl | rfl
        all_goals
          simp only [List.getElem?_cons_zero, List.getElem?_cons_succ, Option.some.injEq] at ho
          subst ho
        · clear hd
          simp [putAll, Act.put]
          go_wp2
          exact OneC.mk VSt.ext rfl rfl hE (Ext.refl _)
        · have q0 : y0 = .slice a l.length cap := hd ⟨0, .data⟩ (by simp) rfl (by decide)
          clear hd
          subst q0
          simp [putAll, Act.put]
          go_wp2_with fail
          refine (cloneTim_any _ cap l w5 (by omega) hc5).mono ?_
          rintro e w6 ⟨u, rfl, ho, hE6⟩
          have h9 : VSt w4.heap.size a cap (0) l (insT l x (0)) x 1 u w6 := ownsRow_base ho hsz
          clear ho
          go_wp2
          exact OneC.mk VSt.ext rfl h9 (hE.trans hE6) hE6
        · clear hd
          simp [putAll, Act.put]
          go_wp2
          exact OneC.mk VSt.ext rfl rfl hE (Ext.refl _)
        · clear hd
          simp [putAll, Act.put]
          go_wp2
          exact OneC.mk VSt.ext rfl rfl hE (Ext.refl _)
        · have q3 : y3 = .agg #[.int .i64 x.tm, .int .i64 x.who, .int .i64 x.ag] := hd ⟨3, .data⟩ (by simp) rfl (by decide)
          clear hd
          subst q3
          simp [putAll, Act.put]
          go_wp2
          exact OneC.mk (V := VSt w4.heap.size a cap (0) l (insT l x (0)) x) VSt.ext rfl ⟨_, rfl, hsz, heap_alloc_new w5 _⟩ (hE.alloc _) ((Ext.refl _).alloc _)
        · have q1 : w5.ownsRow w4.heap.size 30 3 y1 l.length (l.flatMap encTim) := hd ⟨1, .data⟩ (by simp) rfl (by decide)
          have q2 : y2 = .int .i64 ((0 : Nat) : Int) := hd ⟨2, .data⟩ (by simp) rfl (by decide)
          obtain ⟨g, q4, hg1, hg2⟩ : ∃ g, y4 = .slice (some ⟨g, 0, none⟩) 1 1 ∧ w4.heap.size ≤ g ∧ w5.heap[g]? = some (.cells (encTim x).toArray 30) := hd ⟨4, .data⟩ (by simp) rfl (by decide)
          obtain ⟨a6, c6, hv6, _⟩ := view_owns encTim_len q1
          clear hd
          subst hv6 q2 q4
          simp [putAll, Act.put]
          go_wp2_with fail
          refine (insTim_any w4.heap.size a6 c6 (0) g l x w5 hK9 (by omega) hsz q1 hg2).mono ?_
          rintro e w6 ⟨v6, rfl, ho, hgr, _⟩
          have h9 : VSt w4.heap.size a cap (0) l (insT l x (0)) x 5 v6 w6 := ho
          have hE6 : Ext w4.drew w6 := hE.grown hgr (fun b hb => (World.ownsRow.lt q1 b hb).1)
          clear ho q1 hgr
          go_wp2
          refine ⟨rfl, _, rfl, h9, hE6, fun i u hi hne hcon hnd hnc hv => ?_⟩
          match i with
          | 0 | 2 | 3 => exact hv
          | 1 | 4 => exact absurd rfl hcon
          | 5 => exact absurd rfl hne
          | 6 => exact absurd (by simp) hnd
          | (n + 7) => trivial
        · have q5 : w5.ownsRow w4.heap.size 30 3 y5 (insT l x (0)).length ((insT l x (0)).flatMap encTim) := hd ⟨5, .data⟩ (by simp) rfl (by decide)
          clear hd
          simp [putAll, Act.put]
          go_wp2
          exact OneC.mk (V := VSt w4.heap.size a cap (0) l (insT l x (0)) x) VSt.ext rfl q5 hE (Ext.refl _)
      intro vz w11 hvl hE hV _
      match vz, hvl with
      | [y0, y1, y2, y3, y4, y5, y6], _ =>
      have ho : w11.ownsRow w4.heap.size 30 3 y6 (insT l x (0)).length ((insT l x (0)).flatMap encTim) := hV 6 (by omega) rfl
      clear hV
      replace hE : Ext w4 w11 := ((Ext.refl _).drew).trans hE
      have U := Sep.of_owns hE ho
      clear hE ho hc4
      clear bx0c0 bx0f0 bx0c1 bx0f1 bx0c2 bx0f2
      replace S : Sep w w11 [plRow 30 3 encTim y6 (insT l x (0)), plBox w.heap.size #[.int .i64 x.tm, .int .i64 x.who, .int .i64 x.ag] 30] := S.call U
      clear U
      replace S : Sep w w11 [plRow 30 3 encTim y6 (insT l x (0))] := S.drop 1
      simp only [putAll, Act.put, List.take_succ_cons, List.take_zero, List.drop_succ_cons, List.drop_zero]
      simp
      go_wp2
      go_ret
      exact ⟨y6, _, rfl, HR.out, S⟩
    · obtain ⟨y, p, off, hy, hpe, c0, c1, c2⟩ := atTim (hc.ext S.ext) (show m < l.length by omega)
      subst hpe
      have Hy := Lib.hid hy
      have i1 : (m : Int) < (l.length : Int) := by omega
      have i2 : (0 : Int) < ((m + 1 : Nat) : Int) := by omega
      have s1 : IntKind.i64.wrap (m : Int) = (m : Int) := IntWalk.i64_in _ (by omega)
      clear hy
      obtain ⟨bx0c0, bx0f0⟩ : wr.cell? ⟨w.heap.size, 0, none⟩ = some (.int .i64 x.tm) ∧ wr.frozen? ⟨w.heap.size, 0, none⟩ = false := bx (S.box 0 rfl) 0 rfl
      obtain ⟨bx0c1, bx0f1⟩ : wr.cell? ⟨w.heap.size, 1, none⟩ = some (.int .i64 x.who) ∧ wr.frozen? ⟨w.heap.size, 1, none⟩ = false := bx (S.box 0 rfl) 1 rfl
      obtain ⟨bx0c2, bx0f2⟩ : wr.cell? ⟨w.heap.size, 2, none⟩ = some (.int .i64 x.ag) ∧ wr.frozen? ⟨w.heap.size, 2, none⟩ = false := bx (S.box 0 rfl) 2 rfl
      by_cases hgt : x.tm < y.tm
      · have HN : Hid (∀ (j : Nat) z, m ≤ j → l[j]? = some z → x.tm < z.tm) := Lib.hid (fun j z hj hz => by
          rcases Nat.lt_or_eq_of_le hj with h | rfl
          · exact Hall.out j z h hz
          · rw [Hy.out] at hz; cases hz; exact hgt)
        clear hexit
        go_wp2
        go_quiet (fail)
        go_wp2
        go_roundw
        case rel => exact ⟨m, by omega, by go_num, HN.out, S.drewN _⟩
        case measure => simp [intOf]
      · have HR := hexit (fun m' z h hz => by
          obtain rfl : m = m' := by omega
          rw [Hy.out] at hz; cases hz; omega)
        clear hexit
        go_wp2
        go_quiet (fail)
        go_upto_region 4 with fail
        have S9 := S.drewN nq
        clear bx0c0 bx0f0 bx0c1 bx0f1 bx0c2 bx0f2
        clear S
        generalize (wr.drewN nq) = w4 at *
        have S := S9
        clear S9
        obtain ⟨bx0c0, bx0f0⟩ : w4.cell? ⟨w.heap.size, 0, none⟩ = some (.int .i64 x.tm) ∧ w4.frozen? ⟨w.heap.size, 0, none⟩ = false := bx (S.box 0 rfl) 0 rfl
        obtain ⟨bx0c1, bx0f1⟩ : w4.cell? ⟨w.heap.size, 1, none⟩ = some (.int .i64 x.who) ∧ w4.frozen? ⟨w.heap.size, 1, none⟩ = false := bx (S.box 0 rfl) 1 rfl
        obtain ⟨bx0c2, bx0f2⟩ : w4.cell? ⟨w.heap.size, 2, none⟩ = some (.int .i64 x.ag) ∧ w4.frozen? ⟨w.heap.size, 2, none⟩ = false := bx (S.box 0 rfl) 2 rfl
        have hc4 := hc.ext S.ext.drew
        have hK9 : m + 1 ≤ l.length := hk
        have Hlen := Lib.hid (insT_len (x := x) hk)
        refine wp_region_c (V := VSt w4.heap.size (some ⟨p, off, none⟩) cap (m + 1) l (insT l x (m + 1)) x) (Ext w4.drew) (fun i => if i = 1 then some 5 else if i = 4 then some 5 else none) [(6, 5)] 7 0 rfl (by decide) (by kernel_rfl) (by kernel_rfl) (by kernel_rfl) (by kernel_rfl) (Ext.refl _) (fun r hr => by omega) ?_ ?_
        · intro i o hi ho vz w5 hvl hE hd _
          have d0 := cell_ext hE (show w4.drew.cell? _ = _ from bx0c0)
          have d1 := cell_ext hE (show w4.drew.cell? _ = _ from bx0c1)
          have d2 := cell_ext hE (show w4.drew.cell? _ = _ from bx0c2)
          have hsz : w4.heap.size ≤ w5.heap.size := hE.size
          have hc5 := hc4.ext hE
          clear bx0c0 bx0f0 bx0c1 bx0f1 bx0c2 bx0f2
          match vz, hvl with
          | [y0, y1, y2, y3, y4, y5, y6], _ =>
          rcases (show i = 0 ∨ i = 1 ∨ i = 2 ∨ i = 3 ∨ i = 4 ∨ i = 5 ∨ i = 6 by omega) with rfl | rfl | rfl | rfl | rfl | rfl | rfl
          all_goals
            simp only [List.getElem?_cons_zero, List.getElem?_cons_succ, Option.some.injEq] at ho
            subst ho
          · clear hd
            simp [putAll, Act.put]
            go_wp2
            exact OneC.mk VSt.ext rfl rfl hE (Ext.refl _)
          · have q0 : y0 = .slice (some ⟨p, off, none⟩) l.length cap := hd ⟨0, .data⟩ (by simp) rfl (by decide)
            clear hd
            subst q0
            simp [putAll, Act.put]
            go_wp2_with fail
            refine (cloneTim_any _ cap l w5 (by omega) hc5).mono ?_
            rintro e w6 ⟨u, rfl, ho, hE6⟩
            have h9 : VSt w4.heap.size (some ⟨p, off, none⟩) cap (m + 1) l (insT l x (m + 1)) x 1 u w6 := ownsRow_base ho hsz
            clear ho
            go_wp2
            exact OneC.mk VSt.ext rfl h9 (hE.trans hE6) hE6
          · clear hd
            simp [putAll, Act.put]
            go_wp2
            exact OneC.mk VSt.ext rfl rfl hE (Ext.refl _)
          · clear hd
            simp [putAll, Act.put]
            go_wp2
            exact OneC.mk VSt.ext rfl rfl hE (Ext.refl _)
          · have q3 : y3 = .agg #[.int .i64 x.tm, .int .i64 x.who, .int .i64 x.ag] := hd ⟨3, .data⟩ (by simp) rfl (by decide)
            clear hd
            subst q3
            simp [putAll, Act.put]
            go_wp2
            exact OneC.mk (V := VSt w4.heap.size (some ⟨p, off, none⟩) cap (m + 1) l (insT l x (m + 1)) x) VSt.ext rfl ⟨_, rfl, hsz, heap_alloc_new w5 _⟩ (hE.alloc _) ((Ext.refl _).alloc _)
          · have q1 : w5.ownsRow w4.heap.size 30 3 y1 l.length (l.flatMap encTim) := hd ⟨1, .data⟩ (by simp) rfl (by decide)
            have q2 : y2 = .int .i64 ((m + 1 : Nat) : Int) := hd ⟨2, .data⟩ (by simp) rfl (by decide)
            obtain ⟨g, q4, hg1, hg2⟩ : ∃ g, y4 = .slice (some ⟨g, 0, none⟩) 1 1 ∧ w4.heap.size ≤ g ∧ w5.heap[g]? = some (.cells (encTim x).toArray 30) := hd ⟨4, .data⟩ (by simp) rfl (by decide)
            obtain ⟨a6, c6, hv6, _⟩ := view_owns encTim_len q1
            clear hd
            subst hv6 q2 q4
            simp [putAll, Act.put]
            go_wp2_with fail
            refine (insTim_any w4.heap.size a6 c6 (m + 1) g l x w5 hK9 (by omega) hsz q1 hg2).mono ?_
            rintro e w6 ⟨v6, rfl, ho, hgr, _⟩
            have h9 : VSt w4.heap.size (some ⟨p, off, none⟩) cap (m + 1) l (insT l x (m + 1)) x 5 v6 w6 := ho
            have hE6 : Ext w4.drew w6 := hE.grown hgr (fun b hb => (World.ownsRow.lt q1 b hb).1)
            clear ho q1 hgr
            go_wp2
            refine ⟨rfl, _, rfl, h9, hE6, fun i u hi hne hcon hnd hnc hv => ?_⟩
            match i with
            | 0 | 2 | 3 => exact hv
            | 1 | 4 => exact absurd rfl hcon
            | 5 => exact absurd rfl hne
            | 6 => exact absurd (by simp) hnd
            | (n + 7) => trivial
          · have q5 : w5.ownsRow w4.heap.size 30 3 y5 (insT l x (m + 1)).length ((insT l x (m + 1)).flatMap encTim) := hd ⟨5, .data⟩ (by simp) rfl (by decide)
            clear hd
            simp [putAll, Act.put]
            go_wp2
            exact OneC.mk (V := VSt w4.heap.size (some ⟨p, off, none⟩) cap (m + 1) l (insT l x (m + 1)) x) VSt.ext rfl q5 hE (Ext.refl _)
        intro vz w11 hvl hE hV _
        match vz, hvl with
        | [y0, y1, y2, y3, y4, y5, y6], _ =>
        have ho : w11.ownsRow w4.heap.size 30 3 y6 (insT l x (m + 1)).length ((insT l x (m + 1)).flatMap encTim) := hV 6 (by omega) rfl
        clear hV
        replace hE : Ext w4 w11 := ((Ext.refl _).drew).trans hE
        have U := Sep.of_owns hE ho
        clear hE ho hc4
        clear bx0c0 bx0f0 bx0c1 bx0f1 bx0c2 bx0f2
        replace S : Sep w w11 [plRow 30 3 encTim y6 (insT l x (m + 1)), plBox w.heap.size #[.int .i64 x.tm, .int .i64 x.who, .int .i64 x.ag] 30] := S.call U
        clear U
        replace S : Sep w w11 [plRow 30 3 encTim y6 (insT l x (m + 1))] := S.drop 1
        simp only [putAll, Act.put, List.take_succ_cons, List.take_zero, List.drop_succ_cons, List.drop_zero]
        simp
        go_wp2
        go_ret
        exact ⟨y6, _, rfl, HR.out, S⟩
end Go.Proofs.Ytgjadebohneioaa
