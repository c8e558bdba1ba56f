/- SetTimer: contracts of the program's and of the reference's. Condition: lists of at most 2^19. -/
import Derived.Test.YtgjadebohneioaaTimS
namespace Go.Proofs.Ytgjadebohneioaa
open Go.RowKit

set_option maxHeartbeats 8000000 in
theorem implSetTimer (a : Option Addr) (cap : Nat) (l : List Tim) (x : Tim) (w : World) (hl : l.length ≤ 9223372036854775807) (hc : Rd 3 encTim w a l) :
    Calls Try.prog 11 #[.slice a l.length cap, .agg #[.int .i64 x.tm, .int .i64 x.who, .int .i64 x.ag]] w fun e w' => ∃ u L ok, e = .returned (.tuple #[u, .bool ok]) ∧ SetTR l x L ok ∧ Sep w w' [plRow 30 3 encTim u L] := by
  go_enter Try.func11, Try.ntmps11
  have S := Sep.start w
  replace S : Sep w (w.alloc (.cells #[.int .i64 x.tm, .int .i64 x.who, .int .i64 x.ag] 30)) [plBox w.heap.size #[.int .i64 x.tm, .int .i64 x.who, .int .i64 x.ag] 30] := S.alloc_at (by simp) _ _
  go_wp2_with fail
  generalize (w.alloc (.cells #[.int .i64 x.tm, .int .i64 x.who, .int .i64 x.ag] 30)) = w1 at *
  refine (implTimersValid _ _ l _ hl (hc.ext S.ext)).mono ?_
  rintro e w2 ⟨v0, rfl, hv0, hE⟩
  have Hv0 := Lib.hid hv0
  clear hv0
  replace S : Sep w w2 [plBox w.heap.size #[.int .i64 x.tm, .int .i64 x.who, .int .i64 x.ag] 30] := S.step hE
  clear hE
  cases v0 with
  | false =>
    have HR : Hid (SetTR l x [] false) := Lib.hid (.inl ⟨fun h => Bool.noConfusion (Hv0.out.2 h), rfl, rfl⟩)
    replace S : Sep w w2 [] := S.drop 0
    go_wp2
    go_ret2
    exact ⟨_, [], false, rfl, HR.out, S.nil _ _ _⟩
  | true =>
    have Hok := Lib.hid (Hv0.out.1 rfl)
    have hl8 : l.length ≤ 8 := Hok.out.2
    clear Hv0
    obtain ⟨rbc0, rbf0⟩ : w2.cell? ⟨w.heap.size, 0, none⟩ = some (.int .i64 x.tm) ∧ w2.frozen? ⟨w.heap.size, 0, none⟩ = false := bx (S.box 0 rfl) 0 rfl
    obtain ⟨rbc1, rbf1⟩ : w2.cell? ⟨w.heap.size, 1, none⟩ = some (.int .i64 x.who) ∧ w2.frozen? ⟨w.heap.size, 1, none⟩ = false := bx (S.box 0 rfl) 1 rfl
    obtain ⟨rbc2, rbf2⟩ : w2.cell? ⟨w.heap.size, 2, none⟩ = some (.int .i64 x.ag) ∧ w2.frozen? ⟨w.heap.size, 2, none⟩ = false := bx (S.box 0 rfl) 2 rfl
    go_wp2_with fail
    clear rbc0 rbf0 rbc1 rbf1 rbc2 rbf2
    refine (setTimer_any a cap l x w2 (by omega) (hc.ext S.ext)).mono ?_
    rintro e w3 ⟨u, M, rfl, hM, U⟩
    have HM := Lib.hid hM
    have hMl := insR_len hM
    have hM9 : M.length ≤ 9 := by omega
    obtain ⟨aM, cM, hvM, hkM, _, _⟩ := view_owns encTim_len (U.row 0 rfl)
    subst hvM
    clear hM hMl
    replace S : Sep w w3 [plRow 30 3 encTim (.slice aM M.length cM) M, plBox w.heap.size #[.int .i64 x.tm, .int .i64 x.who, .int .i64 x.ag] 30] := S.call U
    clear U
    go_wp2_with fail
    refine (implTimersValid _ _ M _ (by omega) (S.rd 0 encTim_len rfl rfl)).mono ?_
    rintro e w4 ⟨v1, rfl, hv1, hE⟩
    have Hv1 := Lib.hid hv1
    clear hv1
    replace S : Sep w w4 [plRow 30 3 encTim (.slice aM M.length cM) M, plBox w.heap.size #[.int .i64 x.tm, .int .i64 x.who, .int .i64 x.ag] 30] := S.step hE
    clear hE
    cases v1 with
    | false =>
      have HR : Hid (SetTR l x l false) := Lib.hid (.inr ⟨Hok.out, M, HM.out, .inr ⟨fun h => Bool.noConfusion (Hv1.out.2 h), rfl, rfl⟩⟩)
      go_wp2_with fail
      refine (cloneTim_any a cap l w4 (by omega) (hc.ext S.ext)).mono ?_
      rintro e w5 ⟨u5, rfl, ho, hE⟩
      have U := Sep.of_owns hE ho
      clear ho hE
      replace S : Sep w w5 [plRow 30 3 encTim u5 l, plRow 30 3 encTim (.slice aM M.length cM) M, plBox w.heap.size #[.int .i64 x.tm, .int .i64 x.who, .int .i64 x.ag] 30] := S.call U
      clear U
      replace S : Sep w w5 [plRow 30 3 encTim u5 l, plBox w.heap.size #[.int .i64 x.tm, .int .i64 x.who, .int .i64 x.ag] 30] := S.drop 1
      replace S : Sep w w5 [plRow 30 3 encTim u5 l] := S.drop 1
      go_wp2
      go_ret2
      exact ⟨_, l, false, rfl, HR.out, S⟩
    | true =>
      have HR : Hid (SetTR l x M true) := Lib.hid (.inr ⟨Hok.out, M, HM.out, .inl ⟨Hv1.out.1 rfl, rfl, rfl⟩⟩)
      replace S : Sep w w4 [plRow 30 3 encTim (.slice aM M.length cM) M] := S.drop 1
      go_wp2
      go_ret2
      exact ⟨_, M, true, rfl, HR.out, S⟩

def VSs (B : Nat) (p : Option Addr) (cap k : Nat) (l : List Tim) (x : Tim) : Nat → Value → World → Prop := fun i v wv => match i with
  | 0 => ∃ g, v = .slice (some ⟨g, 0, none⟩) 0 0 ∧ B ≤ g ∧ wv.heap[g]? = some (.cells #[] 30)
  | 1 => v = .slice p l.length cap
  | 2 => v = .int .i64 k
  | 3 => v = .slice p k cap
  | 4 => wv.ownsRow B 30 3 v (l.take k).length ((l.take k).flatMap encTim)
  | 5 => v = .agg #[.int .i64 x.tm, .int .i64 x.who, .int .i64 x.ag]
  | 6 => ∃ g, v = .slice (some ⟨g, 0, none⟩) 1 1 ∧ B ≤ g ∧ wv.heap[g]? = some (.cells (encTim x).toArray 30)
  | 7 => wv.ownsRow B 30 3 v (l.take k ++ [x]).length ((l.take k ++ [x]).flatMap encTim)
  | 8 => v = .slice p l.length cap
  | 9 => v = .int .i64 k
  | 10 => ∃ a2 c2, v = .slice a2 (l.drop k).length c2 ∧ (l.drop k = [] ∨ ∃ b off, p = some ⟨b, off, none⟩ ∧ a2 = some ⟨b, off + k * 3, none⟩)
  | 11 => wv.ownsRow B 30 3 v (insT l x k).length ((insT l x k).flatMap encTim)
  | _ => True
theorem VSs.ext {B : Nat} {p : Option Addr} {cap k : Nat} {l : List Tim} {x : Tim} (i : Nat) (v : Value) (w w' : World) (h : VSs B p cap k l x i v w) (hE : Ext w w') : VSs B p cap k l x i v w' := by
  match i with
  | 1 | 2 | 3 | 5 | 8 | 9 | 10 => exact h
  | 4 | 7 | 11 => exact ownsRow_ext (show w.ownsRow _ _ _ _ _ _ from h) hE
  | 0 | 6 => obtain ⟨g, h1, h2, h3⟩ := h; exact ⟨g, h1, h2, by rw [hE.block g (Array.getElem?_eq_some_iff.1 h3).1]; exact h3⟩
  | (n + 12) => trivial
/-- An empty literal is no row that holds something. -/
theorem lit_kept {w w' : World} {B g : Nat} {v : Value} {L : List Tim} (hg : w.heap[g]? = some (.cells #[] 30)) (ho : w.ownsRow B 30 3 v L.length (L.flatMap encTim)) (hL : 0 < L.length) (hgr : w.grownBy w' v.ownBlock) : w'.heap[g]? = some (.cells #[] 30) := by
  refine (hgr.block g (Array.getElem?_eq_some_iff.1 hg).1 (fun e => ?_)).trans hg
  rcases ho.2 with ⟨_, h0⟩ | ⟨g', cap', cur, h1, _, hg', hn, _, hs, _⟩
  · omega
  · rw [h1] at e
    have e2 : g = g' := (Option.some.inj e)
    subst e2
    rw [hg] at hg'
    simp only [Option.some.injEq, Obj.cells.injEq] at hg'
    have h2 := congrArg Array.size hg'.1
    rw [hs] at h2
    simp at h2
    omega

set_option maxRecDepth 10000 in
set_option maxHeartbeats 8000000 in
theorem specSetTimer (a : Option Addr) (cap : Nat) (l : List Tim) (x : Tim) (w : World) (hl : l.length ≤ 9223372036854775807) (hcap : l.length ≤ cap) (hc : Rd 3 encTim w a l) :
    Calls Try.prog 8 #[.slice a l.length cap, .agg #[.int .i64 x.tm, .int .i64 x.who, .int .i64 x.ag]] w fun e w' => ∃ u L ok, e = .returned (.tuple #[u, .bool ok]) ∧ SetTR l x L ok ∧ Sep w w' [plRow 30 3 encTim u L] := by
  go_enter Try.func8, Try.ntmps8
  have S := Sep.start w
  replace S : Sep w (w.alloc (.cells #[.int .i64 x.tm, .int .i64 x.who, .int .i64 x.ag] 30)) [plBox w.heap.size #[.int .i64 x.tm, .int .i64 x.who, .int .i64 x.ag] 30] := S.alloc_at (by simp) _ _
  go_wp2_with fail
  generalize (w.alloc (.cells #[.int .i64 x.tm, .int .i64 x.who, .int .i64 x.ag] 30)) = w1 at *
  refine (specTimersValid _ _ l _ hl (hc.ext S.ext)).mono ?_
  rintro e w2 ⟨v0, rfl, hv0, hE⟩
  have Hv0 := Lib.hid hv0
  clear hv0
  replace S : Sep w w2 [plBox w.heap.size #[.int .i64 x.tm, .int .i64 x.who, .int .i64 x.ag] 30] := S.step hE
  clear hE
  cases v0 with
  | false =>
    have HR : Hid (SetTR l x [] false) := Lib.hid (.inl ⟨fun h => Bool.noConfusion (Hv0.out.2 h), rfl, rfl⟩)
    replace S : Sep w w2 [] := S.drop 0
    replace S : Sep w (w2.alloc (.cells #[] 30)) [plRow 30 3 encTim (.slice (some ⟨w2.heap.size, 0, none⟩) 0 0) []] := S.lit0 (by simp) _ _ _
    go_wp2
    go_ret2
    exact ⟨_, [], false, rfl, HR.out, S⟩
  | true =>
    have Hok := Lib.hid (Hv0.out.1 rfl)
    have hl8 : l.length ≤ 8 := Hok.out.2
    clear Hv0
    go_wp2
    go_loopw [6] (fun i wr => ∃ k : Nat, k ≤ l.length ∧ i = .int .i64 k ∧ (∀ (j : Nat) y, k ≤ j → l[j]? = some y → x.tm < y.tm) ∧ Sep w wr [plBox w.heap.size #[.int .i64 x.tm, .int .i64 x.who, .int .i64 x.ag] 30]) (fun i _ => (intOf i).toNat)
    case atStart => exact ⟨l.length, Nat.le_refl _, rfl, fun j y hj hy => by have := (List.getElem?_eq_some_iff.1 hy).1; omega, S⟩
    case round =>
      clear S
      obtain ⟨k, hk, rfl, hall, S⟩ := hrel
      have Hall := Lib.hid hall
      clear hall
      have hexit : (∀ (m : Nat) y, k = m + 1 → l[m]? = some y → y.tm ≤ x.tm) → Hid (InsR l x (insT l x k)) := fun h => Lib.hid ⟨k, ⟨hk, Hall.out, h⟩, rfl⟩
      rcases k with _ | m
      · have HM := hexit (fun m y h => by omega)
        clear hexit
        obtain ⟨rbc0, rbf0⟩ : wr.cell? ⟨w.heap.size, 0, none⟩ = some (.int .i64 x.tm) ∧ wr.frozen? ⟨w.heap.size, 0, none⟩ = false := bx (S.box 0 rfl) 0 rfl
        obtain ⟨rbc1, rbf1⟩ : wr.cell? ⟨w.heap.size, 1, none⟩ = some (.int .i64 x.who) ∧ wr.frozen? ⟨w.heap.size, 1, none⟩ = false := bx (S.box 0 rfl) 1 rfl
        obtain ⟨rbc2, rbf2⟩ : wr.cell? ⟨w.heap.size, 2, none⟩ = some (.int .i64 x.ag) ∧ wr.frozen? ⟨w.heap.size, 2, none⟩ = false := bx (S.box 0 rfl) 2 rfl
        go_wp2
        go_quiet (fail)
        go_upto_region 6 with fail
        have S9 := S.drewN nq
        clear rbc0 rbf0 rbc1 rbf1 rbc2 rbf2
        clear S
        generalize (wr.drewN nq) = w4 at *
        have S := S9
        clear S9
        obtain ⟨rbc0, rbf0⟩ : w4.cell? ⟨w.heap.size, 0, none⟩ = some (.int .i64 x.tm) ∧ w4.frozen? ⟨w.heap.size, 0, none⟩ = false := bx (S.box 0 rfl) 0 rfl
        obtain ⟨rbc1, rbf1⟩ : w4.cell? ⟨w.heap.size, 1, none⟩ = some (.int .i64 x.who) ∧ w4.frozen? ⟨w.heap.size, 1, none⟩ = false := bx (S.box 0 rfl) 1 rfl
        obtain ⟨rbc2, rbf2⟩ : w4.cell? ⟨w.heap.size, 2, none⟩ = some (.int .i64 x.ag) ∧ w4.frozen? ⟨w.heap.size, 2, none⟩ = false := bx (S.box 0 rfl) 2 rfl
        have hc4 := hc.ext S.ext.drew
        have hK9 : 0 ≤ l.length := hk
        have Hp0 : Hid (l = [] ∨ ∃ b9 o9, (a : Option Addr) = some ⟨b9, o9, none⟩) := Lib.hid (by
          cases l with
          | nil => exact .inl rfl
          | cons z zs => obtain ⟨b, off, h, _⟩ := hc 0 (by simp); exact .inr ⟨b, off, h⟩)
        have Htl : Hid ((0) = (l.take (0)).length) := Lib.hid (by rw [List.length_take]; omega)
        have Hdl : Hid ((l.drop (0)).length = l.length - (0)) := Lib.hid (List.length_drop ..)
        have j1 : ((0 : Nat) : Int) ≤ (cap : Int) := by omega
        have j2 : ((0 : Nat) : Int) ≤ (l.length : Int) := by omega
        refine wp_region_c (V := VSs w4.heap.size a cap (0) l x) (Ext w4.drew) (fun i => if i = 0 then some 4 else if i = 4 then some 7 else if i = 6 then some 7 else if i = 7 then some 11 else none) [(7, 4), (11, 7)] 12 0 rfl (by decide) (by kernel_rfl) (by kernel_rfl) (by kernel_rfl) (by kernel_rfl) (Ext.refl _) (fun r hr => by omega) ?_ ?_
        · intro i o hi ho vz w5 hvl hE hd _
          have d0 := cell_ext hE (show w4.drew.cell? _ = _ from rbc0)
          have d1 := cell_ext hE (show w4.drew.cell? _ = _ from rbc1)
          have d2 := cell_ext hE (show w4.drew.cell? _ = _ from rbc2)
          have hsz : w4.heap.size ≤ w5.heap.size := hE.size
          have hc5 := hc4.ext hE
          clear rbc0 rbf0 rbc1 rbf1 rbc2 rbf2
          match vz, hvl with
          | [y0, y1, y2, y3, y4, y5, y6, y7, y8, y9, y10, y11], _ =>
          rcases (show i = 0 ∨ i = 1 ∨ i = 2 ∨ i = 3 ∨ i = 4 ∨ i = 5 ∨ i = 6 ∨ i = 7 ∨ i = 8 ∨ i = 9 ∨ i = 10 ∨ i = 11 by omega) with rfl | rfl | rfl | rfl | rfl | rfl | rfl | rfl | rfl | rfl | rfl | rfl
          all_goals
            simp only [List.getElem?_cons_zero, List.getElem?_cons_succ, Option.some.injEq] at ho
            subst ho
          · clear hd
            simp [putAll, Act.put]
            go_wp2
            exact OneC.mk (V := VSs w4.heap.size a cap (0) l x) VSs.ext rfl ⟨_, rfl, hsz, heap_alloc_new w5 _⟩ (hE.alloc _) ((Ext.refl _).alloc _)
          · clear hd
            simp [putAll, Act.put]
            go_wp2
            exact OneC.mk VSs.ext rfl rfl hE (Ext.refl _)
          · clear hd
            simp [putAll, Act.put]
            go_wp2
            exact OneC.mk VSs.ext rfl rfl hE (Ext.refl _)
          · have q1 : y1 = .slice a l.length cap := hd ⟨1, .data⟩ (by simp) rfl (by decide)
            have q2 : y2 = .int .i64 ((0 : Nat) : Int) := hd ⟨2, .data⟩ (by simp) rfl (by decide)
            clear hd
            subst q1 q2
            simp [putAll, Act.put]
            go_wp2
            exact OneC.mk VSs.ext rfl rfl hE (Ext.refl _)
          · obtain ⟨g, q0, hg1, hg2⟩ : ∃ g, y0 = .slice (some ⟨g, 0, none⟩) 0 0 ∧ w4.heap.size ≤ g ∧ w5.heap[g]? = some (.cells #[] 30) := hd ⟨0, .data⟩ (by simp) rfl (by decide)
            have q3 : y3 = .slice a (0) cap := hd ⟨3, .data⟩ (by simp) rfl (by decide)
            clear hd
            subst q0 q3
            have hrd := hc5.take (0)
            have hlt := Htl.out
            simp [putAll, Act.put]
            refine wpList_append_lit rfl _ _ 26 rfl w4.heap.size 30 _ 3 _ Try.underlying26 infoTim rfl (by decide) encTim_len encTim_one g rfl hg2 hg1 a (0) cap (l.take (0)) rfl hlt hrd (by omega) (by omega) hsz ?_
            intro v6 w6 ho6 hE6
            have h9 : VSs w4.heap.size a cap (0) l x 4 v6 w6 := by
              show w6.ownsRow w4.heap.size 30 3 v6 (l.take (0)).length ((l.take (0)).flatMap encTim)
              first | exact ho6 | (rw [← hlt]; exact ho6) | trace_state
            clear hrd hlt ho6
            go_wp2
            exact OneC.mk (V := VSs w4.heap.size a cap (0) l x) VSs.ext rfl h9 (hE.trans hE6) hE6
          · clear hd
            simp [putAll, Act.put]
            go_wp2
            exact OneC.mk VSs.ext rfl rfl hE (Ext.refl _)
          · have q5 : y5 = .agg #[.int .i64 x.tm, .int .i64 x.who, .int .i64 x.ag] := hd ⟨5, .data⟩ (by simp) rfl (by decide)
            clear hd
            subst q5
            simp [putAll, Act.put]
            go_wp2
            exact OneC.mk (V := VSs w4.heap.size a cap (0) l x) VSs.ext rfl ⟨_, rfl, hsz, heap_alloc_new w5 _⟩ (hE.alloc _) ((Ext.refl _).alloc _)
          · have q4 : w5.ownsRow w4.heap.size 30 3 y4 (l.take (0)).length ((l.take (0)).flatMap encTim) := hd ⟨4, .data⟩ (by simp) rfl (by decide)
            obtain ⟨g, q6, hg1, hg2⟩ : ∃ g, y6 = .slice (some ⟨g, 0, none⟩) 1 1 ∧ w4.heap.size ≤ g ∧ w5.heap[g]? = some (.cells (encTim x).toArray 30) := hd ⟨6, .data⟩ (by simp) rfl (by decide)
            have hrd : Rd 3 encTim w5 (some ⟨g, 0, none⟩) [x] := rd_lit [x] encTim_len hg2 (by simp)
            clear hd
            subst q6
            have hlt := Htl.out
            simp [putAll, Act.put]
            refine wpList_append_b rfl _ _ 26 rfl w4.heap.size 30 _ 3 _ Try.underlying26 infoTim rfl (by decide) encTim_len encTim_one _ (l.take (0)).length (l.take (0)) rfl q4 rfl (some ⟨g, 0, none⟩) 1 1 [x] rfl rfl hrd (by omega) (by omega) hsz ?_
            intro v6 w6 ho6 hgr _
            have h9 : VSs w4.heap.size a cap (0) l x 7 v6 w6 := ho6
            have hE6 : Ext w4.drew w6 := hE.grown hgr (fun b hb => (World.ownsRow.lt q4 b hb).1)
            clear ho6 q4 hgr hrd hlt
            go_wp2
            refine ⟨rfl, _, rfl, h9, hE6, fun i u hi hne hcon hnd hnc hv => ?_⟩
            match i with
            | 1 | 2 | 3 | 5 | 8 | 9 | 10 => exact hv
            | 0 => exact absurd (by simp) (hnc 4 rfl)
            | 4 | 6 => exact absurd rfl hcon
            | 7 => exact absurd rfl hne
            | 11 => exact absurd (by simp) hnd
            | (n + 12) => trivial
          · clear hd
            simp [putAll, Act.put]
            go_wp2
            exact OneC.mk VSs.ext rfl rfl hE (Ext.refl _)
          · clear hd
            simp [putAll, Act.put]
            go_wp2
            exact OneC.mk VSs.ext rfl rfl hE (Ext.refl _)
          · have q8 : y8 = .slice a l.length cap := hd ⟨8, .data⟩ (by simp) rfl (by decide)
            have q9 : y9 = .int .i64 ((0 : Nat) : Int) := hd ⟨9, .data⟩ (by simp) rfl (by decide)
            clear hd
            subst q8 q9
            have hdl := Hdl.out
            by_cases hcj : 0 = cap
            · have h0 : l.length ≤ 0 := by rw [hcj]; exact hcap
              have Hh0 : Hid (l.length = 0) := Lib.hid (Nat.le_antisymm h0 (by omega))
              have Hnil : Hid (l.drop (0) = []) := Lib.hid (List.drop_eq_nil_of_le h0)
              simp [putAll, Act.put]
              go_wp2
              have h01 : l.length = 0 := Hh0.out
              refine OneC.mk (V := VSs w4.heap.size a cap (0) l x) VSs.ext rfl ?_ hE (Ext.refl _)
              exact ⟨_, _, by rw [Hnil.out]; first | rfl | (simp; done) | (simp; omega) | (simp [h01, Hnil.out]; done) | (simp [h01]; done) | (rw [← hcj]; rfl) | trace_state, .inl Hnil.out⟩
            · have hcj2 : ¬ (cap = 0) := fun e => hcj e.symm
              simp [putAll, Act.put]
              go_wp2
              refine OneC.mk (V := VSs w4.heap.size a cap (0) l x) VSs.ext rfl ?_ hE (Ext.refl _)
              exact ⟨a, cap, by simp, (by rcases Hp0.out with h | ⟨b9, o9, h⟩; exact .inl (by rw [h]; rfl); exact .inr ⟨b9, o9, h, by rw [h]; simp⟩)⟩
          · have q7 : w5.ownsRow w4.heap.size 30 3 y7 (l.take (0) ++ [x]).length ((l.take (0) ++ [x]).flatMap encTim) := hd ⟨7, .data⟩ (by simp) rfl (by decide)
            obtain ⟨a2, c2, q10, hsh⟩ : ∃ a2 c2, y10 = .slice a2 (l.drop (0)).length c2 ∧ (l.drop (0) = [] ∨ ∃ b9 o9, (a : Option Addr) = some ⟨b9, o9, none⟩ ∧ a2 = some ⟨b9, o9 + (0) * 3, none⟩) := hd ⟨10, .data⟩ (by simp) rfl (by decide)
            clear hd
            have hrd : Rd 3 encTim w5 a2 (l.drop (0)) := by
              rcases hsh with h | ⟨b, off, h1, h2⟩
              · rw [h]; exact Rd.nil
              · rw [h2]
                have hc6 := hc5
                rw [h1] at hc6
                exact hc6.drop (0)
            have hl1 : (l.take (0) ++ [x]).length ≤ 9 := by
              have h0 := Htl.out
              have h1 : [x].length = 1 := rfl
              rw [List.length_append, ← h0, h1]; omega
            have hl2 : (l.drop (0)).length ≤ 8 := by rw [List.length_drop]; omega
            have hpos : 0 < (l.take (0) ++ [x]).length := by simp
            have Hins : Hid ((l.take (0) ++ [x]) ++ l.drop (0) = insT l x (0)) := Lib.hid (by simp [insT])
            obtain ⟨A, hA⟩ : ∃ A, A = l.take (0) ++ [x] := ⟨_, rfl⟩
            obtain ⟨D, hD⟩ : ∃ D, D = l.drop (0) := ⟨_, rfl⟩
            rw [← hA] at q7 hl1 hpos Hins
            rw [← hD] at hrd hl2 q10 Hins
            clear hA hD hsh
            subst q10
            simp [putAll, Act.put]
            refine wpList_append_b rfl _ _ 26 rfl w4.heap.size 30 _ 3 _ Try.underlying26 infoTim rfl (by decide) encTim_len encTim_one _ A.length A rfl q7 rfl a2 D.length c2 D rfl rfl hrd (by omega) (by omega) hsz ?_
            intro v6 w6 ho6 hgr _
            rw [Hins.out] at ho6
            have h9 : VSs w4.heap.size a cap (0) l x 11 v6 w6 := ho6
            have hE6 : Ext w4.drew w6 := hE.grown hgr (fun b hb => (World.ownsRow.lt q7 b hb).1)
            have hlk := fun (g : Nat) (hg : w5.heap[g]? = some (.cells #[] 30)) => lit_kept hg q7 hpos hgr
            clear ho6 q7 hgr hrd
            go_wp2
            refine ⟨rfl, _, rfl, h9, hE6, fun i u hi hne hcon hnd hnc hv => ?_⟩
            match i with
            | 1 | 2 | 3 | 5 | 8 | 9 | 10 => exact hv
            | 0 => obtain ⟨g, h1, h2, h3⟩ := hv; exact ⟨g, h1, h2, hlk g h3⟩
            | 4 | 6 => exact absurd (by simp) (hnc 7 rfl)
            | 7 => exact absurd rfl hcon
            | 11 => exact absurd rfl hne
            | (n + 12) => trivial
        intro vz w11 hvl hE hV _
        match vz, hvl with
        | [y0, y1, y2, y3, y4, y5, y6, y7, y8, y9, y10, y11], _ =>
        have ho : w11.ownsRow w4.heap.size 30 3 y11 (insT l x (0)).length ((insT l x (0)).flatMap encTim) := hV 11 (by omega) rfl
        have hMl := insT_len (x := x) hk
        clear hV
        replace hE : Ext w4 w11 := ((Ext.refl _).drew).trans hE
        obtain ⟨M, hMd⟩ : ∃ M, M = insT l x (0) := ⟨_, rfl⟩
        rw [← hMd] at ho hMl HM
        have hM9 : M.length ≤ 9 := by omega
        obtain ⟨aM, cM, hvM, hkM, _, _⟩ := view_owns encTim_len ho
        subst hvM
        have U := Sep.of_owns hE ho
        clear hE ho hc4 hMd hMl Htl Hdl j1 j2
        clear rbc0 rbf0 rbc1 rbf1 rbc2 rbf2
        replace S : Sep w w11 [plRow 30 3 encTim (.slice aM M.length cM) M, plBox w.heap.size #[.int .i64 x.tm, .int .i64 x.who, .int .i64 x.ag] 30] := S.call U
        clear U
        simp only [putAll, Act.put, List.take_succ_cons, List.take_zero, List.drop_succ_cons, List.drop_zero]
        simp
        go_wp2_with fail
        refine (specTimersValid _ _ M _ (by omega) (S.rd 0 encTim_len rfl rfl)).mono ?_
        rintro e w12 ⟨v1, rfl, hv1, hE⟩
        have Hv1 := Lib.hid hv1
        clear hv1
        replace S : Sep w w12 [plRow 30 3 encTim (.slice aM M.length cM) M, plBox w.heap.size #[.int .i64 x.tm, .int .i64 x.who, .int .i64 x.ag] 30] := S.step hE
        clear hE
        cases v1 with
        | false =>
          have HR : Hid (SetTR l x l false) := Lib.hid (.inr ⟨Hok.out, M, HM.out, .inr ⟨fun h => Bool.noConfusion (Hv1.out.2 h), rfl, rfl⟩⟩)
          have E5 := S.ext
          replace S : Sep w w12 [plBox w.heap.size #[.int .i64 x.tm, .int .i64 x.who, .int .i64 x.ag] 30] := S.drop 0
          go_wp2_with (at_builtin; refine Hid.out (?_ : Hid _))
          unfold Hid
          refine (wpList_append_lit rfl _ _ 26 rfl w.heap.size 30 _ 3 _ Try.underlying26 infoTim rfl (by decide) encTim_len encTim_one w12.heap.size rfl (heap_alloc_new _ _) E5.size a l.length cap l rfl rfl ((hc.ext E5).ext ((Ext.refl _).alloc _)) (by omega) (by omega) (by have := E5.size; simp; omega) ?_)
          intro v9 w13 ho9 hE9
          have U := Sep.of_owns ((E5.alloc (.cells #[] 30)).trans hE9) ho9
          go_wp2
          go_ret2
          exact ⟨_, l, false, rfl, HR.out, U⟩
        | true =>
          have HR : Hid (SetTR l x M true) := Lib.hid (.inr ⟨Hok.out, M, HM.out, .inl ⟨Hv1.out.1 rfl, rfl, rfl⟩⟩)
          replace S : Sep w w12 [plRow 30 3 encTim (.slice aM M.length cM) M] := S.drop 1
          go_wp2
          go_ret2
          exact ⟨_, M, true, rfl, HR.out, S⟩
      · obtain ⟨y, p, off, hy, hpe, c0, c1, c2⟩ := atTim (hc.ext S.ext) (show m < l.length by omega)
        subst hpe
        have Hy := Lib.hid hy
        have i1 : (m : Int) < (l.length : Int) := by omega
        have i2 : (0 : Int) < ((m + 1 : Nat) : Int) := by omega
        have s1 : IntKind.i64.wrap (m : Int) = (m : Int) := IntWalk.i64_in _ (by omega)
        clear hy
        obtain ⟨rbc0, rbf0⟩ : wr.cell? ⟨w.heap.size, 0, none⟩ = some (.int .i64 x.tm) ∧ wr.frozen? ⟨w.heap.size, 0, none⟩ = false := bx (S.box 0 rfl) 0 rfl
        obtain ⟨rbc1, rbf1⟩ : wr.cell? ⟨w.heap.size, 1, none⟩ = some (.int .i64 x.who) ∧ wr.frozen? ⟨w.heap.size, 1, none⟩ = false := bx (S.box 0 rfl) 1 rfl
        obtain ⟨rbc2, rbf2⟩ : wr.cell? ⟨w.heap.size, 2, none⟩ = some (.int .i64 x.ag) ∧ wr.frozen? ⟨w.heap.size, 2, none⟩ = false := bx (S.box 0 rfl) 2 rfl
        by_cases hgt : x.tm < y.tm
        · have HN : Hid (∀ (j : Nat) z, m ≤ j → l[j]? = some z → x.tm < z.tm) := Lib.hid (fun j z hj hz => by
            rcases Nat.lt_or_eq_of_le hj with h | rfl
            · exact Hall.out j z h hz
            · rw [Hy.out] at hz; cases hz; exact hgt)
          clear hexit
          go_wp2
          go_quiet (fail)
          go_wp2
          go_roundw
          case rel => exact ⟨m, by omega, by go_num, HN.out, S.drewN _⟩
          case measure => simp [intOf]
        · have HM := hexit (fun m' z h hz => by
            obtain rfl : m = m' := by omega
            rw [Hy.out] at hz; cases hz; omega)
          clear hexit
          go_wp2
          go_quiet (fail)
          go_upto_region 6 with fail
          have S9 := S.drewN nq
          clear rbc0 rbf0 rbc1 rbf1 rbc2 rbf2
          clear S
          generalize (wr.drewN nq) = w4 at *
          have S := S9
          clear S9
          obtain ⟨rbc0, rbf0⟩ : w4.cell? ⟨w.heap.size, 0, none⟩ = some (.int .i64 x.tm) ∧ w4.frozen? ⟨w.heap.size, 0, none⟩ = false := bx (S.box 0 rfl) 0 rfl
          obtain ⟨rbc1, rbf1⟩ : w4.cell? ⟨w.heap.size, 1, none⟩ = some (.int .i64 x.who) ∧ w4.frozen? ⟨w.heap.size, 1, none⟩ = false := bx (S.box 0 rfl) 1 rfl
          obtain ⟨rbc2, rbf2⟩ : w4.cell? ⟨w.heap.size, 2, none⟩ = some (.int .i64 x.ag) ∧ w4.frozen? ⟨w.heap.size, 2, none⟩ = false := bx (S.box 0 rfl) 2 rfl
          have hc4 := hc.ext S.ext.drew
          have hK9 : m + 1 ≤ l.length := hk
          have Hp0 : Hid (l = [] ∨ ∃ b9 o9, ((some ⟨p, off, none⟩) : Option Addr) = some ⟨b9, o9, none⟩) := Lib.hid (by
            cases l with
            | nil => exact .inl rfl
            | cons z zs => obtain ⟨b, off, h, _⟩ := hc 0 (by simp); exact .inr ⟨b, off, h⟩)
          have Htl : Hid ((m + 1) = (l.take (m + 1)).length) := Lib.hid (by rw [List.length_take]; omega)
          have Hdl : Hid ((l.drop (m + 1)).length = l.length - (m + 1)) := Lib.hid (List.length_drop ..)
          have j1 : ((m + 1 : Nat) : Int) ≤ (cap : Int) := by omega
          have j2 : ((m + 1 : Nat) : Int) ≤ (l.length : Int) := by omega
          refine wp_region_c (V := VSs w4.heap.size (some ⟨p, off, none⟩) cap (m + 1) l x) (Ext w4.drew) (fun i => if i = 0 then some 4 else if i = 4 then some 7 else if i = 6 then some 7 else if i = 7 then some 11 else none) [(7, 4), (11, 7)] 12 0 rfl (by decide) (by kernel_rfl) (by kernel_rfl) (by kernel_rfl) (by kernel_rfl) (Ext.refl _) (fun r hr => by omega) ?_ ?_
          · intro i o hi ho vz w5 hvl hE hd _
            have d0 := cell_ext hE (show w4.drew.cell? _ = _ from rbc0)
            have d1 := cell_ext hE (show w4.drew.cell? _ = _ from rbc1)
            have d2 := cell_ext hE (show w4.drew.cell? _ = _ from rbc2)
            have hsz : w4.heap.size ≤ w5.heap.size := hE.size
            have hc5 := hc4.ext hE
            clear rbc0 rbf0 rbc1 rbf1 rbc2 rbf2
            match vz, hvl with
            | [y0, y1, y2, y3, y4, y5, y6, y7, y8, y9, y10, y11], _ =>
            rcases (show i = 0 ∨ i = 1 ∨ i = 2 ∨ i = 3 ∨ i = 4 ∨ i = 5 ∨ i = 6 ∨ i = 7 ∨ i = 8 ∨ i = 9 ∨ i = 10 ∨ i = 11 by omega) with rfl | rfl | rfl | rfl | rfl | rfl | rfl | rfl | rfl | rfl | rfl | rfl
            all_goals
              simp only [List.getElem?_cons_zero, List.getElem?_cons_succ, Option.some.injEq] at ho
              subst ho
            · clear hd
              simp [putAll, Act.put]
              go_wp2
              exact OneC.mk (V := VSs w4.heap.size (some ⟨p, off, none⟩) cap (m + 1) l x) VSs.ext rfl ⟨_, rfl, hsz, heap_alloc_new w5 _⟩ (hE.alloc _) ((Ext.refl _).alloc _)
            · clear hd
              simp [putAll, Act.put]
              go_wp2
              exact OneC.mk VSs.ext rfl rfl hE (Ext.refl _)
            · clear hd
              simp [putAll, Act.put]
              go_wp2
              exact OneC.mk VSs.ext rfl rfl hE (Ext.refl _)
            · have q1 : y1 = .slice (some ⟨p, off, none⟩) l.length cap := hd ⟨1, .data⟩ (by simp) rfl (by decide)
              have q2 : y2 = .int .i64 ((m + 1 : Nat) : Int) := hd ⟨2, .data⟩ (by simp) rfl (by decide)
              clear hd
              subst q1 q2
              simp [putAll, Act.put]
              go_wp2
              exact OneC.mk VSs.ext rfl rfl hE (Ext.refl _)
            · obtain ⟨g, q0, hg1, hg2⟩ : ∃ g, y0 = .slice (some ⟨g, 0, none⟩) 0 0 ∧ w4.heap.size ≤ g ∧ w5.heap[g]? = some (.cells #[] 30) := hd ⟨0, .data⟩ (by simp) rfl (by decide)
              have q3 : y3 = .slice (some ⟨p, off, none⟩) (m + 1) cap := hd ⟨3, .data⟩ (by simp) rfl (by decide)
              clear hd
              subst q0 q3
              have hrd := hc5.take (m + 1)
              have hlt := Htl.out
              simp [putAll, Act.put]
              refine wpList_append_lit rfl _ _ 26 rfl w4.heap.size 30 _ 3 _ Try.underlying26 infoTim rfl (by decide) encTim_len encTim_one g rfl hg2 hg1 (some ⟨p, off, none⟩) (m + 1) cap (l.take (m + 1)) rfl hlt hrd (by omega) (by omega) hsz ?_
              intro v6 w6 ho6 hE6
              have h9 : VSs w4.heap.size (some ⟨p, off, none⟩) cap (m + 1) l x 4 v6 w6 := by
                show w6.ownsRow w4.heap.size 30 3 v6 (l.take (m + 1)).length ((l.take (m + 1)).flatMap encTim)
                first | exact ho6 | (rw [← hlt]; exact ho6) | trace_state
              clear hrd hlt ho6
              go_wp2
              exact OneC.mk (V := VSs w4.heap.size (some ⟨p, off, none⟩) cap (m + 1) l x) VSs.ext rfl h9 (hE.trans hE6) hE6
            · clear hd
              simp [putAll, Act.put]
              go_wp2
              exact OneC.mk VSs.ext rfl rfl hE (Ext.refl _)
            · have q5 : y5 = .agg #[.int .i64 x.tm, .int .i64 x.who, .int .i64 x.ag] := hd ⟨5, .data⟩ (by simp) rfl (by decide)
              clear hd
              subst q5
              simp [putAll, Act.put]
              go_wp2
              exact OneC.mk (V := VSs w4.heap.size (some ⟨p, off, none⟩) cap (m + 1) l x) VSs.ext rfl ⟨_, rfl, hsz, heap_alloc_new w5 _⟩ (hE.alloc _) ((Ext.refl _).alloc _)
            · have q4 : w5.ownsRow w4.heap.size 30 3 y4 (l.take (m + 1)).length ((l.take (m + 1)).flatMap encTim) := hd ⟨4, .data⟩ (by simp) rfl (by decide)
              obtain ⟨g, q6, hg1, hg2⟩ : ∃ g, y6 = .slice (some ⟨g, 0, none⟩) 1 1 ∧ w4.heap.size ≤ g ∧ w5.heap[g]? = some (.cells (encTim x).toArray 30) := hd ⟨6, .data⟩ (by simp) rfl (by decide)
              have hrd : Rd 3 encTim w5 (some ⟨g, 0, none⟩) [x] := rd_lit [x] encTim_len hg2 (by simp)
              clear hd
              subst q6
              have hlt := Htl.out
              simp [putAll, Act.put]
              refine wpList_append_b rfl _ _ 26 rfl w4.heap.size 30 _ 3 _ Try.underlying26 infoTim rfl (by decide) encTim_len encTim_one _ (l.take (m + 1)).length (l.take (m + 1)) rfl q4 rfl (some ⟨g, 0, none⟩) 1 1 [x] rfl rfl hrd (by omega) (by omega) hsz ?_
              intro v6 w6 ho6 hgr _
              have h9 : VSs w4.heap.size (some ⟨p, off, none⟩) cap (m + 1) l x 7 v6 w6 := ho6
              have hE6 : Ext w4.drew w6 := hE.grown hgr (fun b hb => (World.ownsRow.lt q4 b hb).1)
              clear ho6 q4 hgr hrd hlt
              go_wp2
              refine ⟨rfl, _, rfl, h9, hE6, fun i u hi hne hcon hnd hnc hv => ?_⟩
              match i with
              | 1 | 2 | 3 | 5 | 8 | 9 | 10 => exact hv
              | 0 => exact absurd (by simp) (hnc 4 rfl)
              | 4 | 6 => exact absurd rfl hcon
              | 7 => exact absurd rfl hne
              | 11 => exact absurd (by simp) hnd
              | (n + 12) => trivial
            · clear hd
              simp [putAll, Act.put]
              go_wp2
              exact OneC.mk VSs.ext rfl rfl hE (Ext.refl _)
            · clear hd
              simp [putAll, Act.put]
              go_wp2
              exact OneC.mk VSs.ext rfl rfl hE (Ext.refl _)
            · have q8 : y8 = .slice (some ⟨p, off, none⟩) l.length cap := hd ⟨8, .data⟩ (by simp) rfl (by decide)
              have q9 : y9 = .int .i64 ((m + 1 : Nat) : Int) := hd ⟨9, .data⟩ (by simp) rfl (by decide)
              clear hd
              subst q8 q9
              have hdl := Hdl.out
              by_cases hcj : m + 1 = cap
              · have h0 : l.length ≤ m + 1 := by rw [hcj]; exact hcap
                have Hh0 : Hid (l.length = m + 1) := Lib.hid (Nat.le_antisymm h0 (by omega))
                have Hnil : Hid (l.drop (m + 1) = []) := Lib.hid (List.drop_eq_nil_of_le h0)
                simp [putAll, Act.put]
                go_wp2
                have h01 : l.length = m + 1 := Hh0.out
                refine OneC.mk (V := VSs w4.heap.size (some ⟨p, off, none⟩) cap (m + 1) l x) VSs.ext rfl ?_ hE (Ext.refl _)
                exact ⟨_, _, by rw [Hnil.out]; first | rfl | (simp; done) | (simp; omega) | (simp [h01, Hnil.out]; done) | (simp [h01]; done) | (rw [← hcj]; rfl) | trace_state, .inl Hnil.out⟩
              · have hcj2 : ¬ (cap = m + 1) := fun e => hcj e.symm
                simp [putAll, Act.put]
                go_wp2
                refine OneC.mk (V := VSs w4.heap.size (some ⟨p, off, none⟩) cap (m + 1) l x) VSs.ext rfl ?_ hE (Ext.refl _)
                exact ⟨_, _, by rw [hdl], .inr ⟨_, _, rfl, rfl⟩⟩
            · have q7 : w5.ownsRow w4.heap.size 30 3 y7 (l.take (m + 1) ++ [x]).length ((l.take (m + 1) ++ [x]).flatMap encTim) := hd ⟨7, .data⟩ (by simp) rfl (by decide)
              obtain ⟨a2, c2, q10, hsh⟩ : ∃ a2 c2, y10 = .slice a2 (l.drop (m + 1)).length c2 ∧ (l.drop (m + 1) = [] ∨ ∃ b9 o9, ((some ⟨p, off, none⟩) : Option Addr) = some ⟨b9, o9, none⟩ ∧ a2 = some ⟨b9, o9 + (m + 1) * 3, none⟩) := hd ⟨10, .data⟩ (by simp) rfl (by decide)
              clear hd
              have hrd : Rd 3 encTim w5 a2 (l.drop (m + 1)) := by
                rcases hsh with h | ⟨b, off, h1, h2⟩
                · rw [h]; exact Rd.nil
                · rw [h2]
                  have hc6 := hc5
                  rw [h1] at hc6
                  exact hc6.drop (m + 1)
              have hl1 : (l.take (m + 1) ++ [x]).length ≤ 9 := by
                have h0 := Htl.out
                have h1 : [x].length = 1 := rfl
                rw [List.length_append, ← h0, h1]; omega
              have hl2 : (l.drop (m + 1)).length ≤ 8 := by rw [List.length_drop]; omega
              have hpos : 0 < (l.take (m + 1) ++ [x]).length := by simp
              have Hins : Hid ((l.take (m + 1) ++ [x]) ++ l.drop (m + 1) = insT l x (m + 1)) := Lib.hid (by simp [insT])
              obtain ⟨A, hA⟩ : ∃ A, A = l.take (m + 1) ++ [x] := ⟨_, rfl⟩
              obtain ⟨D, hD⟩ : ∃ D, D = l.drop (m + 1) := ⟨_, rfl⟩
              rw [← hA] at q7 hl1 hpos Hins
              rw [← hD] at hrd hl2 q10 Hins
              clear hA hD hsh
              subst q10
              simp [putAll, Act.put]
              refine wpList_append_b rfl _ _ 26 rfl w4.heap.size 30 _ 3 _ Try.underlying26 infoTim rfl (by decide) encTim_len encTim_one _ A.length A rfl q7 rfl a2 D.length c2 D rfl rfl hrd (by omega) (by omega) hsz ?_
              intro v6 w6 ho6 hgr _
              rw [Hins.out] at ho6
              have h9 : VSs w4.heap.size (some ⟨p, off, none⟩) cap (m + 1) l x 11 v6 w6 := ho6
              have hE6 : Ext w4.drew w6 := hE.grown hgr (fun b hb => (World.ownsRow.lt q7 b hb).1)
              have hlk := fun (g : Nat) (hg : w5.heap[g]? = some (.cells #[] 30)) => lit_kept hg q7 hpos hgr
              clear ho6 q7 hgr hrd
              go_wp2
              refine ⟨rfl, _, rfl, h9, hE6, fun i u hi hne hcon hnd hnc hv => ?_⟩
              match i with
              | 1 | 2 | 3 | 5 | 8 | 9 | 10 => exact hv
              | 0 => obtain ⟨g, h1, h2, h3⟩ := hv; exact ⟨g, h1, h2, hlk g h3⟩
              | 4 | 6 => exact absurd (by simp) (hnc 7 rfl)
              | 7 => exact absurd rfl hcon
              | 11 => exact absurd rfl hne
              | (n + 12) => trivial
          intro vz w11 hvl hE hV _
          match vz, hvl with
          | [y0, y1, y2, y3, y4, y5, y6, y7, y8, y9, y10, y11], _ =>
          have ho : w11.ownsRow w4.heap.size 30 3 y11 (insT l x (m + 1)).length ((insT l x (m + 1)).flatMap encTim) := hV 11 (by omega) rfl
          have hMl := insT_len (x := x) hk
          clear hV
          replace hE : Ext w4 w11 := ((Ext.refl _).drew).trans hE
          obtain ⟨M, hMd⟩ : ∃ M, M = insT l x (m + 1) := ⟨_, rfl⟩
          rw [← hMd] at ho hMl HM
          have hM9 : M.length ≤ 9 := by omega
          obtain ⟨aM, cM, hvM, hkM, _, _⟩ := view_owns encTim_len ho
          subst hvM
          have U := Sep.of_owns hE ho
          clear hE ho hc4 hMd hMl Htl Hdl j1 j2
          clear rbc0 rbf0 rbc1 rbf1 rbc2 rbf2
          replace S : Sep w w11 [plRow 30 3 encTim (.slice aM M.length cM) M, plBox w.heap.size #[.int .i64 x.tm, .int .i64 x.who, .int .i64 x.ag] 30] := S.call U
          clear U
          simp only [putAll, Act.put, List.take_succ_cons, List.take_zero, List.drop_succ_cons, List.drop_zero]
          simp
          go_wp2_with fail
          refine (specTimersValid _ _ M _ (by omega) (S.rd 0 encTim_len rfl rfl)).mono ?_
          rintro e w12 ⟨v1, rfl, hv1, hE⟩
          have Hv1 := Lib.hid hv1
          clear hv1
          replace S : Sep w w12 [plRow 30 3 encTim (.slice aM M.length cM) M, plBox w.heap.size #[.int .i64 x.tm, .int .i64 x.who, .int .i64 x.ag] 30] := S.step hE
          clear hE
          cases v1 with
          | false =>
            have HR : Hid (SetTR l x l false) := Lib.hid (.inr ⟨Hok.out, M, HM.out, .inr ⟨fun h => Bool.noConfusion (Hv1.out.2 h), rfl, rfl⟩⟩)
            have E5 := S.ext
            replace S : Sep w w12 [plBox w.heap.size #[.int .i64 x.tm, .int .i64 x.who, .int .i64 x.ag] 30] := S.drop 0
            go_wp2_with (at_builtin; refine Hid.out (?_ : Hid _))
            unfold Hid
            refine (wpList_append_lit rfl _ _ 26 rfl w.heap.size 30 _ 3 _ Try.underlying26 infoTim rfl (by decide) encTim_len encTim_one w12.heap.size rfl (heap_alloc_new _ _) E5.size (some ⟨p, off, none⟩) l.length cap l rfl rfl ((hc.ext E5).ext ((Ext.refl _).alloc _)) (by omega) (by omega) (by have := E5.size; simp; omega) ?_)
            intro v9 w13 ho9 hE9
            have U := Sep.of_owns ((E5.alloc (.cells #[] 30)).trans hE9) ho9
            go_wp2
            go_ret2
            exact ⟨_, l, false, rfl, HR.out, U⟩
          | true =>
            have HR : Hid (SetTR l x M true) := Lib.hid (.inr ⟨Hok.out, M, HM.out, .inl ⟨Hv1.out.1 rfl, rfl, rfl⟩⟩)
            replace S : Sep w w12 [plRow 30 3 encTim (.slice aM M.length cM) M] := S.drop 1
            go_wp2
            go_ret2
            exact ⟨_, M, true, rfl, HR.out, S⟩
end Go.Proofs.Ytgjadebohneioaa
