/- FnExactSetTimer: the walk. No condition but that the list is shorter than 2^63. -/
import Derived.Test.YtgjadebohneioaaTimT
import Derived.Test.YtgjadebohneioaaOwnCap
namespace Go.Proofs.Ytgjadebohneioaa
open Go.RowKit

set_option maxRecDepth 10000 in
set_option maxHeartbeats 8000000 in
theorem exactSetTimer_any (al : Option Addr) (capl : Nat) (l : List Tim) (hll : l.length ≤ 9223372036854775807) (x : Tim) (w : World) (hcl : Rd 3 encTim w al l) :
    Calls Try.prog 3 #[.slice al l.length capl, .agg #[.int .i64 x.tm, .int .i64 x.who, .int .i64 x.ag]] w (RetB True w) := by
  go_enter Try.func3, Try.ntmps3
  have S := Sep.start w
  replace S : Sep w (w.alloc (.cells #[.int .i64 x.tm, .int .i64 x.who, .int .i64 x.ag] 24)) [plBox w.heap.size #[.int .i64 x.tm, .int .i64 x.who, .int .i64 x.ag] 24] := S.alloc_at (by simp) _ _
  go_wp2_with fail
  generalize (w.alloc (.cells #[.int .i64 x.tm, .int .i64 x.who, .int .i64 x.ag] 24)) = w1 at *
  refine (szTimS_any al capl l _ _ (by omega) (by omega) hll (hcl.ext S.ext)).mono ?_
  rintro e w2 ⟨r2, rfl, hra2, hrb2, hrc2, hE⟩
  have Hrc2 := Lib.hid hrc2
  clear hrc2
  replace S : Sep w w2 [plBox w.heap.size #[.int .i64 x.tm, .int .i64 x.who, .int .i64 x.ag] 24] := S.step hE
  clear hE
  by_cases hneg2 : r2 < 0
  · go_wp2
    go_ret
    exact RetB.mk true rfl (by simp) S.ext
  have hlenl : l.length ≤ 1048576 := Hrc2.out (by omega)
  clear Hrc2
  obtain ⟨bxc0, bxf0⟩ : w2.cell? ⟨w.heap.size, 0, none⟩ = some (.int .i64 x.tm) ∧ w2.frozen? ⟨w.heap.size, 0, none⟩ = false := bx (S.box 0 rfl) 0 rfl
  obtain ⟨bxc1, bxf1⟩ : w2.cell? ⟨w.heap.size, 1, none⟩ = some (.int .i64 x.who) ∧ w2.frozen? ⟨w.heap.size, 1, none⟩ = false := bx (S.box 0 rfl) 1 rfl
  obtain ⟨bxc2, bxf2⟩ : w2.cell? ⟨w.heap.size, 2, none⟩ = some (.int .i64 x.ag) ∧ w2.frozen? ⟨w.heap.size, 2, none⟩ = false := bx (S.box 0 rfl) 2 rfl
  go_wp2_with fail
  have E0 := S.ext
  refine wp_region_v 10 (V := fun i v wv => match i with
    | 0 => v = .slice al l.length capl
    | 1 => OwnV w2.heap.size 30 3 encTim l v wv
    | 2 => v = .agg #[.int .i64 x.tm, .int .i64 x.who, .int .i64 x.ag]
    | 3 => v = .agg #[.int .i64 x.tm, .int .i64 x.who, .int .i64 x.ag]
    | 4 => PostSB w2.heap.size 30 3 encTim (SetTR l x) v wv
    | 5 => PostSB w2.heap.size 30 3 encTim (SetTR l x) v wv
    | 6 => OneS w2.heap.size 30 3 encTim (SetTR l x) v wv
    | 7 => OneB (SetTR l x) v
    | 8 => OneS w2.heap.size 30 3 encTim (SetTR l x) v wv
    | 9 => OneB (SetTR l x) v
    | _ => True) rfl (by decide) (by kernel_rfl) (by kernel_rfl) (by kernel_rfl) ?_ ?_ ?_
  · intro i v wv wv2 h hE
    match i with
    | 0 => exact h
    | 1 => exact OwnV.ext h hE
    | 2 => exact h
    | 3 => exact h
    | 4 => exact PostSB.ext h hE
    | 5 => exact PostSB.ext h hE
    | 6 => exact OneS.ext h hE
    | 7 => exact h
    | 8 => exact OneS.ext h hE
    | 9 => exact h
    | (n + 10) => trivial
  · intro i o hi ho vs w20 hvl hE hd
    have E2 : Ext w2 w20 := ((Ext.refl w2).drew).trans hE
    have qbx0 := cell_ext hE (show (World.drew _).cell? _ = _ from bxc0)
    have qbx1 := cell_ext hE (show (World.drew _).cell? _ = _ from bxc1)
    have qbx2 := cell_ext hE (show (World.drew _).cell? _ = _ from bxc2)
    clear bxc0 bxf0 bxc1 bxf1 bxc2 bxf2
    match vs, hvl with
    | [y0, y1, y2, y3, y4, y5, y6, y7, y8, y9], _ =>
    rcases (show i = 0 ∨ i = 1 ∨ i = 2 ∨ i = 3 ∨ i = 4 ∨ i = 5 ∨ i = 6 ∨ i = 7 ∨ i = 8 ∨ i = 9 by omega) with rfl | rfl | rfl | rfl | rfl | rfl | rfl | rfl | rfl | rfl
    all_goals
      simp only [List.getElem?_cons_zero, List.getElem?_cons_succ, Option.some.injEq] at ho
      subst ho
      simp [Waits, Region.binds] at hd
    · simp [putAll, Act.put, hd]
      go_wp2
      exact ⟨rfl, _, rfl, rfl, Ext.refl _⟩
    · simp [putAll, Act.put, hd]
      go_wp2_with fail
      refine (toTimS_any al capl l _ hlenl (hcl.ext (E0.trans E2))).mono ?_
      rintro e w30 ⟨v3, rfl, ⟨own3, rfl⟩, hb3⟩
      go_wp2
      exact ⟨rfl, _, rfl, ⟨_, _, rfl, ownsRow_base own3 E2.size⟩, hb3⟩
    · simp [putAll, Act.put, hd]
      go_wp2
      exact ⟨rfl, _, rfl, rfl, Ext.refl _⟩
    · simp [putAll, Act.put, hd]
      go_wp2_with fail
      refine (toTim_any x _).mono ?_
      rintro e w30 ⟨v3, rfl, rfl, hb3⟩
      go_wp2
      exact ⟨rfl, _, rfl, rfl, hb3⟩
    · obtain ⟨⟨gl, cl, hyl, ownyl⟩, hyx⟩ := hd
      simp [putAll, Act.put, hyl, hyx]
      go_wp2_with fail
      refine (specSetTimer _ _ l x _ (by omega) (owns_cap ownyl) (rd_owns encTim_len ownyl rfl)).mono ?_
      rintro e w30 ⟨u0, L0, k1, rfl, hR3, T3⟩
      have o0 := T3.row 0 rfl
      have hb3 := T3.ext
      clear T3
      go_wp2
      exact ⟨rfl, _, rfl, ⟨u0, L0, k1, rfl, hR3, ownsRow_base o0 E2.size⟩, hb3⟩
    · have h9 := hd
      simp [putAll, Act.put]
      go_wp2
      exact ⟨rfl, _, rfl, h9, Ext.refl _⟩
    · obtain ⟨u0, L0, k1, rfl, h2, o0⟩ := hd
      simp [putAll, Act.put]
      go_wp2
      exact ⟨rfl, _, rfl, ⟨L0, ⟨k1, h2⟩, o0⟩, Ext.refl _⟩
    · obtain ⟨u0, L0, k1, rfl, h2, o0⟩ := hd
      simp [putAll, Act.put]
      go_wp2
      exact ⟨rfl, _, rfl, ⟨k1, rfl, L0, h2⟩, Ext.refl _⟩
    · have h9 := hd
      simp [putAll, Act.put]
      go_wp2
      exact ⟨rfl, _, rfl, (by first | exact h9 | exact h9.1), Ext.refl _⟩
    · have h9 := hd
      simp [putAll, Act.put]
      go_wp2
      exact ⟨rfl, _, rfl, (by first | exact h9 | exact h9.1), Ext.refl _⟩
  intro vs w3 hvl hE hV
  match vs, hvl with
  | [y0, y1, y2, y3, y4, y5, y6, y7, y8, y9], _ =>
  obtain ⟨LW0, ⟨z0, hz0⟩, ho⟩ := hV 8 (by omega)
  obtain ⟨yW1, hy1, z1, hz1⟩ := hV 9 (by omega)
  have hR : (SetTR l x) LW0 yW1 := by
    obtain ⟨e0, e1⟩ := setTR_fun hz0 hz1
    subst e1
    exact hz0
  clear hz0 hz1 hV
  simp at hy1 ho
  subst hy1
  replace hE : Ext w2 w3 := ((Ext.refl _).drew).trans hE
  have T := Sep.of_owns hE ho
  clear ho hE E0
  simp only [putAll, Act.put, List.take_succ_cons, List.take_zero, List.drop_succ_cons, List.drop_zero]
  simp
  have HR := Lib.hid hR
  clear hR
  obtain ⟨aW0, cW0, hv2, hkW0, _, _⟩ := view_owns encTim_len (T.row 0 rfl)
  subst hv2
  clear bxc0 bxf0 bxc1 bxf1 bxc2 bxf2
  replace S : Sep w w3 [plRow 30 3 encTim (.slice aW0 LW0.length cW0) LW0, plBox w.heap.size #[.int .i64 x.tm, .int .i64 x.who, .int .i64 x.ag] 24] := S.call T
  clear T
  have hb0 : LW0.length ≤ 1048576 := Nat.le_trans (setTR_len HR.out) (by omega)
  obtain ⟨bxc0, bxf0⟩ : w3.cell? ⟨w.heap.size, 0, none⟩ = some (.int .i64 x.tm) ∧ w3.frozen? ⟨w.heap.size, 0, none⟩ = false := bx (S.box 1 rfl) 0 rfl
  obtain ⟨bxc1, bxf1⟩ : w3.cell? ⟨w.heap.size, 1, none⟩ = some (.int .i64 x.who) ∧ w3.frozen? ⟨w.heap.size, 1, none⟩ = false := bx (S.box 1 rfl) 1 rfl
  obtain ⟨bxc2, bxf2⟩ : w3.cell? ⟨w.heap.size, 2, none⟩ = some (.int .i64 x.ag) ∧ w3.frozen? ⟨w.heap.size, 2, none⟩ = false := bx (S.box 1 rfl) 2 rfl
  go_wp2_with fail
  refine (toTimS_any al capl l _ hlenl (hcl.ext S.ext)).mono ?_
  rintro e w4 ⟨v4, rfl, ⟨ho, hv⟩, hE⟩
  obtain ⟨axl, cxl, hv2, hkxl, _, _⟩ := view_owns encTim_len ho
  subst hv2
  clear hv
  have T := Sep.of_owns hE ho
  clear hE ho
  clear bxc0 bxf0 bxc1 bxf1 bxc2 bxf2
  replace S : Sep w w4 [plRow 30 3 encTim (.slice axl l.length cxl) l, plRow 30 3 encTim (.slice aW0 LW0.length cW0) LW0, plBox w.heap.size #[.int .i64 x.tm, .int .i64 x.who, .int .i64 x.ag] 24] := S.call T
  clear T
  obtain ⟨bxc0, bxf0⟩ : w4.cell? ⟨w.heap.size, 0, none⟩ = some (.int .i64 x.tm) ∧ w4.frozen? ⟨w.heap.size, 0, none⟩ = false := bx (S.box 2 rfl) 0 rfl
  obtain ⟨bxc1, bxf1⟩ : w4.cell? ⟨w.heap.size, 1, none⟩ = some (.int .i64 x.who) ∧ w4.frozen? ⟨w.heap.size, 1, none⟩ = false := bx (S.box 2 rfl) 1 rfl
  obtain ⟨bxc2, bxf2⟩ : w4.cell? ⟨w.heap.size, 2, none⟩ = some (.int .i64 x.ag) ∧ w4.frozen? ⟨w.heap.size, 2, none⟩ = false := bx (S.box 2 rfl) 2 rfl
  go_wp2_with fail
  refine (toTim_any x _).mono ?_
  rintro e w5 ⟨v5, rfl, rfl, hE⟩
  clear bxc0 bxf0 bxc1 bxf1 bxc2 bxf2
  replace S : Sep w w5 [plRow 30 3 encTim (.slice axl l.length cxl) l, plRow 30 3 encTim (.slice aW0 LW0.length cW0) LW0, plBox w.heap.size #[.int .i64 x.tm, .int .i64 x.who, .int .i64 x.ag] 24] := S.step hE
  clear hE
  obtain ⟨bxc0, bxf0⟩ : w5.cell? ⟨w.heap.size, 0, none⟩ = some (.int .i64 x.tm) ∧ w5.frozen? ⟨w.heap.size, 0, none⟩ = false := bx (S.box 2 rfl) 0 rfl
  obtain ⟨bxc1, bxf1⟩ : w5.cell? ⟨w.heap.size, 1, none⟩ = some (.int .i64 x.who) ∧ w5.frozen? ⟨w.heap.size, 1, none⟩ = false := bx (S.box 2 rfl) 1 rfl
  obtain ⟨bxc2, bxf2⟩ : w5.cell? ⟨w.heap.size, 2, none⟩ = some (.int .i64 x.ag) ∧ w5.frozen? ⟨w.heap.size, 2, none⟩ = false := bx (S.box 2 rfl) 2 rfl
  go_wp2_with fail
  refine (implSetTimer _ _ l x _ (by omega) (S.rd 0 encTim_len rfl rfl)).mono ?_
  rintro e w6 ⟨uG0, LG0, yG1, rfl, hR, T⟩
  obtain ⟨rfl, rfl⟩ : LW0 = LG0 ∧ yW1 = yG1 := setTR_fun HR.out hR
  clear hR
  obtain ⟨aG0, cG0, hv2, hkG0, _, _⟩ := view_owns encTim_len (T.row 0 rfl)
  subst hv2
  clear bxc0 bxf0 bxc1 bxf1 bxc2 bxf2
  replace S : Sep w w6 [plRow 30 3 encTim (.slice aG0 LW0.length cG0) LW0, plRow 30 3 encTim (.slice axl l.length cxl) l, plRow 30 3 encTim (.slice aW0 LW0.length cW0) LW0, plBox w.heap.size #[.int .i64 x.tm, .int .i64 x.who, .int .i64 x.ag] 24] := S.call T
  clear T
  have t1 : (yW1 != yW1) = false := by simp
  go_wp2_with fail
  refine (eqTimS_any _ _ _ _ LW0 LW0 _ (by omega) (by omega) (S.rd 0 encTim_len rfl rfl) (S.rd 2 encTim_len rfl rfl)).mono ?_
  rintro e w7 ⟨q7, rfl, hq, hE⟩
  obtain rfl : q7 = true := hq.2 rfl
  clear hq
  replace S : Sep w w7 [plRow 30 3 encTim (.slice aG0 LW0.length cG0) LW0, plRow 30 3 encTim (.slice axl l.length cxl) l, plRow 30 3 encTim (.slice aW0 LW0.length cW0) LW0, plBox w.heap.size #[.int .i64 x.tm, .int .i64 x.who, .int .i64 x.ag] 24] := S.step hE
  clear hE
  obtain ⟨bxc0, bxf0⟩ : w7.cell? ⟨w.heap.size, 0, none⟩ = some (.int .i64 x.tm) ∧ w7.frozen? ⟨w.heap.size, 0, none⟩ = false := bx (S.box 3 rfl) 0 rfl
  obtain ⟨bxc1, bxf1⟩ : w7.cell? ⟨w.heap.size, 1, none⟩ = some (.int .i64 x.who) ∧ w7.frozen? ⟨w.heap.size, 1, none⟩ = false := bx (S.box 3 rfl) 1 rfl
  obtain ⟨bxc2, bxf2⟩ : w7.cell? ⟨w.heap.size, 2, none⟩ = some (.int .i64 x.ag) ∧ w7.frozen? ⟨w.heap.size, 2, none⟩ = false := bx (S.box 3 rfl) 2 rfl
  go_wp2_with fail
  refine (toTimS_any al capl l _ hlenl (hcl.ext S.ext)).mono ?_
  rintro e w8 ⟨v8, rfl, ⟨ho, hv⟩, hE⟩
  obtain ⟨atl, ctl, hv2, hktl, _, _⟩ := view_owns encTim_len ho
  subst hv2
  clear hv
  have T := Sep.of_owns hE ho
  clear hE ho
  clear bxc0 bxf0 bxc1 bxf1 bxc2 bxf2
  replace S : Sep w w8 [plRow 30 3 encTim (.slice atl l.length ctl) l, plRow 30 3 encTim (.slice aG0 LW0.length cG0) LW0, plRow 30 3 encTim (.slice axl l.length cxl) l, plRow 30 3 encTim (.slice aW0 LW0.length cW0) LW0, plBox w.heap.size #[.int .i64 x.tm, .int .i64 x.who, .int .i64 x.ag] 24] := S.call T
  clear T
  go_wp2_with fail
  refine (eqTimS_any _ _ _ _ l l _ hll hll (S.rd 2 encTim_len rfl rfl) (S.rd 0 encTim_len rfl rfl)).mono ?_
  rintro e w9 ⟨q9, rfl, hq, hE⟩
  obtain rfl : q9 = true := hq.2 rfl
  clear hq
  replace S : Sep w w9 [plRow 30 3 encTim (.slice atl l.length ctl) l, plRow 30 3 encTim (.slice aG0 LW0.length cG0) LW0, plRow 30 3 encTim (.slice axl l.length cxl) l, plRow 30 3 encTim (.slice aW0 LW0.length cW0) LW0, plBox w.heap.size #[.int .i64 x.tm, .int .i64 x.who, .int .i64 x.ag] 24] := S.step hE
  clear hE
  replace S : Sep w w9 [plRow 30 3 encTim (.slice aG0 LW0.length cG0) LW0, plRow 30 3 encTim (.slice axl l.length cxl) l, plRow 30 3 encTim (.slice aW0 LW0.length cW0) LW0, plBox w.heap.size #[.int .i64 x.tm, .int .i64 x.who, .int .i64 x.ag] 24] := S.drop 0
  go_wp2_with fail
  refine (markTimS_own _ _ _ l _ _ rfl hlenl (by omega) (by omega) (S.row 1 rfl)).mono ?_
  rintro e w10 ⟨rfl, hq, hg⟩
  replace hq := (show w10.ownsRow _ 30 3 _ (marksTim l.length (1)).length ((marksTim l.length (1)).flatMap encTim) from by rw [marksTim_len]; exact hq)
  replace S : Sep w w10 [plRow 30 3 encTim (.slice aG0 LW0.length cG0) LW0, plRow 30 3 encTim (.slice axl l.length cxl) (marksTim l.length (1)), plRow 30 3 encTim (.slice aW0 LW0.length cW0) LW0, plBox w.heap.size #[.int .i64 x.tm, .int .i64 x.who, .int .i64 x.ag] 24] := S.grow 1 rfl hg hq (fun b h => .inl h)
  clear hq hg
  have kneg : ∀ n : Nat, ¬ (1 + (n : Int) < 0) := fun n => by omega
  clear kneg
  go_wp2_with fail
  refine (eqTimS_any _ _ _ _ LW0 LW0 _ (by omega) (by omega) (S.rd 0 encTim_len rfl rfl) (S.rd 2 encTim_len rfl rfl)).mono ?_
  rintro e w11 ⟨q11, rfl, hq, hE⟩
  obtain rfl : q11 = true := hq.2 rfl
  clear hq
  replace S : Sep w w11 [plRow 30 3 encTim (.slice aG0 LW0.length cG0) LW0, plRow 30 3 encTim (.slice axl l.length cxl) (marksTim l.length (1)), plRow 30 3 encTim (.slice aW0 LW0.length cW0) LW0, plBox w.heap.size #[.int .i64 x.tm, .int .i64 x.who, .int .i64 x.ag] 24] := S.step hE
  clear hE
  have hLW0 := hb0
  go_wp2_with fail
  refine (markTimS_own _ _ _ LW0 _ _ rfl hLW0 (by omega) (by omega) (S.row 0 rfl)).mono ?_
  rintro e w12 ⟨rfl, hq, hg⟩
  replace hq := (show w12.ownsRow _ 30 3 _ (marksTim LW0.length (1)).length ((marksTim LW0.length (1)).flatMap encTim) from by rw [marksTim_len]; exact hq)
  replace S : Sep w w12 [plRow 30 3 encTim (.slice aG0 LW0.length cG0) (marksTim LW0.length (1)), plRow 30 3 encTim (.slice axl l.length cxl) (marksTim l.length (1)), plRow 30 3 encTim (.slice aW0 LW0.length cW0) LW0, plBox w.heap.size #[.int .i64 x.tm, .int .i64 x.who, .int .i64 x.ag] 24] := S.grow 0 rfl hg hq (fun b h => .inl h)
  clear hq hg
  go_wp2_with fail
  refine (heldTimS_any _ _ LW0.length (1) _ hb0 (by omega) (by omega) (S.rd 0 encTim_len rfl (by rw [marksTim_len]))).mono ?_
  rintro e w13 ⟨rfl, hE⟩
  replace S : Sep w w13 [plRow 30 3 encTim (.slice aG0 LW0.length cG0) (marksTim LW0.length (1)), plRow 30 3 encTim (.slice axl l.length cxl) (marksTim l.length (1)), plRow 30 3 encTim (.slice aW0 LW0.length cW0) LW0, plBox w.heap.size #[.int .i64 x.tm, .int .i64 x.who, .int .i64 x.ag] 24] := S.step hE
  clear hE
  obtain ⟨bxc0, bxf0⟩ : w13.cell? ⟨w.heap.size, 0, none⟩ = some (.int .i64 x.tm) ∧ w13.frozen? ⟨w.heap.size, 0, none⟩ = false := bx (S.box 3 rfl) 0 rfl
  obtain ⟨bxc1, bxf1⟩ : w13.cell? ⟨w.heap.size, 1, none⟩ = some (.int .i64 x.who) ∧ w13.frozen? ⟨w.heap.size, 1, none⟩ = false := bx (S.box 3 rfl) 1 rfl
  obtain ⟨bxc2, bxf2⟩ : w13.cell? ⟨w.heap.size, 2, none⟩ = some (.int .i64 x.ag) ∧ w13.frozen? ⟨w.heap.size, 2, none⟩ = false := bx (S.box 3 rfl) 2 rfl
  go_wp2_with fail
  have E0 := S.ext
  refine wp_region_v 10 (V := fun i v wv => match i with
    | 0 => v = .slice al l.length capl
    | 1 => OwnV w13.heap.size 30 3 encTim l v wv
    | 2 => v = .agg #[.int .i64 x.tm, .int .i64 x.who, .int .i64 x.ag]
    | 3 => v = .agg #[.int .i64 x.tm, .int .i64 x.who, .int .i64 x.ag]
    | 4 => PostSB w13.heap.size 30 3 encTim (SetTR l x) v wv
    | 5 => PostSB w13.heap.size 30 3 encTim (SetTR l x) v wv
    | 6 => OneS w13.heap.size 30 3 encTim (SetTR l x) v wv
    | 7 => OneB (SetTR l x) v
    | 8 => OneS w13.heap.size 30 3 encTim (SetTR l x) v wv
    | 9 => OneB (SetTR l x) v
    | _ => True) rfl (by decide) (by kernel_rfl) (by kernel_rfl) (by kernel_rfl) ?_ ?_ ?_
  · intro i v wv wv2 h hE
    match i with
    | 0 => exact h
    | 1 => exact OwnV.ext h hE
    | 2 => exact h
    | 3 => exact h
    | 4 => exact PostSB.ext h hE
    | 5 => exact PostSB.ext h hE
    | 6 => exact OneS.ext h hE
    | 7 => exact h
    | 8 => exact OneS.ext h hE
    | 9 => exact h
    | (n + 10) => trivial
  · intro i o hi ho vs w20 hvl hE hd
    have E2 : Ext w13 w20 := ((Ext.refl w13).drew).trans hE
    have qbx0 := cell_ext hE (show (World.drew _).cell? _ = _ from bxc0)
    have qbx1 := cell_ext hE (show (World.drew _).cell? _ = _ from bxc1)
    have qbx2 := cell_ext hE (show (World.drew _).cell? _ = _ from bxc2)
    clear bxc0 bxf0 bxc1 bxf1 bxc2 bxf2
    match vs, hvl with
    | [y0, y1, y2, y3, y4, y5, y6, y7, y8, y9], _ =>
    rcases (show i = 0 ∨ i = 1 ∨ i = 2 ∨ i = 3 ∨ i = 4 ∨ i = 5 ∨ i = 6 ∨ i = 7 ∨ i = 8 ∨ i = 9 by omega) with rfl | rfl | rfl | rfl | rfl | rfl | rfl | rfl | rfl | rfl
    all_goals
      simp only [List.getElem?_cons_zero, List.getElem?_cons_succ, Option.some.injEq] at ho
      subst ho
      simp [Waits, Region.binds] at hd
    · simp [putAll, Act.put, hd]
      go_wp2
      exact ⟨rfl, _, rfl, rfl, Ext.refl _⟩
    · simp [putAll, Act.put, hd]
      go_wp2_with fail
      refine (toTimS_any al capl l _ hlenl (hcl.ext (E0.trans E2))).mono ?_
      rintro e w30 ⟨v3, rfl, ⟨own3, rfl⟩, hb3⟩
      go_wp2
      exact ⟨rfl, _, rfl, ⟨_, _, rfl, ownsRow_base own3 E2.size⟩, hb3⟩
    · simp [putAll, Act.put, hd]
      go_wp2
      exact ⟨rfl, _, rfl, rfl, Ext.refl _⟩
    · simp [putAll, Act.put, hd]
      go_wp2_with fail
      refine (toTim_any x _).mono ?_
      rintro e w30 ⟨v3, rfl, rfl, hb3⟩
      go_wp2
      exact ⟨rfl, _, rfl, rfl, hb3⟩
    · obtain ⟨⟨gl, cl, hyl, ownyl⟩, hyx⟩ := hd
      simp [putAll, Act.put, hyl, hyx]
      go_wp2_with fail
      refine (implSetTimer _ _ l x _ (by omega) (rd_owns encTim_len ownyl rfl)).mono ?_
      rintro e w30 ⟨u0, L0, k1, rfl, hR3, T3⟩
      have o0 := T3.row 0 rfl
      have hb3 := T3.ext
      clear T3
      go_wp2
      exact ⟨rfl, _, rfl, ⟨u0, L0, k1, rfl, hR3, ownsRow_base o0 E2.size⟩, hb3⟩
    · have h9 := hd
      simp [putAll, Act.put]
      go_wp2
      exact ⟨rfl, _, rfl, h9, Ext.refl _⟩
    · obtain ⟨u0, L0, k1, rfl, h2, o0⟩ := hd
      simp [putAll, Act.put]
      go_wp2
      exact ⟨rfl, _, rfl, ⟨L0, ⟨k1, h2⟩, o0⟩, Ext.refl _⟩
    · obtain ⟨u0, L0, k1, rfl, h2, o0⟩ := hd
      simp [putAll, Act.put]
      go_wp2
      exact ⟨rfl, _, rfl, ⟨k1, rfl, L0, h2⟩, Ext.refl _⟩
    · have h9 := hd
      simp [putAll, Act.put]
      go_wp2
      exact ⟨rfl, _, rfl, (by first | exact h9 | exact h9.1), Ext.refl _⟩
    · have h9 := hd
      simp [putAll, Act.put]
      go_wp2
      exact ⟨rfl, _, rfl, (by first | exact h9 | exact h9.1), Ext.refl _⟩
  intro vs w14 hvl hE hV
  match vs, hvl with
  | [y0, y1, y2, y3, y4, y5, y6, y7, y8, y9], _ =>
  obtain ⟨LI0, ⟨z0, hz0⟩, ho⟩ := hV 8 (by omega)
  obtain ⟨yI1, hy1, z1, hz1⟩ := hV 9 (by omega)
  have hR : (SetTR l x) LI0 yI1 := by
    obtain ⟨e0, e1⟩ := setTR_fun hz0 hz1
    subst e1
    exact hz0
  clear hz0 hz1 hV
  simp at hy1 ho
  subst hy1
  replace hE : Ext w13 w14 := ((Ext.refl _).drew).trans hE
  have T := Sep.of_owns hE ho
  clear ho hE E0
  simp only [putAll, Act.put, List.take_succ_cons, List.take_zero, List.drop_succ_cons, List.drop_zero]
  simp
  obtain ⟨rfl, rfl⟩ : LW0 = LI0 ∧ yW1 = yI1 := setTR_fun HR.out hR
  clear hR
  obtain ⟨aI0, cI0, hv2, hkI0, _, _⟩ := view_owns encTim_len (T.row 0 rfl)
  subst hv2
  clear bxc0 bxf0 bxc1 bxf1 bxc2 bxf2
  replace S : Sep w w14 [plRow 30 3 encTim (.slice aI0 LW0.length cI0) LW0, plRow 30 3 encTim (.slice aG0 LW0.length cG0) (marksTim LW0.length (1)), plRow 30 3 encTim (.slice axl l.length cxl) (marksTim l.length (1)), plRow 30 3 encTim (.slice aW0 LW0.length cW0) LW0, plBox w.heap.size #[.int .i64 x.tm, .int .i64 x.who, .int .i64 x.ag] 24] := S.call T
  clear T
  go_wp2_with fail
  refine (eqTimS_any _ _ _ _ LW0 LW0 _ (by omega) (by omega) (S.rd 0 encTim_len rfl rfl) (S.rd 3 encTim_len rfl rfl)).mono ?_
  rintro e w15 ⟨q15, rfl, hq, hE⟩
  obtain rfl : q15 = true := hq.2 rfl
  clear hq
  replace S : Sep w w15 [plRow 30 3 encTim (.slice aI0 LW0.length cI0) LW0, plRow 30 3 encTim (.slice aG0 LW0.length cG0) (marksTim LW0.length (1)), plRow 30 3 encTim (.slice axl l.length cxl) (marksTim l.length (1)), plRow 30 3 encTim (.slice aW0 LW0.length cW0) LW0, plBox w.heap.size #[.int .i64 x.tm, .int .i64 x.who, .int .i64 x.ag] 24] := S.step hE
  clear hE
  go_wp2_with fail
  refine (heldTimS_any _ _ LW0.length (1) _ hb0 (by omega) (by omega) (S.rd 1 encTim_len rfl (by rw [marksTim_len]))).mono ?_
  rintro e w16 ⟨rfl, hE⟩
  replace S : Sep w w16 [plRow 30 3 encTim (.slice aI0 LW0.length cI0) LW0, plRow 30 3 encTim (.slice aG0 LW0.length cG0) (marksTim LW0.length (1)), plRow 30 3 encTim (.slice axl l.length cxl) (marksTim l.length (1)), plRow 30 3 encTim (.slice aW0 LW0.length cW0) LW0, plBox w.heap.size #[.int .i64 x.tm, .int .i64 x.who, .int .i64 x.ag] 24] := S.step hE
  clear hE
  go_wp2
  go_ret
  exact RetB.mk true rfl (by simp) S.ext
end Go.Proofs.Ytgjadebohneioaa
