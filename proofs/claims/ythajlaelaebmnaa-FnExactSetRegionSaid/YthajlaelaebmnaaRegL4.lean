/- FnExactSetRegion: the walk. No condition but that the list is shorter than 2^63. -/
import Derived.Test.YthajlaelaebmnaaRegW
namespace Go.Proofs.Ythajlaelaebmnaa
open Go.RowKit

set_option maxRecDepth 10000 in
set_option maxHeartbeats 8000000 in
theorem exactSetRegion_any (al : Option Addr) (capl : Nat) (l : List Reg) (hll : l.length ≤ 9223372036854775807) (r : Reg) (w : World) (hcl : Rd 3 encReg w al l) :
    Calls Try.prog 8 #[.slice al l.length capl, .agg #[.int .i64 r.f, .int .i64 r.t, .int .i64 r.r]] w (RetB True w) := by
  go_enter Try.func8, Try.ntmps8
  have S := Sep.start w
  replace S : Sep w (w.alloc (.cells #[.int .i64 r.f, .int .i64 r.t, .int .i64 r.r] 42)) [plBox w.heap.size #[.int .i64 r.f, .int .i64 r.t, .int .i64 r.r] 42] := S.alloc_at (by simp) _ _
  go_wp2_with fail
  generalize (w.alloc (.cells #[.int .i64 r.f, .int .i64 r.t, .int .i64 r.r] 42)) = w1 at *
  refine (szRegS_any al capl l _ _ (by omega) (by omega) hll (hcl.ext S.ext)).mono ?_
  rintro e w2 ⟨r2, rfl, hra2, hrb2, hrc2, hE⟩
  have Hrc2 := Lib.hid hrc2
  clear hrc2
  replace S : Sep w w2 [plBox w.heap.size #[.int .i64 r.f, .int .i64 r.t, .int .i64 r.r] 42] := S.step hE
  clear hE
  by_cases hneg2 : r2 < 0
  · go_wp2
    go_ret
    exact RetB.mk true rfl (by simp) S.ext
  have hlenl : l.length ≤ 1048576 := Hrc2.out (by omega)
  clear Hrc2
  obtain ⟨brc0, brf0⟩ : w2.cell? ⟨w.heap.size, 0, none⟩ = some (.int .i64 r.f) ∧ w2.frozen? ⟨w.heap.size, 0, none⟩ = false := bx (S.box 0 rfl) 0 rfl
  obtain ⟨brc1, brf1⟩ : w2.cell? ⟨w.heap.size, 1, none⟩ = some (.int .i64 r.t) ∧ w2.frozen? ⟨w.heap.size, 1, none⟩ = false := bx (S.box 0 rfl) 1 rfl
  obtain ⟨brc2, brf2⟩ : w2.cell? ⟨w.heap.size, 2, none⟩ = some (.int .i64 r.r) ∧ w2.frozen? ⟨w.heap.size, 2, none⟩ = false := bx (S.box 0 rfl) 2 rfl
  go_wp2_with fail
  have E0 := S.ext
  refine wp_region_v 10 (V := fun i v wv => match i with
    | 0 => v = .slice al l.length capl
    | 1 => OwnV w2.heap.size 33 3 encReg l v wv
    | 2 => v = .agg #[.int .i64 r.f, .int .i64 r.t, .int .i64 r.r]
    | 3 => v = .agg #[.int .i64 r.f, .int .i64 r.t, .int .i64 r.r]
    | 4 => PostSB w2.heap.size 33 3 encReg (SetR (RegsOk l ∧ okReg r) l (setRegs l r)) v wv
    | 5 => PostSB w2.heap.size 33 3 encReg (SetR (RegsOk l ∧ okReg r) l (setRegs l r)) v wv
    | 6 => OneS w2.heap.size 33 3 encReg (SetR (RegsOk l ∧ okReg r) l (setRegs l r)) v wv
    | 7 => OneB (SetR (RegsOk l ∧ okReg r) l (setRegs l r)) v
    | 8 => OneS w2.heap.size 33 3 encReg (SetR (RegsOk l ∧ okReg r) l (setRegs l r)) v wv
    | 9 => OneB (SetR (RegsOk l ∧ okReg r) l (setRegs l r)) v
    | _ => True) rfl (by decide) (by kernel_rfl) (by kernel_rfl) (by kernel_rfl) ?_ ?_ ?_
  · intro i v wv wv2 h hE
    match i with
    | 0 => exact h
    | 1 => exact OwnV.ext h hE
    | 2 => exact h
    | 3 => exact h
    | 4 => exact PostSB.ext h hE
    | 5 => exact PostSB.ext h hE
    | 6 => exact OneS.ext h hE
    | 7 => exact h
    | 8 => exact OneS.ext h hE
    | 9 => exact h
    | (n + 10) => trivial
  · intro i o hi ho vs w20 hvl hE hd
    have E2 : Ext w2 w20 := ((Ext.refl w2).drew).trans hE
    have qbr0 := cell_ext hE (show (World.drew _).cell? _ = _ from brc0)
    have qbr1 := cell_ext hE (show (World.drew _).cell? _ = _ from brc1)
    have qbr2 := cell_ext hE (show (World.drew _).cell? _ = _ from brc2)
    clear brc0 brf0 brc1 brf1 brc2 brf2
    match vs, hvl with
    | [y0, y1, y2, y3, y4, y5, y6, y7, y8, y9], _ =>
    rcases (show i = 0 ∨ i = 1 ∨ i = 2 ∨ i = 3 ∨ i = 4 ∨ i = 5 ∨ i = 6 ∨ i = 7 ∨ i = 8 ∨ i = 9 by omega) with rfl | rfl | rfl | rfl | rfl | rfl | rfl | rfl | rfl | rfl
    all_goals
      simp only [List.getElem?_cons_zero, List.getElem?_cons_succ, Option.some.injEq] at ho
      subst ho
      simp [Waits, Region.binds] at hd
    · simp [putAll, Act.put, hd]
      go_wp2
      exact ⟨rfl, _, rfl, rfl, Ext.refl _⟩
    · simp [putAll, Act.put, hd]
      go_wp2_with fail
      refine (toRegS_any al capl l _ hlenl (hcl.ext (E0.trans E2))).mono ?_
      rintro e w30 ⟨v3, rfl, ⟨own3, rfl⟩, hb3⟩
      go_wp2
      exact ⟨rfl, _, rfl, ⟨_, _, rfl, ownsRow_base own3 E2.size⟩, hb3⟩
    · simp [putAll, Act.put, hd]
      go_wp2
      exact ⟨rfl, _, rfl, rfl, Ext.refl _⟩
    · simp [putAll, Act.put, hd]
      go_wp2_with fail
      refine (toReg_any r _).mono ?_
      rintro e w30 ⟨v3, rfl, rfl, hb3⟩
      go_wp2
      exact ⟨rfl, _, rfl, rfl, hb3⟩
    · obtain ⟨⟨gl, cl, hyl, ownyl⟩, hyr⟩ := hd
      simp [putAll, Act.put, hyl, hyr]
      go_wp2_with fail
      refine (specSetRegionS _ _ l r _ hlenl (rd_owns encReg_len ownyl rfl)).mono ?_
      rintro e w30 ⟨u0, L0, k1, rfl, hR3, T3⟩
      have o0 := T3.row 0 rfl
      have hb3 := T3.ext
      clear T3
      go_wp2
      exact ⟨rfl, _, rfl, ⟨u0, L0, k1, rfl, hR3, ownsRow_base o0 E2.size⟩, hb3⟩
    · have h9 := hd
      simp [putAll, Act.put]
      go_wp2
      exact ⟨rfl, _, rfl, h9, Ext.refl _⟩
    · obtain ⟨u0, L0, k1, rfl, h2, o0⟩ := hd
      simp [putAll, Act.put]
      go_wp2
      exact ⟨rfl, _, rfl, ⟨L0, ⟨k1, h2⟩, o0⟩, Ext.refl _⟩
    · obtain ⟨u0, L0, k1, rfl, h2, o0⟩ := hd
      simp [putAll, Act.put]
      go_wp2
      exact ⟨rfl, _, rfl, ⟨k1, rfl, L0, h2⟩, Ext.refl _⟩
    · have h9 := hd
      simp [putAll, Act.put]
      go_wp2
      exact ⟨rfl, _, rfl, (by first | exact h9 | exact h9.1), Ext.refl _⟩
    · have h9 := hd
      simp [putAll, Act.put]
      go_wp2
      exact ⟨rfl, _, rfl, (by first | exact h9 | exact h9.1), Ext.refl _⟩
  intro vs w3 hvl hE hV
  match vs, hvl with
  | [y0, y1, y2, y3, y4, y5, y6, y7, y8, y9], _ =>
  obtain ⟨LW0, ⟨z0, hz0⟩, ho⟩ := hV 8 (by omega)
  obtain ⟨yW1, hy1, z1, hz1⟩ := hV 9 (by omega)
  have hR : (SetR (RegsOk l ∧ okReg r) l (setRegs l r)) LW0 yW1 := by
    obtain ⟨e0, e1⟩ := setR_fun hz0 hz1
    subst e1
    exact hz0
  clear hz0 hz1 hV
  simp at hy1 ho
  subst hy1
  replace hE : Ext w2 w3 := ((Ext.refl _).drew).trans hE
  have T := Sep.of_owns hE ho
  clear ho hE E0
  simp only [putAll, Act.put, List.take_succ_cons, List.take_zero, List.drop_succ_cons, List.drop_zero]
  simp
  have HR := Lib.hid hR
  clear hR
  obtain ⟨aW0, cW0, hv2, hkW0, _, _⟩ := view_owns encReg_len (T.row 0 rfl)
  subst hv2
  clear brc0 brf0 brc1 brf1 brc2 brf2
  replace S : Sep w w3 [plRow 33 3 encReg (.slice aW0 LW0.length cW0) LW0, plBox w.heap.size #[.int .i64 r.f, .int .i64 r.t, .int .i64 r.r] 42] := S.call T
  clear T
  have hb0 : LW0.length ≤ 1048576 := setR_le HR.out (by omega) hlenl
  obtain ⟨brc0, brf0⟩ : w3.cell? ⟨w.heap.size, 0, none⟩ = some (.int .i64 r.f) ∧ w3.frozen? ⟨w.heap.size, 0, none⟩ = false := bx (S.box 1 rfl) 0 rfl
  obtain ⟨brc1, brf1⟩ : w3.cell? ⟨w.heap.size, 1, none⟩ = some (.int .i64 r.t) ∧ w3.frozen? ⟨w.heap.size, 1, none⟩ = false := bx (S.box 1 rfl) 1 rfl
  obtain ⟨brc2, brf2⟩ : w3.cell? ⟨w.heap.size, 2, none⟩ = some (.int .i64 r.r) ∧ w3.frozen? ⟨w.heap.size, 2, none⟩ = false := bx (S.box 1 rfl) 2 rfl
  go_wp2_with fail
  refine (toRegS_any al capl l _ hlenl (hcl.ext S.ext)).mono ?_
  rintro e w4 ⟨v4, rfl, ⟨ho, hv⟩, hE⟩
  obtain ⟨axl, cxl, hv2, hkxl, _, _⟩ := view_owns encReg_len ho
  subst hv2
  clear hv
  have T := Sep.of_owns hE ho
  clear hE ho
  clear brc0 brf0 brc1 brf1 brc2 brf2
  replace S : Sep w w4 [plRow 33 3 encReg (.slice axl l.length cxl) l, plRow 33 3 encReg (.slice aW0 LW0.length cW0) LW0, plBox w.heap.size #[.int .i64 r.f, .int .i64 r.t, .int .i64 r.r] 42] := S.call T
  clear T
  obtain ⟨brc0, brf0⟩ : w4.cell? ⟨w.heap.size, 0, none⟩ = some (.int .i64 r.f) ∧ w4.frozen? ⟨w.heap.size, 0, none⟩ = false := bx (S.box 2 rfl) 0 rfl
  obtain ⟨brc1, brf1⟩ : w4.cell? ⟨w.heap.size, 1, none⟩ = some (.int .i64 r.t) ∧ w4.frozen? ⟨w.heap.size, 1, none⟩ = false := bx (S.box 2 rfl) 1 rfl
  obtain ⟨brc2, brf2⟩ : w4.cell? ⟨w.heap.size, 2, none⟩ = some (.int .i64 r.r) ∧ w4.frozen? ⟨w.heap.size, 2, none⟩ = false := bx (S.box 2 rfl) 2 rfl
  go_wp2_with fail
  refine (toReg_any r _).mono ?_
  rintro e w5 ⟨v5, rfl, rfl, hE⟩
  clear brc0 brf0 brc1 brf1 brc2 brf2
  replace S : Sep w w5 [plRow 33 3 encReg (.slice axl l.length cxl) l, plRow 33 3 encReg (.slice aW0 LW0.length cW0) LW0, plBox w.heap.size #[.int .i64 r.f, .int .i64 r.t, .int .i64 r.r] 42] := S.step hE
  clear hE
  obtain ⟨brc0, brf0⟩ : w5.cell? ⟨w.heap.size, 0, none⟩ = some (.int .i64 r.f) ∧ w5.frozen? ⟨w.heap.size, 0, none⟩ = false := bx (S.box 2 rfl) 0 rfl
  obtain ⟨brc1, brf1⟩ : w5.cell? ⟨w.heap.size, 1, none⟩ = some (.int .i64 r.t) ∧ w5.frozen? ⟨w.heap.size, 1, none⟩ = false := bx (S.box 2 rfl) 1 rfl
  obtain ⟨brc2, brf2⟩ : w5.cell? ⟨w.heap.size, 2, none⟩ = some (.int .i64 r.r) ∧ w5.frozen? ⟨w.heap.size, 2, none⟩ = false := bx (S.box 2 rfl) 2 rfl
  go_wp2_with fail
  refine (implSetRegion _ _ l r _ hlenl (S.rd 0 encReg_len rfl rfl)).mono ?_
  rintro e w6 ⟨uG0, LG0, yG1, rfl, hR, T⟩
  obtain ⟨rfl, rfl⟩ : LW0 = LG0 ∧ yW1 = yG1 := setR_fun HR.out hR
  clear hR
  obtain ⟨aG0, cG0, hv2, hkG0, _, _⟩ := view_owns encReg_len (T.row 0 rfl)
  subst hv2
  clear brc0 brf0 brc1 brf1 brc2 brf2
  replace S : Sep w w6 [plRow 33 3 encReg (.slice aG0 LW0.length cG0) LW0, plRow 33 3 encReg (.slice axl l.length cxl) l, plRow 33 3 encReg (.slice aW0 LW0.length cW0) LW0, plBox w.heap.size #[.int .i64 r.f, .int .i64 r.t, .int .i64 r.r] 42] := S.call T
  clear T
  have t1 : (yW1 != yW1) = false := by simp
  go_wp2_with fail
  refine (eqRegS_any _ _ _ _ LW0 LW0 _ (by omega) (by omega) (S.rd 0 encReg_len rfl rfl) (S.rd 2 encReg_len rfl rfl)).mono ?_
  rintro e w7 ⟨q7, rfl, hq, hE⟩
  obtain rfl : q7 = true := hq.2 rfl
  clear hq
  replace S : Sep w w7 [plRow 33 3 encReg (.slice aG0 LW0.length cG0) LW0, plRow 33 3 encReg (.slice axl l.length cxl) l, plRow 33 3 encReg (.slice aW0 LW0.length cW0) LW0, plBox w.heap.size #[.int .i64 r.f, .int .i64 r.t, .int .i64 r.r] 42] := S.step hE
  clear hE
  obtain ⟨brc0, brf0⟩ : w7.cell? ⟨w.heap.size, 0, none⟩ = some (.int .i64 r.f) ∧ w7.frozen? ⟨w.heap.size, 0, none⟩ = false := bx (S.box 3 rfl) 0 rfl
  obtain ⟨brc1, brf1⟩ : w7.cell? ⟨w.heap.size, 1, none⟩ = some (.int .i64 r.t) ∧ w7.frozen? ⟨w.heap.size, 1, none⟩ = false := bx (S.box 3 rfl) 1 rfl
  obtain ⟨brc2, brf2⟩ : w7.cell? ⟨w.heap.size, 2, none⟩ = some (.int .i64 r.r) ∧ w7.frozen? ⟨w.heap.size, 2, none⟩ = false := bx (S.box 3 rfl) 2 rfl
  go_wp2_with fail
  refine (toRegS_any al capl l _ hlenl (hcl.ext S.ext)).mono ?_
  rintro e w8 ⟨v8, rfl, ⟨ho, hv⟩, hE⟩
  obtain ⟨atl, ctl, hv2, hktl, _, _⟩ := view_owns encReg_len ho
  subst hv2
  clear hv
  have T := Sep.of_owns hE ho
  clear hE ho
  clear brc0 brf0 brc1 brf1 brc2 brf2
  replace S : Sep w w8 [plRow 33 3 encReg (.slice atl l.length ctl) l, plRow 33 3 encReg (.slice aG0 LW0.length cG0) LW0, plRow 33 3 encReg (.slice axl l.length cxl) l, plRow 33 3 encReg (.slice aW0 LW0.length cW0) LW0, plBox w.heap.size #[.int .i64 r.f, .int .i64 r.t, .int .i64 r.r] 42] := S.call T
  clear T
  go_wp2_with fail
  refine (eqRegS_any _ _ _ _ l l _ hll hll (S.rd 2 encReg_len rfl rfl) (S.rd 0 encReg_len rfl rfl)).mono ?_
  rintro e w9 ⟨q9, rfl, hq, hE⟩
  obtain rfl : q9 = true := hq.2 rfl
  clear hq
  replace S : Sep w w9 [plRow 33 3 encReg (.slice atl l.length ctl) l, plRow 33 3 encReg (.slice aG0 LW0.length cG0) LW0, plRow 33 3 encReg (.slice axl l.length cxl) l, plRow 33 3 encReg (.slice aW0 LW0.length cW0) LW0, plBox w.heap.size #[.int .i64 r.f, .int .i64 r.t, .int .i64 r.r] 42] := S.step hE
  clear hE
  replace S : Sep w w9 [plRow 33 3 encReg (.slice aG0 LW0.length cG0) LW0, plRow 33 3 encReg (.slice axl l.length cxl) l, plRow 33 3 encReg (.slice aW0 LW0.length cW0) LW0, plBox w.heap.size #[.int .i64 r.f, .int .i64 r.t, .int .i64 r.r] 42] := S.drop 0
  go_wp2_with fail
  refine (markRegS_own _ _ _ l _ _ rfl hlenl (by omega) (by omega) (S.row 1 rfl)).mono ?_
  rintro e w10 ⟨rfl, hq, hg⟩
  replace hq := (show w10.ownsRow _ 33 3 _ (marksReg l.length (1)).length ((marksReg l.length (1)).flatMap encReg) from by rw [marksReg_len]; exact hq)
  replace S : Sep w w10 [plRow 33 3 encReg (.slice aG0 LW0.length cG0) LW0, plRow 33 3 encReg (.slice axl l.length cxl) (marksReg l.length (1)), plRow 33 3 encReg (.slice aW0 LW0.length cW0) LW0, plBox w.heap.size #[.int .i64 r.f, .int .i64 r.t, .int .i64 r.r] 42] := S.grow 1 rfl hg hq (fun b h => .inl h)
  clear hq hg
  have kneg : ∀ n : Nat, ¬ (1 + (n : Int) < 0) := fun n => by omega
  clear kneg
  go_wp2_with fail
  refine (eqRegS_any _ _ _ _ LW0 LW0 _ (by omega) (by omega) (S.rd 0 encReg_len rfl rfl) (S.rd 2 encReg_len rfl rfl)).mono ?_
  rintro e w11 ⟨q11, rfl, hq, hE⟩
  obtain rfl : q11 = true := hq.2 rfl
  clear hq
  replace S : Sep w w11 [plRow 33 3 encReg (.slice aG0 LW0.length cG0) LW0, plRow 33 3 encReg (.slice axl l.length cxl) (marksReg l.length (1)), plRow 33 3 encReg (.slice aW0 LW0.length cW0) LW0, plBox w.heap.size #[.int .i64 r.f, .int .i64 r.t, .int .i64 r.r] 42] := S.step hE
  clear hE
  have hLW0 := hb0
  go_wp2_with fail
  refine (markRegS_own _ _ _ LW0 _ _ rfl hLW0 (by omega) (by omega) (S.row 0 rfl)).mono ?_
  rintro e w12 ⟨rfl, hq, hg⟩
  replace hq := (show w12.ownsRow _ 33 3 _ (marksReg LW0.length (1)).length ((marksReg LW0.length (1)).flatMap encReg) from by rw [marksReg_len]; exact hq)
  replace S : Sep w w12 [plRow 33 3 encReg (.slice aG0 LW0.length cG0) (marksReg LW0.length (1)), plRow 33 3 encReg (.slice axl l.length cxl) (marksReg l.length (1)), plRow 33 3 encReg (.slice aW0 LW0.length cW0) LW0, plBox w.heap.size #[.int .i64 r.f, .int .i64 r.t, .int .i64 r.r] 42] := S.grow 0 rfl hg hq (fun b h => .inl h)
  clear hq hg
  go_wp2_with fail
  refine (heldRegS_any _ _ LW0.length (1) _ hb0 (by omega) (by omega) (S.rd 0 encReg_len rfl (by rw [marksReg_len]))).mono ?_
  rintro e w13 ⟨rfl, hE⟩
  replace S : Sep w w13 [plRow 33 3 encReg (.slice aG0 LW0.length cG0) (marksReg LW0.length (1)), plRow 33 3 encReg (.slice axl l.length cxl) (marksReg l.length (1)), plRow 33 3 encReg (.slice aW0 LW0.length cW0) LW0, plBox w.heap.size #[.int .i64 r.f, .int .i64 r.t, .int .i64 r.r] 42] := S.step hE
  clear hE
  obtain ⟨brc0, brf0⟩ : w13.cell? ⟨w.heap.size, 0, none⟩ = some (.int .i64 r.f) ∧ w13.frozen? ⟨w.heap.size, 0, none⟩ = false := bx (S.box 3 rfl) 0 rfl
  obtain ⟨brc1, brf1⟩ : w13.cell? ⟨w.heap.size, 1, none⟩ = some (.int .i64 r.t) ∧ w13.frozen? ⟨w.heap.size, 1, none⟩ = false := bx (S.box 3 rfl) 1 rfl
  obtain ⟨brc2, brf2⟩ : w13.cell? ⟨w.heap.size, 2, none⟩ = some (.int .i64 r.r) ∧ w13.frozen? ⟨w.heap.size, 2, none⟩ = false := bx (S.box 3 rfl) 2 rfl
  go_wp2_with fail
  have E0 := S.ext
  refine wp_region_v 10 (V := fun i v wv => match i with
    | 0 => v = .slice al l.length capl
    | 1 => OwnV w13.heap.size 33 3 encReg l v wv
    | 2 => v = .agg #[.int .i64 r.f, .int .i64 r.t, .int .i64 r.r]
    | 3 => v = .agg #[.int .i64 r.f, .int .i64 r.t, .int .i64 r.r]
    | 4 => PostSB w13.heap.size 33 3 encReg (SetR (RegsOk l ∧ okReg r) l (setRegs l r)) v wv
    | 5 => PostSB w13.heap.size 33 3 encReg (SetR (RegsOk l ∧ okReg r) l (setRegs l r)) v wv
    | 6 => OneS w13.heap.size 33 3 encReg (SetR (RegsOk l ∧ okReg r) l (setRegs l r)) v wv
    | 7 => OneB (SetR (RegsOk l ∧ okReg r) l (setRegs l r)) v
    | 8 => OneS w13.heap.size 33 3 encReg (SetR (RegsOk l ∧ okReg r) l (setRegs l r)) v wv
    | 9 => OneB (SetR (RegsOk l ∧ okReg r) l (setRegs l r)) v
    | _ => True) rfl (by decide) (by kernel_rfl) (by kernel_rfl) (by kernel_rfl) ?_ ?_ ?_
  · intro i v wv wv2 h hE
    match i with
    | 0 => exact h
    | 1 => exact OwnV.ext h hE
    | 2 => exact h
    | 3 => exact h
    | 4 => exact PostSB.ext h hE
    | 5 => exact PostSB.ext h hE
    | 6 => exact OneS.ext h hE
    | 7 => exact h
    | 8 => exact OneS.ext h hE
    | 9 => exact h
    | (n + 10) => trivial
  · intro i o hi ho vs w20 hvl hE hd
    have E2 : Ext w13 w20 := ((Ext.refl w13).drew).trans hE
    have qbr0 := cell_ext hE (show (World.drew _).cell? _ = _ from brc0)
    have qbr1 := cell_ext hE (show (World.drew _).cell? _ = _ from brc1)
    have qbr2 := cell_ext hE (show (World.drew _).cell? _ = _ from brc2)
    clear brc0 brf0 brc1 brf1 brc2 brf2
    match vs, hvl with
    | [y0, y1, y2, y3, y4, y5, y6, y7, y8, y9], _ =>
    rcases (show i = 0 ∨ i = 1 ∨ i = 2 ∨ i = 3 ∨ i = 4 ∨ i = 5 ∨ i = 6 ∨ i = 7 ∨ i = 8 ∨ i = 9 by omega) with rfl | rfl | rfl | rfl | rfl | rfl | rfl | rfl | rfl | rfl
    all_goals
      simp only [List.getElem?_cons_zero, List.getElem?_cons_succ, Option.some.injEq] at ho
      subst ho
      simp [Waits, Region.binds] at hd
    · simp [putAll, Act.put, hd]
      go_wp2
      exact ⟨rfl, _, rfl, rfl, Ext.refl _⟩
    · simp [putAll, Act.put, hd]
      go_wp2_with fail
      refine (toRegS_any al capl l _ hlenl (hcl.ext (E0.trans E2))).mono ?_
      rintro e w30 ⟨v3, rfl, ⟨own3, rfl⟩, hb3⟩
      go_wp2
      exact ⟨rfl, _, rfl, ⟨_, _, rfl, ownsRow_base own3 E2.size⟩, hb3⟩
    · simp [putAll, Act.put, hd]
      go_wp2
      exact ⟨rfl, _, rfl, rfl, Ext.refl _⟩
    · simp [putAll, Act.put, hd]
      go_wp2_with fail
      refine (toReg_any r _).mono ?_
      rintro e w30 ⟨v3, rfl, rfl, hb3⟩
      go_wp2
      exact ⟨rfl, _, rfl, rfl, hb3⟩
    · obtain ⟨⟨gl, cl, hyl, ownyl⟩, hyr⟩ := hd
      simp [putAll, Act.put, hyl, hyr]
      go_wp2_with fail
      refine (implSetRegion _ _ l r _ hlenl (rd_owns encReg_len ownyl rfl)).mono ?_
      rintro e w30 ⟨u0, L0, k1, rfl, hR3, T3⟩
      have o0 := T3.row 0 rfl
      have hb3 := T3.ext
      clear T3
      go_wp2
      exact ⟨rfl, _, rfl, ⟨u0, L0, k1, rfl, hR3, ownsRow_base o0 E2.size⟩, hb3⟩
    · have h9 := hd
      simp [putAll, Act.put]
      go_wp2
      exact ⟨rfl, _, rfl, h9, Ext.refl _⟩
    · obtain ⟨u0, L0, k1, rfl, h2, o0⟩ := hd
      simp [putAll, Act.put]
      go_wp2
      exact ⟨rfl, _, rfl, ⟨L0, ⟨k1, h2⟩, o0⟩, Ext.refl _⟩
    · obtain ⟨u0, L0, k1, rfl, h2, o0⟩ := hd
      simp [putAll, Act.put]
      go_wp2
      exact ⟨rfl, _, rfl, ⟨k1, rfl, L0, h2⟩, Ext.refl _⟩
    · have h9 := hd
      simp [putAll, Act.put]
      go_wp2
      exact ⟨rfl, _, rfl, (by first | exact h9 | exact h9.1), Ext.refl _⟩
    · have h9 := hd
      simp [putAll, Act.put]
      go_wp2
      exact ⟨rfl, _, rfl, (by first | exact h9 | exact h9.1), Ext.refl _⟩
  intro vs w14 hvl hE hV
  match vs, hvl with
  | [y0, y1, y2, y3, y4, y5, y6, y7, y8, y9], _ =>
  obtain ⟨LI0, ⟨z0, hz0⟩, ho⟩ := hV 8 (by omega)
  obtain ⟨yI1, hy1, z1, hz1⟩ := hV 9 (by omega)
  have hR : (SetR (RegsOk l ∧ okReg r) l (setRegs l r)) LI0 yI1 := by
    obtain ⟨e0, e1⟩ := setR_fun hz0 hz1
    subst e1
    exact hz0
  clear hz0 hz1 hV
  simp at hy1 ho
  subst hy1
  replace hE : Ext w13 w14 := ((Ext.refl _).drew).trans hE
  have T := Sep.of_owns hE ho
  clear ho hE E0
  simp only [putAll, Act.put, List.take_succ_cons, List.take_zero, List.drop_succ_cons, List.drop_zero]
  simp
  obtain ⟨rfl, rfl⟩ : LW0 = LI0 ∧ yW1 = yI1 := setR_fun HR.out hR
  clear hR
  obtain ⟨aI0, cI0, hv2, hkI0, _, _⟩ := view_owns encReg_len (T.row 0 rfl)
  subst hv2
  clear brc0 brf0 brc1 brf1 brc2 brf2
  replace S : Sep w w14 [plRow 33 3 encReg (.slice aI0 LW0.length cI0) LW0, plRow 33 3 encReg (.slice aG0 LW0.length cG0) (marksReg LW0.length (1)), plRow 33 3 encReg (.slice axl l.length cxl) (marksReg l.length (1)), plRow 33 3 encReg (.slice aW0 LW0.length cW0) LW0, plBox w.heap.size #[.int .i64 r.f, .int .i64 r.t, .int .i64 r.r] 42] := S.call T
  clear T
  go_wp2_with fail
  refine (eqRegS_any _ _ _ _ LW0 LW0 _ (by omega) (by omega) (S.rd 0 encReg_len rfl rfl) (S.rd 3 encReg_len rfl rfl)).mono ?_
  rintro e w15 ⟨q15, rfl, hq, hE⟩
  obtain rfl : q15 = true := hq.2 rfl
  clear hq
  replace S : Sep w w15 [plRow 33 3 encReg (.slice aI0 LW0.length cI0) LW0, plRow 33 3 encReg (.slice aG0 LW0.length cG0) (marksReg LW0.length (1)), plRow 33 3 encReg (.slice axl l.length cxl) (marksReg l.length (1)), plRow 33 3 encReg (.slice aW0 LW0.length cW0) LW0, plBox w.heap.size #[.int .i64 r.f, .int .i64 r.t, .int .i64 r.r] 42] := S.step hE
  clear hE
  go_wp2_with fail
  refine (heldRegS_any _ _ LW0.length (1) _ hb0 (by omega) (by omega) (S.rd 1 encReg_len rfl (by rw [marksReg_len]))).mono ?_
  rintro e w16 ⟨rfl, hE⟩
  replace S : Sep w w16 [plRow 33 3 encReg (.slice aI0 LW0.length cI0) LW0, plRow 33 3 encReg (.slice aG0 LW0.length cG0) (marksReg LW0.length (1)), plRow 33 3 encReg (.slice axl l.length cxl) (marksReg l.length (1)), plRow 33 3 encReg (.slice aW0 LW0.length cW0) LW0, plBox w.heap.size #[.int .i64 r.f, .int .i64 r.t, .int .i64 r.r] 42] := S.step hE
  clear hE
  go_wp2
  go_ret
  exact RetB.mk true rfl (by simp) S.ext
end Go.Proofs.Ythajlaelaebmnaa
