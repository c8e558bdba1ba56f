/- FnExactPutMail: the walk. No condition but that the list is shorter than 2^63. -/
import Derived.Test.YtlbnfnfaojjpaaaPutMail
namespace Go.Proofs.Ytlbnfnfaojjpaaa
open Go.RowKit

set_option maxHeartbeats 4000000 in
theorem exactPutMail_any (al : Option Addr) (capl : Nat) (l : List Mail) (hll : l.length ≤ 9223372036854775807) (hsl : ∀ x ∈ l, x.text.size ≤ 9223372036854775807) (m : Mail) (hsm : m.text.size ≤ 9223372036854775807) (w : World) (hcl : Rd 2 encMail w al l) :
    Calls Try.prog 5 #[.slice al l.length capl, .agg #[.int .i64 m.kind, .string m.text]] w (RetB True w) := by
  go_enter Try.func5, Try.ntmps5
  have hcwl := hcl
  go_wp2_with fail
  have E : Ext w _ := ((Ext.refl w).alloc (.cells #[.int .i64 m.kind, .string m.text] 35))
  replace hcl := hcl.ext E
  have bxm0 : (w.alloc (.cells #[.int .i64 m.kind, .string m.text] 35)).cell? ⟨w.heap.size, 0, none⟩ = some (.int .i64 m.kind) := by simp
  have bxm1 : (w.alloc (.cells #[.int .i64 m.kind, .string m.text] 35)).cell? ⟨w.heap.size, 1, none⟩ = some (.string m.text) := by simp
  refine (szMailS_any al capl l _ _ (by omega) (by omega) hll hsl hcl).mono ?_
  rintro e w1 ⟨r1, rfl, hra1, hrb1, hrc1, hb1⟩
  have Hrc1 := Lib.hid hrc1
  clear hrc1
  replace hcl := hcl.ext hb1
  replace E := Ext.trans E hb1
  replace bxm0 := cell_ext hb1 bxm0
  replace bxm1 := cell_ext hb1 bxm1
  clear hb1
  by_cases hneg1 : r1 < 0
  · go_wp2
    go_ret
    exact RetB.mk true rfl (by simp) E
  have hlenl : l.length ≤ 1048576 := (Hrc1.out (by omega)).1
  have hszl := (Hrc1.out (by omega)).2
  go_wp2_with fail
  refine (szMail_any m _ _ (by omega) (by omega) hsm).mono ?_
  rintro e w2 ⟨r2, rfl, hra2, hrb2, hrc2, hb2⟩
  have Hrc2 := Lib.hid hrc2
  clear hrc2
  replace hcl := hcl.ext hb2
  replace E := Ext.trans E hb2
  replace bxm0 := cell_ext hb2 bxm0
  replace bxm1 := cell_ext hb2 bxm1
  clear hb2
  by_cases hneg2 : r2 < 0
  · go_wp2
    go_ret
    exact RetB.mk true rfl (by simp) E
  have hszm := Hrc2.out (by omega)
  go_wp2_with fail
  have E0 := E.drew
  refine wp_region_v 10 (V := fun i v wv => match i with
    | 0 => v = .slice al l.length capl
    | 1 => OwnV w.heap.size 27 2 encMail l v wv
    | 2 => v = .agg #[.int .i64 m.kind, .string m.text]
    | 3 => v = .agg #[.int .i64 m.kind, .string m.text]
    | 4 => PostSB w.heap.size 27 2 encMail (PutR l m) v wv
    | 5 => PostSB w.heap.size 27 2 encMail (PutR l m) v wv
    | 6 => OneS w.heap.size 27 2 encMail (PutR l m) v wv
    | 7 => OneB (PutR l m) v
    | 8 => OneS w.heap.size 27 2 encMail (PutR l m) v wv
    | 9 => OneB (PutR l m) v
    | _ => True) rfl (by decide) (by kernel_rfl) (by kernel_rfl) (by kernel_rfl) ?_ ?_ ?_
  · intro i v wv wv2 h hE
    match i with
    | 0 => exact h
    | 1 => exact OwnV.ext h hE
    | 2 => exact h
    | 3 => exact h
    | 4 => exact PostSB.ext h hE
    | 5 => exact PostSB.ext h hE
    | 6 => exact OneS.ext h hE
    | 7 => exact h
    | 8 => exact OneS.ext h hE
    | 9 => exact h
    | (n + 10) => trivial
  · intro i o hi ho vs w2 hvl hE hd
    have E2 := E0.trans hE
    have hql := hcwl.ext E2
    have qbxm0 := cell_ext hE (show (World.drew _).cell? _ = _ from bxm0)
    have qbxm1 := cell_ext hE (show (World.drew _).cell? _ = _ from bxm1)
    match vs, hvl with
    | [y0, y1, y2, y3, y4, y5, y6, y7, y8, y9], _ =>
    rcases (show i = 0 ∨ i = 1 ∨ i = 2 ∨ i = 3 ∨ i = 4 ∨ i = 5 ∨ i = 6 ∨ i = 7 ∨ i = 8 ∨ i = 9 by omega) with rfl | rfl | rfl | rfl | rfl | rfl | rfl | rfl | rfl | rfl
    all_goals
      simp only [List.getElem?_cons_zero, List.getElem?_cons_succ, Option.some.injEq] at ho
      subst ho
      simp [Waits, Region.binds] at hd
    · simp [putAll, Act.put, hd]
      go_wp2
      exact ⟨rfl, _, rfl, rfl, Ext.refl _⟩
    · simp [putAll, Act.put, hd]
      go_wp2_with fail
      refine (toMailS_any al capl l _ hlenl hql).mono ?_
      rintro e w3 ⟨v3, rfl, ⟨own3, rfl⟩, hb3⟩
      go_wp2
      exact ⟨rfl, _, rfl, ⟨_, _, rfl, ownsRow_base own3 E2.size⟩, hb3⟩
    · simp [putAll, Act.put, hd]
      go_wp2
      exact ⟨rfl, _, rfl, rfl, Ext.refl _⟩
    · simp [putAll, Act.put, hd]
      go_wp2_with fail
      refine (toMail_any m _).mono ?_
      rintro e w3 ⟨v3, rfl, rfl, hb3⟩
      go_wp2
      exact ⟨rfl, _, rfl, rfl, hb3⟩
    · obtain ⟨⟨gl, cl, hyl, ownyl⟩, hym⟩ := hd
      simp [putAll, Act.put, hyl, hym]
      go_wp2_with fail
      refine (specPutMail _ _ l m _ hlenl (rd_owns encMail_len ownyl rfl)).mono ?_
      rintro e w3 ⟨u0, L0, k1, rfl, hR3, o0, hb3⟩
      go_wp2
      exact ⟨rfl, _, rfl, ⟨u0, L0, k1, rfl, hR3, ownsRow_base o0 E2.size⟩, hb3⟩
    · have h9 := hd
      simp [putAll, Act.put]
      go_wp2
      exact ⟨rfl, _, rfl, h9, Ext.refl _⟩
    · obtain ⟨u0, L0, k1, rfl, h2, o0⟩ := hd
      simp [putAll, Act.put]
      go_wp2
      exact ⟨rfl, _, rfl, ⟨L0, ⟨k1, h2⟩, o0⟩, Ext.refl _⟩
    · obtain ⟨u0, L0, k1, rfl, h2, o0⟩ := hd
      simp [putAll, Act.put]
      go_wp2
      exact ⟨rfl, _, rfl, ⟨k1, rfl, L0, h2⟩, Ext.refl _⟩
    · have h9 := hd
      simp [putAll, Act.put]
      go_wp2
      exact ⟨rfl, _, rfl, (by first | exact h9 | exact h9.1), Ext.refl _⟩
    · have h9 := hd
      simp [putAll, Act.put]
      go_wp2
      exact ⟨rfl, _, rfl, (by first | exact h9 | exact h9.1), Ext.refl _⟩
  intro vs w3 hvl hb3 hV
  match vs, hvl with
  | [y0, y1, y2, y3, y4, y5, y6, y7, y8, y9], _ =>
  obtain ⟨LW0, ⟨z0, hz0⟩, ownW0⟩ := hV 8 (by omega)
  obtain ⟨bW1, hyW1, z1, hz1⟩ := hV 9 (by omega)
  have HRW : Hid (PutR l m LW0 bW1) := by
    obtain ⟨e0, e1⟩ := putR_fun hz0 hz1
    subst e1
    exact hz0
  clear hz0 hz1 hV
  simp at hyW1 ownW0
  subst hyW1
  simp only [putAll, Act.put, List.take_succ_cons, List.take_zero, List.drop_succ_cons, List.drop_zero]
  simp
  clear E0
  replace hb3 : Ext _ w3 := ((Ext.refl _).drew).trans hb3
  replace hcl := hcl.ext hb3
  replace E := Ext.trans E hb3
  replace bxm0 := cell_ext hb3 bxm0
  replace bxm1 := cell_ext hb3 bxm1
  clear hb3
  obtain ⟨aW0, cW0, rfl, rdW0⟩ := rd_of_owns encMail_len ownW0 rfl
  go_wp2_with fail
  have geXl := E.size
  have ltlbxm0 := World.block_lt_of_cell? _ _ bxm0
  simp only [] at ltlbxm0
  have ltlbxm1 := World.block_lt_of_cell? _ _ bxm1
  simp only [] at ltlbxm1
  refine (toMailS_any al capl l _ hlenl hcl).mono ?_
  rintro e w4 ⟨v4, rfl, ⟨ownxl, rfl⟩, hb4⟩
  have ltW0l := fun k h => (World.ownsRow.lt ownW0 k h).2
  have gxl := (World.ownsRow.lt ownxl _ rfl).2
  replace hcl := hcl.ext hb4
  replace E := Ext.trans E hb4
  replace bxm0 := cell_ext hb4 bxm0
  replace bxm1 := cell_ext hb4 bxm1
  replace ownW0 := ownsRow_ext ownW0 hb4
  replace rdW0 := rdW0.ext hb4
  clear hb4
  go_wp2_with fail
  refine (toMail_any m _).mono ?_
  rintro e w5 ⟨v5, rfl, rfl, hb5⟩
  replace hcl := hcl.ext hb5
  replace E := Ext.trans E hb5
  replace bxm0 := cell_ext hb5 bxm0
  replace bxm1 := cell_ext hb5 bxm1
  replace ownW0 := ownsRow_ext ownW0 hb5
  replace rdW0 := rdW0.ext hb5
  replace ownxl := ownsRow_ext ownxl hb5
  clear hb5
  replace gxl := (World.ownsRow.lt ownxl _ rfl).2
  replace gxl := (World.ownsRow.lt ownxl _ rfl).2
  have szG := E.size
  go_wp2_with fail
  refine (implPutMail _ _ l m _ hlenl (rd_owns encMail_len ownxl rfl)).mono ?_
  rintro e w6 ⟨vG0, LG0, bG1, rfl, hRG, ownG0, hb6⟩
  have HRG := Lib.hid hRG
  clear hRG
  replace hcl := hcl.ext hb6
  replace E := Ext.trans E hb6
  replace bxm0 := cell_ext hb6 bxm0
  replace bxm1 := cell_ext hb6 bxm1
  replace ownW0 := ownsRow_ext ownW0 hb6
  replace rdW0 := rdW0.ext hb6
  replace ownxl := ownsRow_ext ownxl hb6
  clear hb6
  obtain ⟨aG0, cG0, rfl, rdG0⟩ := rd_of_owns encMail_len ownG0 rfl
  have geG0 := fun k h => (World.ownsRow.lt ownG0 k h).1
  obtain ⟨rfl, rfl⟩ : LG0 = LW0 ∧ bG1 = bW1 := putR_fun HRG.out HRW.out
  have hbound2 : LG0.length ≤ 1048576 := putR_len HRG.out hlenl
  have hbound : LG0.length ≤ 9223372036854775807 := by omega
  go_wp2_with fail
  refine (eqMailS_any _ _ _ _ _ _ _ hbound hbound rdG0 rdW0).mono ?_
  rintro e w7 ⟨q7, rfl, hq7, hb7⟩
  obtain rfl : q7 = true := hq7.2 rfl
  clear hq7
  replace hcl := hcl.ext hb7
  replace E := Ext.trans E hb7
  replace bxm0 := cell_ext hb7 bxm0
  replace bxm1 := cell_ext hb7 bxm1
  replace ownW0 := ownsRow_ext ownW0 hb7
  replace rdW0 := rdW0.ext hb7
  replace ownxl := ownsRow_ext ownxl hb7
  replace ownG0 := ownsRow_ext ownG0 hb7
  replace rdG0 := rdG0.ext hb7
  clear hb7
  go_wp2_with fail
  refine (toMailS_any al capl l _ hlenl hcl).mono ?_
  rintro e w8 ⟨v8, rfl, ⟨ownt8, rfl⟩, hb8⟩
  replace hcl := hcl.ext hb8
  replace E := Ext.trans E hb8
  replace bxm0 := cell_ext hb8 bxm0
  replace bxm1 := cell_ext hb8 bxm1
  replace ownW0 := ownsRow_ext ownW0 hb8
  replace rdW0 := rdW0.ext hb8
  replace ownxl := ownsRow_ext ownxl hb8
  replace ownG0 := ownsRow_ext ownG0 hb8
  replace rdG0 := rdG0.ext hb8
  clear hb8
  go_wp2_with fail
  refine (eqMailS_any _ _ _ _ l l _ hll hll (rd_owns encMail_len ownxl rfl) (rd_owns encMail_len ownt8 rfl)).mono ?_
  rintro e w9 ⟨q9, rfl, hq9, hb9⟩
  obtain rfl : q9 = true := hq9.2 rfl
  clear hq9 ownt8
  replace hcl := hcl.ext hb9
  replace E := Ext.trans E hb9
  replace bxm0 := cell_ext hb9 bxm0
  replace bxm1 := cell_ext hb9 bxm1
  replace ownW0 := ownsRow_ext ownW0 hb9
  replace rdW0 := rdW0.ext hb9
  replace ownxl := ownsRow_ext ownxl hb9
  replace ownG0 := ownsRow_ext ownG0 hb9
  replace rdG0 := rdG0.ext hb9
  clear hb9
  go_wp2_with fail
  refine (markMailS_own _ _ _ l _ _ rfl hlenl (by omega) (by omega) ownxl).mono ?_
  rintro e w10 ⟨rfl, ownml, hg10⟩
  replace ownG0 := ownG0.kept hg10 (by right; intro h; have h9 := geG0 _ h; (try dsimp only at h9); omega)
  replace ownW0 := ownW0.kept hg10 (by right; intro h; have h9 := ltW0l _ h; (try dsimp only at h9); omega)
  replace rdG0 := rd_owns encMail_len ownG0 rfl
  replace rdW0 := rd_owns encMail_len ownW0 rfl
  have E10 := E.grown hg10 (by intro k h; simp only [Value.ownBlock, Option.some.injEq] at h; omega)
  replace hcl := hcwl.ext E10
  replace bxm0 := hg10.cell bxm0 (by simp only [Value.ownBlock, ne_eq, Option.some.injEq]; omega)
  replace bxm1 := hg10.cell bxm1 (by simp only [Value.ownBlock, ne_eq, Option.some.injEq]; omega)
  replace E := E10
  clear hg10 E10 ownxl
  go_wp2_with fail
  refine (eqMailS_any _ _ _ _ _ _ _ hbound hbound rdG0 rdW0).mono ?_
  rintro e w11 ⟨q11, rfl, hq11, hb11⟩
  obtain rfl : q11 = true := hq11.2 rfl
  clear hq11
  replace hcl := hcl.ext hb11
  replace E := Ext.trans E hb11
  replace bxm0 := cell_ext hb11 bxm0
  replace bxm1 := cell_ext hb11 bxm1
  replace ownW0 := ownsRow_ext ownW0 hb11
  replace rdW0 := rdW0.ext hb11
  replace ownG0 := ownsRow_ext ownG0 hb11
  replace rdG0 := rdG0.ext hb11
  clear hb11
  go_wp2_with fail
  refine (markMailS_own _ _ _ LG0 _ _ rfl hbound2 (by omega) (by omega) ownG0).mono ?_
  rintro e w12 ⟨rfl, ownH0, hg12⟩
  replace ownW0 := ownW0.kept hg12 (by cases hv : (Value.slice aW0 LG0.length cW0).ownBlock with | none => exact .inl rfl | some k => right; intro h; have h1 := geG0 k (h.symm.trans rfl); have h2 := ltW0l k hv; omega)
  replace rdW0 := rd_owns encMail_len ownW0 rfl
  have E12 := E.grown hg12 (by intro k h; have h1 := geG0 k h; omega)
  replace hcl := hcwl.ext E12
  replace bxm0 := hg12.cell bxm0 (by intro h; have h1 := geG0 _ h.symm; simp only [] at h1; omega)
  replace bxm1 := hg12.cell bxm1 (by intro h; have h1 := geG0 _ h.symm; simp only [] at h1; omega)
  replace E := E12
  clear hg12 E12 rdG0 ownG0
  go_wp2_with fail
  refine (heldMailS_any _ _ LG0.length _ _ hbound2 (by omega) (by omega) (rd_owns encMail_len ownH0 (by rw [marksMail_len]))).mono ?_
  rintro e w13 ⟨rfl, hb13⟩
  replace hcl := hcl.ext hb13
  replace E := Ext.trans E hb13
  replace bxm0 := cell_ext hb13 bxm0
  replace bxm1 := cell_ext hb13 bxm1
  replace ownW0 := ownsRow_ext ownW0 hb13
  replace rdW0 := rdW0.ext hb13
  replace ownH0 := ownsRow_ext ownH0 hb13
  clear hb13
  go_wp2_with fail
  have E0 := E.drew
  refine wp_region_v 10 (V := fun i v wv => match i with
    | 0 => v = .slice al l.length capl
    | 1 => OwnV w.heap.size 27 2 encMail l v wv
    | 2 => v = .agg #[.int .i64 m.kind, .string m.text]
    | 3 => v = .agg #[.int .i64 m.kind, .string m.text]
    | 4 => PostSB w.heap.size 27 2 encMail (PutR l m) v wv
    | 5 => PostSB w.heap.size 27 2 encMail (PutR l m) v wv
    | 6 => OneS w.heap.size 27 2 encMail (PutR l m) v wv
    | 7 => OneB (PutR l m) v
    | 8 => OneS w.heap.size 27 2 encMail (PutR l m) v wv
    | 9 => OneB (PutR l m) v
    | _ => True) rfl (by decide) (by kernel_rfl) (by kernel_rfl) (by kernel_rfl) ?_ ?_ ?_
  · intro i v wv wv2 h hE
    match i with
    | 0 => exact h
    | 1 => exact OwnV.ext h hE
    | 2 => exact h
    | 3 => exact h
    | 4 => exact PostSB.ext h hE
    | 5 => exact PostSB.ext h hE
    | 6 => exact OneS.ext h hE
    | 7 => exact h
    | 8 => exact OneS.ext h hE
    | 9 => exact h
    | (n + 10) => trivial
  · intro i o hi ho vs w2 hvl hE hd
    have E2 := E0.trans hE
    have hql := hcwl.ext E2
    have qbxm0 := cell_ext hE (show (World.drew _).cell? _ = _ from bxm0)
    have qbxm1 := cell_ext hE (show (World.drew _).cell? _ = _ from bxm1)
    match vs, hvl with
    | [y0, y1, y2, y3, y4, y5, y6, y7, y8, y9], _ =>
    rcases (show i = 0 ∨ i = 1 ∨ i = 2 ∨ i = 3 ∨ i = 4 ∨ i = 5 ∨ i = 6 ∨ i = 7 ∨ i = 8 ∨ i = 9 by omega) with rfl | rfl | rfl | rfl | rfl | rfl | rfl | rfl | rfl | rfl
    all_goals
      simp only [List.getElem?_cons_zero, List.getElem?_cons_succ, Option.some.injEq] at ho
      subst ho
      simp [Waits, Region.binds] at hd
    · simp [putAll, Act.put, hd]
      go_wp2
      exact ⟨rfl, _, rfl, rfl, Ext.refl _⟩
    · simp [putAll, Act.put, hd]
      go_wp2_with fail
      refine (toMailS_any al capl l _ hlenl hql).mono ?_
      rintro e w3 ⟨v3, rfl, ⟨own3, rfl⟩, hb3⟩
      go_wp2
      exact ⟨rfl, _, rfl, ⟨_, _, rfl, ownsRow_base own3 E2.size⟩, hb3⟩
    · simp [putAll, Act.put, hd]
      go_wp2
      exact ⟨rfl, _, rfl, rfl, Ext.refl _⟩
    · simp [putAll, Act.put, hd]
      go_wp2_with fail
      refine (toMail_any m _).mono ?_
      rintro e w3 ⟨v3, rfl, rfl, hb3⟩
      go_wp2
      exact ⟨rfl, _, rfl, rfl, hb3⟩
    · obtain ⟨⟨gl, cl, hyl, ownyl⟩, hym⟩ := hd
      simp [putAll, Act.put, hyl, hym]
      go_wp2_with fail
      refine (implPutMail _ _ l m _ hlenl (rd_owns encMail_len ownyl rfl)).mono ?_
      rintro e w3 ⟨u0, L0, k1, rfl, hR3, o0, hb3⟩
      go_wp2
      exact ⟨rfl, _, rfl, ⟨u0, L0, k1, rfl, hR3, ownsRow_base o0 E2.size⟩, hb3⟩
    · have h9 := hd
      simp [putAll, Act.put]
      go_wp2
      exact ⟨rfl, _, rfl, h9, Ext.refl _⟩
    · obtain ⟨u0, L0, k1, rfl, h2, o0⟩ := hd
      simp [putAll, Act.put]
      go_wp2
      exact ⟨rfl, _, rfl, ⟨L0, ⟨k1, h2⟩, o0⟩, Ext.refl _⟩
    · obtain ⟨u0, L0, k1, rfl, h2, o0⟩ := hd
      simp [putAll, Act.put]
      go_wp2
      exact ⟨rfl, _, rfl, ⟨k1, rfl, L0, h2⟩, Ext.refl _⟩
    · have h9 := hd
      simp [putAll, Act.put]
      go_wp2
      exact ⟨rfl, _, rfl, (by first | exact h9 | exact h9.1), Ext.refl _⟩
    · have h9 := hd
      simp [putAll, Act.put]
      go_wp2
      exact ⟨rfl, _, rfl, (by first | exact h9 | exact h9.1), Ext.refl _⟩
  intro vs w14 hvl hb14 hV
  match vs, hvl with
  | [y0, y1, y2, y3, y4, y5, y6, y7, y8, y9], _ =>
  obtain ⟨LI0, ⟨z0, hz0⟩, ownI0⟩ := hV 8 (by omega)
  obtain ⟨bI1, hyI1, z1, hz1⟩ := hV 9 (by omega)
  have HRI : Hid (PutR l m LI0 bI1) := by
    obtain ⟨e0, e1⟩ := putR_fun hz0 hz1
    subst e1
    exact hz0
  clear hz0 hz1 hV
  simp at hyI1 ownI0
  subst hyI1
  simp only [putAll, Act.put, List.take_succ_cons, List.take_zero, List.drop_succ_cons, List.drop_zero]
  simp
  clear E0
  replace hb14 : Ext _ w14 := ((Ext.refl _).drew).trans hb14
  replace hcl := hcl.ext hb14
  replace E := Ext.trans E hb14
  replace bxm0 := cell_ext hb14 bxm0
  replace bxm1 := cell_ext hb14 bxm1
  replace ownW0 := ownsRow_ext ownW0 hb14
  replace rdW0 := rdW0.ext hb14
  replace ownH0 := ownsRow_ext ownH0 hb14
  clear hb14
  obtain ⟨aI0, cI0, rfl, rdI0⟩ := rd_of_owns encMail_len ownI0 rfl
  obtain ⟨rfl, rfl⟩ : LG0 = LI0 ∧ bG1 = bI1 := putR_fun HRG.out HRI.out
  go_wp2_with fail
  refine (eqMailS_any _ _ _ _ _ _ _ hbound hbound rdI0 rdW0).mono ?_
  rintro e w15 ⟨q15, rfl, hq15, hb15⟩
  obtain rfl : q15 = true := hq15.2 rfl
  clear hq15
  replace hcl := hcl.ext hb15
  replace E := Ext.trans E hb15
  replace bxm0 := cell_ext hb15 bxm0
  replace bxm1 := cell_ext hb15 bxm1
  replace ownW0 := ownsRow_ext ownW0 hb15
  replace rdW0 := rdW0.ext hb15
  replace ownH0 := ownsRow_ext ownH0 hb15
  replace ownI0 := ownsRow_ext ownI0 hb15
  replace rdI0 := rdI0.ext hb15
  clear hb15
  go_wp2_with fail
  refine (heldMailS_any _ _ LG0.length _ _ hbound2 (by omega) (by omega) (rd_owns encMail_len ownH0 (by rw [marksMail_len]))).mono ?_
  rintro e w16 ⟨rfl, hb16⟩
  replace hcl := hcl.ext hb16
  replace E := Ext.trans E hb16
  replace bxm0 := cell_ext hb16 bxm0
  replace bxm1 := cell_ext hb16 bxm1
  replace ownW0 := ownsRow_ext ownW0 hb16
  replace rdW0 := rdW0.ext hb16
  replace ownH0 := ownsRow_ext ownH0 hb16
  replace ownI0 := ownsRow_ext ownI0 hb16
  replace rdI0 := rdI0.ext hb16
  clear hb16
  go_wp2
  go_ret
  exact RetB.mk true rfl (by simp) E
end Go.Proofs.Ytlbnfnfaojjpaaa
