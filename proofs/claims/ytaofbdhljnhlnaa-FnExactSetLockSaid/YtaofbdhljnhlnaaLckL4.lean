/- FnExactSetLock: the walk. No condition but that the list is shorter than 2^63. -/
import Derived.Test.YtaofbdhljnhlnaaLckS
namespace Go.Proofs.Ytaofbdhljnhlnaa
open Go.RowKit

set_option maxHeartbeats 4000000 in
theorem exactSetLock_any (al : Option Addr) (capl : Nat) (l : List Lck) (hll : l.length ≤ 9223372036854775807) (x : Lck) (w : World) (hcl : Rd 4 encLck w al l) :
    Calls Try.prog 10 #[.slice al l.length capl, .agg #[.int .i64 x.who, .int .i64 x.f, .int .i64 x.t, .bool x.alone]] w (RetB True w) := by
  go_enter Try.func10, Try.ntmps10
  have hcwl := hcl
  go_wp2_with fail
  have E : Ext w _ := ((Ext.refl w).alloc (.cells #[.int .i64 x.who, .int .i64 x.f, .int .i64 x.t, .bool x.alone] 30))
  replace hcl := hcl.ext E
  have bxx0 : (w.alloc (.cells #[.int .i64 x.who, .int .i64 x.f, .int .i64 x.t, .bool x.alone] 30)).cell? ⟨w.heap.size, 0, none⟩ = some (.int .i64 x.who) := by simp
  have bxx1 : (w.alloc (.cells #[.int .i64 x.who, .int .i64 x.f, .int .i64 x.t, .bool x.alone] 30)).cell? ⟨w.heap.size, 1, none⟩ = some (.int .i64 x.f) := by simp
  have bxx2 : (w.alloc (.cells #[.int .i64 x.who, .int .i64 x.f, .int .i64 x.t, .bool x.alone] 30)).cell? ⟨w.heap.size, 2, none⟩ = some (.int .i64 x.t) := by simp
  have bxx3 : (w.alloc (.cells #[.int .i64 x.who, .int .i64 x.f, .int .i64 x.t, .bool x.alone] 30)).cell? ⟨w.heap.size, 3, none⟩ = some (.bool x.alone) := by simp
  refine (szLckS_any al capl l _ _ (by omega) (by omega) hll hcl).mono ?_
  rintro e w1 ⟨r1, rfl, hra1, hrb1, hrc1, hb1⟩
  have Hrc1 := Lib.hid hrc1
  clear hrc1
  replace hcl := hcl.ext hb1
  replace E := Ext.trans E hb1
  replace bxx0 := cell_ext hb1 bxx0
  replace bxx1 := cell_ext hb1 bxx1
  replace bxx2 := cell_ext hb1 bxx2
  replace bxx3 := cell_ext hb1 bxx3
  clear hb1
  by_cases hneg1 : r1 < 0
  · go_wp2
    go_ret
    exact RetB.mk true rfl (by simp) E
  have hlenl : l.length ≤ 1048576 := Hrc1.out (by omega)
  go_wp2_with fail
  have E0 := E.drew
  refine wp_region_v 10 (V := fun i v wv => match i with
    | 0 => v = .slice al l.length capl
    | 1 => OwnV w.heap.size 32 4 encLck l v wv
    | 2 => v = .agg #[.int .i64 x.who, .int .i64 x.f, .int .i64 x.t, .bool x.alone]
    | 3 => v = .agg #[.int .i64 x.who, .int .i64 x.f, .int .i64 x.t, .bool x.alone]
    | 4 => PostSB w.heap.size 32 4 encLck (SetR l x) v wv
    | 5 => PostSB w.heap.size 32 4 encLck (SetR l x) v wv
    | 6 => OneS w.heap.size 32 4 encLck (SetR l x) v wv
    | 7 => OneB (SetR l x) v
    | 8 => OneS w.heap.size 32 4 encLck (SetR l x) v wv
    | 9 => OneB (SetR l x) v
    | _ => True) rfl (by decide) (by kernel_rfl) (by kernel_rfl) (by kernel_rfl) ?_ ?_ ?_
  · intro i v wv wv2 h hE
    match i with
    | 0 => exact h
    | 1 => exact OwnV.ext h hE
    | 2 => exact h
    | 3 => exact h
    | 4 => exact PostSB.ext h hE
    | 5 => exact PostSB.ext h hE
    | 6 => exact OneS.ext h hE
    | 7 => exact h
    | 8 => exact OneS.ext h hE
    | 9 => exact h
    | (n + 10) => trivial
  · intro i o hi ho vs w2 hvl hE hd
    have E2 := E0.trans hE
    have hql := hcwl.ext E2
    have qbxx0 := cell_ext hE (show (World.drew _).cell? _ = _ from bxx0)
    have qbxx1 := cell_ext hE (show (World.drew _).cell? _ = _ from bxx1)
    have qbxx2 := cell_ext hE (show (World.drew _).cell? _ = _ from bxx2)
    have qbxx3 := cell_ext hE (show (World.drew _).cell? _ = _ from bxx3)
    match vs, hvl with
    | [y0, y1, y2, y3, y4, y5, y6, y7, y8, y9], _ =>
    rcases (show i = 0 ∨ i = 1 ∨ i = 2 ∨ i = 3 ∨ i = 4 ∨ i = 5 ∨ i = 6 ∨ i = 7 ∨ i = 8 ∨ i = 9 by omega) with rfl | rfl | rfl | rfl | rfl | rfl | rfl | rfl | rfl | rfl
    all_goals
      simp only [List.getElem?_cons_zero, List.getElem?_cons_succ, Option.some.injEq] at ho
      subst ho
      simp [Waits, Region.binds] at hd
    · simp [putAll, Act.put, hd]
      go_wp2
      exact ⟨rfl, _, rfl, rfl, Ext.refl _⟩
    · simp [putAll, Act.put, hd]
      go_wp2_with fail
      refine (toLckS_any al capl l _ hlenl hql).mono ?_
      rintro e w3 ⟨v3, rfl, ⟨own3, rfl⟩, hb3⟩
      go_wp2
      exact ⟨rfl, _, rfl, ⟨_, _, rfl, ownsRow_base own3 E2.size⟩, hb3⟩
    · simp [putAll, Act.put, hd]
      go_wp2
      exact ⟨rfl, _, rfl, rfl, Ext.refl _⟩
    · simp [putAll, Act.put, hd]
      go_wp2_with fail
      refine (toLck_any x _).mono ?_
      rintro e w3 ⟨v3, rfl, rfl, hb3⟩
      go_wp2
      exact ⟨rfl, _, rfl, rfl, hb3⟩
    · obtain ⟨⟨gl, cl, hyl, ownyl⟩, hyx⟩ := hd
      simp [putAll, Act.put, hyl, hyx]
      go_wp2_with fail
      refine (specSetLock _ _ l x _ hlenl (rd_owns encLck_len ownyl rfl)).mono ?_
      rintro e w3 ⟨u0, L0, k1, rfl, hR3, o0, hb3⟩
      go_wp2
      exact ⟨rfl, _, rfl, ⟨u0, L0, k1, rfl, hR3, ownsRow_base o0 E2.size⟩, hb3⟩
    · have h9 := hd
      simp [putAll, Act.put]
      go_wp2
      exact ⟨rfl, _, rfl, h9, Ext.refl _⟩
    · obtain ⟨u0, L0, k1, rfl, h2, o0⟩ := hd
      simp [putAll, Act.put]
      go_wp2
      exact ⟨rfl, _, rfl, ⟨L0, ⟨k1, h2⟩, o0⟩, Ext.refl _⟩
    · obtain ⟨u0, L0, k1, rfl, h2, o0⟩ := hd
      simp [putAll, Act.put]
      go_wp2
      exact ⟨rfl, _, rfl, ⟨k1, rfl, L0, h2⟩, Ext.refl _⟩
    · have h9 := hd
      simp [putAll, Act.put]
      go_wp2
      exact ⟨rfl, _, rfl, (by first | exact h9 | exact h9.1), Ext.refl _⟩
    · have h9 := hd
      simp [putAll, Act.put]
      go_wp2
      exact ⟨rfl, _, rfl, (by first | exact h9 | exact h9.1), Ext.refl _⟩
  intro vs w2 hvl hb2 hV
  match vs, hvl with
  | [y0, y1, y2, y3, y4, y5, y6, y7, y8, y9], _ =>
  obtain ⟨LW0, ⟨z0, hz0⟩, ownW0⟩ := hV 8 (by omega)
  obtain ⟨bW1, hyW1, z1, hz1⟩ := hV 9 (by omega)
  have HRW : Hid (SetR l x LW0 bW1) := by
    obtain ⟨e0, e1⟩ := setR_fun hz0 hz1
    subst e1
    exact hz0
  clear hz0 hz1 hV
  simp at hyW1 ownW0
  subst hyW1
  simp only [putAll, Act.put, List.take_succ_cons, List.take_zero, List.drop_succ_cons, List.drop_zero]
  simp
  clear E0
  replace hb2 : Ext _ w2 := ((Ext.refl _).drew).trans hb2
  replace hcl := hcl.ext hb2
  replace E := Ext.trans E hb2
  replace bxx0 := cell_ext hb2 bxx0
  replace bxx1 := cell_ext hb2 bxx1
  replace bxx2 := cell_ext hb2 bxx2
  replace bxx3 := cell_ext hb2 bxx3
  clear hb2
  obtain ⟨aW0, cW0, rfl, rdW0⟩ := rd_of_owns encLck_len ownW0 rfl
  go_wp2_with fail
  have geXl := E.size
  have ltlbxx0 := World.block_lt_of_cell? _ _ bxx0
  simp only [] at ltlbxx0
  have ltlbxx1 := World.block_lt_of_cell? _ _ bxx1
  simp only [] at ltlbxx1
  have ltlbxx2 := World.block_lt_of_cell? _ _ bxx2
  simp only [] at ltlbxx2
  have ltlbxx3 := World.block_lt_of_cell? _ _ bxx3
  simp only [] at ltlbxx3
  refine (toLckS_any al capl l _ hlenl hcl).mono ?_
  rintro e w3 ⟨v3, rfl, ⟨ownxl, rfl⟩, hb3⟩
  have ltW0l := fun k h => (World.ownsRow.lt ownW0 k h).2
  have gxl := (World.ownsRow.lt ownxl _ rfl).2
  replace hcl := hcl.ext hb3
  replace E := Ext.trans E hb3
  replace bxx0 := cell_ext hb3 bxx0
  replace bxx1 := cell_ext hb3 bxx1
  replace bxx2 := cell_ext hb3 bxx2
  replace bxx3 := cell_ext hb3 bxx3
  replace ownW0 := ownsRow_ext ownW0 hb3
  replace rdW0 := rdW0.ext hb3
  clear hb3
  go_wp2_with fail
  refine (toLck_any x _).mono ?_
  rintro e w4 ⟨v4, rfl, rfl, hb4⟩
  replace hcl := hcl.ext hb4
  replace E := Ext.trans E hb4
  replace bxx0 := cell_ext hb4 bxx0
  replace bxx1 := cell_ext hb4 bxx1
  replace bxx2 := cell_ext hb4 bxx2
  replace bxx3 := cell_ext hb4 bxx3
  replace ownW0 := ownsRow_ext ownW0 hb4
  replace rdW0 := rdW0.ext hb4
  replace ownxl := ownsRow_ext ownxl hb4
  clear hb4
  replace gxl := (World.ownsRow.lt ownxl _ rfl).2
  replace gxl := (World.ownsRow.lt ownxl _ rfl).2
  have szG := E.size
  go_wp2_with fail
  refine (implSetLock _ _ l x _ hlenl (owns_cap ownxl) (rd_owns encLck_len ownxl rfl)).mono ?_
  rintro e w5 ⟨vG0, LG0, bG1, rfl, hRG, ownG0, hb5⟩
  have HRG := Lib.hid hRG
  clear hRG
  replace hcl := hcl.ext hb5
  replace E := Ext.trans E hb5
  replace bxx0 := cell_ext hb5 bxx0
  replace bxx1 := cell_ext hb5 bxx1
  replace bxx2 := cell_ext hb5 bxx2
  replace bxx3 := cell_ext hb5 bxx3
  replace ownW0 := ownsRow_ext ownW0 hb5
  replace rdW0 := rdW0.ext hb5
  replace ownxl := ownsRow_ext ownxl hb5
  clear hb5
  obtain ⟨aG0, cG0, rfl, rdG0⟩ := rd_of_owns encLck_len ownG0 rfl
  have geG0 := fun k h => (World.ownsRow.lt ownG0 k h).1
  obtain ⟨rfl, rfl⟩ : LG0 = LW0 ∧ bG1 = bW1 := setR_fun HRG.out HRW.out
  have hbound2 : LG0.length ≤ 1048576 := setR_len HRG.out hlenl
  have hbound : LG0.length ≤ 9223372036854775807 := by omega
  go_wp2_with fail
  refine (eqLckS_any _ _ _ _ _ _ _ hbound hbound rdG0 rdW0).mono ?_
  rintro e w6 ⟨q6, rfl, hq6, hb6⟩
  obtain rfl : q6 = true := hq6.2 rfl
  clear hq6
  replace hcl := hcl.ext hb6
  replace E := Ext.trans E hb6
  replace bxx0 := cell_ext hb6 bxx0
  replace bxx1 := cell_ext hb6 bxx1
  replace bxx2 := cell_ext hb6 bxx2
  replace bxx3 := cell_ext hb6 bxx3
  replace ownW0 := ownsRow_ext ownW0 hb6
  replace rdW0 := rdW0.ext hb6
  replace ownxl := ownsRow_ext ownxl hb6
  replace ownG0 := ownsRow_ext ownG0 hb6
  replace rdG0 := rdG0.ext hb6
  clear hb6
  go_wp2_with fail
  refine (toLckS_any al capl l _ hlenl hcl).mono ?_
  rintro e w7 ⟨v7, rfl, ⟨ownt7, rfl⟩, hb7⟩
  replace hcl := hcl.ext hb7
  replace E := Ext.trans E hb7
  replace bxx0 := cell_ext hb7 bxx0
  replace bxx1 := cell_ext hb7 bxx1
  replace bxx2 := cell_ext hb7 bxx2
  replace bxx3 := cell_ext hb7 bxx3
  replace ownW0 := ownsRow_ext ownW0 hb7
  replace rdW0 := rdW0.ext hb7
  replace ownxl := ownsRow_ext ownxl hb7
  replace ownG0 := ownsRow_ext ownG0 hb7
  replace rdG0 := rdG0.ext hb7
  clear hb7
  go_wp2_with fail
  refine (eqLckS_any _ _ _ _ l l _ hll hll (rd_owns encLck_len ownxl rfl) (rd_owns encLck_len ownt7 rfl)).mono ?_
  rintro e w8 ⟨q8, rfl, hq8, hb8⟩
  obtain rfl : q8 = true := hq8.2 rfl
  clear hq8 ownt7
  replace hcl := hcl.ext hb8
  replace E := Ext.trans E hb8
  replace bxx0 := cell_ext hb8 bxx0
  replace bxx1 := cell_ext hb8 bxx1
  replace bxx2 := cell_ext hb8 bxx2
  replace bxx3 := cell_ext hb8 bxx3
  replace ownW0 := ownsRow_ext ownW0 hb8
  replace rdW0 := rdW0.ext hb8
  replace ownxl := ownsRow_ext ownxl hb8
  replace ownG0 := ownsRow_ext ownG0 hb8
  replace rdG0 := rdG0.ext hb8
  clear hb8
  go_wp2_with fail
  refine (markLckS_own _ _ _ l _ _ rfl hlenl (by omega) (by omega) ownxl).mono ?_
  rintro e w9 ⟨rfl, ownml, hg9⟩
  replace ownG0 := ownG0.kept hg9 (by right; intro h; have h9 := geG0 _ h; (try dsimp only at h9); omega)
  replace ownW0 := ownW0.kept hg9 (by right; intro h; have h9 := ltW0l _ h; (try dsimp only at h9); omega)
  replace rdG0 := rd_owns encLck_len ownG0 rfl
  replace rdW0 := rd_owns encLck_len ownW0 rfl
  have E9 := E.grown hg9 (by intro k h; simp only [Value.ownBlock, Option.some.injEq] at h; omega)
  replace hcl := hcwl.ext E9
  replace bxx0 := hg9.cell bxx0 (by simp only [Value.ownBlock, ne_eq, Option.some.injEq]; omega)
  replace bxx1 := hg9.cell bxx1 (by simp only [Value.ownBlock, ne_eq, Option.some.injEq]; omega)
  replace bxx2 := hg9.cell bxx2 (by simp only [Value.ownBlock, ne_eq, Option.some.injEq]; omega)
  replace bxx3 := hg9.cell bxx3 (by simp only [Value.ownBlock, ne_eq, Option.some.injEq]; omega)
  replace E := E9
  clear hg9 E9 ownxl
  go_wp2_with fail
  refine (eqLckS_any _ _ _ _ _ _ _ hbound hbound rdG0 rdW0).mono ?_
  rintro e w10 ⟨q10, rfl, hq10, hb10⟩
  obtain rfl : q10 = true := hq10.2 rfl
  clear hq10
  replace hcl := hcl.ext hb10
  replace E := Ext.trans E hb10
  replace bxx0 := cell_ext hb10 bxx0
  replace bxx1 := cell_ext hb10 bxx1
  replace bxx2 := cell_ext hb10 bxx2
  replace bxx3 := cell_ext hb10 bxx3
  replace ownW0 := ownsRow_ext ownW0 hb10
  replace rdW0 := rdW0.ext hb10
  replace ownG0 := ownsRow_ext ownG0 hb10
  replace rdG0 := rdG0.ext hb10
  clear hb10
  go_wp2_with fail
  refine (markLckS_own _ _ _ LG0 _ _ rfl hbound2 (by omega) (by omega) ownG0).mono ?_
  rintro e w11 ⟨rfl, ownH0, hg11⟩
  replace ownW0 := ownW0.kept hg11 (by cases hv : (Value.slice aW0 LG0.length cW0).ownBlock with | none => exact .inl rfl | some k => right; intro h; have h1 := geG0 k (h.symm.trans rfl); have h2 := ltW0l k hv; omega)
  replace rdW0 := rd_owns encLck_len ownW0 rfl
  have E11 := E.grown hg11 (by intro k h; have h1 := geG0 k h; omega)
  replace hcl := hcwl.ext E11
  replace bxx0 := hg11.cell bxx0 (by intro h; have h1 := geG0 _ h.symm; simp only [] at h1; omega)
  replace bxx1 := hg11.cell bxx1 (by intro h; have h1 := geG0 _ h.symm; simp only [] at h1; omega)
  replace bxx2 := hg11.cell bxx2 (by intro h; have h1 := geG0 _ h.symm; simp only [] at h1; omega)
  replace bxx3 := hg11.cell bxx3 (by intro h; have h1 := geG0 _ h.symm; simp only [] at h1; omega)
  replace E := E11
  clear hg11 E11 rdG0 ownG0
  go_wp2_with fail
  refine (heldLckS_any _ _ LG0.length _ _ hbound2 (by omega) (by omega) (rd_owns encLck_len ownH0 (by rw [marksLck_len]))).mono ?_
  rintro e w12 ⟨rfl, hb12⟩
  replace hcl := hcl.ext hb12
  replace E := Ext.trans E hb12
  replace bxx0 := cell_ext hb12 bxx0
  replace bxx1 := cell_ext hb12 bxx1
  replace bxx2 := cell_ext hb12 bxx2
  replace bxx3 := cell_ext hb12 bxx3
  replace ownW0 := ownsRow_ext ownW0 hb12
  replace rdW0 := rdW0.ext hb12
  replace ownH0 := ownsRow_ext ownH0 hb12
  clear hb12
  go_wp2_with fail
  have E0 := E.drew
  refine wp_region_v 10 (V := fun i v wv => match i with
    | 0 => v = .slice al l.length capl
    | 1 => OwnV w.heap.size 32 4 encLck l v wv
    | 2 => v = .agg #[.int .i64 x.who, .int .i64 x.f, .int .i64 x.t, .bool x.alone]
    | 3 => v = .agg #[.int .i64 x.who, .int .i64 x.f, .int .i64 x.t, .bool x.alone]
    | 4 => PostSB w.heap.size 32 4 encLck (SetR l x) v wv
    | 5 => PostSB w.heap.size 32 4 encLck (SetR l x) v wv
    | 6 => OneS w.heap.size 32 4 encLck (SetR l x) v wv
    | 7 => OneB (SetR l x) v
    | 8 => OneS w.heap.size 32 4 encLck (SetR l x) v wv
    | 9 => OneB (SetR l x) v
    | _ => True) rfl (by decide) (by kernel_rfl) (by kernel_rfl) (by kernel_rfl) ?_ ?_ ?_
  · intro i v wv wv2 h hE
    match i with
    | 0 => exact h
    | 1 => exact OwnV.ext h hE
    | 2 => exact h
    | 3 => exact h
    | 4 => exact PostSB.ext h hE
    | 5 => exact PostSB.ext h hE
    | 6 => exact OneS.ext h hE
    | 7 => exact h
    | 8 => exact OneS.ext h hE
    | 9 => exact h
    | (n + 10) => trivial
  · intro i o hi ho vs w2 hvl hE hd
    have E2 := E0.trans hE
    have hql := hcwl.ext E2
    have qbxx0 := cell_ext hE (show (World.drew _).cell? _ = _ from bxx0)
    have qbxx1 := cell_ext hE (show (World.drew _).cell? _ = _ from bxx1)
    have qbxx2 := cell_ext hE (show (World.drew _).cell? _ = _ from bxx2)
    have qbxx3 := cell_ext hE (show (World.drew _).cell? _ = _ from bxx3)
    match vs, hvl with
    | [y0, y1, y2, y3, y4, y5, y6, y7, y8, y9], _ =>
    rcases (show i = 0 ∨ i = 1 ∨ i = 2 ∨ i = 3 ∨ i = 4 ∨ i = 5 ∨ i = 6 ∨ i = 7 ∨ i = 8 ∨ i = 9 by omega) with rfl | rfl | rfl | rfl | rfl | rfl | rfl | rfl | rfl | rfl
    all_goals
      simp only [List.getElem?_cons_zero, List.getElem?_cons_succ, Option.some.injEq] at ho
      subst ho
      simp [Waits, Region.binds] at hd
    · simp [putAll, Act.put, hd]
      go_wp2
      exact ⟨rfl, _, rfl, rfl, Ext.refl _⟩
    · simp [putAll, Act.put, hd]
      go_wp2_with fail
      refine (toLckS_any al capl l _ hlenl hql).mono ?_
      rintro e w3 ⟨v3, rfl, ⟨own3, rfl⟩, hb3⟩
      go_wp2
      exact ⟨rfl, _, rfl, ⟨_, _, rfl, ownsRow_base own3 E2.size⟩, hb3⟩
    · simp [putAll, Act.put, hd]
      go_wp2
      exact ⟨rfl, _, rfl, rfl, Ext.refl _⟩
    · simp [putAll, Act.put, hd]
      go_wp2_with fail
      refine (toLck_any x _).mono ?_
      rintro e w3 ⟨v3, rfl, rfl, hb3⟩
      go_wp2
      exact ⟨rfl, _, rfl, rfl, hb3⟩
    · obtain ⟨⟨gl, cl, hyl, ownyl⟩, hyx⟩ := hd
      simp [putAll, Act.put, hyl, hyx]
      go_wp2_with fail
      refine (implSetLock _ _ l x _ hlenl (owns_cap ownyl) (rd_owns encLck_len ownyl rfl)).mono ?_
      rintro e w3 ⟨u0, L0, k1, rfl, hR3, o0, hb3⟩
      go_wp2
      exact ⟨rfl, _, rfl, ⟨u0, L0, k1, rfl, hR3, ownsRow_base o0 E2.size⟩, hb3⟩
    · have h9 := hd
      simp [putAll, Act.put]
      go_wp2
      exact ⟨rfl, _, rfl, h9, Ext.refl _⟩
    · obtain ⟨u0, L0, k1, rfl, h2, o0⟩ := hd
      simp [putAll, Act.put]
      go_wp2
      exact ⟨rfl, _, rfl, ⟨L0, ⟨k1, h2⟩, o0⟩, Ext.refl _⟩
    · obtain ⟨u0, L0, k1, rfl, h2, o0⟩ := hd
      simp [putAll, Act.put]
      go_wp2
      exact ⟨rfl, _, rfl, ⟨k1, rfl, L0, h2⟩, Ext.refl _⟩
    · have h9 := hd
      simp [putAll, Act.put]
      go_wp2
      exact ⟨rfl, _, rfl, (by first | exact h9 | exact h9.1), Ext.refl _⟩
    · have h9 := hd
      simp [putAll, Act.put]
      go_wp2
      exact ⟨rfl, _, rfl, (by first | exact h9 | exact h9.1), Ext.refl _⟩
  intro vs w13 hvl hb13 hV
  match vs, hvl with
  | [y0, y1, y2, y3, y4, y5, y6, y7, y8, y9], _ =>
  obtain ⟨LI0, ⟨z0, hz0⟩, ownI0⟩ := hV 8 (by omega)
  obtain ⟨bI1, hyI1, z1, hz1⟩ := hV 9 (by omega)
  have HRI : Hid (SetR l x LI0 bI1) := by
    obtain ⟨e0, e1⟩ := setR_fun hz0 hz1
    subst e1
    exact hz0
  clear hz0 hz1 hV
  simp at hyI1 ownI0
  subst hyI1
  simp only [putAll, Act.put, List.take_succ_cons, List.take_zero, List.drop_succ_cons, List.drop_zero]
  simp
  clear E0
  replace hb13 : Ext _ w13 := ((Ext.refl _).drew).trans hb13
  replace hcl := hcl.ext hb13
  replace E := Ext.trans E hb13
  replace bxx0 := cell_ext hb13 bxx0
  replace bxx1 := cell_ext hb13 bxx1
  replace bxx2 := cell_ext hb13 bxx2
  replace bxx3 := cell_ext hb13 bxx3
  replace ownW0 := ownsRow_ext ownW0 hb13
  replace rdW0 := rdW0.ext hb13
  replace ownH0 := ownsRow_ext ownH0 hb13
  clear hb13
  obtain ⟨aI0, cI0, rfl, rdI0⟩ := rd_of_owns encLck_len ownI0 rfl
  obtain ⟨rfl, rfl⟩ : LG0 = LI0 ∧ bG1 = bI1 := setR_fun HRG.out HRI.out
  go_wp2_with fail
  refine (eqLckS_any _ _ _ _ _ _ _ hbound hbound rdI0 rdW0).mono ?_
  rintro e w14 ⟨q14, rfl, hq14, hb14⟩
  obtain rfl : q14 = true := hq14.2 rfl
  clear hq14
  replace hcl := hcl.ext hb14
  replace E := Ext.trans E hb14
  replace bxx0 := cell_ext hb14 bxx0
  replace bxx1 := cell_ext hb14 bxx1
  replace bxx2 := cell_ext hb14 bxx2
  replace bxx3 := cell_ext hb14 bxx3
  replace ownW0 := ownsRow_ext ownW0 hb14
  replace rdW0 := rdW0.ext hb14
  replace ownH0 := ownsRow_ext ownH0 hb14
  replace ownI0 := ownsRow_ext ownI0 hb14
  replace rdI0 := rdI0.ext hb14
  clear hb14
  go_wp2_with fail
  refine (heldLckS_any _ _ LG0.length _ _ hbound2 (by omega) (by omega) (rd_owns encLck_len ownH0 (by rw [marksLck_len]))).mono ?_
  rintro e w15 ⟨rfl, hb15⟩
  replace hcl := hcl.ext hb15
  replace E := Ext.trans E hb15
  replace bxx0 := cell_ext hb15 bxx0
  replace bxx1 := cell_ext hb15 bxx1
  replace bxx2 := cell_ext hb15 bxx2
  replace bxx3 := cell_ext hb15 bxx3
  replace ownW0 := ownsRow_ext ownW0 hb15
  replace rdW0 := rdW0.ext hb15
  replace ownH0 := ownsRow_ext ownH0 hb15
  replace ownI0 := ownsRow_ext ownI0 hb15
  replace rdI0 := rdI0.ext hb15
  clear hb15
  go_wp2
  go_ret
  exact RetB.mk true rfl (by simp) E
end Go.Proofs.Ytaofbdhljnhlnaa
