/- FnExactFreeBytes: the walk. No condition but that the list is shorter than 2^63. -/
import Derived.Test.YtaofbdhljnhlnaaLckG
namespace Go.Proofs.Ytaofbdhljnhlnaa
open Go.RowKit

set_option maxHeartbeats 4000000 in
theorem exactFreeBytes_any (al : Option Addr) (capl : Nat) (l : List Lck) (hll : l.length ≤ 9223372036854775807) (who : Int) (f : Int) (t : Int) (w : World) (hcl : Rd 4 encLck w al l) :
    Calls Try.prog 7 #[.slice al l.length capl, .int .i64 who, .int .i64 f, .int .i64 t] w (RetB True w) := by
  go_enter Try.func7, Try.ntmps7
  have hcwl := hcl
  go_wp2_with fail
  have E : Ext w _ := (Ext.refl w)
  replace hcl := hcl.ext E
  refine (szLckS_any al capl l _ _ (by omega) (by omega) hll hcl).mono ?_
  rintro e w1 ⟨r1, rfl, hra1, hrb1, hrc1, hb1⟩
  have Hrc1 := Lib.hid hrc1
  clear hrc1
  replace hcl := hcl.ext hb1
  replace E := Ext.trans E hb1
  clear hb1
  by_cases hneg1 : r1 < 0
  · go_wp2
    go_ret
    exact RetB.mk true rfl (by simp) E
  have hlenl : l.length ≤ 1048576 := Hrc1.out (by omega)
  go_wp2_with fail
  refine (toLckS_any al capl l _ hlenl hcl).mono ?_
  rintro e w2 ⟨v2, rfl, ⟨ownsl, rfl⟩, hb2⟩
  replace hcl := hcl.ext hb2
  replace E := Ext.trans E hb2
  clear hb2
  go_wp2_with fail
  refine (specFreeBytes _ _ l who f t _ hlenl (rd_owns encLck_len ownsl rfl)).mono ?_
  rintro e w3 ⟨vW0, LW0, bW1, rfl, hRW, ownW0, hb3⟩
  have HRW := Lib.hid hRW
  clear hRW
  replace hcl := hcl.ext hb3
  replace E := Ext.trans E hb3
  replace ownsl := ownsRow_ext ownsl hb3
  clear hb3
  obtain ⟨aW0, cW0, rfl, rdW0⟩ := rd_of_owns encLck_len ownW0 rfl
  clear ownsl
  go_wp2_with fail
  have geXl := E.size
  refine (toLckS_any al capl l _ hlenl hcl).mono ?_
  rintro e w4 ⟨v4, rfl, ⟨ownxl, rfl⟩, hb4⟩
  have ltW0l := fun k h => (World.ownsRow.lt ownW0 k h).2
  have gxl := (World.ownsRow.lt ownxl _ rfl).2
  replace hcl := hcl.ext hb4
  replace E := Ext.trans E hb4
  replace ownW0 := ownsRow_ext ownW0 hb4
  replace rdW0 := rdW0.ext hb4
  clear hb4
  replace gxl := (World.ownsRow.lt ownxl _ rfl).2
  have szG := E.size
  go_wp2_with fail
  refine (implFreeBytes _ _ l who f t _ hlenl (owns_cap ownxl) (rd_owns encLck_len ownxl rfl)).mono ?_
  rintro e w5 ⟨vG0, LG0, bG1, rfl, hRG, ownG0, hb5⟩
  have HRG := Lib.hid hRG
  clear hRG
  replace hcl := hcl.ext hb5
  replace E := Ext.trans E hb5
  replace ownW0 := ownsRow_ext ownW0 hb5
  replace rdW0 := rdW0.ext hb5
  replace ownxl := ownsRow_ext ownxl hb5
  clear hb5
  obtain ⟨aG0, cG0, rfl, rdG0⟩ := rd_of_owns encLck_len ownG0 rfl
  have geG0 := fun k h => (World.ownsRow.lt ownG0 k h).1
  obtain ⟨rfl, rfl⟩ : LG0 = LW0 ∧ bG1 = bW1 := freeR_fun HRG.out HRW.out
  have hbound2 : LG0.length ≤ 1048576 := freeR_len HRG.out hlenl
  have hbound : LG0.length ≤ 9223372036854775807 := by omega
  go_wp2_with fail
  refine (eqLckS_any _ _ _ _ _ _ _ hbound hbound rdG0 rdW0).mono ?_
  rintro e w6 ⟨q6, rfl, hq6, hb6⟩
  obtain rfl : q6 = true := hq6.2 rfl
  clear hq6
  replace hcl := hcl.ext hb6
  replace E := Ext.trans E hb6
  replace ownW0 := ownsRow_ext ownW0 hb6
  replace rdW0 := rdW0.ext hb6
  replace ownxl := ownsRow_ext ownxl hb6
  replace ownG0 := ownsRow_ext ownG0 hb6
  replace rdG0 := rdG0.ext hb6
  clear hb6
  go_wp2_with fail
  refine (toLckS_any al capl l _ hlenl hcl).mono ?_
  rintro e w7 ⟨v7, rfl, ⟨ownt7, rfl⟩, hb7⟩
  replace hcl := hcl.ext hb7
  replace E := Ext.trans E hb7
  replace ownW0 := ownsRow_ext ownW0 hb7
  replace rdW0 := rdW0.ext hb7
  replace ownxl := ownsRow_ext ownxl hb7
  replace ownG0 := ownsRow_ext ownG0 hb7
  replace rdG0 := rdG0.ext hb7
  clear hb7
  go_wp2_with fail
  refine (eqLckS_any _ _ _ _ l l _ hll hll (rd_owns encLck_len ownxl rfl) (rd_owns encLck_len ownt7 rfl)).mono ?_
  rintro e w8 ⟨q8, rfl, hq8, hb8⟩
  obtain rfl : q8 = true := hq8.2 rfl
  clear hq8 ownt7
  replace hcl := hcl.ext hb8
  replace E := Ext.trans E hb8
  replace ownW0 := ownsRow_ext ownW0 hb8
  replace rdW0 := rdW0.ext hb8
  replace ownxl := ownsRow_ext ownxl hb8
  replace ownG0 := ownsRow_ext ownG0 hb8
  replace rdG0 := rdG0.ext hb8
  clear hb8
  go_wp2_with fail
  refine (markLckS_own _ _ _ l _ _ rfl hlenl (by omega) (by omega) ownxl).mono ?_
  rintro e w9 ⟨rfl, ownml, hg9⟩
  replace ownG0 := ownG0.kept hg9 (by right; intro h; have h9 := geG0 _ h; (try dsimp only at h9); omega)
  replace ownW0 := ownW0.kept hg9 (by right; intro h; have h9 := ltW0l _ h; (try dsimp only at h9); omega)
  replace rdG0 := rd_owns encLck_len ownG0 rfl
  replace rdW0 := rd_owns encLck_len ownW0 rfl
  have E9 := E.grown hg9 (by intro k h; simp only [Value.ownBlock, Option.some.injEq] at h; omega)
  replace hcl := hcwl.ext E9
  replace E := E9
  clear hg9 E9 ownxl
  go_wp2_with fail
  refine (eqLckS_any _ _ _ _ _ _ _ hbound hbound rdG0 rdW0).mono ?_
  rintro e w10 ⟨q10, rfl, hq10, hb10⟩
  obtain rfl : q10 = true := hq10.2 rfl
  clear hq10
  replace hcl := hcl.ext hb10
  replace E := Ext.trans E hb10
  replace ownW0 := ownsRow_ext ownW0 hb10
  replace rdW0 := rdW0.ext hb10
  replace ownG0 := ownsRow_ext ownG0 hb10
  replace rdG0 := rdG0.ext hb10
  clear hb10
  go_wp2_with fail
  refine (markLckS_own _ _ _ LG0 _ _ rfl hbound2 (by omega) (by omega) ownG0).mono ?_
  rintro e w11 ⟨rfl, ownH0, hg11⟩
  replace ownW0 := ownW0.kept hg11 (by cases hv : (Value.slice aW0 LG0.length cW0).ownBlock with | none => exact .inl rfl | some k => right; intro h; have h1 := geG0 k (h.symm.trans rfl); have h2 := ltW0l k hv; omega)
  replace rdW0 := rd_owns encLck_len ownW0 rfl
  have E11 := E.grown hg11 (by intro k h; have h1 := geG0 k h; omega)
  replace hcl := hcwl.ext E11
  replace E := E11
  clear hg11 E11 rdG0 ownG0
  go_wp2_with fail
  refine (heldLckS_any _ _ LG0.length _ _ hbound2 (by omega) (by omega) (rd_owns encLck_len ownH0 (by rw [marksLck_len]))).mono ?_
  rintro e w12 ⟨rfl, hb12⟩
  replace hcl := hcl.ext hb12
  replace E := Ext.trans E hb12
  replace ownW0 := ownsRow_ext ownW0 hb12
  replace rdW0 := rdW0.ext hb12
  replace ownH0 := ownsRow_ext ownH0 hb12
  clear hb12
  go_wp2_with fail
  refine (toLckS_any al capl l _ hlenl hcl).mono ?_
  rintro e w13 ⟨v13, rfl, ⟨ownhl, rfl⟩, hb13⟩
  replace hcl := hcl.ext hb13
  replace E := Ext.trans E hb13
  replace ownW0 := ownsRow_ext ownW0 hb13
  replace rdW0 := rdW0.ext hb13
  replace ownH0 := ownsRow_ext ownH0 hb13
  clear hb13
  go_wp2_with fail
  refine (implFreeBytes _ _ l who f t _ hlenl (owns_cap ownhl) (rd_owns encLck_len ownhl rfl)).mono ?_
  rintro e w14 ⟨vI0, LI0, bI1, rfl, hRI, ownI0, hb14⟩
  have HRI := Lib.hid hRI
  clear hRI
  replace hcl := hcl.ext hb14
  replace E := Ext.trans E hb14
  replace ownW0 := ownsRow_ext ownW0 hb14
  replace rdW0 := rdW0.ext hb14
  replace ownH0 := ownsRow_ext ownH0 hb14
  replace ownhl := ownsRow_ext ownhl hb14
  clear hb14
  obtain ⟨aI0, cI0, rfl, rdI0⟩ := rd_of_owns encLck_len ownI0 rfl
  clear ownhl
  obtain ⟨rfl, rfl⟩ : LG0 = LI0 ∧ bG1 = bI1 := freeR_fun HRG.out HRI.out
  go_wp2_with fail
  refine (eqLckS_any _ _ _ _ _ _ _ hbound hbound rdI0 rdW0).mono ?_
  rintro e w15 ⟨q15, rfl, hq15, hb15⟩
  obtain rfl : q15 = true := hq15.2 rfl
  clear hq15
  replace hcl := hcl.ext hb15
  replace E := Ext.trans E hb15
  replace ownW0 := ownsRow_ext ownW0 hb15
  replace rdW0 := rdW0.ext hb15
  replace ownH0 := ownsRow_ext ownH0 hb15
  replace ownI0 := ownsRow_ext ownI0 hb15
  replace rdI0 := rdI0.ext hb15
  clear hb15
  go_wp2_with fail
  refine (heldLckS_any _ _ LG0.length _ _ hbound2 (by omega) (by omega) (rd_owns encLck_len ownH0 (by rw [marksLck_len]))).mono ?_
  rintro e w16 ⟨rfl, hb16⟩
  replace hcl := hcl.ext hb16
  replace E := Ext.trans E hb16
  replace ownW0 := ownsRow_ext ownW0 hb16
  replace rdW0 := rdW0.ext hb16
  replace ownH0 := ownsRow_ext ownH0 hb16
  replace ownI0 := ownsRow_ext ownI0 hb16
  replace rdI0 := rdI0.ext hb16
  clear hb16
  go_wp2
  go_ret
  exact RetB.mk true rfl (by simp) E
end Go.Proofs.Ytaofbdhljnhlnaa
