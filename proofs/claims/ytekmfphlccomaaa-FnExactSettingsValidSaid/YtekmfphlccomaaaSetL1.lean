/- FnExactSettingsValid: the walk. No condition but that the list and its texts are shorter than 2^63. -/
import Derived.Test.YtekmfphlccomaaaSetI
namespace Go.Proofs.Ytekmfphlccomaaa
open Go.RowKit

set_option maxHeartbeats 4000000 in
theorem exactSettingsValid_any (al : Option Addr) (capl : Nat) (l : List Set) (hll : l.length ≤ 9223372036854775807) (hsl : ∀ x ∈ l, x.name.size ≤ 9223372036854775807 ∧ x.text.size ≤ 9223372036854775807) (w : World) (hcl : Rd 2 encSet w al l) :
    Calls Try.prog 3 #[.slice al l.length capl] w (RetB True w) := by
  go_enter Try.func3, Try.ntmps3
  have hcwl := hcl
  go_wp2_with fail
  have E : Ext w _ := (Ext.refl w)
  replace hcl := hcl.ext E
  refine (szSetS_any al capl l _ _ (by omega) (by omega) hll hsl hcl).mono ?_
  rintro e w1 ⟨r1, rfl, hra1, hrb1, hrc1, hb1⟩
  have Hrc1 := Lib.hid hrc1
  clear hrc1
  replace hcl := hcl.ext hb1
  replace E := Ext.trans E hb1
  clear hb1
  by_cases hneg1 : r1 < 0
  · go_wp2
    go_ret
    exact RetB.mk true rfl (by simp) E
  have hlenl : l.length ≤ 1048576 := (Hrc1.out (by omega)).1
  have hszl := (Hrc1.out (by omega)).2
  go_wp2_with fail
  refine (toSetS_any al capl l _ hlenl hcl).mono ?_
  rintro e w2 ⟨v2, rfl, ⟨ownsl, rfl⟩, hb2⟩
  replace hcl := hcl.ext hb2
  replace E := Ext.trans E hb2
  clear hb2
  go_wp2_with fail
  refine (specSettingsValid _ _ l _ hll hsl (rd_owns encSet_len ownsl rfl)).mono ?_
  rintro e w3 ⟨bW, rfl, hRW, hb3⟩
  have HRW := Lib.hid hRW
  clear hRW
  replace hcl := hcl.ext hb3
  replace E := Ext.trans E hb3
  replace ownsl := ownsRow_ext ownsl hb3
  clear hb3
  clear ownsl
  go_wp2_with fail
  refine (toSetS_any al capl l _ hlenl hcl).mono ?_
  rintro e w4 ⟨v4, rfl, ⟨ownxl, rfl⟩, hb4⟩
  have gxl := (World.ownsRow.lt ownxl _ rfl).2
  replace hcl := hcl.ext hb4
  replace E := Ext.trans E hb4
  clear hb4
  go_wp2_with fail
  refine (implSettingsValid _ _ l _ hll hsl (rd_owns encSet_len ownxl rfl)).mono ?_
  rintro e w5 ⟨bG, rfl, hRG, hb5⟩
  have HRG := Lib.hid hRG
  clear hRG
  replace hcl := hcl.ext hb5
  replace E := Ext.trans E hb5
  replace ownxl := ownsRow_ext ownxl hb5
  clear hb5
  obtain rfl : bG = bW := Bool.eq_iff_iff.2 (HRG.out.trans HRW.out.symm)
  go_wp2_with fail
  refine (toSetS_any al capl l _ hlenl hcl).mono ?_
  rintro e w6 ⟨v6, rfl, ⟨ownt6, rfl⟩, hb6⟩
  replace hcl := hcl.ext hb6
  replace E := Ext.trans E hb6
  replace ownxl := ownsRow_ext ownxl hb6
  clear hb6
  go_wp2_with fail
  refine (eqSetS_any _ _ _ _ l l _ hll hll (rd_owns encSet_len ownxl rfl) (rd_owns encSet_len ownt6 rfl)).mono ?_
  rintro e w7 ⟨q7, rfl, hq7, hb7⟩
  obtain rfl : q7 = true := hq7.2 rfl
  clear hq7 ownt6
  replace hcl := hcl.ext hb7
  replace E := Ext.trans E hb7
  replace ownxl := ownsRow_ext ownxl hb7
  clear hb7
  go_wp2
  go_ret
  exact RetB.mk true rfl (by simp) E
end Go.Proofs.Ytekmfphlccomaaa
