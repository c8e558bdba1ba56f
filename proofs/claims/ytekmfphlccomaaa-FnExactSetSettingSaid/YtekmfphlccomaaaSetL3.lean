/- FnExactSetSetting: the walk. No condition but that the list and its texts are shorter than 2^63. -/
import Derived.Test.YtekmfphlccomaaaSetQ
namespace Go.Proofs.Ytekmfphlccomaaa
open Go.RowKit

set_option maxRecDepth 10000 in
set_option maxHeartbeats 8000000 in
theorem exactSetSetting_any (al : Option Addr) (capl : Nat) (l : List Set) (hll : l.length ≤ 9223372036854775807) (hsl : ∀ x ∈ l, x.name.size ≤ 9223372036854775807 ∧ x.text.size ≤ 9223372036854775807) (nm : ByteArray) (hsnm : nm.size ≤ 9223372036854775807) (tx : ByteArray) (hstx : tx.size ≤ 9223372036854775807) (w : World) (hcl : Rd 2 encSet w al l) :
    Calls Try.prog 7 #[.slice al l.length capl, .string nm, .string tx] w (RetB True w) := by
  go_enter Try.func7, Try.ntmps7
  have S := Sep.start w
  by_cases hbignm : 1048576 < nm.size
  · go_wp2
    go_ret
    exact RetB.mk true rfl (by simp) (by first | exact Ext.refl _ | exact (Ext.refl _).alloc _)
  by_cases hbigtx : 1048576 < tx.size
  · go_wp2
    go_ret
    exact RetB.mk true rfl (by simp) (by first | exact Ext.refl _ | exact (Ext.refl _).alloc _)
  go_wp2_with fail
  refine (szSetS_any al capl l _ _ (by omega) (by omega) hll hsl (hcl.ext S.ext)).mono ?_
  rintro e w1 ⟨r1, rfl, hra1, hrb1, hrc1, hE⟩
  have Hrc1 := Lib.hid hrc1
  clear hrc1
  replace S : Sep w w1 [] := S.step hE
  clear hE
  by_cases hneg1 : r1 < 0
  · go_wp2
    go_ret
    exact RetB.mk true rfl (by simp) S.ext
  have hlenl : l.length ≤ 1048576 := (Hrc1.out (by omega)).1
  have hszl := (Hrc1.out (by omega)).2
  clear Hrc1
  go_wp2_with fail
  refine (toSetS_any al capl l _ hlenl (hcl.ext S.ext)).mono ?_
  rintro e w2 ⟨v2, rfl, ⟨ho, hv⟩, hE⟩
  obtain ⟨asl, csl, hv2, hksl, _, _⟩ := view_owns encSet_len ho
  subst hv2
  clear hv
  have T := Sep.of_owns hE ho
  clear hE ho
  replace S : Sep w w2 [plRow 33 2 encSet (.slice asl l.length csl) l] := S.call T
  clear T
  go_wp2_with fail
  refine (specSetSettingS _ _ l nm tx _ hll hsl (by omega) (by omega) hksl (owns_shape encSet_len (S.row 0 rfl)) (S.rd 0 encSet_len rfl rfl)).mono ?_
  rintro e w3 ⟨uW0, LW0, yW1, rfl, hR, T⟩
  have HR := Lib.hid hR
  clear hR
  obtain ⟨aW0, cW0, hv2, hkW0, _, _⟩ := view_owns encSet_len (T.row 0 rfl)
  subst hv2
  replace S : Sep w w3 [plRow 33 2 encSet (.slice aW0 LW0.length cW0) LW0, plRow 33 2 encSet (.slice asl l.length csl) l] := S.call T
  clear T
  have hb0 : LW0.length ≤ 1048576 := Nat.le_trans (setSR_len HR.out) (by omega)
  replace S : Sep w w3 [plRow 33 2 encSet (.slice aW0 LW0.length cW0) LW0] := S.drop 1
  go_wp2_with fail
  refine (toSetS_any al capl l _ hlenl (hcl.ext S.ext)).mono ?_
  rintro e w4 ⟨v4, rfl, ⟨ho, hv⟩, hE⟩
  obtain ⟨axl, cxl, hv2, hkxl, _, _⟩ := view_owns encSet_len ho
  subst hv2
  clear hv
  have T := Sep.of_owns hE ho
  clear hE ho
  replace S : Sep w w4 [plRow 33 2 encSet (.slice axl l.length cxl) l, plRow 33 2 encSet (.slice aW0 LW0.length cW0) LW0] := S.call T
  clear T
  go_wp2_with fail
  refine (implSetSetting _ _ l nm tx _ hll hsl (by omega) (by omega) (S.rd 0 encSet_len rfl rfl)).mono ?_
  rintro e w5 ⟨uG0, LG0, yG1, rfl, hR, T⟩
  obtain ⟨rfl, rfl⟩ : LW0 = LG0 ∧ yW1 = yG1 := setSR_fun HR.out hR
  clear hR
  obtain ⟨aG0, cG0, hv2, hkG0, _, _⟩ := view_owns encSet_len (T.row 0 rfl)
  subst hv2
  replace S : Sep w w5 [plRow 33 2 encSet (.slice aG0 LW0.length cG0) LW0, plRow 33 2 encSet (.slice axl l.length cxl) l, plRow 33 2 encSet (.slice aW0 LW0.length cW0) LW0] := S.call T
  clear T
  have t1 : (yW1 != yW1) = false := by simp
  go_wp2_with fail
  refine (eqSetS_any _ _ _ _ LW0 LW0 _ (by omega) (by omega) (S.rd 0 encSet_len rfl rfl) (S.rd 2 encSet_len rfl rfl)).mono ?_
  rintro e w6 ⟨q6, rfl, hq, hE⟩
  obtain rfl : q6 = true := hq.2 rfl
  clear hq
  replace S : Sep w w6 [plRow 33 2 encSet (.slice aG0 LW0.length cG0) LW0, plRow 33 2 encSet (.slice axl l.length cxl) l, plRow 33 2 encSet (.slice aW0 LW0.length cW0) LW0] := S.step hE
  clear hE
  go_wp2_with fail
  refine (toSetS_any al capl l _ hlenl (hcl.ext S.ext)).mono ?_
  rintro e w7 ⟨v7, rfl, ⟨ho, hv⟩, hE⟩
  obtain ⟨atl, ctl, hv2, hktl, _, _⟩ := view_owns encSet_len ho
  subst hv2
  clear hv
  have T := Sep.of_owns hE ho
  clear hE ho
  replace S : Sep w w7 [plRow 33 2 encSet (.slice atl l.length ctl) l, plRow 33 2 encSet (.slice aG0 LW0.length cG0) LW0, plRow 33 2 encSet (.slice axl l.length cxl) l, plRow 33 2 encSet (.slice aW0 LW0.length cW0) LW0] := S.call T
  clear T
  go_wp2_with fail
  refine (eqSetS_any _ _ _ _ l l _ hll hll (S.rd 2 encSet_len rfl rfl) (S.rd 0 encSet_len rfl rfl)).mono ?_
  rintro e w8 ⟨q8, rfl, hq, hE⟩
  obtain rfl : q8 = true := hq.2 rfl
  clear hq
  replace S : Sep w w8 [plRow 33 2 encSet (.slice atl l.length ctl) l, plRow 33 2 encSet (.slice aG0 LW0.length cG0) LW0, plRow 33 2 encSet (.slice axl l.length cxl) l, plRow 33 2 encSet (.slice aW0 LW0.length cW0) LW0] := S.step hE
  clear hE
  replace S : Sep w w8 [plRow 33 2 encSet (.slice aG0 LW0.length cG0) LW0, plRow 33 2 encSet (.slice axl l.length cxl) l, plRow 33 2 encSet (.slice aW0 LW0.length cW0) LW0] := S.drop 0
  go_wp2_with fail
  refine (markSetS_own _ _ _ l _ _ rfl hlenl (by omega) (by omega) (S.row 1 rfl)).mono ?_
  rintro e w9 ⟨rfl, hq, hg⟩
  replace hq := (show w9.ownsRow _ 33 2 _ (marksSet l.length (1)).length ((marksSet l.length (1)).flatMap encSet) from by rw [marksSet_len]; exact hq)
  replace S : Sep w w9 [plRow 33 2 encSet (.slice aG0 LW0.length cG0) LW0, plRow 33 2 encSet (.slice axl l.length cxl) (marksSet l.length (1)), plRow 33 2 encSet (.slice aW0 LW0.length cW0) LW0] := S.grow 1 rfl hg hq (fun b h => .inl h)
  clear hq hg
  have kneg : ∀ n : Nat, ¬ (1 + (n : Int) < 0) := fun n => by omega
  clear kneg
  go_wp2_with fail
  refine (eqSetS_any _ _ _ _ LW0 LW0 _ (by omega) (by omega) (S.rd 0 encSet_len rfl rfl) (S.rd 2 encSet_len rfl rfl)).mono ?_
  rintro e w10 ⟨q10, rfl, hq, hE⟩
  obtain rfl : q10 = true := hq.2 rfl
  clear hq
  replace S : Sep w w10 [plRow 33 2 encSet (.slice aG0 LW0.length cG0) LW0, plRow 33 2 encSet (.slice axl l.length cxl) (marksSet l.length (1)), plRow 33 2 encSet (.slice aW0 LW0.length cW0) LW0] := S.step hE
  clear hE
  have hLW0 := hb0
  go_wp2_with fail
  refine (markSetS_own _ _ _ LW0 _ _ rfl hLW0 (by omega) (by omega) (S.row 0 rfl)).mono ?_
  rintro e w11 ⟨rfl, hq, hg⟩
  replace hq := (show w11.ownsRow _ 33 2 _ (marksSet LW0.length (1)).length ((marksSet LW0.length (1)).flatMap encSet) from by rw [marksSet_len]; exact hq)
  replace S : Sep w w11 [plRow 33 2 encSet (.slice aG0 LW0.length cG0) (marksSet LW0.length (1)), plRow 33 2 encSet (.slice axl l.length cxl) (marksSet l.length (1)), plRow 33 2 encSet (.slice aW0 LW0.length cW0) LW0] := S.grow 0 rfl hg hq (fun b h => .inl h)
  clear hq hg
  go_wp2_with fail
  refine (heldSetS_any _ _ LW0.length (1) _ hb0 (by omega) (by omega) (S.rd 0 encSet_len rfl (by rw [marksSet_len]))).mono ?_
  rintro e w12 ⟨rfl, hE⟩
  replace S : Sep w w12 [plRow 33 2 encSet (.slice aG0 LW0.length cG0) (marksSet LW0.length (1)), plRow 33 2 encSet (.slice axl l.length cxl) (marksSet l.length (1)), plRow 33 2 encSet (.slice aW0 LW0.length cW0) LW0] := S.step hE
  clear hE
  go_wp2_with fail
  refine (toSetS_any al capl l _ hlenl (hcl.ext S.ext)).mono ?_
  rintro e w13 ⟨v13, rfl, ⟨ho, hv⟩, hE⟩
  obtain ⟨asl, csl, hv2, hksl, _, _⟩ := view_owns encSet_len ho
  subst hv2
  clear hv
  have T := Sep.of_owns hE ho
  clear hE ho
  replace S : Sep w w13 [plRow 33 2 encSet (.slice asl l.length csl) l, plRow 33 2 encSet (.slice aG0 LW0.length cG0) (marksSet LW0.length (1)), plRow 33 2 encSet (.slice axl l.length cxl) (marksSet l.length (1)), plRow 33 2 encSet (.slice aW0 LW0.length cW0) LW0] := S.call T
  clear T
  go_wp2_with fail
  refine (implSetSetting _ _ l nm tx _ hll hsl (by omega) (by omega) (S.rd 0 encSet_len rfl rfl)).mono ?_
  rintro e w14 ⟨uI0, LI0, yI1, rfl, hR, T⟩
  obtain ⟨rfl, rfl⟩ : LW0 = LI0 ∧ yW1 = yI1 := setSR_fun HR.out hR
  clear hR
  obtain ⟨aI0, cI0, hv2, hkI0, _, _⟩ := view_owns encSet_len (T.row 0 rfl)
  subst hv2
  replace S : Sep w w14 [plRow 33 2 encSet (.slice aI0 LW0.length cI0) LW0, plRow 33 2 encSet (.slice asl l.length csl) l, plRow 33 2 encSet (.slice aG0 LW0.length cG0) (marksSet LW0.length (1)), plRow 33 2 encSet (.slice axl l.length cxl) (marksSet l.length (1)), plRow 33 2 encSet (.slice aW0 LW0.length cW0) LW0] := S.call T
  clear T
  replace S : Sep w w14 [plRow 33 2 encSet (.slice aI0 LW0.length cI0) LW0, plRow 33 2 encSet (.slice aG0 LW0.length cG0) (marksSet LW0.length (1)), plRow 33 2 encSet (.slice axl l.length cxl) (marksSet l.length (1)), plRow 33 2 encSet (.slice aW0 LW0.length cW0) LW0] := S.drop 1
  go_wp2_with fail
  refine (eqSetS_any _ _ _ _ LW0 LW0 _ (by omega) (by omega) (S.rd 0 encSet_len rfl rfl) (S.rd 3 encSet_len rfl rfl)).mono ?_
  rintro e w15 ⟨q15, rfl, hq, hE⟩
  obtain rfl : q15 = true := hq.2 rfl
  clear hq
  replace S : Sep w w15 [plRow 33 2 encSet (.slice aI0 LW0.length cI0) LW0, plRow 33 2 encSet (.slice aG0 LW0.length cG0) (marksSet LW0.length (1)), plRow 33 2 encSet (.slice axl l.length cxl) (marksSet l.length (1)), plRow 33 2 encSet (.slice aW0 LW0.length cW0) LW0] := S.step hE
  clear hE
  go_wp2_with fail
  refine (heldSetS_any _ _ LW0.length (1) _ hb0 (by omega) (by omega) (S.rd 1 encSet_len rfl (by rw [marksSet_len]))).mono ?_
  rintro e w16 ⟨rfl, hE⟩
  replace S : Sep w w16 [plRow 33 2 encSet (.slice aI0 LW0.length cI0) LW0, plRow 33 2 encSet (.slice aG0 LW0.length cG0) (marksSet LW0.length (1)), plRow 33 2 encSet (.slice axl l.length cxl) (marksSet l.length (1)), plRow 33 2 encSet (.slice aW0 LW0.length cW0) LW0] := S.step hE
  clear hE
  go_wp2
  go_ret
  exact RetB.mk true rfl (by simp) S.ext
end Go.Proofs.Ytekmfphlccomaaa
