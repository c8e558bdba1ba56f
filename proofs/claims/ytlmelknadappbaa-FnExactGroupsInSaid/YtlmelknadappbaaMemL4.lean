/- FnExactGroupsIn: the walk. No condition but that the list is shorter than 2^63. -/
import Derived.Test.YtlmelknadappbaaMemH
import Derived.Test.YtlmelknadappbaaOwnCap
import Derived.Test.YtlmelknadappbaaIntM
namespace Go.Proofs.Ytlmelknadappbaa
open Go.RowKit

set_option maxRecDepth 10000 in
set_option maxHeartbeats 8000000 in
theorem exactGroupsIn_any (al : Option Addr) (capl : Nat) (l : List Mem) (hll : l.length ≤ 9223372036854775807) (s : Int) (w : World) (hcl : Rd 3 encMem w al l) :
    Calls Try.prog 9 #[.slice al l.length capl, .int .i64 s] w (RetB True w) := by
  go_enter Try.func9, Try.ntmps9
  have S := Sep.start w
  go_wp2_with fail
  refine (szMemS_any al capl l _ _ (by omega) (by omega) hll (hcl.ext S.ext)).mono ?_
  rintro e w1 ⟨r1, rfl, hra1, hrb1, hrc1, hE⟩
  have Hrc1 := Lib.hid hrc1
  clear hrc1
  replace S : Sep w w1 [] := S.step hE
  clear hE
  by_cases hneg1 : r1 < 0
  · go_wp2
    go_ret
    exact RetB.mk true rfl (by simp) S.ext
  have hlenl : l.length ≤ 1048576 := Hrc1.out (by omega)
  clear Hrc1
  go_wp2_with fail
  refine (toMemS_any al capl l _ hlenl (hcl.ext S.ext)).mono ?_
  rintro e w2 ⟨v2, rfl, ⟨ho, hv⟩, hE⟩
  obtain ⟨asl, csl, hv2, hksl, _, _⟩ := view_owns encMem_len ho
  subst hv2
  clear hv
  have T := Sep.of_owns hE ho
  clear hE ho
  replace S : Sep w w2 [plRow 33 3 encMem (.slice asl l.length csl) l] := S.call T
  clear T
  go_wp2_with fail
  refine (specGroupsIn _ _ l s _ (by omega) (S.rd 0 encMem_len rfl rfl)).mono ?_
  rintro e w3 ⟨uW0, LW0, rfl, hR, T⟩
  have HR := Lib.hid hR
  clear hR
  obtain ⟨aW0, cW0, hv2, hkW0, _, _⟩ := view_owns encInt1_len (T.row 0 rfl)
  subst hv2
  replace S : Sep w w3 [plRow 3 1 encInt1 (.slice aW0 LW0.length cW0) LW0, plRow 33 3 encMem (.slice asl l.length csl) l] := S.call T
  clear T
  have hb0 : LW0.length ≤ 1048576 := Nat.le_trans (groupsR_len HR.out) (by omega)
  replace S : Sep w w3 [plRow 3 1 encInt1 (.slice aW0 LW0.length cW0) LW0] := S.drop 1
  go_wp2_with fail
  refine (toMemS_any al capl l _ hlenl (hcl.ext S.ext)).mono ?_
  rintro e w4 ⟨v4, rfl, ⟨ho, hv⟩, hE⟩
  obtain ⟨axl, cxl, hv2, hkxl, _, _⟩ := view_owns encMem_len ho
  subst hv2
  clear hv
  have T := Sep.of_owns hE ho
  clear hE ho
  replace S : Sep w w4 [plRow 33 3 encMem (.slice axl l.length cxl) l, plRow 3 1 encInt1 (.slice aW0 LW0.length cW0) LW0] := S.call T
  clear T
  go_wp2_with fail
  refine (implGroupsIn _ _ l s _ (by omega) hkxl (S.rd 0 encMem_len rfl rfl)).mono ?_
  rintro e w5 ⟨uG0, LG0, rfl, hR, T⟩
  obtain rfl : LW0 = LG0 := groupsR_fun HR.out hR
  clear hR
  obtain ⟨aG0, cG0, hv2, hkG0, _, _⟩ := view_owns encInt1_len (T.row 0 rfl)
  subst hv2
  replace S : Sep w w5 [plRow 3 1 encInt1 (.slice aG0 LW0.length cG0) LW0, plRow 33 3 encMem (.slice axl l.length cxl) l, plRow 3 1 encInt1 (.slice aW0 LW0.length cW0) LW0] := S.call T
  clear T
  go_wp2_with fail
  refine (eqIntS_any _ _ _ _ LW0 LW0 _ (by omega) (by omega) (S.rd 0 encInt1_len rfl rfl) (S.rd 2 encInt1_len rfl rfl)).mono ?_
  rintro e w6 ⟨q6, rfl, hq, hE⟩
  obtain rfl : q6 = true := hq.2 rfl
  clear hq
  replace S : Sep w w6 [plRow 3 1 encInt1 (.slice aG0 LW0.length cG0) LW0, plRow 33 3 encMem (.slice axl l.length cxl) l, plRow 3 1 encInt1 (.slice aW0 LW0.length cW0) LW0] := S.step hE
  clear hE
  go_wp2_with fail
  refine (toMemS_any al capl l _ hlenl (hcl.ext S.ext)).mono ?_
  rintro e w7 ⟨v7, rfl, ⟨ho, hv⟩, hE⟩
  obtain ⟨atl, ctl, hv2, hktl, _, _⟩ := view_owns encMem_len ho
  subst hv2
  clear hv
  have T := Sep.of_owns hE ho
  clear hE ho
  replace S : Sep w w7 [plRow 33 3 encMem (.slice atl l.length ctl) l, plRow 3 1 encInt1 (.slice aG0 LW0.length cG0) LW0, plRow 33 3 encMem (.slice axl l.length cxl) l, plRow 3 1 encInt1 (.slice aW0 LW0.length cW0) LW0] := S.call T
  clear T
  go_wp2_with fail
  refine (eqMemS_any _ _ _ _ l l _ hll hll (S.rd 2 encMem_len rfl rfl) (S.rd 0 encMem_len rfl rfl)).mono ?_
  rintro e w8 ⟨q8, rfl, hq, hE⟩
  obtain rfl : q8 = true := hq.2 rfl
  clear hq
  replace S : Sep w w8 [plRow 33 3 encMem (.slice atl l.length ctl) l, plRow 3 1 encInt1 (.slice aG0 LW0.length cG0) LW0, plRow 33 3 encMem (.slice axl l.length cxl) l, plRow 3 1 encInt1 (.slice aW0 LW0.length cW0) LW0] := S.step hE
  clear hE
  replace S : Sep w w8 [plRow 3 1 encInt1 (.slice aG0 LW0.length cG0) LW0, plRow 33 3 encMem (.slice axl l.length cxl) l, plRow 3 1 encInt1 (.slice aW0 LW0.length cW0) LW0] := S.drop 0
  go_wp2_with fail
  refine (markMemS_own _ _ _ l _ _ rfl hlenl (by omega) (by omega) (S.row 1 rfl)).mono ?_
  rintro e w9 ⟨rfl, hq, hg⟩
  replace hq := (show w9.ownsRow _ 33 3 _ (marksMem l.length (1)).length ((marksMem l.length (1)).flatMap encMem) from by rw [marksMem_len]; exact hq)
  replace S : Sep w w9 [plRow 3 1 encInt1 (.slice aG0 LW0.length cG0) LW0, plRow 33 3 encMem (.slice axl l.length cxl) (marksMem l.length (1)), plRow 3 1 encInt1 (.slice aW0 LW0.length cW0) LW0] := S.grow 1 rfl hg hq (fun b h => .inl h)
  clear hq hg
  have kneg : ∀ n : Nat, ¬ (1 + (n : Int) < 0) := fun n => by omega
  clear kneg
  go_wp2_with fail
  refine (eqIntS_any _ _ _ _ LW0 LW0 _ (by omega) (by omega) (S.rd 0 encInt1_len rfl rfl) (S.rd 2 encInt1_len rfl rfl)).mono ?_
  rintro e w10 ⟨q10, rfl, hq, hE⟩
  obtain rfl : q10 = true := hq.2 rfl
  clear hq
  replace S : Sep w w10 [plRow 3 1 encInt1 (.slice aG0 LW0.length cG0) LW0, plRow 33 3 encMem (.slice axl l.length cxl) (marksMem l.length (1)), plRow 3 1 encInt1 (.slice aW0 LW0.length cW0) LW0] := S.step hE
  clear hE
  have hLW0 := hb0
  go_wp2_with fail
  refine (markIntS_own _ _ _ LW0 _ _ rfl hLW0 (by omega) (by omega) (S.row 0 rfl)).mono ?_
  rintro e w11 ⟨rfl, hq, hg⟩
  replace hq := (show w11.ownsRow _ 3 1 _ (marksInt LW0.length (1)).length ((marksInt LW0.length (1)).flatMap encInt1) from by rw [marksInt_len]; exact hq)
  replace S : Sep w w11 [plRow 3 1 encInt1 (.slice aG0 LW0.length cG0) (marksInt LW0.length (1)), plRow 33 3 encMem (.slice axl l.length cxl) (marksMem l.length (1)), plRow 3 1 encInt1 (.slice aW0 LW0.length cW0) LW0] := S.grow 0 rfl hg hq (fun b h => .inl h)
  clear hq hg
  go_wp2_with fail
  refine (heldIntS_any _ _ LW0.length (1) _ hb0 (by omega) (by omega) (S.rd 0 encInt1_len rfl (by rw [marksInt_len]))).mono ?_
  rintro e w12 ⟨rfl, hE⟩
  replace S : Sep w w12 [plRow 3 1 encInt1 (.slice aG0 LW0.length cG0) (marksInt LW0.length (1)), plRow 33 3 encMem (.slice axl l.length cxl) (marksMem l.length (1)), plRow 3 1 encInt1 (.slice aW0 LW0.length cW0) LW0] := S.step hE
  clear hE
  go_wp2_with fail
  refine (toMemS_any al capl l _ hlenl (hcl.ext S.ext)).mono ?_
  rintro e w13 ⟨v13, rfl, ⟨ho, hv⟩, hE⟩
  obtain ⟨asl, csl, hv2, hksl, _, _⟩ := view_owns encMem_len ho
  subst hv2
  clear hv
  have T := Sep.of_owns hE ho
  clear hE ho
  replace S : Sep w w13 [plRow 33 3 encMem (.slice asl l.length csl) l, plRow 3 1 encInt1 (.slice aG0 LW0.length cG0) (marksInt LW0.length (1)), plRow 33 3 encMem (.slice axl l.length cxl) (marksMem l.length (1)), plRow 3 1 encInt1 (.slice aW0 LW0.length cW0) LW0] := S.call T
  clear T
  go_wp2_with fail
  refine (implGroupsIn _ _ l s _ (by omega) hksl (S.rd 0 encMem_len rfl rfl)).mono ?_
  rintro e w14 ⟨uI0, LI0, rfl, hR, T⟩
  obtain rfl : LW0 = LI0 := groupsR_fun HR.out hR
  clear hR
  obtain ⟨aI0, cI0, hv2, hkI0, _, _⟩ := view_owns encInt1_len (T.row 0 rfl)
  subst hv2
  replace S : Sep w w14 [plRow 3 1 encInt1 (.slice aI0 LW0.length cI0) LW0, plRow 33 3 encMem (.slice asl l.length csl) l, plRow 3 1 encInt1 (.slice aG0 LW0.length cG0) (marksInt LW0.length (1)), plRow 33 3 encMem (.slice axl l.length cxl) (marksMem l.length (1)), plRow 3 1 encInt1 (.slice aW0 LW0.length cW0) LW0] := S.call T
  clear T
  replace S : Sep w w14 [plRow 3 1 encInt1 (.slice aI0 LW0.length cI0) LW0, plRow 3 1 encInt1 (.slice aG0 LW0.length cG0) (marksInt LW0.length (1)), plRow 33 3 encMem (.slice axl l.length cxl) (marksMem l.length (1)), plRow 3 1 encInt1 (.slice aW0 LW0.length cW0) LW0] := S.drop 1
  go_wp2_with fail
  refine (eqIntS_any _ _ _ _ LW0 LW0 _ (by omega) (by omega) (S.rd 0 encInt1_len rfl rfl) (S.rd 3 encInt1_len rfl rfl)).mono ?_
  rintro e w15 ⟨q15, rfl, hq, hE⟩
  obtain rfl : q15 = true := hq.2 rfl
  clear hq
  replace S : Sep w w15 [plRow 3 1 encInt1 (.slice aI0 LW0.length cI0) LW0, plRow 3 1 encInt1 (.slice aG0 LW0.length cG0) (marksInt LW0.length (1)), plRow 33 3 encMem (.slice axl l.length cxl) (marksMem l.length (1)), plRow 3 1 encInt1 (.slice aW0 LW0.length cW0) LW0] := S.step hE
  clear hE
  go_wp2_with fail
  refine (heldIntS_any _ _ LW0.length (1) _ hb0 (by omega) (by omega) (S.rd 1 encInt1_len rfl (by rw [marksInt_len]))).mono ?_
  rintro e w16 ⟨rfl, hE⟩
  replace S : Sep w w16 [plRow 3 1 encInt1 (.slice aI0 LW0.length cI0) LW0, plRow 3 1 encInt1 (.slice aG0 LW0.length cG0) (marksInt LW0.length (1)), plRow 33 3 encMem (.slice axl l.length cxl) (marksMem l.length (1)), plRow 3 1 encInt1 (.slice aW0 LW0.length cW0) LW0] := S.step hE
  clear hE
  go_wp2
  go_ret
  exact RetB.mk true rfl (by simp) S.ext
end Go.Proofs.Ytlmelknadappbaa
