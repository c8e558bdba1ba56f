/- FnExactEndTimers: the walk. No condition but that the list is shorter than 2^63. -/
import Derived.Test.YtgjadebohneioaaTimH
import Derived.Test.YtgjadebohneioaaOwnCap
import Derived.Test.YtgjadebohneioaaIntM
namespace Go.Proofs.Ytgjadebohneioaa
open Go.RowKit

set_option maxRecDepth 10000 in
set_option maxHeartbeats 8000000 in
theorem exactEndTimers_any (al : Option Addr) (capl : Nat) (l : List Tim) (hll : l.length ≤ 9223372036854775807) (now : Int) (w : World) (hcl : Rd 3 encTim w al l) :
    Calls Try.prog 6 #[.slice al l.length capl, .int .i64 now] w (RetB True w) := by
  go_enter Try.func6, Try.ntmps6
  have S := Sep.start w
  go_wp2_with fail
  refine (szTimS_any al capl l _ _ (by omega) (by omega) hll (hcl.ext S.ext)).mono ?_
  rintro e w1 ⟨r1, rfl, hra1, hrb1, hrc1, hE⟩
  have Hrc1 := Lib.hid hrc1
  clear hrc1
  replace S : Sep w w1 [] := S.step hE
  clear hE
  by_cases hneg1 : r1 < 0
  · go_wp2
    go_ret
    exact RetB.mk true rfl (by simp) S.ext
  have hlenl : l.length ≤ 1048576 := Hrc1.out (by omega)
  clear Hrc1
  go_wp2_with fail
  refine (toTimS_any al capl l _ hlenl (hcl.ext S.ext)).mono ?_
  rintro e w2 ⟨v2, rfl, ⟨ho, hv⟩, hE⟩
  obtain ⟨asl, csl, hv2, hksl, _, _⟩ := view_owns encTim_len ho
  subst hv2
  clear hv
  have T := Sep.of_owns hE ho
  clear hE ho
  replace S : Sep w w2 [plRow 30 3 encTim (.slice asl l.length csl) l] := S.call T
  clear T
  go_wp2_with fail
  refine (specEndTimers _ _ l now _ (by omega) (S.rd 0 encTim_len rfl rfl)).mono ?_
  rintro e w3 ⟨uW0, LW0, uW1, LW1, rfl, hR, T⟩
  have HR := Lib.hid hR
  clear hR
  obtain ⟨aW0, cW0, hv2, hkW0, _, _⟩ := view_owns encTim_len (T.row 0 rfl)
  subst hv2
  obtain ⟨aW1, cW1, hv2, hkW1, _, _⟩ := view_owns encInt1_len (T.row 1 rfl)
  subst hv2
  replace S : Sep w w3 [plRow 30 3 encTim (.slice aW0 LW0.length cW0) LW0, plRow 3 1 encInt1 (.slice aW1 LW1.length cW1) LW1, plRow 30 3 encTim (.slice asl l.length csl) l] := S.call T
  clear T
  have hb0 : LW0.length ≤ 1048576 := Nat.le_trans (endsR_len HR.out).1 (by omega)
  have hb1 : LW1.length ≤ 1048576 := Nat.le_trans (endsR_len HR.out).2 (by omega)
  replace S : Sep w w3 [plRow 30 3 encTim (.slice aW0 LW0.length cW0) LW0, plRow 3 1 encInt1 (.slice aW1 LW1.length cW1) LW1] := S.drop 2
  go_wp2_with fail
  refine (toTimS_any al capl l _ hlenl (hcl.ext S.ext)).mono ?_
  rintro e w4 ⟨v4, rfl, ⟨ho, hv⟩, hE⟩
  obtain ⟨axl, cxl, hv2, hkxl, _, _⟩ := view_owns encTim_len ho
  subst hv2
  clear hv
  have T := Sep.of_owns hE ho
  clear hE ho
  replace S : Sep w w4 [plRow 30 3 encTim (.slice axl l.length cxl) l, plRow 30 3 encTim (.slice aW0 LW0.length cW0) LW0, plRow 3 1 encInt1 (.slice aW1 LW1.length cW1) LW1] := S.call T
  clear T
  go_wp2_with fail
  refine (implEndTimers _ _ l now _ (by omega) (S.rd 0 encTim_len rfl rfl)).mono ?_
  rintro e w5 ⟨uG0, LG0, uG1, LG1, rfl, hR, T⟩
  obtain ⟨rfl, rfl⟩ : LW0 = LG0 ∧ LW1 = LG1 := endsR_fun HR.out hR
  clear hR
  obtain ⟨aG0, cG0, hv2, hkG0, _, _⟩ := view_owns encTim_len (T.row 0 rfl)
  subst hv2
  obtain ⟨aG1, cG1, hv2, hkG1, _, _⟩ := view_owns encInt1_len (T.row 1 rfl)
  subst hv2
  replace S : Sep w w5 [plRow 30 3 encTim (.slice aG0 LW0.length cG0) LW0, plRow 3 1 encInt1 (.slice aG1 LW1.length cG1) LW1, plRow 30 3 encTim (.slice axl l.length cxl) l, plRow 30 3 encTim (.slice aW0 LW0.length cW0) LW0, plRow 3 1 encInt1 (.slice aW1 LW1.length cW1) LW1] := S.call T
  clear T
  go_wp2_with fail
  refine (eqTimS_any _ _ _ _ LW0 LW0 _ (by omega) (by omega) (S.rd 0 encTim_len rfl rfl) (S.rd 3 encTim_len rfl rfl)).mono ?_
  rintro e w6 ⟨q6, rfl, hq, hE⟩
  obtain rfl : q6 = true := hq.2 rfl
  clear hq
  replace S : Sep w w6 [plRow 30 3 encTim (.slice aG0 LW0.length cG0) LW0, plRow 3 1 encInt1 (.slice aG1 LW1.length cG1) LW1, plRow 30 3 encTim (.slice axl l.length cxl) l, plRow 30 3 encTim (.slice aW0 LW0.length cW0) LW0, plRow 3 1 encInt1 (.slice aW1 LW1.length cW1) LW1] := S.step hE
  clear hE
  go_wp2_with fail
  refine (eqIntS_any _ _ _ _ LW1 LW1 _ (by omega) (by omega) (S.rd 1 encInt1_len rfl rfl) (S.rd 4 encInt1_len rfl rfl)).mono ?_
  rintro e w7 ⟨q7, rfl, hq, hE⟩
  obtain rfl : q7 = true := hq.2 rfl
  clear hq
  replace S : Sep w w7 [plRow 30 3 encTim (.slice aG0 LW0.length cG0) LW0, plRow 3 1 encInt1 (.slice aG1 LW1.length cG1) LW1, plRow 30 3 encTim (.slice axl l.length cxl) l, plRow 30 3 encTim (.slice aW0 LW0.length cW0) LW0, plRow 3 1 encInt1 (.slice aW1 LW1.length cW1) LW1] := S.step hE
  clear hE
  go_wp2_with fail
  refine (toTimS_any al capl l _ hlenl (hcl.ext S.ext)).mono ?_
  rintro e w8 ⟨v8, rfl, ⟨ho, hv⟩, hE⟩
  obtain ⟨atl, ctl, hv2, hktl, _, _⟩ := view_owns encTim_len ho
  subst hv2
  clear hv
  have T := Sep.of_owns hE ho
  clear hE ho
  replace S : Sep w w8 [plRow 30 3 encTim (.slice atl l.length ctl) l, plRow 30 3 encTim (.slice aG0 LW0.length cG0) LW0, plRow 3 1 encInt1 (.slice aG1 LW1.length cG1) LW1, plRow 30 3 encTim (.slice axl l.length cxl) l, plRow 30 3 encTim (.slice aW0 LW0.length cW0) LW0, plRow 3 1 encInt1 (.slice aW1 LW1.length cW1) LW1] := S.call T
  clear T
  go_wp2_with fail
  refine (eqTimS_any _ _ _ _ l l _ hll hll (S.rd 3 encTim_len rfl rfl) (S.rd 0 encTim_len rfl rfl)).mono ?_
  rintro e w9 ⟨q9, rfl, hq, hE⟩
  obtain rfl : q9 = true := hq.2 rfl
  clear hq
  replace S : Sep w w9 [plRow 30 3 encTim (.slice atl l.length ctl) l, plRow 30 3 encTim (.slice aG0 LW0.length cG0) LW0, plRow 3 1 encInt1 (.slice aG1 LW1.length cG1) LW1, plRow 30 3 encTim (.slice axl l.length cxl) l, plRow 30 3 encTim (.slice aW0 LW0.length cW0) LW0, plRow 3 1 encInt1 (.slice aW1 LW1.length cW1) LW1] := S.step hE
  clear hE
  replace S : Sep w w9 [plRow 30 3 encTim (.slice aG0 LW0.length cG0) LW0, plRow 3 1 encInt1 (.slice aG1 LW1.length cG1) LW1, plRow 30 3 encTim (.slice axl l.length cxl) l, plRow 30 3 encTim (.slice aW0 LW0.length cW0) LW0, plRow 3 1 encInt1 (.slice aW1 LW1.length cW1) LW1] := S.drop 0
  go_wp2_with fail
  refine (markTimS_own _ _ _ l _ _ rfl hlenl (by omega) (by omega) (S.row 2 rfl)).mono ?_
  rintro e w10 ⟨rfl, hq, hg⟩
  replace hq := (show w10.ownsRow _ 30 3 _ (marksTim l.length (1)).length ((marksTim l.length (1)).flatMap encTim) from by rw [marksTim_len]; exact hq)
  replace S : Sep w w10 [plRow 30 3 encTim (.slice aG0 LW0.length cG0) LW0, plRow 3 1 encInt1 (.slice aG1 LW1.length cG1) LW1, plRow 30 3 encTim (.slice axl l.length cxl) (marksTim l.length (1)), plRow 30 3 encTim (.slice aW0 LW0.length cW0) LW0, plRow 3 1 encInt1 (.slice aW1 LW1.length cW1) LW1] := S.grow 2 rfl hg hq (fun b h => .inl h)
  clear hq hg
  have kneg : ∀ n : Nat, ¬ (1 + (n : Int) < 0) := fun n => by omega
  clear kneg
  go_wp2_with fail
  refine (eqTimS_any _ _ _ _ LW0 LW0 _ (by omega) (by omega) (S.rd 0 encTim_len rfl rfl) (S.rd 3 encTim_len rfl rfl)).mono ?_
  rintro e w11 ⟨q11, rfl, hq, hE⟩
  obtain rfl : q11 = true := hq.2 rfl
  clear hq
  replace S : Sep w w11 [plRow 30 3 encTim (.slice aG0 LW0.length cG0) LW0, plRow 3 1 encInt1 (.slice aG1 LW1.length cG1) LW1, plRow 30 3 encTim (.slice axl l.length cxl) (marksTim l.length (1)), plRow 30 3 encTim (.slice aW0 LW0.length cW0) LW0, plRow 3 1 encInt1 (.slice aW1 LW1.length cW1) LW1] := S.step hE
  clear hE
  go_wp2_with fail
  refine (eqIntS_any _ _ _ _ LW1 LW1 _ (by omega) (by omega) (S.rd 1 encInt1_len rfl rfl) (S.rd 4 encInt1_len rfl rfl)).mono ?_
  rintro e w12 ⟨q12, rfl, hq, hE⟩
  obtain rfl : q12 = true := hq.2 rfl
  clear hq
  replace S : Sep w w12 [plRow 30 3 encTim (.slice aG0 LW0.length cG0) LW0, plRow 3 1 encInt1 (.slice aG1 LW1.length cG1) LW1, plRow 30 3 encTim (.slice axl l.length cxl) (marksTim l.length (1)), plRow 30 3 encTim (.slice aW0 LW0.length cW0) LW0, plRow 3 1 encInt1 (.slice aW1 LW1.length cW1) LW1] := S.step hE
  clear hE
  have hLW0 := hb0
  go_wp2_with fail
  refine (markTimS_own _ _ _ LW0 _ _ rfl hLW0 (by omega) (by omega) (S.row 0 rfl)).mono ?_
  rintro e w13 ⟨rfl, hq, hg⟩
  replace hq := (show w13.ownsRow _ 30 3 _ (marksTim LW0.length (1)).length ((marksTim LW0.length (1)).flatMap encTim) from by rw [marksTim_len]; exact hq)
  replace S : Sep w w13 [plRow 30 3 encTim (.slice aG0 LW0.length cG0) (marksTim LW0.length (1)), plRow 3 1 encInt1 (.slice aG1 LW1.length cG1) LW1, plRow 30 3 encTim (.slice axl l.length cxl) (marksTim l.length (1)), plRow 30 3 encTim (.slice aW0 LW0.length cW0) LW0, plRow 3 1 encInt1 (.slice aW1 LW1.length cW1) LW1] := S.grow 0 rfl hg hq (fun b h => .inl h)
  clear hq hg
  have hLW1 := hb1
  go_wp2_with fail
  refine (markIntS_own _ _ _ LW1 _ _ rfl hLW1 (by omega) (by omega) (S.row 1 rfl)).mono ?_
  rintro e w14 ⟨rfl, hq, hg⟩
  replace hq := (show w14.ownsRow _ 3 1 _ (marksInt LW1.length (1 + 3 * (LW0.length : Int))).length ((marksInt LW1.length (1 + 3 * (LW0.length : Int))).flatMap encInt1) from by rw [marksInt_len]; exact hq)
  replace S : Sep w w14 [plRow 30 3 encTim (.slice aG0 LW0.length cG0) (marksTim LW0.length (1)), plRow 3 1 encInt1 (.slice aG1 LW1.length cG1) (marksInt LW1.length (1 + 3 * (LW0.length : Int))), plRow 30 3 encTim (.slice axl l.length cxl) (marksTim l.length (1)), plRow 30 3 encTim (.slice aW0 LW0.length cW0) LW0, plRow 3 1 encInt1 (.slice aW1 LW1.length cW1) LW1] := S.grow 1 rfl hg hq (fun b h => .inl h)
  clear hq hg
  go_wp2_with fail
  refine (heldTimS_any _ _ LW0.length (1) _ hb0 (by omega) (by omega) (S.rd 0 encTim_len rfl (by rw [marksTim_len]))).mono ?_
  rintro e w15 ⟨rfl, hE⟩
  replace S : Sep w w15 [plRow 30 3 encTim (.slice aG0 LW0.length cG0) (marksTim LW0.length (1)), plRow 3 1 encInt1 (.slice aG1 LW1.length cG1) (marksInt LW1.length (1 + 3 * (LW0.length : Int))), plRow 30 3 encTim (.slice axl l.length cxl) (marksTim l.length (1)), plRow 30 3 encTim (.slice aW0 LW0.length cW0) LW0, plRow 3 1 encInt1 (.slice aW1 LW1.length cW1) LW1] := S.step hE
  clear hE
  go_wp2_with fail
  refine (heldIntS_any _ _ LW1.length (1 + 3 * (LW0.length : Int)) _ hb1 (by omega) (by omega) (S.rd 1 encInt1_len rfl (by rw [marksInt_len]))).mono ?_
  rintro e w16 ⟨rfl, hE⟩
  replace S : Sep w w16 [plRow 30 3 encTim (.slice aG0 LW0.length cG0) (marksTim LW0.length (1)), plRow 3 1 encInt1 (.slice aG1 LW1.length cG1) (marksInt LW1.length (1 + 3 * (LW0.length : Int))), plRow 30 3 encTim (.slice axl l.length cxl) (marksTim l.length (1)), plRow 30 3 encTim (.slice aW0 LW0.length cW0) LW0, plRow 3 1 encInt1 (.slice aW1 LW1.length cW1) LW1] := S.step hE
  clear hE
  go_wp2_with fail
  refine (toTimS_any al capl l _ hlenl (hcl.ext S.ext)).mono ?_
  rintro e w17 ⟨v17, rfl, ⟨ho, hv⟩, hE⟩
  obtain ⟨asl, csl, hv2, hksl, _, _⟩ := view_owns encTim_len ho
  subst hv2
  clear hv
  have T := Sep.of_owns hE ho
  clear hE ho
  replace S : Sep w w17 [plRow 30 3 encTim (.slice asl l.length csl) l, plRow 30 3 encTim (.slice aG0 LW0.length cG0) (marksTim LW0.length (1)), plRow 3 1 encInt1 (.slice aG1 LW1.length cG1) (marksInt LW1.length (1 + 3 * (LW0.length : Int))), plRow 30 3 encTim (.slice axl l.length cxl) (marksTim l.length (1)), plRow 30 3 encTim (.slice aW0 LW0.length cW0) LW0, plRow 3 1 encInt1 (.slice aW1 LW1.length cW1) LW1] := S.call T
  clear T
  go_wp2_with fail
  refine (implEndTimers _ _ l now _ (by omega) (S.rd 0 encTim_len rfl rfl)).mono ?_
  rintro e w18 ⟨uI0, LI0, uI1, LI1, rfl, hR, T⟩
  obtain ⟨rfl, rfl⟩ : LW0 = LI0 ∧ LW1 = LI1 := endsR_fun HR.out hR
  clear hR
  obtain ⟨aI0, cI0, hv2, hkI0, _, _⟩ := view_owns encTim_len (T.row 0 rfl)
  subst hv2
  obtain ⟨aI1, cI1, hv2, hkI1, _, _⟩ := view_owns encInt1_len (T.row 1 rfl)
  subst hv2
  replace S : Sep w w18 [plRow 30 3 encTim (.slice aI0 LW0.length cI0) LW0, plRow 3 1 encInt1 (.slice aI1 LW1.length cI1) LW1, plRow 30 3 encTim (.slice asl l.length csl) l, plRow 30 3 encTim (.slice aG0 LW0.length cG0) (marksTim LW0.length (1)), plRow 3 1 encInt1 (.slice aG1 LW1.length cG1) (marksInt LW1.length (1 + 3 * (LW0.length : Int))), plRow 30 3 encTim (.slice axl l.length cxl) (marksTim l.length (1)), plRow 30 3 encTim (.slice aW0 LW0.length cW0) LW0, plRow 3 1 encInt1 (.slice aW1 LW1.length cW1) LW1] := S.call T
  clear T
  replace S : Sep w w18 [plRow 30 3 encTim (.slice aI0 LW0.length cI0) LW0, plRow 3 1 encInt1 (.slice aI1 LW1.length cI1) LW1, plRow 30 3 encTim (.slice aG0 LW0.length cG0) (marksTim LW0.length (1)), plRow 3 1 encInt1 (.slice aG1 LW1.length cG1) (marksInt LW1.length (1 + 3 * (LW0.length : Int))), plRow 30 3 encTim (.slice axl l.length cxl) (marksTim l.length (1)), plRow 30 3 encTim (.slice aW0 LW0.length cW0) LW0, plRow 3 1 encInt1 (.slice aW1 LW1.length cW1) LW1] := S.drop 2
  go_wp2_with fail
  refine (eqTimS_any _ _ _ _ LW0 LW0 _ (by omega) (by omega) (S.rd 0 encTim_len rfl rfl) (S.rd 5 encTim_len rfl rfl)).mono ?_
  rintro e w19 ⟨q19, rfl, hq, hE⟩
  obtain rfl : q19 = true := hq.2 rfl
  clear hq
  replace S : Sep w w19 [plRow 30 3 encTim (.slice aI0 LW0.length cI0) LW0, plRow 3 1 encInt1 (.slice aI1 LW1.length cI1) LW1, plRow 30 3 encTim (.slice aG0 LW0.length cG0) (marksTim LW0.length (1)), plRow 3 1 encInt1 (.slice aG1 LW1.length cG1) (marksInt LW1.length (1 + 3 * (LW0.length : Int))), plRow 30 3 encTim (.slice axl l.length cxl) (marksTim l.length (1)), plRow 30 3 encTim (.slice aW0 LW0.length cW0) LW0, plRow 3 1 encInt1 (.slice aW1 LW1.length cW1) LW1] := S.step hE
  clear hE
  go_wp2_with fail
  refine (eqIntS_any _ _ _ _ LW1 LW1 _ (by omega) (by omega) (S.rd 1 encInt1_len rfl rfl) (S.rd 6 encInt1_len rfl rfl)).mono ?_
  rintro e w20 ⟨q20, rfl, hq, hE⟩
  obtain rfl : q20 = true := hq.2 rfl
  clear hq
  replace S : Sep w w20 [plRow 30 3 encTim (.slice aI0 LW0.length cI0) LW0, plRow 3 1 encInt1 (.slice aI1 LW1.length cI1) LW1, plRow 30 3 encTim (.slice aG0 LW0.length cG0) (marksTim LW0.length (1)), plRow 3 1 encInt1 (.slice aG1 LW1.length cG1) (marksInt LW1.length (1 + 3 * (LW0.length : Int))), plRow 30 3 encTim (.slice axl l.length cxl) (marksTim l.length (1)), plRow 30 3 encTim (.slice aW0 LW0.length cW0) LW0, plRow 3 1 encInt1 (.slice aW1 LW1.length cW1) LW1] := S.step hE
  clear hE
  go_wp2_with fail
  refine (heldTimS_any _ _ LW0.length (1) _ hb0 (by omega) (by omega) (S.rd 2 encTim_len rfl (by rw [marksTim_len]))).mono ?_
  rintro e w21 ⟨rfl, hE⟩
  replace S : Sep w w21 [plRow 30 3 encTim (.slice aI0 LW0.length cI0) LW0, plRow 3 1 encInt1 (.slice aI1 LW1.length cI1) LW1, plRow 30 3 encTim (.slice aG0 LW0.length cG0) (marksTim LW0.length (1)), plRow 3 1 encInt1 (.slice aG1 LW1.length cG1) (marksInt LW1.length (1 + 3 * (LW0.length : Int))), plRow 30 3 encTim (.slice axl l.length cxl) (marksTim l.length (1)), plRow 30 3 encTim (.slice aW0 LW0.length cW0) LW0, plRow 3 1 encInt1 (.slice aW1 LW1.length cW1) LW1] := S.step hE
  clear hE
  go_wp2_with fail
  refine (heldIntS_any _ _ LW1.length (1 + 3 * (LW0.length : Int)) _ hb1 (by omega) (by omega) (S.rd 3 encInt1_len rfl (by rw [marksInt_len]))).mono ?_
  rintro e w22 ⟨rfl, hE⟩
  replace S : Sep w w22 [plRow 30 3 encTim (.slice aI0 LW0.length cI0) LW0, plRow 3 1 encInt1 (.slice aI1 LW1.length cI1) LW1, plRow 30 3 encTim (.slice aG0 LW0.length cG0) (marksTim LW0.length (1)), plRow 3 1 encInt1 (.slice aG1 LW1.length cG1) (marksInt LW1.length (1 + 3 * (LW0.length : Int))), plRow 30 3 encTim (.slice axl l.length cxl) (marksTim l.length (1)), plRow 30 3 encTim (.slice aW0 LW0.length cW0) LW0, plRow 3 1 encInt1 (.slice aW1 LW1.length cW1) LW1] := S.step hE
  clear hE
  go_wp2
  go_ret
  exact RetB.mk true rfl (by simp) S.ext
end Go.Proofs.Ytgjadebohneioaa
