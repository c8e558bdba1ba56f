/- FnExactReadSettings: the walk. No condition but that the library's own variable holds some number. -/
import Derived.Test.YtekmfphlccomaaaDoorSetU
import Derived.Test.YtekmfphlccomaaaDoorSetMark
import Derived.Test.YtekmfphlccomaaaDoorOwnCap
namespace Go.Proofs.YtekmfphlccomaaaDoor
open Go.RowKit

set_option maxRecDepth 10000 in
set_option maxHeartbeats 8000000 in
theorem exactReadSettings_any (s : ByteArray) (hss : s.size ≤ 9223372036854775807) (m : Int) (w : World) (hm : w.cell? ⟨maxLenG, 0, none⟩ = some (.int .i64 m)) :
    Calls Tryd.prog 4 #[.string s] w (RetB True w) := by
  go_enter Tryd.func4, Tryd.ntmps4
  have S := Sep.start w
  by_cases hbigs : 1048576 < s.size
  · go_wp2
    go_ret
    exact RetB.mk true rfl (by simp) (by first | exact Ext.refl _ | exact (Ext.refl _).alloc _)
  go_wp2_with fail
  refine (specReadSettings s _ (by omega)).mono ?_
  rintro e w1 ⟨uW0, LW0, yW1, rfl, hR, T⟩
  have HR := Lib.hid hR
  clear hR
  obtain ⟨aW0, cW0, hv2, hkW0, _, _⟩ := view_owns encSet_len (T.row 0 rfl)
  subst hv2
  replace S : Sep w w1 [plRow 40 2 encSet (.slice aW0 LW0.length cW0) LW0] := S.call T
  clear T
  have hb0 : LW0.length ≤ 1048576 := Nat.le_trans (readSR_len HR.out) (by omega)
  go_wp2_with fail
  refine (implReadSettings s m _ (by omega) (cell_ext S.ext hm)).mono ?_
  rintro e w2 ⟨uG0, LG0, yG1, rfl, hR, T⟩
  obtain ⟨rfl, rfl⟩ : LW0 = LG0 ∧ yW1 = yG1 := readSR_fun HR.out hR
  clear hR
  obtain ⟨aG0, cG0, hv2, hkG0, _, _⟩ := view_owns encSet_len (T.row 0 rfl)
  subst hv2
  replace S : Sep w w2 [plRow 40 2 encSet (.slice aG0 LW0.length cG0) LW0, plRow 40 2 encSet (.slice aW0 LW0.length cW0) LW0] := S.call T
  clear T
  have t1 : (yW1 != yW1) = false := by simp
  go_wp2_with fail
  refine (eqSetS_any _ _ _ _ LW0 LW0 _ (by omega) (by omega) (S.rd 0 encSet_len rfl rfl) (S.rd 1 encSet_len rfl rfl)).mono ?_
  rintro e w3 ⟨q3, rfl, hq, hE⟩
  obtain rfl : q3 = true := hq.2 rfl
  clear hq
  replace S : Sep w w3 [plRow 40 2 encSet (.slice aG0 LW0.length cG0) LW0, plRow 40 2 encSet (.slice aW0 LW0.length cW0) LW0] := S.step hE
  clear hE
  have hLW0 := hb0
  go_wp2_with fail
  refine (markSetS_own _ _ _ LW0 _ _ rfl hLW0 (by omega) (by omega) (S.row 0 rfl)).mono ?_
  rintro e w5 ⟨rfl, hq, hg⟩
  replace hq := (show w5.ownsRow _ 40 2 _ (marksSet LW0.length (1)).length ((marksSet LW0.length (1)).flatMap encSet) from by rw [marksSet_len]; exact hq)
  replace S : Sep w w5 [plRow 40 2 encSet (.slice aG0 LW0.length cG0) (marksSet LW0.length (1)), plRow 40 2 encSet (.slice aW0 LW0.length cW0) LW0] := S.grow 0 rfl hg hq (fun b h => .inl h)
  clear hq hg
  go_wp2_with fail
  refine (heldSetS_any _ _ LW0.length (1) _ hb0 (by omega) (by omega) (S.rd 0 encSet_len rfl (by rw [marksSet_len]))).mono ?_
  rintro e w6 ⟨rfl, hE⟩
  replace S : Sep w w6 [plRow 40 2 encSet (.slice aG0 LW0.length cG0) (marksSet LW0.length (1)), plRow 40 2 encSet (.slice aW0 LW0.length cW0) LW0] := S.step hE
  clear hE
  go_wp2_with fail
  refine (implReadSettings s m _ (by omega) (cell_ext S.ext hm)).mono ?_
  rintro e w7 ⟨uI0, LI0, yI1, rfl, hR, T⟩
  obtain ⟨rfl, rfl⟩ : LW0 = LI0 ∧ yW1 = yI1 := readSR_fun HR.out hR
  clear hR
  obtain ⟨aI0, cI0, hv2, hkI0, _, _⟩ := view_owns encSet_len (T.row 0 rfl)
  subst hv2
  replace S : Sep w w7 [plRow 40 2 encSet (.slice aI0 LW0.length cI0) LW0, plRow 40 2 encSet (.slice aG0 LW0.length cG0) (marksSet LW0.length (1)), plRow 40 2 encSet (.slice aW0 LW0.length cW0) LW0] := S.call T
  clear T
  go_wp2_with fail
  refine (eqSetS_any _ _ _ _ LW0 LW0 _ (by omega) (by omega) (S.rd 0 encSet_len rfl rfl) (S.rd 2 encSet_len rfl rfl)).mono ?_
  rintro e w8 ⟨q8, rfl, hq, hE⟩
  obtain rfl : q8 = true := hq.2 rfl
  clear hq
  replace S : Sep w w8 [plRow 40 2 encSet (.slice aI0 LW0.length cI0) LW0, plRow 40 2 encSet (.slice aG0 LW0.length cG0) (marksSet LW0.length (1)), plRow 40 2 encSet (.slice aW0 LW0.length cW0) LW0] := S.step hE
  clear hE
  go_wp2_with fail
  refine (heldSetS_any _ _ LW0.length (1) _ hb0 (by omega) (by omega) (S.rd 1 encSet_len rfl (by rw [marksSet_len]))).mono ?_
  rintro e w9 ⟨rfl, hE⟩
  replace S : Sep w w9 [plRow 40 2 encSet (.slice aI0 LW0.length cI0) LW0, plRow 40 2 encSet (.slice aG0 LW0.length cG0) (marksSet LW0.length (1)), plRow 40 2 encSet (.slice aW0 LW0.length cW0) LW0] := S.step hE
  clear hE
  go_wp2
  go_ret
  exact RetB.mk true rfl (by simp) S.ext
end Go.Proofs.YtekmfphlccomaaaDoor
