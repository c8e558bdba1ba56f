/- FnExactSettingsText: the walk. No condition but that the list and its texts are shorter than 2^63. -/
import Derived.Test.YtekmfphlccomaaaSetZ
namespace Go.Proofs.Ytekmfphlccomaaa
open Go.RowKit

set_option maxRecDepth 10000 in
set_option maxHeartbeats 8000000 in
theorem exactSettingsText_any (al : Option Addr) (capl : Nat) (l : List Set) (hll : l.length ≤ 9223372036854775807) (hsl : ∀ x ∈ l, x.name.size ≤ 9223372036854775807 ∧ x.text.size ≤ 9223372036854775807) (w : World) (hcl : Rd 2 encSet w al l) :
    Calls Try.prog 5 #[.slice al l.length capl] w (RetB True w) := by
  go_enter Try.func5, Try.ntmps5
  have S := Sep.start w
  go_wp2_with fail
  refine (szSetS_any al capl l _ _ (by omega) (by omega) hll hsl (hcl.ext S.ext)).mono ?_
  rintro e w1 ⟨r1, rfl, hra1, hrb1, hrc1, hE⟩
  have Hrc1 := Lib.hid hrc1
  clear hrc1
  replace S : Sep w w1 [] := S.step hE
  clear hE
  by_cases hneg1 : r1 < 0
  · go_wp2
    go_ret
    exact RetB.mk true rfl (by simp) S.ext
  have hlenl : l.length ≤ 1048576 := (Hrc1.out (by omega)).1
  have hszl := (Hrc1.out (by omega)).2
  clear Hrc1
  go_wp2_with fail
  refine (toSetS_any al capl l _ hlenl (hcl.ext S.ext)).mono ?_
  rintro e w2 ⟨v2, rfl, ⟨ho, hv⟩, hE⟩
  obtain ⟨asl, csl, hv2, hksl, _, _⟩ := view_owns encSet_len ho
  subst hv2
  clear hv
  have T := Sep.of_owns hE ho
  clear hE ho
  replace S : Sep w w2 [plRow 33 2 encSet (.slice asl l.length csl) l] := S.call T
  clear T
  go_wp2_with fail
  refine (specSettingsTextS _ _ l _ hll hsl (S.rd 0 encSet_len rfl rfl)).mono ?_
  rintro e w3 ⟨yW0, rfl, hR, T⟩
  have HR := Lib.hid hR
  clear hR
  replace S : Sep w w3 [plRow 33 2 encSet (.slice asl l.length csl) l] := S.call T
  clear T
  replace S : Sep w w3 [] := S.drop 0
  go_wp2_with fail
  refine (toSetS_any al capl l _ hlenl (hcl.ext S.ext)).mono ?_
  rintro e w4 ⟨v4, rfl, ⟨ho, hv⟩, hE⟩
  obtain ⟨axl, cxl, hv2, hkxl, _, _⟩ := view_owns encSet_len ho
  subst hv2
  clear hv
  have T := Sep.of_owns hE ho
  clear hE ho
  replace S : Sep w w4 [plRow 33 2 encSet (.slice axl l.length cxl) l] := S.call T
  clear T
  go_wp2_with fail
  refine (implSettingsTextS _ _ l _ hll hsl (S.rd 0 encSet_len rfl rfl)).mono ?_
  rintro e w5 ⟨yG0, rfl, hR, T⟩
  obtain rfl : yW0 = yG0 := textR_fun HR.out hR
  clear hR
  replace S : Sep w w5 [plRow 33 2 encSet (.slice axl l.length cxl) l] := S.call T
  clear T
  go_wp2_with fail
  refine (toSetS_any al capl l _ hlenl (hcl.ext S.ext)).mono ?_
  rintro e w6 ⟨v6, rfl, ⟨ho, hv⟩, hE⟩
  obtain ⟨atl, ctl, hv2, hktl, _, _⟩ := view_owns encSet_len ho
  subst hv2
  clear hv
  have T := Sep.of_owns hE ho
  clear hE ho
  replace S : Sep w w6 [plRow 33 2 encSet (.slice atl l.length ctl) l, plRow 33 2 encSet (.slice axl l.length cxl) l] := S.call T
  clear T
  go_wp2_with fail
  refine (eqSetS_any _ _ _ _ l l _ hll hll (S.rd 1 encSet_len rfl rfl) (S.rd 0 encSet_len rfl rfl)).mono ?_
  rintro e w7 ⟨q7, rfl, hq, hE⟩
  obtain rfl : q7 = true := hq.2 rfl
  clear hq
  replace S : Sep w w7 [plRow 33 2 encSet (.slice atl l.length ctl) l, plRow 33 2 encSet (.slice axl l.length cxl) l] := S.step hE
  clear hE
  replace S : Sep w w7 [plRow 33 2 encSet (.slice axl l.length cxl) l] := S.drop 0
  go_wp2
  go_ret
  exact RetB.mk true rfl (by simp) S.ext
end Go.Proofs.Ytekmfphlccomaaa
