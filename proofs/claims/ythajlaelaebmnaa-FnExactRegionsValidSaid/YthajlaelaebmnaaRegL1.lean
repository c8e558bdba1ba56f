/- FnExactRegionsValid: the walk. No condition but that the list is shorter than 2^63. -/
import Derived.Test.YthajlaelaebmnaaRegV
namespace Go.Proofs.Ythajlaelaebmnaa
open Go.RowKit

set_option maxHeartbeats 1000000 in
theorem exactRegionsValid_any (a : Option Addr) (cap : Nat) (l : List Reg) (w : World) (hl : l.length ≤ 9223372036854775807) (hc : Rd 3 encReg w a l) :
    Calls Try.prog 3 #[.slice a l.length cap] w (RetB True w) := by
  go_enter Try.func3, Try.ntmps3
  go_wp2_with fail
  refine (szRegS_any a cap l _ _ (by omega) (by omega) hl hc).mono ?_
  rintro e w1 ⟨r, rfl, hr1, hr2, hr3, hb1⟩
  have Hr3 := Lib.hid hr3
  clear hr3
  by_cases hneg : r < 0
  · go_wp2
    go_ret
    exact RetB.mk true rfl (by simp) hb1
  have hlen : l.length ≤ 1048576 := Hr3.out (by omega)
  go_wp2_with fail
  refine (toRegS_any a cap l _ hlen (hc.ext hb1)).mono ?_
  rintro e w2 ⟨v1, rfl, ⟨hown1, rfl⟩, hb2⟩
  have rd1 := rd_owns encReg_len hown1 rfl
  go_wp2_with fail
  refine (specRegionsValid _ _ l _ hl rd1).mono ?_
  rintro e w3 ⟨q0, rfl, hq0, hb3⟩
  have E3 : Ext w w3 := ((hb1.trans hb2).trans hb3)
  go_wp2_with fail
  refine (toRegS_any a cap l _ hlen (hc.ext E3)).mono ?_
  rintro e w4 ⟨v2, rfl, ⟨hown2, rfl⟩, hb4⟩
  have rd2 := rd_owns encReg_len hown2 rfl
  go_wp2_with fail
  refine (implRegionsValid _ _ l _ hl rd2).mono ?_
  rintro e w5 ⟨q1, rfl, hq1, hb5⟩
  obtain rfl : q1 = q0 := Bool.eq_iff_iff.2 (hq1.trans hq0.symm)
  clear hq0 hq1
  have E5 : Ext w w5 := (E3.trans hb4).trans hb5
  go_wp2_with fail
  refine (toRegS_any a cap l _ hlen (hc.ext E5)).mono ?_
  rintro e w6 ⟨v3, rfl, ⟨hown3, rfl⟩, hb6⟩
  have rd3 := rd_owns encReg_len hown3 rfl
  go_wp2_with fail
  refine (eqRegS_any _ _ _ _ l l _ hl hl (rd2.ext (hb5.trans hb6)) rd3).mono ?_
  rintro e w7 ⟨q2, rfl, hq2, hb7⟩
  obtain rfl : q2 = true := hq2.2 rfl
  go_wp2
  go_ret
  exact RetB.mk true rfl (by simp) ((E5.trans hb6).trans hb7)
end Go.Proofs.Ythajlaelaebmnaa
