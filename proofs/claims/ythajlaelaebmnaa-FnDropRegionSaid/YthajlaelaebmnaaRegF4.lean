/- FnDropRegion: the walk. Condition: the code is shorter than 2^63. -/
import Derived.Test.YthajlaelaebmnaaDrawRg2
import Derived.Test.YthajlaelaebmnaaRegP2
import Derived.Test.YthajlaelaebmnaaAlive
namespace Go.Proofs.Ythajlaelaebmnaa
open Go.RowKit

set_option maxRecDepth 10000 in
set_option maxHeartbeats 8000000 in
theorem fnDropRegion_any (ac : Option Addr) (capc : Nat) (code : List Int) (w : World) (hlc : code.length ≤ 9223372036854775807) (hcap : code.length ≤ capc) (hu : ∀ x ∈ code, 0 ≤ x ∧ x ≤ 255) (hcc : Rd 1 encU8 w ac code) :
    Calls Try.prog 10 #[.slice ac code.length capc] w (RetB True w) := by
  go_enter Try.func10, Try.ntmps10
  by_cases hbig : 1048576 < code.length
  · have hb : (1048576 : Int) < (code.length : Int) := by omega
    go_wp2
    go_ret
    exact RetB.mk true rfl (by simp) (Ext.refl _)
  have hb : (code.length : Int) ≤ 1048576 := by omega
  have S := Sep.start w
  go_wp2_with fail
  refine (drawDropRegion ac capc code w hlc hcap hu hcc).mono ?_
  rintro e w1 ⟨u, l, f, t, rfl, hl9, T⟩
  obtain ⟨a, cap, hv, hlcap, _, _⟩ := view_owns encReg_len (T.row 0 rfl)
  subst hv
  replace S : Sep w w1 [plRow 33 3 encReg (.slice a l.length cap) l] := S.call T
  clear T
  clear hb hbig
  go_wp2_with fail
  refine (implDropRegion a cap l f t _ (by omega) (S.rd 0 encReg_len rfl rfl)).mono ?_
  rintro e w3 ⟨v3, X, ok, rfl, hR, T⟩
  obtain ⟨ax, cx, hv, hxcap, _, _⟩ := view_owns encReg_len (T.row 0 rfl)
  subst hv
  have HR := Lib.hid hR
  have hX := setR_le (n := 9) hR (by omega) hl9
  clear hR
  replace S : Sep w w3 [plRow 33 3 encReg (.slice ax X.length cx) X, plRow 33 3 encReg (.slice a l.length cap) l] := S.call T
  clear T
  go_wp2_with fail
  refine (specDropRegion a cap l f t w3 (by omega) (S.rd 1 encReg_len rfl rfl)).mono ?_
  rintro e w4 ⟨v4, Y, ok2, rfl, hR, T⟩
  obtain ⟨rfl, rfl⟩ := setR_fun HR.out hR
  obtain ⟨ay, cy, hv, hycap, _, _⟩ := view_owns encReg_len (T.row 0 rfl)
  subst hv
  clear hR
  replace S : Sep w w4 [plRow 33 3 encReg (.slice ay X.length cy) X, plRow 33 3 encReg (.slice ax X.length cx) X, plRow 33 3 encReg (.slice a l.length cap) l] := S.call T
  clear T
  have tb : (ok != ok) = false := by simp
  go_wp2_with fail
  refine (sameRegs_any _ _ _ _ X X _ (by omega) (by omega) (S.rd 1 encReg_len rfl rfl) (S.rd 0 encReg_len rfl rfl)).mono ?_
  rintro e w5 ⟨q5, rfl, hq, hE⟩
  obtain rfl : q5 = true := hq.2 rfl
  clear hq
  replace S : Sep w w5 [plRow 33 3 encReg (.slice ay X.length cy) X, plRow 33 3 encReg (.slice ax X.length cx) X, plRow 33 3 encReg (.slice a l.length cap) l] := S.step hE
  clear hE
  cases ok with
  | false =>
    have HXl := Lib.hid (setR_false HR.out)
    go_wp2_with fail
    refine (sameRegs_any _ _ _ _ X l _ (by omega) (by omega) (S.rd 1 encReg_len rfl rfl) (S.rd 2 encReg_len rfl rfl)).mono ?_
    rintro e w6 ⟨q6, rfl, hq, hE⟩
    have Hq := Lib.hid hq
    clear hq
    replace S : Sep w w6 [plRow 33 3 encReg (.slice ay X.length cy) X, plRow 33 3 encReg (.slice ax X.length cx) X, plRow 33 3 encReg (.slice a l.length cap) l] := S.step hE
    clear hE
    cases q6 with
    | true =>
      go_wp2_with fail
      refine (alive_any _).mono ?_
      rintro e w7 ⟨b3, rfl, hb3, hE⟩
      obtain rfl : b3 = true := hb3.2 trivial
      clear hb3
      replace S : Sep w w7 [plRow 33 3 encReg (.slice ay X.length cy) X, plRow 33 3 encReg (.slice ax X.length cx) X, plRow 33 3 encReg (.slice a l.length cap) l] := S.step hE
      clear hE
      go_wp2
      go_ret
      exact RetB.mk true rfl (by simp) S.ext
    | false =>
      have hX0 : X = [] := HXl.out.resolve_left (fun h => Bool.noConfusion (Hq.out.2 h))
      subst hX0
      go_wp2_with fail
      refine (alive_any _).mono ?_
      rintro e w7 ⟨b3, rfl, hb3, hE⟩
      obtain rfl : b3 = true := hb3.2 trivial
      clear hb3
      replace S : Sep w w7 [plRow 33 3 encReg (.slice ay ([] : List Reg).length cy) ([] : List Reg), plRow 33 3 encReg (.slice ax ([] : List Reg).length cx) ([] : List Reg), plRow 33 3 encReg (.slice a l.length cap) l] := S.step hE
      clear hE
      go_wp2
      go_ret
      exact RetB.mk true rfl (by simp) S.ext
  | true =>
    have HP : Hid (DropOk l f t) := Lib.hid (setR_true HR.out).1
    have HXe := Lib.hid (setR_true HR.out).2.1
    have HX8 := Lib.hid (setR_true HR.out).2.2
    have HV : Hid (RegsOk l) := Lib.hid HP.out.1
    have HRR : Hid (-1 ≤ (-1 : Int) ∧ (-1 : Int) ≤ 7) := Lib.hid (by omega)
    have HXV : Hid (RegsOk X) := Lib.hid (by
      rw [HXe.out]
      exact setRegs_valid HV.out HRR.out (by rw [← HXe.out]; exact HX8.out))
    have HPG := Lib.hid (fun (p : Nat) (a b : Int) (hp : p < 64) ha hb => set_page (p := p) (a := a) (b := b) HV.out (r := ⟨f, t, -1⟩) HRR.out HXe.out HX8.out hp ha hb)
    clear tb
    go_wp2
    go_loopw [10] (fun i wr => ∃ k : Nat, k ≤ 64 ∧ i = .int .i64 k ∧ Ext w5 wr) (fun i _ => 64 - (intOf i).toNat)
    case atStart => exact ⟨0, Nat.zero_le _, rfl, Ext.refl _⟩
    case round =>
      obtain ⟨k, hk, rfl, hb⟩ := hrel
      have hb0 := hb
      replace S : Sep w wr [plRow 33 3 encReg (.slice ay X.length cy) X, plRow 33 3 encReg (.slice ax X.length cx) X, plRow 33 3 encReg (.slice a l.length cap) l] := S.step hb
      clear hb
      by_cases hlt : k < 64
      · have i1 : (k : Int) < 64 := by omega
        have i0 : (0 : Int) ≤ (k : Int) := by omega
        go_wp2_with fail
        refine (implRightsAt a cap l k wr (by omega) (S.rd 2 encReg_len rfl rfl)).mono ?_
        rintro e w6 ⟨na, rfl, hRa, T⟩
        have HRa := Lib.hid hRa
        have hb1 := hb0.trans T.ext
        clear hRa hb0
        replace S : Sep w w6 [plRow 33 3 encReg (.slice ay X.length cy) X, plRow 33 3 encReg (.slice ax X.length cx) X, plRow 33 3 encReg (.slice a l.length cap) l] := S.call T
        clear T
        by_cases h1 : f ≤ (k : Int)
        · by_cases h2 : (k : Int) < t
          · have HZ := Lib.hid (fun b hb => (HPG.out k na b hlt HRa.out hb).1 ⟨h1, h2⟩)
            go_wp2_with fail
            refine (implRightsAt ax cx X k w6 (by omega) (S.rd 1 encReg_len rfl rfl)).mono ?_
            rintro e w7 ⟨nb, rfl, hRb, T⟩
            obtain rfl := HZ.out nb hRb
            have hb2 := hb1.trans T.ext
            have tn : ((-1 : Int) != (-1 : Int)) = false := by simp
            clear hRb
            go_wp2
            go_roundw
            case rel => exact ⟨k + 1, by omega, by go_num, hb2⟩
            case measure => simp [intOf]; omega
          · have HZ := Lib.hid (fun b hb => (HPG.out k na b hlt HRa.out hb).2 (fun h => h2 h.2))
            have h3 : decide ((k : Int) < t) = false := by simpa using h2
            go_wp2_with fail
            refine (implRightsAt ax cx X k w6 (by omega) (S.rd 1 encReg_len rfl rfl)).mono ?_
            rintro e w7 ⟨nb, rfl, hRb, T⟩
            obtain rfl := HZ.out nb hRb
            have hb2 := hb1.trans T.ext
            have tn : (nb != nb) = false := by simp
            clear hRb
            go_wp2
            go_roundw
            case rel => exact ⟨k + 1, by omega, by go_num, hb2⟩
            case measure => simp [intOf]; omega
        · have HZ := Lib.hid (fun b hb => (HPG.out k na b hlt HRa.out hb).2 (fun h => h1 h.1))
          have h3 : decide (f ≤ (k : Int)) = false := by simpa using h1
          go_wp2_with fail
          refine (implRightsAt ax cx X k w6 (by omega) (S.rd 1 encReg_len rfl rfl)).mono ?_
          rintro e w7 ⟨nb, rfl, hRb, T⟩
          obtain rfl := HZ.out nb hRb
          have hb2 := hb1.trans T.ext
          have tn : (nb != nb) = false := by simp
          clear hRb
          go_wp2
          go_roundw
          case rel => exact ⟨k + 1, by omega, by go_num, hb2⟩
          case measure => simp [intOf]; omega
      · obtain rfl : k = 64 := by omega
        clear hb0
        go_wp2_with fail
        refine (implRegionsValid ax cx X wr (by omega) (S.rd 1 encReg_len rfl rfl)).mono ?_
        rintro e w6 ⟨v0, rfl, hv0, hE⟩
        obtain rfl : v0 = true := hv0.2 HXV.out
        clear hv0
        replace S : Sep w w6 [plRow 33 3 encReg (.slice ay X.length cy) X, plRow 33 3 encReg (.slice ax X.length cx) X, plRow 33 3 encReg (.slice a l.length cap) l] := S.step hE
        clear hE
        go_wp2
        go_ret
        exact RetB.mk true rfl (by simp) S.ext
end Go.Proofs.Ythajlaelaebmnaa
