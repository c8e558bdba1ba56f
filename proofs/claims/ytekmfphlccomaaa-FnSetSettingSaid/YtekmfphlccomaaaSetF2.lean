/- FnSetSetting: the walk. Condition: the code is shorter than 2^63. -/
import Derived.Test.YtekmfphlccomaaaDrawSt2
import Derived.Test.YtekmfphlccomaaaSetR
import Derived.Test.YtekmfphlccomaaaSetQ
import Derived.Test.YtekmfphlccomaaaAlive
import Derived.Test.YtekmfphlccomaaaGuard
namespace Go.Proofs.Ytekmfphlccomaaa
open Go.RowKit

theorem name_ne {a b : ByteArray} (h : a ≠ b) : (a.toList == b.toList) = false := by
  rw [beq_eq_false_iff_ne]
  exact fun e => h (toList_inj e)

set_option maxRecDepth 10000 in
set_option maxHeartbeats 8000000 in
theorem fnSetSetting_any (ac : Option Addr) (capc : Nat) (code : List Int) (w : World) (hlc : code.length ≤ 9223372036854775807) (hcap : code.length ≤ capc) (hu : ∀ x ∈ code, 0 ≤ x ∧ x ≤ 255) (hcc : Rd 1 encU8 w ac code) :
    Calls Try.prog 6 #[.slice ac code.length capc] w (RetB True w) := by
  go_enter Try.func6, Try.ntmps6
  by_cases hbig : 1048576 < code.length
  · have hb : (1048576 : Int) < (code.length : Int) := by omega
    go_wp2
    go_ret
    exact RetB.mk true rfl (by simp) (Ext.refl _)
  have hb : (code.length : Int) ≤ 1048576 := by omega
  have S := Sep.start w
  go_wp2_with fail
  refine (drawSetSetting ac capc code w hlc hcap hu hcc).mono ?_
  rintro e w1 ⟨u, l, nm, tx, rfl, hl10, hfit, hn40, ht40, T⟩
  have Hfit := Lib.hid hfit
  clear hfit
  obtain ⟨a, cap, hv, hlcap, _, _⟩ := view_owns encSet_len (T.row 0 rfl)
  subst hv
  replace S : Sep w w1 [plRow 33 2 encSet (.slice a l.length cap) l] := S.call T
  clear T
  clear hb hbig
  go_wp2_with fail
  refine (implSetSetting a cap l nm tx _ (by omega) Hfit.out (by omega) (by omega) (S.rd 0 encSet_len rfl rfl)).mono ?_
  rintro e w3 ⟨v3, X, ok, rfl, hR, T⟩
  obtain ⟨ax, cx, hv, hxcap, _, _⟩ := view_owns encSet_len (T.row 0 rfl)
  subst hv
  have HR := Lib.hid hR
  have hX8 := setSR_len hR
  clear hR
  replace S : Sep w w3 [plRow 33 2 encSet (.slice ax X.length cx) X, plRow 33 2 encSet (.slice a l.length cap) l] := S.call T
  clear T
  go_wp2_with fail
  refine (specSetSettingS a cap l nm tx _ (by omega) Hfit.out (by omega) (by omega) hlcap (owns_shape encSet_len (S.row 1 rfl)) (S.rd 1 encSet_len rfl rfl)).mono ?_
  rintro e w4 ⟨v5, Y, ok', rfl, hR, T⟩
  obtain ⟨rfl, rfl⟩ := setSR_fun HR.out hR
  obtain ⟨ay, cy, hv, _, _, _⟩ := view_owns encSet_len (T.row 0 rfl)
  subst hv
  clear hR
  replace S : Sep w w4 [plRow 33 2 encSet (.slice ay X.length cy) X, plRow 33 2 encSet (.slice ax X.length cx) X, plRow 33 2 encSet (.slice a l.length cap) l] := S.call T
  clear T
  have tb : (ok != ok) = false := by simp
  go_wp2_with fail
  refine (sameSets_any _ _ _ _ X X _ (by omega) (by omega) (S.rd 1 encSet_len rfl rfl) (S.rd 0 encSet_len rfl rfl)).mono ?_
  rintro e w5 ⟨q5, rfl, hq, hE⟩
  obtain rfl : q5 = true := hq.2 rfl
  clear hq
  replace S : Sep w w5 [plRow 33 2 encSet (.slice ay X.length cy) X, plRow 33 2 encSet (.slice ax X.length cx) X, plRow 33 2 encSet (.slice a l.length cap) l] := S.step hE
  clear hE
  cases ok with
  | false =>
    have Hno := Lib.hid (setSR_none HR.out)
    clear HR
    go_wp2_with fail
    refine (sameSets_any _ _ _ _ X l _ (by omega) (by omega) (S.rd 1 encSet_len rfl rfl) (S.rd 2 encSet_len rfl rfl)).mono ?_
    rintro e w6 ⟨q6, rfl, hq, hE⟩
    have Hq := Lib.hid hq
    clear hq
    replace S : Sep w w6 [plRow 33 2 encSet (.slice ay X.length cy) X, plRow 33 2 encSet (.slice ax X.length cx) X, plRow 33 2 encSet (.slice a l.length cap) l] := S.step hE
    clear hE
    cases q6 with
    | true =>
      go_wp2_with fail
      refine (alive_any _).mono ?_
      rintro e w7 ⟨b3, rfl, hb3, hE⟩
      obtain rfl : b3 = true := hb3.2 trivial
      clear hb3
      replace S : Sep w w7 [plRow 33 2 encSet (.slice ay X.length cy) X, plRow 33 2 encSet (.slice ax X.length cx) X, plRow 33 2 encSet (.slice a l.length cap) l] := S.step hE
      clear hE
      go_wp2
      go_ret
      exact RetB.mk true rfl (by simp) S.ext
    | false =>
      obtain rfl : X = [] := Hno.out.resolve_left (fun h => Bool.noConfusion (Hq.out.2 h))
      go_wp2_with fail
      refine (alive_any _).mono ?_
      rintro e w7 ⟨b3, rfl, hb3, hE⟩
      obtain rfl : b3 = true := hb3.2 trivial
      clear hb3
      replace S : Sep w w7 [plRow 33 2 encSet (.slice ay ([] : List Set).length cy) ([] : List Set), plRow 33 2 encSet (.slice ax ([] : List Set).length cx) ([] : List Set), plRow 33 2 encSet (.slice a l.length cap) l] := S.step hE
      clear hE
      go_wp2
      go_ret
      exact RetB.mk true rfl (by simp) S.ext
  | true =>
    have HL := Lib.hid (setSR_law HR.out)
    clear HR tb
    go_wp2
    go_loopw [10, 11] (fun at_ i wr => ∃ (k b : Nat), k ≤ X.length ∧ b ≤ l.length ∧ i = .int .i64 k ∧ at_ = .int .i64 b ∧ (X.take k).filter (noS nm) = (l.take b).filter (noS nm) ∧ Ext w5 wr) (fun _ i _ => X.length - (intOf i).toNat)
    case atStart => exact ⟨0, 0, Nat.zero_le _, Nat.zero_le _, rfl, rfl, by simp, Ext.refl _⟩
    case round =>
      obtain ⟨k, b, hk, hbl, rfl, rfl, hF, hb⟩ := hrel
      have HF := Lib.hid hF
      have hb0 := hb
      clear hF
      replace S : Sep w wr [plRow 33 2 encSet (.slice ay X.length cy) X, plRow 33 2 encSet (.slice ax X.length cx) X, plRow 33 2 encSet (.slice a l.length cap) l] := S.step hb
      clear hb
      by_cases hlt : k < X.length
      rotate_left
      · obtain rfl : k = X.length := by omega
        have hni : ¬ (X.length : Int) < (X.length : Int) := by omega
        have HFx : Hid (X.filter (noS nm) = (l.take b).filter (noS nm)) := Lib.hid (by have h := HF.out; rwa [List.take_length] at h)
        clear HF hb0
        go_wp2
        go_loopw [10] (fun at_ wx => ∃ b : Nat, b ≤ l.length ∧ at_ = .int .i64 b ∧ X.filter (noS nm) = (l.take b).filter (noS nm) ∧ Ext wr wx) (fun at_ _ => l.length - (intOf at_).toNat)
        case atStart => exact ⟨b, hbl, rfl, HFx.out, Ext.refl _⟩
        case round =>
          clear HFx
          obtain ⟨d, hdl, rfl, hF, hb⟩ := hrel
          have HF := Lib.hid hF
          have hb0 := hb
          clear hF
          replace S : Sep w wr [plRow 33 2 encSet (.slice ay X.length cy) X, plRow 33 2 encSet (.slice ax X.length cx) X, plRow 33 2 encSet (.slice a l.length cap) l] := S.step hb
          clear hb
          by_cases hbt : d < l.length
          · obtain ⟨y, p, off, hy, hpe, c0, c1⟩ := atSet (S.rd 2 encSet_len rfl rfl) hbt
            subst hpe
            have hyn : y.name = nm := by
              have h1 := beside_end HL.out.2.2.1 HF.out y hy
              unfold noS at h1
              simpa using h1
            have HN : Hid (X.filter (noS nm) = (l.take (d + 1)).filter (noS nm)) := Lib.hid (by rw [takeF_skip hy (noS_false hyn)]; exact HF.out)
            rw [hyn] at c0
            have i1 : (d : Int) < (l.length : Int) := by omega
            have i0 : (0 : Int) ≤ (d : Int) := by omega
            clear hy hyn
            go_wp2
            go_roundw
            case rel => exact ⟨d + 1, by omega, by go_num, HN.out, hb0⟩
            case measure => simp [intOf]; omega
          · obtain rfl : d = l.length := by omega
            have hni : ¬ (l.length : Int) < (l.length : Int) := by omega
            have HfX := Lib.hid (sets_fits' HL.out.2.1)
            go_wp2_with fail
            refine (implSetSetting ax cx X nm tx _ (by omega) HfX.out (by omega) (by omega) (S.rd 1 encSet_len rfl rfl)).mono ?_
            rintro e w8 ⟨v8, M, ok2, rfl, hR, T⟩
            obtain ⟨k9, hk9⟩ := HL.out.2.2.2
            obtain ⟨rfl, rfl⟩ := setSR_again HL.out.2.1 hk9 hR
            obtain ⟨am, cm, hv, _, _, _⟩ := view_owns encSet_len (T.row 0 rfl)
            subst hv
            clear hR hk9
            replace S : Sep w w8 [plRow 33 2 encSet (.slice am M.length cm) M, plRow 33 2 encSet (.slice ay M.length cy) M, plRow 33 2 encSet (.slice ax M.length cx) M, plRow 33 2 encSet (.slice a l.length cap) l] := S.call T
            clear T
            go_wp2_with fail
            refine (implSettingsValid ax cx M _ (by omega) HfX.out (S.rd 2 encSet_len rfl rfl)).mono ?_
            rintro e w9 ⟨v9, rfl, hv9, hE⟩
            obtain rfl : v9 = true := hv9.2 HL.out.2.1
            clear hv9
            replace S : Sep w w9 [plRow 33 2 encSet (.slice am M.length cm) M, plRow 33 2 encSet (.slice ay M.length cy) M, plRow 33 2 encSet (.slice ax M.length cx) M, plRow 33 2 encSet (.slice a l.length cap) l] := S.step hE
            clear hE
            go_wp2_with fail
            refine (sameSets_any _ _ _ _ M M _ (by omega) (by omega) (S.rd 0 encSet_len rfl rfl) (S.rd 2 encSet_len rfl rfl)).mono ?_
            rintro e w10 ⟨v9, rfl, hv9, hE⟩
            obtain rfl : v9 = true := hv9.2 rfl
            clear hv9
            replace S : Sep w w10 [plRow 33 2 encSet (.slice am M.length cm) M, plRow 33 2 encSet (.slice ay M.length cy) M, plRow 33 2 encSet (.slice ax M.length cx) M, plRow 33 2 encSet (.slice a l.length cap) l] := S.step hE
            clear hE
            go_wp2
            go_ret
            exact RetB.mk true rfl (by simp) S.ext
      obtain ⟨⟨xn, xt⟩, p, off, hx, hpe, c0, c1⟩ := atSet (S.rd 1 encSet_len rfl rfl) hlt
      subst hpe
      simp only at c0 c1
      have Hx := Lib.hid hx
      clear hx
      have i1 : (k : Int) < (X.length : Int) := by omega
      have i0 : (0 : Int) ≤ (k : Int) := by omega
      by_cases hn : xn = nm
      · subst hn
        obtain ⟨k9, hk9⟩ := HL.out.2.2.2
        have hke : k = k9 := name_one HL.out.2.1 Hx.out hk9 rfl
        subst hke
        obtain rfl : tx = xt := by
          have h := Hx.out
          rw [hk9] at h
          simp at h
          exact h
        have HN : Hid ((X.take (k + 1)).filter (noS xn) = (l.take b).filter (noS xn)) := Lib.hid (by rw [takeF_skip Hx.out (noS_false rfl)]; exact HF.out)
        clear hk9
        go_wp2
        go_roundw
        case rel => exact ⟨k + 1, b, by omega, hbl, by go_num, rfl, HN.out, hb0⟩
        case measure => simp [intOf]; omega
      · have tn := name_ne hn
        have HXn : Hid (noS nm ⟨xn, xt⟩ = true) := Lib.hid (noS_true hn)
        clear hn
        go_wp2
        go_loopw [10] (fun at_ wx => ∃ b : Nat, b ≤ l.length ∧ at_ = .int .i64 b ∧ (X.take k).filter (noS nm) = (l.take b).filter (noS nm) ∧ Ext wr wx) (fun at_ _ => l.length - (intOf at_).toNat)
        case atStart => exact ⟨b, hbl, rfl, HF.out, Ext.refl _⟩
        case round =>
          clear HF c0 c1
          obtain ⟨d, hdl, rfl, hF, hb⟩ := hrel
          have HF := Lib.hid hF
          clear hF
          have HB := Lib.hid (beside_here HL.out.2.2.1 HF.out Hx.out HXn.out)
          have hdt : d < l.length := HB.out.1
          have hb1 := hb0.trans hb
          have hb2 := hb
          replace S : Sep w wr [plRow 33 2 encSet (.slice ay X.length cy) X, plRow 33 2 encSet (.slice (some ⟨p, off, none⟩) X.length cx) X, plRow 33 2 encSet (.slice a l.length cap) l] := S.step hb
          clear hb
          obtain ⟨⟨yn, yt⟩, py, offy, hy, hpe, c0, c1⟩ := atSet (S.rd 2 encSet_len rfl rfl) hdt
          subst hpe
          simp only at c0 c1
          have Hy := Lib.hid hy
          clear hy
          have j1 : (d : Int) < (l.length : Int) := by omega
          have j0 : (0 : Int) ≤ (d : Int) := by omega
          by_cases hyn : yn = nm
          · subst hyn
            have HN : Hid ((X.take k).filter (noS yn) = (l.take (d + 1)).filter (noS yn)) := Lib.hid (by rw [takeF_skip Hy.out (noS_false rfl)]; exact HF.out)
            go_wp2
            go_roundw
            case rel => exact ⟨d + 1, by omega, by go_num, HN.out, hb2⟩
            case measure => simp [intOf]; omega
          · have hxy : (⟨yn, yt⟩ : Set) = ⟨xn, xt⟩ := HB.out.2 _ Hy.out (noS_true hyn)
            have HXY := Lib.hid hxy
            obtain ⟨rfl, rfl⟩ : yn = xn ∧ yt = xt := by simpa using hxy
            clear hxy hyn
            have HN : Hid ((X.take (k + 1)).filter (noS nm) = (l.take (d + 1)).filter (noS nm)) := Lib.hid (takeF_both HF.out Hx.out Hy.out)
            obtain ⟨⟨_, _⟩, px, offx, hx, hpe, c2, c3⟩ := atSet (S.rd 1 encSet_len rfl rfl) hlt
            obtain ⟨rfl, rfl⟩ : p = px ∧ off = offx := by simpa using hpe
            rw [Hx.out] at hx
            cases hx
            simp only at c2 c3
            clear hpe
            have e1 := neqSet_same ⟨yn, yt⟩
            have e2 := fun w => guardSet .neq (.tmp 102) (.tmp 106) #[.string yn, .string yt] #[.string yn, .string yt] w
            go_wp2
            go_quiet (fail)
            clear e1 e2
            go_wp2
            go_roundw
            case rel => exact ⟨k + 1, d + 1, by omega, by omega, by go_num, by go_num, HN.out, hb1.drewN _⟩
            case measure => simp [intOf]; omega
end Go.Proofs.Ytekmfphlccomaaa
