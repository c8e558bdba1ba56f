/- FnGroupsIn: the draw and the walk. Condition: the code is shorter than 2^63. -/
import Derived.Test.YtlmelknadappbaaDrawMem
import Derived.Test.YtlmelknadappbaaMemH
import Derived.Test.YtlmelknadappbaaSameI
import Derived.Test.YtlmelknadappbaaAlive
namespace Go.Proofs.Ytlmelknadappbaa
open Go.RowKit

set_option maxHeartbeats 4000000 in
theorem drawGroupsIn (a : Option Addr) (cap : Nat) (l : List Int) (w : World) (hl : l.length ≤ 9223372036854775807) (hcap : l.length ≤ cap) (hu : ∀ x ∈ l, 0 ≤ x ∧ x ≤ 255) (hc : Rd 1 encU8 w a l) :
    Calls Try.prog 32 #[.slice a l.length cap] w (fun e w' => ∃ u L n, e = .returned (.tuple #[u, .int .i64 n]) ∧ L.length ≤ 7 ∧ Sep w w' [plRow 33 3 encMem u L]) := by
  go_enter Try.func32, Try.ntmps32
  go_wp2_with fail
  refine (open_any a cap l w hl hcap hu hc).mono ?_
  rintro e w1 ⟨v, rfl, ⟨rfl, hs⟩, E⟩
  have hg0 := hs.lt
  go_wp2_with fail
  refine (drawMembers _ _ _ _ hs (by omega) (by omega)).mono ?_
  rintro e w2 ⟨vL, rfl, ⟨L, h1, h3⟩, hs2, hS⟩
  go_wp2_with fail
  refine (pick_any _ _ 4 _ hs2 (by omega)).mono ?_
  rintro e w3 ⟨v, rfl, ⟨z, rfl, z0, z1, _⟩, hs3, hS3⟩
  have hz := z1 (by omega)
  clear z1
  have hw : IntKind.i64.wrap (1 + z) = 1 + z := IntWalk.i64_in _ (by omega)
  have h4 := ownsRow_base (ownsRow_step h3 hS3 hg0) E.size
  have hS4 := (hS.trans hS3).toExt E (Nat.le_refl _)
  go_wp2
  go_ret2
  exact ⟨_, L, _, rfl, h1, Sep.of_owns hS4 h4⟩

theorem take_mem_step {X : List Int} {j : Nat} {y z : Int} (h : X[j]? = some y) : z ∈ X.take (j + 1) ↔ z ∈ X.take j ∨ y = z := by
  rw [List.take_add_one, h, List.mem_append]
  simp [eq_comm]

set_option maxRecDepth 10000 in
set_option maxHeartbeats 8000000 in
theorem fnGroupsIn_any (ac : Option Addr) (capc : Nat) (code : List Int) (w : World) (hlc : code.length ≤ 9223372036854775807) (hcap : code.length ≤ capc) (hu : ∀ x ∈ code, 0 ≤ x ∧ x ≤ 255) (hcc : Rd 1 encU8 w ac code) :
    Calls Try.prog 10 #[.slice ac code.length capc] w (RetB True w) := by
  go_enter Try.func10, Try.ntmps10
  by_cases hbig : 1048576 < code.length
  · have hb : (1048576 : Int) < (code.length : Int) := by omega
    go_wp2
    go_ret
    exact RetB.mk true rfl (by simp) (Ext.refl _)
  have hb : (code.length : Int) ≤ 1048576 := by omega
  have S := Sep.start w
  go_wp2_with fail
  refine (drawGroupsIn ac capc code w hlc hcap hu hcc).mono ?_
  rintro e w1 ⟨u, l, s, rfl, hl7, T⟩
  obtain ⟨a, cap, hv, hlcap, _, _⟩ := view_owns encMem_len (T.row 0 rfl)
  subst hv
  replace S : Sep w w1 [plRow 33 3 encMem (.slice a l.length cap) l] := S.call T
  clear T
  clear hb hbig
  go_wp2_with fail
  refine (implGroupsIn a cap l s _ (by omega) hlcap (S.rd 0 encMem_len rfl rfl)).mono ?_
  rintro e w3 ⟨v3, X, rfl, hR, T⟩
  obtain ⟨ax, cx, hv, hxcap, _, _⟩ := view_owns encInt1_len (T.row 0 rfl)
  subst hv
  have HR := Lib.hid hR
  have hX99 := groupsR_len hR
  clear hR
  replace S : Sep w w3 [plRow 3 1 encInt1 (.slice ax X.length cx) X, plRow 33 3 encMem (.slice a l.length cap) l] := S.call T
  clear T
  go_wp2_with fail
  refine (specGroupsIn a cap l s _ (by omega) (S.rd 1 encMem_len rfl rfl)).mono ?_
  rintro e w4 ⟨v5, Y, rfl, hR, T⟩
  obtain rfl := groupsR_fun HR.out hR
  obtain ⟨ay, cy, hv, _, _, _⟩ := view_owns encInt1_len (T.row 0 rfl)
  subst hv
  clear hR
  replace S : Sep w w4 [plRow 3 1 encInt1 (.slice ay X.length cy) X, plRow 3 1 encInt1 (.slice ax X.length cx) X, plRow 33 3 encMem (.slice a l.length cap) l] := S.call T
  clear T
  go_wp2_with fail
  refine (sameInts_any _ _ _ _ X X _ (by omega) (by omega) (S.rd 1 encInt1_len rfl rfl) (S.rd 0 encInt1_len rfl rfl)).mono ?_
  rintro e w5 ⟨q5, rfl, hq, hE⟩
  obtain rfl : q5 = true := hq.2 rfl
  clear hq
  replace S : Sep w w5 [plRow 3 1 encInt1 (.slice ay X.length cy) X, plRow 3 1 encInt1 (.slice ax X.length cx) X, plRow 33 3 encMem (.slice a l.length cap) l] := S.step hE
  clear hE
  have HAsc : Hid (X.Pairwise (· < ·)) := Lib.hid (by
    by_cases hv : MembersOk l
    · exact (HR.out.2 hv).1
    · rw [HR.out.1 hv]; exact .nil)
  go_wp2
  go_loopw [6] (fun i wr => ∃ m : Nat, (m = 0 ∨ m < X.length) ∧ i = .int .i64 ((m + 1 : Nat) : Int) ∧ Ext w5 wr) (fun i _ => X.length + 1 - (intOf i).toNat)
  case atStart => exact ⟨0, .inl rfl, rfl, Ext.refl _⟩
  case round =>
    obtain ⟨m, hm, rfl, hb⟩ := hrel
    have hb0 := hb
    replace S : Sep w wr [plRow 3 1 encInt1 (.slice ay X.length cy) X, plRow 3 1 encInt1 (.slice ax X.length cx) X, plRow 33 3 encMem (.slice a l.length cap) l] := S.step hb
    clear hb
    by_cases hlt : m + 1 < X.length
    · obtain ⟨x1, p, off, hx1, hpe, c1⟩ := atInt (S.rd 1 encInt1_len rfl rfl) hlt
      obtain ⟨x0, p', off', hx0, hpe', c0⟩ := atInt (S.rd 1 encInt1_len rfl rfl) (show m < X.length by omega)
      subst hpe
      obtain ⟨rfl, rfl⟩ : p = p' ∧ off = off' := by simpa using hpe'
      have hlt01 : x0 < x1 := by
        obtain ⟨h1, e1⟩ := List.getElem?_eq_some_iff.1 hx1
        obtain ⟨h0, e0⟩ := List.getElem?_eq_some_iff.1 hx0
        rw [← e1, ← e0]
        exact List.pairwise_iff_getElem.1 HAsc.out m (m + 1) h0 h1 (by omega)
      clear hx1 hx0 hpe'
      have i1 : ((m + 1 : Nat) : Int) < (X.length : Int) := by omega
      have i0 : (0 : Int) ≤ ((m + 1 : Nat) : Int) := by omega
      have j1 : (m : Int) < (X.length : Int) := by omega
      have j0 : (0 : Int) ≤ (m : Int) := by omega
      have hw : IntKind.i64.wrap (((m + 1 : Nat) : Int) - 1) = (m : Int) := by rw [show ((m + 1 : Nat) : Int) - 1 = m by omega]; exact IntWalk.i64_in _ (by omega)
      have hle : ¬ x1 ≤ x0 := by omega
      go_wp2
      go_quiet (fail)
      go_wp2
      go_roundw
      case rel => exact ⟨m + 1, .inr hlt, by go_num, hb0.drewN _⟩
      case measure => simp [intOf]; omega
    · have i1 : (X.length : Int) ≤ ((m + 1 : Nat) : Int) := by omega
      clear hb0
      go_wp2
      go_loopw [7, 8, 9] (fun i _ _ wx => ∃ k : Nat, k ≤ l.length ∧ i = .int .i64 k ∧ Ext wr wx) (fun i _ _ _ => l.length - (intOf i).toNat)
      case atStart => exact ⟨0, Nat.zero_le _, rfl, Ext.refl _⟩
      case round =>
        obtain ⟨k, hk, rfl, hb⟩ := hrel
        have hb0 := hb
        replace S : Sep w wr [plRow 3 1 encInt1 (.slice ay X.length cy) X, plRow 3 1 encInt1 (.slice ax X.length cx) X, plRow 33 3 encMem (.slice a l.length cap) l] := S.step hb
        clear hb
        by_cases hlk : k < l.length
        rotate_left
        · obtain rfl : k = l.length := by omega
          have hni : ¬ (l.length : Int) < (l.length : Int) := by omega
          go_wp2_with fail
          refine (alive_any _).mono ?_
          rintro e w7 ⟨b3, rfl, hb3, hE⟩
          obtain rfl : b3 = true := hb3.2 trivial
          clear hb3
          replace S : Sep w w7 [plRow 3 1 encInt1 (.slice ay X.length cy) X, plRow 3 1 encInt1 (.slice ax X.length cx) X, plRow 33 3 encMem (.slice a l.length cap) l] := S.step hE
          clear hE
          go_wp2
          go_ret
          exact RetB.mk true rfl (by simp) S.ext
        · have k1 : (k : Int) < (l.length : Int) := by omega
          have k0 : (0 : Int) ≤ (k : Int) := by omega
          go_wp2_with fail
          refine (implMembersValid a cap l _ (by omega) hlcap (S.rd 2 encMem_len rfl rfl)).mono ?_
          rintro e w6 ⟨v0, rfl, hv0, hE⟩
          have Hv0 := Lib.hid hv0
          clear hv0
          replace hb0 := hb0.trans hE
          replace S : Sep w w6 [plRow 3 1 encInt1 (.slice ay X.length cy) X, plRow 3 1 encInt1 (.slice ax X.length cx) X, plRow 33 3 encMem (.slice a l.length cap) l] := S.step hE
          clear hE
          cases v0 with
          | false =>
            go_wp2_with fail
            refine (alive_any _).mono ?_
            rintro e w7 ⟨b3, rfl, hb3, hE⟩
            obtain rfl : b3 = true := hb3.2 trivial
            clear hb3
            replace S : Sep w w7 [plRow 3 1 encInt1 (.slice ay X.length cy) X, plRow 3 1 encInt1 (.slice ax X.length cx) X, plRow 33 3 encMem (.slice a l.length cap) l] := S.step hE
            clear hE
            go_wp2
            go_ret
            exact RetB.mk true rfl (by simp) S.ext
          | true =>
            have HV := Lib.hid (Hv0.out.1 rfl)
            clear Hv0
            obtain ⟨x, p, off, hx, hpe, c0, c1, c2⟩ := atMem (S.rd 2 encMem_len rfl rfl) hlk
            subst hpe
            have HAsk := Lib.hid (groups_ask HR.out HV.out (List.mem_of_getElem? hx))
            clear hx c0
            go_wp2
            go_loopw [8, 9] (fun f i wx => ∃ (j : Nat) (b : Bool), j ≤ X.length ∧ i = .int .i64 j ∧ f = .bool b ∧ (b = true ↔ x.grp ∈ X.take j) ∧ Ext w6 wx) (fun _ i _ => X.length - (intOf i).toNat)
            case atStart => exact ⟨0, false, Nat.zero_le _, rfl, rfl, by simp, Ext.refl _⟩
            case round =>
              obtain ⟨j, b, hj, rfl, rfl, hbm, hb⟩ := hrel
              have Hbm := Lib.hid hbm
              have hb1 := hb
              replace c1 := cell_ext hb c1
              replace c2 := cell_ext hb c2
              clear hbm
              replace S : Sep w wr [plRow 3 1 encInt1 (.slice ay X.length cy) X, plRow 3 1 encInt1 (.slice ax X.length cx) X, plRow 33 3 encMem (.slice (some ⟨p, off, none⟩) l.length cap) l] := S.step hb
              clear hb
              by_cases hlj : j < X.length
              · obtain ⟨y, px, offx, hy, hpe, d0⟩ := atInt (S.rd 1 encInt1_len rfl rfl) hlj
                subst hpe
                have HM := Lib.hid (take_mem_step (z := x.grp) hy)
                clear hy
                have j1 : (j : Int) < (X.length : Int) := by omega
                have j0 : (0 : Int) ≤ (j : Int) := by omega
                cases b with
                | true =>
                  have HN : Hid (true = true ↔ x.grp ∈ X.take (j + 1)) := Lib.hid ⟨fun _ => HM.out.2 (.inl (Hbm.out.1 rfl)), fun _ => rfl⟩
                  go_wp2
                  go_quiet (fail)
                  go_wp2
                  go_roundw
                  case rel => exact ⟨j + 1, true, by omega, by go_num, rfl, (by simpa using HN.out), hb1.drewN _⟩
                  case measure => simp [intOf]; omega
                | false =>
                  by_cases hyx : y = x.grp
                  · have HN : Hid (true = true ↔ x.grp ∈ X.take (j + 1)) := Lib.hid ⟨fun _ => HM.out.2 (.inr hyx), fun _ => rfl⟩
                    have te : (y == x.grp) = true := by simpa using hyx
                    clear hyx
                    go_wp2
                    go_quiet (fail)
                    go_wp2
                    go_roundw
                    case rel => exact ⟨j + 1, true, by omega, by go_num, rfl, (by simpa using HN.out), hb1.drewN _⟩
                    case measure => simp [intOf]; omega
                  · have HN : Hid (false = true ↔ x.grp ∈ X.take (j + 1)) := Lib.hid ⟨fun h => Bool.noConfusion h, fun h => absurd (HM.out.1 h) (fun h => h.elim (fun h => Bool.noConfusion (Hbm.out.2 h)) hyx)⟩
                    have te : (y == x.grp) = false := by simpa using hyx
                    clear hyx
                    go_wp2
                    go_quiet (fail)
                    go_wp2
                    go_roundw
                    case rel => exact ⟨j + 1, false, by omega, by go_num, rfl, (by simpa using HN.out), hb1.drewN _⟩
                    case measure => simp [intOf]; omega
              · obtain rfl : j = X.length := by omega
                have hni : ¬ (X.length : Int) < (X.length : Int) := by omega
                have HB : Hid (b = true ↔ x.ses = s) := Lib.hid (by
                  have h := Hbm.out
                  rw [List.take_length] at h
                  exact h.trans HAsk.out)
                clear Hbm
                cases b with
                | true =>
                  have te : (x.ses == s) = true := by simpa using HB.out.1 rfl
                  go_wp2
                  go_roundw
                  case rel => exact ⟨k + 1, by omega, by go_num, hb0.trans hb1⟩
                  case measure => simp [intOf]; omega
                | false =>
                  have te : (x.ses == s) = false := by simpa using fun h => Bool.noConfusion (HB.out.2 h)
                  go_wp2
                  go_roundw
                  case rel => exact ⟨k + 1, by omega, by go_num, hb0.trans hb1⟩
                  case measure => simp [intOf]; omega
end Go.Proofs.Ytlmelknadappbaa
