/- FnRightsAt: the walk. Condition: the code is shorter than 2^63. -/
import Derived.Test.YthajlaelaebmnaaDrawRg2
import Derived.Test.YthajlaelaebmnaaRegR
import Derived.Test.YthajlaelaebmnaaAlive
namespace Go.Proofs.Ythajlaelaebmnaa
open Go.RowKit

theorem rAt_hit {l : List Reg} {page n : Int} {k : Nat} {x : Reg} (hR : RAtR l page n) (hv : RegsOk l) (hx : l[k]? = some x) (hh : has x page) : n = x.r :=
  rights_unique hv (hR.1 hv) (.inl ⟨x, List.mem_of_getElem? hx, hh, rfl⟩)
theorem rAt_none {l : List Reg} {page n : Int} (hR : RAtR l page n) (h : ∀ j x, j < l.length → l[j]? = some x → ¬ has x page) : n = -1 := by
  by_cases hv : RegsOk l
  · rcases hR.1 hv with ⟨x, hx, hh, _⟩ | ⟨_, hn⟩
    · obtain ⟨j, hj⟩ := List.getElem?_of_mem hx
      exact absurd hh (h j x (List.getElem?_eq_some_iff.1 hj).1 hj)
    · exact hn
  · exact hR.2 hv
theorem has_next {l : List Reg} {page : Int} {k : Nat} {x : Reg} (h : ∀ j x, j < k → l[j]? = some x → ¬ has x page) (hx : l[k]? = some x) (hn : ¬ has x page) : ∀ j x, j < k + 1 → l[j]? = some x → ¬ has x page := fun j y hj hy => by
  rcases Nat.lt_succ_iff_lt_or_eq.1 hj with h' | rfl
  · exact h j y h' hy
  · rw [hx] at hy; cases hy; exact hn

set_option maxRecDepth 10000 in
set_option maxHeartbeats 8000000 in
theorem fnRightsAt_any (ac : Option Addr) (capc : Nat) (code : List Int) (w : World) (hlc : code.length ≤ 9223372036854775807) (hcap : code.length ≤ capc) (hu : ∀ x ∈ code, 0 ≤ x ∧ x ≤ 255) (hcc : Rd 1 encU8 w ac code) :
    Calls Try.prog 6 #[.slice ac code.length capc] w (RetB True w) := by
  go_enter Try.func6, Try.ntmps6
  by_cases hbig : 1048576 < code.length
  · have hb : (1048576 : Int) < (code.length : Int) := by omega
    go_wp2
    go_ret
    exact RetB.mk true rfl (by simp) (Ext.refl _)
  have hb : (code.length : Int) ≤ 1048576 := by omega
  have S := Sep.start w
  go_wp2_with fail
  refine (drawRightsAt ac capc code w hlc hcap hu hcc).mono ?_
  rintro e w1 ⟨u, l, page, rfl, hl9, hpg, T⟩
  obtain ⟨a, cap, hv, hlcap, _, _⟩ := view_owns encReg_len (T.row 0 rfl)
  subst hv
  replace S : Sep w w1 [plRow 33 3 encReg (.slice a l.length cap) l] := S.call T
  clear T
  clear hb hbig hpg
  go_wp2_with fail
  refine (implRightsAt a cap l page w1 (by omega) (S.rd 0 encReg_len rfl rfl)).mono ?_
  rintro e w2 ⟨n, rfl, hR, T⟩
  have HR := Lib.hid hR
  clear hR
  replace S : Sep w w2 [plRow 33 3 encReg (.slice a l.length cap) l] := S.call T
  clear T
  go_wp2_with fail
  refine (specRightsAt a cap l page w2 (by omega) (S.rd 0 encReg_len rfl rfl)).mono ?_
  rintro e w3 ⟨n', rfl, hR, T⟩
  obtain rfl := rAtR_fun HR.out hR
  clear hR
  replace S : Sep w w3 [plRow 33 3 encReg (.slice a l.length cap) l] := S.call T
  clear T
  have tn : (n != n) = false := by simp
  go_wp2
  go_loopw [6] (fun i wr => ∃ k : Nat, k ≤ l.length ∧ i = .int .i64 k ∧ (∀ j x, j < k → l[j]? = some x → ¬ has x page) ∧ Ext w3 wr) (fun i _ => l.length - (intOf i).toNat)
  case atStart => exact ⟨0, Nat.zero_le _, rfl, fun _ _ h => absurd h (Nat.not_lt_zero _), Ext.refl _⟩
  case round =>
    obtain ⟨k, hk, rfl, hpre, hb⟩ := hrel
    have Hpre := Lib.hid hpre
    have hb0 := hb
    clear hpre
    replace S : Sep w wr [plRow 33 3 encReg (.slice a l.length cap) l] := S.step hb
    clear hb
    have R64 := rAt_out (l := l) (page := 64) (by omega)
    have HR64 := Lib.hid R64
    clear R64
    by_cases hlt : k < l.length
    · have i1 : (k : Int) < (l.length : Int) := by omega
      have i0 : (0 : Int) ≤ (k : Int) := by omega
      go_wp2_with fail
      refine (implRegionsValid _ _ l wr (by omega) (S.rd 0 encReg_len rfl rfl)).mono ?_
      rintro e w4 ⟨v0, rfl, hv0, hE⟩
      have Hv0 := Lib.hid hv0
      have hb1 := hb0.trans hE
      clear hv0
      replace S : Sep w w4 [plRow 33 3 encReg (.slice a l.length cap) l] := S.step hE
      clear hE
      cases v0 with
      | false =>
        obtain rfl : n = -1 := HR.out.2 (fun h => Bool.noConfusion (Hv0.out.2 h))
        clear Hv0 hb0 hb1
        go_wp2_with fail
        refine (implRightsAt a cap l 64 w4 (by omega) (S.rd 0 encReg_len rfl rfl)).mono ?_
        rintro e w5 ⟨n5, rfl, hR, T⟩
        obtain rfl := rAtR_fun HR64.out hR
        clear hR
        replace S : Sep w w5 [plRow 33 3 encReg (.slice a l.length cap) l] := S.call T
        clear T
        go_wp2_with fail
        refine (alive_any _).mono ?_
        rintro e w6 ⟨b3, rfl, hb3, hE⟩
        obtain rfl : b3 = true := hb3.2 trivial
        clear hb3
        replace S : Sep w w6 [plRow 33 3 encReg (.slice a l.length cap) l] := S.step hE
        clear hE
        go_wp2
        go_ret
        exact RetB.mk true rfl (by simp) S.ext
      | true =>
        have HV := Lib.hid (Hv0.out.1 rfl)
        clear Hv0
        obtain ⟨x, p, off, hx, hpe, c0, c1, c2⟩ := atReg (S.rd 0 encReg_len rfl rfl) hlt
        subst hpe
        have Hx := Lib.hid hx
        clear hx
        by_cases h1 : x.f ≤ page
        · by_cases h2 : page < x.t
          · obtain rfl := rAt_hit HR.out HV.out Hx.out ⟨h1, h2⟩
            have hSE := S.ext
            go_wp2
            go_ret
            exact RetB.mk true rfl (by simp) hSE
          · have HN := Lib.hid (has_next Hpre.out Hx.out (fun h => h2 h.2))
            have h3 : ¬ (page < x.t) := h2
            have h4 : decide (page < x.t) = false := by simpa using h2
            clear h2
            go_wp2
            go_roundw
            case rel => exact ⟨k + 1, by omega, by go_num, HN.out, hb1⟩
            case measure => simp [intOf]; omega
        · have HN := Lib.hid (has_next Hpre.out Hx.out (fun h => h1 h.1))
          have h4 : decide (x.f ≤ page) = false := by simpa using h1
          go_wp2
          go_roundw
          case rel => exact ⟨k + 1, by omega, by go_num, HN.out, hb1⟩
          case measure => simp [intOf]; omega
    · obtain rfl : k = l.length := by omega
      have hni : ¬ (l.length : Int) < (l.length : Int) := by omega
      obtain rfl : n = -1 := rAt_none HR.out Hpre.out
      clear hb0
      go_wp2_with fail
      refine (implRightsAt a cap l 64 wr (by omega) (S.rd 0 encReg_len rfl rfl)).mono ?_
      rintro e w5 ⟨n5, rfl, hR, T⟩
      obtain rfl := rAtR_fun HR64.out hR
      clear hR
      replace S : Sep w w5 [plRow 33 3 encReg (.slice a l.length cap) l] := S.call T
      clear T
      go_wp2_with fail
      refine (alive_any _).mono ?_
      rintro e w6 ⟨b3, rfl, hb3, hE⟩
      obtain rfl : b3 = true := hb3.2 trivial
      clear hb3
      replace S : Sep w w6 [plRow 33 3 encReg (.slice a l.length cap) l] := S.step hE
      clear hE
      go_wp2
      go_ret
      exact RetB.mk true rfl (by simp) S.ext
end Go.Proofs.Ythajlaelaebmnaa
