/- FnEndTimers: the walk. Condition: the code is shorter than 2^63. -/
import Derived.Test.YtgjadebohneioaaDrawTm2
import Derived.Test.YtgjadebohneioaaTimP
import Derived.Test.YtgjadebohneioaaTimH
import Derived.Test.YtgjadebohneioaaSameI
import Derived.Test.YtgjadebohneioaaAlive
namespace Go.Proofs.Ytgjadebohneioaa
open Go.RowKit

set_option maxRecDepth 10000 in
set_option maxHeartbeats 8000000 in
theorem fnEndTimers_any (ac : Option Addr) (capc : Nat) (code : List Int) (w : World) (hlc : code.length ≤ 9223372036854775807) (hcap : code.length ≤ capc) (hu : ∀ x ∈ code, 0 ≤ x ∧ x ≤ 255) (hcc : Rd 1 encU8 w ac code) :
    Calls Try.prog 5 #[.slice ac code.length capc] w (RetB True w) := by
  go_enter Try.func5, Try.ntmps5
  by_cases hbig : 1048576 < code.length
  · have hb : (1048576 : Int) < (code.length : Int) := by omega
    go_wp2
    go_ret
    exact RetB.mk true rfl (by simp) (Ext.refl _)
  have hb : (code.length : Int) ≤ 1048576 := by omega
  have S := Sep.start w
  go_wp2_with fail
  refine (drawEndTimers ac capc code w hlc hcap hu hcc).mono ?_
  rintro e w1 ⟨u, l, now, rfl, hl9, T⟩
  obtain ⟨a, cap, hv, hlcap, _, _⟩ := view_owns encTim_len (T.row 0 rfl)
  subst hv
  replace S : Sep w w1 [plRow 30 3 encTim (.slice a l.length cap) l] := S.call T
  clear T
  clear hb hbig
  go_wp2_with fail
  refine (implEndTimers a cap l now _ (by omega) (S.rd 0 encTim_len rfl rfl)).mono ?_
  rintro e w3 ⟨v3, X, v4, W, rfl, hR, T⟩
  obtain ⟨ax, cx, hv, hxcap, _, _⟩ := view_owns encTim_len (T.row 0 rfl)
  subst hv
  obtain ⟨ae, ce, hv, hecap, _, _⟩ := view_owns encInt1_len (T.row 1 rfl)
  subst hv
  have HR := Lib.hid hR
  have hX8 := (endsR_len hR).1
  have hW40 := (endsR_len hR).2
  clear hR
  replace S : Sep w w3 [plRow 30 3 encTim (.slice ax X.length cx) X, plRow 3 1 encInt1 (.slice ae W.length ce) W, plRow 30 3 encTim (.slice a l.length cap) l] := S.call T
  clear T
  go_wp2_with fail
  refine (specEndTimers a cap l now _ (by omega) (S.rd 2 encTim_len rfl rfl)).mono ?_
  rintro e w4 ⟨v5, Y, v6, Z, rfl, hR, T⟩
  obtain ⟨rfl, rfl⟩ := endsR_fun HR.out hR
  obtain ⟨ay, cy, hv, hycap, _, _⟩ := view_owns encTim_len (T.row 0 rfl)
  subst hv
  obtain ⟨af, cf, hv, hfcap, _, _⟩ := view_owns encInt1_len (T.row 1 rfl)
  subst hv
  clear hR
  replace S : Sep w w4 [plRow 30 3 encTim (.slice ay X.length cy) X, plRow 3 1 encInt1 (.slice af W.length cf) W, plRow 30 3 encTim (.slice ax X.length cx) X, plRow 3 1 encInt1 (.slice ae W.length ce) W, plRow 30 3 encTim (.slice a l.length cap) l] := S.call T
  clear T
  go_wp2_with fail
  refine (sameTims_any _ _ _ _ X X _ (by omega) (by omega) (S.rd 2 encTim_len rfl rfl) (S.rd 0 encTim_len rfl rfl)).mono ?_
  rintro e w5 ⟨q5, rfl, hq, hE⟩
  obtain rfl : q5 = true := hq.2 rfl
  clear hq
  replace S : Sep w w5 [plRow 30 3 encTim (.slice ay X.length cy) X, plRow 3 1 encInt1 (.slice af W.length cf) W, plRow 30 3 encTim (.slice ax X.length cx) X, plRow 3 1 encInt1 (.slice ae W.length ce) W, plRow 30 3 encTim (.slice a l.length cap) l] := S.step hE
  clear hE
  go_wp2_with fail
  refine (sameInts_any _ _ _ _ W W _ (by omega) (by omega) (S.rd 3 encInt1_len rfl rfl) (S.rd 1 encInt1_len rfl rfl)).mono ?_
  rintro e w6 ⟨q5, rfl, hq, hE⟩
  obtain rfl : q5 = true := hq.2 rfl
  clear hq
  replace S : Sep w w6 [plRow 30 3 encTim (.slice ay X.length cy) X, plRow 3 1 encInt1 (.slice af W.length cf) W, plRow 30 3 encTim (.slice ax X.length cx) X, plRow 3 1 encInt1 (.slice ae W.length ce) W, plRow 30 3 encTim (.slice a l.length cap) l] := S.step hE
  clear hE
  go_wp2_with fail
  refine (implTimersValid a cap l _ (by omega) (S.rd 4 encTim_len rfl rfl)).mono ?_
  rintro e w7 ⟨v0, rfl, hv0, hE⟩
  have Hv0 := Lib.hid hv0
  clear hv0
  replace S : Sep w w7 [plRow 30 3 encTim (.slice ay X.length cy) X, plRow 3 1 encInt1 (.slice af W.length cf) W, plRow 30 3 encTim (.slice ax X.length cx) X, plRow 3 1 encInt1 (.slice ae W.length ce) W, plRow 30 3 encTim (.slice a l.length cap) l] := S.step hE
  clear hE
  have bad : ¬ (TimsOk l ∧ 0 ≤ now ∧ now ≤ 100000) → X = [] ∧ W = [] := fun h => ends_bad h HR.out
  cases v0 with
  | false =>
    obtain ⟨rfl, rfl⟩ := bad (fun h => Bool.noConfusion (Hv0.out.2 h.1))
    clear bad
    go_wp2_with fail
    refine (alive_any _).mono ?_
    rintro e w8 ⟨b3, rfl, hb3, hE⟩
    obtain rfl : b3 = true := hb3.2 trivial
    clear hb3
    replace S : Sep w w8 [plRow 30 3 encTim (.slice ay ([] : List Tim).length cy) ([] : List Tim), plRow 3 1 encInt1 (.slice af ([] : List Int).length cf) ([] : List Int), plRow 30 3 encTim (.slice ax ([] : List Tim).length cx) ([] : List Tim), plRow 3 1 encInt1 (.slice ae ([] : List Int).length ce) ([] : List Int), plRow 30 3 encTim (.slice a l.length cap) l] := S.step hE
    clear hE
    go_wp2
    go_ret
    exact RetB.mk true rfl (by simp) S.ext
  | true =>
    have HV := Lib.hid (Hv0.out.1 rfl)
    clear Hv0
    by_cases hn0 : now < 0
    · obtain ⟨rfl, rfl⟩ := bad (fun h => by omega)
      clear bad
      go_wp2_with fail
      refine (alive_any _).mono ?_
      rintro e w8 ⟨b3, rfl, hb3, hE⟩
      obtain rfl : b3 = true := hb3.2 trivial
      clear hb3
      replace S : Sep w w8 [plRow 30 3 encTim (.slice ay ([] : List Tim).length cy) ([] : List Tim), plRow 3 1 encInt1 (.slice af ([] : List Int).length cf) ([] : List Int), plRow 30 3 encTim (.slice ax ([] : List Tim).length cx) ([] : List Tim), plRow 3 1 encInt1 (.slice ae ([] : List Int).length ce) ([] : List Int), plRow 30 3 encTim (.slice a l.length cap) l] := S.step hE
      clear hE
      go_wp2
      go_ret
      exact RetB.mk true rfl (by simp) S.ext
    by_cases hn1 : 100000 < now
    · obtain ⟨rfl, rfl⟩ := bad (fun h => by omega)
      clear bad
      go_wp2_with fail
      refine (alive_any _).mono ?_
      rintro e w8 ⟨b3, rfl, hb3, hE⟩
      obtain rfl : b3 = true := hb3.2 trivial
      clear hb3
      replace S : Sep w w8 [plRow 30 3 encTim (.slice ay ([] : List Tim).length cy) ([] : List Tim), plRow 3 1 encInt1 (.slice af ([] : List Int).length cf) ([] : List Int), plRow 30 3 encTim (.slice ax ([] : List Tim).length cx) ([] : List Tim), plRow 3 1 encInt1 (.slice ae ([] : List Int).length ce) ([] : List Int), plRow 30 3 encTim (.slice a l.length cap) l] := S.step hE
      clear hE
      go_wp2
      go_ret
      exact RetB.mk true rfl (by simp) S.ext
    have HA : Hid (TimsOk l ∧ 0 ≤ now ∧ now ≤ 100000) := Lib.hid ⟨HV.out, by omega, by omega⟩
    clear bad
    go_wp2_with fail
    refine (implEndTimers ax cx X now _ (by omega) (S.rd 2 encTim_len rfl rfl)).mono ?_
    rintro e w8 ⟨v7, M, v8, V, rfl, hR, T⟩
    have HLaw := Lib.hid (ends_law HA.out HR.out hR)
    have HXok : Hid (TimsOk X) := Lib.hid HLaw.out.1
    have hXl : X.length ≤ l.length := HLaw.out.2.1
    obtain ⟨am, cm, hv, _, _, _⟩ := view_owns encTim_len (T.row 0 rfl)
    subst hv
    obtain ⟨av, cv, hv, _, _, _⟩ := view_owns encInt1_len (T.row 1 rfl)
    subst hv
    clear hR
    replace S : Sep w w8 [plRow 30 3 encTim (.slice am M.length cm) M, plRow 3 1 encInt1 (.slice av V.length cv) V, plRow 30 3 encTim (.slice ay X.length cy) X, plRow 3 1 encInt1 (.slice af W.length cf) W, plRow 30 3 encTim (.slice ax X.length cx) X, plRow 3 1 encInt1 (.slice ae W.length ce) W, plRow 30 3 encTim (.slice a l.length cap) l] := S.call T
    clear T
    go_wp2_with fail
    refine (implTimersValid ax cx X _ (by omega) (S.rd 4 encTim_len rfl rfl)).mono ?_
    rintro e w9 ⟨v1, rfl, hv1, hE⟩
    obtain rfl : v1 = true := hv1.2 HXok.out
    clear hv1
    replace S : Sep w w9 [plRow 30 3 encTim (.slice am M.length cm) M, plRow 3 1 encInt1 (.slice av V.length cv) V, plRow 30 3 encTim (.slice ay X.length cy) X, plRow 3 1 encInt1 (.slice af W.length cf) W, plRow 30 3 encTim (.slice ax X.length cx) X, plRow 3 1 encInt1 (.slice ae W.length ce) W, plRow 30 3 encTim (.slice a l.length cap) l] := S.step hE
    clear hE
    have i1 : (X.length : Int) ≤ (l.length : Int) := by omega
    by_cases h40 : 40 ≤ W.length
    · have i2 : (40 : Int) ≤ (W.length : Int) := by omega
      go_wp2
      go_ret
      exact RetB.mk true rfl (by simp) S.ext
    · have i2 : (W.length : Int) < 40 := by omega
      obtain ⟨hV0, hcase⟩ := HLaw.out.2.2.resolve_left h40
      subst hV0
      rcases Nat.eq_zero_or_pos X.length with h0 | hpos
      · obtain rfl := List.eq_nil_of_length_eq_zero h0
        clear h0 hcase
        go_wp2
        go_ret
        exact RetB.mk true rfl (by simp) S.ext
      · obtain ⟨t, p, off, hy, hpe, c0, c1, c2⟩ := atTim (S.rd 4 encTim_len rfl rfl) hpos
        have ht : now < t.tm := by
          rcases hcase with rfl | ⟨t', r, rfl, h⟩
          · simp at hpos
          · simp at hy; rw [← hy]; exact h
        subst hpe
        simp only [Nat.zero_mul, Nat.add_zero] at c0
        have i3 : (0 : Int) < (X.length : Int) := by omega
        have hxe : ¬ X = [] := fun h => by rw [h] at hpos; simp at hpos
        clear hy hcase
        go_wp2
        all_goals
          go_ret
          exact RetB.mk true rfl (by simp) S.ext
end Go.Proofs.Ytgjadebohneioaa
