/- FnReadSettings: the walk. Condition: the code is shorter than 2^63; the library's own variable holds some number. -/
import Derived.Test.YtekmfphlccomaaaDoorSetF3
namespace Go.Proofs.YtekmfphlccomaaaDoor
open Go.RowKit

theorem read_more {s : ByteArray} {X : List Set} {ok : Bool} (h : ReadSR (s ++ ⟨#[59]⟩) X ok) : ok = false := by
  rcases h with ⟨_, h1, h2⟩ | ⟨h, _⟩
  · have h3 := textB_eq.1 h2.symm
    have h4 : (s ++ ⟨#[59]⟩ : ByteArray).data.toList = s.data.toList ++ [59] := by simp
    rw [h4] at h3
    exact absurd h3 (text_end h1 _)
  · exact h

set_option maxRecDepth 10000 in
set_option maxHeartbeats 8000000 in
theorem fnReadSettings_any (ac : Option Addr) (capc : Nat) (code : List Int) (m : Int) (w : World) (hm : w.cell? ⟨maxLenG, 0, none⟩ = some (.int .i64 m)) (hlc : code.length ≤ 9223372036854775807) (hcap : code.length ≤ capc) (hu : ∀ x ∈ code, 0 ≤ x ∧ x ≤ 255) (hcc : Rd 1 encU8 w ac code) :
    Calls Tryd.prog 5 #[.slice ac code.length capc] w (RetB True w) := by
  go_enter Tryd.func5, Tryd.ntmps5
  by_cases hbig : 1048576 < code.length
  · have hb : (1048576 : Int) < (code.length : Int) := by omega
    go_wp2
    go_ret
    exact RetB.mk true rfl (by simp) (Ext.refl _)
  have hb : (code.length : Int) ≤ 1048576 := by omega
  have S := Sep.start w
  go_wp2_with fail
  refine (drawReadSettings ac capc code w hlc hcap hu hcc).mono ?_
  rintro e w1 ⟨s, rfl, hsz, hE⟩
  replace S : Sep w w1 [] := S.step hE
  clear hE
  clear hb hbig
  go_wp2_with fail
  refine (implReadSettings s m _ (by omega) (cell_ext S.ext hm)).mono ?_
  rintro e w2 ⟨u2, X, ok, rfl, hR, T⟩
  have HR := Lib.hid hR
  have hX8 := readSR_len hR
  clear hR
  obtain ⟨ax, cx, hv, _, _, _⟩ := view_owns encSet_len (T.row 0 rfl)
  subst hv
  replace S : Sep w w2 [plRow 40 2 encSet (.slice ax X.length cx) X] := S.call T
  clear T
  go_wp2_with fail
  refine (specReadSettings s _ (by omega)).mono ?_
  rintro e w3 ⟨u3, Y, ok2, rfl, hR, T⟩
  obtain ⟨rfl, rfl⟩ := readSR_fun HR.out hR
  clear hR
  obtain ⟨ay, cy, hv, _, _, _⟩ := view_owns encSet_len (T.row 0 rfl)
  subst hv
  replace S : Sep w w3 [plRow 40 2 encSet (.slice ay X.length cy) X, plRow 40 2 encSet (.slice ax X.length cx) X] := S.call T
  clear T
  have tok : (ok != ok) = false := by simp
  go_wp2_with fail
  refine (sameSets_any _ _ _ _ X X _ (by omega) (by omega) (S.rd 1 encSet_len rfl rfl) (S.rd 0 encSet_len rfl rfl)).mono ?_
  rintro e w4 ⟨q4, rfl, hq, hE⟩
  obtain rfl : q4 = true := hq.2 rfl
  clear hq
  replace S : Sep w w4 [plRow 40 2 encSet (.slice ay X.length cy) X, plRow 40 2 encSet (.slice ax X.length cx) X] := S.step hE
  clear hE
  cases ok with
  | false =>
    obtain rfl : X = [] := by
      rcases HR.out with ⟨h, _⟩ | ⟨_, h, _⟩
      · cases h
      · exact h
    go_wp2_with fail
    refine (alive_any _).mono ?_
    rintro e w5 ⟨b3, rfl, hb3, hE⟩
    obtain rfl : b3 = true := hb3.2 trivial
    clear hb3
    replace S : Sep w w5 [plRow 40 2 encSet (.slice ay ([] : List Set).length cy) ([] : List Set), plRow 40 2 encSet (.slice ax ([] : List Set).length cx) ([] : List Set)] := S.step hE
    clear hE
    go_wp2
    go_ret
    exact RetB.mk true rfl (by simp) S.ext
  | true =>
    have HV : Hid (SetsOk X ∧ s = textB X) := Lib.hid (by
      rcases HR.out with ⟨_, h1, h2⟩ | ⟨h, _⟩
      · exact ⟨h1, h2⟩
      · cases h)
    have Hfx := Lib.hid (readSR_fits HR.out)
    have hs2 : (s ++ ⟨#[59]⟩).size < 4294967281 := by simp only [ByteArray.size_append]; show s.size + 1 < 4294967281; omega
    clear tok HR
    go_wp2_with fail
    have hC := implReadSettings (s ++ ⟨#[59]⟩) m w4 hs2 (cell_ext S.ext hm)
    refine hC.mono ?_
    rintro e w5 ⟨u5, Z, more, rfl, hR, T⟩
    obtain rfl := read_more hR
    clear hR
    replace S : Sep w w5 [plRow 40 2 encSet u5 Z, plRow 40 2 encSet (.slice ay X.length cy) X, plRow 40 2 encSet (.slice ax X.length cx) X] := S.call T
    clear T
    go_wp2_with fail
    refine (implSettingsText ax cx X _ (by omega) Hfx.out (S.rd 2 encSet_len rfl rfl)).mono ?_
    rintro e w6 ⟨t, rfl, hT, hE⟩
    obtain rfl : t = s := (hT.1 HV.out.1).trans HV.out.2.symm
    clear hT
    replace S : Sep w w6 [plRow 40 2 encSet u5 Z, plRow 40 2 encSet (.slice ay X.length cy) X, plRow 40 2 encSet (.slice ax X.length cx) X] := S.step hE
    clear hE
    go_wp2
    go_ret
    exact RetB.mk true rfl (by simp) S.ext
end Go.Proofs.YtekmfphlccomaaaDoor
