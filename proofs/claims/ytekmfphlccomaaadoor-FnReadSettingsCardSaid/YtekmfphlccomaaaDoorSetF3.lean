/- FnSettingsText: the draws of settings' texts and the walk. Condition: the code is shorter than 2^63; the library's own variable holds some number. -/
import Derived.Test.YtekmfphlccomaaaDoorDrawSet
import Derived.Test.YtekmfphlccomaaaDoorSetU
import Derived.Test.YtekmfphlccomaaaDoorAlive
namespace Go.Proofs.YtekmfphlccomaaaDoor
open Go.RowKit

theorem textR_size {L : List Set} {s : ByteArray} (h : TextR L s) : s.size ≤ 208 := by
  by_cases hv : SetsOk L
  · have h1 := textL_len hv L.length (Nat.le_refl _)
    rw [List.take_length] at h1
    have h2 := hv.2
    rw [h.1 hv]
    show (textL L).toArray.size ≤ 208
    rw [List.size_toArray]
    omega
  · rw [h.2 hv]; exact Nat.zero_le _

set_option maxHeartbeats 4000000 in
theorem drawSettingsText (a : Option Addr) (cap : Nat) (l : List Int) (w : World) (hl : l.length ≤ 9223372036854775807) (hcap : l.length ≤ cap) (hu : ∀ x ∈ l, 0 ≤ x ∧ x ≤ 255) (hc : Rd 1 encU8 w a l) :
    Calls Tryd.prog 6 #[.slice a l.length cap] w (fun e w' => ∃ u L, e = .returned u ∧ L.length ≤ 10 ∧ FitsS L ∧ Sep w w' [plRow 40 2 encSet u L]) := by
  go_enter Tryd.func6, Tryd.ntmps6
  go_wp2_with fail
  refine (open_any a cap l w hl hcap hu hc).mono ?_
  rintro e w1 ⟨v, rfl, ⟨rfl, hs⟩, E⟩
  go_wp2_with fail
  refine (drawSettings _ _ _ _ hs (by omega) (by omega)).mono ?_
  rintro e w2 ⟨v, rfl, ⟨L, h1, h2, h3⟩, hs2, hS⟩
  go_wp2
  go_ret
  exact ⟨_, L, rfl, h1, h2, Sep.of_owns (hS.toExt E (Nat.le_refl _)) (ownsRow_base h3 E.size)⟩

set_option maxRecDepth 10000 in
set_option maxHeartbeats 8000000 in
theorem drawReadSettings (a : Option Addr) (cap : Nat) (l : List Int) (w : World) (hl : l.length ≤ 9223372036854775807) (hcap : l.length ≤ cap) (hu : ∀ x ∈ l, 0 ≤ x ∧ x ≤ 255) (hc : Rd 1 encU8 w a l) :
    Calls Tryd.prog 17 #[.slice a l.length cap] w (fun e w' => ∃ s : ByteArray, e = .returned (.string s) ∧ s.size ≤ 300 ∧ Ext w w') := by
  go_enter Tryd.func17, Tryd.ntmps17
  go_wp2_with fail
  refine (open_any a cap l w hl hcap hu hc).mono ?_
  rintro e w1 ⟨v, rfl, ⟨rfl, hs⟩, E⟩
  have hg0 := hs.lt
  go_wp2_with fail
  refine (drawSettings _ _ _ _ hs (by omega) (by omega)).mono ?_
  rintro e w2 ⟨v, rfl, ⟨L, h1, h2, h3⟩, hs2, hS⟩
  obtain ⟨b, c, hv, _, hrd, _⟩ := view_owns encSet_len h3
  subst hv
  have Hfit := Lib.hid h2
  clear h2 h3
  go_wp2_with fail
  refine (specSettingsText b c L w2 (by omega) Hfit.out hrd).mono ?_
  rintro e w3 ⟨s, rfl, hT, hE3⟩
  have hsz := textR_size hT
  have hs3 := hs2.ext hE3
  replace hS := hS.ext hE3
  clear hT hs2 hE3 hrd
  go_wp2_with fail
  refine (odd_any _ _ 3 w3 hs3 (by omega) (by omega)).mono ?_
  rintro e w4 ⟨v, rfl, ⟨ob, rfl, _⟩, hs4, hS4⟩
  replace hS := hS.trans hS4
  clear hS4 hs3
  cases ob with
  | false =>
    go_wp2
    go_ret
    exact ⟨s, rfl, by omega, hS.toExt E (Nat.le_refl _)⟩
  | true =>
    have hm1 : s.size ≤ 9223372036854775807 := by omega
    obtain ⟨C, hC⟩ : ∃ C : Array Value, C = #[.string ⟨#[97]⟩, .string ⟨#[61, 98]⟩, .string ⟨#[98, 61, 49, 59, 97, 61, 50]⟩, .string ⟨#[97, 61, 49, 59, 97, 61, 50]⟩, .string ⟨#[97, 61, 49, 59]⟩, .string ⟨#[65, 61, 49]⟩, .string ⟨#[97, 61, 10]⟩, .string (s ++ ⟨#[59]⟩), .string (s ++ ⟨#[59, 122, 61, 49]⟩)] := ⟨_, rfl⟩
    have hE5 := (Ext.refl w4).alloc (.cells C 9)
    have hcell : ∀ (o : Nat) (v : Value), C[o]? = some v → (w4.alloc (.cells C 9)).cell? ⟨w4.heap.size, o, none⟩ = some v := fun o v h => cell_new w4 _ _ o v h
    have hs5 := hs4.ext hE5
    have hne : w4.heap.size ≠ w.heap.size := by have := hs4.lt; omega
    have hB5 : w4.heap.size < (w4.alloc (.cells C 9)).heap.size := size_new w4 _
    replace hS := hS.ext hE5
    have HC := Lib.hid hC
    go_wp2_with fail
    simp only [← hC]
    clear hC
    generalize (w4.alloc (.cells C 9)) = w5 at *
    generalize w4.heap.size = B at *
    refine (pick_any _ _ 9 w5 hs5 (by omega)).mono ?_
    rintro e w6 ⟨v, rfl, ⟨z, rfl, z0, z1, _⟩, hs6, hS6⟩
    have z9 := z1 (by omega)
    clear z1
    have hcell6 : ∀ (o : Nat) (v : Value), C[o]? = some v → w6.cell? ⟨B, o, none⟩ = some v := fun o v h => cell_step hS6 hne (hcell o v h)
    have hEf := (hS.trans hS6).toExt E (Nat.le_refl _)
    have hz1 : (s ++ ⟨#[59]⟩).size ≤ 300 := by simp only [ByteArray.size_append]; show s.size + 1 ≤ 300; omega
    have hz2 : (s ++ ⟨#[59, 122, 61, 49]⟩).size ≤ 300 := by simp only [ByteArray.size_append]; show s.size + 4 ≤ 300; omega
    clear hcell hS hS6 hs6 hs5
    rcases (show z = 0 ∨ z = 1 ∨ z = 2 ∨ z = 3 ∨ z = 4 ∨ z = 5 ∨ z = 6 ∨ z = 7 ∨ z = 8 by omega) with rfl | rfl | rfl | rfl | rfl | rfl | rfl | rfl | rfl
    · have c0 := hcell6 0 (.string ⟨#[97]⟩) (by rw [HC.out]; rfl)
      clear hcell6
      go_wp2
      go_ret
      exact ⟨_, rfl, by decide, hEf⟩
    · have c0 := hcell6 1 (.string ⟨#[61, 98]⟩) (by rw [HC.out]; rfl)
      clear hcell6
      go_wp2
      go_ret
      exact ⟨_, rfl, by decide, hEf⟩
    · have c0 := hcell6 2 (.string ⟨#[98, 61, 49, 59, 97, 61, 50]⟩) (by rw [HC.out]; rfl)
      clear hcell6
      go_wp2
      go_ret
      exact ⟨_, rfl, by decide, hEf⟩
    · have c0 := hcell6 3 (.string ⟨#[97, 61, 49, 59, 97, 61, 50]⟩) (by rw [HC.out]; rfl)
      clear hcell6
      go_wp2
      go_ret
      exact ⟨_, rfl, by decide, hEf⟩
    · have c0 := hcell6 4 (.string ⟨#[97, 61, 49, 59]⟩) (by rw [HC.out]; rfl)
      clear hcell6
      go_wp2
      go_ret
      exact ⟨_, rfl, by decide, hEf⟩
    · have c0 := hcell6 5 (.string ⟨#[65, 61, 49]⟩) (by rw [HC.out]; rfl)
      clear hcell6
      go_wp2
      go_ret
      exact ⟨_, rfl, by decide, hEf⟩
    · have c0 := hcell6 6 (.string ⟨#[97, 61, 10]⟩) (by rw [HC.out]; rfl)
      clear hcell6
      go_wp2
      go_ret
      exact ⟨_, rfl, by decide, hEf⟩
    · have c0 := hcell6 7 (.string (s ++ ⟨#[59]⟩)) (by rw [HC.out]; rfl)
      clear hcell6
      go_wp2
      go_ret
      exact ⟨_, rfl, hz1, hEf⟩
    · have c0 := hcell6 8 (.string (s ++ ⟨#[59, 122, 61, 49]⟩)) (by rw [HC.out]; rfl)
      clear hcell6
      go_wp2
      go_ret
      exact ⟨_, rfl, hz2, hEf⟩

set_option maxRecDepth 10000 in
set_option maxHeartbeats 8000000 in
theorem fnSettingsText_any (ac : Option Addr) (capc : Nat) (code : List Int) (m : Int) (w : World) (hm : w.cell? ⟨maxLenG, 0, none⟩ = some (.int .i64 m)) (hlc : code.length ≤ 9223372036854775807) (hcap : code.length ≤ capc) (hu : ∀ x ∈ code, 0 ≤ x ∧ x ≤ 255) (hcc : Rd 1 encU8 w ac code) :
    Calls Tryd.prog 3 #[.slice ac code.length capc] w (RetB True w) := by
  go_enter Tryd.func3, Tryd.ntmps3
  by_cases hbig : 1048576 < code.length
  · have hb : (1048576 : Int) < (code.length : Int) := by omega
    go_wp2
    go_ret
    exact RetB.mk true rfl (by simp) (Ext.refl _)
  have hb : (code.length : Int) ≤ 1048576 := by omega
  have S := Sep.start w
  go_wp2_with fail
  refine (drawSettingsText ac capc code w hlc hcap hu hcc).mono ?_
  rintro e w1 ⟨u, l, rfl, hl10, hfit, T⟩
  have Hfit := Lib.hid hfit
  clear hfit
  obtain ⟨a, cap, hv, hlcap, _, _⟩ := view_owns encSet_len (T.row 0 rfl)
  subst hv
  replace S : Sep w w1 [plRow 40 2 encSet (.slice a l.length cap) l] := S.call T
  clear T
  clear hb hbig
  go_wp2_with fail
  refine (implSettingsText a cap l _ (by omega) Hfit.out (S.rd 0 encSet_len rfl rfl)).mono ?_
  rintro e w2 ⟨s, rfl, hT, hE⟩
  have HT := Lib.hid hT
  have hsz := textR_size hT
  clear hT
  replace S : Sep w w2 [plRow 40 2 encSet (.slice a l.length cap) l] := S.step hE
  clear hE
  go_wp2_with fail
  refine (specSettingsText a cap l _ (by omega) Hfit.out (S.rd 0 encSet_len rfl rfl)).mono ?_
  rintro e w3 ⟨s2, rfl, hT, hE⟩
  obtain rfl := textR_fun HT.out hT
  clear hT
  replace S : Sep w w3 [plRow 40 2 encSet (.slice a l.length cap) l] := S.step hE
  clear hE
  go_wp2_with fail
  refine (specSettingsValid a cap l _ (by omega) Hfit.out (S.rd 0 encSet_len rfl rfl)).mono ?_
  rintro e w4 ⟨v0, rfl, hv0, hE⟩
  have Hv0 := Lib.hid hv0
  clear hv0
  replace S : Sep w w4 [plRow 40 2 encSet (.slice a l.length cap) l] := S.step hE
  clear hE
  cases v0 with
  | false =>
    obtain rfl : s = ⟨#[]⟩ := HT.out.2 (fun h => Bool.noConfusion (Hv0.out.2 h))
    go_wp2_with fail
    refine (alive_any _).mono ?_
    rintro e w5 ⟨b3, rfl, hb3, hE⟩
    obtain rfl : b3 = true := hb3.2 trivial
    clear hb3
    replace S : Sep w w5 [plRow 40 2 encSet (.slice a l.length cap) l] := S.step hE
    clear hE
    go_wp2
    go_ret
    exact RetB.mk true rfl (by simp) S.ext
  | true =>
    have HV := Lib.hid (Hv0.out.1 rfl)
    clear Hv0
    go_wp2_with fail
    refine (implReadSettings s m _ (by omega) (cell_ext S.ext hm)).mono ?_
    rintro e w5 ⟨u5, X, ok, rfl, hR, T⟩
    obtain ⟨rfl, rfl⟩ := readSR_fun (show ReadSR s l true from .inl ⟨rfl, HV.out, HT.out.1 HV.out⟩) hR
    clear hR
    obtain ⟨ax, cx, hv, _, _, _⟩ := view_owns encSet_len (T.row 0 rfl)
    subst hv
    replace S : Sep w w5 [plRow 40 2 encSet (.slice ax l.length cx) l, plRow 40 2 encSet (.slice a l.length cap) l] := S.call T
    clear T
    go_wp2_with fail
    refine (sameSets_any _ _ _ _ l l _ (by omega) (by omega) (S.rd 0 encSet_len rfl rfl) (S.rd 1 encSet_len rfl rfl)).mono ?_
    rintro e w6 ⟨q6, rfl, hq, hE⟩
    obtain rfl : q6 = true := hq.2 rfl
    clear hq
    replace S : Sep w w6 [plRow 40 2 encSet (.slice ax l.length cx) l, plRow 40 2 encSet (.slice a l.length cap) l] := S.step hE
    clear hE
    go_wp2
    go_ret
    exact RetB.mk true rfl (by simp) S.ext
end Go.Proofs.YtekmfphlccomaaaDoor
