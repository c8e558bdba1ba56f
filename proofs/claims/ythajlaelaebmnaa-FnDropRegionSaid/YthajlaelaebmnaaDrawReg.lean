/- The draws of regions: contracts of l20Region, l20Regions and of the laws' draws. No condition but small sizes. -/
import Derived.Test.YthajlaelaebmnaaDrawF
import Derived.Test.YthajlaelaebmnaaApp
import Derived.Test.YthajlaelaebmnaaView
import Derived.Test.YthajlaelaebmnaaRegT
namespace Go.Proofs.Ythajlaelaebmnaa
open Go.RowKit

def RegD (v : Value) (_ : World) : Prop := ∃ x : Reg, v = .agg #[.int .i64 x.f, .int .i64 x.t, .int .i64 x.r]

set_option maxRecDepth 10000 in
set_option maxHeartbeats 8000000 in
theorem drawRegion (g : Nat) (P n : Int) (w : World) (hs : Src g P w) (hP : P ≤ 900000) (hn : n ≤ 1000000) :
    Calls Try.prog 42 #[.pointer (some ⟨g, 0, none⟩), .int .i64 n] w (RetD g P 5 RegD w) := by
  have hg := hs.lt
  have hgne : w.heap.size ≠ g := by omega
  go_enter Try.func42, Try.ntmps42
  go_wp2_with fail
  have hS0 := (Step.refl g w).alloc (.cells #[.int .i64 0, .int .i64 0, .int .i64 0] 33)
  have hs0 := hs.ext ((Ext.refl w).alloc (.cells #[.int .i64 0, .int .i64 0, .int .i64 0] 33))
  have r0 := cell_new w #[.int .i64 0, .int .i64 0, .int .i64 0] 33 0 (.int .i64 0) rfl
  have r1 := cell_new w #[.int .i64 0, .int .i64 0, .int .i64 0] 33 1 (.int .i64 0) rfl
  have r2 := cell_new w #[.int .i64 0, .int .i64 0, .int .i64 0] 33 2 (.int .i64 0) rfl
  have f0 := frozen_new w #[.int .i64 0, .int .i64 0, .int .i64 0] 33 0
  have f1 := frozen_new w #[.int .i64 0, .int .i64 0, .int .i64 0] 33 1
  have f2 := frozen_new w #[.int .i64 0, .int .i64 0, .int .i64 0] 33 2
  have hlt := size_new w (.cells #[.int .i64 0, .int .i64 0, .int .i64 0] 33)
  generalize (w.alloc (.cells #[.int .i64 0, .int .i64 0, .int .i64 0] 33)) = w0 at *
  refine (pick_any g P 20 _ hs0 (by omega)).mono ?_
  rintro e w1 ⟨v, rfl, ⟨q, rfl, q0, q1, _⟩, hs1, hS⟩
  have hq := q1 (by omega)
  replace hS0 := hS0.trans hS
  replace r0 := cell_step hS hgne r0
  replace r1 := cell_step hS hgne r1
  replace r2 := cell_step hS hgne r2
  replace f0 := frozen_step hS hgne hlt f0
  replace f1 := frozen_step hS hgne hlt f1
  replace f2 := frozen_step hS hgne hlt f2
  replace hlt := Nat.lt_of_lt_of_le hlt hS.size
  have e0 : IntKind.i64.wrap (q * 3) = q * 3 := IntWalk.i64_in _ (by omega)
  clear q1 hS hs0
  go_wp2_with fail
  refine (odd_any g (P + 1) n _ hs1 (by omega) hn).mono ?_
  rintro e w2 ⟨v, rfl, ⟨b, rfl, hb⟩, hs2, hS⟩
  replace hS0 := hS0.trans hS
  replace r0 := cell_step hS hgne r0
  replace r1 := cell_step hS hgne r1
  replace r2 := cell_step hS hgne r2
  replace f0 := frozen_step hS hgne hlt f0
  replace f1 := frozen_step hS hgne hlt f1
  replace f2 := frozen_step hS hgne hlt f2
  replace hlt := Nat.lt_of_lt_of_le hlt hS.size
  clear hb hS hs1
  cases b with
  | true =>
    go_wp2_with fail
    have hrd : Rd 3 encReg (w2.alloc (.cells #[.int .i64 0, .int .i64 0, .int .i64 0, .int .i64 5, .int .i64 5, .int .i64 0, .int .i64 (-1), .int .i64 5, .int .i64 0, .int .i64 5, .int .i64 65, .int .i64 0, .int .i64 0, .int .i64 5, .int .i64 8] 33)) (some ⟨w2.heap.size, 0, none⟩) ([⟨0, 0, 0⟩, ⟨5, 5, 0⟩, ⟨-1, 5, 0⟩, ⟨5, 65, 0⟩, ⟨0, 5, 8⟩] : List Reg) := rd_lit_new _ encReg_len rfl
    have hE := (Ext.refl w2).alloc (.cells #[.int .i64 0, .int .i64 0, .int .i64 0, .int .i64 5, .int .i64 5, .int .i64 0, .int .i64 (-1), .int .i64 5, .int .i64 0, .int .i64 5, .int .i64 65, .int .i64 0, .int .i64 0, .int .i64 5, .int .i64 8] 33)
    have hne : w2.heap.size ≠ g := by have := hs2.lt; omega
    have hll : ([⟨0, 0, 0⟩, ⟨5, 5, 0⟩, ⟨-1, 5, 0⟩, ⟨5, 65, 0⟩, ⟨0, 5, 8⟩] : List Reg).length = 5 := rfl
    generalize ([⟨0, 0, 0⟩, ⟨5, 5, 0⟩, ⟨-1, 5, 0⟩, ⟨5, 65, 0⟩, ⟨0, 5, 8⟩] : List Reg) = L at *
    replace hs2 := hs2.ext hE
    replace hS0 := hS0.ext hE
    replace r0 := cell_ext hE r0
    replace r1 := cell_ext hE r1
    replace r2 := cell_ext hE r2
    replace f0 := (hE.frozen (p := ⟨w.heap.size, 0, none⟩) hlt).trans f0
    replace f1 := (hE.frozen (p := ⟨w.heap.size, 1, none⟩) hlt).trans f1
    replace f2 := (hE.frozen (p := ⟨w.heap.size, 2, none⟩) hlt).trans f2
    have hlt2 := Nat.lt_of_lt_of_le hlt hE.size
    generalize (w2.alloc (.cells #[.int .i64 0, .int .i64 0, .int .i64 0, .int .i64 5, .int .i64 5, .int .i64 0, .int .i64 (-1), .int .i64 5, .int .i64 0, .int .i64 5, .int .i64 65, .int .i64 0, .int .i64 0, .int .i64 5, .int .i64 8] 33)) = w3 at *
    refine (pick_any g (P + 1 + 1) 5 _ hs2 (by omega)).mono ?_
    rintro e w4 ⟨v, rfl, ⟨i, rfl, x0, x1, _⟩, hs3, hS⟩
    replace hS0 := hS0.trans hS
    replace r0 := cell_step hS hgne r0
    replace r1 := cell_step hS hgne r1
    replace r2 := cell_step hS hgne r2
    replace f0 := frozen_step hS hgne hlt2 f0
    replace f1 := frozen_step hS hgne hlt2 f1
    replace f2 := frozen_step hS hgne hlt2 f2
    replace hrd := hrd.step hS (fun _ b off h => by cases h; exact hne)
    replace x1 := x1 (by omega)
    obtain ⟨k, rfl⟩ : ∃ k : Nat, i = k := ⟨i.toNat, by omega⟩
    obtain ⟨x, hx, hcell⟩ := lit_at hrd (k := k) (by omega)
    have c0 : w4.cell? ⟨w2.heap.size, k * 3, none⟩ = some (.int .i64 x.f) := hcell 0 _ rfl
    have c1 : w4.cell? ⟨w2.heap.size, k * 3 + 1, none⟩ = some (.int .i64 x.t) := hcell 1 _ rfl
    have c2 : w4.cell? ⟨w2.heap.size, k * 3 + 2, none⟩ = some (.int .i64 x.r) := hcell 2 _ rfl
    clear hcell hx hE hrd
    go_wp2
    try simp only [Exit.inBlock, Exit.then]
    refine bodyPost_ret (v := .agg #[.int .i64 x.f, .int .i64 x.t, .int .i64 x.r]) (by simp [results, Try.results42, go_sem, r0, r1, r2]) rfl ?_
    exact RetD.mk ⟨⟨x.f, x.t, x.r⟩, rfl⟩ (((hs3.setCell (p := ⟨w.heap.size, 0, none⟩) hg _).setCell (p := ⟨w.heap.size, 1, none⟩) hg _).setCell (p := ⟨w.heap.size, 2, none⟩) hg _) (by omega) (((hS0.setCell (p := ⟨w.heap.size, 0, none⟩) (Nat.le_refl _) _).setCell (p := ⟨w.heap.size, 1, none⟩) (Nat.le_refl _) _).setCell (p := ⟨w.heap.size, 2, none⟩) (Nat.le_refl _) _)
  | false =>
    go_wp2_with fail
    refine (pick_any g (P + 1 + 1) 12 _ hs2 (by omega)).mono ?_
    rintro e w3 ⟨v, rfl, ⟨z, rfl, z0, z1, _⟩, hs3, hS⟩
    have hz := z1 (by omega)
    replace hS0 := hS0.trans hS
    replace r0 := cell_step hS hgne r0
    replace r1 := cell_step hS hgne r1
    replace r2 := cell_step hS hgne r2
    replace f0 := frozen_step hS hgne hlt f0
    replace f1 := frozen_step hS hgne hlt f1
    replace f2 := frozen_step hS hgne hlt f2
    replace hlt := Nat.lt_of_lt_of_le hlt hS.size
    have e2 : IntKind.i64.wrap (q * 3 + 1) = q * 3 + 1 := IntWalk.i64_in _ (by omega)
    have e3 : IntKind.i64.wrap (q * 3 + 1 + z) = q * 3 + 1 + z := IntWalk.i64_in _ (by omega)
    clear z1 hS hs2
    have hrd : Rd 1 encInt1 (w3.alloc (.cells #[.int .i64 4, .int .i64 6, .int .i64 5] 3)) (some ⟨w3.heap.size, 0, none⟩) [4, 6, 5] := rd_lit_new _ (fun _ => rfl) rfl
    have hE := (Ext.refl w3).alloc (.cells #[.int .i64 4, .int .i64 6, .int .i64 5] 3)
    have hne : w3.heap.size ≠ g := by have := hs3.lt; omega
    have hll : ([4, 6, 5] : List Int).length = 3 := rfl
    generalize ([4, 6, 5] : List Int) = L at *
    replace hs3 := hs3.ext hE
    replace hS0 := hS0.ext hE
    replace r0 := cell_ext hE r0
    replace r1 := cell_ext hE r1
    replace r2 := cell_ext hE r2
    replace f0 := (hE.frozen (p := ⟨w.heap.size, 0, none⟩) hlt).trans f0
    replace f1 := (hE.frozen (p := ⟨w.heap.size, 1, none⟩) hlt).trans f1
    replace f2 := (hE.frozen (p := ⟨w.heap.size, 2, none⟩) hlt).trans f2
    have hlt2 := Nat.lt_of_lt_of_le hlt hE.size
    by_cases hmin : 64 ≤ q * 3 + 1 + z
    · go_wp2_with fail
      generalize (w3.alloc (.cells #[.int .i64 4, .int .i64 6, .int .i64 5] 3)) = w4 at *
      refine (pick_any g (P + 1 + 1 + 1) 3 _ hs3 (by omega)).mono ?_
      rintro e w5 ⟨v, rfl, ⟨i, rfl, x0, x1, _⟩, hs4, hS⟩
      replace hS0 := hS0.trans hS
      replace r0 := cell_step hS hgne r0
      replace r1 := cell_step hS hgne r1
      replace r2 := cell_step hS hgne r2
      replace f0 := frozen_step hS hgne hlt2 f0
      replace f1 := frozen_step hS hgne hlt2 f1
      replace f2 := frozen_step hS hgne hlt2 f2
      replace hrd := hrd.step hS (fun _ b off h => by cases h; exact hne)
      replace x1 := x1 (by omega)
      obtain ⟨k, rfl⟩ : ∃ k : Nat, i = k := ⟨i.toNat, by omega⟩
      obtain ⟨u, _, hcell⟩ := lit_at hrd (k := k) (by omega)
      have c0 : w5.cell? ⟨w3.heap.size, k, none⟩ = some (.int .i64 u) := by simpa using hcell 0 _ rfl
      clear hcell hE hrd hS
      go_wp2
      try simp only [Exit.inBlock, Exit.then]
      refine bodyPost_ret (v := .agg #[.int .i64 (q * 3), .int .i64 64, .int .i64 u]) (by simp [results, Try.results42, go_sem, r0, r1, r2]) rfl ?_
      exact RetD.mk ⟨⟨(q * 3), 64, u⟩, rfl⟩ (((hs4.setCell (p := ⟨w.heap.size, 0, none⟩) hg _).setCell (p := ⟨w.heap.size, 1, none⟩) hg _).setCell (p := ⟨w.heap.size, 2, none⟩) hg _) (by omega) (((hS0.setCell (p := ⟨w.heap.size, 0, none⟩) (Nat.le_refl _) _).setCell (p := ⟨w.heap.size, 1, none⟩) (Nat.le_refl _) _).setCell (p := ⟨w.heap.size, 2, none⟩) (Nat.le_refl _) _)
    · replace hmin : q * 3 + 1 + z < 64 := by omega
      go_wp2_with fail
      generalize (w3.alloc (.cells #[.int .i64 4, .int .i64 6, .int .i64 5] 3)) = w4 at *
      refine (pick_any g (P + 1 + 1 + 1) 3 _ hs3 (by omega)).mono ?_
      rintro e w5 ⟨v, rfl, ⟨i, rfl, x0, x1, _⟩, hs4, hS⟩
      replace hS0 := hS0.trans hS
      replace r0 := cell_step hS hgne r0
      replace r1 := cell_step hS hgne r1
      replace r2 := cell_step hS hgne r2
      replace f0 := frozen_step hS hgne hlt2 f0
      replace f1 := frozen_step hS hgne hlt2 f1
      replace f2 := frozen_step hS hgne hlt2 f2
      replace hrd := hrd.step hS (fun _ b off h => by cases h; exact hne)
      replace x1 := x1 (by omega)
      obtain ⟨k, rfl⟩ : ∃ k : Nat, i = k := ⟨i.toNat, by omega⟩
      obtain ⟨u, _, hcell⟩ := lit_at hrd (k := k) (by omega)
      have c0 : w5.cell? ⟨w3.heap.size, k, none⟩ = some (.int .i64 u) := by simpa using hcell 0 _ rfl
      clear hcell hE hrd hS
      go_wp2
      try simp only [Exit.inBlock, Exit.then]
      refine bodyPost_ret (v := .agg #[.int .i64 (q * 3), .int .i64 (q * 3 + 1 + z), .int .i64 u]) (by simp [results, Try.results42, go_sem, r0, r1, r2]) rfl ?_
      exact RetD.mk ⟨⟨(q * 3), (q * 3 + 1 + z), u⟩, rfl⟩ (((hs4.setCell (p := ⟨w.heap.size, 0, none⟩) hg _).setCell (p := ⟨w.heap.size, 1, none⟩) hg _).setCell (p := ⟨w.heap.size, 2, none⟩) hg _) (by omega) (((hS0.setCell (p := ⟨w.heap.size, 0, none⟩) (Nat.le_refl _) _).setCell (p := ⟨w.heap.size, 1, none⟩) (Nat.le_refl _) _).setCell (p := ⟨w.heap.size, 2, none⟩) (Nat.le_refl _) _)

/-- At most K regions in new memory. -/
def RegsD (base : Nat) (K : Nat) (v : Value) (w : World) : Prop := ∃ l : List Reg, l.length ≤ K ∧ w.ownsRow base 33 3 v l.length (l.flatMap encReg)

set_option maxHeartbeats 4000000 in
theorem drawRegions (g : Nat) (P n : Int) (w : World) (hs : Src g P w) (hP : P ≤ 800000) (hn : n ≤ 1000000) :
    Calls Try.prog 34 #[.pointer (some ⟨g, 0, none⟩), .int .i64 n] w (RetD g P 50 (RegsD w.heap.size 9) w) := by
  have hg := hs.lt
  go_enter Try.func34, Try.ntmps34
  go_wp2_with fail
  have hS0 := (Step.refl g w).alloc (.cells #[] 33)
  have hs1 := hs.ext ((Ext.refl w).alloc (.cells #[] 33))
  have hown : (w.alloc (.cells #[] 33)).ownsRow w.heap.size 33 3 (.slice (some ⟨w.heap.size, 0, none⟩) 0 0) 0 (([] : List Reg).flatMap encReg) := owns_lit_new [] encReg_len rfl rfl (by omega) (Nat.le_refl _)
  generalize (w.alloc (.cells #[] 33)) = w1 at *
  refine (pick_any g P 9 _ hs1 (by omega)).mono ?_
  rintro e w2 ⟨v, rfl, ⟨q, rfl, q0, q1, _⟩, hs2, hS⟩
  replace hS0 := hS0.trans hS
  replace hown := ownsRow_step hown hS hg
  obtain ⟨qn, rfl⟩ : ∃ k : Nat, q = k := ⟨q.toNat, by omega⟩
  have q9 : qn < 9 := by have := q1 (by omega); omega
  clear q1 hS hs1 q0
  go_wp2
  go_loopw [5, 6, 7, 8] (fun vo i _ _ wr => ∃ (k : Nat) (l : List Reg), k ≤ 8 ∧ l.length ≤ 8 ∧ i = .int .i64 (k : Int) ∧ wr.ownsRow w.heap.size 33 3 vo l.length (l.flatMap encReg) ∧ Src g (P + 1 + (8 - (k : Int)) * 5) wr ∧ Step g w wr) (fun _ i _ _ _ => (intOf i).toNat)
  case atStart => exact ⟨qn, [], by omega, by simp, rfl, hown, hs2.mono (by omega), hS0⟩
  case round =>
    obtain ⟨k, l, hk6, hl6, rfl, hown, hs3, hS⟩ := hrel
    obtain ⟨a, cap, rfl, hlcap, hrd, _⟩ := view_owns encReg_len hown
    by_cases h0 : 0 < k
    · obtain ⟨m, rfl⟩ : ∃ m, k = m + 1 := ⟨k - 1, by omega⟩
      have h0' : (0 : Int) < ((m + 1 : Nat) : Int) := by omega
      have hw : IntKind.i64.wrap (((m + 1 : Nat) : Int) - 1) = (m : Int) := by rw [show ((m + 1 : Nat) : Int) - 1 = m by omega]; exact IntWalk.i64_in _ (by omega)
      go_wp2_with fail
      refine (drawRegion g _ 0 wr hs3 (by omega) (by omega)).mono ?_
      rintro e w3 ⟨v, rfl, ⟨x, rfl⟩, hs4, hS4⟩
      replace hS := hS.trans hS4
      replace hown := ownsRow_step hown hS4 hg
      clear hS4 hs3 hrd
      have hrd := rd_owns encReg_len hown rfl
      go_wp2_with fail
      refine (specSetRegion a cap l x w3 (by omega) hrd).mono ?_
      rintro e w5 ⟨v, L, ok, rfl, hR, hown5, hE⟩
      have hL := setRR_le hR hl6
      clear hR
      have hown6 := ownsRow_base hown5 hS.size
      replace hS := hS.ext hE
      replace hs4 := hs4.ext hE
      go_wp2
      go_roundw
      case rel => exact ⟨m, L, by omega, by omega, by go_num, hown6, hs4.mono (by omega), hS⟩
      case measure => simp [intOf]
    · obtain rfl : k = 0 := by omega
      go_wp2_with fail
      refine (odd_any g _ n wr hs3 (by omega) hn).mono ?_
      rintro e w4 ⟨v, rfl, ⟨b, rfl, hb⟩, hs4, hS4⟩
      replace hS := hS.trans hS4
      replace hown := ownsRow_step hown hS4 hg
      clear hS4 hs3 hb
      cases b with
      | false =>
        go_wp2
        go_ret
        exact RetD.mk ⟨l, by omega, hown⟩ hs4 (by omega) hS
      | true =>
        go_wp2_with fail
        refine (drawRegion g _ 1 _ hs4 (by omega) (by omega)).mono ?_
        rintro e w6 ⟨v, rfl, ⟨x, rfl⟩, hs5, hS4⟩
        replace hS := hS.trans hS4
        replace hown := ownsRow_step hown hS4 hg
        clear hS4 hs4 hrd
        have E2 := (Ext.refl _).alloc (a := w6) (.cells #[.int .i64 x.f, .int .i64 x.t, .int .i64 x.r] 33)
        have rdm : Rd 3 encReg (w6.alloc (.cells #[.int .i64 x.f, .int .i64 x.t, .int .i64 x.r] 33)) (some ⟨w6.heap.size, 0, none⟩) [x] := rd_lit_new [x] encReg_len rfl
        replace hown := ownsRow_ext hown E2
        replace hS := hS.ext E2
        replace hs5 := hs5.ext E2
        go_wp2_with (at_builtin; refine wpList_append_rd rfl _ _ 25 rfl w.heap.size 33 _ 3 _ Try.underlying25 infoReg rfl (by decide) encReg_len encReg_one _ l.length l rfl hown rfl _ 1 1 [x] rfl rfl rdm (by omega) (by omega) hS.size ?_)
        intro v' w7 hown' hgr
        replace hS := hS.row hgr (fun i h => (hown.lt i h).1)
        replace hs5 := hs5.row hgr (fun i h => by have := (hown.lt i h).1; omega)
        clear hown hgr rdm E2
        go_wp2
        go_ret
        exact RetD.mk ⟨l ++ [x], by simp; omega, by simpa using hown'⟩ hs5 (by omega) hS

set_option maxHeartbeats 1000000 in
theorem drawRegionsValid (a : Option Addr) (cap : Nat) (l : List Int) (w : World) (hl : l.length ≤ 9223372036854775807) (hcap : l.length ≤ cap) (hu : ∀ x ∈ l, 0 ≤ x ∧ x ≤ 255) (hc : Rd 1 encU8 w a l) :
    Calls Try.prog 16 #[.slice a l.length cap] w (RetV (RegsD w.heap.size 9) w) := by
  go_enter Try.func16, Try.ntmps16
  go_wp2_with fail
  refine (open_any a cap l w hl hcap hu hc).mono ?_
  rintro e w1 ⟨v, rfl, ⟨rfl, hs⟩, E⟩
  go_wp2_with fail
  refine (drawRegions _ _ _ _ hs (by omega) (by omega)).mono ?_
  rintro e w2 ⟨v, rfl, ⟨L, h1, h3⟩, hs2, hS⟩
  go_wp2
  go_ret
  exact RetV.mk ⟨L, h1, ownsRow_base h3 E.size⟩ (hS.toExt E (Nat.le_refl _))
end Go.Proofs.Ythajlaelaebmnaa
