/- Parts of one proof: each says below what it proves and on what conditions. -/
import Derived.Test.YtnibbldfohbfkaaGreatDoorMy26
set_option linter.unusedVariables false
set_option linter.unusedSimpArgs false
/- Trees: contract of the reference's MoveName. Condition: texts of at most 2^20, rows of at most 10^6. -/
namespace Go.Proofs.YtnibbldfohbfkaaGreatDoor
open Go.RowKit
set_option maxRecDepth 10000 in
set_option maxHeartbeats 16000000 in
theorem specMoveName (a : Option Addr) (cap : Nat) (T : List Nd) (c : Cr) (s : ByteArray) (d : ByteArray) (w : World) (hs : s.size ≤ 1048576) (hd : d.size ≤ 1048576) (hl : T.length ≤ 1048576) (hT : ∀ x ∈ T, SmN 1048576 x) (hNB : NB 1000000 T) (hc : RdN w a T) :
  Calls Tryz.prog 41 #[.slice a T.length cap, .agg #[.int .i64 c.r, .int .i64 c.a, .int .i64 c.s, .int .i64 c.g], .string s, .string d] w (RetMk (moveName T c s d) w) := by
 obtain ⟨cr, ca, cs, cg⟩ := c
 have HT := Lib.hid hT
 have HNB := Lib.hid hNB
 clear hT hNB
 dsimp only
 go_enter Tryz.func41, Tryz.ntmps41
 have S := Sep.start w
 replace S : Sep w (w.alloc (.cells #[.int .i64 cr, .int .i64 ca, .int .i64 cs, .int .i64 cg] 29)) [plBox w.heap.size #[.int .i64 cr, .int .i64 ca, .int .i64 cs, .int .i64 cg] 29] := S.alloc_at (by simp) _ _
 go_wp2_with fail
 generalize (w.alloc (.cells #[.int .i64 cr, .int .i64 ca, .int .i64 cs, .int .i64 cg] 29)) = w1 at *
 refine (specMayDrop a cap T ⟨cr, ca, cs, cg⟩ s w1 hs hl HT.out (hc.ext S.ext)).mono ?_
 rintro e w2 ⟨rfl, hE⟩
 replace S := S.step hE
 clear hE
 rcases md_cases T ⟨cr, ca, cs, cg⟩ s with ⟨m, kid, x, z, hD, hd0, h7, h00⟩ | ⟨f, hf, hf7, hd0, h00⟩
 rotate_left
 ·have HX := Lib.hid (mv_bad (dst := d) hf hd0)
  rw [h00]
  have tf : (f == 0) = false := by simpa using hf
  have tf2 : (f != 0) = true := by simpa using hf
  have tf7 : (f == 7) = false := by simpa using hf7
  have tf8 : (f != 7) = true := by simpa using hf7
  clear hf hf7 hd0 h00
  go_wp2
  go_ret2
  exact RetMk.empty S.ext HX.out
 have HD := Lib.hid hD
 have HD0 := Lib.hid hd0
 have HTr := Lib.hid hD.fa.tree
 have Hx := Lib.hid hD.fa.hx
 have hmax := hD.fa.tree.max
 have hmT : (m : Int) < (T.length : Int) := by have := (List.getElem?_eq_some_iff.1 hD.fa.hx).1; omega
 have hkT : (kid : Int) < (T.length : Int) := by have := (List.getElem?_eq_some_iff.1 hD.hz).1; omega
 have hab := abOf_size s
 have HPl := Lib.hid (fun w' (hE : Ext w w') => specPlaceFor a cap T ⟨cr, ca, cs, cg⟩ d w' hd hl HT.out (hc.ext hE))
 have HAb1 := Lib.hid (fun w' (hE : Ext w w') => specAboveOf s w' hs)
 have HAb2 := Lib.hid (fun w' (hE : Ext w w') => specAboveOf d w' hd)
 have HFn := Lib.hid (fun w' (hE : Ext w w') => specFindNode a cap T ⟨cr, ca, cs, cg⟩ (abOf s) w' (by omega) hl HT.out (hc.ext hE))
 have HCp := Lib.hid (fun w' (hE : Ext w w') => specCopy a cap T w' hl HT.out (hc.ext hE))
 have hv : mayDropF T ⟨cr, ca, cs, cg⟩ s false = 0 ∨ mayDropF T ⟨cr, ca, cs, cg⟩ s false = 7 := by
  by_cases h0 : z.N.length = 0
  ·exact .inl (h00 h0)
  ·exact .inr (h7 (by omega))
 clear hD hd0 h7 h00
 rcases hv with hv | hv
 ·rw [hv]
  clear hv
  rcases fa_cases T ⟨cr, ca, cs, cg⟩ d with ⟨n, y0, hG⟩ | ⟨f, hf, hF⟩
  rotate_left
  ·have hp0 := pf_bad hf hF
   have HX := Lib.hid (mv_place HD0.out hf hp0)
   have tf : (f == 0) = false := by simpa using hf
   have HPl2 := HPl.out w2 S.ext
   rw [hp0] at HPl2
   clear hf hF hp0
   obtain ⟨⟨bc0, bf0⟩, ⟨bc1, bf1⟩, ⟨bc2, bf2⟩, ⟨bc3, bf3⟩⟩ := bx4 (S.box 0 rfl)
   go_wp2_with fail
   clear bc0 bf0 bc1 bf1 bc2 bf2 bc3 bf3
   refine HPl2.mono ?_
   rintro e w3 ⟨rfl, hE⟩
   replace S := S.step hE
   clear hE
   go_wp2
   go_ret2
   exact RetMk.empty S.ext HX.out
  by_cases hth : 0 ≤ kidOf y0.N y0.K (lastOf d)
  ·have hp0 := (pf_good hG).trans (if_pos hth)
   have HX := Lib.hid (mv_place HD0.out (by decide) hp0)
   have HPl2 := HPl.out w2 S.ext
   rw [hp0] at HPl2
   clear hG hth hp0
   obtain ⟨⟨bc0, bf0⟩, ⟨bc1, bf1⟩, ⟨bc2, bf2⟩, ⟨bc3, bf3⟩⟩ := bx4 (S.box 0 rfl)
   go_wp2_with fail
   clear bc0 bf0 bc1 bf1 bc2 bf2 bc3 bf3
   refine HPl2.mono ?_
   rintro e w3 ⟨rfl, hE⟩
   replace S := S.step hE
   clear hE
   go_wp2
   go_ret2
   exact RetMk.empty S.ext HX.out
  have hp0 := (pf_good hG).trans (if_neg hth)
  have hnT := (List.getElem?_eq_some_iff.1 hG.hx).1
  have hnd : True := trivial
  have hnTi : (n : Int) < (T.length : Int) := by omega
  obtain ⟨⟨bc0, bf0⟩, ⟨bc1, bf1⟩, ⟨bc2, bf2⟩, ⟨bc3, bf3⟩⟩ := bx4 (S.box 0 rfl)
  go_wp2_with fail
  clear bc0 bf0 bc1 bf1 bc2 bf2 bc3 bf3
  refine (HPl.out w2 S.ext).mono ?_
  rintro e w3 ⟨rfl, hE⟩
  replace S := S.step hE
  clear hE
  rw [hp0]
  have HP0 := Lib.hid hp0
  clear hG hth hp0 hnd
  dsimp only
  go_wp2_with fail
  refine (HAb1.out w3 S.ext).mono ?_
  rintro e w4 ⟨rfl, hE⟩
  replace S := S.step hE
  clear hE
  go_wp2_with fail
  refine (HAb2.out w4 S.ext).mono ?_
  rintro e w5 ⟨rfl, hE⟩
  replace S := S.step hE
  clear hE
  obtain ⟨⟨bc0, bf0⟩, ⟨bc1, bf1⟩, ⟨bc2, bf2⟩, ⟨bc3, bf3⟩⟩ := bx4 (S.box 0 rfl)
  go_wp2_with fail
  clear bc0 bf0 bc1 bf1 bc2 bf2 bc3 bf3
  refine (HFn.out w5 S.ext).mono ?_
  rintro e w6 ⟨rfl, hE⟩
  replace S := S.step hE
  clear hE
  rw [HD.out.fa.find]
  dsimp only
  obtain ⟨x1, b', off, an, cn, ak, ck, hx, rfl, c0, c1, c2, c3, c4, c5, c6, hcn, hck, hrn, hrk⟩ := atNd (hc.ext S.ext) (show m < T.length by omega)
  obtain rfl : x = x1 := Option.some.inj (Hx.out.symm.trans hx)
  have HKd := Lib.hid (specKid x an ak cn ck (lastOf s) w6 (by have := HNB.out x (List.mem_of_getElem? hx); omega) (HTr.out.nodes m x hx).len hrn hrk)
  rw [HD.out.kd] at HKd
  obtain ⟨z1, b2, off2, _, _, _, _, hz, hzb, z0, _⟩ := atNd (hc.ext S.ext) (show kid < T.length by omega)
  obtain ⟨rfl, rfl⟩ : b' = b2 ∧ off = off2 := by simpa using hzb
  obtain rfl : z = z1 := Option.some.inj (HD.out.hz.symm.trans hz)
  clear hx hz hzb hcn hck hrn hrk
  go_wp2_with fail
  refine HKd.out.mono ?_
  rintro e w7a ⟨rfl, hE⟩
  clear c0 c1 c2 c3 c4 c5 c6 HKd
  replace z0 := cell_ext hE z0
  replace S := S.step hE
  clear hE
  by_cases hbad : z.fold = true ∧ m ≠ n
  ·have HX := Lib.hid (mv_kind HD0.out HD.out HP0.out hbad.1 hbad.2)
   rw [hbad.1] at z0
   have tn : ((m : Int) == (n : Int)) = false := by have := hbad.2; simp; omega
   have tn2 : ((m : Int) != (n : Int)) = true := by have := hbad.2; simp; omega
   clear hbad
   go_wp2
   go_ret2
   exact RetMk.empty S.ext HX.out
  ·have hgood : z.fold = false ∨ m = n := by
    cases hzf : z.fold with
    | false => exact .inl rfl
    | true => exact .inr (Classical.byContradiction (fun h => hbad ⟨hzf, h⟩))
   have HGd := Lib.hid hgood
   obtain ⟨y, hy⟩ : ∃ y, (T.set m (takeNd x (lastOf s)))[n]? = some y := ⟨_, List.getElem?_eq_getElem (by rw [List.length_set]; exact hnT)⟩
   have HyN : Hid (NodeOk y T.length ∧ y.N.length ≤ 1000000) := Lib.hid (by
    rcases take_get Hx.out _ hy with ⟨e, rfl⟩ | ⟨_, e⟩
    ·refine ⟨takeNd_ok (HTr.out.nodes m x Hx.out) (kid_place (HTr.out.nodes m x Hx.out) (s := lastOf s) (by rw [HD.out.kd]; omega)).2.2.2.2.2, ?_⟩
     have h1 : (x.N.eraseIdx (posOf x.N (lastOf s))).length ≤ x.N.length := (List.eraseIdx_sublist ..).length_le
     have h2 := HNB.out x (List.mem_of_getElem? Hx.out)
     show (x.N.eraseIdx (posOf x.N (lastOf s))).length ≤ _
     omega
    ·exact ⟨HTr.out.nodes n y e, HNB.out y (List.mem_of_getElem? e)⟩)
   have Hy := Lib.hid hy
   have HXm := Lib.hid (mv_ok HD0.out HD.out HP0.out hgood hy)
   have hzn : z.fold = false ∨ (z.fold = true ∧ m = n) := by
    rcases hgood with h | h
    ·exact .inl h
    ·cases hzf : z.fold with
     | false => exact .inl rfl
     | true => exact .inr ⟨rfl, h⟩
   clear hbad hgood hy
   rcases hzn with hzf | ⟨hzf, hmn⟩
   ·rw [hzf] at z0
    clear hzf
    go_wp2_with fail
    refine (HCp.out w7a S.ext).mono ?_
    rintro e w5 ⟨u, vs, rfl, S4⟩
    replace S : Sep w w5 [plNd u vs T, plBox w.heap.size #[.int .i64 cr, .int .i64 ca, .int .i64 cs, .int .i64 cg] 29] := S.call S4
    clear S4
    obtain ⟨xc, g, cap2, rfl, hcap2, hxc, hxn, hcell, hfz, hsn, hsk, hcn, hck, hrn, hrk⟩ := S.ndAt 0 rfl Hx.out
    obtain ⟨x', an, cn, ak, ck⟩ := xc
    dsimp only at hxn hsn hsk hcn hck hrn hrk
    subst hxn
    have d0 : w5.cell? ⟨g, m * 7, none⟩ = some (.bool x'.fold) := hcell 0 _ rfl
    have d1 : w5.cell? ⟨g, m * 7 + 1, none⟩ = some (.int .i64 x'.own) := hcell 1 _ rfl
    have d2 : w5.cell? ⟨g, m * 7 + 2, none⟩ = some (.int .i64 x'.grp) := hcell 2 _ rfl
    have d3 : w5.cell? ⟨g, m * 7 + 3, none⟩ = some (.int .i64 x'.mode) := hcell 3 _ rfl
    have d4 : w5.cell? ⟨g, m * 7 + 4, none⟩ = some (.string x'.text) := hcell 4 _ rfl
    have d5 : w5.cell? ⟨g, m * 7 + 5, none⟩ = some (.slice an x'.N.length cn) := hcell 5 _ rfl
    have d6 : w5.cell? ⟨g, m * 7 + 6, none⟩ = some (.slice ak x'.K.length ck) := hcell 6 _ rfl
    have hN := HTr.out.nodes m x' Hx.out
    have hNl := HNB.out x' (List.mem_of_getElem? Hx.out)
    have Htake := Lib.hid (specTake x' an ak cn ck (lastOf s) w5 (node_asc hN) (kid_place hN (s := lastOf s) (by rw [HD.out.kd]; omega)).2.1 (by omega) hN.len hrn hrk)
    have i0 : (m : Int) < (T.length : Int) := by have := (List.getElem?_eq_some_iff.1 Hx.out).1; omega
    clear hcell hN hNl hcn hck hsn hsk hrn hrk hxc
    go_wp2_with fail
    refine Htake.out.mono ?_
    rintro e w6 ⟨an2, cn2, ak2, ck2, rfl, S5⟩
    have g0 := cell_ext S5.ext d0
    have g1 := cell_ext S5.ext d1
    have g2 := cell_ext S5.ext d2
    have g3 := cell_ext S5.ext d3
    have g4 := cell_ext S5.ext d4
    have g5 := cell_ext S5.ext d5
    have g6 := cell_ext S5.ext d6
    obtain ⟨X2, hX2⟩ : ∃ X2, X2 = takeNd x' (lastOf s) := ⟨_, rfl⟩
    have HX2 := Lib.hid hX2
    rw [← hX2] at S5
    rw [← hX2]
    clear hX2 d0 d1 d2 d3 d4 d5 d6 Htake hfz
    replace S : Sep w w6 [plRow 3 1 encInt1 (.slice ak2 X2.K.length ck2) X2.K, plRow 9 1 encStr1 (.slice an2 X2.N.length cn2) X2.N, plNd (.slice (some ⟨g, 0, none⟩) T.length cap2) vs T, plBox w.heap.size #[.int .i64 cr, .int .i64 ca, .int .i64 cs, .int .i64 cg] 29] := S.call S5
    clear S5
    have hvl := plG_len (S.at_ 2 rfl)
    have hrow := S.gRow 2 rfl
    rw [hvl] at hrow
    have hfz := hrow.frozenAt
    clear hrow
    have S6 := S.ofRows 1 0 (⟨X2, an2, cn2, ak2, ck2⟩ : Nc) rfl rfl (by decide)
    have S7 := S6.gPut 1 0 encNc_len rfl rfl (by decide) (k := m) (by have := (List.getElem?_eq_some_iff.1 Hx.out).1; omega)
    have S8 : Sep w (((((((w6.setCell ⟨g, m * 7, none⟩ (.bool X2.fold)).setCell ⟨g, m * 7 + 1, none⟩ (.int .i64 X2.own)).setCell ⟨g, m * 7 + 2, none⟩ (.int .i64 X2.grp)).setCell ⟨g, m * 7 + 3, none⟩ (.int .i64 X2.mode)).setCell ⟨g, m * 7 + 4, none⟩ (.string X2.text)).setCell ⟨g, m * 7 + 5, none⟩ (.slice an2 X2.N.length cn2)).setCell ⟨g, m * 7 + 6, none⟩ (.slice ak2 X2.K.length ck2)) [plNd (.slice (some ⟨g, 0, none⟩) T.length cap2) (vs.set m ⟨X2, an2, cn2, ak2, ck2⟩) (T.set m X2), plBox w.heap.size #[.int .i64 cr, .int .i64 ca, .int .i64 cs, .int .i64 cg] 29] := S7
    have S9 := S8.drop 1
    have HS8 := Lib.hid S9
    clear S S6 S7 S8 S9 hvl
    have HR : Hid (moveName T ⟨cr, ca, cs, cg⟩ s d = ((T.set m X2).set n (putNd y (lastOf d) (kid : Int)), 0)) := Lib.hid (by rw [HXm.out, HX2.out]; rfl)
    have Hy1 : Hid ((T.set m X2)[n]? = some y) := Lib.hid (by rw [HX2.out]; exact Hy.out)
    clear HXm
    go_upto_region 15 with fail
    have SC := HS8.out
    generalize (((((((w6.setCell ⟨g, m * 7, none⟩ (.bool X2.fold)).setCell ⟨g, m * 7 + 1, none⟩ (.int .i64 X2.own)).setCell ⟨g, m * 7 + 2, none⟩ (.int .i64 X2.grp)).setCell ⟨g, m * 7 + 3, none⟩ (.int .i64 X2.mode)).setCell ⟨g, m * 7 + 4, none⟩ (.string X2.text)).setCell ⟨g, m * 7 + 5, none⟩ (.slice an2 X2.N.length cn2)).setCell ⟨g, m * 7 + 6, none⟩ (.slice ak2 X2.K.length ck2)) = w7 at *
    clear HS8 g0 g1 g2 g3 g4 g5 g6 hfz
    generalize vs.set m (⟨X2, an2, cn2, ak2, ck2⟩ : Nc) = v1 at *
    have hl2 : T.length = (T.set m X2).length := by rw [List.length_set]
    generalize T.set m X2 = T1 at *
    have HyT := HyN
    rw [hl2] at SC hnT hnTi ⊢
    clear hl2
    have S : Sep w w7 [plNd (.slice (some ⟨g, 0, none⟩) T1.length cap2) v1 T1] := SC
    clear SC
    have hy1 := Hy1.out
    obtain ⟨yc, g', cap3, hu, hcap3, hyc, hyn, hcell, hfz, hsn, hsk, hcn, hck, hrn, hrk⟩ := S.ndAt 0 rfl hy1
    obtain ⟨rfl, rfl⟩ : g = g' ∧ cap2 = cap3 := by simp only [Value.slice.injEq, Option.some.injEq, Addr.mk.injEq, and_true, true_and] at hu; exact ⟨hu.1, hu.2⟩
    obtain ⟨y', an, cn, ak, ck⟩ := yc
    dsimp only at hyn hsn hsk hcn hck hrn hrk
    subst hyn
    have d0 : w7.cell? ⟨g, n * 7, none⟩ = some (.bool y'.fold) := hcell 0 _ rfl
    have d1 : w7.cell? ⟨g, n * 7 + 1, none⟩ = some (.int .i64 y'.own) := hcell 1 _ rfl
    have d2 : w7.cell? ⟨g, n * 7 + 2, none⟩ = some (.int .i64 y'.grp) := hcell 2 _ rfl
    have d3 : w7.cell? ⟨g, n * 7 + 3, none⟩ = some (.int .i64 y'.mode) := hcell 3 _ rfl
    have d4 : w7.cell? ⟨g, n * 7 + 4, none⟩ = some (.string y'.text) := hcell 4 _ rfl
    have d5 : w7.cell? ⟨g, n * 7 + 5, none⟩ = some (.slice an y'.N.length cn) := hcell 5 _ rfl
    have d6 : w7.cell? ⟨g, n * 7 + 6, none⟩ = some (.slice ak y'.K.length ck) := hcell 6 _ rfl
    have Hput := Lib.hid (specPut y' an ak cn ck (lastOf d) (kid : Int) w7 (by have := HyN.out.2; omega) HyN.out.1.len hcn hck hsn hsk hrn hrk)
    clear hcell hcn hck hsn hsk hrn hrk hyc hu hy1
    go_wp2_with fail
    refine Hput.out.mono ?_
    rintro e w8 ⟨an3, cn3, ak3, ck3, rfl, S5⟩
    have g0 := cell_ext S5.ext d0
    have g1 := cell_ext S5.ext d1
    have g2 := cell_ext S5.ext d2
    have g3 := cell_ext S5.ext d3
    have g4 := cell_ext S5.ext d4
    have g5 := cell_ext S5.ext d5
    have g6 := cell_ext S5.ext d6
    obtain ⟨X3, hX3⟩ : ∃ X3, X3 = putNd y' (lastOf d) (kid : Int) := ⟨_, rfl⟩
    rw [← hX3] at S5 HR
    rw [← hX3]
    clear hX3 d0 d1 d2 d3 d4 d5 d6 Hput hfz
    replace S : Sep w w8 [plRow 3 1 encInt1 (.slice ak3 X3.K.length ck3) X3.K, plRow 9 1 encStr1 (.slice an3 X3.N.length cn3) X3.N, plNd (.slice (some ⟨g, 0, none⟩) T1.length cap2) v1 T1] := S.call S5
    clear S5
    have hvl := plG_len (S.at_ 2 rfl)
    have hrow := S.gRow 2 rfl
    rw [hvl] at hrow
    have hfz := hrow.frozenAt
    clear hrow
    have S6 := S.ofRows 1 0 (⟨X3, an3, cn3, ak3, ck3⟩ : Nc) rfl rfl (by decide)
    have S7 := S6.gPut 1 0 encNc_len rfl rfl (by decide) (k := n) (by omega)
    have S8 : Sep w (((((((w8.setCell ⟨g, n * 7, none⟩ (.bool X3.fold)).setCell ⟨g, n * 7 + 1, none⟩ (.int .i64 X3.own)).setCell ⟨g, n * 7 + 2, none⟩ (.int .i64 X3.grp)).setCell ⟨g, n * 7 + 3, none⟩ (.int .i64 X3.mode)).setCell ⟨g, n * 7 + 4, none⟩ (.string X3.text)).setCell ⟨g, n * 7 + 5, none⟩ (.slice an3 X3.N.length cn3)).setCell ⟨g, n * 7 + 6, none⟩ (.slice ak3 X3.K.length ck3)) [plNd (.slice (some ⟨g, 0, none⟩) T1.length cap2) (v1.set n ⟨X3, an3, cn3, ak3, ck3⟩) (T1.set n X3)] := S7
    have HS9 := Lib.hid S8
    clear S S6 S7 S8 hvl
    go_wp2
    go_ret2
    exact ⟨_, _, by rw [HR.out]; rfl, by rw [HR.out]; exact HS9.out⟩
   ·rw [hzf] at z0
    have tn : ((m : Int) == (n : Int)) = true := by simp; omega
    have tn2 : ((m : Int) != (n : Int)) = false := by simp; omega
    clear hzf hmn
    go_wp2_with fail
    refine (HCp.out w7a S.ext).mono ?_
    rintro e w5 ⟨u, vs, rfl, S4⟩
    replace S : Sep w w5 [plNd u vs T, plBox w.heap.size #[.int .i64 cr, .int .i64 ca, .int .i64 cs, .int .i64 cg] 29] := S.call S4
    clear S4
    obtain ⟨xc, g, cap2, rfl, hcap2, hxc, hxn, hcell, hfz, hsn, hsk, hcn, hck, hrn, hrk⟩ := S.ndAt 0 rfl Hx.out
    obtain ⟨x', an, cn, ak, ck⟩ := xc
    dsimp only at hxn hsn hsk hcn hck hrn hrk
    subst hxn
    have d0 : w5.cell? ⟨g, m * 7, none⟩ = some (.bool x'.fold) := hcell 0 _ rfl
    have d1 : w5.cell? ⟨g, m * 7 + 1, none⟩ = some (.int .i64 x'.own) := hcell 1 _ rfl
    have d2 : w5.cell? ⟨g, m * 7 + 2, none⟩ = some (.int .i64 x'.grp) := hcell 2 _ rfl
    have d3 : w5.cell? ⟨g, m * 7 + 3, none⟩ = some (.int .i64 x'.mode) := hcell 3 _ rfl
    have d4 : w5.cell? ⟨g, m * 7 + 4, none⟩ = some (.string x'.text) := hcell 4 _ rfl
    have d5 : w5.cell? ⟨g, m * 7 + 5, none⟩ = some (.slice an x'.N.length cn) := hcell 5 _ rfl
    have d6 : w5.cell? ⟨g, m * 7 + 6, none⟩ = some (.slice ak x'.K.length ck) := hcell 6 _ rfl
    have hN := HTr.out.nodes m x' Hx.out
    have hNl := HNB.out x' (List.mem_of_getElem? Hx.out)
    have Htake := Lib.hid (specTake x' an ak cn ck (lastOf s) w5 (node_asc hN) (kid_place hN (s := lastOf s) (by rw [HD.out.kd]; omega)).2.1 (by omega) hN.len hrn hrk)
    have i0 : (m : Int) < (T.length : Int) := by have := (List.getElem?_eq_some_iff.1 Hx.out).1; omega
    clear hcell hN hNl hcn hck hsn hsk hrn hrk hxc
    go_wp2_with fail
    refine Htake.out.mono ?_
    rintro e w6 ⟨an2, cn2, ak2, ck2, rfl, S5⟩
    have g0 := cell_ext S5.ext d0
    have g1 := cell_ext S5.ext d1
    have g2 := cell_ext S5.ext d2
    have g3 := cell_ext S5.ext d3
    have g4 := cell_ext S5.ext d4
    have g5 := cell_ext S5.ext d5
    have g6 := cell_ext S5.ext d6
    obtain ⟨X2, hX2⟩ : ∃ X2, X2 = takeNd x' (lastOf s) := ⟨_, rfl⟩
    have HX2 := Lib.hid hX2
    rw [← hX2] at S5
    rw [← hX2]
    clear hX2 d0 d1 d2 d3 d4 d5 d6 Htake hfz
    replace S : Sep w w6 [plRow 3 1 encInt1 (.slice ak2 X2.K.length ck2) X2.K, plRow 9 1 encStr1 (.slice an2 X2.N.length cn2) X2.N, plNd (.slice (some ⟨g, 0, none⟩) T.length cap2) vs T, plBox w.heap.size #[.int .i64 cr, .int .i64 ca, .int .i64 cs, .int .i64 cg] 29] := S.call S5
    clear S5
    have hvl := plG_len (S.at_ 2 rfl)
    have hrow := S.gRow 2 rfl
    rw [hvl] at hrow
    have hfz := hrow.frozenAt
    clear hrow
    have S6 := S.ofRows 1 0 (⟨X2, an2, cn2, ak2, ck2⟩ : Nc) rfl rfl (by decide)
    have S7 := S6.gPut 1 0 encNc_len rfl rfl (by decide) (k := m) (by have := (List.getElem?_eq_some_iff.1 Hx.out).1; omega)
    have S8 : Sep w (((((((w6.setCell ⟨g, m * 7, none⟩ (.bool X2.fold)).setCell ⟨g, m * 7 + 1, none⟩ (.int .i64 X2.own)).setCell ⟨g, m * 7 + 2, none⟩ (.int .i64 X2.grp)).setCell ⟨g, m * 7 + 3, none⟩ (.int .i64 X2.mode)).setCell ⟨g, m * 7 + 4, none⟩ (.string X2.text)).setCell ⟨g, m * 7 + 5, none⟩ (.slice an2 X2.N.length cn2)).setCell ⟨g, m * 7 + 6, none⟩ (.slice ak2 X2.K.length ck2)) [plNd (.slice (some ⟨g, 0, none⟩) T.length cap2) (vs.set m ⟨X2, an2, cn2, ak2, ck2⟩) (T.set m X2), plBox w.heap.size #[.int .i64 cr, .int .i64 ca, .int .i64 cs, .int .i64 cg] 29] := S7
    have S9 := S8.drop 1
    have HS8 := Lib.hid S9
    clear S S6 S7 S8 S9 hvl
    have HR : Hid (moveName T ⟨cr, ca, cs, cg⟩ s d = ((T.set m X2).set n (putNd y (lastOf d) (kid : Int)), 0)) := Lib.hid (by rw [HXm.out, HX2.out]; rfl)
    have Hy1 : Hid ((T.set m X2)[n]? = some y) := Lib.hid (by rw [HX2.out]; exact Hy.out)
    clear HXm
    go_upto_region 15 with fail
    have SC := HS8.out
    generalize (((((((w6.setCell ⟨g, m * 7, none⟩ (.bool X2.fold)).setCell ⟨g, m * 7 + 1, none⟩ (.int .i64 X2.own)).setCell ⟨g, m * 7 + 2, none⟩ (.int .i64 X2.grp)).setCell ⟨g, m * 7 + 3, none⟩ (.int .i64 X2.mode)).setCell ⟨g, m * 7 + 4, none⟩ (.string X2.text)).setCell ⟨g, m * 7 + 5, none⟩ (.slice an2 X2.N.length cn2)).setCell ⟨g, m * 7 + 6, none⟩ (.slice ak2 X2.K.length ck2)) = w7 at *
    clear HS8 g0 g1 g2 g3 g4 g5 g6 hfz
    generalize vs.set m (⟨X2, an2, cn2, ak2, ck2⟩ : Nc) = v1 at *
    have hl2 : T.length = (T.set m X2).length := by rw [List.length_set]
    generalize T.set m X2 = T1 at *
    have HyT := HyN
    rw [hl2] at SC hnT hnTi ⊢
    clear hl2
    have S : Sep w w7 [plNd (.slice (some ⟨g, 0, none⟩) T1.length cap2) v1 T1] := SC
    clear SC
    have hy1 := Hy1.out
    obtain ⟨yc, g', cap3, hu, hcap3, hyc, hyn, hcell, hfz, hsn, hsk, hcn, hck, hrn, hrk⟩ := S.ndAt 0 rfl hy1
    obtain ⟨rfl, rfl⟩ : g = g' ∧ cap2 = cap3 := by simp only [Value.slice.injEq, Option.some.injEq, Addr.mk.injEq, and_true, true_and] at hu; exact ⟨hu.1, hu.2⟩
    obtain ⟨y', an, cn, ak, ck⟩ := yc
    dsimp only at hyn hsn hsk hcn hck hrn hrk
    subst hyn
    have d0 : w7.cell? ⟨g, n * 7, none⟩ = some (.bool y'.fold) := hcell 0 _ rfl
    have d1 : w7.cell? ⟨g, n * 7 + 1, none⟩ = some (.int .i64 y'.own) := hcell 1 _ rfl
    have d2 : w7.cell? ⟨g, n * 7 + 2, none⟩ = some (.int .i64 y'.grp) := hcell 2 _ rfl
    have d3 : w7.cell? ⟨g, n * 7 + 3, none⟩ = some (.int .i64 y'.mode) := hcell 3 _ rfl
    have d4 : w7.cell? ⟨g, n * 7 + 4, none⟩ = some (.string y'.text) := hcell 4 _ rfl
    have d5 : w7.cell? ⟨g, n * 7 + 5, none⟩ = some (.slice an y'.N.length cn) := hcell 5 _ rfl
    have d6 : w7.cell? ⟨g, n * 7 + 6, none⟩ = some (.slice ak y'.K.length ck) := hcell 6 _ rfl
    have Hput := Lib.hid (specPut y' an ak cn ck (lastOf d) (kid : Int) w7 (by have := HyN.out.2; omega) HyN.out.1.len hcn hck hsn hsk hrn hrk)
    clear hcell hcn hck hsn hsk hrn hrk hyc hu hy1
    go_wp2_with fail
    refine Hput.out.mono ?_
    rintro e w8 ⟨an3, cn3, ak3, ck3, rfl, S5⟩
    have g0 := cell_ext S5.ext d0
    have g1 := cell_ext S5.ext d1
    have g2 := cell_ext S5.ext d2
    have g3 := cell_ext S5.ext d3
    have g4 := cell_ext S5.ext d4
    have g5 := cell_ext S5.ext d5
    have g6 := cell_ext S5.ext d6
    obtain ⟨X3, hX3⟩ : ∃ X3, X3 = putNd y' (lastOf d) (kid : Int) := ⟨_, rfl⟩
    rw [← hX3] at S5 HR
    rw [← hX3]
    clear hX3 d0 d1 d2 d3 d4 d5 d6 Hput hfz
    replace S : Sep w w8 [plRow 3 1 encInt1 (.slice ak3 X3.K.length ck3) X3.K, plRow 9 1 encStr1 (.slice an3 X3.N.length cn3) X3.N, plNd (.slice (some ⟨g, 0, none⟩) T1.length cap2) v1 T1] := S.call S5
    clear S5
    have hvl := plG_len (S.at_ 2 rfl)
    have hrow := S.gRow 2 rfl
    rw [hvl] at hrow
    have hfz := hrow.frozenAt
    clear hrow
    have S6 := S.ofRows 1 0 (⟨X3, an3, cn3, ak3, ck3⟩ : Nc) rfl rfl (by decide)
    have S7 := S6.gPut 1 0 encNc_len rfl rfl (by decide) (k := n) (by omega)
    have S8 : Sep w (((((((w8.setCell ⟨g, n * 7, none⟩ (.bool X3.fold)).setCell ⟨g, n * 7 + 1, none⟩ (.int .i64 X3.own)).setCell ⟨g, n * 7 + 2, none⟩ (.int .i64 X3.grp)).setCell ⟨g, n * 7 + 3, none⟩ (.int .i64 X3.mode)).setCell ⟨g, n * 7 + 4, none⟩ (.string X3.text)).setCell ⟨g, n * 7 + 5, none⟩ (.slice an3 X3.N.length cn3)).setCell ⟨g, n * 7 + 6, none⟩ (.slice ak3 X3.K.length ck3)) [plNd (.slice (some ⟨g, 0, none⟩) T1.length cap2) (v1.set n ⟨X3, an3, cn3, ak3, ck3⟩) (T1.set n X3)] := S7
    have HS9 := Lib.hid S8
    clear S S6 S7 S8 hvl
    go_wp2
    go_ret2
    exact ⟨_, _, by rw [HR.out]; rfl, by rw [HR.out]; exact HS9.out⟩
 ·rw [hv]
  clear hv
  rcases fa_cases T ⟨cr, ca, cs, cg⟩ d with ⟨n, y0, hG⟩ | ⟨f, hf, hF⟩
  rotate_left
  ·have hp0 := pf_bad hf hF
   have HX := Lib.hid (mv_place HD0.out hf hp0)
   have tf : (f == 0) = false := by simpa using hf
   have HPl2 := HPl.out w2 S.ext
   rw [hp0] at HPl2
   clear hf hF hp0
   obtain ⟨⟨bc0, bf0⟩, ⟨bc1, bf1⟩, ⟨bc2, bf2⟩, ⟨bc3, bf3⟩⟩ := bx4 (S.box 0 rfl)
   go_wp2_with fail
   clear bc0 bf0 bc1 bf1 bc2 bf2 bc3 bf3
   refine HPl2.mono ?_
   rintro e w3 ⟨rfl, hE⟩
   replace S := S.step hE
   clear hE
   go_wp2
   go_ret2
   exact RetMk.empty S.ext HX.out
  by_cases hth : 0 ≤ kidOf y0.N y0.K (lastOf d)
  ·have hp0 := (pf_good hG).trans (if_pos hth)
   have HX := Lib.hid (mv_place HD0.out (by decide) hp0)
   have HPl2 := HPl.out w2 S.ext
   rw [hp0] at HPl2
   clear hG hth hp0
   obtain ⟨⟨bc0, bf0⟩, ⟨bc1, bf1⟩, ⟨bc2, bf2⟩, ⟨bc3, bf3⟩⟩ := bx4 (S.box 0 rfl)
   go_wp2_with fail
   clear bc0 bf0 bc1 bf1 bc2 bf2 bc3 bf3
   refine HPl2.mono ?_
   rintro e w3 ⟨rfl, hE⟩
   replace S := S.step hE
   clear hE
   go_wp2
   go_ret2
   exact RetMk.empty S.ext HX.out
  have hp0 := (pf_good hG).trans (if_neg hth)
  have hnT := (List.getElem?_eq_some_iff.1 hG.hx).1
  have hnd : True := trivial
  have hnTi : (n : Int) < (T.length : Int) := by omega
  obtain ⟨⟨bc0, bf0⟩, ⟨bc1, bf1⟩, ⟨bc2, bf2⟩, ⟨bc3, bf3⟩⟩ := bx4 (S.box 0 rfl)
  go_wp2_with fail
  clear bc0 bf0 bc1 bf1 bc2 bf2 bc3 bf3
  refine (HPl.out w2 S.ext).mono ?_
  rintro e w3 ⟨rfl, hE⟩
  replace S := S.step hE
  clear hE
  rw [hp0]
  have HP0 := Lib.hid hp0
  clear hG hth hp0 hnd
  dsimp only
  go_wp2_with fail
  refine (HAb1.out w3 S.ext).mono ?_
  rintro e w4 ⟨rfl, hE⟩
  replace S := S.step hE
  clear hE
  go_wp2_with fail
  refine (HAb2.out w4 S.ext).mono ?_
  rintro e w5 ⟨rfl, hE⟩
  replace S := S.step hE
  clear hE
  obtain ⟨⟨bc0, bf0⟩, ⟨bc1, bf1⟩, ⟨bc2, bf2⟩, ⟨bc3, bf3⟩⟩ := bx4 (S.box 0 rfl)
  go_wp2_with fail
  clear bc0 bf0 bc1 bf1 bc2 bf2 bc3 bf3
  refine (HFn.out w5 S.ext).mono ?_
  rintro e w6 ⟨rfl, hE⟩
  replace S := S.step hE
  clear hE
  rw [HD.out.fa.find]
  dsimp only
  obtain ⟨x1, b', off, an, cn, ak, ck, hx, rfl, c0, c1, c2, c3, c4, c5, c6, hcn, hck, hrn, hrk⟩ := atNd (hc.ext S.ext) (show m < T.length by omega)
  obtain rfl : x = x1 := Option.some.inj (Hx.out.symm.trans hx)
  have HKd := Lib.hid (specKid x an ak cn ck (lastOf s) w6 (by have := HNB.out x (List.mem_of_getElem? hx); omega) (HTr.out.nodes m x hx).len hrn hrk)
  rw [HD.out.kd] at HKd
  obtain ⟨z1, b2, off2, _, _, _, _, hz, hzb, z0, _⟩ := atNd (hc.ext S.ext) (show kid < T.length by omega)
  obtain ⟨rfl, rfl⟩ : b' = b2 ∧ off = off2 := by simpa using hzb
  obtain rfl : z = z1 := Option.some.inj (HD.out.hz.symm.trans hz)
  clear hx hz hzb hcn hck hrn hrk
  go_wp2_with fail
  refine HKd.out.mono ?_
  rintro e w7a ⟨rfl, hE⟩
  clear c0 c1 c2 c3 c4 c5 c6 HKd
  replace z0 := cell_ext hE z0
  replace S := S.step hE
  clear hE
  by_cases hbad : z.fold = true ∧ m ≠ n
  ·have HX := Lib.hid (mv_kind HD0.out HD.out HP0.out hbad.1 hbad.2)
   rw [hbad.1] at z0
   have tn : ((m : Int) == (n : Int)) = false := by have := hbad.2; simp; omega
   have tn2 : ((m : Int) != (n : Int)) = true := by have := hbad.2; simp; omega
   clear hbad
   go_wp2
   go_ret2
   exact RetMk.empty S.ext HX.out
  ·have hgood : z.fold = false ∨ m = n := by
    cases hzf : z.fold with
    | false => exact .inl rfl
    | true => exact .inr (Classical.byContradiction (fun h => hbad ⟨hzf, h⟩))
   have HGd := Lib.hid hgood
   obtain ⟨y, hy⟩ : ∃ y, (T.set m (takeNd x (lastOf s)))[n]? = some y := ⟨_, List.getElem?_eq_getElem (by rw [List.length_set]; exact hnT)⟩
   have HyN : Hid (NodeOk y T.length ∧ y.N.length ≤ 1000000) := Lib.hid (by
    rcases take_get Hx.out _ hy with ⟨e, rfl⟩ | ⟨_, e⟩
    ·refine ⟨takeNd_ok (HTr.out.nodes m x Hx.out) (kid_place (HTr.out.nodes m x Hx.out) (s := lastOf s) (by rw [HD.out.kd]; omega)).2.2.2.2.2, ?_⟩
     have h1 : (x.N.eraseIdx (posOf x.N (lastOf s))).length ≤ x.N.length := (List.eraseIdx_sublist ..).length_le
     have h2 := HNB.out x (List.mem_of_getElem? Hx.out)
     show (x.N.eraseIdx (posOf x.N (lastOf s))).length ≤ _
     omega
    ·exact ⟨HTr.out.nodes n y e, HNB.out y (List.mem_of_getElem? e)⟩)
   have Hy := Lib.hid hy
   have HXm := Lib.hid (mv_ok HD0.out HD.out HP0.out hgood hy)
   have hzn : z.fold = false ∨ (z.fold = true ∧ m = n) := by
    rcases hgood with h | h
    ·exact .inl h
    ·cases hzf : z.fold with
     | false => exact .inl rfl
     | true => exact .inr ⟨rfl, h⟩
   clear hbad hgood hy
   rcases hzn with hzf | ⟨hzf, hmn⟩
   ·rw [hzf] at z0
    clear hzf
    go_wp2_with fail
    refine (HCp.out w7a S.ext).mono ?_
    rintro e w5 ⟨u, vs, rfl, S4⟩
    replace S : Sep w w5 [plNd u vs T, plBox w.heap.size #[.int .i64 cr, .int .i64 ca, .int .i64 cs, .int .i64 cg] 29] := S.call S4
    clear S4
    obtain ⟨xc, g, cap2, rfl, hcap2, hxc, hxn, hcell, hfz, hsn, hsk, hcn, hck, hrn, hrk⟩ := S.ndAt 0 rfl Hx.out
    obtain ⟨x', an, cn, ak, ck⟩ := xc
    dsimp only at hxn hsn hsk hcn hck hrn hrk
    subst hxn
    have d0 : w5.cell? ⟨g, m * 7, none⟩ = some (.bool x'.fold) := hcell 0 _ rfl
    have d1 : w5.cell? ⟨g, m * 7 + 1, none⟩ = some (.int .i64 x'.own) := hcell 1 _ rfl
    have d2 : w5.cell? ⟨g, m * 7 + 2, none⟩ = some (.int .i64 x'.grp) := hcell 2 _ rfl
    have d3 : w5.cell? ⟨g, m * 7 + 3, none⟩ = some (.int .i64 x'.mode) := hcell 3 _ rfl
    have d4 : w5.cell? ⟨g, m * 7 + 4, none⟩ = some (.string x'.text) := hcell 4 _ rfl
    have d5 : w5.cell? ⟨g, m * 7 + 5, none⟩ = some (.slice an x'.N.length cn) := hcell 5 _ rfl
    have d6 : w5.cell? ⟨g, m * 7 + 6, none⟩ = some (.slice ak x'.K.length ck) := hcell 6 _ rfl
    have hN := HTr.out.nodes m x' Hx.out
    have hNl := HNB.out x' (List.mem_of_getElem? Hx.out)
    have Htake := Lib.hid (specTake x' an ak cn ck (lastOf s) w5 (node_asc hN) (kid_place hN (s := lastOf s) (by rw [HD.out.kd]; omega)).2.1 (by omega) hN.len hrn hrk)
    have i0 : (m : Int) < (T.length : Int) := by have := (List.getElem?_eq_some_iff.1 Hx.out).1; omega
    clear hcell hN hNl hcn hck hsn hsk hrn hrk hxc
    go_wp2_with fail
    refine Htake.out.mono ?_
    rintro e w6 ⟨an2, cn2, ak2, ck2, rfl, S5⟩
    have g0 := cell_ext S5.ext d0
    have g1 := cell_ext S5.ext d1
    have g2 := cell_ext S5.ext d2
    have g3 := cell_ext S5.ext d3
    have g4 := cell_ext S5.ext d4
    have g5 := cell_ext S5.ext d5
    have g6 := cell_ext S5.ext d6
    obtain ⟨X2, hX2⟩ : ∃ X2, X2 = takeNd x' (lastOf s) := ⟨_, rfl⟩
    have HX2 := Lib.hid hX2
    rw [← hX2] at S5
    rw [← hX2]
    clear hX2 d0 d1 d2 d3 d4 d5 d6 Htake hfz
    replace S : Sep w w6 [plRow 3 1 encInt1 (.slice ak2 X2.K.length ck2) X2.K, plRow 9 1 encStr1 (.slice an2 X2.N.length cn2) X2.N, plNd (.slice (some ⟨g, 0, none⟩) T.length cap2) vs T, plBox w.heap.size #[.int .i64 cr, .int .i64 ca, .int .i64 cs, .int .i64 cg] 29] := S.call S5
    clear S5
    have hvl := plG_len (S.at_ 2 rfl)
    have hrow := S.gRow 2 rfl
    rw [hvl] at hrow
    have hfz := hrow.frozenAt
    clear hrow
    have S6 := S.ofRows 1 0 (⟨X2, an2, cn2, ak2, ck2⟩ : Nc) rfl rfl (by decide)
    have S7 := S6.gPut 1 0 encNc_len rfl rfl (by decide) (k := m) (by have := (List.getElem?_eq_some_iff.1 Hx.out).1; omega)
    have S8 : Sep w (((((((w6.setCell ⟨g, m * 7, none⟩ (.bool X2.fold)).setCell ⟨g, m * 7 + 1, none⟩ (.int .i64 X2.own)).setCell ⟨g, m * 7 + 2, none⟩ (.int .i64 X2.grp)).setCell ⟨g, m * 7 + 3, none⟩ (.int .i64 X2.mode)).setCell ⟨g, m * 7 + 4, none⟩ (.string X2.text)).setCell ⟨g, m * 7 + 5, none⟩ (.slice an2 X2.N.length cn2)).setCell ⟨g, m * 7 + 6, none⟩ (.slice ak2 X2.K.length ck2)) [plNd (.slice (some ⟨g, 0, none⟩) T.length cap2) (vs.set m ⟨X2, an2, cn2, ak2, ck2⟩) (T.set m X2), plBox w.heap.size #[.int .i64 cr, .int .i64 ca, .int .i64 cs, .int .i64 cg] 29] := S7
    have S9 := S8.drop 1
    have HS8 := Lib.hid S9
    clear S S6 S7 S8 S9 hvl
    have HR : Hid (moveName T ⟨cr, ca, cs, cg⟩ s d = ((T.set m X2).set n (putNd y (lastOf d) (kid : Int)), 0)) := Lib.hid (by rw [HXm.out, HX2.out]; rfl)
    have Hy1 : Hid ((T.set m X2)[n]? = some y) := Lib.hid (by rw [HX2.out]; exact Hy.out)
    clear HXm
    go_upto_region 15 with fail
    have SC := HS8.out
    generalize (((((((w6.setCell ⟨g, m * 7, none⟩ (.bool X2.fold)).setCell ⟨g, m * 7 + 1, none⟩ (.int .i64 X2.own)).setCell ⟨g, m * 7 + 2, none⟩ (.int .i64 X2.grp)).setCell ⟨g, m * 7 + 3, none⟩ (.int .i64 X2.mode)).setCell ⟨g, m * 7 + 4, none⟩ (.string X2.text)).setCell ⟨g, m * 7 + 5, none⟩ (.slice an2 X2.N.length cn2)).setCell ⟨g, m * 7 + 6, none⟩ (.slice ak2 X2.K.length ck2)) = w7 at *
    clear HS8 g0 g1 g2 g3 g4 g5 g6 hfz
    generalize vs.set m (⟨X2, an2, cn2, ak2, ck2⟩ : Nc) = v1 at *
    have hl2 : T.length = (T.set m X2).length := by rw [List.length_set]
    generalize T.set m X2 = T1 at *
    have HyT := HyN
    rw [hl2] at SC hnT hnTi ⊢
    clear hl2
    have S : Sep w w7 [plNd (.slice (some ⟨g, 0, none⟩) T1.length cap2) v1 T1] := SC
    clear SC
    have hy1 := Hy1.out
    obtain ⟨yc, g', cap3, hu, hcap3, hyc, hyn, hcell, hfz, hsn, hsk, hcn, hck, hrn, hrk⟩ := S.ndAt 0 rfl hy1
    obtain ⟨rfl, rfl⟩ : g = g' ∧ cap2 = cap3 := by simp only [Value.slice.injEq, Option.some.injEq, Addr.mk.injEq, and_true, true_and] at hu; exact ⟨hu.1, hu.2⟩
    obtain ⟨y', an, cn, ak, ck⟩ := yc
    dsimp only at hyn hsn hsk hcn hck hrn hrk
    subst hyn
    have d0 : w7.cell? ⟨g, n * 7, none⟩ = some (.bool y'.fold) := hcell 0 _ rfl
    have d1 : w7.cell? ⟨g, n * 7 + 1, none⟩ = some (.int .i64 y'.own) := hcell 1 _ rfl
    have d2 : w7.cell? ⟨g, n * 7 + 2, none⟩ = some (.int .i64 y'.grp) := hcell 2 _ rfl
    have d3 : w7.cell? ⟨g, n * 7 + 3, none⟩ = some (.int .i64 y'.mode) := hcell 3 _ rfl
    have d4 : w7.cell? ⟨g, n * 7 + 4, none⟩ = some (.string y'.text) := hcell 4 _ rfl
    have d5 : w7.cell? ⟨g, n * 7 + 5, none⟩ = some (.slice an y'.N.length cn) := hcell 5 _ rfl
    have d6 : w7.cell? ⟨g, n * 7 + 6, none⟩ = some (.slice ak y'.K.length ck) := hcell 6 _ rfl
    have Hput := Lib.hid (specPut y' an ak cn ck (lastOf d) (kid : Int) w7 (by have := HyN.out.2; omega) HyN.out.1.len hcn hck hsn hsk hrn hrk)
    clear hcell hcn hck hsn hsk hrn hrk hyc hu hy1
    go_wp2_with fail
    refine Hput.out.mono ?_
    rintro e w8 ⟨an3, cn3, ak3, ck3, rfl, S5⟩
    have g0 := cell_ext S5.ext d0
    have g1 := cell_ext S5.ext d1
    have g2 := cell_ext S5.ext d2
    have g3 := cell_ext S5.ext d3
    have g4 := cell_ext S5.ext d4
    have g5 := cell_ext S5.ext d5
    have g6 := cell_ext S5.ext d6
    obtain ⟨X3, hX3⟩ : ∃ X3, X3 = putNd y' (lastOf d) (kid : Int) := ⟨_, rfl⟩
    rw [← hX3] at S5 HR
    rw [← hX3]
    clear hX3 d0 d1 d2 d3 d4 d5 d6 Hput hfz
    replace S : Sep w w8 [plRow 3 1 encInt1 (.slice ak3 X3.K.length ck3) X3.K, plRow 9 1 encStr1 (.slice an3 X3.N.length cn3) X3.N, plNd (.slice (some ⟨g, 0, none⟩) T1.length cap2) v1 T1] := S.call S5
    clear S5
    have hvl := plG_len (S.at_ 2 rfl)
    have hrow := S.gRow 2 rfl
    rw [hvl] at hrow
    have hfz := hrow.frozenAt
    clear hrow
    have S6 := S.ofRows 1 0 (⟨X3, an3, cn3, ak3, ck3⟩ : Nc) rfl rfl (by decide)
    have S7 := S6.gPut 1 0 encNc_len rfl rfl (by decide) (k := n) (by omega)
    have S8 : Sep w (((((((w8.setCell ⟨g, n * 7, none⟩ (.bool X3.fold)).setCell ⟨g, n * 7 + 1, none⟩ (.int .i64 X3.own)).setCell ⟨g, n * 7 + 2, none⟩ (.int .i64 X3.grp)).setCell ⟨g, n * 7 + 3, none⟩ (.int .i64 X3.mode)).setCell ⟨g, n * 7 + 4, none⟩ (.string X3.text)).setCell ⟨g, n * 7 + 5, none⟩ (.slice an3 X3.N.length cn3)).setCell ⟨g, n * 7 + 6, none⟩ (.slice ak3 X3.K.length ck3)) [plNd (.slice (some ⟨g, 0, none⟩) T1.length cap2) (v1.set n ⟨X3, an3, cn3, ak3, ck3⟩) (T1.set n X3)] := S7
    have HS9 := Lib.hid S8
    clear S S6 S7 S8 hvl
    go_wp2
    go_ret2
    exact ⟨_, _, by rw [HR.out]; rfl, by rw [HR.out]; exact HS9.out⟩
   ·rw [hzf] at z0
    have tn : ((m : Int) == (n : Int)) = true := by simp; omega
    have tn2 : ((m : Int) != (n : Int)) = false := by simp; omega
    clear hzf hmn
    go_wp2_with fail
    refine (HCp.out w7a S.ext).mono ?_
    rintro e w5 ⟨u, vs, rfl, S4⟩
    replace S : Sep w w5 [plNd u vs T, plBox w.heap.size #[.int .i64 cr, .int .i64 ca, .int .i64 cs, .int .i64 cg] 29] := S.call S4
    clear S4
    obtain ⟨xc, g, cap2, rfl, hcap2, hxc, hxn, hcell, hfz, hsn, hsk, hcn, hck, hrn, hrk⟩ := S.ndAt 0 rfl Hx.out
    obtain ⟨x', an, cn, ak, ck⟩ := xc
    dsimp only at hxn hsn hsk hcn hck hrn hrk
    subst hxn
    have d0 : w5.cell? ⟨g, m * 7, none⟩ = some (.bool x'.fold) := hcell 0 _ rfl
    have d1 : w5.cell? ⟨g, m * 7 + 1, none⟩ = some (.int .i64 x'.own) := hcell 1 _ rfl
    have d2 : w5.cell? ⟨g, m * 7 + 2, none⟩ = some (.int .i64 x'.grp) := hcell 2 _ rfl
    have d3 : w5.cell? ⟨g, m * 7 + 3, none⟩ = some (.int .i64 x'.mode) := hcell 3 _ rfl
    have d4 : w5.cell? ⟨g, m * 7 + 4, none⟩ = some (.string x'.text) := hcell 4 _ rfl
    have d5 : w5.cell? ⟨g, m * 7 + 5, none⟩ = some (.slice an x'.N.length cn) := hcell 5 _ rfl
    have d6 : w5.cell? ⟨g, m * 7 + 6, none⟩ = some (.slice ak x'.K.length ck) := hcell 6 _ rfl
    have hN := HTr.out.nodes m x' Hx.out
    have hNl := HNB.out x' (List.mem_of_getElem? Hx.out)
    have Htake := Lib.hid (specTake x' an ak cn ck (lastOf s) w5 (node_asc hN) (kid_place hN (s := lastOf s) (by rw [HD.out.kd]; omega)).2.1 (by omega) hN.len hrn hrk)
    have i0 : (m : Int) < (T.length : Int) := by have := (List.getElem?_eq_some_iff.1 Hx.out).1; omega
    clear hcell hN hNl hcn hck hsn hsk hrn hrk hxc
    go_wp2_with fail
    refine Htake.out.mono ?_
    rintro e w6 ⟨an2, cn2, ak2, ck2, rfl, S5⟩
    have g0 := cell_ext S5.ext d0
    have g1 := cell_ext S5.ext d1
    have g2 := cell_ext S5.ext d2
    have g3 := cell_ext S5.ext d3
    have g4 := cell_ext S5.ext d4
    have g5 := cell_ext S5.ext d5
    have g6 := cell_ext S5.ext d6
    obtain ⟨X2, hX2⟩ : ∃ X2, X2 = takeNd x' (lastOf s) := ⟨_, rfl⟩
    have HX2 := Lib.hid hX2
    rw [← hX2] at S5
    rw [← hX2]
    clear hX2 d0 d1 d2 d3 d4 d5 d6 Htake hfz
    replace S : Sep w w6 [plRow 3 1 encInt1 (.slice ak2 X2.K.length ck2) X2.K, plRow 9 1 encStr1 (.slice an2 X2.N.length cn2) X2.N, plNd (.slice (some ⟨g, 0, none⟩) T.length cap2) vs T, plBox w.heap.size #[.int .i64 cr, .int .i64 ca, .int .i64 cs, .int .i64 cg] 29] := S.call S5
    clear S5
    have hvl := plG_len (S.at_ 2 rfl)
    have hrow := S.gRow 2 rfl
    rw [hvl] at hrow
    have hfz := hrow.frozenAt
    clear hrow
    have S6 := S.ofRows 1 0 (⟨X2, an2, cn2, ak2, ck2⟩ : Nc) rfl rfl (by decide)
    have S7 := S6.gPut 1 0 encNc_len rfl rfl (by decide) (k := m) (by have := (List.getElem?_eq_some_iff.1 Hx.out).1; omega)
    have S8 : Sep w (((((((w6.setCell ⟨g, m * 7, none⟩ (.bool X2.fold)).setCell ⟨g, m * 7 + 1, none⟩ (.int .i64 X2.own)).setCell ⟨g, m * 7 + 2, none⟩ (.int .i64 X2.grp)).setCell ⟨g, m * 7 + 3, none⟩ (.int .i64 X2.mode)).setCell ⟨g, m * 7 + 4, none⟩ (.string X2.text)).setCell ⟨g, m * 7 + 5, none⟩ (.slice an2 X2.N.length cn2)).setCell ⟨g, m * 7 + 6, none⟩ (.slice ak2 X2.K.length ck2)) [plNd (.slice (some ⟨g, 0, none⟩) T.length cap2) (vs.set m ⟨X2, an2, cn2, ak2, ck2⟩) (T.set m X2), plBox w.heap.size #[.int .i64 cr, .int .i64 ca, .int .i64 cs, .int .i64 cg] 29] := S7
    have S9 := S8.drop 1
    have HS8 := Lib.hid S9
    clear S S6 S7 S8 S9 hvl
    have HR : Hid (moveName T ⟨cr, ca, cs, cg⟩ s d = ((T.set m X2).set n (putNd y (lastOf d) (kid : Int)), 0)) := Lib.hid (by rw [HXm.out, HX2.out]; rfl)
    have Hy1 : Hid ((T.set m X2)[n]? = some y) := Lib.hid (by rw [HX2.out]; exact Hy.out)
    clear HXm
    go_upto_region 15 with fail
    have SC := HS8.out
    generalize (((((((w6.setCell ⟨g, m * 7, none⟩ (.bool X2.fold)).setCell ⟨g, m * 7 + 1, none⟩ (.int .i64 X2.own)).setCell ⟨g, m * 7 + 2, none⟩ (.int .i64 X2.grp)).setCell ⟨g, m * 7 + 3, none⟩ (.int .i64 X2.mode)).setCell ⟨g, m * 7 + 4, none⟩ (.string X2.text)).setCell ⟨g, m * 7 + 5, none⟩ (.slice an2 X2.N.length cn2)).setCell ⟨g, m * 7 + 6, none⟩ (.slice ak2 X2.K.length ck2)) = w7 at *
    clear HS8 g0 g1 g2 g3 g4 g5 g6 hfz
    generalize vs.set m (⟨X2, an2, cn2, ak2, ck2⟩ : Nc) = v1 at *
    have hl2 : T.length = (T.set m X2).length := by rw [List.length_set]
    generalize T.set m X2 = T1 at *
    have HyT := HyN
    rw [hl2] at SC hnT hnTi ⊢
    clear hl2
    have S : Sep w w7 [plNd (.slice (some ⟨g, 0, none⟩) T1.length cap2) v1 T1] := SC
    clear SC
    have hy1 := Hy1.out
    obtain ⟨yc, g', cap3, hu, hcap3, hyc, hyn, hcell, hfz, hsn, hsk, hcn, hck, hrn, hrk⟩ := S.ndAt 0 rfl hy1
    obtain ⟨rfl, rfl⟩ : g = g' ∧ cap2 = cap3 := by simp only [Value.slice.injEq, Option.some.injEq, Addr.mk.injEq, and_true, true_and] at hu; exact ⟨hu.1, hu.2⟩
    obtain ⟨y', an, cn, ak, ck⟩ := yc
    dsimp only at hyn hsn hsk hcn hck hrn hrk
    subst hyn
    have d0 : w7.cell? ⟨g, n * 7, none⟩ = some (.bool y'.fold) := hcell 0 _ rfl
    have d1 : w7.cell? ⟨g, n * 7 + 1, none⟩ = some (.int .i64 y'.own) := hcell 1 _ rfl
    have d2 : w7.cell? ⟨g, n * 7 + 2, none⟩ = some (.int .i64 y'.grp) := hcell 2 _ rfl
    have d3 : w7.cell? ⟨g, n * 7 + 3, none⟩ = some (.int .i64 y'.mode) := hcell 3 _ rfl
    have d4 : w7.cell? ⟨g, n * 7 + 4, none⟩ = some (.string y'.text) := hcell 4 _ rfl
    have d5 : w7.cell? ⟨g, n * 7 + 5, none⟩ = some (.slice an y'.N.length cn) := hcell 5 _ rfl
    have d6 : w7.cell? ⟨g, n * 7 + 6, none⟩ = some (.slice ak y'.K.length ck) := hcell 6 _ rfl
    have Hput := Lib.hid (specPut y' an ak cn ck (lastOf d) (kid : Int) w7 (by have := HyN.out.2; omega) HyN.out.1.len hcn hck hsn hsk hrn hrk)
    clear hcell hcn hck hsn hsk hrn hrk hyc hu hy1
    go_wp2_with fail
    refine Hput.out.mono ?_
    rintro e w8 ⟨an3, cn3, ak3, ck3, rfl, S5⟩
    have g0 := cell_ext S5.ext d0
    have g1 := cell_ext S5.ext d1
    have g2 := cell_ext S5.ext d2
    have g3 := cell_ext S5.ext d3
    have g4 := cell_ext S5.ext d4
    have g5 := cell_ext S5.ext d5
    have g6 := cell_ext S5.ext d6
    obtain ⟨X3, hX3⟩ : ∃ X3, X3 = putNd y' (lastOf d) (kid : Int) := ⟨_, rfl⟩
    rw [← hX3] at S5 HR
    rw [← hX3]
    clear hX3 d0 d1 d2 d3 d4 d5 d6 Hput hfz
    replace S : Sep w w8 [plRow 3 1 encInt1 (.slice ak3 X3.K.length ck3) X3.K, plRow 9 1 encStr1 (.slice an3 X3.N.length cn3) X3.N, plNd (.slice (some ⟨g, 0, none⟩) T1.length cap2) v1 T1] := S.call S5
    clear S5
    have hvl := plG_len (S.at_ 2 rfl)
    have hrow := S.gRow 2 rfl
    rw [hvl] at hrow
    have hfz := hrow.frozenAt
    clear hrow
    have S6 := S.ofRows 1 0 (⟨X3, an3, cn3, ak3, ck3⟩ : Nc) rfl rfl (by decide)
    have S7 := S6.gPut 1 0 encNc_len rfl rfl (by decide) (k := n) (by omega)
    have S8 : Sep w (((((((w8.setCell ⟨g, n * 7, none⟩ (.bool X3.fold)).setCell ⟨g, n * 7 + 1, none⟩ (.int .i64 X3.own)).setCell ⟨g, n * 7 + 2, none⟩ (.int .i64 X3.grp)).setCell ⟨g, n * 7 + 3, none⟩ (.int .i64 X3.mode)).setCell ⟨g, n * 7 + 4, none⟩ (.string X3.text)).setCell ⟨g, n * 7 + 5, none⟩ (.slice an3 X3.N.length cn3)).setCell ⟨g, n * 7 + 6, none⟩ (.slice ak3 X3.K.length ck3)) [plNd (.slice (some ⟨g, 0, none⟩) T1.length cap2) (v1.set n ⟨X3, an3, cn3, ak3, ck3⟩) (T1.set n X3)] := S7
    have HS9 := Lib.hid S8
    clear S S6 S7 S8 hvl
    go_wp2
    go_ret2
    exact ⟨_, _, by rw [HR.out]; rfl, by rw [HR.out]; exact HS9.out⟩
end Go.Proofs.YtnibbldfohbfkaaGreatDoor
