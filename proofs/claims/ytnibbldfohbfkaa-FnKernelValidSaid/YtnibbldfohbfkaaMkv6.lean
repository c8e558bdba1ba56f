/- Texts merged: Make; LinkN; TreeX; Way; Paths; DrawF; DrawKer. Each says below what it proves and on what conditions. -/
import Derived.Deep.Cut
import Derived.Test.YtnibbldfohbfkaaMkv1
import Derived.Test.YtnibbldfohbfkaaMkv4
import Derived.Test.YtnibbldfohbfkaaMkv5
/- Trees: contracts of the reference's MakeNode, LinkName. Condition: texts of at most 10^6 bytes, rows of at most 2^20. -/
namespace Go.Proofs.Ytnibbldfohbfkaa
open Go.RowKit

def VMk (w : World) (g nn cap2 : Nat) (fo : Bool) (Bc : Nat) (ca : Int) (bt off nT cap n : Nat) (x : Nd) (md : Int) (vs : List Nc) (T1 : List Nd) (RL : List Pl) (wr : World) (base : Nat) : Nat → Value → World → Prop := fun i v wv => match i with
  | 0 => v = Value.slice (some ⟨g, 0, none⟩) nn cap2
  | 1 => v = .bool fo
  | 2 => v = .pointer (some ⟨Bc, 1, none⟩)
  | 3 => v = .int .i64 ca
  | 4 => v = .slice (some ⟨bt, off, none⟩) nT cap
  | 5 => v = .int .i64 n
  | 6 => v = .pointer (some ⟨bt, off + n * 7, none⟩)
  | 7 => v = .pointer (some ⟨bt, off + n * 7 + 2, none⟩)
  | 8 => v = .int .i64 x.grp
  | 9 => v = .int .i64 md
  | 10 => v = .agg #[.bool fo, .int .i64 ca, .int .i64 x.grp, .int .i64 md, .string ⟨#[]⟩, .slice none 0 0, .slice none 0 0]
  | 11 => ∃ g, v = .slice (some ⟨g, 0, none⟩) 1 1 ∧ base ≤ g ∧ wv.heap[g]? = some (.cells #[.bool fo, .int .i64 ca, .int .i64 x.grp, .int .i64 md, .string ⟨#[]⟩, .slice none 0 0, .slice none 0 0] 57)
  | 12 => ∃ vs2, Sep w wv (plNd v vs2 (T1 ++ [(newNd fo ca x.grp md)]) :: RL)
  | 13 => Sep w wv (plNd (Value.slice (some ⟨g, 0, none⟩) nn cap2) vs T1 :: RL)
  | _ => True
theorem VMk.ext {w : World} {g nn cap2 : Nat} {fo : Bool} {Bc : Nat} {ca : Int} {bt off nT cap n : Nat} {x : Nd} {md : Int} {vs : List Nc} {T1 : List Nd} {RL : List Pl} {wr : World} {base : Nat} (i : Nat) (v : Value) (w1 w2 : World) (h : VMk w g nn cap2 fo Bc ca bt off nT cap n x md vs T1 RL wr base i v w1) (hE : Ext w1 w2) : VMk w g nn cap2 fo Bc ca bt off nT cap n x md vs T1 RL wr base i v w2 := by
  match i with
  | 0 => exact h
  | 1 => exact h
  | 2 => exact h
  | 3 => exact h
  | 4 => exact h
  | 5 => exact h
  | 6 => exact h
  | 7 => exact h
  | 8 => exact h
  | 9 => exact h
  | 10 => exact h
  | 11 => obtain ⟨g, h1, h2, h3⟩ := h; exact ⟨g, h1, h2, heapx hE h3⟩
  | 12 => obtain ⟨vs2, h1⟩ := h; exact ⟨vs2, h1.step hE⟩
  | 13 => exact SepM.step (show Sep w w1 _ from h) hE
  | (n + 14) => trivial
/-- One element of a tree of one's own. -/
theorem SepM.ndAt {M : Nat → Prop} {w0 w : World} {H : List Pl} (S : SepM M w0 w H) (i : Nat) {u : Value} {vs : List Nc} {T : List Nd} (h : H[i]? = some (plNd u vs T)) {k : Nat} {x : Nd} (hx : T[k]? = some x) :
    ∃ (c : Nc) (g cap : Nat), u = .slice (some ⟨g, 0, none⟩) T.length cap ∧ T.length ≤ cap ∧ vs[k]? = some c ∧ c.n = x ∧ (∀ j v, (encNc c)[j]? = some v → w.cell? ⟨g, k * 7 + j, none⟩ = some v) ∧ (∀ j, w.frozen? ⟨g, j, none⟩ = false) ∧ Shape c.an x.N c.cn ∧ Shape c.ak x.K c.ck ∧ x.N.length ≤ c.cn ∧ x.K.length ≤ c.ck ∧ Rd 1 encStr1 w c.an x.N ∧ Rd 1 encInt1 w c.ak x.K := by
  have hrow := S.gRow i h
  obtain ⟨h1, h2, h3, h4, h5⟩ := S.at_ i h
  have hkT := (List.getElem?_eq_some_iff.1 hx).1
  have hk : k < vs.length := by omega
  have hc : vs[k]? = some vs[k] := List.getElem?_eq_getElem hk
  obtain ⟨e1, r1, r2, _⟩ := h3 k vs[k] x hc hx
  obtain ⟨a, cap, hu, hcap, hrd, hsh⟩ := view_owns encNc_len hrow
  obtain ⟨g, rfl⟩ : ∃ g, a = some ⟨g, 0, none⟩ := by
    rcases hsh with ⟨_, h0, _⟩ | ⟨g, h0, _⟩
    · rw [h0] at hk; exact absurd hk (Nat.not_lt_zero _)
    · exact ⟨g, h0⟩
  obtain ⟨b, off, hb, hcell⟩ := hrd k hk
  obtain ⟨rfl, rfl⟩ : g = b ∧ 0 = off := by simpa using hb
  rw [e1] at r1 r2
  obtain ⟨a1, c1, hv1, hl1, hd1, hs1⟩ := view_owns encStr1_len r1
  obtain ⟨a2, c2, hv2, hl2, hd2, hs2⟩ := view_owns encInt1_len r2
  simp only [Value.slice.injEq, true_and] at hv1 hv2
  obtain ⟨k1, k2⟩ := hv1
  obtain ⟨k3, k4⟩ := hv2
  subst hu
  refine ⟨vs[k], g, cap, by rw [h2], by omega, hc, e1, fun j v hv => by have := hcell j v hv; rwa [Nat.zero_add] at this, hrow.frozenAt, ?_, ?_, by rw [k2]; exact hl1, by rw [k4]; exact hl2, by rw [k1]; exact hd1, by rw [k3]; exact hd2⟩
  · rw [k1, k2]
    rcases hs1 with h | ⟨g, h, _⟩
    · exact .inl h
    · exact .inr ⟨g, h⟩
  · rw [k3, k4]
    rcases hs2 with h | ⟨g, h, _⟩
    · exact .inl h
    · exact .inr ⟨g, h⟩

section
variable {T : List Nd} {c : Cr} {s : ByteArray} {fo : Bool} {md : Int} {n : Nat} {x : Nd}
theorem mk_mode (h : inB md 0 1023 = false) : makeNode T c s fo md = ([], 1) := by rw [makeNode, if_pos h]
theorem mk_fault (h : inB md 0 1023 = true) (hf : (placeFor T c s).2 ≠ 0) : makeNode T c s fo md = ([], (placeFor T c s).2) := by rw [makeNode, if_neg (by simp [h]), if_pos hf]
theorem mk_full (h : inB md 0 1023 = true) (hp : placeFor T c s = ((n : Int), 0)) (hl : T.length = 16) : makeNode T c s fo md = ([], 6) := by rw [makeNode, if_neg (by simp [h]), if_neg (by rw [hp]; simp), if_pos hl]
theorem mk_ok (h : inB md 0 1023 = true) (hp : placeFor T c s = ((n : Int), 0)) (hl : ¬ T.length = 16) (hx : T[n]? = some x) : makeNode T c s fo md = (T.set n (putNd x (lastOf s) (T.length : Int)) ++ [newNd fo c.a x.grp md], 0) := by
  rw [makeNode, if_neg (by simp [h]), if_neg (by rw [hp]; simp), if_neg hl, hp]
  dsimp only
  rw [Int.toNat_natCast, hx]
theorem place_cases (T : List Nd) (c : Cr) (s : ByteArray) : (∃ (n : Nat) (x : Nd), placeFor T c s = ((n : Int), 0) ∧ T[n]? = some x ∧ TreeOk T) ∨ ∃ f : Int, f ≠ 0 ∧ placeFor T c s = (-1, f) := by
  rcases placeFor_in T c s with ⟨ab, nm, n, x, h1, _, _, h2, _, _, h3, _⟩ | ⟨h1, h2⟩
  · exact .inl ⟨n, x, h1, h2, h3⟩
  · exact .inr ⟨(placeFor T c s).2, h1, by rw [← h2]⟩
end
def RetMk (R : List Nd × Int) (w : World) (e : Ending) (w' : World) : Prop := ∃ u vs, e = .returned (.tuple #[u, .int .i64 R.2]) ∧ Sep w w' [plNd u vs R.1]
theorem RetMk.empty {w w1 : World} {R : List Nd × Int} {f : Int} (hE : Ext w w1) (hR : R = ([], f)) : RetMk R w (.returned (.tuple #[.slice (some ⟨w1.heap.size, 0, none⟩) 0 0, .int .i64 f])) (w1.alloc (.cells #[] 57)) := by
  have S0 := (Sep.of_ext hE).lit0 (n := w1.heap.size) rfl 57 7 encNc
  have S1 := S0.gPure (P := pinNd) (T := ([] : List Nd)) 0 rfl rfl (fun k s t hs => by simp at hs) (fun s hs => by simp at hs)
  exact ⟨_, [], by rw [hR], by rw [hR]; exact S1⟩

set_option maxRecDepth 10000 in
set_option maxHeartbeats 16000000 in
theorem specMakeNode (a : Option Addr) (cap : Nat) (T : List Nd) (c : Cr) (s : ByteArray) (fo : Bool) (md : Int) (w : World) (hs : s.size ≤ 1048576) (hl : T.length ≤ 1048576) (hT : ∀ x ∈ T, SmN 1048576 x) (hc : RdN w a T) :
    Calls Try.prog 49 #[.slice a T.length cap, .agg #[.int .i64 c.r, .int .i64 c.a, .int .i64 c.s, .int .i64 c.g], .string s, .bool fo, .int .i64 md] w (RetMk (makeNode T c s fo md) w) := by
  obtain ⟨cr, ca, cs, cg⟩ := c
  have HT := Lib.hid hT
  clear hT
  dsimp only
  go_enter Try.func49, Try.ntmps49
  have S := Sep.start w
  replace S : Sep w (w.alloc (.cells #[.int .i64 cr, .int .i64 ca, .int .i64 cs, .int .i64 cg] 30)) [plBox w.heap.size #[.int .i64 cr, .int .i64 ca, .int .i64 cs, .int .i64 cg] 30] := S.alloc_at (by simp) _ _
  go_wp2_with fail
  generalize (w.alloc (.cells #[.int .i64 cr, .int .i64 ca, .int .i64 cs, .int .i64 cg] 30)) = w1 at *
  refine (specPlaceFor a cap T ⟨cr, ca, cs, cg⟩ s w1 hs hl HT.out (hc.ext S.ext)).mono ?_
  rintro e w2 ⟨rfl, hE⟩
  replace S : Sep w w2 [plBox w.heap.size #[.int .i64 cr, .int .i64 ca, .int .i64 cs, .int .i64 cg] 30] := S.step hE
  clear hE
  go_wp2_with fail
  refine (specAboveOf s w2 hs).mono ?_
  rintro e w3 ⟨rfl, hE⟩
  replace S : Sep w w3 [plBox w.heap.size #[.int .i64 cr, .int .i64 ca, .int .i64 cs, .int .i64 cg] 30] := S.step hE
  clear hE
  cases hM : inB md 0 1023 with
  | false =>
    have HM := Lib.hid hM
    have HX := Lib.hid (mk_mode (T := T) (c := ⟨cr, ca, cs, cg⟩) (s := s) (fo := fo) hM)
    clear hM
    go_wp2_with (go_at_call 25; refine (l1In_is HM.out _).mono ?_; rintro e w' ⟨rfl, rfl⟩)
    go_ret2
    exact RetMk.empty S.ext HX.out
  | true =>
    have HM := Lib.hid hM
    clear hM
    rcases place_cases T ⟨cr, ca, cs, cg⟩ s with ⟨n, x, hp, hx, hTr⟩ | ⟨f, hf, hp⟩
    rotate_left
    · have HX := Lib.hid (mk_fault (T := T) (c := ⟨cr, ca, cs, cg⟩) (s := s) (fo := fo) HM.out (by rw [hp]; exact hf))
      rw [hp] at HX ⊢
      have tf : (f == 0) = false := by simpa using hf
      clear hp hf
      dsimp only at HX ⊢
      go_wp2_with (go_at_call 25; refine (l1In_is HM.out _).mono ?_; rintro e w' ⟨rfl, rfl⟩)
      go_ret2
      exact RetMk.empty S.ext HX.out
    · have Hx := Lib.hid hx
      have hn := (List.getElem?_eq_some_iff.1 hx).1
      have hmax := hTr.max
      by_cases h16 : T.length = 16
      · have HX := Lib.hid (mk_full (c := ⟨cr, ca, cs, cg⟩) (s := s) (fo := fo) HM.out hp h16)
        have t16 : (T.length : Int) = 16 := by omega
        rw [hp]
        clear hp hx
        dsimp only
        go_wp2_with (go_at_call 25; refine (l1In_is HM.out _).mono ?_; rintro e w' ⟨rfl, rfl⟩)
        go_ret2
        exact RetMk.empty S.ext HX.out
      · have HX := Lib.hid (mk_ok (c := ⟨cr, ca, cs, cg⟩) (s := s) (fo := fo) HM.out hp h16 hx)
        have t16 : ((T.length : Int) == 16) = false := by simp; omega
        rw [hp]
        have HTr := Lib.hid hTr
        clear hp hTr h16 hx
        dsimp only
        go_wp2_with (first | (go_at_call 25; refine (l1In_is HM.out _).mono ?_; rintro e w' ⟨rfl, rfl⟩) | fail)
        refine (specCopy a cap T w3 hl HT.out (hc.ext S.ext)).mono ?_
        rintro e w4 ⟨u, vs, rfl, S4⟩
        replace S : Sep w w4 [plNd u vs T, plBox w.heap.size #[.int .i64 cr, .int .i64 ca, .int .i64 cs, .int .i64 cg] 30] := S.call S4
        clear S4
        obtain ⟨xc, g, cap2, rfl, hcap2, hxc, hxn, hcell, hfz, hsn, hsk, hcn, hck, hrn, hrk⟩ := S.ndAt 0 rfl Hx.out
        obtain ⟨x', an, cn, ak, ck⟩ := xc
        dsimp only at hxn hsn hsk hcn hck hrn hrk
        subst hxn
        have d0 : w4.cell? ⟨g, n * 7, none⟩ = some (.bool x'.fold) := hcell 0 _ rfl
        have d1 : w4.cell? ⟨g, n * 7 + 1, none⟩ = some (.int .i64 x'.own) := hcell 1 _ rfl
        have d2 : w4.cell? ⟨g, n * 7 + 2, none⟩ = some (.int .i64 x'.grp) := hcell 2 _ rfl
        have d3 : w4.cell? ⟨g, n * 7 + 3, none⟩ = some (.int .i64 x'.mode) := hcell 3 _ rfl
        have d4 : w4.cell? ⟨g, n * 7 + 4, none⟩ = some (.string x'.text) := hcell 4 _ rfl
        have d5 : w4.cell? ⟨g, n * 7 + 5, none⟩ = some (.slice an x'.N.length cn) := hcell 5 _ rfl
        have d6 : w4.cell? ⟨g, n * 7 + 6, none⟩ = some (.slice ak x'.K.length ck) := hcell 6 _ rfl
        have hN := HTr.out.nodes n x' Hx.out
        have HN := Lib.hid hN
        have hsx := HT.out x' (List.mem_of_getElem? Hx.out)
        have hNl := hsx.2.1
        have Hput := Lib.hid (specPut x' an ak cn ck (lastOf s) (T.length : Int) w4 hNl hN.len hcn hck hsn hsk hrn hrk)
        have i0 : (n : Int) < (T.length : Int) := by omega
        have HK := Lib.hid hxc
        clear hcell hN hsx hNl hcn hck hsn hsk hrn hrk hxc
        go_wp2_with fail
        refine Hput.out.mono ?_
        rintro e w5 ⟨an2, cn2, ak2, ck2, rfl, S5⟩
        have g0 := cell_ext S5.ext d0
        have g1 := cell_ext S5.ext d1
        have g2 := cell_ext S5.ext d2
        have g3 := cell_ext S5.ext d3
        have g4 := cell_ext S5.ext d4
        have g5 := cell_ext S5.ext d5
        have g6 := cell_ext S5.ext d6
        obtain ⟨X2, hX2⟩ : ∃ X2, X2 = putNd x' (lastOf s) (T.length : Int) := ⟨_, rfl⟩
        rw [← hX2] at S5 HX
        have HX2 := Lib.hid hX2
        rw [← hX2]
        clear hX2 d0 d1 d2 d3 d4 d5 d6 Hput hfz
        replace S : Sep w w5 [plRow 3 1 encInt1 (.slice ak2 X2.K.length ck2) X2.K, plRow 9 1 encStr1 (.slice an2 X2.N.length cn2) X2.N, plNd (.slice (some ⟨g, 0, none⟩) T.length cap2) vs T, plBox w.heap.size #[.int .i64 cr, .int .i64 ca, .int .i64 cs, .int .i64 cg] 30] := S.call S5
        clear S5
        have hvl := plG_len (S.at_ 2 rfl)
        have hrow := S.gRow 2 rfl
        rw [hvl] at hrow
        have hfz := hrow.frozenAt
        clear hrow
        have S6 := S.ofRows 1 0 (⟨X2, an2, cn2, ak2, ck2⟩ : Nc) rfl rfl (by decide)
        have S7 := S6.gPut 1 0 encNc_len rfl rfl (by decide) (k := n) (by omega)
        have S8 : Sep w (((((((w5.setCell ⟨g, n * 7, none⟩ (.bool X2.fold)).setCell ⟨g, n * 7 + 1, none⟩ (.int .i64 X2.own)).setCell ⟨g, n * 7 + 2, none⟩ (.int .i64 X2.grp)).setCell ⟨g, n * 7 + 3, none⟩ (.int .i64 X2.mode)).setCell ⟨g, n * 7 + 4, none⟩ (.string X2.text)).setCell ⟨g, n * 7 + 5, none⟩ (.slice an2 X2.N.length cn2)).setCell ⟨g, n * 7 + 6, none⟩ (.slice ak2 X2.K.length ck2)) [plNd (.slice (some ⟨g, 0, none⟩) T.length cap2) (vs.set n ⟨X2, an2, cn2, ak2, ck2⟩) (T.set n X2), plBox w.heap.size #[.int .i64 cr, .int .i64 ca, .int .i64 cs, .int .i64 cg] 30] := S7
        have HS8 := Lib.hid S8
        clear S S6 S7 S8
        go_upto_region 11 with fail
        obtain ⟨wD, hwD⟩ : ∃ wD, wD = (((((((w5.setCell ⟨g, n * 7, none⟩ (.bool X2.fold)).setCell ⟨g, n * 7 + 1, none⟩ (.int .i64 X2.own)).setCell ⟨g, n * 7 + 2, none⟩ (.int .i64 X2.grp)).setCell ⟨g, n * 7 + 3, none⟩ (.int .i64 X2.mode)).setCell ⟨g, n * 7 + 4, none⟩ (.string X2.text)).setCell ⟨g, n * 7 + 5, none⟩ (.slice an2 X2.N.length cn2)).setCell ⟨g, n * 7 + 6, none⟩ (.slice ak2 X2.K.length ck2)) := ⟨_, rfl⟩
        rw [← hwD] at HS8 ⊢
        clear hwD g0 g1 g2 g3 g4 g5 g6 hfz
        have S := HS8.out
        obtain ⟨V2, hV2⟩ : ∃ V2, V2 = vs.set n (⟨X2, an2, cn2, ak2, ck2⟩ : Nc) := ⟨_, rfl⟩
        obtain ⟨T2, hT2⟩ : ∃ T2, T2 = T.set n X2 := ⟨_, rfl⟩
        rw [← hT2] at HX
        have hV2l : V2.length ≤ 16 := by rw [hV2, List.length_set]; omega
        rw [← hV2, ← hT2] at S
        clear hV2 hT2 HS8 hvl
        obtain ⟨z, bt, off, zan, zcn, zak, zck, hz, rfl, _, _, z2, _⟩ := atNd hc hn
        rw [Hx.out] at hz
        cases hz
        have Sd : Sep w (World.drew wD) [plNd (.slice (some ⟨g, 0, none⟩) T.length cap2) V2 T2, plBox w.heap.size #[.int .i64 cr, .int .i64 ca, .int .i64 cs, .int .i64 cg] 30] := S.drew
        have hI0 : ∀ wv, Chg (fun b => (Value.slice (some ⟨g, 0, none⟩) T.length cap2).ownBlock = some b) (World.drew wD) wv → Ext w wv := fun wv hI => Chg.ext (S.ext.drew) hI (fun b hb => (S.lt (List.mem_cons_self ..) (show (plNd (.slice (some ⟨g, 0, none⟩) T.length cap2) V2 T2).own b from .inl hb)).1)
        have hbc1 : ∀ wv, Chg (fun b => (Value.slice (some ⟨g, 0, none⟩) T.length cap2).ownBlock = some b) (World.drew wD) wv → wv.cell? ⟨w.heap.size, 1, none⟩ = some (.int .i64 ca) := fun wv hI => cell_chg (bx (Sd.box 1 rfl) 1 rfl).1 hI (fun hb => Sd.ne (i := 0) (j := 1) rfl rfl (by decide) (show (plNd (.slice (some ⟨g, 0, none⟩) T.length cap2) V2 T2).own w.heap.size from .inl hb) rfl)
        have hgrp : ∀ wv, Chg (fun b => (Value.slice (some ⟨g, 0, none⟩) T.length cap2).ownBlock = some b) (World.drew wD) wv → wv.cell? ⟨bt, off + n * 7 + 2, none⟩ = some (.int .i64 x'.grp) := fun wv hI => cell_ext (hI0 wv hI) z2
        have HX3 := HX
        clear HX z2 S
        refine wp_region_t (V := VMk w g T.length cap2 fo w.heap.size ca bt off T.length cap n x' md V2 T2 [plBox w.heap.size #[.int .i64 cr, .int .i64 ca, .int .i64 cs, .int .i64 cg] 30] wD wD.heap.size) (Chg (fun b => ((Value.slice (some ⟨g, 0, none⟩) T.length cap2)).ownBlock = some b) (World.drew wD)) (fun i => if i = 11 then some 12 else if i = 13 then some 12 else none) [] 13 1 rfl (by decide) (by kernel_rfl) (by kernel_rfl) (by kernel_rfl) (by kernel_rfl) (Chg.refl _ _) (fun r hr => match r, hr with | 0, _ => Sd) ?_ ?_
        · intro i o hi ho vz w4 hvl hE hd hrest
          have hsz : wD.heap.size ≤ w4.heap.size := hE.size
          have hE4 := hI0 w4 hE
          match vz, hvl with
          | [y0, y1, y2, y3, y4, y5, y6, y7, y8, y9, y10, y11, y12], _ =>
          rcases (show i = 0 ∨ i = 1 ∨ i = 2 ∨ i = 3 ∨ i = 4 ∨ i = 5 ∨ i = 6 ∨ i = 7 ∨ i = 8 ∨ i = 9 ∨ i = 10 ∨ i = 11 ∨ i = 12 by omega) with rfl | rfl | rfl | rfl | rfl | rfl | rfl | rfl | rfl | rfl | rfl | rfl | rfl
          all_goals
            simp only [List.getElem?_cons_zero, List.getElem?_cons_succ, Option.some.injEq] at ho
            subst ho
          · clear hd hrest
            simp [putAll, Act.put]
            go_wp2
            exact OneC.mk (VMk.ext) rfl rfl hE (Ext.refl _)
          · clear hd hrest
            simp [putAll, Act.put]
            go_wp2
            exact OneC.mk (VMk.ext) rfl rfl hE (Ext.refl _)
          · clear hd hrest
            simp [putAll, Act.put]
            go_wp2
            exact OneC.mk (VMk.ext) rfl rfl hE (Ext.refl _)
          · have q2 : y2 = .pointer (some ⟨w.heap.size, 1, none⟩) := hd ⟨2, .data⟩ (by simp) rfl (by decide)
            have c3 := hbc1 w4 hE
            subst q2
            clear hd hrest
            simp [putAll, Act.put]
            go_wp2
            exact OneC.mk (VMk.ext) rfl rfl hE (Ext.refl _)
          · clear hd hrest
            simp [putAll, Act.put]
            go_wp2
            exact OneC.mk (VMk.ext) rfl rfl hE (Ext.refl _)
          · clear hd hrest
            simp [putAll, Act.put]
            go_wp2
            exact OneC.mk (VMk.ext) rfl rfl hE (Ext.refl _)
          · have q4 : y4 = .slice (some ⟨bt, off, none⟩) T.length cap := hd ⟨4, .data⟩ (by simp) rfl (by decide)
            have q5 : y5 = .int .i64 n := hd ⟨5, .data⟩ (by simp) rfl (by decide)
            subst q4 q5
            clear hd hrest
            simp [putAll, Act.put]
            go_wp2
            exact OneC.mk (VMk.ext) rfl rfl hE (Ext.refl _)
          · have q6 : y6 = .pointer (some ⟨bt, off + n * 7, none⟩) := hd ⟨6, .data⟩ (by simp) rfl (by decide)
            subst q6
            clear hd hrest
            simp [putAll, Act.put]
            go_wp2
            exact OneC.mk (VMk.ext) rfl rfl hE (Ext.refl _)
          · have q7 : y7 = .pointer (some ⟨bt, off + n * 7 + 2, none⟩) := hd ⟨7, .data⟩ (by simp) rfl (by decide)
            have c3 := hgrp w4 hE
            subst q7
            clear hd hrest
            simp [putAll, Act.put]
            go_wp2
            exact OneC.mk (VMk.ext) rfl rfl hE (Ext.refl _)
          · clear hd hrest
            simp [putAll, Act.put]
            go_wp2
            exact OneC.mk (VMk.ext) rfl rfl hE (Ext.refl _)
          · have q1 : y1 = .bool fo := hd ⟨1, .data⟩ (by simp) rfl (by decide)
            have q3 : y3 = .int .i64 ca := hd ⟨3, .data⟩ (by simp) rfl (by decide)
            have q8 : y8 = .int .i64 x'.grp := hd ⟨8, .data⟩ (by simp) rfl (by decide)
            have q9 : y9 = .int .i64 md := hd ⟨9, .data⟩ (by simp) rfl (by decide)
            subst q1 q3 q8 q9
            clear hd hrest
            simp [putAll, Act.put]
            go_wp2
            exact OneC.mk (VMk.ext) rfl rfl hE (Ext.refl _)
          · have q10 : y10 = .agg #[.bool fo, .int .i64 ca, .int .i64 x'.grp, .int .i64 md, .string ⟨#[]⟩, .slice none 0 0, .slice none 0 0] := hd ⟨10, .data⟩ (by simp) rfl (by decide)
            subst q10
            clear hd hrest
            simp [putAll, Act.put]
            go_wp2
            exact OneC.mk (VMk.ext) rfl ⟨_, rfl, hsz, heap_alloc_new w4 _⟩ (hE.trans (Chg.of_ext ((Ext.refl w4).alloc _))) ((Ext.refl _).alloc _)
          · have q0 : y0 = Value.slice (some ⟨g, 0, none⟩) T.length cap2 := hd ⟨0, .data⟩ (by simp) rfl (by decide)
            obtain ⟨gq1, q1, hbq1, hgq1⟩ : ∃ g, y11 = .slice (some ⟨g, 0, none⟩) 1 1 ∧ wD.heap.size ≤ g ∧ w4.heap[g]? = some (.cells #[.bool fo, .int .i64 ca, .int .i64 x'.grp, .int .i64 md, .string ⟨#[]⟩, .slice none 0 0, .slice none 0 0] 57) := hd ⟨11, .data⟩ (by simp) rfl (by decide)
            have S4 : Sep w w4 (plNd (Value.slice (some ⟨g, 0, none⟩) T.length cap2) V2 T2 :: [plBox w.heap.size #[.int .i64 cr, .int .i64 ca, .int .i64 cs, .int .i64 cg] 30]) := hrest 0 (by omega) (.inr rfl)
            have S5 : Sep w w4 (pinNd.one (⟨newNd fo ca x'.grp md, none, 0, none, 0⟩ : Nc) (newNd fo ca x'.grp md) :: plNd (Value.slice (some ⟨g, 0, none⟩) T.length cap2) V2 T2 :: [plBox w.heap.size #[.int .i64 cr, .int .i64 ca, .int .i64 cs, .int .i64 cg] 30]) := S4.cons (p := pinNd.one (⟨newNd fo ca x'.grp md, none, 0, none, 0⟩ : Nc) (newNd fo ca x'.grp md)) (Ext.refl w4) (root_pin _ rfl rfl w4) (fun b hb => absurd hb (root_own _ b))
            have hrow := S5.gRow 1 rfl
            have hrd : Rd 7 encNc w4 (some ⟨gq1, 0, none⟩) [(⟨newNd fo ca x'.grp md, none, 0, none, 0⟩ : Nc)] := rd_lit [(⟨newNd fo ca x'.grp md, none, 0, none, 0⟩ : Nc)] encNc_len hgq1 rfl
            subst q0 q1
            clear hd hrest S4
            simp [putAll, Act.put]
            refine wpList_append_b rfl _ _ 29 rfl w.heap.size 57 _ 7 _ Try.underlying29 infoNd rfl (by decide) encNc_len encNc_one _ (V2).length V2 rfl hrow rfl (some ⟨gq1, 0, none⟩) 1 1 [(⟨newNd fo ca x'.grp md, none, 0, none, 0⟩ : Nc)] rfl rfl hrd (by omega) (by omega) hE4.size ?_
            intro v9 w9 ho9 hgr hblk
            have S6 : Sep w w9 (plNd v9 (V2 ++ [(⟨newNd fo ca x'.grp md, none, 0, none, 0⟩ : Nc)]) (T2 ++ [(newNd fo ca x'.grp md)]) :: [plBox w.heap.size #[.int .i64 cr, .int .i64 ca, .int .i64 cs, .int .i64 cg] 30]) := S5.gPush 1 0 rfl rfl (by decide) hgr ho9 hblk
            have hch := Chg.of_grown hgr
            clear ho9 hblk hrow hrd S5 hgr
            go_wp2
            refine ⟨rfl, _, rfl, ⟨_, S6⟩, hE.trans hch, fun j u hj hne hcon hnd hnc hv => ?_⟩
            match j with
            | 0 => exact hv
            | 1 => exact hv
            | 2 => exact hv
            | 3 => exact hv
            | 4 => exact hv
            | 5 => exact hv
            | 6 => exact hv
            | 7 => exact hv
            | 8 => exact hv
            | 9 => exact hv
            | 10 => exact hv
            | 11 => exact absurd rfl hcon
            | 12 => exact absurd rfl hne
            | 13 => exact absurd rfl hcon
            | (zz + 14) => trivial
        · intro vz wE hvl hE hV _
          match vz, hvl with
          | [y0, y1, y2, y3, y4, y5, y6, y7, y8, y9, y10, y11, y12], _ =>
            obtain ⟨vs3, S11⟩ : ∃ vs2, Sep w wE (plNd y12 vs2 (T2 ++ [newNd fo ca x'.grp md]) :: [plBox w.heap.size #[.int .i64 cr, .int .i64 ca, .int .i64 cs, .int .i64 cg] 30]) := hV 12 (by omega) rfl
            clear hV hI0 hbc1 hgrp Sd hE
            simp only [putAll, Act.put, List.take_succ_cons, List.take_zero, List.drop_succ_cons, List.drop_zero]
            simp
            have S12 := S11.drop 1
            clear S11
            go_wp2
            go_ret2
            exact ⟨_, vs3, by rw [HX3.out]; rfl, by rw [HX3.out]; exact S12⟩
end Go.Proofs.Ytnibbldfohbfkaa

/- Trees: contract of the reference's LinkName. Condition: texts of at most 10^6 bytes, rows of at most 2^20. -/
namespace Go.Proofs.Ytnibbldfohbfkaa
open Go.RowKit

section
variable {T : List Nd} {c : Cr} {src dst : ByteArray} {n k : Nat} {x z : Nd}
theorem lk_fault (hf : (findNode T c src).2 ≠ 0) : linkName T c src dst = ([], (findNode T c src).2) := by rw [linkName, if_pos hf]
theorem lk_dir (hF : findNode T c src = ((k : Int), 0)) (hz : T[k]? = some z) (h : z.fold = true) : linkName T c src dst = ([], 4) := by
  rw [linkName, if_neg (by rw [hF]; simp), hF]
  dsimp only
  rw [Int.toNat_natCast, hz]
  dsimp only
  rw [if_pos h]
theorem lk_file (hF : findNode T c src = ((k : Int), 0)) (hz : T[k]? = some z) (h : z.fold = false) : linkName T c src dst = if (placeFor T c dst).2 ≠ 0 then ([], (placeFor T c dst).2) else match T[(placeFor T c dst).1.toNat]? with
      | none => ([], 1)
      | some x => (T.set (placeFor T c dst).1.toNat (putNd x (lastOf dst) (k : Int)), 0) := by
  rw [linkName, if_neg (by rw [hF]; simp), hF]
  dsimp only
  rw [Int.toNat_natCast, hz]
  dsimp only
  rw [if_neg (by simp [h])]
  rfl
theorem lk_place (hF : findNode T c src = ((k : Int), 0)) (hz : T[k]? = some z) (h : z.fold = false) (hf : (placeFor T c dst).2 ≠ 0) : linkName T c src dst = ([], (placeFor T c dst).2) := by rw [lk_file hF hz h, if_pos hf]
theorem lk_ok (hF : findNode T c src = ((k : Int), 0)) (hz : T[k]? = some z) (h : z.fold = false) (hp : placeFor T c dst = ((n : Int), 0)) (hx : T[n]? = some x) : linkName T c src dst = (T.set n (putNd x (lastOf dst) (k : Int)), 0) := by
  rw [lk_file hF hz h, if_neg (by rw [hp]; simp), hp]
  dsimp only
  rw [Int.toNat_natCast, hx]
end

set_option maxRecDepth 10000 in
set_option maxHeartbeats 16000000 in
theorem specLinkName (a : Option Addr) (cap : Nat) (T : List Nd) (c : Cr) (src dst : ByteArray) (w : World) (hs : src.size ≤ 1048576) (hd : dst.size ≤ 1048576) (hl : T.length ≤ 1048576) (hT : ∀ x ∈ T, SmN 1048576 x) (hc : RdN w a T) :
    Calls Try.prog 52 #[.slice a T.length cap, .agg #[.int .i64 c.r, .int .i64 c.a, .int .i64 c.s, .int .i64 c.g], .string src, .string dst] w (RetMk (linkName T c src dst) w) := by
  obtain ⟨cr, ca, cs, cg⟩ := c
  have HT := Lib.hid hT
  clear hT
  dsimp only
  go_enter Try.func52, Try.ntmps52
  have S := Sep.start w
  replace S : Sep w (w.alloc (.cells #[.int .i64 cr, .int .i64 ca, .int .i64 cs, .int .i64 cg] 30)) [plBox w.heap.size #[.int .i64 cr, .int .i64 ca, .int .i64 cs, .int .i64 cg] 30] := S.alloc_at (by simp) _ _
  go_wp2_with fail
  generalize (w.alloc (.cells #[.int .i64 cr, .int .i64 ca, .int .i64 cs, .int .i64 cg] 30)) = w1 at *
  refine (specFindNode a cap T ⟨cr, ca, cs, cg⟩ src w1 hs hl HT.out (hc.ext S.ext)).mono ?_
  rintro e w2 ⟨rfl, hE⟩
  replace S : Sep w w2 [plBox w.heap.size #[.int .i64 cr, .int .i64 ca, .int .i64 cs, .int .i64 cg] 30] := S.step hE
  clear hE
  rcases find_cases T ⟨cr, ca, cs, cg⟩ src with ⟨k, hF, hk, _, _⟩ | ⟨f, hf, hF⟩
  rotate_left
  · have HX := Lib.hid (lk_fault (T := T) (c := ⟨cr, ca, cs, cg⟩) (dst := dst) (by rw [hF]; exact hf))
    rw [hF] at HX ⊢
    have tf : (f == 0) = false := by simpa using hf
    clear hF hf
    dsimp only at HX ⊢
    go_wp2
    go_ret2
    exact RetMk.empty S.ext HX.out
  · rw [hF]
    dsimp only
    obtain ⟨z, bt, off, zan, zcn, zak, zck, hz, rfl, c0, _⟩ := atNd hc hk
    have d0 := cell_ext S.ext c0
    have i1 : (k : Int) < (T.length : Int) := by omega
    have Hz := Lib.hid hz
    clear c0 hz
    cases hzf : z.fold with
    | true =>
      have HX := Lib.hid (lk_dir (dst := dst) hF Hz.out hzf)
      rw [hzf] at d0
      clear hF hzf
      go_wp2
      go_ret2
      exact RetMk.empty S.ext HX.out
    | false =>
      rw [hzf] at d0
      have HF := Lib.hid hF
      have Hzf := Lib.hid hzf
      clear hF hzf
      obtain ⟨bc0, bf0⟩ : w2.cell? ⟨w.heap.size, 0, none⟩ = some (.int .i64 cr) ∧ w2.frozen? ⟨w.heap.size, 0, none⟩ = false := bx (S.box 0 rfl) 0 rfl
      obtain ⟨bc1, bf1⟩ : w2.cell? ⟨w.heap.size, 1, none⟩ = some (.int .i64 ca) ∧ w2.frozen? ⟨w.heap.size, 1, none⟩ = false := bx (S.box 0 rfl) 1 rfl
      obtain ⟨bc2, bf2⟩ : w2.cell? ⟨w.heap.size, 2, none⟩ = some (.int .i64 cs) ∧ w2.frozen? ⟨w.heap.size, 2, none⟩ = false := bx (S.box 0 rfl) 2 rfl
      obtain ⟨bc3, bf3⟩ : w2.cell? ⟨w.heap.size, 3, none⟩ = some (.int .i64 cg) ∧ w2.frozen? ⟨w.heap.size, 3, none⟩ = false := bx (S.box 0 rfl) 3 rfl
      go_wp2_with fail
      refine (specPlaceFor (some ⟨bt, off, none⟩) cap T ⟨cr, ca, cs, cg⟩ dst w2 hd hl HT.out (hc.ext S.ext)).mono ?_
      rintro e w3 ⟨rfl, hE⟩
      clear bc0 bf0 bc1 bf1 bc2 bf2 bc3 bf3
      replace S : Sep w w3 [plBox w.heap.size #[.int .i64 cr, .int .i64 ca, .int .i64 cs, .int .i64 cg] 30] := S.step hE
      clear hE
      clear d0
      rcases place_cases T ⟨cr, ca, cs, cg⟩ dst with ⟨n, x, hp, hx, hTr⟩ | ⟨f, hf, hp⟩
      rotate_left
      · have HX := Lib.hid (lk_place (dst := dst) HF.out Hz.out Hzf.out (by rw [hp]; exact hf))
        rw [hp] at HX ⊢
        have tf : (f == 0) = false := by simpa using hf
        clear hp hf
        dsimp only at HX ⊢
        go_wp2
        go_ret2
        exact RetMk.empty S.ext HX.out
      · have HX := Lib.hid (lk_ok HF.out Hz.out Hzf.out hp hx)
        have Hx := Lib.hid hx
        have hn := (List.getElem?_eq_some_iff.1 hx).1
        have HTr := Lib.hid hTr
        rw [hp]
        clear hp hx hTr
        dsimp only
        go_wp2_with fail
        refine (specAboveOf dst w3 hd).mono ?_
        rintro e w3b ⟨rfl, hE⟩
        replace S : Sep w w3b [plBox w.heap.size #[.int .i64 cr, .int .i64 ca, .int .i64 cs, .int .i64 cg] 30] := S.step hE
        clear hE
        go_wp2_with fail
        refine (specCopy (some ⟨bt, off, none⟩) cap T w3b hl HT.out (hc.ext S.ext)).mono ?_
        rintro e w4 ⟨u, vs, rfl, S4⟩
        replace S : Sep w w4 [plNd u vs T, plBox w.heap.size #[.int .i64 cr, .int .i64 ca, .int .i64 cs, .int .i64 cg] 30] := S.call S4
        clear S4
        obtain ⟨xc, g, cap2, rfl, hcap2, hxc, hxn, hcell, hfz, hsn, hsk, hcn, hck, hrn, hrk⟩ := S.ndAt 0 rfl Hx.out
        obtain ⟨x', an, cn, ak, ck⟩ := xc
        dsimp only at hxn hsn hsk hcn hck hrn hrk
        subst hxn
        have d0 : w4.cell? ⟨g, n * 7, none⟩ = some (.bool x'.fold) := hcell 0 _ rfl
        have d1 : w4.cell? ⟨g, n * 7 + 1, none⟩ = some (.int .i64 x'.own) := hcell 1 _ rfl
        have d2 : w4.cell? ⟨g, n * 7 + 2, none⟩ = some (.int .i64 x'.grp) := hcell 2 _ rfl
        have d3 : w4.cell? ⟨g, n * 7 + 3, none⟩ = some (.int .i64 x'.mode) := hcell 3 _ rfl
        have d4 : w4.cell? ⟨g, n * 7 + 4, none⟩ = some (.string x'.text) := hcell 4 _ rfl
        have d5 : w4.cell? ⟨g, n * 7 + 5, none⟩ = some (.slice an x'.N.length cn) := hcell 5 _ rfl
        have d6 : w4.cell? ⟨g, n * 7 + 6, none⟩ = some (.slice ak x'.K.length ck) := hcell 6 _ rfl
        have hN := HTr.out.nodes n x' Hx.out
        have hsx := HT.out x' (List.mem_of_getElem? Hx.out)
        have hNl := hsx.2.1
        have Hput := Lib.hid (specPut x' an ak cn ck (lastOf dst) (k : Int) w4 hNl hN.len hcn hck hsn hsk hrn hrk)
        have i0 : (n : Int) < (T.length : Int) := by omega
        clear hcell hN hsx hNl hcn hck hsn hsk hrn hrk hxc
        go_wp2_with fail
        refine Hput.out.mono ?_
        rintro e w5 ⟨an2, cn2, ak2, ck2, rfl, S5⟩
        have g0 := cell_ext S5.ext d0
        have g1 := cell_ext S5.ext d1
        have g2 := cell_ext S5.ext d2
        have g3 := cell_ext S5.ext d3
        have g4 := cell_ext S5.ext d4
        have g5 := cell_ext S5.ext d5
        have g6 := cell_ext S5.ext d6
        obtain ⟨X2, hX2⟩ : ∃ X2, X2 = putNd x' (lastOf dst) (k : Int) := ⟨_, rfl⟩
        rw [← hX2] at S5 HX
        rw [← hX2]
        clear hX2 d0 d1 d2 d3 d4 d5 d6 Hput hfz
        replace S : Sep w w5 [plRow 3 1 encInt1 (.slice ak2 X2.K.length ck2) X2.K, plRow 9 1 encStr1 (.slice an2 X2.N.length cn2) X2.N, plNd (.slice (some ⟨g, 0, none⟩) T.length cap2) vs T, plBox w.heap.size #[.int .i64 cr, .int .i64 ca, .int .i64 cs, .int .i64 cg] 30] := S.call S5
        clear S5
        have hvl := plG_len (S.at_ 2 rfl)
        have hrow := S.gRow 2 rfl
        rw [hvl] at hrow
        have hfz := hrow.frozenAt
        clear hrow
        have S6 := S.ofRows 1 0 (⟨X2, an2, cn2, ak2, ck2⟩ : Nc) rfl rfl (by decide)
        have S7 := S6.gPut 1 0 encNc_len rfl rfl (by decide) (k := n) (by omega)
        have S8 : Sep w (((((((w5.setCell ⟨g, n * 7, none⟩ (.bool X2.fold)).setCell ⟨g, n * 7 + 1, none⟩ (.int .i64 X2.own)).setCell ⟨g, n * 7 + 2, none⟩ (.int .i64 X2.grp)).setCell ⟨g, n * 7 + 3, none⟩ (.int .i64 X2.mode)).setCell ⟨g, n * 7 + 4, none⟩ (.string X2.text)).setCell ⟨g, n * 7 + 5, none⟩ (.slice an2 X2.N.length cn2)).setCell ⟨g, n * 7 + 6, none⟩ (.slice ak2 X2.K.length ck2)) [plNd (.slice (some ⟨g, 0, none⟩) T.length cap2) (vs.set n ⟨X2, an2, cn2, ak2, ck2⟩) (T.set n X2), plBox w.heap.size #[.int .i64 cr, .int .i64 ca, .int .i64 cs, .int .i64 cg] 30] := S7
        have S9 := S8.drop 1
        have HS8 := Lib.hid S9
        clear S S6 S7 S8 S9 hvl
        go_wp2
        go_ret2
        exact ⟨_, _, by rw [HX.out]; rfl, by rw [HX.out]; exact HS8.out⟩
end Go.Proofs.Ytnibbldfohbfkaa

/- Trees of one's own: a field of a node is written, a row of a node grows; how many names nodes have. No condition. -/
namespace Go.Proofs.Ytnibbldfohbfkaa
open Go.RowKit

/-- One piece is written anew, and blocks of M. -/
theorem SepM.putM {M : Nat → Prop} {w0 w w' : World} {H : List Pl} (S : SepM M w0 w H) (i : Nat) {p q : Pl} (h : H[i]? = some p) (hg : Chg (fun b => M b ∨ p.own b) w w') (hq : q.ok w') (hblk : ∀ b, q.own b → p.own b ∨ w.heap.size ≤ b) : SepM M w0 w' (H.set i q) := by
  have hm := List.mem_of_getElem? h
  have hi := (List.getElem?_eq_some_iff.1 h).1
  have hok : ∀ j r, H[j]? = some r → j ≠ i → r.ok w' := fun j r hj hne =>
    r.frame w w' (S.at_ j hj) (fun b hb => hg.block b (S.lt (List.mem_of_getElem? hj) hb).2 (fun e => e.elim (fun e => by have h1 := S.small b e; have h2 := (S.lt (List.mem_of_getElem? hj) hb).1; omega) (fun e => S.ne h hj (fun e => hne e.symm) e hb)))
  refine ⟨⟨hg.os.trans S.chg.os, hg.tape.trans S.chg.tape, hg.output.trans S.chg.output, Nat.le_trans S.chg.size hg.size, fun k hk hn => (hg.block k (Nat.lt_of_lt_of_le hk S.chg.size) (fun hs => hs.elim hn (fun hs => by have := (S.lt hm hs).1; omega))).trans (S.chg.block k hk hn)⟩, S.small, fun r hr => ?_, fun r hr b hb => ?_, ?_⟩
  · obtain ⟨j, hj⟩ := List.getElem?_of_mem hr
    by_cases hji : i = j
    · subst hji
      rw [List.getElem?_set_self hi] at hj
      cases hj; exact hq
    · rw [List.getElem?_set_ne hji] at hj
      exact hok j r hj (fun e => hji e.symm)
  · obtain ⟨j, hj⟩ := List.getElem?_of_mem hr
    by_cases hji : i = j
    · subst hji
      rw [List.getElem?_set_self hi] at hj
      cases hj
      rcases hblk b hb with h2 | h2
      · exact (S.lt hm h2).1
      · exact Nat.le_trans S.chg.size h2
    · rw [List.getElem?_set_ne hji] at hj
      exact S.base r (List.mem_of_getElem? hj) b hb
  · rw [List.pairwise_iff_getElem]
    intro j k hj hk hjk b hb
    simp only [List.length_set] at hj hk
    rw [List.getElem_set] at hb ⊢
    have h1 := List.pairwise_iff_getElem.1 S.apart j k hj hk hjk
    by_cases e1 : i = j
    · subst e1
      rw [if_pos rfl] at hb
      rw [if_neg (by omega)]
      rcases hblk b hb with h2 | h2
      · exact S.ne h (List.getElem?_eq_getElem hk) (by omega) h2
      · intro e
        have := (S.lt (List.getElem_mem hk) e).2
        omega
    · rw [if_neg e1] at hb
      by_cases e2 : i = k
      · subst e2
        rw [if_pos rfl]
        intro e
        rcases hblk b e with h2 | h2
        · exact S.ne (List.getElem?_eq_getElem hj) h (by omega) hb h2
        · have := (S.lt (List.getElem_mem hj) hb).2
          omega
      · rw [if_neg e2]
        exact h1 b hb

section
variable {M : Nat → Prop} {w0 w w' : World} {H : List Pl} {g n cap : Nat} {vs : List Nc} {T : List Nd} {k : Nat} {c c' : Nc} {x x' : Nd}
theorem SepM.ndPut (S : SepM M w0 w H) (i : Nat) (hi : H[i]? = some (plNd (.slice (some ⟨g, 0, none⟩) n cap) vs T)) (hc : vs[k]? = some c) (hg : Chg (fun b => M b ∨ (b = g ∨ pinNd.own c b)) w w')
    (hr : w'.ownsRow 0 57 7 (.slice (some ⟨g, 0, none⟩) n cap) vs.length ((vs.set k c').flatMap encNc)) (hp : pinNd.ok c' x' w') (ho : ∀ b, pinNd.own c' b → pinNd.own c b ∨ w.heap.size ≤ b) :
    SepM M w0 w' (H.set i (plNd (.slice (some ⟨g, 0, none⟩) n cap) (vs.set k c') (T.set k x'))) := by
  obtain ⟨h1, h2, h3, h4, h5⟩ := S.at_ i hi
  have him := List.mem_of_getElem? hi
  have hcm := List.mem_of_getElem? hc
  have hk := (List.getElem?_eq_some_iff.1 hc).1
  have hlt : ∀ s ∈ vs, ∀ b, pinNd.own s b → w0.heap.size ≤ b ∧ b < w.heap.size := fun s hs b hb => S.lt him (show (plNd (.slice (some ⟨g, 0, none⟩) n cap) vs T).own b from .inr ⟨s, hs, hb⟩)
  have hgl : g < w.heap.size := (S.lt him (show (plNd (.slice (some ⟨g, 0, none⟩) n cap) vs T).own g from .inl rfl)).2
  refine S.putM i hi (hg.mono (fun b hb _ => ?_)) ⟨by rw [List.length_set]; exact hr, by simp [h2], fun l s2 t2 hs2 ht2 => ?_, fun s2 hs2 b hb hb2 => ?_, fun l m s2 s3 hlm hs2 hs3 b hb hb3 => ?_⟩ (fun b hb => ?_)
  · rcases hb with hb | rfl | hb
    · exact .inl hb
    · exact .inr (.inl rfl)
    · exact .inr (.inr ⟨c, hcm, hb⟩)
  · by_cases hlk : k = l
    · subst hlk
      rw [List.getElem?_set_self hk] at hs2
      rw [List.getElem?_set_self (by omega)] at ht2
      cases hs2; cases ht2
      exact hp
    · rw [List.getElem?_set_ne hlk] at hs2 ht2
      have h6 := h3 l s2 t2 hs2 ht2
      exact pinNd.frame s2 t2 w w' h6 (fun b hb => hg.block b (pinNd.lt s2 t2 w b h6 hb) (fun e => by
        rcases e with e | e | e
        · have h7 := S.small b e
          have h8 := (hlt s2 (List.mem_of_getElem? hs2) b hb).1
          omega
        · exact h4 s2 (List.mem_of_getElem? hs2) b hb (by rw [e]; rfl)
        · exact h5 l k s2 c (fun e => hlk e.symm) hs2 hc b hb e))
  · rcases List.mem_or_eq_of_mem_set hs2 with hs2 | rfl
    · exact h4 s2 hs2 b hb hb2
    · rcases ho b hb with h | h
      · exact h4 c hcm b h hb2
      · obtain rfl : g = b := by simpa [Value.ownBlock] using hb2
        omega
  · by_cases hlk : k = l
    · subst hlk
      rw [List.getElem?_set_self hk] at hs2
      cases hs2
      rw [List.getElem?_set_ne hlm] at hs3
      rcases ho b hb with h | h
      · exact h5 k m c s3 hlm hc hs3 b h hb3
      · have := (hlt s3 (List.mem_of_getElem? hs3) b hb3).2; omega
    · rw [List.getElem?_set_ne hlk] at hs2
      by_cases hmk : k = m
      · subst hmk
        rw [List.getElem?_set_self hk] at hs3
        cases hs3
        rcases ho b hb3 with h | h
        · exact h5 l k s2 c hlm hs2 hc b hb h
        · have := (hlt s2 (List.mem_of_getElem? hs2) b hb).2; omega
      · rw [List.getElem?_set_ne hmk] at hs3
        exact h5 l m s2 s3 hlm hs2 hs3 b hb hb3
  · rcases hb with hb | ⟨s2, hs2, hb⟩
    · exact .inl (.inl hb)
    · rcases List.mem_or_eq_of_mem_set hs2 with hs2 | rfl
      · exact .inl (.inr ⟨s2, hs2, hb⟩)
      · rcases ho b hb with h | h
        · exact .inl (.inr ⟨c, hcm, h⟩)
        · exact .inr h
/-- A field that owns nothing is written. -/
theorem SepM.ndSet (S : SepM M w0 w H) (i : Nat) (hi : H[i]? = some (plNd (.slice (some ⟨g, 0, none⟩) n cap) vs T)) (hc : vs[k]? = some c) (hx : T[k]? = some x) (j : Nat) (v : Value) (hj : j < 7)
    (he : encNc ⟨x', c.an, c.cn, c.ak, c.ck⟩ = (encNc c).set j v) (hN : x'.N = x.N) (hK : x'.K = x.K) :
    SepM M w0 (w.setCell ⟨g, k * 7 + j, none⟩ v) (H.set i (plNd (.slice (some ⟨g, 0, none⟩) n cap) (vs.set k ⟨x', c.an, c.cn, c.ak, c.ck⟩) (T.set k x'))) := by
  obtain ⟨h1, h2, h3, h4, h5⟩ := S.at_ i hi
  obtain ⟨hk, hck⟩ := List.getElem?_eq_some_iff.1 hc
  have hpin := h3 k c x hc hx
  have hlen : n = vs.length := by
    rcases h1.2 with ⟨e, _⟩ | ⟨g', cap', cur, e, _⟩
    · simp at e
    · simp only [Value.slice.injEq] at e; exact e.2.1
  have hset := owns_set encNc_len (show w.ownsRow 0 57 7 (.slice (some ⟨g, 0, none⟩) n cap) n (vs.flatMap encNc) by rw [hlen]; rw [hlen] at h1; exact h1) k j v (⟨x', c.an, c.cn, c.ak, c.ck⟩ : Nc) hk hj (by rw [he, hck])
  have hch := Chg.setCell w g (k * 7 + j) v
  have hpin2 := pinNd.frame c x w (w.setCell ⟨g, k * 7 + j, none⟩ v) hpin (fun b hb => hch.block b (pinNd.lt c x w b hpin hb) (fun e => h4 c (List.mem_of_getElem? hc) b hb (by rw [e]; rfl)))
  obtain ⟨e1, p1, p2, p3⟩ := hpin2
  have hN2 : x'.N = c.n.N := by rw [e1]; exact hN
  have hK2 : x'.K = c.n.K := by rw [e1]; exact hK
  refine S.ndPut i hi hc (hch.mono (fun b hb _ => .inr (.inl hb))) (by rw [hlen] at hset ⊢; exact hset) ⟨rfl, ?_, ?_, ?_⟩ (fun b hb => .inl ?_)
  · show World.ownsRow _ _ _ _ (.slice c.an x'.N.length c.cn) x'.N.length (x'.N.flatMap encStr1)
    rw [hN2]; exact p1
  · show World.ownsRow _ _ _ _ (.slice c.ak x'.K.length c.ck) x'.K.length (x'.K.flatMap encInt1)
    rw [hK2]; exact p2
  · show ∀ b : Nat, (Value.slice c.an x'.N.length c.cn).ownBlock = some b → (Value.slice c.ak x'.K.length c.ck).ownBlock ≠ some b
    rw [hN2, hK2]; exact p3
  · have hb' : (Value.slice c.an x'.N.length c.cn).ownBlock = some b ∨ (Value.slice c.ak x'.K.length c.ck).ownBlock = some b := hb
    rw [hN2, hK2] at hb'
    exact hb'
/-- The names of a node grow, and the new row is stored. -/
theorem SepM.ndGrowN (S : SepM M w0 w H) (i : Nat) (hi : H[i]? = some (plNd (.slice (some ⟨g, 0, none⟩) n cap) vs T)) (hc : vs[k]? = some c) (hx : T[k]? = some x) {N' : List ByteArray} {a' : Option Addr} {cp' : Nat}
    (hg : Chg (fun b => M b ∨ (Value.slice c.an x.N.length c.cn).ownBlock = some b) w w') (ho : w'.ownsRow 0 9 1 (.slice a' N'.length cp') N'.length (N'.flatMap encStr1)) (hb : ∀ b, (Value.slice a' N'.length cp').ownBlock = some b → (Value.slice c.an x.N.length c.cn).ownBlock = some b ∨ w.heap.size ≤ b) :
    SepM M w0 (w'.setCell ⟨g, k * 7 + 5, none⟩ (.slice a' N'.length cp')) (H.set i (plNd (.slice (some ⟨g, 0, none⟩) n cap) (vs.set k ⟨⟨x.fold, x.own, x.grp, x.mode, x.text, N', x.K⟩, a', cp', c.ak, c.ck⟩) (T.set k ⟨x.fold, x.own, x.grp, x.mode, x.text, N', x.K⟩))) := by
  obtain ⟨h1, h2, h3, h4, h5⟩ := S.at_ i hi
  obtain ⟨hk, hck⟩ := List.getElem?_eq_some_iff.1 hc
  have him := List.mem_of_getElem? hi
  have hcm := List.mem_of_getElem? hc
  have hpin := h3 k c x hc hx
  obtain ⟨e1, p1, p2, p3⟩ := hpin
  have hgl := S.lt him (show (plNd (.slice (some ⟨g, 0, none⟩) n cap) vs T).own g from .inl rfl)
  have hcl : ∀ b, pinNd.own c b → w0.heap.size ≤ b ∧ b < w.heap.size := fun b hb => S.lt him (show (plNd (.slice (some ⟨g, 0, none⟩) n cap) vs T).own b from .inr ⟨c, hcm, hb⟩)
  subst e1
  have hlen : n = vs.length := by
    rcases h1.2 with ⟨e, _⟩ | ⟨g', cap', cur, e, _⟩
    · simp at e
    · simp only [Value.slice.injEq] at e; exact e.2.1
  have hgn : ¬ (M g ∨ (Value.slice c.an c.n.N.length c.cn).ownBlock = some g) := fun e => e.elim (fun e => by have := S.small g e; omega) (fun e => h4 c hcm g (.inl e) rfl)
  have hrow : w'.ownsRow 0 57 7 (.slice (some ⟨g, 0, none⟩) n cap) n (vs.flatMap encNc) := by
    have := (plRow 57 7 encNc (.slice (some ⟨g, 0, none⟩) n cap) vs).frame w w' h1 (fun b hb2 => by
      obtain rfl : g = b := by simpa [plRow, Value.ownBlock] using hb2
      exact hg.block g hgl.2 hgn)
    rw [hlen] at this ⊢
    exact this
  have hset := owns_set encNc_len hrow k 5 (.slice a' N'.length cp') (⟨⟨c.n.fold, c.n.own, c.n.grp, c.n.mode, c.n.text, N', c.n.K⟩, a', cp', c.ak, c.ck⟩ : Nc) hk (by omega) (by rw [hck]; rfl)
  have hch := Chg.setCell w' g (k * 7 + 5) (.slice a' N'.length cp')
  have hkd : ∀ b, (Value.slice c.ak c.n.K.length c.ck).ownBlock = some b → w'.heap[b]? = w.heap[b]? := fun b hb2 => hg.block b (hcl b (.inr hb2)).2 (fun e => e.elim (fun e => by have := S.small b e; have := (hcl b (.inr hb2)).1; omega) (fun e => p3 b e hb2))
  have hkg : ∀ b, (Value.slice c.ak c.n.K.length c.ck).ownBlock = some b → b ≠ g := fun b hb2 e => h4 c hcm b (.inr hb2) (by rw [e]; rfl)
  have hng : ∀ b, (Value.slice a' N'.length cp').ownBlock = some b → b ≠ g := fun b hb2 e => by
    rcases hb b hb2 with h | h
    · exact h4 c hcm b (.inl h) (by rw [e]; rfl)
    · omega
  refine S.ndPut i hi hc ((hg.mono (fun b hb2 _ => hb2.elim .inl (fun h => .inr (.inr (.inl h))))).trans (hch.mono (fun b hb2 _ => .inr (.inl hb2)))) (by rw [hlen] at hset ⊢; exact hset) ⟨rfl, ?_, ?_, ?_⟩ (fun b hb2 => ?_)
  · exact (plRow 9 1 encStr1 (.slice a' N'.length cp') N').frame w' _ ho (fun b hb2 => hch.block b ((plRow 9 1 encStr1 (.slice a' N'.length cp') N').lt w' b ho hb2) (hng b hb2))
  · exact (plRow 3 1 encInt1 (.slice c.ak c.n.K.length c.ck) c.n.K).frame w _ p2 (fun b hb2 => (hch.block b (Nat.lt_of_lt_of_le (hcl b (.inr hb2)).2 hg.size) (hkg b hb2)).trans (hkd b hb2))
  · intro b hb2 hb3
    have hb4 : (Value.slice c.ak c.n.K.length c.ck).ownBlock = some b := hb3
    rcases hb b hb2 with h | h
    · exact p3 b h hb4
    · have := (hcl b (.inr hb4)).2; omega
  · rcases hb2 with hb2 | hb2
    · rcases hb b hb2 with h | h
      · exact .inl (.inl h)
      · exact .inr h
    · exact .inl (.inr hb2)
/-- The kids of a node grow, and the new row is stored. -/
theorem SepM.ndGrowK (S : SepM M w0 w H) (i : Nat) (hi : H[i]? = some (plNd (.slice (some ⟨g, 0, none⟩) n cap) vs T)) (hc : vs[k]? = some c) (hx : T[k]? = some x) {K' : List Int} {a' : Option Addr} {cp' : Nat}
    (hg : Chg (fun b => M b ∨ (Value.slice c.ak x.K.length c.ck).ownBlock = some b) w w') (ho : w'.ownsRow 0 3 1 (.slice a' K'.length cp') K'.length (K'.flatMap encInt1)) (hb : ∀ b, (Value.slice a' K'.length cp').ownBlock = some b → (Value.slice c.ak x.K.length c.ck).ownBlock = some b ∨ w.heap.size ≤ b) :
    SepM M w0 (w'.setCell ⟨g, k * 7 + 6, none⟩ (.slice a' K'.length cp')) (H.set i (plNd (.slice (some ⟨g, 0, none⟩) n cap) (vs.set k ⟨⟨x.fold, x.own, x.grp, x.mode, x.text, x.N, K'⟩, c.an, c.cn, a', cp'⟩) (T.set k ⟨x.fold, x.own, x.grp, x.mode, x.text, x.N, K'⟩))) := by
  obtain ⟨h1, h2, h3, h4, h5⟩ := S.at_ i hi
  obtain ⟨hk, hck⟩ := List.getElem?_eq_some_iff.1 hc
  have him := List.mem_of_getElem? hi
  have hcm := List.mem_of_getElem? hc
  have hpin := h3 k c x hc hx
  obtain ⟨e1, p1, p2, p3⟩ := hpin
  have hgl := S.lt him (show (plNd (.slice (some ⟨g, 0, none⟩) n cap) vs T).own g from .inl rfl)
  have hcl : ∀ b, pinNd.own c b → w0.heap.size ≤ b ∧ b < w.heap.size := fun b hb => S.lt him (show (plNd (.slice (some ⟨g, 0, none⟩) n cap) vs T).own b from .inr ⟨c, hcm, hb⟩)
  subst e1
  have hlen : n = vs.length := by
    rcases h1.2 with ⟨e, _⟩ | ⟨g', cap', cur, e, _⟩
    · simp at e
    · simp only [Value.slice.injEq] at e; exact e.2.1
  have hgn : ¬ (M g ∨ (Value.slice c.ak c.n.K.length c.ck).ownBlock = some g) := fun e => e.elim (fun e => by have := S.small g e; omega) (fun e => h4 c hcm g (.inr e) rfl)
  have hrow : w'.ownsRow 0 57 7 (.slice (some ⟨g, 0, none⟩) n cap) n (vs.flatMap encNc) := by
    have := (plRow 57 7 encNc (.slice (some ⟨g, 0, none⟩) n cap) vs).frame w w' h1 (fun b hb2 => by
      obtain rfl : g = b := by simpa [plRow, Value.ownBlock] using hb2
      exact hg.block g hgl.2 hgn)
    rw [hlen] at this ⊢
    exact this
  have hset := owns_set encNc_len hrow k 6 (.slice a' K'.length cp') (⟨⟨c.n.fold, c.n.own, c.n.grp, c.n.mode, c.n.text, c.n.N, K'⟩, c.an, c.cn, a', cp'⟩ : Nc) hk (by omega) (by rw [hck]; rfl)
  have hch := Chg.setCell w' g (k * 7 + 6) (.slice a' K'.length cp')
  have hkd : ∀ b, (Value.slice c.an c.n.N.length c.cn).ownBlock = some b → w'.heap[b]? = w.heap[b]? := fun b hb2 => hg.block b (hcl b (.inl hb2)).2 (fun e => e.elim (fun e => by have := S.small b e; have := (hcl b (.inl hb2)).1; omega) (fun e => p3 b hb2 e))
  have hkg : ∀ b, (Value.slice c.an c.n.N.length c.cn).ownBlock = some b → b ≠ g := fun b hb2 e => h4 c hcm b (.inl hb2) (by rw [e]; rfl)
  have hng : ∀ b, (Value.slice a' K'.length cp').ownBlock = some b → b ≠ g := fun b hb2 e => by
    rcases hb b hb2 with h | h
    · exact h4 c hcm b (.inr h) (by rw [e]; rfl)
    · omega
  refine S.ndPut i hi hc ((hg.mono (fun b hb2 _ => hb2.elim .inl (fun h => .inr (.inr (.inr h))))).trans (hch.mono (fun b hb2 _ => .inr (.inl hb2)))) (by rw [hlen] at hset ⊢; exact hset) ⟨rfl, ?_, ?_, ?_⟩ (fun b hb2 => ?_)
  · exact (plRow 9 1 encStr1 (.slice c.an c.n.N.length c.cn) c.n.N).frame w _ p1 (fun b hb2 => (hch.block b (Nat.lt_of_lt_of_le (hcl b (.inl hb2)).2 hg.size) (hkg b hb2)).trans (hkd b hb2))
  · exact (plRow 3 1 encInt1 (.slice a' K'.length cp') K').frame w' _ ho (fun b hb2 => hch.block b ((plRow 3 1 encInt1 (.slice a' K'.length cp') K').lt w' b ho hb2) (hng b hb2))
  · intro b hb2 hb3
    have hb4 : (Value.slice c.an c.n.N.length c.cn).ownBlock = some b := hb2
    rcases hb b hb3 with h | h
    · exact p3 b hb4 h
    · have := (hcl b (.inl hb4)).2; omega
  · rcases hb2 with hb2 | hb2
    · exact .inl (.inl hb2)
    · rcases hb b hb2 with h | h
      · exact .inl (.inr h)
      · exact .inr h
end
def NB (b : Nat) (T : List Nd) : Prop := ∀ x ∈ T, x.N.length ≤ b
theorem tree_sm {T : List Nd} (h : TreeOk T) {b : Nat} (hb : NB b T) (h20 : b ≤ 1000) : ∀ x ∈ T, SmN 100000 x := fun x hx => by
  obtain ⟨k, hk⟩ := List.getElem?_of_mem hx
  have hN := h.nodes k x hk
  have hl := hb x hx
  refine ⟨by have := hN.short; omega, by omega, fun s hs => ?_, by have := hN.len; omega⟩
  obtain ⟨j, hj⟩ := List.getElem?_of_mem hs
  have := ((hN.at_ j (List.getElem?_eq_some_iff.1 hj).1).1 s hj).1.2.2
  omega
theorem sm_more {x : Nd} (h : SmN 100000 x) : SmN 1048576 x := ⟨by have := h.1; omega, by have := h.2.1; omega, fun s hs => by have := h.2.2.1 s hs; omega, by have := h.2.2.2; omega⟩
theorem putNd_len (x : Nd) (s : ByteArray) (y : Int) : (putNd x s y).N.length = x.N.length + 1 := by
  have := posOf_le x.N s
  show (x.N.take _ ++ s :: x.N.drop _).length = _
  simp only [List.length_append, List.length_take, List.length_cons, List.length_drop]
  omega
theorem nb_set {T : List Nd} {b n : Nat} {x z : Nd} (h : NB b T) (hx : T[n]? = some x) (hz : z.N.length ≤ x.N.length + 1) : NB (b + 1) (T.set n z) := fun y hy => by
  rcases List.mem_or_eq_of_mem_set hy with hy | rfl
  · have := h y hy; omega
  · have := h x (List.mem_of_getElem? hx); omega
theorem nb_same {T : List Nd} {b n : Nat} {x z : Nd} (h : NB b T) (hx : T[n]? = some x) (hz : z.N = x.N) : NB b (T.set n z) := fun y hy => by
  rcases List.mem_or_eq_of_mem_set hy with hy | rfl
  · exact h y hy
  · rw [hz]; exact h x (List.mem_of_getElem? hx)
theorem makeNode_nb {T : List Nd} {b : Nat} (h : NB b T) (c : Cr) (s : ByteArray) (fo : Bool) (md : Int) : NB (b + 1) (makeNode T c s fo md).1 := by
  have nil : NB (b + 1) [] := fun x hx => by cases hx
  rw [makeNode]
  split
  · exact nil
  · split
    · exact nil
    · split
      · exact nil
      · split
        · exact nil
        · rename_i x hx
          intro y hy
          rcases List.mem_append.1 hy with hy | hy
          · exact nb_set h hx (by rw [putNd_len]; exact Nat.le_refl _) y hy
          · rw [List.mem_singleton.1 hy]; exact Nat.zero_le _
theorem linkName_nb {T : List Nd} {b : Nat} (h : NB b T) (c : Cr) (src dst : ByteArray) : NB (b + 1) (linkName T c src dst).1 := by
  have nil : NB (b + 1) [] := fun x hx => by cases hx
  rw [linkName]
  split
  · exact nil
  · split
    · exact nil
    · split
      · exact nil
      · split
        · exact nil
        · split
          · exact nil
          · rename_i x hx
            exact nb_set h hx (by rw [putNd_len]; exact Nat.le_refl _)
theorem root_tree {m : Int} (h : inB m 0 1023 = true) : TreeOk [rootNd m] where
  pos := Nat.le_refl _
  max := by simp
  root n hn := by simp only [List.getElem?_cons_zero, Option.some.injEq] at hn; subst hn; rfl
  nodes k n hn := by
    have hk := (List.getElem?_eq_some_iff.1 hn).1
    obtain rfl : k = 0 := by simpa using hk
    simp only [List.getElem?_cons_zero, Option.some.injEq] at hn
    subst hn
    exact ⟨(show inB 0 0 99 = true by decide), (show inB 0 0 7 = true by decide), h, rfl, fun h => Bool.noConfusion h, fun _ => isEmpty_size.2 (show (⟨#[]⟩ : ByteArray).size = 0 from rfl), Nat.zero_le _, fun k hk => absurd hk (Nat.not_lt_zero _)⟩
  down k n hn := by
    have hk := (List.getElem?_eq_some_iff.1 hn).1
    obtain rfl : k = 0 := by simpa using hk
    simp only [List.getElem?_cons_zero, Option.some.injEq] at hn
    subst hn
    exact fun x hx => by cases hx
  links k n hn h0 := by
    have hk := (List.getElem?_eq_some_iff.1 hn).1
    obtain rfl : k = 0 := by simpa using hk
    exact absurd h0 (Nat.lt_irrefl _)
end Go.Proofs.Ytnibbldfohbfkaa

/- Ways: contracts of the reference's l23Words, WayValid, FollowWay (some text of bounded length). Condition: texts of at most 10^6 bytes. -/
namespace Go.Proofs.Ytnibbldfohbfkaa
open Go.RowKit

def VWay (ap : Option Addr) (nP cp : Nat) (P : List ByteArray) (aw : Option Addr) (nW cw k bw off : Nat) (x : ByteArray) (wr : World) (base : Nat) : Nat → Value → World → Prop := fun i v wv => match i with
  | 0 => ∃ g, v = .slice (some ⟨g, 0, none⟩) 0 0 ∧ base ≤ g ∧ wv.heap[g]? = some (.cells #[] 9)
  | 1 => v = .slice ap nP cp
  | 2 => wv.ownsRow base 9 1 v (P).length ((P).flatMap encStr1)
  | 3 => v = .slice aw nW cw
  | 4 => v = .int .i64 k
  | 5 => v = .pointer (some ⟨bw, off + k, none⟩)
  | 6 => v = .string x
  | 7 => ∃ g, v = .slice (some ⟨g, 0, none⟩) 1 1 ∧ base ≤ g ∧ wv.heap[g]? = some (.cells #[.string x] 9)
  | 8 => wv.ownsRow base 9 1 v (P ++ [x]).length ((P ++ [x]).flatMap encStr1)
  | _ => True
theorem VWay.ext {ap : Option Addr} {nP cp : Nat} {P : List ByteArray} {aw : Option Addr} {nW cw k bw off : Nat} {x : ByteArray} {wr : World} {base : Nat} (i : Nat) (v : Value) (w1 w2 : World) (h : VWay ap nP cp P aw nW cw k bw off x wr base i v w1) (hE : Ext w1 w2) : VWay ap nP cp P aw nW cw k bw off x wr base i v w2 := by
  match i with
  | 0 => obtain ⟨g, h1, h2, h3⟩ := h; exact ⟨g, h1, h2, heapx hE h3⟩
  | 1 => exact h
  | 2 => exact ownsRow_ext (show w1.ownsRow _ _ _ _ _ _ from h) hE
  | 3 => exact h
  | 4 => exact h
  | 5 => exact h
  | 6 => exact h
  | 7 => obtain ⟨g, h1, h2, h3⟩ := h; exact ⟨g, h1, h2, heapx hE h3⟩
  | 8 => exact ownsRow_ext (show w1.ownsRow _ _ _ _ _ _ from h) hE
  | (n + 9) => trivial
def RetWords (s : ByteArray) (w : World) (e : Ending) (w' : World) : Prop := ∃ u W, e = .returned u ∧ W.length ≤ s.size + 1 ∧ (∀ x ∈ W, x.size ≤ s.size) ∧ Sep w w' [plRow 9 1 encStr1 u W]

set_option maxRecDepth 10000 in
set_option maxHeartbeats 8000000 in
theorem specWords (s : ByteArray) (w : World) (hs : s.size ≤ 1000000) : Calls Try.prog 57 #[.string s] w (RetWords s w) := by
  go_enter Try.func57, Try.ntmps57
  have S := Sep.start w
  replace S : Sep w (w.alloc (.cells #[.string ⟨#[]⟩] 9)) [plRow 9 1 encStr1 (.slice (some ⟨w.heap.size, 0, none⟩) 1 1) ([⟨#[]⟩] : List ByteArray)] := S.lit (by simp) _ _ encStr1_len ([⟨#[]⟩] : List ByteArray) rfl rfl (by omega)
  go_wp2
  generalize (w.alloc (.cells #[.string ⟨#[]⟩] 9)) = w1 at *
  go_loopw [3, 4] (fun o i wr => ∃ (k : Nat) (a : Option Addr) (c : Nat) (X : List ByteArray), k ≤ s.size ∧ i = .int .i64 k ∧ o = .slice a X.length c ∧ 1 ≤ X.length ∧ X.length ≤ k + 1 ∧ (∀ x ∈ X, x.size ≤ k) ∧ Sep w wr [plRow 9 1 encStr1 (.slice a X.length c) X]) (fun _ i _ => s.size - (intOf i).toNat)
  case atStart => exact ⟨0, some ⟨w.heap.size, 0, none⟩, 1, [⟨#[]⟩], Nat.zero_le _, rfl, rfl, by simp, by simp, fun x hx => by rw [List.mem_singleton.1 hx]; exact Nat.zero_le _, S⟩
  case round =>
    clear S
    obtain ⟨k, a, c, X, hk, rfl, rfl, hX1, hXl, hF, S⟩ := hrel
    have HF := Lib.hid hF
    clear hF
    by_cases hlt : k < s.size
    rotate_left
    · obtain rfl : k = s.size := by omega
      have hni : ¬ (s.size : Int) < (s.size : Int) := by omega
      go_wp2
      go_ret
      exact ⟨_, X, rfl, hXl, HF.out, S⟩
    · have i0 : (k : Int) < (s.size : Int) := by omega
      have i00 : (0 : Int) ≤ (k : Int) := by omega
      by_cases hc : s[k].toNat = 47
      · have hc8 : s[k] = 47 := UInt8.toNat_inj.1 hc
        have tc : (s[k].toNat : Int) = 47 := by omega
        have HFN : Hid (∀ x ∈ X ++ [(⟨#[]⟩ : ByteArray)], x.size ≤ k + 1) := Lib.hid (fun x hx => by
          rcases List.mem_append.1 hx with hx | hx
          · have := HF.out x hx; omega
          · rw [List.mem_singleton.1 hx]; exact Nat.zero_le _)
        clear hc8 hc
        have SA := S.alloc #[.string ⟨#[]⟩] 9
        have rd1 : Rd 1 encStr1 (wr.alloc (.cells #[.string ⟨#[]⟩] 9)) (some ⟨wr.heap.size, 0, none⟩) [(⟨#[]⟩ : ByteArray)] := rd_lit_new [(⟨#[]⟩ : ByteArray)] encStr1_len rfl
        go_wp2_with (at_builtin; refine Hid.out (?_ : Hid _))
        unfold Hid
        refine wpList_append_b rfl _ _ 52 rfl w.heap.size 9 _ 1 _ Try.underlying52 infoStr1 rfl (by decide) encStr1_len encStr1_one _ X.length X rfl (SA.row (0 + 1) rfl) rfl (some ⟨wr.heap.size, 0, none⟩) 1 1 [(⟨#[]⟩ : ByteArray)] rfl rfl rd1 (by omega) (by omega) SA.chg.size ?_
        intro v7 w7 ho hgr hblk
        obtain ⟨G, hG⟩ : ∃ G, G = X ++ [(⟨#[]⟩ : ByteArray)] := ⟨_, rfl⟩
        have hGl : G.length = X.length + 1 := by rw [hG]; simp
        have HGl := Lib.hid hGl
        clear hGl
        rw [← hG] at ho HFN
        obtain ⟨a7, c7, hv7, hk7, _, _⟩ := view_owns encStr1_len ho
        subst hv7
        have SM := (SA.grow (0 + 1) rfl hgr ho hblk).drop 0
        clear ho hgr hblk SA rd1 S hG
        go_wp2
        go_roundw
        case rel => exact ⟨k + 1, a7, c7, G, by omega, by go_num, rfl, by have := HGl.out; omega, by have := HGl.out; omega, HFN.out, SM⟩
        case measure => simp [intOf]; omega
      · have hc8 : s[k] ≠ 47 := fun h => hc (by rw [h]; rfl)
        have tc : ((s[k].toNat : Int) == 47) = false := by simp; omega
        obtain ⟨m, hm⟩ : ∃ m, X.length = m + 1 := ⟨X.length - 1, by omega⟩
        have hx : X[m]? = some X[m] := List.getElem?_eq_getElem (by omega)
        obtain ⟨l, hl⟩ : ∃ l, l = X[m] := ⟨_, rfl⟩
        rw [← hl] at hx
        have hrow := S.row 0 rfl
        obtain ⟨g, rfl⟩ := row_blk encStr1_len hrow (by omega)
        have g0 : wr.cell? ⟨g, m, none⟩ = some (.string l) := by
          have := owns_at encStr1_len hrow m (by omega) 0 (.string l) (by rw [← hl]; rfl)
          simpa using this
        have hls := HF.out l (List.mem_of_getElem? hx)
        have hE1 : (s.extract k (k + 1)).size = 1 := by rw [ext_one hlt]; rfl
        have HFN : Hid (∀ x ∈ X.set m (l ++ s.extract k (k + 1)), x.size ≤ k + 1) := Lib.hid (fun x hx => by
          rcases List.mem_or_eq_of_mem_set hx with hx | rfl
          · have := HF.out x hx; omega
          · rw [ByteArray.size_append]; omega)
        have hml : m < X.length := by omega
        have t0 : (0 : Int) < (X.length : Int) := by omega
        have HXm := Lib.hid hm
        have hw1 : IntKind.i64.wrap ((X.length : Int) - 1) = (m : Int) := by rw [show (X.length : Int) - 1 = m by omega]; exact IntWalk.i64_in _ (by omega)
        have hmi : (m : Int) < (X.length : Int) := by omega
        have hwk : IntKind.i64.wrap ((k : Int) + 1) = (k : Int) + 1 := IntWalk.i64_in _ (by omega)
        have hsz : ¬ 9223372036854775807 < l.size + 1 := by omega
        have hkt : ((k : Int) + 1).toNat = k + 1 := by omega
        have hk1 : (k : Int) + 1 ≤ (s.size : Int) := by omega
        have hk2 : (k : Int) ≤ (k : Int) + 1 := by omega
        have hk3 : (0 : Int) ≤ (k : Int) + 1 := by omega
        clear hc8 hc hl hx hm
        go_wp2_with fail
        go_still_tail 17, (by kernel_rfl)
        change wpList _ _ _ _ _ wr.drew
        generalize hw2 : wr.drew = w2
        have he2 : Ext wr w2 := by rw [← hw2]; exact (Ext.refl wr).drew
        have SM := (S.step he2).rowSet 0 encStr1_len rfl rfl m 0 (.string (l ++ s.extract k (k + 1))) (l ++ s.extract k (k + 1)) hml (by omega) rfl
        have f0 := (S.step he2).row 0 rfl |>.frozenAt
        have g2 := cell_ext he2 g0
        have HSM := Lib.hid SM
        clear SM S g0 hw2 hrow
        go_wp2
        go_roundw
        case rel => exact ⟨k + 1, some ⟨g, 0, none⟩, c, X.set m (l ++ s.extract k (k + 1)), by omega, by go_num, by rw [List.length_set], by rw [List.length_set]; omega, by rw [List.length_set]; omega, HFN.out, by simpa using HSM.out⟩
        case measure => simp [intOf]; omega

def RetBool (w : World) (e : Ending) (w' : World) : Prop := ∃ v : Bool, e = .returned (.bool v) ∧ Ext w w'
set_option maxRecDepth 10000 in
set_option maxHeartbeats 8000000 in
theorem specWayValid (s : ByteArray) (w : World) (hs : s.size ≤ 1000000) : Calls Try.prog 56 #[.string s] w (RetBool w) := by
  go_enter Try.func56, Try.ntmps56
  go_wp2_with fail
  refine (specWords s w hs).mono ?_
  rintro e w1 ⟨u, W, rfl, hWl, hWs, S⟩
  have HWs := Lib.hid hWs
  obtain ⟨a, c, rfl, hcap, hrd, _⟩ := view_owns encStr1_len (S.row 0 rfl)
  have hE0 := S.ext
  have Hrd := Lib.hid hrd
  clear S hWs hrd hcap
  go_wp2
  go_loopw [4] (fun i wr => ∃ k : Nat, k ≤ W.length ∧ i = .int .i64 k ∧ Ext w1 wr) (fun i _ => W.length - (intOf i).toNat)
  case atStart => exact ⟨0, Nat.zero_le _, rfl, Ext.refl _⟩
  case round =>
    obtain ⟨k, hk, rfl, hb⟩ := hrel
    by_cases hlt : k < W.length
    rotate_left
    · obtain rfl : k = W.length := by omega
      have hni : ¬ (W.length : Int) < (W.length : Int) := by omega
      by_cases h12 : W.length ≤ 12
      · have t12 : (W.length : Int) ≤ 12 := by omega
        go_wp2
        go_ret
        exact ⟨_, rfl, hE0.trans hb⟩
      · have t12 : ¬ (W.length : Int) ≤ 12 := by omega
        go_wp2
        go_ret
        exact ⟨_, rfl, hE0.trans hb⟩
    · obtain ⟨x, b, off, hx, rfl, c0⟩ := atStr (Hrd.out.ext hb) hlt
      have i0 : (k : Int) < (W.length : Int) := by omega
      have hxs : x.size ≤ 9223372036854775807 := by have := HWs.out x (List.mem_of_getElem? hx); omega
      clear hx
      cases h1 : x.toList.isEmpty with
      | true =>
        go_wp2
        go_roundw
        case rel => exact ⟨k + 1, by omega, by go_num, hb⟩
        case measure => simp [intOf]; omega
      | false =>
        cases h2 : (x.toList == [46]) with
        | true =>
          go_wp2
          go_roundw
          case rel => exact ⟨k + 1, by omega, by go_num, hb⟩
          case measure => simp [intOf]; omega
        | false =>
          cases h3 : (x.toList == [46, 46]) with
          | true =>
            go_wp2
            go_roundw
            case rel => exact ⟨k + 1, by omega, by go_num, hb⟩
            case measure => simp [intOf]; omega
          | false =>
            go_wp2_with fail
            refine (specNameValid x wr hxs).mono ?_
            rintro e w2 ⟨v, rfl, _, hE⟩
            clear c0
            cases v with
            | false =>
              go_wp2
              go_ret
              exact ⟨_, rfl, hE0.trans (hb.trans hE)⟩
            | true =>
              go_wp2
              go_roundw
              case rel => exact ⟨k + 1, by omega, by go_num, hb.trans hE⟩
              case measure => simp [intOf]; omega

def RetText (w : World) (e : Ending) (w' : World) : Prop := ∃ t : ByteArray, e = .returned (.string t) ∧ t.size ≤ 54 ∧ Ext w w'

set_option maxRecDepth 10000 in
set_option maxHeartbeats 8000000 in
theorem specFollowWay (src way : ByteArray) (w : World) (h1 : src.size ≤ 1000000) (h2 : way.size ≤ 1000000) (h3 : 0 < way.size) (h4 : way[0].toNat ≠ 47) : Calls Try.prog 48 #[.string src, .string way] w (RetText w) := by
  have te := isEmpty_pos h3
  have tc : ((way[0].toNat : Int) == 47) = false := by simp; omega
  have z0 : (0 : Int) < (way.size : Int) := by omega
  clear h4
  go_enter Try.func48, Try.ntmps48
  go_wp2_with fail
  refine (specPathParts src w (by omega)).mono ?_
  rintro e w1 ⟨u, P0, ok, rfl, hR, S⟩
  obtain ⟨hP6, hP8⟩ := parts_len hR
  have HP8 := Lib.hid hP8
  obtain ⟨ap0, cp0, rfl, hcap0, hrd0, _⟩ := view_owns encStr1_len (S.row 0 rfl)
  have Hrd0 := Lib.hid hrd0
  have E1 := S.ext
  clear hP8 hrd0 S hR
  cases ok with
  | false =>
    go_wp2
    go_ret
    exact ⟨_, rfl, Nat.zero_le _, E1⟩
  | true =>
    go_wp2_with fail
    refine (specWayValid way w1 h2).mono ?_
    rintro e w2 ⟨v, rfl, hE⟩
    have E2 := E1.trans hE
    cases v with
    | false =>
      go_wp2
      go_ret
      exact ⟨_, rfl, Nat.zero_le _, E2⟩
    | true =>
      go_wp2_with fail
      refine (specWords way w2 h2).mono ?_
      rintro e w3 ⟨u, W, rfl, hWl, hWs, S⟩
      have HWs := Lib.hid hWs
      obtain ⟨aw, cw, rfl, hcapw, hrdw, _⟩ := view_owns encStr1_len (S.row 0 rfl)
      have Hrw := Lib.hid hrdw
      have HP0 : Hid (Rd 1 encStr1 w3 ap0 P0) := Lib.hid ((Hrd0.out.ext hE).ext S.ext)
      have E3 := Lib.hid (E2.trans S.ext)
      have HPs : Hid (∀ p ∈ P0, p.size ≤ 1000000) := Lib.hid (fun p hp => by have := HP8.out p hp; omega)
      clear hWs hrdw S hcapw Hrd0 E1 E2 hE HP8
      go_wp2
      go_loopw [5, 8, 50, 53] (fun ps i _ _ wr => ∃ (k : Nat) (a : Option Addr) (c : Nat) (P : List ByteArray), k ≤ W.length ∧ i = .int .i64 k ∧ ps = .slice a P.length c ∧ P.length ≤ 6 ∧ P.length ≤ c ∧ (∀ p ∈ P, p.size ≤ 1000000) ∧ Rd 1 encStr1 wr a P ∧ Ext w3 wr) (fun _ i _ _ _ => W.length - (intOf i).toNat)
      case atStart => exact ⟨0, ap0, cp0, P0, Nat.zero_le _, rfl, rfl, hP6, hcap0, HPs.out, HP0.out, Ext.refl _⟩
      case round =>
        clear hcap0 hP6
        obtain ⟨k, ap, cp, P, hk, rfl, rfl, hP6, hcap, hPs, hrP, hb⟩ := hrel
        have HPs2 := Lib.hid hPs
        have HrP := Lib.hid hrP
        clear hPs hrP
        by_cases hlt : k < W.length
        rotate_left
        · obtain rfl : k = W.length := by omega
          have hni : ¬ (W.length : Int) < (W.length : Int) := by omega
          go_wp2_with fail
          refine (specJoinPath ap cp P wr (by omega) (fun x hx => by have := HPs2.out x hx; omega) HrP.out).mono ?_
          rintro e w9 ⟨v, rfl, rfl, hE⟩
          go_wp2
          go_ret
          exact ⟨_, rfl, joinPath_size P, (E3.out.trans hb).trans hE⟩
        · obtain ⟨x, bw, off, hx, rfl, c0⟩ := atStr (Hrw.out.ext hb) hlt
          have i0 : (k : Int) < (W.length : Int) := by omega
          have hxs := HWs.out x (List.mem_of_getElem? hx)
          have t6 : ¬ (6 : Int) < (P.length : Int) := by omega
          clear hx
          cases h1 : x.toList.isEmpty with
          | true =>
            go_wp2
            go_roundw
            case rel => exact ⟨k + 1, ap, cp, P, by omega, by go_num, rfl, hP6, hcap, HPs2.out, HrP.out, hb⟩
            case measure => simp [intOf]; omega
          | false =>
            cases h2 : (x.toList == [46]) with
            | true =>
              go_wp2
              go_roundw
              case rel => exact ⟨k + 1, ap, cp, P, by omega, by go_num, rfl, hP6, hcap, HPs2.out, HrP.out, hb⟩
              case measure => simp [intOf]; omega
            | false =>
              cases h3 : (x.toList == [46, 46]) with
              | true =>
                by_cases hP : P = []
                · have t0 : ¬ (0 : Int) < (P.length : Int) := by rw [hP]; simp
                  go_wp2
                  go_roundw
                  case rel => exact ⟨k + 1, ap, cp, P, by omega, by go_num, rfl, hP6, hcap, HPs2.out, HrP.out, hb⟩
                  case measure => simp [intOf]; omega
                · obtain ⟨m, hm⟩ : ∃ m, P.length = m + 1 := ⟨P.length - 1, by have := List.length_pos_iff.2 hP; omega⟩
                  obtain ⟨l, b1, off1, _, rfl, _⟩ := atStr HrP.out (show m < P.length by omega)
                  have t0 : (0 : Int) < (P.length : Int) := by omega
                  have hwm : IntKind.i64.wrap ((P.length : Int) - 1) = (m : Int) := by rw [show (P.length : Int) - 1 = m by omega]; exact IntWalk.i64_in _ (by omega)
                  have hmc : (m : Int) ≤ (cp : Int) := by omega
                  have t7 : ¬ (6 : Int) < (m : Int) := by omega
                  have Hm := Lib.hid hm
                  clear hm hP
                  go_wp2
                  go_roundw
                  case rel => exact ⟨k + 1, some ⟨b1, off1, none⟩, cp, P.take m, by omega, by go_num, by rw [List.length_take]; have := Hm.out; congr 1; omega, by rw [List.length_take]; have := Hm.out; omega, by rw [List.length_take]; omega, fun p hp => HPs2.out p (List.mem_of_mem_take hp), HrP.out.take m, hb⟩
                  case measure => simp [intOf]; omega
              | false =>
                go_upto_region 11 with fail
                have hrP := HrP.out
                have c3F := c0
                refine wp_region_t (V := VWay ap P.length cp P (some ⟨bw, off, none⟩) W.length cw k bw off x wr wr.heap.size) (Ext wr) (fun i => if i = 0 then some 2 else if i = 2 then some 8 else if i = 7 then some 8 else none) [(8, 2)] 9 0 rfl (by decide) (by kernel_rfl) (by kernel_rfl) (by kernel_rfl) (by kernel_rfl) (Ext.refl wr).drew (fun r hr => absurd hr (Nat.not_lt_zero _)) ?_ ?_
                · intro i o hi ho vz w4 hvl hE hd hrest
                  have hsz : wr.heap.size ≤ w4.heap.size := hE.size
                  match vz, hvl with
                  | [y0, y1, y2, y3, y4, y5, y6, y7, y8], _ =>
                  rcases (show i = 0 ∨ i = 1 ∨ i = 2 ∨ i = 3 ∨ i = 4 ∨ i = 5 ∨ i = 6 ∨ i = 7 ∨ i = 8 by omega) with rfl | rfl | rfl | rfl | rfl | rfl | rfl | rfl | rfl
                  all_goals
                    simp only [List.getElem?_cons_zero, List.getElem?_cons_succ, Option.some.injEq] at ho
                    subst ho
                  · clear hd hrest
                    simp [putAll, Act.put]
                    go_wp2
                    exact OneC.mk (VWay.ext) rfl ⟨_, rfl, hsz, heap_alloc_new w4 _⟩ (hE.alloc _) ((Ext.refl _).alloc _)
                  · clear hd hrest
                    simp [putAll, Act.put]
                    go_wp2
                    exact OneC.mk (VWay.ext) rfl rfl hE (Ext.refl _)
                  · obtain ⟨gq0, q0, hbq0, hgq0⟩ : ∃ g, y0 = .slice (some ⟨g, 0, none⟩) 0 0 ∧ wr.heap.size ≤ g ∧ w4.heap[g]? = some (.cells #[] 9) := hd ⟨0, .data⟩ (by simp) rfl (by decide)
                    have q1 : y1 = .slice ap P.length cp := hd ⟨1, .data⟩ (by simp) rfl (by decide)
                    have hr4 := Rd.ext hrP hE
                    subst q0 q1
                    clear hd hrest
                    simp [putAll, Act.put]
                    refine wpList_append_lit rfl _ _ 52 rfl wr.heap.size 9 _ 1 _ Try.underlying52 infoStr1 rfl (by decide) encStr1_len encStr1_one gq0 rfl hgq0 hbq0 ap (P.length) _ (P) rfl (rfl) hr4 (by omega) (by omega) hsz ?_
                    intro v9 w9 ho9 hE9
                    go_wp2
                    exact OneC.mk (VWay.ext) rfl ho9 (hE.trans hE9) hE9
                  · clear hd hrest
                    simp [putAll, Act.put]
                    go_wp2
                    exact OneC.mk (VWay.ext) rfl rfl hE (Ext.refl _)
                  · clear hd hrest
                    simp [putAll, Act.put]
                    go_wp2
                    exact OneC.mk (VWay.ext) rfl rfl hE (Ext.refl _)
                  · have q3 : y3 = .slice (some ⟨bw, off, none⟩) W.length cw := hd ⟨3, .data⟩ (by simp) rfl (by decide)
                    have q4 : y4 = .int .i64 k := hd ⟨4, .data⟩ (by simp) rfl (by decide)
                    subst q3 q4
                    clear hd hrest
                    simp [putAll, Act.put]
                    go_wp2
                    exact OneC.mk (VWay.ext) rfl rfl hE (Ext.refl _)
                  · have q5 : y5 = .pointer (some ⟨bw, off + k, none⟩) := hd ⟨5, .data⟩ (by simp) rfl (by decide)
                    have c3 := cell_ext hE c3F
                    subst q5
                    clear hd hrest
                    simp [putAll, Act.put]
                    go_wp2
                    exact OneC.mk (VWay.ext) rfl rfl hE (Ext.refl _)
                  · have q6 : y6 = .string x := hd ⟨6, .data⟩ (by simp) rfl (by decide)
                    subst q6
                    clear hd hrest
                    simp [putAll, Act.put]
                    go_wp2
                    exact OneC.mk (VWay.ext) rfl ⟨_, rfl, hsz, heap_alloc_new w4 _⟩ (hE.alloc _) ((Ext.refl _).alloc _)
                  · have q0 : w4.ownsRow wr.heap.size 9 1 y2 (P).length ((P).flatMap encStr1) := hd ⟨2, .data⟩ (by simp) rfl (by decide)
                    obtain ⟨gq1, q1, hbq1, hgq1⟩ : ∃ g, y7 = .slice (some ⟨g, 0, none⟩) 1 1 ∧ wr.heap.size ≤ g ∧ w4.heap[g]? = some (.cells #[.string x] 9) := hd ⟨7, .data⟩ (by simp) rfl (by decide)
                    have hrd : Rd 1 encStr1 w4 (some ⟨gq1, 0, none⟩) [x] := rd_lit [x] encStr1_len hgq1 rfl
                    subst q1
                    clear hd hrest
                    simp [putAll, Act.put]
                    refine wpList_append_rd rfl _ _ 52 rfl wr.heap.size 9 _ 1 _ Try.underlying52 infoStr1 rfl (by decide) encStr1_len encStr1_one _ (P).length (P) rfl q0 rfl (some ⟨gq1, 0, none⟩) 1 1 [x] rfl rfl hrd (by first | omega | (simp; omega)) (by omega) hsz ?_
                    intro v9 w9 ho9 hg9
                    have hE9 : Ext wr w9 := hE.grown hg9 (fun k h => (q0.lt k h).1)
                    go_wp2
                    refine ⟨rfl, _, rfl, ho9, hE9, fun j u hj hne hcon hnd hnc hv => ?_⟩
                    match j with
                    | 0 => exact absurd (by decide) (hnc 2 rfl)
                    | 1 => exact hv
                    | 2 => exact absurd rfl hcon
                    | 3 => exact hv
                    | 4 => exact hv
                    | 5 => exact hv
                    | 6 => exact hv
                    | 7 => exact absurd rfl hcon
                    | 8 => exact absurd rfl hne
                    | (zz + 9) => trivial
                · intro vz wE hvl hE hV _
                  match vz, hvl with
                  | [y0, y1, y2, y3, y4, y5, y6, y7, y8], _ =>
                    have o8 : wE.ownsRow wr.heap.size 9 1 y8 (P ++ [x]).length ((P ++ [x]).flatMap encStr1) := hV 8 (by omega) rfl
                    obtain ⟨a8, c8, hv8, hcap8, hrd8, _⟩ := view_owns encStr1_len o8
                    obtain ⟨G, hG⟩ : ∃ G, G = P ++ [x] := ⟨_, rfl⟩
                    have hGl : G.length = P.length + 1 := by rw [hG]; simp
                    have HG := Lib.hid hG
                    rw [← hG] at hv8 hcap8 hrd8
                    have Hrd8 := Lib.hid hrd8
                    clear hV o8 hG hrd8 c0 c3F hrP
                    subst hv8
                    have hbE := hb.trans hE
                    clear hE
                    simp only [putAll, Act.put, List.take_succ_cons, List.take_zero, List.drop_succ_cons, List.drop_zero]
                    simp
                    by_cases h6 : P.length = 6
                    · have t7 : (6 : Int) < (G.length : Int) := by omega
                      have HGl := Lib.hid hGl
                      clear hGl
                      go_wp2
                      go_ret
                      exact ⟨_, rfl, Nat.zero_le _, E3.out.trans hbE⟩
                    · have t7 : ¬ (6 : Int) < (G.length : Int) := by omega
                      have HGl := Lib.hid hGl
                      clear hGl
                      go_wp2
                      go_roundw
                      case rel =>
                        refine ⟨k + 1, a8, c8, G, by omega, by go_num, rfl, by have := HGl.out; omega, hcap8, fun p hp => ?_, Hrd8.out, hbE⟩
                        rw [HG.out] at hp
                        rcases List.mem_append.1 hp with hp | hp
                        · exact HPs2.out p hp
                        · rw [List.mem_singleton.1 hp]; omega
                      case measure => simp [intOf]; omega
end Go.Proofs.Ytnibbldfohbfkaa

/- Trees: contracts of the reference's l6Paths and PathsOf (at least one path, all short). Condition: at most 20 names a node. -/
namespace Go.Proofs.Ytnibbldfohbfkaa
open Go.RowKit

theorem Chg.grownB {S : Nat → Prop} {a b c : World} {row : Option Nat} (h : Chg S a b) (hg : b.grownBy c row) (hr : ∀ k, row = some k → a.heap.size ≤ k) : Chg S a c :=
  ⟨hg.os.trans h.os, hg.tape.trans h.tape, hg.output.trans h.output, Nat.le_trans h.size hg.size, fun k hk hn => (hg.block k (Nat.lt_of_lt_of_le hk h.size) (fun e => absurd (hr k e.symm) (by omega))).trans (h.block k hk hn)⟩
theorem ownsRow_frame {w w' : World} {base e nf : Nat} {v : Value} {n : Nat} {xs : List Value} (h : w.ownsRow base e nf v n xs) (hf : ∀ b, v.ownBlock = some b → w'.heap[b]? = w.heap[b]?) : w'.ownsRow base e nf v n xs := by
  refine ⟨h.1, ?_⟩
  rcases h.2 with h2 | ⟨b, cap, cur, hv, hb, hh, r⟩
  · exact .inl h2
  · exact .inr ⟨b, cap, cur, hv, hb, (hf b (by rw [hv]; rfl)).trans hh, r⟩

def VPth (w : World) (ou : Value) (O : List ByteArray) (bt off nT cap n bk ok nK ck k : Nat) (y : Int) (ap : Option Addr) (nP cp : Nat) (P : List ByteArray) (bn on nN cn : Nat) (x : ByteArray) (bnd : Nat) (wr : World) (base : Nat) : Nat → Value → World → Prop := fun i v wv => match i with
  | 0 => v = ou
  | 1 => v = .slice (some ⟨bt, off, none⟩) nT cap
  | 2 => v = .slice (some ⟨bt, off, none⟩) nT cap
  | 3 => v = .int .i64 n
  | 4 => v = .pointer (some ⟨bt, off + n * 7, none⟩)
  | 5 => v = .pointer (some ⟨bt, off + n * 7 + 6, none⟩)
  | 6 => v = .slice (some ⟨bk, ok, none⟩) nK ck
  | 7 => v = .int .i64 k
  | 8 => v = .pointer (some ⟨bk, ok + k, none⟩)
  | 9 => v = .int .i64 y
  | 10 => ∃ g, v = .slice (some ⟨g, 0, none⟩) 0 0 ∧ base ≤ g ∧ wv.heap[g]? = some (.cells #[] 9)
  | 11 => v = .slice ap nP cp
  | 12 => wv.ownsRow base 9 1 v (P).length ((P).flatMap encStr1)
  | 13 => v = .slice (some ⟨bt, off, none⟩) nT cap
  | 14 => v = .int .i64 n
  | 15 => v = .pointer (some ⟨bt, off + n * 7, none⟩)
  | 16 => v = .pointer (some ⟨bt, off + n * 7 + 5, none⟩)
  | 17 => v = .slice (some ⟨bn, on, none⟩) nN cn
  | 18 => v = .int .i64 k
  | 19 => v = .pointer (some ⟨bn, on + k, none⟩)
  | 20 => v = .string x
  | 21 => ∃ g, v = .slice (some ⟨g, 0, none⟩) 1 1 ∧ base ≤ g ∧ wv.heap[g]? = some (.cells #[.string x] 9)
  | 22 => wv.ownsRow base 9 1 v (P ++ [x]).length ((P ++ [x]).flatMap encStr1)
  | 23 => ∃ L : List ByteArray, L.length ≤ bnd ∧ (∀ s ∈ L, s.size ≤ 54) ∧ wv.ownsRow base 9 1 v L.length (L.flatMap encStr1)
  | 24 => ∃ L : List ByteArray, L.length ≤ bnd ∧ (∀ s ∈ L, s.size ≤ 54) ∧ wv.ownsRow w.heap.size 9 1 v (O ++ L).length ((O ++ L).flatMap encStr1)
  | 25 => wv.ownsRow w.heap.size 9 1 ou (O).length ((O).flatMap encStr1)
  | _ => True
theorem VPth.ext {w : World} {ou : Value} {O : List ByteArray} {bt off nT cap n bk ok nK ck k : Nat} {y : Int} {ap : Option Addr} {nP cp : Nat} {P : List ByteArray} {bn on nN cn : Nat} {x : ByteArray} {bnd : Nat} {wr : World} {base : Nat} (i : Nat) (v : Value) (w1 w2 : World) (h : VPth w ou O bt off nT cap n bk ok nK ck k y ap nP cp P bn on nN cn x bnd wr base i v w1) (hE : Ext w1 w2) : VPth w ou O bt off nT cap n bk ok nK ck k y ap nP cp P bn on nN cn x bnd wr base i v w2 := by
  match i with
  | 0 => exact h
  | 1 => exact h
  | 2 => exact h
  | 3 => exact h
  | 4 => exact h
  | 5 => exact h
  | 6 => exact h
  | 7 => exact h
  | 8 => exact h
  | 9 => exact h
  | 10 => obtain ⟨g, h1, h2, h3⟩ := h; exact ⟨g, h1, h2, heapx hE h3⟩
  | 11 => exact h
  | 12 => exact ownsRow_ext (show w1.ownsRow _ _ _ _ _ _ from h) hE
  | 13 => exact h
  | 14 => exact h
  | 15 => exact h
  | 16 => exact h
  | 17 => exact h
  | 18 => exact h
  | 19 => exact h
  | 20 => exact h
  | 21 => obtain ⟨g, h1, h2, h3⟩ := h; exact ⟨g, h1, h2, heapx hE h3⟩
  | 22 => exact ownsRow_ext (show w1.ownsRow _ _ _ _ _ _ from h) hE
  | 23 => obtain ⟨L, h1, h2, h3⟩ := h; exact ⟨L, h1, h2, ownsRow_ext h3 hE⟩
  | 24 => obtain ⟨L, h1, h2, h3⟩ := h; exact ⟨L, h1, h2, ownsRow_ext h3 hE⟩
  | 25 => exact ownsRow_ext (show w1.ownsRow _ _ _ _ _ _ from h) hE
  | (n + 26) => trivial
def RetPaths (bnd : Nat) (w : World) (e : Ending) (w' : World) : Prop := ∃ u L, e = .returned u ∧ 1 ≤ L.length ∧ L.length ≤ bnd ∧ (∀ s ∈ L, s.size ≤ 54) ∧ Sep w w' [plRow 9 1 encStr1 u L]
def bndP : Nat → Nat
  | 0 => 1
  | d + 1 => 1 + 20 * bndP d
theorem bndP_le : ∀ d, d ≤ 5 → bndP d ≤ 3368421
  | 0, _ => by decide
  | 1, _ => by decide
  | 2, _ => by decide
  | 3, _ => by decide
  | 4, _ => by decide
  | 5, _ => by decide
  | (n + 6), h => by omega
theorem bndP_pos : ∀ d, 1 ≤ bndP d
  | 0 => Nat.le_refl _
  | d + 1 => by rw [bndP]; omega

set_option maxRecDepth 10000 in
set_option maxHeartbeats 16000000 in
theorem specPaths_any (T : List Nd) (hTr : TreeOk T) (h20 : ∀ x ∈ T, x.N.length ≤ 20) : ∀ (d : Nat) (a : Option Addr) (cap : Nat) (n : Nat) (P : List ByteArray) (ap : Option Addr) (cp : Nat) (w : World), d ≤ 6 → P.length + d = 6 → n < T.length → (∀ p ∈ P, p.size ≤ 1000000) → RdN w a T → Rd 1 encStr1 w ap P →
    Calls Try.prog 54 #[.slice a T.length cap, .int .i64 (n : Int), .slice ap P.length cp] w (RetPaths (bndP d) w) := by
  intro d
  induction d with
  | zero =>
    intro a cap n P ap cp w _ hPd hn hPs hc hrP
    obtain ⟨x, bt, off, an, cn, ak, ck, hx, rfl, _, _, _, _, _, c5, _⟩ := atNd hc hn
    have HPs := Lib.hid hPs
    have t6 : ¬ (P.length : Int) < 6 := by omega
    have i1 : (n : Int) < (T.length : Int) := by omega
    clear hx hPs
    go_enter Try.func54, Try.ntmps54
    go_wp2_with fail
    refine (specJoinPath ap cp P w (by omega) (fun x hx => by have := HPs.out x hx; omega) hrP).mono ?_
    rintro e w1 ⟨v, rfl, rfl, hE⟩
    have hz := joinPath_size P
    have S := Sep.start w
    replace S : Sep w w1 [] := S.step hE
    clear hE
    generalize joinPath P = J at *
    replace S : Sep w (w1.alloc (.cells #[.string J] 9)) [plRow 9 1 encStr1 (.slice (some ⟨w1.heap.size, 0, none⟩) 1 1) ([J] : List ByteArray)] := S.lit (by simp) _ _ encStr1_len ([J] : List ByteArray) rfl rfl (by omega)
    have d5 := cell_ext S.ext c5
    go_upto_region 2 with fail
    generalize (w1.alloc (.cells #[.string J] 9)) = w2 at *
    go_wp2
    go_loopw [7, 8] (fun o i wr => i = .int .i64 0 ∧ o = .slice (some ⟨w1.heap.size, 0, none⟩) 1 1 ∧ wr = w2) (fun _ _ _ => 0)
    case atStart => exact ⟨rfl, rfl, rfl⟩
    case round =>
      obtain ⟨rfl, rfl, rfl⟩ := hrel
      by_cases h0 : 0 < x.N.length
      · have t0 : (0 : Int) < (x.N.length : Int) := by omega
        go_wp2
        go_ret
        exact ⟨_, [J], rfl, by simp, by simp [bndP], fun s hs => by rw [List.mem_singleton.1 hs]; exact hz, S⟩
      · have t0 : ¬ (0 : Int) < (x.N.length : Int) := by omega
        go_wp2
        go_ret
        exact ⟨_, [J], rfl, by simp, by simp [bndP], fun s hs => by rw [List.mem_singleton.1 hs]; exact hz, S⟩
  | succ d ih =>
    have HIH0 := Lib.hid ih
    have HTr := Lib.hid hTr
    have H20 := Lib.hid h20
    clear ih hTr h20
    intro a cap n P ap cp w hd6 hPd hn hPs hc hrP
    obtain ⟨x, bt, off, an, cn, ak, ck, hx, rfl, _, _, _, _, _, c5F, c6F, hcn, hck, hrn, hrk⟩ := atNd hc hn
    have Hx := Lib.hid hx
    have HPs := Lib.hid hPs
    have Hc := Lib.hid hc
    have t6 : (P.length : Int) < 6 := by omega
    have i1 : (n : Int) < (T.length : Int) := by omega
    clear hx hPs hc
    go_enter Try.func54, Try.ntmps54
    go_wp2_with fail
    refine (specJoinPath ap cp P w (by omega) (fun x hx => by have := HPs.out x hx; omega) hrP).mono ?_
    rintro e w1 ⟨v, rfl, rfl, hE⟩
    have hz := joinPath_size P
    have S := Sep.start w
    replace S : Sep w w1 [] := S.step hE
    clear hE
    generalize joinPath P = J at *
    replace S : Sep w (w1.alloc (.cells #[.string J] 9)) [plRow 9 1 encStr1 (.slice (some ⟨w1.heap.size, 0, none⟩) 1 1) ([J] : List ByteArray)] := S.lit (by simp) _ _ encStr1_len ([J] : List ByteArray) rfl rfl (by omega)
    go_upto_region 2 with fail
    generalize (w1.alloc (.cells #[.string J] 9)) = w2 at *
    have hO0 := S.row 0 rfl
    have hE0 := S.ext
    clear S
    go_wp2
    go_loopw [7, 8] (fun o i wr => ∃ (k : Nat) (O : List ByteArray) (ou : Value), k ≤ x.N.length ∧ i = .int .i64 k ∧ ou = o ∧ 1 ≤ O.length ∧ O.length ≤ 1 + k * bndP d ∧ (∀ s ∈ O, s.size ≤ 54) ∧ wr.ownsRow w.heap.size 9 1 ou O.length (O.flatMap encStr1) ∧ Ext w wr) (fun _ i _ => x.N.length - (intOf i).toNat)
    case atStart => exact ⟨0, [J], _, Nat.zero_le _, rfl, rfl, by simp, by simp, fun s hs => by rw [List.mem_singleton.1 hs]; exact hz, hO0, hE0⟩
    case round =>
      clear hO0 hE0
      obtain ⟨k, O, ou, hk, rfl, rfl, hO1, hO2, hO3, hO, hb⟩ := hrel
      have HO3 := Lib.hid hO3
      clear hO3
      have hb20 := H20.out x (List.mem_of_getElem? Hx.out)
      have hbd := bndP_le d (by omega)
      have hkb : k * bndP d ≤ 20 * bndP d := Nat.mul_le_mul_right _ (by omega)
      have d5 := cell_ext hb c5F
      by_cases hlt : k < x.N.length
      rotate_left
      · obtain rfl : k = x.N.length := by omega
        have hni : ¬ (x.N.length : Int) < (x.N.length : Int) := by omega
        have SO := Sep.of_owns hb hO
        have HB : Hid (O.length ≤ bndP (d + 1)) := Lib.hid (by rw [bndP]; omega)
        clear hkb hbd hO2
        go_wp2
        go_ret
        exact ⟨_, O, rfl, hO1, HB.out, HO3.out, SO⟩
      · have hN := HTr.out.nodes n x Hx.out
        have hltk : k < x.K.length := by have := hN.len; omega
        obtain ⟨s, bn, on, hs, rfl, cxF⟩ := atStr hrn hlt
        obtain ⟨y, bk, ok, hy, rfl, cyF⟩ := atInt hrk hltk
        obtain ⟨j, rfl, hj⟩ := in_cast1 (nodeOk_kid hN (List.mem_of_getElem? hy))
        have hsN := ((nodeOk_iff.1 hN).1.dir (by
          cases hf : x.fold with
          | true => rfl
          | false => have := hN.file hf; omega)).2.2 k hlt s hs
        have hss : s.size ≤ 8 := hsN.1.2.2
        have i0 : (k : Int) < (x.N.length : Int) := by omega
        have i0k : (k : Int) < (x.K.length : Int) := by omega
        have HbO : Hid (O.length ≤ 1 + 20 * bndP d) := Lib.hid (by omega)
        have HO2 := Lib.hid hO2
        have Hbd := Lib.hid hbd
        have HIH : Hid (∀ w4, Ext w w4 → ∀ a4 c4, Rd 1 encStr1 w4 a4 (P ++ [s]) → Calls Try.prog 54 #[.slice (some ⟨bt, off, none⟩) T.length cap, .int .i64 (j : Int), .slice a4 (P ++ [s]).length c4] w4 (RetPaths (bndP d) w4)) := Lib.hid (fun w4 h4 a4 c4 hr4 =>
          HIH0.out (some ⟨bt, off, none⟩) cap j (P ++ [s]) a4 c4 w4 (by omega) (by rw [List.length_append, List.length_singleton]; omega) hj (fun p hp => by
            rcases List.mem_append.1 hp with hp | hp
            · exact HPs.out p hp
            · rw [List.mem_singleton.1 hp]; omega) (Hc.out.ext h4) hr4)
        have HO := Lib.hid hO
        clear hN hsN hs hy hj hss hkb hbd hO2
        go_upto_region 5 with fail
        obtain ⟨bnd, hbnd⟩ : ∃ bnd, bnd = bndP d := ⟨_, rfl⟩
        rw [← hbnd] at HIH HbO HO2 Hbd
        have Hbnd := Lib.hid hbnd
        have hbd9 := Hbd.out
        clear hbnd
        have hI0 : ∀ wv, Chg (fun b => ou.ownBlock = some b) (World.drew wr) wv → Ext w wv := fun wv hI => Chg.ext (hb.drew) hI (fun b hb2 => (HO.out.lt b hb2).1)
        have hOlt : ∀ b, ou.ownBlock = some b → b < wr.heap.size := fun b hb2 => (HO.out.lt b hb2).2
        have Sd : (World.drew wr).ownsRow w.heap.size 9 1 ou O.length (O.flatMap encStr1) := ownsRow_ext HO.out (Ext.refl wr).drew
        clear d5
        refine wp_region_t (V := VPth w ou O bt off T.length cap n bk ok x.K.length ck k (j : Int) ap P.length cp P bn on x.N.length cn s bnd wr wr.heap.size) (Chg (fun b => (ou).ownBlock = some b) (World.drew wr)) (fun i => if i = 10 then some 12 else if i = 12 then some 22 else if i = 21 then some 22 else if i = 22 then some 23 else if i = 23 then some 24 else if i = 25 then some 24 else none) [(22, 12), (23, 22), (24, 22), (24, 12), (24, 23)] 25 1 rfl (by decide) (by kernel_rfl) (by kernel_rfl) (by kernel_rfl) (by kernel_rfl) (Chg.refl _ _) (fun r hr => match r, hr with | 0, _ => Sd) ?_ ?_
        · intro i o hi ho vz w4 hvl hE hd hrest
          have hsz : wr.heap.size ≤ w4.heap.size := hE.size
          have hE4 := hI0 w4 hE
          match vz, hvl with
          | [y0, y1, y2, y3, y4, y5, y6, y7, y8, y9, y10, y11, y12, y13, y14, y15, y16, y17, y18, y19, y20, y21, y22, y23, y24], _ =>
          rcases (show i = 0 ∨ i = 1 ∨ i = 2 ∨ i = 3 ∨ i = 4 ∨ i = 5 ∨ i = 6 ∨ i = 7 ∨ i = 8 ∨ i = 9 ∨ i = 10 ∨ i = 11 ∨ i = 12 ∨ i = 13 ∨ i = 14 ∨ i = 15 ∨ i = 16 ∨ i = 17 ∨ i = 18 ∨ i = 19 ∨ i = 20 ∨ i = 21 ∨ i = 22 ∨ i = 23 ∨ i = 24 by omega) with rfl | rfl | rfl | rfl | rfl | rfl | rfl | rfl | rfl | rfl | rfl | rfl | rfl | rfl | rfl | rfl | rfl | rfl | rfl | rfl | rfl | rfl | rfl | rfl | rfl
          all_goals
            simp only [List.getElem?_cons_zero, List.getElem?_cons_succ, Option.some.injEq] at ho
            subst ho
          · clear hd hrest
            simp [putAll, Act.put]
            go_wp2
            exact OneC.mk (VPth.ext) rfl rfl hE (Ext.refl _)
          · clear hd hrest
            simp [putAll, Act.put]
            go_wp2
            exact OneC.mk (VPth.ext) rfl rfl hE (Ext.refl _)
          · clear hd hrest
            simp [putAll, Act.put]
            go_wp2
            exact OneC.mk (VPth.ext) rfl rfl hE (Ext.refl _)
          · clear hd hrest
            simp [putAll, Act.put]
            go_wp2
            exact OneC.mk (VPth.ext) rfl rfl hE (Ext.refl _)
          · have q2 : y2 = .slice (some ⟨bt, off, none⟩) T.length cap := hd ⟨2, .data⟩ (by simp) rfl (by decide)
            have q3 : y3 = .int .i64 n := hd ⟨3, .data⟩ (by simp) rfl (by decide)
            subst q2 q3
            clear hd hrest
            simp [putAll, Act.put]
            go_wp2
            exact OneC.mk (VPth.ext) rfl rfl hE (Ext.refl _)
          · have q4 : y4 = .pointer (some ⟨bt, off + n * 7, none⟩) := hd ⟨4, .data⟩ (by simp) rfl (by decide)
            subst q4
            clear hd hrest
            simp [putAll, Act.put]
            go_wp2
            exact OneC.mk (VPth.ext) rfl rfl hE (Ext.refl _)
          · have q5 : y5 = .pointer (some ⟨bt, off + n * 7 + 6, none⟩) := hd ⟨5, .data⟩ (by simp) rfl (by decide)
            have c3 := cell_ext hE4 c6F
            subst q5
            clear hd hrest
            simp [putAll, Act.put]
            go_wp2
            exact OneC.mk (VPth.ext) rfl rfl hE (Ext.refl _)
          · clear hd hrest
            simp [putAll, Act.put]
            go_wp2
            exact OneC.mk (VPth.ext) rfl rfl hE (Ext.refl _)
          · have q6 : y6 = .slice (some ⟨bk, ok, none⟩) x.K.length ck := hd ⟨6, .data⟩ (by simp) rfl (by decide)
            have q7 : y7 = .int .i64 k := hd ⟨7, .data⟩ (by simp) rfl (by decide)
            subst q6 q7
            clear hd hrest
            simp [putAll, Act.put]
            go_wp2
            exact OneC.mk (VPth.ext) rfl rfl hE (Ext.refl _)
          · have q8 : y8 = .pointer (some ⟨bk, ok + k, none⟩) := hd ⟨8, .data⟩ (by simp) rfl (by decide)
            have c3 := cell_ext hE4 cyF
            subst q8
            clear hd hrest
            simp [putAll, Act.put]
            go_wp2
            exact OneC.mk (VPth.ext) rfl rfl hE (Ext.refl _)
          · clear hd hrest
            simp [putAll, Act.put]
            go_wp2
            exact OneC.mk (VPth.ext) rfl ⟨_, rfl, hsz, heap_alloc_new w4 _⟩ (hE.trans (Chg.of_ext ((Ext.refl w4).alloc _))) ((Ext.refl _).alloc _)
          · clear hd hrest
            simp [putAll, Act.put]
            go_wp2
            exact OneC.mk (VPth.ext) rfl rfl hE (Ext.refl _)
          · obtain ⟨gq0, q0, hbq0, hgq0⟩ : ∃ g, y10 = .slice (some ⟨g, 0, none⟩) 0 0 ∧ wr.heap.size ≤ g ∧ w4.heap[g]? = some (.cells #[] 9) := hd ⟨10, .data⟩ (by simp) rfl (by decide)
            have q1 : y11 = .slice ap P.length cp := hd ⟨11, .data⟩ (by simp) rfl (by decide)
            have hr4 := Rd.ext hrP hE4
            subst q0 q1
            clear hd hrest
            simp [putAll, Act.put]
            refine wpList_append_lit rfl _ _ 52 rfl wr.heap.size 9 _ 1 _ Try.underlying52 infoStr1 rfl (by decide) encStr1_len encStr1_one gq0 rfl hgq0 hbq0 ap (P.length) _ (P) rfl (rfl) hr4 (by omega) (by omega) hsz ?_
            intro v9 w9 ho9 hE9
            go_wp2
            exact OneC.mk (VPth.ext) rfl ho9 (hE.trans (Chg.of_ext hE9)) hE9
          · clear hd hrest
            simp [putAll, Act.put]
            go_wp2
            exact OneC.mk (VPth.ext) rfl rfl hE (Ext.refl _)
          · clear hd hrest
            simp [putAll, Act.put]
            go_wp2
            exact OneC.mk (VPth.ext) rfl rfl hE (Ext.refl _)
          · have q13 : y13 = .slice (some ⟨bt, off, none⟩) T.length cap := hd ⟨13, .data⟩ (by simp) rfl (by decide)
            have q14 : y14 = .int .i64 n := hd ⟨14, .data⟩ (by simp) rfl (by decide)
            subst q13 q14
            clear hd hrest
            simp [putAll, Act.put]
            go_wp2
            exact OneC.mk (VPth.ext) rfl rfl hE (Ext.refl _)
          · have q15 : y15 = .pointer (some ⟨bt, off + n * 7, none⟩) := hd ⟨15, .data⟩ (by simp) rfl (by decide)
            subst q15
            clear hd hrest
            simp [putAll, Act.put]
            go_wp2
            exact OneC.mk (VPth.ext) rfl rfl hE (Ext.refl _)
          · have q16 : y16 = .pointer (some ⟨bt, off + n * 7 + 5, none⟩) := hd ⟨16, .data⟩ (by simp) rfl (by decide)
            have c3 := cell_ext hE4 c5F
            subst q16
            clear hd hrest
            simp [putAll, Act.put]
            go_wp2
            exact OneC.mk (VPth.ext) rfl rfl hE (Ext.refl _)
          · clear hd hrest
            simp [putAll, Act.put]
            go_wp2
            exact OneC.mk (VPth.ext) rfl rfl hE (Ext.refl _)
          · have q17 : y17 = .slice (some ⟨bn, on, none⟩) x.N.length cn := hd ⟨17, .data⟩ (by simp) rfl (by decide)
            have q18 : y18 = .int .i64 k := hd ⟨18, .data⟩ (by simp) rfl (by decide)
            subst q17 q18
            clear hd hrest
            simp [putAll, Act.put]
            go_wp2
            exact OneC.mk (VPth.ext) rfl rfl hE (Ext.refl _)
          · have q19 : y19 = .pointer (some ⟨bn, on + k, none⟩) := hd ⟨19, .data⟩ (by simp) rfl (by decide)
            have c3 := cell_ext hE4 cxF
            subst q19
            clear hd hrest
            simp [putAll, Act.put]
            go_wp2
            exact OneC.mk (VPth.ext) rfl rfl hE (Ext.refl _)
          · have q20 : y20 = .string s := hd ⟨20, .data⟩ (by simp) rfl (by decide)
            subst q20
            clear hd hrest
            simp [putAll, Act.put]
            go_wp2
            exact OneC.mk (VPth.ext) rfl ⟨_, rfl, hsz, heap_alloc_new w4 _⟩ (hE.trans (Chg.of_ext ((Ext.refl w4).alloc _))) ((Ext.refl _).alloc _)
          · have q0 : w4.ownsRow wr.heap.size 9 1 y12 (P).length ((P).flatMap encStr1) := hd ⟨12, .data⟩ (by simp) rfl (by decide)
            obtain ⟨gq1, q1, hbq1, hgq1⟩ : ∃ g, y21 = .slice (some ⟨g, 0, none⟩) 1 1 ∧ wr.heap.size ≤ g ∧ w4.heap[g]? = some (.cells #[.string s] 9) := hd ⟨21, .data⟩ (by simp) rfl (by decide)
            have hrd : Rd 1 encStr1 w4 (some ⟨gq1, 0, none⟩) [s] := rd_lit [s] encStr1_len hgq1 rfl
            subst q1
            clear hd hrest
            simp [putAll, Act.put]
            refine wpList_append_rd rfl _ _ 52 rfl wr.heap.size 9 _ 1 _ Try.underlying52 infoStr1 rfl (by decide) encStr1_len encStr1_one _ (P).length (P) rfl q0 rfl (some ⟨gq1, 0, none⟩) 1 1 [s] rfl rfl hrd (by first | omega | (simp; omega)) (by omega) hsz ?_
            intro v9 w9 ho9 hg9
            have hE9 := Chg.grownB hE hg9 (fun k h => (q0.lt k h).1)
            go_wp2
            refine ⟨rfl, _, rfl, ho9, hE9, fun j u hj hne hcon hnd hnc hv => ?_⟩
            match j with
            | 0 => exact hv
            | 1 => exact hv
            | 2 => exact hv
            | 3 => exact hv
            | 4 => exact hv
            | 5 => exact hv
            | 6 => exact hv
            | 7 => exact hv
            | 8 => exact hv
            | 9 => exact hv
            | 10 => exact absurd (by decide) (hnc 12 rfl)
            | 11 => exact hv
            | 12 => exact absurd rfl hcon
            | 13 => exact hv
            | 14 => exact hv
            | 15 => exact hv
            | 16 => exact hv
            | 17 => exact hv
            | 18 => exact hv
            | 19 => exact hv
            | 20 => exact hv
            | 21 => exact absurd rfl hcon
            | 22 => exact absurd rfl hne
            | 23 => exact absurd (by decide) hnd
            | 24 => exact absurd (by decide) hnd
            | 25 => exact ownsRow_frame (show w4.ownsRow _ _ _ _ _ _ from hv) (fun b hb => hg9.block b (Nat.lt_of_lt_of_le (hOlt b hb) hsz) (fun e => by have h1 := (q0.lt b e.symm).1; have h2 := hOlt b hb; omega))
            | (zz + 26) => trivial
          · have q1 : y1 = .slice (some ⟨bt, off, none⟩) T.length cap := hd ⟨1, .data⟩ (by simp) rfl (by decide)
            have q9 : y9 = .int .i64 (j : Int) := hd ⟨9, .data⟩ (by simp) rfl (by decide)
            have q22 : w4.ownsRow wr.heap.size 9 1 y22 (P ++ [s]).length ((P ++ [s]).flatMap encStr1) := hd ⟨22, .data⟩ (by simp) rfl (by decide)
            obtain ⟨a22, c22, hv22, _, hr22, _⟩ := view_owns encStr1_len q22
            have hC := HIH.out w4 hE4 a22 c22 hr22
            subst q1 q9 hv22
            have HC := Lib.hid hC
            clear hd hrest hC hr22 q22
            simp [putAll, Act.put]
            go_wp2_with fail
            simp only [List.length_append, List.length_cons, List.length_nil, Nat.zero_add] at HC
            refine HC.out.mono ?_
            rintro e w5 ⟨u5, L, rfl, hL1, hL2, hL3, S5⟩
            have h9 := ownsRow_base (S5.row 0 rfl) hsz
            have hE5 := S5.ext
            clear S5
            go_wp2
            exact OneC.mk (VPth.ext) rfl ⟨L, hL2, hL3, h9⟩ (hE.trans (Chg.of_ext hE5)) hE5
          · have q0 : y0 = ou := hd ⟨0, .data⟩ (by simp) rfl (by decide)
            obtain ⟨L, hL2, hL3, q23⟩ : ∃ L : List ByteArray, L.length ≤ bnd ∧ (∀ s ∈ L, s.size ≤ 54) ∧ w4.ownsRow wr.heap.size 9 1 y23 L.length (L.flatMap encStr1) := hd ⟨23, .data⟩ (by simp) rfl (by decide)
            obtain ⟨aR, cR, hvR, _, hrR, _⟩ := view_owns encStr1_len q23
            have hO : w4.ownsRow w.heap.size 9 1 ou (O).length ((O).flatMap encStr1) := hrest 0 (by omega) (.inr rfl)
            have hbO := HbO.out
            subst q0 hvR
            clear hd hrest
            simp [putAll, Act.put]
            refine wpList_append_b rfl _ _ 52 rfl w.heap.size 9 _ 1 _ Try.underlying52 infoStr1 rfl (by decide) encStr1_len encStr1_one _ (O).length (O) rfl hO rfl aR L.length cR L rfl rfl hrR (by omega) (by omega) hE4.size ?_
            intro v9 w9 ho9 hgr hblk
            have hch := Chg.of_grown hgr
            go_wp2
            refine ⟨rfl, _, rfl, ⟨L, hL2, hL3, ho9⟩, hE.trans hch, fun j u hj hne hcon hnd hnc hv => ?_⟩
            match j with
            | 0 => exact hv
            | 1 => exact hv
            | 2 => exact hv
            | 3 => exact hv
            | 4 => exact hv
            | 5 => exact hv
            | 6 => exact hv
            | 7 => exact hv
            | 8 => exact hv
            | 9 => exact hv
            | 10 => exact absurd (by decide) (hnc 12 rfl)
            | 11 => exact hv
            | 12 => exact absurd (by decide) (hnc 22 rfl)
            | 13 => exact hv
            | 14 => exact hv
            | 15 => exact hv
            | 16 => exact hv
            | 17 => exact hv
            | 18 => exact hv
            | 19 => exact hv
            | 20 => exact hv
            | 21 => exact absurd (by decide) (hnc 22 rfl)
            | 22 => exact absurd (by decide) (hnc 23 rfl)
            | 23 => exact absurd rfl hcon
            | 24 => exact absurd rfl hne
            | 25 => exact absurd rfl hcon
            | (zz + 26) => trivial
        · intro vz wE hvl hE hV _
          match vz, hvl with
          | [y0, y1, y2, y3, y4, y5, y6, y7, y8, y9, y10, y11, y12, y13, y14, y15, y16, y17, y18, y19, y20, y21, y22, y23, y24], _ =>
            obtain ⟨L, hL2, hL3, o24⟩ : ∃ L : List ByteArray, L.length ≤ bnd ∧ (∀ s ∈ L, s.size ≤ 54) ∧ wE.ownsRow w.heap.size 9 1 y24 (O ++ L).length ((O ++ L).flatMap encStr1) := hV 24 (by omega) rfl
            have hbE := hI0 wE hE
            obtain ⟨G, hG⟩ : ∃ G, G = O ++ L := ⟨_, rfl⟩
            have hGl : G.length = O.length + L.length := by rw [hG, List.length_append]
            have HG3 : Hid (∀ s ∈ G, s.size ≤ 54) := Lib.hid (fun s hs => by
              rw [hG] at hs
              rcases List.mem_append.1 hs with hs | hs
              · exact HO3.out s hs
              · exact hL3 s hs)
            have HG1 : Hid (1 ≤ G.length) := Lib.hid (by omega)
            have HG2 : Hid (G.length ≤ 1 + (k + 1) * bndP d) := Lib.hid (by
              have h1 := HO2.out
              rw [← Hbnd.out]
              rw [Nat.add_mul, Nat.one_mul]
              omega)
            rw [← hG] at o24
            have Ho := Lib.hid o24
            clear hV hI0 hOlt Sd hE hL2 hL3 o24 hG hGl
            simp only [putAll, Act.put, List.take_succ_cons, List.take_zero, List.drop_succ_cons, List.drop_zero]
            simp
            go_wp2
            go_roundw
            case rel => exact ⟨k + 1, G, y24, by omega, by go_num, rfl, HG1.out, HG2.out, HG3.out, Ho.out, hbE⟩
            case measure => simp [intOf]; omega

set_option maxRecDepth 10000 in
set_option maxHeartbeats 4000000 in
theorem specPathsOf (a : Option Addr) (cap : Nat) (T : List Nd) (w : World) (hl : T.length ≤ 1048576) (hT : ∀ x ∈ T, SmN 1048576 x) (hTr : TreeOk T) (h20 : ∀ x ∈ T, x.N.length ≤ 20) (hc : RdN w a T) :
    Calls Try.prog 47 #[.slice a T.length cap] w (RetPaths 67368421 w) := by
  have HT := Lib.hid hT
  have HTr := Lib.hid hTr
  have H20 := Lib.hid h20
  clear hT hTr h20
  go_enter Try.func47, Try.ntmps47
  go_wp2_with fail
  refine (specTreeValid a cap T w hl HT.out hc).mono ?_
  rintro e w1 ⟨v, rfl, hv, hE⟩
  obtain rfl : v = true := hv.2 HTr.out
  clear hv
  have S := Sep.start w
  replace S : Sep w w1 [] := S.step hE
  clear hE
  replace S : Sep w (w1.alloc (.cells #[] 9)) [plRow 9 1 encStr1 (.slice (some ⟨w1.heap.size, 0, none⟩) 0 0) []] := S.lit0 (by simp) _ _ _
  have hC := specPaths_any T HTr.out H20.out 6 a cap 0 [] (some ⟨w1.heap.size, 0, none⟩) 0 (w1.alloc (.cells #[] 9)) (Nat.le_refl _) rfl HTr.out.pos (fun p hp => by cases hp) (hc.ext S.ext) (S.rd 0 encStr1_len rfl rfl)
  have HC := Lib.hid hC
  clear hC
  go_wp2_with fail
  refine HC.out.mono ?_
  rintro e w2 ⟨u, L, rfl, hL1, hL2, hL3, S2⟩
  have S3 := S2.since S.ext
  go_wp2
  go_ret
  exact ⟨_, L, rfl, hL1, Nat.le_trans hL2 (by decide), hL3, S3⟩
end Go.Proofs.Ytnibbldfohbfkaa

/- What the laws' draws stand on: contracts of l20Open, pick and odd, and of alive. No condition but small sizes. -/
namespace Go.Proofs.Ytnibbldfohbfkaa
open Go.RowKit

def OpenQ (w : World) (v : Value) (w' : World) : Prop := v = .pointer (some ⟨w.heap.size, 0, none⟩) ∧ Src w.heap.size 0 w'

set_option maxHeartbeats 1000000 in
theorem open_any (a : Option Addr) (cap : Nat) (l : List Int) (w : World) (hl : l.length ≤ 9223372036854775807) (hcap : l.length ≤ cap) (hu : ∀ x ∈ l, 0 ≤ x ∧ x ≤ 255) (hc : Rd 1 encU8 w a l) :
    Calls Try.prog 22 #[.slice a l.length cap] w (RetV (OpenQ w) w) := by
  have hblk : l ≠ [] → ∀ b off, a = some ⟨b, off, none⟩ → b < w.heap.size := by
    intro hne b off ha
    obtain ⟨b', off', ha', hcc⟩ := hc 0 (List.length_pos_iff.2 hne)
    rw [ha] at ha'; cases ha'
    exact World.block_lt_of_cell? w _ (hcc 0 _ rfl)
  go_enter Try.func22, Try.ntmps22
  by_cases hbig : 2000 < l.length
  · have h2 : (2000 : Int) < (l.length : Int) := by omega
    have h3 : 2000 ≤ cap := by omega
    have h4 : (2000 : Int) ≤ (cap : Int) := by omega
    go_wp2
    go_ret
    refine RetV.mk ⟨rfl, a, cap, l.take 2000, 0, ?_, by omega, by omega, by rw [List.length_take]; omega, fun x hx => hu x (List.mem_of_mem_take hx), ((hc.ext ((Ext.refl w).alloc _)).take 2000), fun hne b off ha => hblk (by intro e; subst e; simp at hne) b off ha⟩ ((Ext.refl w).alloc _)
    rw [heap_alloc_new, List.length_take, Nat.min_eq_left (by omega)]
  · have h2 : (l.length : Int) ≤ 2000 := by omega
    go_wp2
    go_ret
    exact RetV.mk ⟨rfl, a, cap, l, 0, heap_alloc_new _ _, by omega, by omega, by omega, hu, hc.ext ((Ext.refl w).alloc _), hblk⟩ ((Ext.refl w).alloc _)

theorem xor_i64 (a b : Nat) (ha : a < 4611686018427387904) (hb : b < 4611686018427387904) : bits .xor .i64 (a : Int) (b : Int) = ((a ^^^ b : Nat) : Int) := by
  have hx : a ^^^ b < 2 ^ 62 := Nat.xor_lt_two_pow (by omega) (by omega)
  have h1 : (BitVec.ofInt 64 (a : Int)).toNat = a := by
    rw [BitVec.ofInt_natCast, BitVec.toNat_ofNat]; exact Nat.mod_eq_of_lt (by omega)
  have h2 : (BitVec.ofInt 64 (b : Int)).toNat = b := by
    rw [BitVec.ofInt_natCast, BitVec.toNat_ofNat]; exact Nat.mod_eq_of_lt (by omega)
  show IntKind.i64.wrap ((BitVec.ofInt 64 (a : Int) ^^^ BitVec.ofInt 64 (b : Int)).toNat : Int) = _
  rw [BitVec.toNat_xor, h1, h2]
  exact IntWalk.i64_in _ (by omega)

/-- A number below n. -/
def PickQ (n : Int) (v : Value) (_ : World) : Prop := ∃ x : Int, v = .int .i64 x ∧ 0 ≤ x ∧ (1 ≤ n → x < n) ∧ (n < 1 → x = 0)

set_option maxHeartbeats 4000000 in
theorem pick_any (g : Nat) (P n : Int) (w : World) (hs : Src g P w) (hP : P ≤ 1000000) :
    Calls Try.prog 46 #[.pointer (some ⟨g, 0, none⟩), .int .i64 n] w (RetD g P 1 (PickQ n) w) := by
  have hs0 := hs
  obtain ⟨ab, cb, l, p, hg, h0, h1, h2, h3, h4, h5⟩ := hs
  have f1 : w.frozen? ⟨g, 1, none⟩ = false := by simp [World.frozen?, hg]
  have c0 : w.cell? ⟨g, 0, none⟩ = some (.slice ab l.length cb) := by simp [World.cell?, hg]
  have c1 : w.cell? ⟨g, 1, none⟩ = some (.int .i64 p) := by simp [World.cell?, hg]
  have hS : Step g w (w.setCell ⟨g, 1, none⟩ (.int .i64 (p + 1))) := grown_setCell (Step.refl g w) _
  have hg' : (w.setCell ⟨g, 1, none⟩ (.int .i64 (p + 1))).heap[g]? = some (.cells #[.slice ab l.length cb, .int .i64 (p + 1)] 67 (0, 0)) := by
    simp [World.setCell, Array.getElem?_modify, hg]
  have hrd : Rd 1 encU8 (w.setCell ⟨g, 1, none⟩ (.int .i64 (p + 1))) ab l := h4.step hS (fun hne b off ha => by have := h5 hne b off ha; omega)
  have hsrc : Src g (P + 1) (w.setCell ⟨g, 1, none⟩ (.int .i64 (p + 1))) := ⟨ab, cb, l, p + 1, hg', by omega, by omega, h2, h3, hrd, h5⟩
  have w1 : IntKind.i64.wrap (p + 1) = p + 1 := IntWalk.i64_in _ (by omega)
  go_enter Try.func46, Try.ntmps46
  have d0 : (w.setCell ⟨g, 1, none⟩ (.int .i64 (p + 1))).cell? ⟨g, 0, none⟩ = some (.slice ab l.length cb) := by simp [World.cell?, hg']
  have d1 : (w.setCell ⟨g, 1, none⟩ (.int .i64 (p + 1))).cell? ⟨g, 1, none⟩ = some (.int .i64 (p + 1)) := by simp [World.cell?, hg']
  by_cases hn : n < 1
  · go_wp2
    go_ret
    exact RetD.mk ⟨0, rfl, by omega, fun h => by omega, fun _ => rfl⟩ hsrc (by omega) hS
  · by_cases hz : l.length = 0
    · go_wp2
      go_ret
      exact RetD.mk ⟨0, rfl, by omega, fun h => by omega, fun _ => rfl⟩ hsrc (by omega) hS
    · have hn1 : 1 ≤ n := by omega
      have hnn : n ≠ 0 := by omega
      have hz0 : (l.length : Int) ≠ 0 := by omega
      obtain ⟨m, rfl⟩ : ∃ m : Nat, p = m := ⟨p.toNat, by omega⟩
      have w2 : IntKind.i64.wrap ((m : Int) + 1 - 1) = (m : Int) := by rw [show (m : Int) + 1 - 1 = m by omega]; exact IntWalk.i64_in _ (by omega)
      by_cases hm : m < l.length
      · obtain ⟨b, off, rfl, hcell⟩ := hrd m hm
        have e0 : (w.setCell ⟨g, 1, none⟩ (.int .i64 ((m : Int) + 1))).cell? ⟨b, off + m, none⟩ = some (.int .u8 l[m]) := by simpa using hcell 0 _ rfl
        clear hcell
        obtain ⟨x0, x1⟩ := h3 l[m] (List.getElem_mem hm)
        have i0 : (0 : Int) ≤ (m : Int) := by omega
        have i1 : (m : Int) < (l.length : Int) := by omega
        go_wp2
        go_ret
        exact RetD.mk ⟨l[m] % n, rfl, Int.emod_nonneg _ hnn, fun _ => Int.emod_lt_of_pos _ (by omega), fun h => by omega⟩ hsrc (by omega) hS
      · have hlm : (l.length : Int) ≤ (m : Int) := by omega
        have hlz : (0 : Int) < (l.length : Int) := by omega
        obtain ⟨j1, k1, t1⟩ : ∃ j : Nat, j < l.length ∧ (m : Int) % (l.length : Int) = (j : Int) := ⟨m % l.length, Nat.mod_lt _ (by omega), by push_cast; rfl⟩
        obtain ⟨j2, k2, t2⟩ : ∃ j : Nat, j < l.length ∧ ((m : Int) * 7 + 3) % (l.length : Int) = (j : Int) := ⟨(m * 7 + 3) % l.length, Nat.mod_lt _ (by omega), by push_cast; rfl⟩
        obtain ⟨b, off, rfl, hcell⟩ := hrd j1 k1
        obtain ⟨b', off', hb', hcell'⟩ := hrd j2 k2
        obtain ⟨rfl, rfl⟩ : b = b' ∧ off = off' := by simpa using hb'
        have e0 : (w.setCell ⟨g, 1, none⟩ (.int .i64 ((m : Int) + 1))).cell? ⟨b, off + j1, none⟩ = some (.int .u8 l[j1]) := by simpa using hcell 0 _ rfl
        have e1 : (w.setCell ⟨g, 1, none⟩ (.int .i64 ((m : Int) + 1))).cell? ⟨b, off + j2, none⟩ = some (.int .u8 l[j2]) := by simpa using hcell' 0 _ rfl
        obtain ⟨x0, x1⟩ := h3 l[j1] (List.getElem_mem k1)
        obtain ⟨y0, y1⟩ := h3 l[j2] (List.getElem_mem k2)
        generalize l[j1] = x at *
        generalize l[j2] = y at *
        clear hcell hcell' hb'
        have t3 : (m : Int).tmod (l.length : Int) = (j1 : Int) := by rw [Int.tmod_eq_emod_of_nonneg (by omega)]; exact t1
        have t4 : ((m : Int) * 7 + 3).tmod (l.length : Int) = (j2 : Int) := by rw [Int.tmod_eq_emod_of_nonneg (by omega)]; exact t2
        obtain ⟨d, hd, t5⟩ : ∃ d : Nat, d ≤ m ∧ (m : Int) / (l.length : Int) = (d : Int) := ⟨m / l.length, Nat.div_le_self _ _, by push_cast; rfl⟩
        have t6 : (m : Int).tdiv (l.length : Int) = (d : Int) := by rw [Int.tdiv_eq_ediv_of_nonneg (by omega)]; exact t5
        have k3 : (j1 : Int) < (l.length : Int) := by omega
        have k4 : (j2 : Int) < (l.length : Int) := by omega
        have k5 : (0 : Int) ≤ (j1 : Int) := by omega
        have k6 : (0 : Int) ≤ (j2 : Int) := by omega
        have u1 : IntKind.i64.wrap ((m : Int) * 7) = (m : Int) * 7 := IntWalk.i64_in _ (by omega)
        have u2 : IntKind.i64.wrap ((m : Int) * 7 + 3) = (m : Int) * 7 + 3 := IntWalk.i64_in _ (by omega)
        go_wp2
        clear hg' c0 c1 f1 hg
        generalize (w.setCell ⟨g, 1, none⟩ (.int .i64 ((m : Int) + 1))) = wr at *
        have q0 := ExtW.cell d0
        have q1 := ExtW.cell e0
        have q2 := ExtW.cell e1
        have b1 := ExtW.lt d0
        have b2 := ExtW.lt e0
        clear d0 d1 e0 e1
        (refine wp_region_quiet_ext (by kernel_rfl) (by kernel_rfl) ?_; (repeat (go_big_quiet_step (fail))); refine wpQuiet_nil ?_; intro _ hw'; obtain ⟨sq, hw''⟩ := hw'; subst hw'')
        obtain ⟨w4, hw4⟩ := sq
        go_wp2
        obtain ⟨z, hz1⟩ : ∃ z : Nat, x * 131 + y * 1117 + (m : Int) * 29 + (d : Int) * 53 = z := ⟨(x * 131 + y * 1117 + (m : Int) * 29 + (d : Int) * 53).toNat, by omega⟩
        have hzb : z < 1000000000 := by omega
        have hx := xor_i64 z (z / 64) (by omega) (by omega)
        go_ret
        refine RetD.mk ⟨(((z ^^^ (z / 64) : Nat) : Int)).tmod n, ?_, ?_, fun _ => ?_, fun h => by omega⟩ (hsrc.ext hw4) (by omega) (hS.ext hw4)
        · have e : bits .xor .i64 (x * 131 + y * 1117 + (m : Int) * 29 + (d : Int) * 53) ((x * 131 + y * 1117 + (m : Int) * 29 + (d : Int) * 53) / 64) = ((z ^^^ (z / 64) : Nat) : Int) := by
            rw [hz1, ← hx]
            congr 1
          exact congrArg (fun q : Int => Value.int .i64 (q.tmod n)) e
        · rw [Int.tmod_eq_emod_of_nonneg (by omega)]; exact Int.emod_nonneg _ hnn
        · rw [Int.tmod_eq_emod_of_nonneg (by omega)]; exact Int.emod_lt_of_pos _ (by omega)

def OddQ (n : Int) (v : Value) (_ : World) : Prop := ∃ b : Bool, v = .bool b ∧ (n ≤ 0 → b = false)
set_option maxHeartbeats 1000000 in
theorem odd_any (g : Nat) (P n : Int) (w : World) (hs : Src g P w) (hP : P ≤ 1000000) (hn : n ≤ 1000000) :
    Calls Try.prog 53 #[.pointer (some ⟨g, 0, none⟩), .int .i64 n] w (RetD g P 1 (OddQ n) w) := by
  go_enter Try.func53, Try.ntmps53
  by_cases h0 : 0 < n
  · go_wp2_with fail
    refine (pick_any g P n w hs hP).mono ?_
    rintro e w1 ⟨v, rfl, ⟨x, rfl, hx0, hx1, hx2⟩, hs1, hS⟩
    go_wp2
    go_ret
    exact RetD.mk ⟨_, rfl, fun h => by omega⟩ hs1 (by omega) hS
  · go_wp2
    go_ret
    exact RetD.mk ⟨_, rfl, fun h => rfl⟩ hs (by omega) (Step.refl _ _)
end Go.Proofs.Ytnibbldfohbfkaa

/- The draws of users, modes and credentials. No condition but small sizes. -/
namespace Go.Proofs.Ytnibbldfohbfkaa
open Go.RowKit

def UserD (v : Value) (_ : World) : Prop := ∃ x : Int, v = .int .i64 x ∧ 0 ≤ x ∧ x ≤ 99
def NumD (v : Value) (_ : World) : Prop := ∃ x : Int, v = .int .i64 x
def CredD (v : Value) (_ : World) : Prop := ∃ a b c d : Int, v = .agg #[.int .i64 a, .int .i64 b, .int .i64 c, .int .i64 d]

set_option maxRecDepth 10000 in
set_option maxHeartbeats 2000000 in
theorem drawUser (g : Nat) (P : Int) (w : World) (hs : Src g P w) (hP : P ≤ 900000) :
    Calls Try.prog 51 #[.pointer (some ⟨g, 0, none⟩)] w (RetD g P 1 UserD w) := by
  have hg := hs.lt
  have hne : w.heap.size ≠ g := by omega
  have hrd : Rd 1 encInt1 (w.alloc (.cells #[.int .i64 0, .int .i64 5, .int .i64 6, .int .i64 7] 3)) (some ⟨w.heap.size, 0, none⟩) [0, 5, 6, 7] := rd_lit_new _ (fun _ => rfl) rfl
  have hE := (Ext.refl w).alloc (.cells #[.int .i64 0, .int .i64 5, .int .i64 6, .int .i64 7] 3)
  have hall : ∀ x ∈ ([0, 5, 6, 7] : List Int), 0 ≤ x ∧ x ≤ 99 := by decide
  have hll : ([0, 5, 6, 7] : List Int).length = 4 := rfl
  have Hall := Lib.hid hall
  clear hall
  go_enter Try.func51, Try.ntmps51
  go_wp2_with fail
  generalize ([0, 5, 6, 7] : List Int) = L at *
  have hs1 := hs.ext hE
  have hS0 := Step.of_ext (g := g) hE
  generalize (w.alloc (.cells #[.int .i64 0, .int .i64 5, .int .i64 6, .int .i64 7] 3)) = w1 at *
  refine (pick_any g P 4 _ hs1 (by omega)).mono ?_
  rintro e w2 ⟨v, rfl, ⟨i, rfl, x0, x1, _⟩, hs2, hS⟩
  have hrd2 := hrd.step hS (fun _ b off h => by cases h; exact hne)
  replace x1 := x1 (by omega)
  obtain ⟨k, rfl⟩ : ∃ k : Nat, i = k := ⟨i.toNat, by omega⟩
  obtain ⟨x, hx, hcell⟩ := lit_at hrd2 (k := k) (by omega)
  have c0 : w2.cell? ⟨w.heap.size, k, none⟩ = some (.int .i64 x) := by have := hcell 0 _ rfl; simpa using this
  have HX := Lib.hid (Hall.out x hx)
  clear hcell hx hrd hrd2
  go_wp2
  go_ret
  exact RetD.mk ⟨x, rfl, HX.out⟩ hs2 (by omega) (hS0.trans hS)

set_option maxRecDepth 10000 in
set_option maxHeartbeats 4000000 in
theorem drawMode (g : Nat) (P n : Int) (w : World) (hs : Src g P w) (hP : P ≤ 900000) (hn : n ≤ 1000000) :
    Calls Try.prog 50 #[.pointer (some ⟨g, 0, none⟩), .int .i64 n] w (RetD g P 5 NumD w) := by
  go_enter Try.func50, Try.ntmps50
  go_wp2_with fail
  refine (odd_any g P n _ hs (by omega) hn).mono ?_
  rintro e w1 ⟨v, rfl, ⟨b, rfl, _⟩, hs1, hS1⟩
  have hne : w1.heap.size ≠ g := by have := hs1.lt; omega
  cases b with
  | true =>
    have hrd : Rd 1 encInt1 (w1.alloc (.cells #[.int .i64 (-1), .int .i64 1024] 3)) (some ⟨w1.heap.size, 0, none⟩) [-1, 1024] := rd_lit_new _ (fun _ => rfl) rfl
    have hE := (Ext.refl w1).alloc (.cells #[.int .i64 (-1), .int .i64 1024] 3)
    have hll : ([-1, 1024] : List Int).length = 2 := rfl
    go_wp2_with fail
    generalize ([-1, 1024] : List Int) = L at *
    have hs2 := hs1.ext hE
    have hS2 := hS1.ext hE
    generalize (w1.alloc (.cells #[.int .i64 (-1), .int .i64 1024] 3)) = w2 at *
    refine (pick_any g (P + 1) 2 _ hs2 (by omega)).mono ?_
    rintro e w3 ⟨v, rfl, ⟨i, rfl, x0, x1, _⟩, hs3, hS⟩
    have hrd2 := hrd.step hS (fun _ b off h => by cases h; exact hne)
    replace x1 := x1 (by omega)
    obtain ⟨k, rfl⟩ : ∃ k : Nat, i = k := ⟨i.toNat, by omega⟩
    obtain ⟨x, hx, hcell⟩ := lit_at hrd2 (k := k) (by omega)
    have c0 : w3.cell? ⟨w1.heap.size, k, none⟩ = some (.int .i64 x) := by have := hcell 0 _ rfl; simpa using this
    clear hcell hx hrd hrd2
    go_wp2
    go_ret
    exact RetD.mk ⟨x, rfl⟩ hs3 (by omega) (hS2.trans hS)
  | false =>
    go_wp2_with fail
    refine (pick_any g (P + 1) 256 _ hs1 (by omega)).mono ?_
    rintro e w2 ⟨v, rfl, ⟨a, rfl, a0, a1, _⟩, hs2, hS2⟩
    replace a1 := a1 (by omega)
    have ha : IntKind.i64.wrap (a * 4) = a * 4 := IntWalk.i64_in _ (by omega)
    go_wp2_with fail
    refine (pick_any g (P + 1 + 1) 256 _ hs2 (by omega)).mono ?_
    rintro e w3 ⟨v, rfl, ⟨b, rfl, b0, b1, _⟩, hs3, hS3⟩
    have hne3 : w3.heap.size ≠ g := by have := hs3.lt; omega
    have hrd : Rd 1 encInt1 (w3.alloc (.cells #[.int .i64 511, .int .i64 493, .int .i64 448, .int .i64 420, .int .i64 1023, .int .i64 (a * 4), .int .i64 b] 3)) (some ⟨w3.heap.size, 0, none⟩) [511, 493, 448, 420, 1023, a * 4, b] := rd_lit_new _ (fun _ => rfl) rfl
    have hE := (Ext.refl w3).alloc (.cells #[.int .i64 511, .int .i64 493, .int .i64 448, .int .i64 420, .int .i64 1023, .int .i64 (a * 4), .int .i64 b] 3)
    have hll : ([511, 493, 448, 420, 1023, a * 4, b] : List Int).length = 7 := rfl
    go_wp2_with fail
    generalize ([511, 493, 448, 420, 1023, a * 4, b] : List Int) = L at *
    have hs4 := hs3.ext hE
    have hS4 := ((hS1.trans hS2).trans hS3).ext hE
    generalize (w3.alloc (.cells #[.int .i64 511, .int .i64 493, .int .i64 448, .int .i64 420, .int .i64 1023, .int .i64 (a * 4), .int .i64 b] 3)) = w4 at *
    refine (pick_any g (P + 1 + 1 + 1) 7 _ hs4 (by omega)).mono ?_
    rintro e w5 ⟨v, rfl, ⟨i, rfl, x0, x1, _⟩, hs5, hS⟩
    have hrd2 := hrd.step hS (fun _ b off h => by cases h; exact hne3)
    replace x1 := x1 (by omega)
    obtain ⟨k, rfl⟩ : ∃ k : Nat, i = k := ⟨i.toNat, by omega⟩
    obtain ⟨x, hx, hcell⟩ := lit_at hrd2 (k := k) (by omega)
    have c0 : w5.cell? ⟨w3.heap.size, k, none⟩ = some (.int .i64 x) := by have := hcell 0 _ rfl; simpa using this
    clear hcell hx hrd hrd2
    go_wp2
    go_ret
    exact RetD.mk ⟨x, rfl⟩ hs5 (by omega) (hS4.trans hS)
end Go.Proofs.Ytnibbldfohbfkaa
