/- Parts of one proof: each says below what it proves and on what conditions. -/
import Derived.Test.YtnibbldfohbfkaaGreatDoorMy17
set_option linter.unusedVariables false
set_option linter.unusedSimpArgs false
/- Trees: contracts of the program's MakeNode, LinkName. Condition: texts of at most 2^20, rows of at most 10^6; the library's own variable holds some number. -/
namespace Go.Proofs.YtnibbldfohbfkaaGreatDoor
open Go.RowKit
theorem RetMk.nil {w w1 : World} {R : List Nd × Int} {f : Int} (hE : Ext w w1) (hR : R = ([], f)) : RetMk R w (.returned (.tuple #[.slice none 0 0, .int .i64 f])) w1 := by
 have S0 := (Sep.of_ext hE).nil 89 7 encNc
 have S1 := S0.gPure (P := pinNd) (T := ([] : List Nd)) 0 rfl rfl (fun k s t hs => by simp at hs) (fun s hs => by simp at hs)
 exact ⟨_, [], by rw [hR], by rw [hR]; exact S1⟩
def VIm (wR : World) (T : List Nd) (bt off nT cap n Bc : Nat) (fo : Bool) (ca md : Int) (x : Nd) : Nat → Value → World → Prop := fun i v wv => match i with
 | 0 => v = .slice (some ⟨bt, off, none⟩) nT cap
 | 1 => ∃ vs, Sep wR wv [plNd v vs T]
 | 2 => v = .bool fo
 | 3 => v = .pointer (some ⟨Bc, 1, none⟩)
 | 4 => v = .int .i64 ca
 | 5 => v = .slice (some ⟨bt, off, none⟩) nT cap
 | 6 => v = .int .i64 n
 | 7 => v = .pointer (some ⟨bt, off + n * 7, none⟩)
 | 8 => v = .pointer (some ⟨bt, off + n * 7 + 2, none⟩)
 | 9 => v = .int .i64 x.grp
 | 10 => v = .int .i64 md
 | 11 => v = .agg #[.bool fo, .int .i64 ca, .int .i64 x.grp, .int .i64 md, .string ⟨#[]⟩, .slice none 0 0, .slice none 0 0]
 | 12 => ∃ g, v = .slice (some ⟨g, 0, none⟩) 1 1 ∧ wv.heap[g]? = some (.cells #[.bool fo, .int .i64 ca, .int .i64 x.grp, .int .i64 md, .string ⟨#[]⟩, .slice none 0 0, .slice none 0 0] 89)
 | 13 => ∃ vs, Sep wR wv [plNd v vs (T ++ [newNd fo ca x.grp md])]
 | _ => True
theorem VIm.ext {wR : World} {T : List Nd} {bt off nT cap n Bc : Nat} {fo : Bool} {ca md : Int} {x : Nd} (i : Nat) (v : Value) (w1 w2 : World) (h : VIm wR T bt off nT cap n Bc fo ca md x i v w1) (hE : Ext w1 w2) : VIm wR T bt off nT cap n Bc fo ca md x i v w2 := by
 match i with
 | 0 | 2 | 3 | 4 | 5 | 6 | 7 | 8 | 9 | 10 | 11 => exact h
 | 1 => obtain ⟨vs, h1⟩ := h; exact ⟨vs, h1.step hE⟩
 | 12 => obtain ⟨g, h1, h2⟩ := h; exact ⟨g, h1, heapx hE h2⟩
 | 13 => obtain ⟨vs, h1⟩ := h; exact ⟨vs, h1.step hE⟩
 | (n + 14) => trivial
set_option maxRecDepth 10000 in
set_option maxHeartbeats 16000000 in
theorem implMakeNode (a : Option Addr) (cap : Nat) (T : List Nd) (c : Cr) (s : ByteArray) (fo : Bool) (md : Int) (w : World) (hs : s.size ≤ 1048576) (hl : T.length ≤ 1048576) (hT : ∀ x ∈ T, SmN 1048576 x) (hNB : NB 1000000 T) (hc : RdN w a T) (hm : MaxG w) :
  Calls Tryz.prog 79 #[.slice a T.length cap, .agg #[.int .i64 c.r, .int .i64 c.a, .int .i64 c.s, .int .i64 c.g], .string s, .bool fo, .int .i64 md] w (RetMk (makeNode T c s fo md) w) := by
 obtain ⟨cr, ca, cs, cg⟩ := c
 have HT := Lib.hid hT
 have HM := Lib.hid hm
 have HNB := Lib.hid hNB
 clear hT hm hNB
 dsimp only
 go_enter Tryz.func79, Tryz.ntmps79
 have S := Sep.start w
 replace S : Sep w (w.alloc (.cells #[.int .i64 cr, .int .i64 ca, .int .i64 cs, .int .i64 cg] 29)) [plBox w.heap.size #[.int .i64 cr, .int .i64 ca, .int .i64 cs, .int .i64 cg] 29] := S.alloc_at (by simp) _ _
 go_wp2_with fail
 generalize (w.alloc (.cells #[.int .i64 cr, .int .i64 ca, .int .i64 cs, .int .i64 cg] 29)) = w1 at *
 refine (implPlaceFor a cap T ⟨cr, ca, cs, cg⟩ s w1 hs hl HT.out (hc.ext S.ext) (HM.out.ext S.ext)).mono ?_
 rintro e w2 ⟨rfl, hE⟩
 replace S := S.step hE
 clear hE
 cases hM : inB md 0 1023 with
 | false =>
  have HMo := Lib.hid hM
  have HX := Lib.hid (mk_mode (T := T) (c := ⟨cr, ca, cs, cg⟩) (s := s) (fo := fo) hM)
  clear hM
  go_wp2_with (go_at_call 114; refine (isMode_is HMo.out _).mono ?_; rintro e w' ⟨rfl, rfl⟩)
  go_ret2
  exact RetMk.nil S.ext HX.out
 | true =>
  have HMo := Lib.hid hM
  clear hM
  rcases place_cases T ⟨cr, ca, cs, cg⟩ s with ⟨n, x, hp, hx, hTr⟩ | ⟨f, hf, hp⟩
  rotate_left
  ·have HX := Lib.hid (mk_fault (T := T) (c := ⟨cr, ca, cs, cg⟩) (s := s) (fo := fo) HMo.out (by rw [hp]; exact hf))
   rw [hp] at HX ⊢
   have tf : (f == 0) = false := by simpa using hf
   clear hp hf
   dsimp only at HX ⊢
   go_wp2_with (go_at_call 114; refine (isMode_is HMo.out _).mono ?_; rintro e w' ⟨rfl, rfl⟩)
   go_ret2
   exact RetMk.nil S.ext HX.out
  ·have Hx := Lib.hid hx
   have hn := (List.getElem?_eq_some_iff.1 hx).1
   have hmax := hTr.max
   by_cases h16 : T.length = 16
   ·have HX := Lib.hid (mk_full (c := ⟨cr, ca, cs, cg⟩) (s := s) (fo := fo) HMo.out hp h16)
    have t16 : (T.length : Int) = 16 := by omega
    rw [hp]
    clear hp hx
    dsimp only
    go_wp2_with (go_at_call 114; refine (isMode_is HMo.out _).mono ?_; rintro e w' ⟨rfl, rfl⟩)
    go_ret2
    exact RetMk.nil S.ext HX.out
   ·have HX := Lib.hid (mk_ok (c := ⟨cr, ca, cs, cg⟩) (s := s) (fo := fo) HMo.out hp h16 hx)
    have t16 : ((T.length : Int) == 16) = false := by simp; omega
    rw [hp]
    have HN := Lib.hid (hTr.nodes n x hx)
    have hNl := HNB.out x (List.mem_of_getElem? hx)
    clear hp hTr h16 hx
    dsimp only
    go_wp2_with (first | (go_at_call 114; refine (isMode_is HMo.out _).mono ?_; rintro e w' ⟨rfl, rfl⟩) | fail)
    refine (implAboveOf s w2 hs (HM.out.ext S.ext)).mono ?_
    rintro e w3 ⟨rfl, hE⟩
    replace S := S.step hE
    clear hE
    have i1 : (n : Int) < (T.length : Int) := by omega
    go_upto_region 9 with fail
    have hcR : RdN (World.drew w3) a T := hc.ext (S.ext.drew)
    obtain ⟨x', bt, off, an, cn, ak, ck, hx', rfl, _, _, d2, _⟩ := atNd hcR hn
    obtain rfl : x = x' := Option.some.inj (Hx.out.symm.trans hx')
    have hgrp : (World.drew w3).cell? ⟨bt, off + n * 7 + 2, none⟩ = some (.int .i64 x.grp) := d2
    have hbc1 : (World.drew w3).cell? ⟨w.heap.size, 1, none⟩ = some (.int .i64 ca) := (bx (S.drew.box 0 rfl) 1 rfl).1
    obtain ⟨wR, hwR⟩ : ∃ wR, wR = w3 := ⟨_, rfl⟩
    subst hwR
    have HS := Lib.hid S
    clear hx' d2 S
    refine wp_region_c (V := VIm (World.drew wR) T bt off T.length cap n w.heap.size fo ca md x) (fun wv => Ext (World.drew wR) wv) (fun i => if i = 1 then some 13 else if i = 12 then some 13 else none) [] 14 0 rfl (by decide) (by kernel_rfl) (by kernel_rfl) (by kernel_rfl) (by kernel_rfl) (Ext.refl _) (fun r hr => by omega) ?_ ?_
    ·intro i o hi ho vz w4 hvl hE hd hrest
     match vz, hvl with
     | [y0, y1, y2, y3, y4, y5, y6, y7, y8, y9, y10, y11, y12, y13], _ =>
     rcases (show i = 0 ∨ i = 1 ∨ i = 2 ∨ i = 3 ∨ i = 4 ∨ i = 5 ∨ i = 6 ∨ i = 7 ∨ i = 8 ∨ i = 9 ∨ i = 10 ∨ i = 11 ∨ i = 12 ∨ i = 13 by omega) with rfl | rfl | rfl | rfl | rfl | rfl | rfl | rfl | rfl | rfl | rfl | rfl | rfl | rfl
     all_goals
      simp only [List.getElem?_cons_zero, List.getElem?_cons_succ, Option.some.injEq] at ho
      subst ho
     ·clear hd hrest
      simp [putAll, Act.put]
      go_wp2
      exact OneC.mk (VIm.ext) rfl rfl hE (Ext.refl _)
     ·have q0 : y0 = .slice (some ⟨bt, off, none⟩) T.length cap := hd ⟨0, .data⟩ (by simp) rfl (.inl rfl)
      subst q0
      have HC := Lib.hid (implCopy (some ⟨bt, off, none⟩) cap T w4 hl HT.out (hcR.ext hE))
      clear hd hrest
      simp [putAll, Act.put]
      go_wp2_with fail
      refine HC.out.mono ?_
      rintro e w5 ⟨u5, vs5, rfl, S5⟩
      have S6 := S5.since hE
      have hE5 := S5.ext
      clear HC S5
      go_wp2
      exact OneC.mk (VIm.ext) rfl ⟨_, S6⟩ (hE.trans hE5) hE5
     ·clear hd hrest
      simp [putAll, Act.put]
      go_wp2
      exact OneC.mk (VIm.ext) rfl rfl hE (Ext.refl _)
     ·clear hd hrest
      simp [putAll, Act.put]
      go_wp2
      exact OneC.mk (VIm.ext) rfl rfl hE (Ext.refl _)
     ·have q0 : y3 = .pointer (some ⟨w.heap.size, 1, none⟩) := hd ⟨3, .data⟩ (by simp) rfl (.inl rfl)
      have c1 := cell_ext hE hbc1
      subst q0
      clear hd hrest
      simp [putAll, Act.put]
      go_wp2
      exact OneC.mk (VIm.ext) rfl rfl hE (Ext.refl _)
     ·clear hd hrest
      simp [putAll, Act.put]
      go_wp2
      exact OneC.mk (VIm.ext) rfl rfl hE (Ext.refl _)
     ·clear hd hrest
      simp [putAll, Act.put]
      go_wp2
      exact OneC.mk (VIm.ext) rfl rfl hE (Ext.refl _)
     ·have q0 : y5 = .slice (some ⟨bt, off, none⟩) T.length cap := hd ⟨5, .data⟩ (by simp) rfl (.inl rfl)
      have q1 : y6 = .int .i64 n := hd ⟨6, .data⟩ (by simp) rfl (.inl rfl)
      subst q0 q1
      clear hd hrest
      simp [putAll, Act.put]
      go_wp2
      exact OneC.mk (VIm.ext) rfl rfl hE (Ext.refl _)
     ·have q0 : y7 = .pointer (some ⟨bt, off + n * 7, none⟩) := hd ⟨7, .data⟩ (by simp) rfl (.inl rfl)
      subst q0
      clear hd hrest
      simp [putAll, Act.put]
      go_wp2
      exact OneC.mk (VIm.ext) rfl rfl hE (Ext.refl _)
     ·have q0 : y8 = .pointer (some ⟨bt, off + n * 7 + 2, none⟩) := hd ⟨8, .data⟩ (by simp) rfl (.inl rfl)
      have c1 := cell_ext hE hgrp
      subst q0
      clear hd hrest
      simp [putAll, Act.put]
      go_wp2
      exact OneC.mk (VIm.ext) rfl rfl hE (Ext.refl _)
     ·clear hd hrest
      simp [putAll, Act.put]
      go_wp2
      exact OneC.mk (VIm.ext) rfl rfl hE (Ext.refl _)
     ·have q0 : y2 = .bool fo := hd ⟨2, .data⟩ (by simp) rfl (.inl rfl)
      have q1 : y4 = .int .i64 ca := hd ⟨4, .data⟩ (by simp) rfl (.inl rfl)
      have q2 : y9 = .int .i64 x.grp := hd ⟨9, .data⟩ (by simp) rfl (.inl rfl)
      have q3 : y10 = .int .i64 md := hd ⟨10, .data⟩ (by simp) rfl (.inl rfl)
      subst q0 q1 q2 q3
      clear hd hrest
      simp [putAll, Act.put]
      go_wp2
      exact OneC.mk (VIm.ext) rfl rfl hE (Ext.refl _)
     ·have q0 : y11 = .agg #[.bool fo, .int .i64 ca, .int .i64 x.grp, .int .i64 md, .string ⟨#[]⟩, .slice none 0 0, .slice none 0 0] := hd ⟨11, .data⟩ (by simp) rfl (.inl rfl)
      subst q0
      clear hd hrest
      simp [putAll, Act.put]
      go_wp2
      exact OneC.mk (VIm.ext) rfl ⟨_, rfl, heap_alloc_new w4 _⟩ (hE.alloc _) ((Ext.refl _).alloc _)
     ·obtain ⟨vs1, S1⟩ : ∃ vs, Sep (World.drew wR) w4 [plNd y1 vs T] := hd ⟨1, .data⟩ (by simp) rfl (.inr rfl)
      obtain ⟨g12, q12, hh12⟩ : ∃ g, y12 = .slice (some ⟨g, 0, none⟩) 1 1 ∧ w4.heap[g]? = some (.cells #[.bool fo, .int .i64 ca, .int .i64 x.grp, .int .i64 md, .string ⟨#[]⟩, .slice none 0 0, .slice none 0 0] 89) := hd ⟨12, .data⟩ (by simp) rfl (.inr rfl)
      have S5 : Sep (World.drew wR) w4 [pinNd.one (⟨newNd fo ca x.grp md, none, 0, none, 0⟩ : Nc) (newNd fo ca x.grp md), plNd y1 vs1 T] := S1.cons (p := pinNd.one (⟨newNd fo ca x.grp md, none, 0, none, 0⟩ : Nc) (newNd fo ca x.grp md)) (Ext.refl w4) (root_pin _ rfl rfl w4) (fun b hb => absurd hb (root_own _ b))
      have hrow := S5.gRow 1 rfl
      have hvl := plG_len (S5.at_ 1 rfl)
      have hv16 : vs1.length ≤ 16 := by omega
      have hrd : Rd 7 encNc w4 (some ⟨g12, 0, none⟩) [(⟨newNd fo ca x.grp md, none, 0, none, 0⟩ : Nc)] := rd_lit [(⟨newNd fo ca x.grp md, none, 0, none, 0⟩ : Nc)] encNc_len hh12 rfl
      have hb1 : ∀ b, y1.ownBlock = some b → (World.drew wR).heap.size ≤ b := fun b hb => S1.base _ (List.mem_cons_self ..) b (.inl hb)
      obtain ⟨ua, uc, hu, hucap, _, _⟩ := view_owns encNc_len hrow
      subst q12
      clear hd hrest S1 hvl
      subst hu
      simp [putAll, Act.put]
      refine wpList_append_b rfl _ _ 28 rfl (World.drew wR).heap.size 89 _ 7 _ Tryz.underlying28 infoNd rfl (by decide) encNc_len encNc_one _ vs1.length vs1 rfl hrow rfl (some ⟨g12, 0, none⟩) 1 1 [(⟨newNd fo ca x.grp md, none, 0, none, 0⟩ : Nc)] rfl rfl hrd (by omega) (by omega) hE.size ?_
      intro v9 w9 ho9 hgr hblk
      have S6 : Sep (World.drew wR) w9 [plNd v9 (vs1 ++ [(⟨newNd fo ca x.grp md, none, 0, none, 0⟩ : Nc)]) (T ++ [(newNd fo ca x.grp md)])] := S5.gPush 1 0 rfl rfl (by decide) hgr ho9 hblk
      have hE9 := S6.ext
      have hch : Chg (fun b => (Value.slice ua vs1.length uc).ownBlock = some b) w4 w9 := Chg.of_grown hgr
      clear ho9 hblk hrow hrd S5 hgr
      go_wp2
      refine ⟨rfl, _, rfl, ⟨_, S6⟩, hE9, fun j u hj hne hcon hnd hnc hv => ?_⟩
      match j with
      | 0 | 2 | 3 | 4 | 5 | 6 | 7 | 8 | 9 | 10 | 11 => exact hv
      | 1 => exact absurd rfl hcon
      | 12 => exact absurd rfl hcon
      | 13 => exact absurd rfl hne
      | (zz + 14) => trivial
    ·intro vz wE hvl hE hV _
     match vz, hvl with
     | [y0, y1, y2, y3, y4, y5, y6, y7, y8, y9, y10, y11, y12, y13], _ =>
     obtain ⟨vs2, S2⟩ : ∃ vs, Sep (World.drew wR) wE [plNd y13 vs (T ++ [newNd fo ca x.grp md])] := hV 13 (by omega) rfl
     have S := HS.out.drew.call S2
     clear hV HS S2 hgrp hbc1
     have hlT : (T ++ [newNd fo ca x.grp md]).length = T.length + 1 := by simp
     have hxT : (T ++ [newNd fo ca x.grp md])[n]? = some x := by rw [List.getElem?_append_left hn]; exact Hx.out
     obtain ⟨_, g, cap2, hu, hcap2, _⟩ := S.ndAt 0 rfl hxT
     rw [hlT] at hu hcap2
     subst hu
     simp only [putAll, Act.put, List.take_succ_cons, List.take_zero, List.drop_succ_cons, List.drop_zero]
     simp
     have HXT := Lib.hid hxT
     have HLT := Lib.hid hlT
     have i2 : (n : Int) < ((T.length : Int) + 1) := by omega
     have HS := Lib.hid S
     clear hxT hlT S
     go_wp2_with fail
     refine (implAddName HS.out 0 rfl HXT.out T.length HN.out hNl (lastOf s) (T.length : Int)).mono ?_
     rintro e w5 ⟨rfl, vs5, S5⟩
     have HS5 := Lib.hid S5
     clear S5 HS
     go_wp2
     go_ret2
     refine ⟨_, vs5, by rw [HX.out]; rfl, ?_⟩
     rw [HX.out]
     have h1 := HS5.out.drop 1
     have e1 : (T ++ [newNd fo ca x.grp md]).set n (putNd x (lastOf s) (T.length : Int)) = T.set n (putNd x (lastOf s) (T.length : Int)) ++ [newNd fo ca x.grp md] := List.set_append_left _ _ hn
     rw [e1] at h1
     exact h1
set_option maxRecDepth 10000 in
set_option maxHeartbeats 16000000 in
theorem implLinkName (a : Option Addr) (cap : Nat) (T : List Nd) (c : Cr) (src dst : ByteArray) (w : World) (hs : src.size ≤ 1048576) (hd : dst.size ≤ 1048576) (hl : T.length ≤ 1048576) (hT : ∀ x ∈ T, SmN 1048576 x) (hNB : NB 1000000 T) (hc : RdN w a T) (hm : MaxG w) :
  Calls Tryz.prog 84 #[.slice a T.length cap, .agg #[.int .i64 c.r, .int .i64 c.a, .int .i64 c.s, .int .i64 c.g], .string src, .string dst] w (RetMk (linkName T c src dst) w) := by
 obtain ⟨cr, ca, cs, cg⟩ := c
 have HT := Lib.hid hT
 have HM := Lib.hid hm
 have HNB := Lib.hid hNB
 clear hT hm hNB
 dsimp only
 go_enter Tryz.func84, Tryz.ntmps84
 have S := Sep.start w
 replace S : Sep w (w.alloc (.cells #[.int .i64 cr, .int .i64 ca, .int .i64 cs, .int .i64 cg] 29)) [plBox w.heap.size #[.int .i64 cr, .int .i64 ca, .int .i64 cs, .int .i64 cg] 29] := S.alloc_at (by simp) _ _
 go_wp2_with fail
 generalize (w.alloc (.cells #[.int .i64 cr, .int .i64 ca, .int .i64 cs, .int .i64 cg] 29)) = w1 at *
 refine (implFindNode a cap T ⟨cr, ca, cs, cg⟩ src w1 hs hl HT.out (hc.ext S.ext) (HM.out.ext S.ext)).mono ?_
 rintro e w2 ⟨rfl, hE⟩
 replace S := S.step hE
 clear hE
 rcases find_cases T ⟨cr, ca, cs, cg⟩ src with ⟨m, hF, hmT, hTr, _⟩ | ⟨f, hf, hF⟩
 rotate_left
 ·have HX := Lib.hid (lk_fault (dst := dst) (show (findNode T ⟨cr, ca, cs, cg⟩ src).2 ≠ 0 by rw [hF]; exact hf))
  rw [hF] at HX ⊢
  have tf : (f == 0) = false := by simpa using hf
  clear hF hf
  dsimp only at HX ⊢
  go_wp2
  go_ret2
  exact RetMk.nil S.ext HX.out
 ·obtain ⟨z, bt, off, zan, zcn, zak, zck, hz, rfl, d0, _⟩ := atNd hc hmT
  have hE0 := S.ext
  have e0 := cell_ext hE0 d0
  have i1 : (m : Int) < (T.length : Int) := by omega
  cases hzf : z.fold with
  | true =>
   have HX := Lib.hid (lk_dir (dst := dst) hF hz hzf)
   rw [hzf] at e0
   rw [hF]
   clear hF hz hzf d0
   dsimp only
   go_wp2
   go_ret2
   exact RetMk.nil S.ext HX.out
  | false =>
   have HZ := Lib.hid (And.intro hF (And.intro hz hzf))
   rw [hzf] at e0
   rw [hF]
   clear hF hz hzf d0
   dsimp only
   obtain ⟨⟨bc0, bf0⟩, ⟨bc1, bf1⟩, ⟨bc2, bf2⟩, ⟨bc3, bf3⟩⟩ := bx4 (S.box 0 rfl)
   go_wp2_with fail
   clear bc0 bf0 bc1 bf1 bc2 bf2 bc3 bf3
   refine (implPlaceFor _ cap T ⟨cr, ca, cs, cg⟩ dst w2 hd hl HT.out (hc.ext S.ext) (HM.out.ext S.ext)).mono ?_
   rintro e w3 ⟨rfl, hE⟩
   replace S := S.step hE
   clear hE
   clear e0
   rcases place_cases T ⟨cr, ca, cs, cg⟩ dst with ⟨n, x, hp, hx, _⟩ | ⟨f, hf, hp⟩
   rotate_left
   ·have HX := Lib.hid (lk_place HZ.out.1 HZ.out.2.1 HZ.out.2.2 (show (placeFor T ⟨cr, ca, cs, cg⟩ dst).2 ≠ 0 by rw [hp]; exact hf))
    rw [hp] at HX ⊢
    have tf : (f == 0) = false := by simpa using hf
    clear hp hf
    dsimp only at HX ⊢
    go_wp2
    go_ret2
    exact RetMk.nil S.ext HX.out
   ·have HX := Lib.hid (lk_ok HZ.out.1 HZ.out.2.1 HZ.out.2.2 hp hx)
    have Hx := Lib.hid hx
    have hn := (List.getElem?_eq_some_iff.1 hx).1
    have HN := Lib.hid (hTr.nodes n x hx)
    have hNl := HNB.out x (List.mem_of_getElem? hx)
    rw [hp]
    clear hp hx
    dsimp only
    go_wp2_with fail
    refine (implAboveOf dst w3 hd (HM.out.ext S.ext)).mono ?_
    rintro e w4 ⟨rfl, hE⟩
    replace S := S.step hE
    clear hE
    go_wp2_with fail
    refine (implCopy _ cap T w4 hl HT.out (hc.ext S.ext)).mono ?_
    rintro e w5 ⟨u, vs, rfl, S5⟩
    replace S : Sep w w5 [plNd u vs T, plBox w.heap.size #[.int .i64 cr, .int .i64 ca, .int .i64 cs, .int .i64 cg] 29] := S.call S5
    clear S5
    obtain ⟨_, g, cap2, rfl, hcap2, _⟩ := S.ndAt 0 rfl Hx.out
    have i2 : (n : Int) < (T.length : Int) := by omega
    have HS := Lib.hid S
    clear S
    go_wp2_with fail
    refine (implAddName HS.out 0 rfl Hx.out T.length HN.out hNl (lastOf dst) (m : Int)).mono ?_
    rintro e w6 ⟨rfl, vs6, S6⟩
    have HS6 := Lib.hid (S6.drop 1)
    clear S6 HS
    go_wp2
    go_ret2
    refine ⟨_, vs6, by rw [HX.out]; rfl, ?_⟩
    rw [HX.out]
    exact HS6.out
set_option maxRecDepth 10000 in
set_option maxHeartbeats 8000000 in
theorem implFileAt (a : Option Addr) (cap : Nat) (T : List Nd) (c : Cr) (s : ByteArray) (want : Int) (w : World) (hs : s.size ≤ 1048576) (hl : T.length ≤ 1048576) (hT : ∀ x ∈ T, SmN 1048576 x) (hc : RdN w a T) (hwant : 1 ≤ want ∧ want ≤ 4) (hm : MaxG w) :
  Calls Tryz.prog 120 #[.slice a T.length cap, .agg #[.int .i64 c.r, .int .i64 c.a, .int .i64 c.s, .int .i64 c.g], .string s, .int .i64 want] w fun e w' => e = .returned (.tuple #[.int .i64 (gateAt T c s false want).1, .int .i64 (gateAt T c s false want).2]) ∧ Ext w w' := by
 obtain ⟨cr, ca, cs, cg⟩ := c
 have HT := Lib.hid hT
 clear hT
 have HM := Lib.hid hm
 clear hm
 dsimp only
 go_enter Tryz.func120, Tryz.ntmps120
 have S := Sep.start w
 replace S : Sep w (w.alloc (.cells #[.int .i64 cr, .int .i64 ca, .int .i64 cs, .int .i64 cg] 29)) [plBox w.heap.size #[.int .i64 cr, .int .i64 ca, .int .i64 cs, .int .i64 cg] 29] := S.alloc_at (by simp) _ _
 go_wp2_with fail
 generalize (w.alloc (.cells #[.int .i64 cr, .int .i64 ca, .int .i64 cs, .int .i64 cg] 29)) = w1 at *
 refine (implFindNode a cap T ⟨cr, ca, cs, cg⟩ s w1 hs hl HT.out (hc.ext S.ext) (HM.out.ext S.ext)).mono ?_
 rintro e w2 ⟨rfl, hE⟩
 replace S := S.step hE
 clear hE
 rcases find_cases T ⟨cr, ca, cs, cg⟩ s with ⟨m, hF, hm_, hTr, hCo⟩ | ⟨f, hf, hF⟩
 rotate_left
 ·have HG := Lib.hid (ga_fault (dir := false) (want := want) hf hF)
  have HX := Lib.hid (HG.out)
  rw [hF]
  have tf : (f == 0) = false := by simpa using hf
  clear hF hf HG
  dsimp only
  go_wp2
  go_ret2
  exact ⟨by rw [HX.out]; rfl, S.ext⟩
 ·obtain ⟨x, b', off, an, cn, ak, ck, hx, rfl, c0, c1, c2, c3, c4, c5, c6, hcn, hck, hrn, hrk⟩ := atNd hc hm_
  have Hx := Lib.hid hx
  have HN := Lib.hid (hTr.nodes m x hx)
  have HCo := Lib.hid hCo
  have HF := Lib.hid hF
  rw [hF]
  have i1 : (m : Int) < (T.length : Int) := by omega
  have hE := S.ext
  have d0 := cell_ext hE c0
  have d1 := cell_ext hE c1
  have d2 := cell_ext hE c2
  have d3 := cell_ext hE c3
  have d4 := cell_ext hE c4
  have d5 := cell_ext hE c5
  have d6 := cell_ext hE c6
  have Hrn := Lib.hid hrn
  have hNl : x.N.length ≤ 1048576 := (HT.out x (List.mem_of_getElem? hx)).2.1
  have HNl := Lib.hid hNl
  clear hx c0 c1 c2 c3 c4 c5 c6 hcn hck hrn hrk hE hF hTr hCo hNl
  dsimp only
  cases hfo : x.fold with
  | true =>
   have HG := Lib.hid (ga_kind (dir := false) (want := want) HF.out Hx.out (by simp [hfo]))
   have HX := Lib.hid (HG.out)
   rw [hfo] at d0
   clear hfo HG
   go_wp2
   go_ret2
   exact ⟨by rw [HX.out]; rfl, S.ext⟩
  | false =>
   have Hfo := Lib.hid hfo
   obtain ⟨⟨bc0, bf0⟩, ⟨bc1, bf1⟩, ⟨bc2, bf2⟩, ⟨bc3, bf3⟩⟩ := bx4 (S.box 0 rfl)
   have HMy : Hid (∀ s : ExtW w2, Calls Tryz.prog 128 #[.agg #[.bool false, .int .i64 x.own, .int .i64 x.grp, .int .i64 x.mode, .string x.text, .slice an x.N.length cn, .slice ak x.K.length ck], .agg #[.int .i64 cr, .int .i64 ca, .int .i64 cs, .int .i64 cg], .int .i64 want] s.x fun e w'' => e = .returned (.bool (Cr.may ⟨cr, ca, cs, cg⟩ x want)) ∧ ∃ s' : ExtW w2, w'' = s'.x) := Lib.hid (fun s => by
    have hC := implAllows ⟨cr, ca, cs, cg⟩ want x T.length an ak cn ck s.x HN.out HCo.out hwant
    rw [hfo] at hC
    exact Calls.at_e hC)
   rw [hfo] at d0
   clear hfo
   go_wp2_with fail
   have q0 := ExtW.cell d0
   have q1 := ExtW.cell d1
   have q2 := ExtW.cell d2
   have q3 := ExtW.cell d3
   have q4 := ExtW.cell d4
   have q5 := ExtW.cell d5
   have q6 := ExtW.cell d6
   have bl := ExtW.lt d0
   have r0 := ExtW.cell bc0
   have r1 := ExtW.cell bc1
   have r2 := ExtW.cell bc2
   have r3 := ExtW.cell bc3
   have br := ExtW.lt bc0
   have S9 := Lib.hid S
   clear d0 d1 d2 d3 d4 d5 d6 bc0 bc1 bc2 bc3 bf0 bf1 bf2 bf3 S
   cases hmay : Cr.may ⟨cr, ca, cs, cg⟩ x want with
   | false =>
    have HG := Lib.hid (ga_may (dir := false) (want := want) HF.out Hx.out Hfo.out hmay)
    have HX := Lib.hid (HG.out)
    rw [hmay] at HMy
    clear hmay HG
    (refine wp_region_quiet_ext (by kernel_rfl) (by kernel_rfl) ?_; (repeat (go_big_quiet_step ((go_at_call 128; exact HMy.out _)))); refine wpQuiet_nil ?_; intro _ hw'; obtain ⟨sq, hw''⟩ := hw'; subst hw'')
    obtain ⟨w5, hw5⟩ := sq
    have HS5 := Lib.hid (S9.out.step hw5)
    clear q0 q1 q2 q3 q4 q5 q6 bl r0 r1 r2 r3 br S9 HMy
    go_wp2
    go_ret2
    exact ⟨by rw [HX.out]; rfl, HS5.out.ext⟩
   | true =>
    have HG := Lib.hid (ga_ok (dir := false) (want := want) HF.out Hx.out Hfo.out hmay)
    rw [hmay] at HMy
    clear hmay
    (refine wp_region_quiet_ext (by kernel_rfl) (by kernel_rfl) ?_; (repeat (go_big_quiet_step ((go_at_call 128; exact HMy.out _)))); refine wpQuiet_nil ?_; intro _ hw'; obtain ⟨sq, hw''⟩ := hw'; subst hw'')
    obtain ⟨w5, hw5⟩ := sq
    have p0 := q0 ⟨w5, hw5⟩
    have p1 := q1 ⟨w5, hw5⟩
    have p2 := q2 ⟨w5, hw5⟩
    have p3 := q3 ⟨w5, hw5⟩
    have p4 := q4 ⟨w5, hw5⟩
    have p5 := q5 ⟨w5, hw5⟩
    have p6 := q6 ⟨w5, hw5⟩
    have HS5 := Lib.hid (S9.out.step hw5)
    clear q0 q1 q2 q3 q4 q5 q6 bl r0 r1 r2 r3 br S9 HMy
    have HX := HG
    go_wp2
    go_ret2
    exact ⟨by rw [HX.out]; rfl, HS5.out.ext⟩
set_option maxRecDepth 10000 in
set_option maxHeartbeats 8000000 in
theorem implReadFile (a : Option Addr) (cap : Nat) (T : List Nd) (c : Cr) (s : ByteArray) (w : World) (hs : s.size ≤ 1048576) (hl : T.length ≤ 1048576) (hT : ∀ x ∈ T, SmN 1048576 x) (hc : RdN w a T) (hm : MaxG w) :
  Calls Tryz.prog 88 #[.slice a T.length cap, .agg #[.int .i64 c.r, .int .i64 c.a, .int .i64 c.s, .int .i64 c.g], .string s] w fun e w' => e = .returned (.tuple #[.string (readFile T c s).1, .int .i64 (readFile T c s).2]) ∧ Ext w w' := by
 obtain ⟨cr, ca, cs, cg⟩ := c
 have HT := Lib.hid hT
 have HM := Lib.hid hm
 clear hT hm
 dsimp only
 go_enter Tryz.func88, Tryz.ntmps88
 have S := Sep.start w
 replace S : Sep w (w.alloc (.cells #[.int .i64 cr, .int .i64 ca, .int .i64 cs, .int .i64 cg] 29)) [plBox w.heap.size #[.int .i64 cr, .int .i64 ca, .int .i64 cs, .int .i64 cg] 29] := S.alloc_at (by simp) _ _
 go_wp2_with fail
 generalize (w.alloc (.cells #[.int .i64 cr, .int .i64 ca, .int .i64 cs, .int .i64 cg] 29)) = w1 at *
 refine (implFileAt a cap T ⟨cr, ca, cs, cg⟩ s 4 w1 hs hl HT.out (hc.ext S.ext) (by omega) (HM.out.ext S.ext)).mono ?_
 rintro e w2 ⟨rfl, hE⟩
 replace S := S.step hE
 clear hE
 rcases gate_cases T ⟨cr, ca, cs, cg⟩ s false 4 with ⟨n, x, hG, hx, _, _⟩ | ⟨f, hf, hG⟩
 rotate_left
 ·have HX := Lib.hid (rf_bad hf hG)
  rw [hG]
  have tf : (f == 0) = false := by simpa using hf
  clear hG hf
  dsimp only
  go_wp2
  go_ret2
  exact ⟨by rw [HX.out]; rfl, S.ext⟩
 ·have HX := Lib.hid (rf_ok hG hx)
  obtain ⟨x', b', off, an, cn, ak, ck, hx', rfl, _, _, _, _, c4, _⟩ := atNd hc (List.getElem?_eq_some_iff.1 hx).1
  obtain rfl : x = x' := Option.some.inj (hx.symm.trans hx')
  have d4 := cell_ext S.ext c4
  have i1 : (n : Int) < (T.length : Int) := by have := (List.getElem?_eq_some_iff.1 hx).1; omega
  rw [hG]
  clear hG hx hx' c4
  dsimp only
  go_wp2
  go_ret2
  exact ⟨by rw [HX.out]; rfl, S.ext⟩
set_option maxRecDepth 10000 in
set_option maxHeartbeats 8000000 in
theorem implWriteFile (a : Option Addr) (cap : Nat) (T : List Nd) (c : Cr) (s : ByteArray) (t : ByteArray) (w : World) (hs : s.size ≤ 1048576) (hl : T.length ≤ 1048576) (hT : ∀ x ∈ T, SmN 1048576 x) (hc : RdN w a T) (hm : MaxG w) :
  Calls Tryz.prog 81 #[.slice a T.length cap, .agg #[.int .i64 c.r, .int .i64 c.a, .int .i64 c.s, .int .i64 c.g], .string s, .string t] w (RetMk (writeFile T c s t) w) := by
 obtain ⟨cr, ca, cs, cg⟩ := c
 have HT := Lib.hid hT
 have HM := Lib.hid hm
 clear hT hm
 dsimp only
 go_enter Tryz.func81, Tryz.ntmps81
 have S := Sep.start w
 replace S : Sep w (w.alloc (.cells #[.int .i64 cr, .int .i64 ca, .int .i64 cs, .int .i64 cg] 29)) [plBox w.heap.size #[.int .i64 cr, .int .i64 ca, .int .i64 cs, .int .i64 cg] 29] := S.alloc_at (by simp) _ _
 go_wp2_with fail
 generalize (w.alloc (.cells #[.int .i64 cr, .int .i64 ca, .int .i64 cs, .int .i64 cg] 29)) = w1 at *
 refine (implFileAt a cap T ⟨cr, ca, cs, cg⟩ s 2 w1 hs hl HT.out (hc.ext S.ext) (by omega) (HM.out.ext S.ext)).mono ?_
 rintro e w2 ⟨rfl, hE⟩
 replace S := S.step hE
 clear hE
 rcases gate_cases T ⟨cr, ca, cs, cg⟩ s false 2 with ⟨n, x, hG, hx, _, _⟩ | ⟨f, hf, hG⟩
 rotate_left
 ·have HX := Lib.hid (wf_bad (t := t) hf hG)
  rw [hG]
  have tf : (f == 0) = false := by simpa using hf
  clear hG hf
  dsimp only
  go_wp2
  go_ret2
  exact RetMk.nil S.ext HX.out
 ·have Hx := Lib.hid hx
  have i1 : (n : Int) < (T.length : Int) := by have := (List.getElem?_eq_some_iff.1 hx).1; omega
  by_cases ht : 40 < t.size
  ·have HX := Lib.hid (wf_full hG ht)
   have ti : (40 : Int) < (t.size : Int) := by omega
   rw [hG]
   clear ht hG hx
   dsimp only
   go_wp2
   go_ret2
   exact RetMk.nil S.ext HX.out
  ·have HX := Lib.hid (wf_ok hG ht hx)
   have ti : ¬ (40 : Int) < (t.size : Int) := by omega
   rw [hG]
   clear ht hG hx
   dsimp only
   go_wp2_with fail
   have HS := Lib.hid S
   clear S
   refine (implCopy a cap T w2 hl HT.out (hc.ext HS.out.ext)).mono ?_
   rintro e w7 ⟨u, vs, rfl, S7⟩
   have S8 := S7.since HS.out.ext
   clear S7
   obtain ⟨xc, g, cap2, rfl, hcap2, hxc, hxn, hcell, hfz, _⟩ := S8.ndAt 0 rfl Hx.out
   obtain ⟨x', an', cn', ak', ck'⟩ := xc
   dsimp only at hxn
   subst hxn
   have e4 := hcell 4 _ rfl
   have SA := S8.ndSet 0 rfl hxc Hx.out (x' := textNd x' t) 4 (.string t) (by decide) rfl rfl rfl
   have SB : Sep w (w7.setCell ⟨g, n * 7 + 4, none⟩ (.string t)) [plNd (.slice (some ⟨g, 0, none⟩) T.length cap2) (vs.set n ⟨textNd x' t, an', cn', ak', ck'⟩) (T.set n (textNd x' t))] := SA
   have HSB := Lib.hid SB
   clear SA SB S8 hcell hxc hcap2
   go_wp2
   go_ret2
   exact ⟨_, _, by rw [HX.out]; rfl, by rw [HX.out]; exact HSB.out⟩
set_option maxRecDepth 10000 in
set_option maxHeartbeats 8000000 in
theorem implListNames (a : Option Addr) (cap : Nat) (T : List Nd) (c : Cr) (s : ByteArray) (w : World) (hs : s.size ≤ 1048576) (hl : T.length ≤ 1048576) (hT : ∀ x ∈ T, SmN 1048576 x) (hc : RdN w a T) (hm : MaxG w) :
  Calls Tryz.prog 89 #[.slice a T.length cap, .agg #[.int .i64 c.r, .int .i64 c.a, .int .i64 c.s, .int .i64 c.g], .string s] w (RetNs (listNames T c s) w) := by
 obtain ⟨cr, ca, cs, cg⟩ := c
 have HT := Lib.hid hT
 clear hT
 have HM := Lib.hid hm
 clear hm
 dsimp only
 go_enter Tryz.func89, Tryz.ntmps89
 have S := Sep.start w
 replace S : Sep w (w.alloc (.cells #[.int .i64 cr, .int .i64 ca, .int .i64 cs, .int .i64 cg] 29)) [plBox w.heap.size #[.int .i64 cr, .int .i64 ca, .int .i64 cs, .int .i64 cg] 29] := S.alloc_at (by simp) _ _
 go_wp2_with fail
 generalize (w.alloc (.cells #[.int .i64 cr, .int .i64 ca, .int .i64 cs, .int .i64 cg] 29)) = w1 at *
 refine (implFindNode a cap T ⟨cr, ca, cs, cg⟩ s w1 hs hl HT.out (hc.ext S.ext) (HM.out.ext S.ext)).mono ?_
 rintro e w2 ⟨rfl, hE⟩
 replace S := S.step hE
 clear hE
 rcases find_cases T ⟨cr, ca, cs, cg⟩ s with ⟨m, hF, hm_, hTr, hCo⟩ | ⟨f, hf, hF⟩
 rotate_left
 ·have HG := Lib.hid (ga_fault (dir := true) (want := 4) hf hF)
  have HX := Lib.hid (li_bad hf HG.out)
  rw [hF]
  have tf : (f == 0) = false := by simpa using hf
  clear hF hf HG
  dsimp only
  go_wp2
  go_ret2
  exact RetNs.nil S.ext HX.out
 ·obtain ⟨x, b', off, an, cn, ak, ck, hx, rfl, c0, c1, c2, c3, c4, c5, c6, hcn, hck, hrn, hrk⟩ := atNd hc hm_
  have Hx := Lib.hid hx
  have HN := Lib.hid (hTr.nodes m x hx)
  have HCo := Lib.hid hCo
  have HF := Lib.hid hF
  rw [hF]
  have i1 : (m : Int) < (T.length : Int) := by omega
  have hE := S.ext
  have d0 := cell_ext hE c0
  have d1 := cell_ext hE c1
  have d2 := cell_ext hE c2
  have d3 := cell_ext hE c3
  have d4 := cell_ext hE c4
  have d5 := cell_ext hE c5
  have d6 := cell_ext hE c6
  have Hrn := Lib.hid hrn
  have hNl : x.N.length ≤ 1048576 := (HT.out x (List.mem_of_getElem? hx)).2.1
  have HNl := Lib.hid hNl
  clear hx c0 c1 c2 c3 c4 c5 c6 hcn hck hrn hrk hE hF hTr hCo hNl
  dsimp only
  cases hfo : x.fold with
  | false =>
   have HG := Lib.hid (ga_kind (dir := true) (want := 4) HF.out Hx.out (by simp [hfo]))
   have HX := Lib.hid (li_bad (by decide) HG.out)
   rw [hfo] at d0
   clear hfo HG
   go_wp2
   go_ret2
   exact RetNs.nil S.ext HX.out
  | true =>
   have Hfo := Lib.hid hfo
   obtain ⟨⟨bc0, bf0⟩, ⟨bc1, bf1⟩, ⟨bc2, bf2⟩, ⟨bc3, bf3⟩⟩ := bx4 (S.box 0 rfl)
   have HMy : Hid (∀ s : ExtW w2, Calls Tryz.prog 128 #[.agg #[.bool true, .int .i64 x.own, .int .i64 x.grp, .int .i64 x.mode, .string x.text, .slice an x.N.length cn, .slice ak x.K.length ck], .agg #[.int .i64 cr, .int .i64 ca, .int .i64 cs, .int .i64 cg], .int .i64 4] s.x fun e w'' => e = .returned (.bool (Cr.may ⟨cr, ca, cs, cg⟩ x 4)) ∧ ∃ s' : ExtW w2, w'' = s'.x) := Lib.hid (fun s => by
    have hC := implAllows ⟨cr, ca, cs, cg⟩ 4 x T.length an ak cn ck s.x HN.out HCo.out (by omega)
    rw [hfo] at hC
    exact Calls.at_e hC)
   rw [hfo] at d0
   clear hfo
   go_wp2_with fail
   have q0 := ExtW.cell d0
   have q1 := ExtW.cell d1
   have q2 := ExtW.cell d2
   have q3 := ExtW.cell d3
   have q4 := ExtW.cell d4
   have q5 := ExtW.cell d5
   have q6 := ExtW.cell d6
   have bl := ExtW.lt d0
   have r0 := ExtW.cell bc0
   have r1 := ExtW.cell bc1
   have r2 := ExtW.cell bc2
   have r3 := ExtW.cell bc3
   have br := ExtW.lt bc0
   have S9 := Lib.hid S
   clear d0 d1 d2 d3 d4 d5 d6 bc0 bc1 bc2 bc3 bf0 bf1 bf2 bf3 S
   cases hmay : Cr.may ⟨cr, ca, cs, cg⟩ x 4 with
   | false =>
    have HG := Lib.hid (ga_may (dir := true) (want := 4) HF.out Hx.out Hfo.out hmay)
    have HX := Lib.hid (li_bad (by decide) HG.out)
    rw [hmay] at HMy
    clear hmay HG
    (refine wp_region_quiet_ext (by kernel_rfl) (by kernel_rfl) ?_; (repeat (go_big_quiet_step ((go_at_call 128; exact HMy.out _)))); refine wpQuiet_nil ?_; intro _ hw'; obtain ⟨sq, hw''⟩ := hw'; subst hw'')
    obtain ⟨w5, hw5⟩ := sq
    have HS5 := Lib.hid (S9.out.step hw5)
    clear q0 q1 q2 q3 q4 q5 q6 bl r0 r1 r2 r3 br S9 HMy
    go_wp2
    go_ret2
    exact RetNs.nil HS5.out.ext HX.out
   | true =>
    have HG := Lib.hid (ga_ok (dir := true) (want := 4) HF.out Hx.out Hfo.out hmay)
    rw [hmay] at HMy
    clear hmay
    (refine wp_region_quiet_ext (by kernel_rfl) (by kernel_rfl) ?_; (repeat (go_big_quiet_step ((go_at_call 128; exact HMy.out _)))); refine wpQuiet_nil ?_; intro _ hw'; obtain ⟨sq, hw''⟩ := hw'; subst hw'')
    obtain ⟨w5, hw5⟩ := sq
    have p0 := q0 ⟨w5, hw5⟩
    have p1 := q1 ⟨w5, hw5⟩
    have p2 := q2 ⟨w5, hw5⟩
    have p3 := q3 ⟨w5, hw5⟩
    have p4 := q4 ⟨w5, hw5⟩
    have p5 := q5 ⟨w5, hw5⟩
    have p6 := q6 ⟨w5, hw5⟩
    have HS5 := Lib.hid (S9.out.step hw5)
    clear q0 q1 q2 q3 q4 q5 q6 bl r0 r1 r2 r3 br S9 HMy
    have HX := Lib.hid (li_ok HG.out Hx.out)
    go_wp2_with fail
    refine (cloneStr_any an cn x.N.length x.N w5 rfl HNl.out (Hrn.out.ext HS5.out.ext)).mono ?_
    rintro e w6 ⟨v6, rfl, ho6, hE6⟩
    have HSB := Lib.hid (((Sep.start w).step HS5.out.ext).owned hE6 (Nat.le_refl _) ho6)
    clear ho6 hE6 p0 p1 p2 p3 p4 p5 p6
    go_wp2
    go_ret2
    exact ⟨_, by rw [HX.out]; rfl, by rw [HX.out]; exact HSB.out⟩
set_option maxRecDepth 10000 in
set_option maxHeartbeats 8000000 in
theorem implChangeMode (a : Option Addr) (cap : Nat) (T : List Nd) (c : Cr) (s : ByteArray) (md : Int) (w : World) (hs : s.size ≤ 1048576) (hl : T.length ≤ 1048576) (hT : ∀ x ∈ T, SmN 1048576 x) (hc : RdN w a T) (hm : MaxG w) :
  Calls Tryz.prog 83 #[.slice a T.length cap, .agg #[.int .i64 c.r, .int .i64 c.a, .int .i64 c.s, .int .i64 c.g], .string s, .int .i64 md] w (RetMk (changeMode T c s md) w) := by
 obtain ⟨cr, ca, cs, cg⟩ := c
 have HT := Lib.hid hT
 clear hT
 have HM := Lib.hid hm
 clear hm
 dsimp only
 go_enter Tryz.func83, Tryz.ntmps83
 have S := Sep.start w
 replace S : Sep w (w.alloc (.cells #[.int .i64 cr, .int .i64 ca, .int .i64 cs, .int .i64 cg] 29)) [plBox w.heap.size #[.int .i64 cr, .int .i64 ca, .int .i64 cs, .int .i64 cg] 29] := S.alloc_at (by simp) _ _
 go_wp2_with fail
 generalize (w.alloc (.cells #[.int .i64 cr, .int .i64 ca, .int .i64 cs, .int .i64 cg] 29)) = w1 at *
 refine (implFindNode a cap T ⟨cr, ca, cs, cg⟩ s w1 hs hl HT.out (hc.ext S.ext) (HM.out.ext S.ext)).mono ?_
 rintro e w2 ⟨rfl, hE⟩
 replace S := S.step hE
 clear hE
 cases hMo : inB md 0 1023 with
 | false =>
  have HMo := Lib.hid hMo
  have HX := Lib.hid (cm_mode (T := T) (c := ⟨cr, ca, cs, cg⟩) (s := s) hMo)
  clear hMo
  go_wp2_with (go_at_call 114; refine (isMode_is HMo.out _).mono ?_; rintro e w' ⟨rfl, rfl⟩)
  go_ret2
  exact RetMk.nil S.ext HX.out
 | true =>
  have HMo := Lib.hid hMo
  clear hMo
  rcases find_cases T ⟨cr, ca, cs, cg⟩ s with ⟨m, hF, hm_, hTr, hCo⟩ | ⟨f, hf, hF⟩
  rotate_left
  ·have HX := Lib.hid (cm_fault HMo.out hf hF)
   rw [hF]
   have tf : (f == 0) = false := by simpa using hf
   clear hF hf
   dsimp only
   go_wp2_with (go_at_call 114; refine (isMode_is HMo.out _).mono ?_; rintro e w' ⟨rfl, rfl⟩)
   go_ret2
   exact RetMk.nil S.ext HX.out
  ·obtain ⟨x, b', off, an, cn, ak, ck, hx, rfl, _, c1, _⟩ := atNd hc hm_
   have Hx := Lib.hid hx
   have HP := Lib.hid (cm_at HMo.out hF hx)
   rw [hF]
   have i1 : (m : Int) < (T.length : Int) := by omega
   have d1 := cell_ext S.ext c1
   clear hx c1 hF hTr hCo
   dsimp only
   obtain ⟨⟨bc0, bf0⟩, ⟨bc1, bf1⟩, ⟨bc2, bf2⟩, ⟨bc3, bf3⟩⟩ := bx4 (S.box 0 rfl)
   go_wp2_with (first | (go_at_call 114; refine (isMode_is HMo.out _).mono ?_; rintro e w' ⟨rfl, rfl⟩) | fail)
   have q1 := ExtW.cell d1
   have bl := ExtW.lt d1
   have r1 := ExtW.cell bc1
   have br := ExtW.lt bc1
   have S9 := Lib.hid S
   clear d1 bc0 bc1 bc2 bc3 bf0 bf1 bf2 bf3 S
   rcases (show ca = 0 ∨ (ca ≠ 0 ∧ ca = x.own) ∨ (ca ≠ 0 ∧ ca ≠ x.own) by omega) with hcase | hcase | hcase
   ·have HX := Lib.hid (HP.out.trans (if_neg (fun h => h.1 hcase)))
    have ta : ca = 0 := hcase
    clear hcase HP
    subst ta
    (refine wp_region_quiet_ext (by kernel_rfl) (by kernel_rfl) ?_; (repeat (go_big_quiet_step ((fail)))); refine wpQuiet_nil ?_; intro _ hw'; obtain ⟨sq, hw''⟩ := hw'; subst hw'')
    obtain ⟨w5, hw5⟩ := sq
    have HS5 := Lib.hid (S9.out.step hw5)
    clear q1 bl r1 br S9
    go_wp2_with fail
    refine (implCopy (some ⟨b', off, none⟩) cap T w5 hl HT.out (hc.ext HS5.out.ext)).mono ?_
    rintro e w7 ⟨u, vs, rfl, S7⟩
    have S8 := S7.since HS5.out.ext
    clear S7
    obtain ⟨xc, g, cap2, rfl, hcap2, hxc, hxn, hcell, hfz, _⟩ := S8.ndAt 0 rfl Hx.out
    obtain ⟨x', an', cn', ak', ck'⟩ := xc
    dsimp only at hxn
    subst hxn
    have e3 := hcell 3 _ rfl
    have SA := S8.ndSet 0 rfl hxc Hx.out (x' := modeNd x' md) 3 (.int .i64 md) (by decide) rfl rfl rfl
    have SB : Sep w (w7.setCell ⟨g, m * 7 + 3, none⟩ (.int .i64 md)) [plNd (.slice (some ⟨g, 0, none⟩) T.length cap2) (vs.set m ⟨modeNd x' md, an', cn', ak', ck'⟩) (T.set m (modeNd x' md))] := SA
    have HSB := Lib.hid SB
    clear SA SB S8 hcell hxc hcap2
    go_wp2
    go_ret2
    exact ⟨_, _, by rw [HX.out]; rfl, by rw [HX.out]; exact HSB.out⟩
   ·have HX := Lib.hid (HP.out.trans (if_neg (fun h => h.2 hcase.2)))
    have ta : (ca != 0) = true := by simpa using hcase.1
    have to_ : (ca != x.own) = false := by simpa using hcase.2
    clear hcase HP
    (refine wp_region_quiet_ext (by kernel_rfl) (by kernel_rfl) ?_; (repeat (go_big_quiet_step ((fail)))); refine wpQuiet_nil ?_; intro _ hw'; obtain ⟨sq, hw''⟩ := hw'; subst hw'')
    obtain ⟨w5, hw5⟩ := sq
    have HS5 := Lib.hid (S9.out.step hw5)
    clear q1 bl r1 br S9
    go_wp2_with fail
    refine (implCopy (some ⟨b', off, none⟩) cap T w5 hl HT.out (hc.ext HS5.out.ext)).mono ?_
    rintro e w7 ⟨u, vs, rfl, S7⟩
    have S8 := S7.since HS5.out.ext
    clear S7
    obtain ⟨xc, g, cap2, rfl, hcap2, hxc, hxn, hcell, hfz, _⟩ := S8.ndAt 0 rfl Hx.out
    obtain ⟨x', an', cn', ak', ck'⟩ := xc
    dsimp only at hxn
    subst hxn
    have e3 := hcell 3 _ rfl
    have SA := S8.ndSet 0 rfl hxc Hx.out (x' := modeNd x' md) 3 (.int .i64 md) (by decide) rfl rfl rfl
    have SB : Sep w (w7.setCell ⟨g, m * 7 + 3, none⟩ (.int .i64 md)) [plNd (.slice (some ⟨g, 0, none⟩) T.length cap2) (vs.set m ⟨modeNd x' md, an', cn', ak', ck'⟩) (T.set m (modeNd x' md))] := SA
    have HSB := Lib.hid SB
    clear SA SB S8 hcell hxc hcap2
    go_wp2
    go_ret2
    exact ⟨_, _, by rw [HX.out]; rfl, by rw [HX.out]; exact HSB.out⟩
   ·have HX := Lib.hid (HP.out.trans (if_pos hcase))
    have ta : (ca != 0) = true := by simpa using hcase.1
    have to_ : (ca != x.own) = true := by simpa using hcase.2
    clear hcase HP
    (refine wp_region_quiet_ext (by kernel_rfl) (by kernel_rfl) ?_; (repeat (go_big_quiet_step ((fail)))); refine wpQuiet_nil ?_; intro _ hw'; obtain ⟨sq, hw''⟩ := hw'; subst hw'')
    obtain ⟨w5, hw5⟩ := sq
    have HS5 := Lib.hid (S9.out.step hw5)
    clear q1 bl r1 br S9
    go_wp2
    go_ret2
    exact RetMk.nil HS5.out.ext HX.out
theorem zeroStr : ∀ w, (zeroValue 9).run Tryz.prog w = .ok (.string ⟨#[]⟩) w := by intro w; go_simp
set_option maxRecDepth 100000 in
set_option maxHeartbeats 4000000 in
theorem delStr_any (base g cap i j : Nat) (l : List ByteArray) (w : World) (hij : i < j) (hj : j ≤ l.length)
  (hown : w.ownsRow base 9 1 (.slice (some ⟨g, 0, none⟩) l.length cap) l.length (l.flatMap encStr1)) :
  Calls Tryz.prog 126 #[.slice (some ⟨g, 0, none⟩) l.length cap, .int .i64 i, .int .i64 j] w fun e w' => e = .returned (.slice (some ⟨g, 0, none⟩) (l.length - (j - i)) cap) ∧
   w'.ownsRow base 9 1 (.slice (some ⟨g, 0, none⟩) (l.length - (j - i)) cap) (l.length - (j - i)) ((l.take i ++ l.drop j).flatMap encStr1) ∧ w.grownBy w' (some g) := by
 obtain ⟨hlc, hcm, hbg⟩ := owns_bound hown
 obtain ⟨i0, hi0, hz0, hz1, hz2⟩ := info_parts infoStr1
 have hv := zeroStr
 have mixed : Tryz.prog.follows .mixedOrders = true := rfl
 obtain ⟨news, hnews⟩ : ∃ news, news = (l.drop j).flatMap encStr1 := ⟨_, rfl⟩
 have hlen : news.length = (l.length - j) * 1 := by rw [hnews, flatMap_length encStr1_len, List.length_drop]
 have hget : ∀ t, t < news.length → ∀ u, news[t]? = some u → w.cell? ⟨g, j * 1 + t, none⟩ = some u := by
  intro t ht u hu
  have hlt : j * 1 + t < l.length * 1 := by omega
  rw [hown.cellAt _ hlt]
  rw [hnews, ← flatMap_drop encStr1_len, List.getElem?_drop] at hu
  exact hu
 obtain ⟨A, hA, hsrc⟩ : ∃ A : Addr, (if cap = j then some (⟨g, 0, none⟩ : Addr) else some ⟨g, j, none⟩) = some A ∧ Hid (∀ t u, news[t]? = some u → w.drew.cell? (A.add t) = some u) := by
  by_cases h : cap = j
  ·refine ⟨⟨g, 0, none⟩, by simp [h], fun t u hu => ?_⟩
   have h0 : news.length = 0 := by rw [hlen]; omega
   rw [List.length_eq_zero_iff.1 h0] at hu
   simp at hu
  ·refine ⟨⟨g, j, none⟩, by simp [h], fun t u hu => ?_⟩
   rw [Addr.add_lit]
   have := hget t (List.getElem?_eq_some_iff.1 hu).1 u hu
   simpa using this
 have s1 : Hid (news.length = (l.length - j) * 1) := hlen
 have s2 : Hid (∀ u ∈ news, u.oneCell' = true) := by
  intro u hu
  rw [hnews] at hu
  obtain ⟨x, _, hx⟩ := List.mem_flatMap.1 hu
  exact encStr1_one x u hx
 have s3 : Hid (∀ t, t < news.length → (w.drew.cell? ⟨g, 0 + i * 1 + t, none⟩).isSome = true ∧ w.drew.frozen? ⟨g, 0 + i * 1 + t, none⟩ = false) := by
  intro t ht
  rw [hlen] at ht
  have := owns_there hown (i * 1 + t) (by omega)
  rw [Nat.zero_add]
  exact this
 obtain ⟨W1, hW1⟩ : ∃ W1, W1 = w.drew.setCells g (0 + i * 1) news := ⟨_, rfl⟩
 have hg1 : w.grownBy W1 (some g) := by
  rw [hW1, kit_setCells]
  exact grown_setCells _ _ (grown_of_ext (Ext.refl w).drew _)
 have ho1 : W1.ownsRow base 9 1 (.slice (some ⟨g, 0, none⟩) l.length cap) l.length (setAll (l.flatMap encStr1) (i * 1) news) := by
  rw [hW1, kit_setCells, Nat.zero_add]
  exact owns_setCells _ _ hown.drew
 have hcl : ∀ ty, (Builtin.clear_ #[39] ty #[.slice (some ⟨g, (i + (l.length - j)), none⟩) (l.length - (i + (l.length - j))) (cap - (i + (l.length - j)))]).run Tryz.prog W1 = .ok (.tuple #[]) (W1.setCells g ((i + (l.length - j))) (Builtin.zeroCells (.string ⟨#[]⟩ : Value).cells (l.length - (i + (l.length - j)))).toList) :=
  fun ty => run_clear_cells W1 _ _ ty _ 1 Tryz.underlying39 hv rfl (by decide) g ((i + (l.length - j))) (l.length - (i + (l.length - j))) (cap - (i + (l.length - j))) (by omega) (fun t ht => (owns_there ho1 ((i + (l.length - j)) + t) (by omega)).1) (fun t ht => (owns_there ho1 ((i + (l.length - j)) + t) (by omega)).2)
 obtain ⟨W2, hW2⟩ : ∃ W2, W2 = W1.setCells g ((i + (l.length - j))) (Builtin.zeroCells (.string ⟨#[]⟩ : Value).cells (l.length - (i + (l.length - j)))).toList := ⟨_, rfl⟩
 rw [← hW2] at hcl
 have hg2 : Hid (w.grownBy W2 (some g)) := by
  rw [hW2, kit_setCells]
  exact grown_setCells _ _ hg1
 have ho2 : Hid (W2.ownsRow base 9 1 (.slice (some ⟨g, 0, none⟩) (l.length - (j - i)) cap) (l.length - (j - i)) ((l.take i ++ l.drop j).flatMap encStr1)) := by
  have h := owns_shrink (m := l.length - (j - i)) (owns_setCells (Builtin.zeroCells (.string ⟨#[]⟩ : Value).cells (l.length - (i + (l.length - j)))).toList ((i + (l.length - j)) * 1) ho1) (by omega)
  rw [hnews, del_list encStr1_len l i j (by omega) hj _ (by simp [Builtin.zeroCells, Value.cells]; omega)] at h
  rw [hW2, kit_setCells]
  exact Lib.hid (by simpa using h)
 have hW : Hid (W1 = w.drew.setCells g (0 + i * 1) news) := hW1
 have hic : i ≤ cap := by omega
 have hjc : j ≤ cap := by omega
 clear hW1 hW2 hg1 ho1 hown hget hnews hlen hbg
 go_enter Tryz.func126, Tryz.ntmps126
 go_wp2_with fail
 go_region_law_o (refine step_append_room rfl (.tmp 22) (.tmp 25) 39 rfl 9 i0 1 Tryz.underlying39 hi0 hz1 g 0 i cap (by simp [Act.eval, Act.put]) A (l.length - j) (cap - j) news (by simp [Act.eval, Act.put]) s1.out hsrc.out s2.out (by omega) s3.out ?_; rw [← hW.out])
 go_wp2
 go_ret
 refine ⟨by rw [show l.length - (j - i) = i + (l.length - j) by omega]; rfl, ho2.out, hg2.out⟩
theorem zeroInt : ∀ w, (zeroValue 3).run Tryz.prog w = .ok (.int .i64 0) w := by intro w; go_simp
set_option maxRecDepth 100000 in
set_option maxHeartbeats 4000000 in
theorem delInt_any (base g cap i j : Nat) (l : List Int) (w : World) (hij : i < j) (hj : j ≤ l.length)
  (hown : w.ownsRow base 3 1 (.slice (some ⟨g, 0, none⟩) l.length cap) l.length (l.flatMap encInt1)) :
  Calls Tryz.prog 127 #[.slice (some ⟨g, 0, none⟩) l.length cap, .int .i64 i, .int .i64 j] w fun e w' => e = .returned (.slice (some ⟨g, 0, none⟩) (l.length - (j - i)) cap) ∧
   w'.ownsRow base 3 1 (.slice (some ⟨g, 0, none⟩) (l.length - (j - i)) cap) (l.length - (j - i)) ((l.take i ++ l.drop j).flatMap encInt1) ∧ w.grownBy w' (some g) := by
 obtain ⟨hlc, hcm, hbg⟩ := owns_bound hown
 obtain ⟨i0, hi0, hz0, hz1, hz2⟩ := info_parts infoInt
 have hv := zeroInt
 have mixed : Tryz.prog.follows .mixedOrders = true := rfl
 obtain ⟨news, hnews⟩ : ∃ news, news = (l.drop j).flatMap encInt1 := ⟨_, rfl⟩
 have hlen : news.length = (l.length - j) * 1 := by rw [hnews, flatMap_length encInt1_len, List.length_drop]
 have hget : ∀ t, t < news.length → ∀ u, news[t]? = some u → w.cell? ⟨g, j * 1 + t, none⟩ = some u := by
  intro t ht u hu
  have hlt : j * 1 + t < l.length * 1 := by omega
  rw [hown.cellAt _ hlt]
  rw [hnews, ← flatMap_drop encInt1_len, List.getElem?_drop] at hu
  exact hu
 obtain ⟨A, hA, hsrc⟩ : ∃ A : Addr, (if cap = j then some (⟨g, 0, none⟩ : Addr) else some ⟨g, j, none⟩) = some A ∧ Hid (∀ t u, news[t]? = some u → w.drew.cell? (A.add t) = some u) := by
  by_cases h : cap = j
  ·refine ⟨⟨g, 0, none⟩, by simp [h], fun t u hu => ?_⟩
   have h0 : news.length = 0 := by rw [hlen]; omega
   rw [List.length_eq_zero_iff.1 h0] at hu
   simp at hu
  ·refine ⟨⟨g, j, none⟩, by simp [h], fun t u hu => ?_⟩
   rw [Addr.add_lit]
   have := hget t (List.getElem?_eq_some_iff.1 hu).1 u hu
   simpa using this
 have s1 : Hid (news.length = (l.length - j) * 1) := hlen
 have s2 : Hid (∀ u ∈ news, u.oneCell' = true) := by
  intro u hu
  rw [hnews] at hu
  obtain ⟨x, _, hx⟩ := List.mem_flatMap.1 hu
  exact encInt1_one x u hx
 have s3 : Hid (∀ t, t < news.length → (w.drew.cell? ⟨g, 0 + i * 1 + t, none⟩).isSome = true ∧ w.drew.frozen? ⟨g, 0 + i * 1 + t, none⟩ = false) := by
  intro t ht
  rw [hlen] at ht
  have := owns_there hown (i * 1 + t) (by omega)
  rw [Nat.zero_add]
  exact this
 obtain ⟨W1, hW1⟩ : ∃ W1, W1 = w.drew.setCells g (0 + i * 1) news := ⟨_, rfl⟩
 have hg1 : w.grownBy W1 (some g) := by
  rw [hW1, kit_setCells]
  exact grown_setCells _ _ (grown_of_ext (Ext.refl w).drew _)
 have ho1 : W1.ownsRow base 3 1 (.slice (some ⟨g, 0, none⟩) l.length cap) l.length (setAll (l.flatMap encInt1) (i * 1) news) := by
  rw [hW1, kit_setCells, Nat.zero_add]
  exact owns_setCells _ _ hown.drew
 have hcl : ∀ ty, (Builtin.clear_ #[86] ty #[.slice (some ⟨g, (i + (l.length - j)), none⟩) (l.length - (i + (l.length - j))) (cap - (i + (l.length - j)))]).run Tryz.prog W1 = .ok (.tuple #[]) (W1.setCells g ((i + (l.length - j))) (Builtin.zeroCells (.int .i64 0 : Value).cells (l.length - (i + (l.length - j)))).toList) :=
  fun ty => run_clear_cells W1 _ _ ty _ 1 Tryz.underlying86 hv rfl (by decide) g ((i + (l.length - j))) (l.length - (i + (l.length - j))) (cap - (i + (l.length - j))) (by omega) (fun t ht => (owns_there ho1 ((i + (l.length - j)) + t) (by omega)).1) (fun t ht => (owns_there ho1 ((i + (l.length - j)) + t) (by omega)).2)
 obtain ⟨W2, hW2⟩ : ∃ W2, W2 = W1.setCells g ((i + (l.length - j))) (Builtin.zeroCells (.int .i64 0 : Value).cells (l.length - (i + (l.length - j)))).toList := ⟨_, rfl⟩
 rw [← hW2] at hcl
 have hg2 : Hid (w.grownBy W2 (some g)) := by
  rw [hW2, kit_setCells]
  exact grown_setCells _ _ hg1
 have ho2 : Hid (W2.ownsRow base 3 1 (.slice (some ⟨g, 0, none⟩) (l.length - (j - i)) cap) (l.length - (j - i)) ((l.take i ++ l.drop j).flatMap encInt1)) := by
  have h := owns_shrink (m := l.length - (j - i)) (owns_setCells (Builtin.zeroCells (.int .i64 0 : Value).cells (l.length - (i + (l.length - j)))).toList ((i + (l.length - j)) * 1) ho1) (by omega)
  rw [hnews, del_list encInt1_len l i j (by omega) hj _ (by simp [Builtin.zeroCells, Value.cells]; omega)] at h
  rw [hW2, kit_setCells]
  exact Lib.hid (by simpa using h)
 have hW : Hid (W1 = w.drew.setCells g (0 + i * 1) news) := hW1
 have hic : i ≤ cap := by omega
 have hjc : j ≤ cap := by omega
 clear hW1 hW2 hg1 ho1 hown hget hnews hlen hbg
 go_enter Tryz.func127, Tryz.ntmps127
 go_wp2_with fail
 go_region_law_o (refine step_append_room rfl (.tmp 22) (.tmp 25) 86 rfl 3 i0 1 Tryz.underlying86 hi0 hz1 g 0 i cap (by simp [Act.eval, Act.put]) A (l.length - j) (cap - j) news (by simp [Act.eval, Act.put]) s1.out hsrc.out s2.out (by omega) s3.out ?_; rw [← hW.out])
 go_wp2
 go_ret
 refine ⟨by rw [show l.length - (j - i) = i + (l.length - j) by omega]; rfl, ho2.out, hg2.out⟩
def eraNd (x : Nd) (p : Nat) : Nd := ⟨x.fold, x.own, x.grp, x.mode, x.text, x.N.eraseIdx p, x.K.eraseIdx p⟩
theorem era_take {α : Type} (l : List α) (p : Nat) : l.take p ++ l.drop (p + 1) = l.eraseIdx p := (List.eraseIdx_eq_take_drop_succ l p).symm
def VTk (W0 : World) (H : List Pl) (g nT cap : Nat) (vs : List Nc) (k : Nat) (x : Nd) (gn cn gk ck p : Nat) : Nat → Value → List Value → World → Prop := fun i v us wv => match i with
 | 0 => v = .slice (some ⟨g, 0, none⟩) nT cap
 | 1 => v = .int .i64 (k : Nat)
 | 2 => v = .slice (some ⟨g, 0, none⟩) nT cap
 | 3 => v = .int .i64 (k : Nat)
 | 4 => v = .slice (some ⟨g, 0, none⟩) nT cap
 | 5 => v = .int .i64 (k : Nat)
 | 6 => v = .pointer (some ⟨g, k * 7, none⟩)
 | 7 => v = .pointer (some ⟨g, k * 7 + 5, none⟩)
 | 8 => v = .slice (some ⟨gn, 0, none⟩) x.N.length cn
 | 9 => v = .int .i64 (p : Nat)
 | 10 => v = .int .i64 (p : Nat)
 | 11 => v = .int .i64 ((p : Int) + 1)
 | 12 => v = .slice (some ⟨gn, 0, none⟩) (eraNd x p).N.length cn ∧ ∃ w5, Sep W0 w5 H ∧ Chg (fun b => b = gn) w5 wv ∧ wv.ownsRow 0 9 1 v (eraNd x p).N.length ((eraNd x p).N.flatMap encStr1)
 | 13 => v = .slice (some ⟨g, 0, none⟩) nT cap
 | 14 => v = .int .i64 (k : Nat)
 | 15 => v = .pointer (some ⟨g, k * 7, none⟩)
 | 16 => v = .pointer (some ⟨g, k * 7 + 6, none⟩)
 | 17 => v = .slice (some ⟨gk, 0, none⟩) x.K.length ck
 | 18 => v = .int .i64 (p : Nat)
 | 19 => v = .int .i64 (p : Nat)
 | 20 => v = .int .i64 ((p : Int) + 1)
 | 21 => v = .slice (some ⟨gk, 0, none⟩) (eraNd x p).K.length ck ∧ us.getD 0 undef = .slice (some ⟨gn, 0, none⟩) (eraNd x p).N.length cn ∧ AdOk W0 H g (⟨x, some ⟨gn, 0, none⟩, cn, some ⟨gk, 0, none⟩, ck⟩ : Nc) (eraNd x p).N (eraNd x p).K (.slice (some ⟨gn, 0, none⟩) (eraNd x p).N.length cn) v wv ∧ wv.ownsRow 0 89 7 (.slice (some ⟨g, 0, none⟩) nT cap) nT (vs.flatMap encNc)
 | 22 => v = .pointer (some ⟨g, k * 7, none⟩)
 | 23 => v = .pointer (some ⟨g, k * 7 + 5, none⟩)
 | 24 => us.getD 0 undef = .slice (some ⟨gk, 0, none⟩) (eraNd x p).K.length ck ∧ AdOk W0 H g (⟨x, some ⟨gn, 0, none⟩, cn, some ⟨gk, 0, none⟩, ck⟩ : Nc) (eraNd x p).N (eraNd x p).K (.slice (some ⟨gn, 0, none⟩) (eraNd x p).N.length cn) (.slice (some ⟨gk, 0, none⟩) (eraNd x p).K.length ck) wv ∧ wv.ownsRow 0 89 7 (.slice (some ⟨g, 0, none⟩) nT cap) nT ((vs.set k (⟨⟨x.fold, x.own, x.grp, x.mode, x.text, (eraNd x p).N, x.K⟩, some ⟨gn, 0, none⟩, cn, some ⟨gk, 0, none⟩, ck⟩ : Nc)).flatMap encNc)
 | 25 => Sep W0 wv H
 | 26 => wv.cell? ⟨g, k * 7 + 5, none⟩ = some (.slice (some ⟨gn, 0, none⟩) x.N.length cn)
 | 27 => wv.cell? ⟨g, k * 7 + 6, none⟩ = some (.slice (some ⟨gk, 0, none⟩) x.K.length ck)
 | _ => True
theorem VTk.ext {W0 : World} {H : List Pl} {g nT cap : Nat} {vs : List Nc} {k : Nat} {x : Nd} {gn cn gk ck p : Nat} (i : Nat) (v : Value) (us : List Value) (w1 w2 : World) (h : VTk W0 H g nT cap vs k x gn cn gk ck p i v us w1) (hE : Ext w1 w2) : VTk W0 H g nT cap vs k x gn cn gk ck p i v us w2 := by
 match i with
 | 0 | 1 | 2 | 3 | 4 | 5 | 6 | 7 | 8 | 9 | 10 | 11 | 13 | 14 | 15 | 16 | 17 | 18 | 19 | 20 | 22 | 23 => exact h
 | 12 => obtain ⟨h1, w5, h2, h3, h4⟩ := h; exact ⟨h1, w5, h2, h3.trans (Chg.of_ext hE), ownsRow_ext h4 hE⟩
 | 21 => exact ⟨h.1, h.2.1, h.2.2.1.ext hE, ownsRow_ext h.2.2.2 hE⟩
 | 24 => exact ⟨h.1, h.2.1.ext hE, ownsRow_ext h.2.2 hE⟩
 | 25 => exact SepM.step (show Sep W0 w1 H from h) hE
 | 26 => exact cell_ext hE h
 | 27 => exact cell_ext hE h
 | (n + 28) => trivial
end Go.Proofs.YtnibbldfohbfkaaGreatDoor
