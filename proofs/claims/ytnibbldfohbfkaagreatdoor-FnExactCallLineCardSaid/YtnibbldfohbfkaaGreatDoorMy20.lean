/- Parts of one proof: each says below what it proves and on what conditions. -/
import Derived.Test.YtnibbldfohbfkaaGreatDoorMy19
set_option linter.unusedVariables false
set_option linter.unusedSimpArgs false
/- Trees: contracts of the program's mayDrop, MayDrop, DropName. Condition: texts of at most 2^20, rows of at most 10^6; the library's own variable holds some number. -/
namespace Go.Proofs.YtnibbldfohbfkaaGreatDoor
open Go.RowKit
theorem and512_all : ∀ q : Fin 1024, (bits BinOp.and IntKind.i64 (q.val : Int) 512 != 0) = decide (512 ≤ (q.val : Int)) := by decide +kernel
theorem and512 {m : Int} (h : inB m 0 1023 = true) : (bits BinOp.and IntKind.i64 m 512 != 0) = decide (512 ≤ m) := by
 obtain ⟨h0, h1⟩ := inB_iff.1 h
 have := and512_all ⟨m.toNat, by omega⟩
 rwa [show ((m.toNat : Nat) : Int) = m by omega] at this
set_option maxRecDepth 10000 in
set_option maxHeartbeats 16000000 in
theorem implMayDropF (a : Option Addr) (cap : Nat) (T : List Nd) (c : Cr) (s : ByteArray) (full : Bool) (w : World) (hs : s.size ≤ 1048576) (hl : T.length ≤ 1048576) (hT : ∀ x ∈ T, SmN 1048576 x) (hc : RdN w a T) (hm : MaxG w) :
  Calls Tryz.prog 123 #[.slice a T.length cap, .agg #[.int .i64 c.r, .int .i64 c.a, .int .i64 c.s, .int .i64 c.g], .string s, .bool full] w (RetI (mayDropF T c s full) w) := by
 obtain ⟨cr, ca, cs, cg⟩ := c
 have HT := Lib.hid hT
 have HM := Lib.hid hm
 clear hT hm
 dsimp only
 go_enter Tryz.func123, Tryz.ntmps123
 have S := Sep.start w
 replace S : Sep w (w.alloc (.cells #[.int .i64 cr, .int .i64 ca, .int .i64 cs, .int .i64 cg] 29)) [plBox w.heap.size #[.int .i64 cr, .int .i64 ca, .int .i64 cs, .int .i64 cg] 29] := S.alloc_at (by simp) _ _
 go_wp2_with fail
 generalize (w.alloc (.cells #[.int .i64 cr, .int .i64 ca, .int .i64 cs, .int .i64 cg] 29)) = w1 at *
 refine (implFolderAbove a cap T ⟨cr, ca, cs, cg⟩ s w1 hs hl HT.out (hc.ext S.ext) (HM.out.ext S.ext)).mono ?_
 rintro e w2 ⟨rfl, hE⟩
 replace S := S.step hE
 clear hE
 rcases fa_cases T ⟨cr, ca, cs, cg⟩ s with ⟨n, x, hF⟩ | ⟨f, hf, hF⟩
 rotate_left
 ·have HX := Lib.hid (md_fault (full := full) hf hF)
  rw [hF]
  have tf : (f == 0) = false := by simpa using hf
  clear hf hF
  dsimp only
  go_wp2
  go_ret
  exact ⟨by rw [HX.out]; rfl, S.ext⟩
 have HF := Lib.hid hF
 rw [hF.eq]
 obtain ⟨x', b', off, an, cn, ak, ck, hx, rfl, c0, c1, c2, c3, c4, c5, c6, hcn, hck, hrn, hrk⟩ := atNd hc (List.getElem?_eq_some_iff.1 hF.hx).1
 obtain rfl : x = x' := Option.some.inj (hF.hx.symm.trans hx)
 have hN := hF.tree.nodes n x hx
 have Hmo := Lib.hid hN.mode
 have hNl : x.N.length ≤ 1048576 := (HT.out x (List.mem_of_getElem? hx)).2.1
 have i1 : (n : Int) < (T.length : Int) := by have := (List.getElem?_eq_some_iff.1 hx).1; omega
 have hE := S.ext
 have d0 := cell_ext hE c0
 have d1 := cell_ext hE c1
 have d2 := cell_ext hE c2
 have d3 := cell_ext hE c3
 have d4 := cell_ext hE c4
 have d5 := cell_ext hE c5
 have d6 := cell_ext hE c6
 have HKd := Lib.hid (implKid x T.length an ak cn ck (lastOf s) w2 hN hNl (hrn.ext hE) (hrk.ext hE))
 have HKp := Lib.hid (fun h => kid_place hN (s := lastOf s) h)
 clear hx hN c0 c1 c2 c3 c4 c5 c6 hcn hck hrn hrk hE hF
 dsimp only
 go_wp2_with fail
 refine HKd.out.mono ?_
 rintro e w3 ⟨rfl, hw3⟩
 have g0 := cell_ext hw3 d0
 have g1 := cell_ext hw3 d1
 have g3 := cell_ext hw3 d3
 clear d0 d1 d2 d3 d4 d5 d6 HKd
 replace S := S.step hw3
 clear hw3
 by_cases hkid : kidOf x.N x.K (lastOf s) < 0
 ·have HX := Lib.hid (md_miss (full := full) HF.out hkid)
  clear g0 g1 g3
  go_wp2
  go_ret
  exact ⟨by rw [HX.out]; rfl, S.ext⟩
 ·obtain ⟨_, _, _, k4, k5, _⟩ := HKp.out (by omega)
  obtain ⟨kid, hkd⟩ : ∃ kid : Nat, kidOf x.N x.K (lastOf s) = (kid : Int) := ⟨_, (Int.toNat_of_nonneg (by omega)).symm⟩
  obtain ⟨z, b2, off2, zan, zcn, zak, zck, hz, hzb, _, y1, _, _, _, y5, _⟩ := atNd (hc.ext S.ext) (show kid < T.length by omega)
  obtain ⟨rfl, rfl⟩ : b' = b2 ∧ off = off2 := by simpa using hzb
  have HK := Lib.hid (md_kid (full := full) HF.out hkd hz)
  have i2 : (kid : Int) < (T.length : Int) := by omega
  rw [hkd] at hkid ⊢
  have d0 := g0
  have d1 := g1
  have d3 := g3
  have z1 := y1
  have z5 := y5
  clear g0 g1 g3 y1 y5 k4 k5 hkd hz hzb HKp HF
  obtain ⟨⟨bc0, bf0⟩, ⟨bc1, bf1⟩, ⟨bc2, bf2⟩, ⟨bc3, bf3⟩⟩ := bx4 (S.box 0 rfl)
  rcases stuck_cases ⟨cr, ca, cs, cg⟩ x z with ⟨h1, hst⟩ | ⟨h1, h2, hst⟩ | ⟨h1, h2, h3, hst⟩ | ⟨h1, h2, h3, h4, hst⟩ | ⟨h1, h2, h3, h4, hst⟩
  ·have Hst := Lib.hid hst
   have tm : bits BinOp.and IntKind.i64 x.mode 512 = 0 := by have h := and512 Hmo.out; rw [decide_eq_false h1] at h; simpa using h
   clear h1 hst
   go_wp2_with fail
   have q0 := ExtW.cell d0
   have q1 := ExtW.cell d1
   have q3 := ExtW.cell d3
   have qz1 := ExtW.cell z1
   have qz5 := ExtW.cell z5
   have bl := ExtW.lt d0
   have r0 := ExtW.cell bc0
   have r1 := ExtW.cell bc1
   have br := ExtW.lt bc0
   have HSx := Lib.hid S
   clear d0 d1 d3 z1 z5 bc0 bc1 bc2 bc3 bf0 bf1 bf2 bf3 S
   (refine wp_region_quiet_ext (by kernel_rfl) (by kernel_rfl) ?_; (repeat (go_big_quiet_step ((fail)))); refine wpQuiet_nil ?_; intro _ hw'; obtain ⟨sq, hw''⟩ := hw'; subst hw'')
   obtain ⟨w5, hw5⟩ := sq
   have pz5 := qz5 ⟨w5, hw5⟩
   clear q0 q1 q3 qz1 qz5 bl r0 r1 br
   cases full with
   | true =>
    have HX := Lib.hid (HK.out.trans (by rw [if_neg (by rw [Hst.out]; decide), if_neg (by simp)]))
    go_wp2
    go_ret
    exact ⟨by rw [HX.out]; rfl, HSx.out.ext.trans hw5⟩
   | false =>
    by_cases hz0 : 0 < z.N.length
    ·have HX := Lib.hid (HK.out.trans (by rw [if_neg (by rw [Hst.out]; decide), if_pos ⟨rfl, hz0⟩]))
     have hzi : (0 : Int) < (z.N.length : Int) := by omega
     go_wp2
     go_ret
     exact ⟨by rw [HX.out]; rfl, HSx.out.ext.trans hw5⟩
    ·have HX := Lib.hid (HK.out.trans (by rw [if_neg (by rw [Hst.out]; decide), if_neg (fun h => hz0 h.2)]))
     have hzi : ¬ (0 : Int) < (z.N.length : Int) := by omega
     go_wp2
     go_ret
     exact ⟨by rw [HX.out]; rfl, HSx.out.ext.trans hw5⟩
  ·have Hst := Lib.hid hst
   have tm : (bits BinOp.and IntKind.i64 x.mode 512 != 0) = true := by rw [and512 Hmo.out]; simpa using h1
   have ta : ca = 0 := h2
   clear h2
   subst ta
   clear h1 hst
   go_wp2_with fail
   have q0 := ExtW.cell d0
   have q1 := ExtW.cell d1
   have q3 := ExtW.cell d3
   have qz1 := ExtW.cell z1
   have qz5 := ExtW.cell z5
   have bl := ExtW.lt d0
   have r0 := ExtW.cell bc0
   have r1 := ExtW.cell bc1
   have br := ExtW.lt bc0
   have HSx := Lib.hid S
   clear d0 d1 d3 z1 z5 bc0 bc1 bc2 bc3 bf0 bf1 bf2 bf3 S
   (refine wp_region_quiet_ext (by kernel_rfl) (by kernel_rfl) ?_; (repeat (go_big_quiet_step ((fail)))); refine wpQuiet_nil ?_; intro _ hw'; obtain ⟨sq, hw''⟩ := hw'; subst hw'')
   obtain ⟨w5, hw5⟩ := sq
   have pz5 := qz5 ⟨w5, hw5⟩
   clear q0 q1 q3 qz1 qz5 bl r0 r1 br
   cases full with
   | true =>
    have HX := Lib.hid (HK.out.trans (by rw [if_neg (by rw [Hst.out]; decide), if_neg (by simp)]))
    go_wp2
    go_ret
    exact ⟨by rw [HX.out]; rfl, HSx.out.ext.trans hw5⟩
   | false =>
    by_cases hz0 : 0 < z.N.length
    ·have HX := Lib.hid (HK.out.trans (by rw [if_neg (by rw [Hst.out]; decide), if_pos ⟨rfl, hz0⟩]))
     have hzi : (0 : Int) < (z.N.length : Int) := by omega
     go_wp2
     go_ret
     exact ⟨by rw [HX.out]; rfl, HSx.out.ext.trans hw5⟩
    ·have HX := Lib.hid (HK.out.trans (by rw [if_neg (by rw [Hst.out]; decide), if_neg (fun h => hz0 h.2)]))
     have hzi : ¬ (0 : Int) < (z.N.length : Int) := by omega
     go_wp2
     go_ret
     exact ⟨by rw [HX.out]; rfl, HSx.out.ext.trans hw5⟩
  ·have Hst := Lib.hid hst
   have tm : (bits BinOp.and IntKind.i64 x.mode 512 != 0) = true := by rw [and512 Hmo.out]; simpa using h1
   have ta : (ca != 0) = true := by simpa using h2
   have to_ : (ca != x.own) = false := by simpa using h3
   clear h1 h2 h3 hst
   go_wp2_with fail
   have q0 := ExtW.cell d0
   have q1 := ExtW.cell d1
   have q3 := ExtW.cell d3
   have qz1 := ExtW.cell z1
   have qz5 := ExtW.cell z5
   have bl := ExtW.lt d0
   have r0 := ExtW.cell bc0
   have r1 := ExtW.cell bc1
   have br := ExtW.lt bc0
   have HSx := Lib.hid S
   clear d0 d1 d3 z1 z5 bc0 bc1 bc2 bc3 bf0 bf1 bf2 bf3 S
   (refine wp_region_quiet_ext (by kernel_rfl) (by kernel_rfl) ?_; (repeat (go_big_quiet_step ((fail)))); refine wpQuiet_nil ?_; intro _ hw'; obtain ⟨sq, hw''⟩ := hw'; subst hw'')
   obtain ⟨w5, hw5⟩ := sq
   have pz5 := qz5 ⟨w5, hw5⟩
   clear q0 q1 q3 qz1 qz5 bl r0 r1 br
   cases full with
   | true =>
    have HX := Lib.hid (HK.out.trans (by rw [if_neg (by rw [Hst.out]; decide), if_neg (by simp)]))
    go_wp2
    go_ret
    exact ⟨by rw [HX.out]; rfl, HSx.out.ext.trans hw5⟩
   | false =>
    by_cases hz0 : 0 < z.N.length
    ·have HX := Lib.hid (HK.out.trans (by rw [if_neg (by rw [Hst.out]; decide), if_pos ⟨rfl, hz0⟩]))
     have hzi : (0 : Int) < (z.N.length : Int) := by omega
     go_wp2
     go_ret
     exact ⟨by rw [HX.out]; rfl, HSx.out.ext.trans hw5⟩
    ·have HX := Lib.hid (HK.out.trans (by rw [if_neg (by rw [Hst.out]; decide), if_neg (fun h => hz0 h.2)]))
     have hzi : ¬ (0 : Int) < (z.N.length : Int) := by omega
     go_wp2
     go_ret
     exact ⟨by rw [HX.out]; rfl, HSx.out.ext.trans hw5⟩
  ·have Hst := Lib.hid hst
   have tm : (bits BinOp.and IntKind.i64 x.mode 512 != 0) = true := by rw [and512 Hmo.out]; simpa using h1
   have ta : (ca != 0) = true := by simpa using h2
   have to_ : (ca != x.own) = true := by simpa using h3
   have tz : (ca != z.own) = false := by simpa using h4
   clear h1 h2 h3 h4 hst
   go_wp2_with fail
   have q0 := ExtW.cell d0
   have q1 := ExtW.cell d1
   have q3 := ExtW.cell d3
   have qz1 := ExtW.cell z1
   have qz5 := ExtW.cell z5
   have bl := ExtW.lt d0
   have r0 := ExtW.cell bc0
   have r1 := ExtW.cell bc1
   have br := ExtW.lt bc0
   have HSx := Lib.hid S
   clear d0 d1 d3 z1 z5 bc0 bc1 bc2 bc3 bf0 bf1 bf2 bf3 S
   (refine wp_region_quiet_ext (by kernel_rfl) (by kernel_rfl) ?_; (repeat (go_big_quiet_step ((fail)))); refine wpQuiet_nil ?_; intro _ hw'; obtain ⟨sq, hw''⟩ := hw'; subst hw'')
   obtain ⟨w5, hw5⟩ := sq
   have pz5 := qz5 ⟨w5, hw5⟩
   clear q0 q1 q3 qz1 qz5 bl r0 r1 br
   cases full with
   | true =>
    have HX := Lib.hid (HK.out.trans (by rw [if_neg (by rw [Hst.out]; decide), if_neg (by simp)]))
    go_wp2
    go_ret
    exact ⟨by rw [HX.out]; rfl, HSx.out.ext.trans hw5⟩
   | false =>
    by_cases hz0 : 0 < z.N.length
    ·have HX := Lib.hid (HK.out.trans (by rw [if_neg (by rw [Hst.out]; decide), if_pos ⟨rfl, hz0⟩]))
     have hzi : (0 : Int) < (z.N.length : Int) := by omega
     go_wp2
     go_ret
     exact ⟨by rw [HX.out]; rfl, HSx.out.ext.trans hw5⟩
    ·have HX := Lib.hid (HK.out.trans (by rw [if_neg (by rw [Hst.out]; decide), if_neg (fun h => hz0 h.2)]))
     have hzi : ¬ (0 : Int) < (z.N.length : Int) := by omega
     go_wp2
     go_ret
     exact ⟨by rw [HX.out]; rfl, HSx.out.ext.trans hw5⟩
  ·have Hst := Lib.hid hst
   have tm : (bits BinOp.and IntKind.i64 x.mode 512 != 0) = true := by rw [and512 Hmo.out]; simpa using h1
   have ta : (ca != 0) = true := by simpa using h2
   have to_ : (ca != x.own) = true := by simpa using h3
   have tz : (ca != z.own) = true := by simpa using h4
   clear h1 h2 h3 h4 hst
   go_wp2_with fail
   have q0 := ExtW.cell d0
   have q1 := ExtW.cell d1
   have q3 := ExtW.cell d3
   have qz1 := ExtW.cell z1
   have qz5 := ExtW.cell z5
   have bl := ExtW.lt d0
   have r0 := ExtW.cell bc0
   have r1 := ExtW.cell bc1
   have br := ExtW.lt bc0
   have HSx := Lib.hid S
   clear d0 d1 d3 z1 z5 bc0 bc1 bc2 bc3 bf0 bf1 bf2 bf3 S
   (refine wp_region_quiet_ext (by kernel_rfl) (by kernel_rfl) ?_; (repeat (go_big_quiet_step ((fail)))); refine wpQuiet_nil ?_; intro _ hw'; obtain ⟨sq, hw''⟩ := hw'; subst hw'')
   obtain ⟨w5, hw5⟩ := sq
   have pz5 := qz5 ⟨w5, hw5⟩
   clear q0 q1 q3 qz1 qz5 bl r0 r1 br
   have HX := Lib.hid (HK.out.trans (by rw [if_pos Hst.out]))
   go_wp2
   go_ret
   exact ⟨by rw [HX.out]; rfl, HSx.out.ext.trans hw5⟩
set_option maxHeartbeats 4000000 in
theorem implMayDrop (a : Option Addr) (cap : Nat) (T : List Nd) (c : Cr) (s : ByteArray) (w : World) (hs : s.size ≤ 1048576) (hl : T.length ≤ 1048576) (hT : ∀ x ∈ T, SmN 1048576 x) (hc : RdN w a T) (hm : MaxG w) :
  Calls Tryz.prog 117 #[.slice a T.length cap, .agg #[.int .i64 c.r, .int .i64 c.a, .int .i64 c.s, .int .i64 c.g], .string s] w (RetI (mayDropF T c s false) w) := by
 obtain ⟨cr, ca, cs, cg⟩ := c
 have HT := Lib.hid hT
 have HM := Lib.hid hm
 clear hT hm
 dsimp only
 go_enter Tryz.func117, Tryz.ntmps117
 have S := Sep.start w
 replace S : Sep w (w.alloc (.cells #[.int .i64 cr, .int .i64 ca, .int .i64 cs, .int .i64 cg] 29)) [plBox w.heap.size #[.int .i64 cr, .int .i64 ca, .int .i64 cs, .int .i64 cg] 29] := S.alloc_at (by simp) _ _
 go_wp2_with fail
 generalize (w.alloc (.cells #[.int .i64 cr, .int .i64 ca, .int .i64 cs, .int .i64 cg] 29)) = w1 at *
 refine (implMayDropF a cap T ⟨cr, ca, cs, cg⟩ s false w1 hs hl HT.out (hc.ext S.ext) (HM.out.ext S.ext)).mono ?_
 rintro e w2 ⟨rfl, hE⟩
 replace S := S.step hE
 clear hE
 go_wp2
 go_ret
 exact ⟨rfl, S.ext⟩
set_option maxRecDepth 10000 in
set_option maxHeartbeats 8000000 in
theorem implDropName (a : Option Addr) (cap : Nat) (T : List Nd) (c : Cr) (s : ByteArray) (w : World) (hs : s.size ≤ 1048576) (hl : T.length ≤ 1048576) (hT : ∀ x ∈ T, SmN 1048576 x) (hc : RdN w a T) (hm : MaxG w) (hNB : NB 1000000 T) :
  Calls Tryz.prog 80 #[.slice a T.length cap, .agg #[.int .i64 c.r, .int .i64 c.a, .int .i64 c.s, .int .i64 c.g], .string s] w (RetMk (dropName T c s) w) := by
 obtain ⟨cr, ca, cs, cg⟩ := c
 have HT := Lib.hid hT
 have HM := Lib.hid hm
 have HNB := Lib.hid hNB
 clear hT hm hNB
 dsimp only
 go_enter Tryz.func80, Tryz.ntmps80
 have S := Sep.start w
 replace S : Sep w (w.alloc (.cells #[.int .i64 cr, .int .i64 ca, .int .i64 cs, .int .i64 cg] 29)) [plBox w.heap.size #[.int .i64 cr, .int .i64 ca, .int .i64 cs, .int .i64 cg] 29] := S.alloc_at (by simp) _ _
 go_wp2_with fail
 generalize (w.alloc (.cells #[.int .i64 cr, .int .i64 ca, .int .i64 cs, .int .i64 cg] 29)) = w1 at *
 refine (implMayDrop a cap T ⟨cr, ca, cs, cg⟩ s w1 hs hl HT.out (hc.ext S.ext) (HM.out.ext S.ext)).mono ?_
 rintro e w2 ⟨rfl, hE⟩
 replace S := S.step hE
 clear hE
 by_cases hmd : mayDropF T ⟨cr, ca, cs, cg⟩ s false = 0
 rotate_left
 ·have HX := Lib.hid (dn_bad hmd rfl)
  have tf : (mayDropF T ⟨cr, ca, cs, cg⟩ s false == 0) = false := by simpa using hmd
  clear hmd
  generalize mayDropF T ⟨cr, ca, cs, cg⟩ s false = f at *
  go_wp2
  go_ret2
  exact RetMk.nil S.ext HX.out
 ·rcases md_cases T ⟨cr, ca, cs, cg⟩ s with ⟨m, kid, x, z, hD, _, h7, _⟩ | ⟨f, hf, _, _, h⟩
  rotate_left
  ·exact absurd (h.symm.trans hmd) hf
  ·have h0 : z.N.length = 0 := by
    by_cases h0 : z.N.length = 0
    ·exact h0
    ·have := (h7 (by omega)).symm.trans hmd; cases this
   have HX := Lib.hid (dn_ok hD hmd)
   have HD := Lib.hid (md_drop hD h0)
   have HF := Lib.hid hD.fa
   have hx := hD.fa.hx
   have hNl := HNB.out x (List.mem_of_getElem? hx)
   rw [hmd]
   clear hmd hD h7 h0
   obtain ⟨⟨bc0, bf0⟩, ⟨bc1, bf1⟩, ⟨bc2, bf2⟩, ⟨bc3, bf3⟩⟩ := bx4 (S.box 0 rfl)
   go_wp2_with fail
   clear bc0 bf0 bc1 bf1 bc2 bf2 bc3 bf3
   refine (implFolderAbove a cap T ⟨cr, ca, cs, cg⟩ s w2 hs hl HT.out (hc.ext S.ext) (HM.out.ext S.ext)).mono ?_
   rintro e w3 ⟨rfl, hE⟩
   rw [HF.out.eq]
   dsimp only
   replace S := S.step hE
   clear hE
   go_wp2_with fail
   refine (implCopy a cap T w3 hl HT.out (hc.ext S.ext)).mono ?_
   rintro e w4 ⟨u, vs, rfl, S4⟩
   replace S : Sep w w4 [plNd u vs T, plBox w.heap.size #[.int .i64 cr, .int .i64 ca, .int .i64 cs, .int .i64 cg] 29] := S.call S4
   clear S4
   obtain ⟨_, g, cap2, rfl, _, _⟩ := S.ndAt 0 rfl hx
   have HS := Lib.hid S
   clear S
   go_wp2_with fail
   refine (implDropT HS.out 0 rfl HD.out HT.out hNl).mono ?_
   rintro e w5 ⟨u', vs', rfl, S5⟩
   have HS5 := Lib.hid (S5.drop 1)
   clear S5 HS
   go_wp2
   go_ret2
   refine ⟨u', vs', by rw [HX.out]; rfl, ?_⟩
   rw [HX.out]
   exact HS5.out
end Go.Proofs.YtnibbldfohbfkaaGreatDoor
