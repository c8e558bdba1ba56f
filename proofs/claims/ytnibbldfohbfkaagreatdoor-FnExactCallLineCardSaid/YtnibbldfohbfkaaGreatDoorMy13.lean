/- Parts of one proof: each says below what it proves and on what conditions. -/
import Derived.Shelf.Strings.Split
import Derived.Shelf.Strings.OnBuilder
import Derived.Shelf.Spec.SearchS
import Derived.Shelf.Slices.Turned
import Derived.Test.YtnibbldfohbfkaaGreatDoorRows
import Derived.Test.YtnibbldfohbfkaaGreatDoorMy12
set_option linter.unusedVariables false
set_option linter.unusedSimpArgs false
/- Trees: contracts of the reference's ReadFile, WriteFile, ListNames, ChangeMode. Condition: texts of at most 2^20, rows of at most 2^20. -/
namespace Go.Proofs.YtnibbldfohbfkaaGreatDoor
open Go.RowKit
def RetNs (R : List ByteArray × Int) (w : World) (e : Ending) (w' : World) : Prop := ∃ u, e = .returned (.tuple #[u, .int .i64 R.2]) ∧ Sep w w' [plRow 9 1 encStr1 u R.1]
theorem RetNs.empty {w w1 : World} {R : List ByteArray × Int} {f : Int} (hE : Ext w w1) (hR : R = ([], f)) : RetNs R w (.returned (.tuple #[.slice (some ⟨w1.heap.size, 0, none⟩) 0 0, .int .i64 f])) (w1.alloc (.cells #[] 9)) := by
 have S0 := (Sep.of_ext hE).lit0 (n := w1.heap.size) rfl 9 1 encStr1
 exact ⟨_, by rw [hR], by rw [hR]; exact S0⟩
theorem RetNs.nil {w w1 : World} {R : List ByteArray × Int} {f : Int} (hE : Ext w w1) (hR : R = ([], f)) : RetNs R w (.returned (.tuple #[.slice none 0 0, .int .i64 f])) w1 := by
 have S0 := (Sep.of_ext hE).nil 9 1 encStr1
 exact ⟨_, by rw [hR], by rw [hR]; exact S0⟩
set_option maxRecDepth 10000 in
set_option maxHeartbeats 8000000 in
theorem specReadFile (a : Option Addr) (cap : Nat) (T : List Nd) (c : Cr) (s : ByteArray) (w : World) (hs : s.size ≤ 1048576) (hl : T.length ≤ 1048576) (hT : ∀ x ∈ T, SmN 1048576 x) (hc : RdN w a T) :
  Calls Tryz.prog 34 #[.slice a T.length cap, .agg #[.int .i64 c.r, .int .i64 c.a, .int .i64 c.s, .int .i64 c.g], .string s] w fun e w' => e = .returned (.tuple #[.string (readFile T c s).1, .int .i64 (readFile T c s).2]) ∧ Ext w w' := by
 obtain ⟨cr, ca, cs, cg⟩ := c
 have HT := Lib.hid hT
 clear hT
 dsimp only
 go_enter Tryz.func34, Tryz.ntmps34
 have S := Sep.start w
 replace S : Sep w (w.alloc (.cells #[.int .i64 cr, .int .i64 ca, .int .i64 cs, .int .i64 cg] 29)) [plBox w.heap.size #[.int .i64 cr, .int .i64 ca, .int .i64 cs, .int .i64 cg] 29] := S.alloc_at (by simp) _ _
 go_wp2_with fail
 generalize (w.alloc (.cells #[.int .i64 cr, .int .i64 ca, .int .i64 cs, .int .i64 cg] 29)) = w1 at *
 refine (specFindNode a cap T ⟨cr, ca, cs, cg⟩ s w1 hs hl HT.out (hc.ext S.ext)).mono ?_
 rintro e w2 ⟨rfl, hE⟩
 replace S := S.step hE
 clear hE
 rcases find_cases T ⟨cr, ca, cs, cg⟩ s with ⟨m, hF, hm_, hTr, hCo⟩ | ⟨f, hf, hF⟩
 rotate_left
 ·have HG := Lib.hid (ga_fault (dir := false) (want := 4) hf hF)
  have HX := Lib.hid (rf_bad hf HG.out)
  rw [hF]
  have tf : (f == 0) = false := by simpa using hf
  clear hF hf HG
  dsimp only
  go_wp2
  go_ret2
  exact ⟨by rw [HX.out]; rfl, S.ext⟩
 ·obtain ⟨x, b', off, an, cn, ak, ck, hx, rfl, c0, c1, c2, c3, c4, c5, c6, hcn, hck, hrn, hrk⟩ := atNd hc hm_
  have Hx := Lib.hid hx
  have HN := Lib.hid (hTr.nodes m x hx)
  have HCo := Lib.hid hCo
  have HF := Lib.hid hF
  rw [hF]
  have i1 : (m : Int) < (T.length : Int) := by omega
  have hE := S.ext
  have d0 := cell_ext hE c0
  have d1 := cell_ext hE c1
  have d2 := cell_ext hE c2
  have d3 := cell_ext hE c3
  have d4 := cell_ext hE c4
  have d5 := cell_ext hE c5
  have d6 := cell_ext hE c6
  have Hrn := Lib.hid hrn
  have hNl : x.N.length ≤ 1048576 := (HT.out x (List.mem_of_getElem? hx)).2.1
  have HNl := Lib.hid hNl
  clear hx c0 c1 c2 c3 c4 c5 c6 hcn hck hrn hrk hE hF hTr hCo hNl
  dsimp only
  cases hfo : x.fold with
  | true =>
   have HG := Lib.hid (ga_kind (dir := false) (want := 4) HF.out Hx.out (by simp [hfo]))
   have HX := Lib.hid (rf_bad (by decide) HG.out)
   rw [hfo] at d0
   clear hfo HG
   go_wp2
   go_ret2
   exact ⟨by rw [HX.out]; rfl, S.ext⟩
  | false =>
   have Hfo := Lib.hid hfo
   obtain ⟨⟨bc0, bf0⟩, ⟨bc1, bf1⟩, ⟨bc2, bf2⟩, ⟨bc3, bf3⟩⟩ := bx4 (S.box 0 rfl)
   have HMy : Hid (∀ s : ExtW w2, Calls Tryz.prog 74 #[.agg #[.int .i64 cr, .int .i64 ca, .int .i64 cs, .int .i64 cg], .agg #[.bool false, .int .i64 x.own, .int .i64 x.grp, .int .i64 x.mode, .string x.text, .slice an x.N.length cn, .slice ak x.K.length ck], .int .i64 4] s.x fun e w'' => e = .returned (.bool (Cr.may ⟨cr, ca, cs, cg⟩ x 4)) ∧ ∃ s' : ExtW w2, w'' = s'.x) := Lib.hid (fun s => by
    have hC := specMay cr ca cs cg 4 x an ak cn ck s.x
    rw [hfo] at hC
    exact Calls.at_e hC)
   rw [hfo] at d0
   clear hfo
   go_wp2_with fail
   have q0 := ExtW.cell d0
   have q1 := ExtW.cell d1
   have q2 := ExtW.cell d2
   have q3 := ExtW.cell d3
   have q4 := ExtW.cell d4
   have q5 := ExtW.cell d5
   have q6 := ExtW.cell d6
   have bl := ExtW.lt d0
   have r0 := ExtW.cell bc0
   have r1 := ExtW.cell bc1
   have r2 := ExtW.cell bc2
   have r3 := ExtW.cell bc3
   have br := ExtW.lt bc0
   have S9 := Lib.hid S
   clear d0 d1 d2 d3 d4 d5 d6 bc0 bc1 bc2 bc3 bf0 bf1 bf2 bf3 S
   cases hmay : Cr.may ⟨cr, ca, cs, cg⟩ x 4 with
   | false =>
    have HG := Lib.hid (ga_may (dir := false) (want := 4) HF.out Hx.out Hfo.out hmay)
    have HX := Lib.hid (rf_bad (by decide) HG.out)
    rw [hmay] at HMy
    clear hmay HG
    (refine wp_region_quiet_ext (by kernel_rfl) (by kernel_rfl) ?_; (repeat (go_big_quiet_step ((go_at_call 74; exact HMy.out _)))); refine wpQuiet_nil ?_; intro _ hw'; obtain ⟨sq, hw''⟩ := hw'; subst hw'')
    obtain ⟨w5, hw5⟩ := sq
    have HS5 := Lib.hid (S9.out.step hw5)
    clear q0 q1 q2 q3 q4 q5 q6 bl r0 r1 r2 r3 br S9 HMy
    go_wp2
    go_ret2
    exact ⟨by rw [HX.out]; rfl, HS5.out.ext⟩
   | true =>
    have HG := Lib.hid (ga_ok (dir := false) (want := 4) HF.out Hx.out Hfo.out hmay)
    rw [hmay] at HMy
    clear hmay
    (refine wp_region_quiet_ext (by kernel_rfl) (by kernel_rfl) ?_; (repeat (go_big_quiet_step ((go_at_call 74; exact HMy.out _)))); refine wpQuiet_nil ?_; intro _ hw'; obtain ⟨sq, hw''⟩ := hw'; subst hw'')
    obtain ⟨w5, hw5⟩ := sq
    have p0 := q0 ⟨w5, hw5⟩
    have p1 := q1 ⟨w5, hw5⟩
    have p2 := q2 ⟨w5, hw5⟩
    have p3 := q3 ⟨w5, hw5⟩
    have p4 := q4 ⟨w5, hw5⟩
    have p5 := q5 ⟨w5, hw5⟩
    have p6 := q6 ⟨w5, hw5⟩
    have HS5 := Lib.hid (S9.out.step hw5)
    clear q0 q1 q2 q3 q4 q5 q6 bl r0 r1 r2 r3 br S9 HMy
    have HX := Lib.hid (rf_ok HG.out Hx.out)
    go_wp2
    go_ret2
    exact ⟨by rw [HX.out]; rfl, HS5.out.ext⟩
set_option maxRecDepth 10000 in
set_option maxHeartbeats 8000000 in
theorem specWriteFile (a : Option Addr) (cap : Nat) (T : List Nd) (c : Cr) (s : ByteArray) (t : ByteArray) (w : World) (hs : s.size ≤ 1048576) (hl : T.length ≤ 1048576) (hT : ∀ x ∈ T, SmN 1048576 x) (hc : RdN w a T) :
  Calls Tryz.prog 37 #[.slice a T.length cap, .agg #[.int .i64 c.r, .int .i64 c.a, .int .i64 c.s, .int .i64 c.g], .string s, .string t] w (RetMk (writeFile T c s t) w) := by
 obtain ⟨cr, ca, cs, cg⟩ := c
 have HT := Lib.hid hT
 clear hT
 dsimp only
 go_enter Tryz.func37, Tryz.ntmps37
 have S := Sep.start w
 replace S : Sep w (w.alloc (.cells #[.int .i64 cr, .int .i64 ca, .int .i64 cs, .int .i64 cg] 29)) [plBox w.heap.size #[.int .i64 cr, .int .i64 ca, .int .i64 cs, .int .i64 cg] 29] := S.alloc_at (by simp) _ _
 go_wp2_with fail
 generalize (w.alloc (.cells #[.int .i64 cr, .int .i64 ca, .int .i64 cs, .int .i64 cg] 29)) = w1 at *
 refine (specFindNode a cap T ⟨cr, ca, cs, cg⟩ s w1 hs hl HT.out (hc.ext S.ext)).mono ?_
 rintro e w2 ⟨rfl, hE⟩
 replace S := S.step hE
 clear hE
 rcases find_cases T ⟨cr, ca, cs, cg⟩ s with ⟨m, hF, hm_, hTr, hCo⟩ | ⟨f, hf, hF⟩
 rotate_left
 ·have HG := Lib.hid (ga_fault (dir := false) (want := 2) hf hF)
  have HX := Lib.hid (wf_bad (t := t) hf HG.out)
  rw [hF]
  have tf : (f == 0) = false := by simpa using hf
  clear hF hf HG
  dsimp only
  go_wp2
  go_ret2
  exact RetMk.empty S.ext HX.out
 ·obtain ⟨x, b', off, an, cn, ak, ck, hx, rfl, c0, c1, c2, c3, c4, c5, c6, hcn, hck, hrn, hrk⟩ := atNd hc hm_
  have Hx := Lib.hid hx
  have HN := Lib.hid (hTr.nodes m x hx)
  have HCo := Lib.hid hCo
  have HF := Lib.hid hF
  rw [hF]
  have i1 : (m : Int) < (T.length : Int) := by omega
  have hE := S.ext
  have d0 := cell_ext hE c0
  have d1 := cell_ext hE c1
  have d2 := cell_ext hE c2
  have d3 := cell_ext hE c3
  have d4 := cell_ext hE c4
  have d5 := cell_ext hE c5
  have d6 := cell_ext hE c6
  have Hrn := Lib.hid hrn
  have hNl : x.N.length ≤ 1048576 := (HT.out x (List.mem_of_getElem? hx)).2.1
  have HNl := Lib.hid hNl
  clear hx c0 c1 c2 c3 c4 c5 c6 hcn hck hrn hrk hE hF hTr hCo hNl
  dsimp only
  cases hfo : x.fold with
  | true =>
   have HG := Lib.hid (ga_kind (dir := false) (want := 2) HF.out Hx.out (by simp [hfo]))
   have HX := Lib.hid (wf_bad (t := t) (by decide) HG.out)
   rw [hfo] at d0
   clear hfo HG
   go_wp2
   go_ret2
   exact RetMk.empty S.ext HX.out
  | false =>
   have Hfo := Lib.hid hfo
   obtain ⟨⟨bc0, bf0⟩, ⟨bc1, bf1⟩, ⟨bc2, bf2⟩, ⟨bc3, bf3⟩⟩ := bx4 (S.box 0 rfl)
   have HMy : Hid (∀ s : ExtW w2, Calls Tryz.prog 74 #[.agg #[.int .i64 cr, .int .i64 ca, .int .i64 cs, .int .i64 cg], .agg #[.bool false, .int .i64 x.own, .int .i64 x.grp, .int .i64 x.mode, .string x.text, .slice an x.N.length cn, .slice ak x.K.length ck], .int .i64 2] s.x fun e w'' => e = .returned (.bool (Cr.may ⟨cr, ca, cs, cg⟩ x 2)) ∧ ∃ s' : ExtW w2, w'' = s'.x) := Lib.hid (fun s => by
    have hC := specMay cr ca cs cg 2 x an ak cn ck s.x
    rw [hfo] at hC
    exact Calls.at_e hC)
   rw [hfo] at d0
   clear hfo
   go_wp2_with fail
   have q0 := ExtW.cell d0
   have q1 := ExtW.cell d1
   have q2 := ExtW.cell d2
   have q3 := ExtW.cell d3
   have q4 := ExtW.cell d4
   have q5 := ExtW.cell d5
   have q6 := ExtW.cell d6
   have bl := ExtW.lt d0
   have r0 := ExtW.cell bc0
   have r1 := ExtW.cell bc1
   have r2 := ExtW.cell bc2
   have r3 := ExtW.cell bc3
   have br := ExtW.lt bc0
   have S9 := Lib.hid S
   clear d0 d1 d2 d3 d4 d5 d6 bc0 bc1 bc2 bc3 bf0 bf1 bf2 bf3 S
   cases hmay : Cr.may ⟨cr, ca, cs, cg⟩ x 2 with
   | false =>
    have HG := Lib.hid (ga_may (dir := false) (want := 2) HF.out Hx.out Hfo.out hmay)
    have HX := Lib.hid (wf_bad (t := t) (by decide) HG.out)
    rw [hmay] at HMy
    clear hmay HG
    (refine wp_region_quiet_ext (by kernel_rfl) (by kernel_rfl) ?_; (repeat (go_big_quiet_step ((go_at_call 74; exact HMy.out _)))); refine wpQuiet_nil ?_; intro _ hw'; obtain ⟨sq, hw''⟩ := hw'; subst hw'')
    obtain ⟨w5, hw5⟩ := sq
    have HS5 := Lib.hid (S9.out.step hw5)
    clear q0 q1 q2 q3 q4 q5 q6 bl r0 r1 r2 r3 br S9 HMy
    go_wp2
    go_ret2
    exact RetMk.empty HS5.out.ext HX.out
   | true =>
    have HG := Lib.hid (ga_ok (dir := false) (want := 2) HF.out Hx.out Hfo.out hmay)
    rw [hmay] at HMy
    clear hmay
    (refine wp_region_quiet_ext (by kernel_rfl) (by kernel_rfl) ?_; (repeat (go_big_quiet_step ((go_at_call 74; exact HMy.out _)))); refine wpQuiet_nil ?_; intro _ hw'; obtain ⟨sq, hw''⟩ := hw'; subst hw'')
    obtain ⟨w5, hw5⟩ := sq
    have p0 := q0 ⟨w5, hw5⟩
    have p1 := q1 ⟨w5, hw5⟩
    have p2 := q2 ⟨w5, hw5⟩
    have p3 := q3 ⟨w5, hw5⟩
    have p4 := q4 ⟨w5, hw5⟩
    have p5 := q5 ⟨w5, hw5⟩
    have p6 := q6 ⟨w5, hw5⟩
    have HS5 := Lib.hid (S9.out.step hw5)
    clear q0 q1 q2 q3 q4 q5 q6 bl r0 r1 r2 r3 br S9 HMy
    by_cases ht : 40 < t.size
    ·have HX := Lib.hid (wf_full HG.out ht)
     have ti : (40 : Int) < (t.size : Int) := by omega
     clear ht
     go_wp2
     go_ret2
     exact RetMk.empty HS5.out.ext HX.out
    ·have HX := Lib.hid (wf_ok HG.out ht Hx.out)
     have ti : ¬ (40 : Int) < (t.size : Int) := by omega
     clear ht
     go_wp2_with fail
     clear p0 p1 p2 p3 p4 p5 p6
     refine (specCopy (some ⟨b', off, none⟩) cap T w5 hl HT.out (hc.ext HS5.out.ext)).mono ?_
     rintro e w7 ⟨u, vs, rfl, S7⟩
     have S8 := S7.since HS5.out.ext
     clear S7
     obtain ⟨xc, g, cap2, rfl, hcap2, hxc, hxn, hcell, hfz, _⟩ := S8.ndAt 0 rfl Hx.out
     obtain ⟨x', an', cn', ak', ck'⟩ := xc
     dsimp only at hxn
     subst hxn
     have e4 := hcell 4 _ rfl
     have SA := S8.ndSet 0 rfl hxc Hx.out (x' := textNd x' t) 4 (.string t) (by decide) rfl rfl rfl
     have SB : Sep w (w7.setCell ⟨g, m * 7 + 4, none⟩ (.string t)) [plNd (.slice (some ⟨g, 0, none⟩) T.length cap2) (vs.set m ⟨textNd x' t, an', cn', ak', ck'⟩) (T.set m (textNd x' t))] := SA
     have HSB := Lib.hid SB
     clear SA SB S8 hcell hxc hcap2
     go_wp2
     go_ret2
     exact ⟨_, _, by rw [HX.out]; rfl, by rw [HX.out]; exact HSB.out⟩
set_option maxRecDepth 10000 in
set_option maxHeartbeats 8000000 in
theorem specListNames (a : Option Addr) (cap : Nat) (T : List Nd) (c : Cr) (s : ByteArray) (w : World) (hs : s.size ≤ 1048576) (hl : T.length ≤ 1048576) (hT : ∀ x ∈ T, SmN 1048576 x) (hc : RdN w a T) :
  Calls Tryz.prog 36 #[.slice a T.length cap, .agg #[.int .i64 c.r, .int .i64 c.a, .int .i64 c.s, .int .i64 c.g], .string s] w (RetNs (listNames T c s) w) := by
 obtain ⟨cr, ca, cs, cg⟩ := c
 have HT := Lib.hid hT
 clear hT
 dsimp only
 go_enter Tryz.func36, Tryz.ntmps36
 have S := Sep.start w
 replace S : Sep w (w.alloc (.cells #[.int .i64 cr, .int .i64 ca, .int .i64 cs, .int .i64 cg] 29)) [plBox w.heap.size #[.int .i64 cr, .int .i64 ca, .int .i64 cs, .int .i64 cg] 29] := S.alloc_at (by simp) _ _
 go_wp2_with fail
 generalize (w.alloc (.cells #[.int .i64 cr, .int .i64 ca, .int .i64 cs, .int .i64 cg] 29)) = w1 at *
 refine (specFindNode a cap T ⟨cr, ca, cs, cg⟩ s w1 hs hl HT.out (hc.ext S.ext)).mono ?_
 rintro e w2 ⟨rfl, hE⟩
 replace S := S.step hE
 clear hE
 rcases find_cases T ⟨cr, ca, cs, cg⟩ s with ⟨m, hF, hm_, hTr, hCo⟩ | ⟨f, hf, hF⟩
 rotate_left
 ·have HG := Lib.hid (ga_fault (dir := true) (want := 4) hf hF)
  have HX := Lib.hid (li_bad hf HG.out)
  rw [hF]
  have tf : (f == 0) = false := by simpa using hf
  clear hF hf HG
  dsimp only
  go_wp2
  go_ret2
  exact RetNs.empty S.ext HX.out
 ·obtain ⟨x, b', off, an, cn, ak, ck, hx, rfl, c0, c1, c2, c3, c4, c5, c6, hcn, hck, hrn, hrk⟩ := atNd hc hm_
  have Hx := Lib.hid hx
  have HN := Lib.hid (hTr.nodes m x hx)
  have HCo := Lib.hid hCo
  have HF := Lib.hid hF
  rw [hF]
  have i1 : (m : Int) < (T.length : Int) := by omega
  have hE := S.ext
  have d0 := cell_ext hE c0
  have d1 := cell_ext hE c1
  have d2 := cell_ext hE c2
  have d3 := cell_ext hE c3
  have d4 := cell_ext hE c4
  have d5 := cell_ext hE c5
  have d6 := cell_ext hE c6
  have Hrn := Lib.hid hrn
  have hNl : x.N.length ≤ 1048576 := (HT.out x (List.mem_of_getElem? hx)).2.1
  have HNl := Lib.hid hNl
  clear hx c0 c1 c2 c3 c4 c5 c6 hcn hck hrn hrk hE hF hTr hCo hNl
  dsimp only
  cases hfo : x.fold with
  | false =>
   have HG := Lib.hid (ga_kind (dir := true) (want := 4) HF.out Hx.out (by simp [hfo]))
   have HX := Lib.hid (li_bad (by decide) HG.out)
   rw [hfo] at d0
   clear hfo HG
   go_wp2
   go_ret2
   exact RetNs.empty S.ext HX.out
  | true =>
   have Hfo := Lib.hid hfo
   obtain ⟨⟨bc0, bf0⟩, ⟨bc1, bf1⟩, ⟨bc2, bf2⟩, ⟨bc3, bf3⟩⟩ := bx4 (S.box 0 rfl)
   have HMy : Hid (∀ s : ExtW w2, Calls Tryz.prog 74 #[.agg #[.int .i64 cr, .int .i64 ca, .int .i64 cs, .int .i64 cg], .agg #[.bool true, .int .i64 x.own, .int .i64 x.grp, .int .i64 x.mode, .string x.text, .slice an x.N.length cn, .slice ak x.K.length ck], .int .i64 4] s.x fun e w'' => e = .returned (.bool (Cr.may ⟨cr, ca, cs, cg⟩ x 4)) ∧ ∃ s' : ExtW w2, w'' = s'.x) := Lib.hid (fun s => by
    have hC := specMay cr ca cs cg 4 x an ak cn ck s.x
    rw [hfo] at hC
    exact Calls.at_e hC)
   rw [hfo] at d0
   clear hfo
   go_wp2_with fail
   have q0 := ExtW.cell d0
   have q1 := ExtW.cell d1
   have q2 := ExtW.cell d2
   have q3 := ExtW.cell d3
   have q4 := ExtW.cell d4
   have q5 := ExtW.cell d5
   have q6 := ExtW.cell d6
   have bl := ExtW.lt d0
   have r0 := ExtW.cell bc0
   have r1 := ExtW.cell bc1
   have r2 := ExtW.cell bc2
   have r3 := ExtW.cell bc3
   have br := ExtW.lt bc0
   have S9 := Lib.hid S
   clear d0 d1 d2 d3 d4 d5 d6 bc0 bc1 bc2 bc3 bf0 bf1 bf2 bf3 S
   cases hmay : Cr.may ⟨cr, ca, cs, cg⟩ x 4 with
   | false =>
    have HG := Lib.hid (ga_may (dir := true) (want := 4) HF.out Hx.out Hfo.out hmay)
    have HX := Lib.hid (li_bad (by decide) HG.out)
    rw [hmay] at HMy
    clear hmay HG
    (refine wp_region_quiet_ext (by kernel_rfl) (by kernel_rfl) ?_; (repeat (go_big_quiet_step ((go_at_call 74; exact HMy.out _)))); refine wpQuiet_nil ?_; intro _ hw'; obtain ⟨sq, hw''⟩ := hw'; subst hw'')
    obtain ⟨w5, hw5⟩ := sq
    have HS5 := Lib.hid (S9.out.step hw5)
    clear q0 q1 q2 q3 q4 q5 q6 bl r0 r1 r2 r3 br S9 HMy
    go_wp2
    go_ret2
    exact RetNs.empty HS5.out.ext HX.out
   | true =>
    have HG := Lib.hid (ga_ok (dir := true) (want := 4) HF.out Hx.out Hfo.out hmay)
    rw [hmay] at HMy
    clear hmay
    (refine wp_region_quiet_ext (by kernel_rfl) (by kernel_rfl) ?_; (repeat (go_big_quiet_step ((go_at_call 74; exact HMy.out _)))); refine wpQuiet_nil ?_; intro _ hw'; obtain ⟨sq, hw''⟩ := hw'; subst hw'')
    obtain ⟨w5, hw5⟩ := sq
    have p0 := q0 ⟨w5, hw5⟩
    have p1 := q1 ⟨w5, hw5⟩
    have p2 := q2 ⟨w5, hw5⟩
    have p3 := q3 ⟨w5, hw5⟩
    have p4 := q4 ⟨w5, hw5⟩
    have p5 := q5 ⟨w5, hw5⟩
    have p6 := q6 ⟨w5, hw5⟩
    have HS5 := Lib.hid (S9.out.step hw5)
    clear q0 q1 q2 q3 q4 q5 q6 bl r0 r1 r2 r3 br S9 HMy
    have HX := Lib.hid (li_ok HG.out Hx.out)
    have hE5 := HS5.out.ext
    have E6 := (Ext.refl w5).alloc (.cells #[] 9)
    have rdA : Rd 1 encStr1 (w5.alloc (.cells #[] 9)) an x.N := (Hrn.out.ext hE5).ext E6
    have hNl := HNl.out
    have ep5 := cell_ext E6 p5
    go_wp2_with (at_builtin; refine wpList_append_lit rfl _ _ 39 rfl w5.heap.size 9 _ 1 _ Tryz.underlying39 infoStr1 rfl (by decide) encStr1_len encStr1_one w5.heap.size rfl (heap_alloc_new _ _) (Nat.le_refl _) an _ _ x.N rfl rfl rdA (by omega) (by omega) E6.size ?_)
    intro v6 w6 ho6 hE6
    have HSB := Lib.hid (((Sep.start w).step hE5).owned (E6.trans hE6) (Nat.le_refl _) ho6)
    clear ho6 hE6 E6 rdA hE5 ep5 p0 p1 p2 p3 p4 p5 p6
    go_wp2
    go_ret2
    exact ⟨_, by rw [HX.out]; rfl, by rw [HX.out]; exact HSB.out⟩
set_option maxRecDepth 10000 in
set_option maxHeartbeats 8000000 in
theorem specChangeMode (a : Option Addr) (cap : Nat) (T : List Nd) (c : Cr) (s : ByteArray) (md : Int) (w : World) (hs : s.size ≤ 1048576) (hl : T.length ≤ 1048576) (hT : ∀ x ∈ T, SmN 1048576 x) (hc : RdN w a T) :
  Calls Tryz.prog 39 #[.slice a T.length cap, .agg #[.int .i64 c.r, .int .i64 c.a, .int .i64 c.s, .int .i64 c.g], .string s, .int .i64 md] w (RetMk (changeMode T c s md) w) := by
 obtain ⟨cr, ca, cs, cg⟩ := c
 have HT := Lib.hid hT
 clear hT
 dsimp only
 go_enter Tryz.func39, Tryz.ntmps39
 have S := Sep.start w
 replace S : Sep w (w.alloc (.cells #[.int .i64 cr, .int .i64 ca, .int .i64 cs, .int .i64 cg] 29)) [plBox w.heap.size #[.int .i64 cr, .int .i64 ca, .int .i64 cs, .int .i64 cg] 29] := S.alloc_at (by simp) _ _
 go_wp2_with fail
 generalize (w.alloc (.cells #[.int .i64 cr, .int .i64 ca, .int .i64 cs, .int .i64 cg] 29)) = w1 at *
 refine (specFindNode a cap T ⟨cr, ca, cs, cg⟩ s w1 hs hl HT.out (hc.ext S.ext)).mono ?_
 rintro e w2 ⟨rfl, hE⟩
 replace S := S.step hE
 clear hE
 cases hMo : inB md 0 1023 with
 | false =>
  have HMo := Lib.hid hMo
  have HX := Lib.hid (cm_mode (T := T) (c := ⟨cr, ca, cs, cg⟩) (s := s) hMo)
  clear hMo
  go_wp2_with (go_at_call 68; refine (l1In_is HMo.out _).mono ?_; rintro e w' ⟨rfl, rfl⟩)
  go_ret2
  exact RetMk.empty S.ext HX.out
 | true =>
  have HMo := Lib.hid hMo
  clear hMo
  rcases find_cases T ⟨cr, ca, cs, cg⟩ s with ⟨m, hF, hm_, hTr, hCo⟩ | ⟨f, hf, hF⟩
  rotate_left
  ·have HX := Lib.hid (cm_fault HMo.out hf hF)
   rw [hF]
   have tf : (f == 0) = false := by simpa using hf
   clear hF hf
   dsimp only
   go_wp2_with (go_at_call 68; refine (l1In_is HMo.out _).mono ?_; rintro e w' ⟨rfl, rfl⟩)
   go_ret2
   exact RetMk.empty S.ext HX.out
  ·obtain ⟨x, b', off, an, cn, ak, ck, hx, rfl, _, c1, _⟩ := atNd hc hm_
   have Hx := Lib.hid hx
   have HP := Lib.hid (cm_at HMo.out hF hx)
   rw [hF]
   have i1 : (m : Int) < (T.length : Int) := by omega
   have d1 := cell_ext S.ext c1
   clear hx c1 hF hTr hCo
   dsimp only
   obtain ⟨⟨bc0, bf0⟩, ⟨bc1, bf1⟩, ⟨bc2, bf2⟩, ⟨bc3, bf3⟩⟩ := bx4 (S.box 0 rfl)
   go_wp2_with (first | (go_at_call 68; refine (l1In_is HMo.out _).mono ?_; rintro e w' ⟨rfl, rfl⟩) | fail)
   have q1 := ExtW.cell d1
   have bl := ExtW.lt d1
   have r1 := ExtW.cell bc1
   have br := ExtW.lt bc1
   have S9 := Lib.hid S
   clear d1 bc0 bc1 bc2 bc3 bf0 bf1 bf2 bf3 S
   rcases (show ca = 0 ∨ (ca ≠ 0 ∧ ca = x.own) ∨ (ca ≠ 0 ∧ ca ≠ x.own) by omega) with hcase | hcase | hcase
   ·have HX := Lib.hid (HP.out.trans (if_neg (fun h => h.1 hcase)))
    have ta : ca = 0 := hcase
    clear hcase HP
    subst ta
    (refine wp_region_quiet_ext (by kernel_rfl) (by kernel_rfl) ?_; (repeat (go_big_quiet_step ((fail)))); refine wpQuiet_nil ?_; intro _ hw'; obtain ⟨sq, hw''⟩ := hw'; subst hw'')
    obtain ⟨w5, hw5⟩ := sq
    have HS5 := Lib.hid (S9.out.step hw5)
    clear q1 bl r1 br S9
    go_wp2_with fail
    refine (specCopy (some ⟨b', off, none⟩) cap T w5 hl HT.out (hc.ext HS5.out.ext)).mono ?_
    rintro e w7 ⟨u, vs, rfl, S7⟩
    have S8 := S7.since HS5.out.ext
    clear S7
    obtain ⟨xc, g, cap2, rfl, hcap2, hxc, hxn, hcell, hfz, _⟩ := S8.ndAt 0 rfl Hx.out
    obtain ⟨x', an', cn', ak', ck'⟩ := xc
    dsimp only at hxn
    subst hxn
    have e3 := hcell 3 _ rfl
    have SA := S8.ndSet 0 rfl hxc Hx.out (x' := modeNd x' md) 3 (.int .i64 md) (by decide) rfl rfl rfl
    have SB : Sep w (w7.setCell ⟨g, m * 7 + 3, none⟩ (.int .i64 md)) [plNd (.slice (some ⟨g, 0, none⟩) T.length cap2) (vs.set m ⟨modeNd x' md, an', cn', ak', ck'⟩) (T.set m (modeNd x' md))] := SA
    have HSB := Lib.hid SB
    clear SA SB S8 hcell hxc hcap2
    go_wp2
    go_ret2
    exact ⟨_, _, by rw [HX.out]; rfl, by rw [HX.out]; exact HSB.out⟩
   ·have HX := Lib.hid (HP.out.trans (if_neg (fun h => h.2 hcase.2)))
    have ta : (ca != 0) = true := by simpa using hcase.1
    have to_ : (ca != x.own) = false := by simpa using hcase.2
    clear hcase HP
    (refine wp_region_quiet_ext (by kernel_rfl) (by kernel_rfl) ?_; (repeat (go_big_quiet_step ((fail)))); refine wpQuiet_nil ?_; intro _ hw'; obtain ⟨sq, hw''⟩ := hw'; subst hw'')
    obtain ⟨w5, hw5⟩ := sq
    have HS5 := Lib.hid (S9.out.step hw5)
    clear q1 bl r1 br S9
    go_wp2_with fail
    refine (specCopy (some ⟨b', off, none⟩) cap T w5 hl HT.out (hc.ext HS5.out.ext)).mono ?_
    rintro e w7 ⟨u, vs, rfl, S7⟩
    have S8 := S7.since HS5.out.ext
    clear S7
    obtain ⟨xc, g, cap2, rfl, hcap2, hxc, hxn, hcell, hfz, _⟩ := S8.ndAt 0 rfl Hx.out
    obtain ⟨x', an', cn', ak', ck'⟩ := xc
    dsimp only at hxn
    subst hxn
    have e3 := hcell 3 _ rfl
    have SA := S8.ndSet 0 rfl hxc Hx.out (x' := modeNd x' md) 3 (.int .i64 md) (by decide) rfl rfl rfl
    have SB : Sep w (w7.setCell ⟨g, m * 7 + 3, none⟩ (.int .i64 md)) [plNd (.slice (some ⟨g, 0, none⟩) T.length cap2) (vs.set m ⟨modeNd x' md, an', cn', ak', ck'⟩) (T.set m (modeNd x' md))] := SA
    have HSB := Lib.hid SB
    clear SA SB S8 hcell hxc hcap2
    go_wp2
    go_ret2
    exact ⟨_, _, by rw [HX.out]; rfl, by rw [HX.out]; exact HSB.out⟩
   ·have HX := Lib.hid (HP.out.trans (if_pos hcase))
    have ta : (ca != 0) = true := by simpa using hcase.1
    have to_ : (ca != x.own) = true := by simpa using hcase.2
    clear hcase HP
    (refine wp_region_quiet_ext (by kernel_rfl) (by kernel_rfl) ?_; (repeat (go_big_quiet_step ((fail)))); refine wpQuiet_nil ?_; intro _ hw'; obtain ⟨sq, hw''⟩ := hw'; subst hw'')
    obtain ⟨w5, hw5⟩ := sq
    have HS5 := Lib.hid (S9.out.step hw5)
    clear q1 bl r1 br S9
    go_wp2
    go_ret2
    exact RetMk.empty HS5.out.ext HX.out
theorem and7 : ∀ q : Fin 1024, bits BinOp.and IntKind.i64 (q.val : Int) 7 = (q.val : Int) % 8 := by decide +kernel
theorem and7' {q : Int} (h0 : 0 ≤ q) (h1 : q ≤ 1023) : bits BinOp.and IntKind.i64 q 7 = q % 8 := by
 have := and7 ⟨q.toNat, by omega⟩
 rwa [show ((q.toNat : Nat) : Int) = q by omega] at this
theorem and1 : ∀ q : Fin 256, bits BinOp.and IntKind.i64 (q.val : Int) 1 = (q.val : Int) % 2 := by decide +kernel
theorem and1' {q : Int} (h0 : 0 ≤ q) (h1 : q ≤ 255) : bits BinOp.and IntKind.i64 q 1 = q % 2 := by
 have := and1 ⟨q.toNat, by omega⟩
 rwa [show ((q.toNat : Nat) : Int) = q by omega] at this
set_option maxHeartbeats 2000000 in
theorem implRightsFor (mode cls : Int) (w : World) (hm : inB mode 0 1023 = true) (hc : cls = 0 ∨ cls = 1 ∨ cls = 2) : Calls Tryz.prog 176 #[.int .i64 mode, .int .i64 cls] w fun e w' => e = .returned (.int .i64 (rightsFor mode cls)) ∧ w = w' := by
 obtain ⟨b1, b2⟩ := inB_iff.1 hm
 rcases hc with rfl | rfl | rfl
 ·have HR := Lib.hid (show rightsFor mode 0 = mode / 64 % 8 by rw [rightsFor, if_pos ⟨hm, (by decide)⟩]; simp)
  go_enter Tryz.func176, Tryz.ntmps176
  go_wp2
  go_ret
  exact ⟨by rw [HR.out, ← and7' (by omega) (by omega)]; rfl, rfl⟩
 ·have HR := Lib.hid (show rightsFor mode 1 = mode / 8 % 8 by rw [rightsFor, if_pos ⟨hm, (by decide)⟩]; simp)
  go_enter Tryz.func176, Tryz.ntmps176
  go_wp2
  go_ret
  exact ⟨by rw [HR.out, ← and7' (by omega) (by omega)]; rfl, rfl⟩
 ·have HR := Lib.hid (show rightsFor mode 2 = mode % 8 by rw [rightsFor, if_pos ⟨hm, (by decide)⟩]; simp)
  go_enter Tryz.func176, Tryz.ntmps176
  go_wp2
  go_ret
  exact ⟨by rw [HR.out, ← and7' (by omega) (by omega)]; rfl, rfl⟩
set_option maxHeartbeats 2000000 in
theorem implHasGroup (gs g : Int) (w : World) (h1 : inB gs 0 255 = true) (h2 : inB g 0 7 = true) : Calls Tryz.prog 188 #[.int .i64 gs, .int .i64 g] w fun e w' => e = .returned (.bool (hasGroup gs g)) ∧ w = w' := by
 obtain ⟨a1, a2⟩ := inB_iff.1 h2
 obtain ⟨b1, b2⟩ := inB_iff.1 h1
 rcases (show g = 0 ∨ g = 1 ∨ g = 2 ∨ g = 3 ∨ g = 4 ∨ g = 5 ∨ g = 6 ∨ g = 7 by omega) with rfl | rfl | rfl | rfl | rfl | rfl | rfl | rfl
 all_goals
  have HR := Lib.hid h1
  have H2 := Lib.hid h2
  clear h1 h2
  go_enter Tryz.func188, Tryz.ntmps188
  go_wp2_with (first | (go_at_call 91; refine (within_is HR.out _).mono ?_; rintro e w' ⟨rfl, rfl⟩) | (go_at_call 139; refine (isGroup_is H2.out _).mono ?_; rintro e w' ⟨rfl, rfl⟩))
  go_ret
  refine ⟨?_, rfl⟩
  rw [and1' (by omega) (by omega)]
  simp [hasGroup, HR.out, H2.out]
set_option maxHeartbeats 2000000 in
theorem implClassOf (r a s gs owner grp : Int) (w : World) (hc : CredOk r a s gs) (ho : inB owner 0 99 = true) (hg : inB grp 0 7 = true) : Calls Tryz.prog 177 #[.agg #[.int .i64 r, .int .i64 a, .int .i64 s, .int .i64 gs], .int .i64 owner, .int .i64 grp] w (RetI (classOf r a s gs owner grp) w) := by
 have HC := Lib.hid (classOf_good (r := r) (a := a) (s := s) (gs := gs) (owner := owner) (grp := grp) ⟨hc, ho, hg⟩)
 have HG := Lib.hid (fun (w : World) => implHasGroup gs grp w hc.2.2.2 hg)
 clear hc ho hg
 go_enter Tryz.func177, Tryz.ntmps177
 have S := Sep.start w
 replace S : Sep w (w.alloc (.cells #[.int .i64 r, .int .i64 a, .int .i64 s, .int .i64 gs] 29)) [plBox w.heap.size #[.int .i64 r, .int .i64 a, .int .i64 s, .int .i64 gs] 29] := S.alloc_at (by simp) _ _
 go_upto_region 1 with fail
 generalize (w.alloc (.cells #[.int .i64 r, .int .i64 a, .int .i64 s, .int .i64 gs] 29)) = w1 at *
 obtain ⟨⟨bc0, bf0⟩, ⟨bc1, bf1⟩, ⟨bc2, bf2⟩, ⟨bc3, bf3⟩⟩ := bx4 (S.box 0 rfl)
 by_cases h3 : a = owner
 ·have HB := Lib.hid (HC.out.trans (if_pos h3))
  subst h3
  go_wp2
  go_ret
  exact ⟨by rw [HB.out]; rfl, S.ext⟩
 ·have t3 : (a == owner) = false := by simpa using h3
  have HN := Lib.hid (HC.out.trans (if_neg h3))
  clear h3 HC
  cases h4 : hasGroup gs grp with
  | false =>
   have HB := Lib.hid (HN.out.trans (if_neg (by rw [h4]; exact Bool.false_ne_true)))
   have H4 := Lib.hid h4
   clear h4
   go_wp2_with (go_at_call 188; refine (HG.out _).mono ?_; rintro e w' ⟨rfl, rfl⟩; rw [H4.out])
   go_ret
   exact ⟨by rw [HB.out]; rfl, S.ext⟩
  | true =>
   have HB := Lib.hid (HN.out.trans (if_pos h4))
   have H4 := Lib.hid h4
   clear h4
   go_wp2_with (go_at_call 188; refine (HG.out _).mono ?_; rintro e w' ⟨rfl, rfl⟩; rw [H4.out])
   go_ret
   exact ⟨by rw [HB.out]; rfl, S.ext⟩
def bAnd (x y : Int) : Int := bits BinOp.and IntKind.i64 x y
def bOr (x y : Int) : Int := bits BinOp.or IntKind.i64 x y
def bNot (x y : Int) : Int := bits BinOp.andNot IntKind.i64 x y
theorem may_tab0 : ∀ (r0 r1 r2 : Fin 8) (c : Fin 3) (w : Fin 5), w.val ≠ 0 →
  (bNot (w.val : Int) ((if c.val = 0 then (r0.val : Int) else if c.val = 1 then (r1.val : Int) else (r2.val : Int))) == 0 || (bAnd (w.val : Int) 1 == 0 || bAnd (bOr (bOr (r0.val : Int) (r1.val : Int)) (r2.val : Int)) 1 != 0)) = ((w.val : Int).tmod 2 == 0 || (bOr (bOr (r0.val : Int) (r1.val : Int)) (r2.val : Int)).tmod 2 == 1) := by decide +kernel
theorem may_tab1 : ∀ (r0 : Fin 8) (w : Fin 5), w.val ≠ 0 → (bNot (w.val : Int) (r0.val : Int) == 0) = (bAnd (r0.val : Int) (w.val : Int) == (w.val : Int)) := by decide +kernel
theorem rights_in {mode cls : Int} (hm : inB mode 0 1023 = true) (hc : cls = 0 ∨ cls = 1 ∨ cls = 2) : 0 ≤ rightsFor mode cls ∧ rightsFor mode cls < 8 := by
 obtain ⟨b1, b2⟩ := inB_iff.1 hm
 rcases hc with rfl | rfl | rfl
 ·rw [rightsFor, if_pos ⟨hm, (by decide)⟩]; simp; omega
 ·rw [rightsFor, if_pos ⟨hm, (by decide)⟩]; simp; omega
 ·rw [rightsFor, if_pos ⟨hm, (by decide)⟩]; simp; omega
theorem classOf_in {r a s gs owner grp : Int} (hc : CredOk r a s gs) (ho : inB owner 0 99 = true) (hg : inB grp 0 7 = true) : classOf r a s gs owner grp = 0 ∨ classOf r a s gs owner grp = 1 ∨ classOf r a s gs owner grp = 2 := by
 rw [classOf_good ⟨hc, ho, hg⟩]
 split
 ·exact .inl rfl
 ·split
  ·exact .inr (.inl rfl)
  ·exact .inr (.inr rfl)
theorem may_same {r a s gs owner grp mode want : Int} (hc : CredOk r a s gs) (ho : inB owner 0 99 = true) (hg : inB grp 0 7 = true) (hm : inB mode 0 1023 = true) (hw : 1 ≤ want ∧ want ≤ 4) :
  mayDo r a s gs owner grp mode want = (bNot want (rightsFor mode (classOf r a s gs owner grp)) == 0 || (a == 0 && (bAnd want 1 == 0 || bAnd (bOr (bOr (rightsFor mode 0) (rightsFor mode 1)) (rightsFor mode 2)) 1 != 0))) := by
 have hcl := classOf_in hc ho hg
 obtain ⟨z, hz, hz3⟩ : ∃ z : Nat, classOf r a s gs owner grp = (z : Int) ∧ z < 3 := by
  rcases hcl with h | h | h
  ·exact ⟨0, h, by omega⟩
  ·exact ⟨1, h, by omega⟩
  ·exact ⟨2, h, by omega⟩
 have hq := fun c h => rights_in (cls := c) hm h
 obtain ⟨a0, a1⟩ := hq 0 (.inl rfl)
 obtain ⟨b0, b1⟩ := hq 1 (.inr (.inl rfl))
 obtain ⟨c0, c1⟩ := hq 2 (.inr (.inr rfl))
 obtain ⟨x0, hx0⟩ : ∃ x : Nat, rightsFor mode 0 = x := ⟨(rightsFor mode 0).toNat, by omega⟩
 obtain ⟨x1, hx1⟩ : ∃ x : Nat, rightsFor mode 1 = x := ⟨(rightsFor mode 1).toNat, by omega⟩
 obtain ⟨x2, hx2⟩ : ∃ x : Nat, rightsFor mode 2 = x := ⟨(rightsFor mode 2).toNat, by omega⟩
 obtain ⟨u, hu⟩ : ∃ u : Nat, want = u := ⟨want.toNat, by omega⟩
 have hcr : rightsFor mode (z : Int) = if z = 0 then (x0 : Int) else if z = 1 then (x1 : Int) else (x2 : Int) := by
  rcases (show z = 0 ∨ z = 1 ∨ z = 2 by omega) with rfl | rfl | rfl
  ·simpa using hx0
  ·simpa using hx1
  ·simpa using hx2
 rw [mayDo, hz, if_neg (show ¬ (((z : Nat) : Int) < 0 ∨ inB mode 0 1023 = false ∨ inB want 0 7 = false) by
  rw [hm, show inB want 0 7 = true from inB_iff.2 ⟨by omega, by omega⟩]
  simp), hcr]
 have e1 := may_tab0 ⟨x0, by omega⟩ ⟨x1, by omega⟩ ⟨x2, by omega⟩ ⟨z, hz3⟩ ⟨u, by omega⟩ (show u ≠ 0 by omega)
 dsimp only at e1
 by_cases ha : a = 0
 ·rw [if_pos ha, hx0, hx1, hx2, hu]
  rw [show (a == 0) = true by simpa using ha, Bool.true_and, e1]
  rfl
 ·rw [if_neg ha, show (a == 0) = false by simpa using ha, Bool.false_and, Bool.or_false, hu]
  rcases (show z = 0 ∨ z = 1 ∨ z = 2 by omega) with rfl | rfl | rfl
  ·exact (may_tab1 ⟨x0, by omega⟩ ⟨u, by omega⟩ (show u ≠ 0 by omega)).symm
  ·exact (may_tab1 ⟨x1, by omega⟩ ⟨u, by omega⟩ (show u ≠ 0 by omega)).symm
  ·exact (may_tab1 ⟨x2, by omega⟩ ⟨u, by omega⟩ (show u ≠ 0 by omega)).symm
set_option maxRecDepth 10000 in
set_option maxHeartbeats 4000000 in
theorem implMayDo (r a s gs owner grp mode want : Int) (w : World) (hc : CredOk r a s gs) (ho : inB owner 0 99 = true) (hg : inB grp 0 7 = true) (hm : inB mode 0 1023 = true) (hw : 1 ≤ want ∧ want ≤ 4) :
  Calls Tryz.prog 153 #[.agg #[.int .i64 r, .int .i64 a, .int .i64 s, .int .i64 gs], .int .i64 owner, .int .i64 grp, .int .i64 mode, .int .i64 want] w (fun e w' => e = .returned (.bool (mayDo r a s gs owner grp mode want)) ∧ Ext w w') := by
 have HE := Lib.hid (may_same hc ho hg hm hw)
 have HM := Lib.hid hm
 have HCl := Lib.hid (classOf_in hc ho hg)
 have HCO := Lib.hid (fun (w : World) => implClassOf r a s gs owner grp w hc ho hg)
 clear hc ho hg hm
 go_enter Tryz.func153, Tryz.ntmps153
 have S := Sep.start w
 replace S : Sep w (w.alloc (.cells #[.int .i64 r, .int .i64 a, .int .i64 s, .int .i64 gs] 29)) [plBox w.heap.size #[.int .i64 r, .int .i64 a, .int .i64 s, .int .i64 gs] 29] := S.alloc_at (by simp) _ _
 go_upto_region 1 with fail
 generalize (w.alloc (.cells #[.int .i64 r, .int .i64 a, .int .i64 s, .int .i64 gs] 29)) = w1 at *
 obtain ⟨⟨bc0, bf0⟩, ⟨bc1, bf1⟩, ⟨bc2, bf2⟩, ⟨bc3, bf3⟩⟩ := bx4 (S.box 0 rfl)
 go_wp2_with fail
 refine (HCO.out w1).mono ?_
 rintro e w2 ⟨rfl, hE⟩
 clear bc0 bf0 bc1 bf1 bc2 bf2 bc3 bf3
 replace S := S.step hE
 clear hE
 generalize classOf r a s gs owner grp = cl at *
 obtain ⟨⟨bc0, bf0⟩, ⟨bc1, bf1⟩, ⟨bc2, bf2⟩, ⟨bc3, bf3⟩⟩ := bx4 (S.box 0 rfl)
 cases hn : (bNot want (rightsFor mode cl) == 0) with
 | true =>
  have hn2 : (bits BinOp.andNot IntKind.i64 want (rightsFor mode cl) == 0) = true := hn
  have HX : Hid (mayDo r a s gs owner grp mode want = true) := Lib.hid (by rw [HE.out, hn]; rfl)
  clear hn HE
  go_wp2_with (go_at_call 176; refine (implRightsFor _ _ _ HM.out (by first | exact HCl.out | decide)).mono ?_; rintro e w' ⟨rfl, rfl⟩)
  go_ret
  exact ⟨by rw [HX.out]; rfl, S.ext⟩
 | false =>
  have hn2 : (bits BinOp.andNot IntKind.i64 want (rightsFor mode cl) == 0) = false := hn
  have HX : Hid (mayDo r a s gs owner grp mode want = (a == 0 && (bAnd want 1 == 0 || bAnd (bOr (bOr (rightsFor mode 0) (rightsFor mode 1)) (rightsFor mode 2)) 1 != 0))) := Lib.hid (by rw [HE.out, hn]; rfl)
  clear hn HE
  go_wp2_with (go_at_call 176; refine (implRightsFor _ _ _ HM.out (by first | exact HCl.out | decide)).mono ?_; rintro e w' ⟨rfl, rfl⟩)
  all_goals go_ret
  all_goals exact ⟨by rw [HX.out]; first | rfl | (unfold bAnd bOr; simp_all), S.ext⟩
def lays147_ren : Go.Shelf.Ren := ⟨fun | 147 => 167 | 221 => 78 | 268 => 110 | 138 => 111 | 143 => 112 | 195 => 143 | 197 => 144 | 218 => 145 | 219 => 146 | 260 => 161 | 217 => 162 | 225 => 163 | 224 => 164 | 267 => 165 | 266 => 181 | 314 => 182 | n => n, fun | 9 => 9 | 3 => 3 | 31 => 39 | 4 => 4 | 0 => 0 | 105 => 149 | 21 => 21 | 5 => 5 | 46 => 157 | 119 => 172 | 139 => 175 | 138 => 174 | 146 => 177 | 51 => 176 | n => n, fun | 1 => 0 | 3 => 1 | 4 => 2 | n => n⟩
theorem lays147 : Go.Proofs.Lays.n147 Tryz.prog lays147_ren where
 mixed := by kernel_rfl
 f138 := Tryz.func111.trans (congrArg some (by kernel_rfl))
 f143 := Tryz.func112.trans (congrArg some (by kernel_rfl))
 f147 := Tryz.func167.trans (congrArg some (by kernel_rfl))
 f195 := Tryz.func143.trans (congrArg some (by kernel_rfl))
 f197 := Tryz.func144.trans (congrArg some (by kernel_rfl))
 f217 := Tryz.func162.trans (congrArg some (by kernel_rfl))
 f218 := Tryz.func145.trans (congrArg some (by kernel_rfl))
 f219 := Tryz.func146.trans (congrArg some (by kernel_rfl))
 f221 := Tryz.func78.trans (congrArg some (by kernel_rfl))
 f224 := Tryz.func164.trans (congrArg some (by kernel_rfl))
 f225 := Tryz.func163.trans (congrArg some (by kernel_rfl))
 f260 := Tryz.func161.trans (congrArg some (by kernel_rfl))
 f266 := Tryz.func181.trans (congrArg some (by kernel_rfl))
 f267 := Tryz.func165.trans (congrArg some (by kernel_rfl))
 f268 := Tryz.func110.trans (congrArg some (by kernel_rfl))
 f314 := Tryz.func182.trans (congrArg some (by kernel_rfl))
 t0 := Tryz.underlying0
 a0 := Tryz.isAgg0
 z0 := Tryz.sizeOf0
 v0 := Tryz.zeroValue0
 t3 := Tryz.underlying3
 a3 := Tryz.isAgg3
 z3 := Tryz.sizeOf3
 v3 := Tryz.zeroValue3
 t4 := Tryz.underlying4
 a4 := Tryz.isAgg4
 z4 := Tryz.sizeOf4
 v4 := Tryz.zeroValue4
 t5 := Tryz.underlying5
 a5 := Tryz.isAgg5
 z5 := Tryz.sizeOf5
 v5 := Tryz.zeroValue5
 t9 := Tryz.underlying9
 a9 := Tryz.isAgg9
 z9 := Tryz.sizeOf9
 v9 := Tryz.zeroValue9
 t21 := Tryz.underlying21
 a21 := Tryz.isAgg21
 z21 := Tryz.sizeOf21
 v21 := Tryz.zeroValue21
 t31 := Tryz.underlying39
 a31 := Tryz.isAgg39
 z31 := Tryz.sizeOf39
 v31 := Tryz.zeroValue39
 t46 := Tryz.underlying157
 a46 := Tryz.isAgg157
 z46 := Tryz.sizeOf157
 v46 := Tryz.zeroValue157
 t51 := Tryz.underlying176
 a51 := Tryz.isAgg176
 z51 := Tryz.sizeOf176
 v51 := Tryz.zeroValue176
 t105 := Tryz.underlying149
 a105 := Tryz.isAgg149
 z105 := Tryz.sizeOf149
 v105 := Tryz.zeroValue149
 t119 := Tryz.underlying172
 a119 := Tryz.isAgg172
 z119 := Tryz.sizeOf172
 t138 := Tryz.underlying174
 a138 := Tryz.isAgg174
 z138 := Tryz.sizeOf174
 v138 := Tryz.zeroValue174
 t139 := Tryz.underlying175
 a139 := Tryz.isAgg175
 z139 := Tryz.sizeOf175
 v139 := Tryz.zeroValue175
 t146 := Tryz.underlying177
 a146 := Tryz.isAgg177
 z146 := Tryz.sizeOf177
 v146 := Tryz.zeroValue177
 g1 := by kernel_rfl
 g3 := by kernel_rfl
 g4 := by kernel_rfl
def lays146_ren : Go.Shelf.Ren := ⟨fun | 146 => 44 | 221 => 78 | 268 => 110 | 138 => 111 | 143 => 112 | 195 => 143 | 197 => 144 | 218 => 145 | 219 => 146 | 260 => 161 | 217 => 162 | 225 => 163 | 224 => 164 | 267 => 165 | 266 => 181 | 314 => 182 | n => n, fun | 9 => 9 | 31 => 39 | 3 => 3 | 4 => 4 | 0 => 0 | 105 => 149 | 21 => 21 | 5 => 5 | 46 => 157 | 119 => 172 | 139 => 175 | 138 => 174 | 146 => 177 | 51 => 176 | n => n, fun | 1 => 0 | 3 => 1 | 4 => 2 | n => n⟩
theorem lays146 : Go.Proofs.Lays.n146 Tryz.prog lays146_ren where
 mixed := by kernel_rfl
 f138 := Tryz.func111.trans (congrArg some (by kernel_rfl))
 f143 := Tryz.func112.trans (congrArg some (by kernel_rfl))
 f146 := Tryz.func44.trans (congrArg some (by kernel_rfl))
 f195 := Tryz.func143.trans (congrArg some (by kernel_rfl))
 f197 := Tryz.func144.trans (congrArg some (by kernel_rfl))
 f217 := Tryz.func162.trans (congrArg some (by kernel_rfl))
 f218 := Tryz.func145.trans (congrArg some (by kernel_rfl))
 f219 := Tryz.func146.trans (congrArg some (by kernel_rfl))
 f221 := Tryz.func78.trans (congrArg some (by kernel_rfl))
 f224 := Tryz.func164.trans (congrArg some (by kernel_rfl))
 f225 := Tryz.func163.trans (congrArg some (by kernel_rfl))
 f260 := Tryz.func161.trans (congrArg some (by kernel_rfl))
 f266 := Tryz.func181.trans (congrArg some (by kernel_rfl))
 f267 := Tryz.func165.trans (congrArg some (by kernel_rfl))
 f268 := Tryz.func110.trans (congrArg some (by kernel_rfl))
 f314 := Tryz.func182.trans (congrArg some (by kernel_rfl))
 t0 := Tryz.underlying0
 a0 := Tryz.isAgg0
 z0 := Tryz.sizeOf0
 v0 := Tryz.zeroValue0
 t3 := Tryz.underlying3
 a3 := Tryz.isAgg3
 z3 := Tryz.sizeOf3
 v3 := Tryz.zeroValue3
 t4 := Tryz.underlying4
 a4 := Tryz.isAgg4
 z4 := Tryz.sizeOf4
 v4 := Tryz.zeroValue4
 t5 := Tryz.underlying5
 a5 := Tryz.isAgg5
 z5 := Tryz.sizeOf5
 v5 := Tryz.zeroValue5
 t9 := Tryz.underlying9
 a9 := Tryz.isAgg9
 z9 := Tryz.sizeOf9
 v9 := Tryz.zeroValue9
 t21 := Tryz.underlying21
 a21 := Tryz.isAgg21
 z21 := Tryz.sizeOf21
 v21 := Tryz.zeroValue21
 t31 := Tryz.underlying39
 a31 := Tryz.isAgg39
 z31 := Tryz.sizeOf39
 v31 := Tryz.zeroValue39
 t46 := Tryz.underlying157
 a46 := Tryz.isAgg157
 z46 := Tryz.sizeOf157
 v46 := Tryz.zeroValue157
 t51 := Tryz.underlying176
 a51 := Tryz.isAgg176
 z51 := Tryz.sizeOf176
 v51 := Tryz.zeroValue176
 t105 := Tryz.underlying149
 a105 := Tryz.isAgg149
 z105 := Tryz.sizeOf149
 v105 := Tryz.zeroValue149
 t119 := Tryz.underlying172
 a119 := Tryz.isAgg172
 z119 := Tryz.sizeOf172
 t138 := Tryz.underlying174
 a138 := Tryz.isAgg174
 z138 := Tryz.sizeOf174
 v138 := Tryz.zeroValue174
 t139 := Tryz.underlying175
 a139 := Tryz.isAgg175
 z139 := Tryz.sizeOf175
 v139 := Tryz.zeroValue175
 t146 := Tryz.underlying177
 a146 := Tryz.isAgg177
 z146 := Tryz.sizeOf177
 v146 := Tryz.zeroValue177
 g1 := by kernel_rfl
 g3 := by kernel_rfl
 g4 := by kernel_rfl
def lays156_ren : Go.Shelf.Ren := ⟨fun | 156 => 90 | 165 => 129 | 166 => 130 | 169 => 131 | 240 => 154 | 241 => 155 | 276 => 178 | 277 => 179 | n => n, fun | 31 => 39 | 9 => 9 | 3 => 3 | 4 => 4 | 0 => 0 | 20 => 20 | 72 => 133 | 76 => 137 | 70 => 131 | 37 => 38 | 75 => 136 | 127 => 158 | 164 => 169 | 5 => 5 | 80 => 139 | n => n, fun | n => n⟩
theorem lays156 : Go.Proofs.Lays.n156 Tryz.prog lays156_ren where
 mixed := by kernel_rfl
 f156 := Tryz.func90.trans (congrArg some (by kernel_rfl))
 f165 := Tryz.func129.trans (congrArg some (by kernel_rfl))
 f166 := Tryz.func130.trans (congrArg some (by kernel_rfl))
 f169 := Tryz.func131.trans (congrArg some (by kernel_rfl))
 f240 := Tryz.func154.trans (congrArg some (by kernel_rfl))
 f241 := Tryz.func155.trans (congrArg some (by kernel_rfl))
 f276 := Tryz.func178.trans (congrArg some (by kernel_rfl))
 f277 := Tryz.func179.trans (congrArg some (by kernel_rfl))
 t0 := Tryz.underlying0
 a0 := Tryz.isAgg0
 z0 := Tryz.sizeOf0
 v0 := Tryz.zeroValue0
 t3 := Tryz.underlying3
 a3 := Tryz.isAgg3
 z3 := Tryz.sizeOf3
 v3 := Tryz.zeroValue3
 t4 := Tryz.underlying4
 a4 := Tryz.isAgg4
 z4 := Tryz.sizeOf4
 v4 := Tryz.zeroValue4
 t9 := Tryz.underlying9
 a9 := Tryz.isAgg9
 z9 := Tryz.sizeOf9
 v9 := Tryz.zeroValue9
 t20 := Tryz.underlying20
 a20 := Tryz.isAgg20
 z20 := Tryz.sizeOf20
 v20 := Tryz.zeroValue20
 t31 := Tryz.underlying39
 a31 := Tryz.isAgg39
 z31 := Tryz.sizeOf39
 v31 := Tryz.zeroValue39
 t37 := Tryz.underlying38
 a37 := Tryz.isAgg38
 z37 := Tryz.sizeOf38
 v37 := Tryz.zeroValue38
 t70 := Tryz.underlying131
 a70 := Tryz.isAgg131
 z70 := Tryz.sizeOf131
 v70 := Tryz.zeroValue131
 t72 := Tryz.underlying133
 a72 := Tryz.isAgg133
 z72 := Tryz.sizeOf133
 v72 := Tryz.zeroValue133
 t75 := Tryz.underlying136
 a75 := Tryz.isAgg136
 z75 := Tryz.sizeOf136
 v75 := Tryz.zeroValue136
 t76 := Tryz.underlying137
 a76 := Tryz.isAgg137
 z76 := Tryz.sizeOf137
 v76 := Tryz.zeroValue137
 t127 := Tryz.underlying158
 a127 := Tryz.isAgg158
 z127 := Tryz.sizeOf158
 v127 := Tryz.zeroValue158
 t164 := Tryz.underlying169
 a164 := Tryz.isAgg169
 z164 := Tryz.sizeOf169
 v164 := Tryz.zeroValue169
def lays26_ren : Go.Shelf.Ren := ⟨fun | 26 => 149 | 33 => 170 | 34 => 171 | 38 => 185 | n => n, fun | 24 => 39 | 9 => 9 | 3 => 3 | 4 => 4 | 40 => 157 | 0 => 0 | n => n, fun | n => n⟩
theorem lays26 : Go.Proofs.Lays2.n26 Tryz.prog lays26_ren where
 mixed := by kernel_rfl
 f26 := Tryz.func149.trans (congrArg some (by kernel_rfl))
 f33 := Tryz.func170.trans (congrArg some (by kernel_rfl))
 f34 := Tryz.func171.trans (congrArg some (by kernel_rfl))
 f38 := Tryz.func185.trans (congrArg some (by kernel_rfl))
 t0 := Tryz.underlying0
 a0 := Tryz.isAgg0
 z0 := Tryz.sizeOf0
 v0 := Tryz.zeroValue0
 t3 := Tryz.underlying3
 a3 := Tryz.isAgg3
 z3 := Tryz.sizeOf3
 v3 := Tryz.zeroValue3
 t4 := Tryz.underlying4
 a4 := Tryz.isAgg4
 z4 := Tryz.sizeOf4
 v4 := Tryz.zeroValue4
 t9 := Tryz.underlying9
 a9 := Tryz.isAgg9
 z9 := Tryz.sizeOf9
 v9 := Tryz.zeroValue9
 t24 := Tryz.underlying39
 a24 := Tryz.isAgg39
 z24 := Tryz.sizeOf39
 v24 := Tryz.zeroValue39
 t40 := Tryz.underlying157
 a40 := Tryz.isAgg157
 z40 := Tryz.sizeOf157
 v40 := Tryz.zeroValue157
def lays109_ren : Go.Shelf.Ren := ⟨fun | 109 => 125 | n => n, fun | 31 => 39 | 9 => 9 | 3 => 3 | 0 => 0 | 4 => 4 | n => n, fun | n => n⟩
theorem lays109 : Go.Proofs.Lays.n109 Tryz.prog lays109_ren where
 mixed := by kernel_rfl
 f109 := Tryz.func125.trans (congrArg some (by kernel_rfl))
 t0 := Tryz.underlying0
 a0 := Tryz.isAgg0
 z0 := Tryz.sizeOf0
 v0 := Tryz.zeroValue0
 t3 := Tryz.underlying3
 a3 := Tryz.isAgg3
 z3 := Tryz.sizeOf3
 v3 := Tryz.zeroValue3
 t4 := Tryz.underlying4
 a4 := Tryz.isAgg4
 z4 := Tryz.sizeOf4
 v4 := Tryz.zeroValue4
 t9 := Tryz.underlying9
 a9 := Tryz.isAgg9
 z9 := Tryz.sizeOf9
 v9 := Tryz.zeroValue9
 t31 := Tryz.underlying39
 a31 := Tryz.isAgg39
 z31 := Tryz.sizeOf39
 v31 := Tryz.zeroValue39
def maxLenG : Nat := 0
def MaxG (w : World) : Prop := ∃ m : Int, w.cell? ⟨maxLenG, 0, none⟩ = some (.int .i64 m)
theorem MaxG.ext {w w' : World} (h : MaxG w) (hE : Ext w w') : MaxG w' := h.elim fun m hm => ⟨m, cell_ext hE hm⟩
theorem splitN_any (s : ByteArray) (w : World) (hs : s.size < 4294967281) (hm : MaxG w) :
  Calls Tryz.prog 167 #[.string s, .string ⟨#[47]⟩, .int .i64 7] w fun e w' => e = .returned (.slice (some ⟨w.heap.size, 0, none⟩) (Lib.splitB ⟨#[47]⟩ 0 (min 7 (s.size + 1) - 1) s).length (min 7 (s.size + 1))) ∧ w' = w.alloc (.cells (Lib.cellsOf (Lib.splitB ⟨#[47]⟩ 0 (min 7 (s.size + 1) - 1) s) (min 7 (s.size + 1))) 9) := by
 obtain ⟨m, hm⟩ := hm
 exact Any.strings_SplitN lays147 (by kernel_rfl) s ⟨#[47]⟩ 7 m w hs hm (by decide) (by decide) (by decide)
theorem split_any (s : ByteArray) (w : World) (hs : s.size < 4294967281) (hm : MaxG w) :
  Calls Tryz.prog 44 #[.string s, .string ⟨#[32]⟩] w fun e w' => e = .returned (.slice (some ⟨w.heap.size, 0, none⟩) (Lib.countB s ⟨#[32]⟩ + 1) (Lib.countB s ⟨#[32]⟩ + 1)) ∧ w' = w.alloc (.cells ((Lib.splitB ⟨#[32]⟩ 0 (Lib.countB s ⟨#[32]⟩) s).map Value.string).toArray 9) := by
 obtain ⟨m, hm⟩ := hm
 exact Any.strings_Split lays146 (by kernel_rfl) s ⟨#[32]⟩ m w hs hm (by decide)
theorem extra156 : Builder.Extra Tryz.prog lays156_ren where
 sizeBuilder := by kernel_rfl
 liesBuilder := by kernel_rfl
 t5 := Tryz.underlying5
 a5 := Tryz.isAgg5
 z5 := Tryz.sizeOf5
 v5 := Tryz.zeroValue5
 infoByte := by kernel_rfl
 cellsByte := by kernel_rfl
 sizeByte := by kernel_rfl
 neB5 := by decide
def joinS (xs : List ByteArray) (sep : ByteArray) : ByteArray := ⟨(Lib.join (xs.map (·.data.toList)) sep.data.toList).toArray⟩
theorem join_any (bk o c : Nat) (xs : List ByteArray) (sep : ByteArray) (w : World) (hcells : ∀ (j : Nat) x, xs[j]? = some x → w.cell? ⟨bk, o + j, none⟩ = some (.string x)) (h1 : 0 < xs.length) (hN : xs.length ≤ 140737488355328) (hcap : xs.length ≤ c)
  (hlen : (Lib.join (xs.map (·.data.toList)) sep.data.toList).length ≤ 140737488355328) :
  Calls Tryz.prog 90 #[.slice (some ⟨bk, o, none⟩) xs.length c, .string sep] w fun e w' => e = .returned (.string (joinS xs sep)) ∧ Ext w w' := by
 have hbk : bk < w.heap.size := World.block_lt_of_cell? _ _ (hcells 0 _ (List.getElem?_eq_getElem h1))
 by_cases h2 : 2 ≤ xs.length
 ·exact Any.strings_Join_many lays156 extra156 bk o c xs sep w hcells hbk h2 hN hcap hlen
 ·match xs, h1, h2, hcells with
  | [x], _, _, hcells =>
   refine (Any.strings_Join_one lays156 extra156 bk o c x sep w (hcells 0 x rfl)).mono ?_
   rintro e w' ⟨rfl, rfl⟩
   exact ⟨by simp [joinS, Lib.join], Ext.refl _⟩
  | _ :: _ :: _, _, h2, _ => simp at h2
theorem join_none (a : Option Addr) (c : Nat) (sep : ByteArray) (w : World) : Calls Tryz.prog 90 #[.slice a 0 c, .string sep] w fun e w' => e = .returned (.string ⟨#[]⟩) ∧ w' = w := Any.strings_Join_none lays156 extra156 a c sep w
theorem search_raw (b off n c : Nat) (Sx : Nat → ByteArray) (x : ByteArray) (w : World) (hbig : n < 4611686018427387904) (hc : ∀ j, j < n → w.cell? ⟨b, off + j, none⟩ = some (.string (Sx j))) :
  Calls Tryz.prog 149 #[.slice (some ⟨b, off, none⟩) n c, .string x] w fun e w' =>
   e = .returned (.tuple #[.int .i64 (Lib.bsGo (fun t => Op.bytesLess (Sx t).toList x.toList) n 0 n : Nat), .bool (decide (Lib.bsGo (fun t => Op.bytesLess (Sx t).toList x.toList) n 0 n < n ∧ Sx (Lib.bsGo (fun t => Op.bytesLess (Sx t).toList x.toList) n 0 n) = x))]) ∧ ∃ q, w' = w.drewN q :=
 Any2.slices_BinarySearch_string lays26 b off n c Sx x w hbig hc
theorem search_none (a : Option Addr) (c : Nat) (x : ByteArray) (w : World) : Calls Tryz.prog 149 #[.slice a 0 c, .string x] w fun e w' => e = .returned (.tuple #[.int .i64 0, .bool false]) ∧ w' = w := Any2.slices_BinarySearch_string_empty lays26 a c x w
theorem index_raw (b off n c : Nat) (zs : List ByteArray) (x : ByteArray) (w : World) (hz : n ≤ zs.length) (hbig : n ≤ 9223372036854775807) (hc : ∀ j, j < zs.length → w.cell? ⟨b, off + j, none⟩ = some (.string (zs.getD j ByteArray.empty))) :
  Calls Tryz.prog 125 #[.slice (some ⟨b, off, none⟩) n c, .string x] w fun e w' => e = .returned (.int .i64 (Lib.idxOfS (zs.take n) x)) ∧ w' = w := Any.slices_Index_string lays109 b off n c zs x w hz hbig hc
end Go.Proofs.YtnibbldfohbfkaaGreatDoor
