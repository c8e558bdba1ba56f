/- Parts of one proof: what each theorem proves, and its conditions, stand in its own statement. -/
import Derived.Test.YtnibbldfohbfkaaGreatDoorMl11
set_option linter.all false
set_option maxRecDepth 100000
set_option maxHeartbeats 32000000
namespace Go.Proofs.YtnibbldfohbfkaaGreatDoor
open Go.RowKit
theorem implFileAt (a : Option Addr) (cap : Nat) (T : List Nd) (c : Cr) (s : ByteArray) (want : Int) (w : World) (hs : s.size ≤ 1048576) (hl : T.length ≤ 1048576) (hT : ∀ x ∈ T, SmN 1048576 x) (hc : RdN w a T) (hwant : 1 ≤ want ∧ want ≤ 4) (hm : MaxG w) :
  Calls Tryz.prog 120 #[.slice a T.length cap, .agg #[.int .i64 c.r, .int .i64 c.a, .int .i64 c.s, .int .i64 c.g], .string s, .int .i64 want] w fun e w' => e = .returned (.tuple #[.int .i64 (gateAt T c s false want).1, .int .i64 (gateAt T c s false want).2]) ∧ Ext w w' := by
 obtain ⟨cr, ca, cs, cg⟩ := c; have HT := hd0 hT; clear hT; have HM := hd0 hm; clear hm; dsimp only
 go_enter Tryz.func120, Tryz.ntmps120
 have S := Sep.start w; replace S := S.alloc_at (n := w.heap.size) (by simp) #[.int .i64 cr, .int .i64 ca, .int .i64 cs, .int .i64 cg] 29
 go_wp2_with fail
 generalize (w.alloc (.cells #[.int .i64 cr, .int .i64 ca, .int .i64 cs, .int .i64 cg] 29)) = w1 at *; refine (implFindNode a cap T ⟨cr, ca, cs, cg⟩ s w1 hs hl HT.out (hc.ext S.ext) (HM.out.ext S.ext)).mono ?_; rintro e w2 ⟨rfl, hE⟩; replace S := S.step hE; clear hE
 rcases find_cases T ⟨cr, ca, cs, cg⟩ s with ⟨m, hF, hm_, hTr, hCo⟩ | ⟨f, hf, hF⟩
 rotate_left
 ·have HG := hd0 (ga_fault (dir := false) (want := want) hf hF); have HX := hd0 (HG.out); rw [hF]
  have tf : (f == 0) = false := by simpa using hf
  clear hF hf HG; dsimp only; go_wp2; go_ret2; exact ⟨by rw [HX.out]; rfl, S.ext⟩
 ·obtain ⟨x, b', off, an, cn, ak, ck, hx, rfl, c0, c1, c2, c3, c4, c5, c6, hcn, hck, hrn, hrk⟩ := atNd hc hm_; have Hx := hd0 hx; have HN := hd0 (hTr.nodes m x hx); have HCo := hd0 hCo; have HF := hd0 hF; rw [hF]
  have i1 : (m : Int) < (T.length : Int) := by omega
  have hE := S.ext; have d0 := cell_ext hE c0; have d1 := cell_ext hE c1; have d2 := cell_ext hE c2; have d3 := cell_ext hE c3; have d4 := cell_ext hE c4; have d5 := cell_ext hE c5; have d6 := cell_ext hE c6; have Hrn := hd0 hrn; have hNl : x.N.length ≤ 1048576 := (HT.out x (List.mem_of_getElem? hx)).2.1; have HNl := hd0 hNl; clear hx c0 c1 c2 c3 c4 c5 c6 hcn hck hrn hrk hE hF hTr hCo hNl; dsimp only
  cases hfo : x.fold with
  | true =>
   have HG := hd0 (ga_kind (dir := false) (want := want) HF.out Hx.out (by simp [hfo])); have HX := hd0 (HG.out); rw [hfo] at d0; clear hfo HG; go_wp2; go_ret2; exact ⟨by rw [HX.out]; rfl, S.ext⟩
  | false =>
   have Hfo := hd0 hfo; obtain ⟨⟨bc0, bf0⟩, ⟨bc1, bf1⟩, ⟨bc2, bf2⟩, ⟨bc3, bf3⟩⟩ := bx4 (S.box 0 rfl)
   have HMy : Hid (∀ s : ExtW w2, Calls Tryz.prog 128 #[.agg #[.bool false, .int .i64 x.own, .int .i64 x.grp, .int .i64 x.mode, .string x.text, .slice an x.N.length cn, .slice ak x.K.length ck], .agg #[.int .i64 cr, .int .i64 ca, .int .i64 cs, .int .i64 cg], .int .i64 want] s.x fun e w'' => e = .returned (.bool (Cr.may ⟨cr, ca, cs, cg⟩ x want)) ∧ ∃ s' : ExtW w2, w'' = s'.x) := hd0 (fun s => by
    have hC := implAllows ⟨cr, ca, cs, cg⟩ want x T.length an ak cn ck s.x HN.out HCo.out hwant; rw [hfo] at hC
    exact Calls.at_e hC)
   rw [hfo] at d0; clear hfo
   go_wp2_with fail
   have q0 := ExtW.cell d0; have q1 := ExtW.cell d1; have q2 := ExtW.cell d2; have q3 := ExtW.cell d3; have q4 := ExtW.cell d4; have q5 := ExtW.cell d5; have q6 := ExtW.cell d6; have bl := ExtW.lt d0; have r0 := ExtW.cell bc0; have r1 := ExtW.cell bc1; have r2 := ExtW.cell bc2; have r3 := ExtW.cell bc3; have br := ExtW.lt bc0; have S9 := hd0 S; clear d0 d1 d2 d3 d4 d5 d6 bc0 bc1 bc2 bc3 bf0 bf1 bf2 bf3 S
   cases hmay : Cr.may ⟨cr, ca, cs, cg⟩ x want with
   | false =>
    have HG := hd0 (ga_may (dir := false) (want := want) HF.out Hx.out Hfo.out hmay); have HX := hd0 (HG.out); rw [hmay] at HMy; clear hmay HG
    (refine wp_region_quiet_ext (by kernel_rfl) (by kernel_rfl) ?_; (repeat (go_big_quiet_step ((go_at_call 128; exact HMy.out _)))); refine wpQuiet_nil ?_; intro _ hw'; obtain ⟨sq, hw''⟩ := hw'; subst hw'')
    obtain ⟨w5, hw5⟩ := sq; have HS5 := hd0 (S9.out.step hw5); clear q0 q1 q2 q3 q4 q5 q6 bl r0 r1 r2 r3 br S9 HMy; go_wp2; go_ret2; exact ⟨by rw [HX.out]; rfl, HS5.out.ext⟩
   | true =>
    have HG := hd0 (ga_ok (dir := false) (want := want) HF.out Hx.out Hfo.out hmay); rw [hmay] at HMy; clear hmay
    (refine wp_region_quiet_ext (by kernel_rfl) (by kernel_rfl) ?_; (repeat (go_big_quiet_step ((go_at_call 128; exact HMy.out _)))); refine wpQuiet_nil ?_; intro _ hw'; obtain ⟨sq, hw''⟩ := hw'; subst hw'')
    obtain ⟨w5, hw5⟩ := sq; have p0 := q0 ⟨w5, hw5⟩; have p1 := q1 ⟨w5, hw5⟩; have p2 := q2 ⟨w5, hw5⟩; have p3 := q3 ⟨w5, hw5⟩; have p4 := q4 ⟨w5, hw5⟩; have p5 := q5 ⟨w5, hw5⟩; have p6 := q6 ⟨w5, hw5⟩; have HS5 := hd0 (S9.out.step hw5); clear q0 q1 q2 q3 q4 q5 q6 bl r0 r1 r2 r3 br S9 HMy; have HX := HG; go_wp2; go_ret2; exact ⟨by rw [HX.out]; rfl, HS5.out.ext⟩
theorem implReadFile (a : Option Addr) (cap : Nat) (T : List Nd) (c : Cr) (s : ByteArray) (w : World) (hs : s.size ≤ 1048576) (hl : T.length ≤ 1048576) (hT : ∀ x ∈ T, SmN 1048576 x) (hc : RdN w a T) (hm : MaxG w) :
  Calls Tryz.prog 88 #[.slice a T.length cap, .agg #[.int .i64 c.r, .int .i64 c.a, .int .i64 c.s, .int .i64 c.g], .string s] w fun e w' => e = .returned (.tuple #[.string (readFile T c s).1, .int .i64 (readFile T c s).2]) ∧ Ext w w' := by
 obtain ⟨cr, ca, cs, cg⟩ := c; have HT := hd0 hT; have HM := hd0 hm; clear hT hm; dsimp only
 go_enter Tryz.func88, Tryz.ntmps88
 have S := Sep.start w; replace S := S.alloc_at (n := w.heap.size) (by simp) #[.int .i64 cr, .int .i64 ca, .int .i64 cs, .int .i64 cg] 29
 go_wp2_with fail
 generalize (w.alloc (.cells #[.int .i64 cr, .int .i64 ca, .int .i64 cs, .int .i64 cg] 29)) = w1 at *; refine (implFileAt a cap T ⟨cr, ca, cs, cg⟩ s 4 w1 hs hl HT.out (hc.ext S.ext) (by omega) (HM.out.ext S.ext)).mono ?_; rintro e w2 ⟨rfl, hE⟩; replace S := S.step hE; clear hE
 rcases gate_cases T ⟨cr, ca, cs, cg⟩ s false 4 with ⟨n, x, hG, hx, _, _⟩ | ⟨f, hf, hG⟩
 rotate_left
 ·have HX := hd0 (rf_bad hf hG); rw [hG]
  have tf : (f == 0) = false := by simpa using hf
  clear hG hf; dsimp only; go_wp2; go_ret2; exact ⟨by rw [HX.out]; rfl, S.ext⟩
 ·have HX := hd0 (rf_ok hG hx); obtain ⟨x', b', off, an, cn, ak, ck, hx', rfl, _, _, _, _, c4, _⟩ := atNd hc (List.getElem?_eq_some_iff.1 hx).1; obtain rfl : x = x' := Option.some.inj (hx.symm.trans hx'); have d4 := cell_ext S.ext c4
  have i1 : (n : Int) < (T.length : Int) := by have := (List.getElem?_eq_some_iff.1 hx).1; omega
  rw [hG]; clear hG hx hx' c4; dsimp only; go_wp2; go_ret2; exact ⟨by rw [HX.out]; rfl, S.ext⟩
theorem implWriteFile (a : Option Addr) (cap : Nat) (T : List Nd) (c : Cr) (s : ByteArray) (t : ByteArray) (w : World) (hs : s.size ≤ 1048576) (hl : T.length ≤ 1048576) (hT : ∀ x ∈ T, SmN 1048576 x) (hc : RdN w a T) (hm : MaxG w) :
  Calls Tryz.prog 81 #[.slice a T.length cap, .agg #[.int .i64 c.r, .int .i64 c.a, .int .i64 c.s, .int .i64 c.g], .string s, .string t] w (RetMk (writeFile T c s t) w) := by
 obtain ⟨cr, ca, cs, cg⟩ := c; have HT := hd0 hT; have HM := hd0 hm; clear hT hm; dsimp only
 go_enter Tryz.func81, Tryz.ntmps81
 have S := Sep.start w; replace S := S.alloc_at (n := w.heap.size) (by simp) #[.int .i64 cr, .int .i64 ca, .int .i64 cs, .int .i64 cg] 29
 go_wp2_with fail
 generalize (w.alloc (.cells #[.int .i64 cr, .int .i64 ca, .int .i64 cs, .int .i64 cg] 29)) = w1 at *; refine (implFileAt a cap T ⟨cr, ca, cs, cg⟩ s 2 w1 hs hl HT.out (hc.ext S.ext) (by omega) (HM.out.ext S.ext)).mono ?_; rintro e w2 ⟨rfl, hE⟩; replace S := S.step hE; clear hE
 rcases gate_cases T ⟨cr, ca, cs, cg⟩ s false 2 with ⟨n, x, hG, hx, _, _⟩ | ⟨f, hf, hG⟩
 rotate_left
 ·have HX := hd0 (wf_bad (t := t) hf hG); rw [hG]
  have tf : (f == 0) = false := by simpa using hf
  clear hG hf; dsimp only; go_wp2; go_ret2; exact RetMk.nil S.ext HX.out
 ·have Hx := hd0 hx
  have i1 : (n : Int) < (T.length : Int) := by have := (List.getElem?_eq_some_iff.1 hx).1; omega
  by_cases ht : 40 < t.size
  ·have HX := hd0 (wf_full hG ht)
   have ti : (40 : Int) < (t.size : Int) := by omega
   rw [hG]; clear ht hG hx; dsimp only; go_wp2; go_ret2; exact RetMk.nil S.ext HX.out
  ·have HX := hd0 (wf_ok hG ht hx)
   have ti : ¬ (40 : Int) < (t.size : Int) := by omega
   rw [hG]; clear ht hG hx; dsimp only
   go_wp2_with fail
   have HS := hd0 S; clear S; refine (implCopy a cap T w2 hl HT.out (hc.ext HS.out.ext)).mono ?_; rintro e w7 ⟨u, vs, rfl, S7⟩; have S8 := S7.since HS.out.ext; clear S7; obtain ⟨xc, g, cap2, rfl, hcap2, hxc, hxn, hcell, hfz, _⟩ := S8.ndAt 0 rfl Hx.out; obtain ⟨x', an', cn', ak', ck'⟩ := xc; dsimp only at hxn; subst hxn; have e4 := hcell 4 _ rfl; have SA := S8.ndSet 0 rfl hxc Hx.out (x' := textNd x' t) 4 (.string t) (by decide) rfl rfl rfl; have SB : Sep w (w7.setCell ⟨g, n * 7 + 4, none⟩ (.string t)) [plNd (.slice (some ⟨g, 0, none⟩) T.length cap2) (vs.set n ⟨textNd x' t, an', cn', ak', ck'⟩) (T.set n (textNd x' t))] := SA; have HSB := hd0 SB; clear SA SB S8 hcell hxc hcap2; go_wp2; go_ret2; exact ⟨_, _, by rw [HX.out]; rfl, by rw [HX.out]; exact HSB.out⟩
theorem implListNames (a : Option Addr) (cap : Nat) (T : List Nd) (c : Cr) (s : ByteArray) (w : World) (hs : s.size ≤ 1048576) (hl : T.length ≤ 1048576) (hT : ∀ x ∈ T, SmN 1048576 x) (hc : RdN w a T) (hm : MaxG w) :
  Calls Tryz.prog 89 #[.slice a T.length cap, .agg #[.int .i64 c.r, .int .i64 c.a, .int .i64 c.s, .int .i64 c.g], .string s] w (RetNs (listNames T c s) w) := by
 obtain ⟨cr, ca, cs, cg⟩ := c; have HT := hd0 hT; clear hT; have HM := hd0 hm; clear hm; dsimp only
 go_enter Tryz.func89, Tryz.ntmps89
 have S := Sep.start w; replace S := S.alloc_at (n := w.heap.size) (by simp) #[.int .i64 cr, .int .i64 ca, .int .i64 cs, .int .i64 cg] 29
 go_wp2_with fail
 generalize (w.alloc (.cells #[.int .i64 cr, .int .i64 ca, .int .i64 cs, .int .i64 cg] 29)) = w1 at *; refine (implFindNode a cap T ⟨cr, ca, cs, cg⟩ s w1 hs hl HT.out (hc.ext S.ext) (HM.out.ext S.ext)).mono ?_; rintro e w2 ⟨rfl, hE⟩; replace S := S.step hE; clear hE
 rcases find_cases T ⟨cr, ca, cs, cg⟩ s with ⟨m, hF, hm_, hTr, hCo⟩ | ⟨f, hf, hF⟩
 rotate_left
 ·have HG := hd0 (ga_fault (dir := true) (want := 4) hf hF); have HX := hd0 (li_bad hf HG.out); rw [hF]
  have tf : (f == 0) = false := by simpa using hf
  clear hF hf HG; dsimp only; go_wp2; go_ret2; exact RetNs.nil S.ext HX.out
 ·obtain ⟨x, b', off, an, cn, ak, ck, hx, rfl, c0, c1, c2, c3, c4, c5, c6, hcn, hck, hrn, hrk⟩ := atNd hc hm_; have Hx := hd0 hx; have HN := hd0 (hTr.nodes m x hx); have HCo := hd0 hCo; have HF := hd0 hF; rw [hF]
  have i1 : (m : Int) < (T.length : Int) := by omega
  have hE := S.ext; have d0 := cell_ext hE c0; have d1 := cell_ext hE c1; have d2 := cell_ext hE c2; have d3 := cell_ext hE c3; have d4 := cell_ext hE c4; have d5 := cell_ext hE c5; have d6 := cell_ext hE c6; have Hrn := hd0 hrn; have hNl : x.N.length ≤ 1048576 := (HT.out x (List.mem_of_getElem? hx)).2.1; have HNl := hd0 hNl; clear hx c0 c1 c2 c3 c4 c5 c6 hcn hck hrn hrk hE hF hTr hCo hNl; dsimp only
  cases hfo : x.fold with
  | false =>
   have HG := hd0 (ga_kind (dir := true) (want := 4) HF.out Hx.out (by simp [hfo])); have HX := hd0 (li_bad (by decide) HG.out); rw [hfo] at d0; clear hfo HG; go_wp2; go_ret2; exact RetNs.nil S.ext HX.out
  | true =>
   have Hfo := hd0 hfo; obtain ⟨⟨bc0, bf0⟩, ⟨bc1, bf1⟩, ⟨bc2, bf2⟩, ⟨bc3, bf3⟩⟩ := bx4 (S.box 0 rfl)
   have HMy : Hid (∀ s : ExtW w2, Calls Tryz.prog 128 #[.agg #[.bool true, .int .i64 x.own, .int .i64 x.grp, .int .i64 x.mode, .string x.text, .slice an x.N.length cn, .slice ak x.K.length ck], .agg #[.int .i64 cr, .int .i64 ca, .int .i64 cs, .int .i64 cg], .int .i64 4] s.x fun e w'' => e = .returned (.bool (Cr.may ⟨cr, ca, cs, cg⟩ x 4)) ∧ ∃ s' : ExtW w2, w'' = s'.x) := hd0 (fun s => by
    have hC := implAllows ⟨cr, ca, cs, cg⟩ 4 x T.length an ak cn ck s.x HN.out HCo.out (by omega); rw [hfo] at hC
    exact Calls.at_e hC)
   rw [hfo] at d0; clear hfo
   go_wp2_with fail
   have q0 := ExtW.cell d0; have q1 := ExtW.cell d1; have q2 := ExtW.cell d2; have q3 := ExtW.cell d3; have q4 := ExtW.cell d4; have q5 := ExtW.cell d5; have q6 := ExtW.cell d6; have bl := ExtW.lt d0; have r0 := ExtW.cell bc0; have r1 := ExtW.cell bc1; have r2 := ExtW.cell bc2; have r3 := ExtW.cell bc3; have br := ExtW.lt bc0; have S9 := hd0 S; clear d0 d1 d2 d3 d4 d5 d6 bc0 bc1 bc2 bc3 bf0 bf1 bf2 bf3 S
   cases hmay : Cr.may ⟨cr, ca, cs, cg⟩ x 4 with
   | false =>
    have HG := hd0 (ga_may (dir := true) (want := 4) HF.out Hx.out Hfo.out hmay); have HX := hd0 (li_bad (by decide) HG.out); rw [hmay] at HMy; clear hmay HG
    (refine wp_region_quiet_ext (by kernel_rfl) (by kernel_rfl) ?_; (repeat (go_big_quiet_step ((go_at_call 128; exact HMy.out _)))); refine wpQuiet_nil ?_; intro _ hw'; obtain ⟨sq, hw''⟩ := hw'; subst hw'')
    obtain ⟨w5, hw5⟩ := sq; have HS5 := hd0 (S9.out.step hw5); clear q0 q1 q2 q3 q4 q5 q6 bl r0 r1 r2 r3 br S9 HMy; go_wp2; go_ret2; exact RetNs.nil HS5.out.ext HX.out
   | true =>
    have HG := hd0 (ga_ok (dir := true) (want := 4) HF.out Hx.out Hfo.out hmay); rw [hmay] at HMy; clear hmay
    (refine wp_region_quiet_ext (by kernel_rfl) (by kernel_rfl) ?_; (repeat (go_big_quiet_step ((go_at_call 128; exact HMy.out _)))); refine wpQuiet_nil ?_; intro _ hw'; obtain ⟨sq, hw''⟩ := hw'; subst hw'')
    obtain ⟨w5, hw5⟩ := sq; have p0 := q0 ⟨w5, hw5⟩; have p1 := q1 ⟨w5, hw5⟩; have p2 := q2 ⟨w5, hw5⟩; have p3 := q3 ⟨w5, hw5⟩; have p4 := q4 ⟨w5, hw5⟩; have p5 := q5 ⟨w5, hw5⟩; have p6 := q6 ⟨w5, hw5⟩; have HS5 := hd0 (S9.out.step hw5); clear q0 q1 q2 q3 q4 q5 q6 bl r0 r1 r2 r3 br S9 HMy; have HX := hd0 (li_ok HG.out Hx.out)
    go_wp2_with fail
    refine (cloneStr_any an cn x.N.length x.N w5 rfl HNl.out (Hrn.out.ext HS5.out.ext)).mono ?_; rintro e w6 ⟨v6, rfl, ho6, hE6⟩; have HSB := hd0 (((Sep.start w).step HS5.out.ext).owned hE6 (Nat.le_refl _) ho6); clear ho6 hE6 p0 p1 p2 p3 p4 p5 p6; go_wp2; go_ret2; exact ⟨_, by rw [HX.out]; rfl, by rw [HX.out]; exact HSB.out⟩
theorem implChangeMode (a : Option Addr) (cap : Nat) (T : List Nd) (c : Cr) (s : ByteArray) (md : Int) (w : World) (hs : s.size ≤ 1048576) (hl : T.length ≤ 1048576) (hT : ∀ x ∈ T, SmN 1048576 x) (hc : RdN w a T) (hm : MaxG w) :
  Calls Tryz.prog 83 #[.slice a T.length cap, .agg #[.int .i64 c.r, .int .i64 c.a, .int .i64 c.s, .int .i64 c.g], .string s, .int .i64 md] w (RetMk (changeMode T c s md) w) := by
 obtain ⟨cr, ca, cs, cg⟩ := c; have HT := hd0 hT; clear hT; have HM := hd0 hm; clear hm; dsimp only
 go_enter Tryz.func83, Tryz.ntmps83
 have S := Sep.start w; replace S := S.alloc_at (n := w.heap.size) (by simp) #[.int .i64 cr, .int .i64 ca, .int .i64 cs, .int .i64 cg] 29
 go_wp2_with fail
 generalize (w.alloc (.cells #[.int .i64 cr, .int .i64 ca, .int .i64 cs, .int .i64 cg] 29)) = w1 at *; refine (implFindNode a cap T ⟨cr, ca, cs, cg⟩ s w1 hs hl HT.out (hc.ext S.ext) (HM.out.ext S.ext)).mono ?_; rintro e w2 ⟨rfl, hE⟩; replace S := S.step hE; clear hE
 cases hMo : inB md 0 1023 with
 | false =>
  have HMo := hd0 hMo; have HX := hd0 (cm_mode (T := T) (c := ⟨cr, ca, cs, cg⟩) (s := s) hMo); clear hMo
  go_wp2_with (go_at_call 114; refine (isMode_is HMo.out _).mono ?_; rintro e w' ⟨rfl, rfl⟩)
  go_ret2; exact RetMk.nil S.ext HX.out
 | true =>
  have HMo := hd0 hMo; clear hMo
  rcases find_cases T ⟨cr, ca, cs, cg⟩ s with ⟨m, hF, hm_, hTr, hCo⟩ | ⟨f, hf, hF⟩
  rotate_left
  ·have HX := hd0 (cm_fault HMo.out hf hF); rw [hF]
   have tf : (f == 0) = false := by simpa using hf
   clear hF hf; dsimp only
   go_wp2_with (go_at_call 114; refine (isMode_is HMo.out _).mono ?_; rintro e w' ⟨rfl, rfl⟩)
   go_ret2; exact RetMk.nil S.ext HX.out
  ·obtain ⟨x, b', off, an, cn, ak, ck, hx, rfl, _, c1, _⟩ := atNd hc hm_; have Hx := hd0 hx; have HP := hd0 (cm_at HMo.out hF hx); rw [hF]
   have i1 : (m : Int) < (T.length : Int) := by omega
   have d1 := cell_ext S.ext c1; clear hx c1 hF hTr hCo; dsimp only; obtain ⟨⟨bc0, bf0⟩, ⟨bc1, bf1⟩, ⟨bc2, bf2⟩, ⟨bc3, bf3⟩⟩ := bx4 (S.box 0 rfl)
   go_wp2_with (first | (go_at_call 114; refine (isMode_is HMo.out _).mono ?_; rintro e w' ⟨rfl, rfl⟩) | fail)
   have q1 := ExtW.cell d1; have bl := ExtW.lt d1; have r1 := ExtW.cell bc1; have br := ExtW.lt bc1; have S9 := hd0 S; clear d1 bc0 bc1 bc2 bc3 bf0 bf1 bf2 bf3 S
   rcases (show ca = 0 ∨ (ca ≠ 0 ∧ ca = x.own) ∨ (ca ≠ 0 ∧ ca ≠ x.own) by omega) with hcase | hcase | hcase
   ·have HX := hd0 (HP.out.trans (if_neg (fun h => h.1 hcase))); have ta : ca = 0 := hcase; clear hcase HP; subst ta
    (refine wp_region_quiet_ext (by kernel_rfl) (by kernel_rfl) ?_; (repeat (go_big_quiet_step ((fail)))); refine wpQuiet_nil ?_; intro _ hw'; obtain ⟨sq, hw''⟩ := hw'; subst hw'')
    obtain ⟨w5, hw5⟩ := sq; have HS5 := hd0 (S9.out.step hw5); clear q1 bl r1 br S9
    go_wp2_with fail
    refine (implCopy (some ⟨b', off, none⟩) cap T w5 hl HT.out (hc.ext HS5.out.ext)).mono ?_; rintro e w7 ⟨u, vs, rfl, S7⟩; have S8 := S7.since HS5.out.ext; clear S7; obtain ⟨xc, g, cap2, rfl, hcap2, hxc, hxn, hcell, hfz, _⟩ := S8.ndAt 0 rfl Hx.out; obtain ⟨x', an', cn', ak', ck'⟩ := xc; dsimp only at hxn; subst hxn; have e3 := hcell 3 _ rfl; have SA := S8.ndSet 0 rfl hxc Hx.out (x' := modeNd x' md) 3 (.int .i64 md) (by decide) rfl rfl rfl; have SB : Sep w (w7.setCell ⟨g, m * 7 + 3, none⟩ (.int .i64 md)) [plNd (.slice (some ⟨g, 0, none⟩) T.length cap2) (vs.set m ⟨modeNd x' md, an', cn', ak', ck'⟩) (T.set m (modeNd x' md))] := SA; have HSB := hd0 SB; clear SA SB S8 hcell hxc hcap2; go_wp2; go_ret2; exact ⟨_, _, by rw [HX.out]; rfl, by rw [HX.out]; exact HSB.out⟩
   ·have HX := hd0 (HP.out.trans (if_neg (fun h => h.2 hcase.2)))
    have ta : (ca != 0) = true := by simpa using hcase.1
    have to_ : (ca != x.own) = false := by simpa using hcase.2
    clear hcase HP
    (refine wp_region_quiet_ext (by kernel_rfl) (by kernel_rfl) ?_; (repeat (go_big_quiet_step ((fail)))); refine wpQuiet_nil ?_; intro _ hw'; obtain ⟨sq, hw''⟩ := hw'; subst hw'')
    obtain ⟨w5, hw5⟩ := sq; have HS5 := hd0 (S9.out.step hw5); clear q1 bl r1 br S9
    go_wp2_with fail
    refine (implCopy (some ⟨b', off, none⟩) cap T w5 hl HT.out (hc.ext HS5.out.ext)).mono ?_; rintro e w7 ⟨u, vs, rfl, S7⟩; have S8 := S7.since HS5.out.ext; clear S7; obtain ⟨xc, g, cap2, rfl, hcap2, hxc, hxn, hcell, hfz, _⟩ := S8.ndAt 0 rfl Hx.out; obtain ⟨x', an', cn', ak', ck'⟩ := xc; dsimp only at hxn; subst hxn; have e3 := hcell 3 _ rfl; have SA := S8.ndSet 0 rfl hxc Hx.out (x' := modeNd x' md) 3 (.int .i64 md) (by decide) rfl rfl rfl; have SB : Sep w (w7.setCell ⟨g, m * 7 + 3, none⟩ (.int .i64 md)) [plNd (.slice (some ⟨g, 0, none⟩) T.length cap2) (vs.set m ⟨modeNd x' md, an', cn', ak', ck'⟩) (T.set m (modeNd x' md))] := SA; have HSB := hd0 SB; clear SA SB S8 hcell hxc hcap2; go_wp2; go_ret2; exact ⟨_, _, by rw [HX.out]; rfl, by rw [HX.out]; exact HSB.out⟩
   ·have HX := hd0 (HP.out.trans (if_pos hcase))
    have ta : (ca != 0) = true := by simpa using hcase.1
    have to_ : (ca != x.own) = true := by simpa using hcase.2
    clear hcase HP
    (refine wp_region_quiet_ext (by kernel_rfl) (by kernel_rfl) ?_; (repeat (go_big_quiet_step ((fail)))); refine wpQuiet_nil ?_; intro _ hw'; obtain ⟨sq, hw''⟩ := hw'; subst hw'')
    obtain ⟨w5, hw5⟩ := sq; have HS5 := hd0 (S9.out.step hw5); clear q1 bl r1 br S9; go_wp2; go_ret2; exact RetMk.nil HS5.out.ext HX.out
theorem zeroStr : ∀ w, (zeroValue 9).run Tryz.prog w = .ok (.string ⟨#[]⟩) w := by intro w; go_simp
theorem delStr_any (base g cap i j : Nat) (l : List ByteArray) (w : World) (hij : i < j) (hj : j ≤ l.length)
  (hown : w.ownsRow base 9 1 (.slice (some ⟨g, 0, none⟩) l.length cap) l.length (l.flatMap encStr1)) :
  Calls Tryz.prog 126 #[.slice (some ⟨g, 0, none⟩) l.length cap, .int .i64 i, .int .i64 j] w fun e w' => e = .returned (.slice (some ⟨g, 0, none⟩) (l.length - (j - i)) cap) ∧
   w'.ownsRow base 9 1 (.slice (some ⟨g, 0, none⟩) (l.length - (j - i)) cap) (l.length - (j - i)) ((l.take i ++ l.drop j).flatMap encStr1) ∧ w.grownBy w' (some g) := by
 obtain ⟨hlc, hcm, hbg⟩ := owns_bound hown; obtain ⟨i0, hi0, hz0, hz1, hz2⟩ := info_parts infoStr1; have hv := zeroStr; have mixed : Tryz.prog.follows .mixedOrders = true := rfl; obtain ⟨news, hnews⟩ : ∃ news, news = (l.drop j).flatMap encStr1 := ⟨_, rfl⟩
 have hlen : news.length = (l.length - j) * 1 := by rw [hnews, flatMap_length encStr1_len, List.length_drop]
 have hget : ∀ t, t < news.length → ∀ u, news[t]? = some u → w.cell? ⟨g, j * 1 + t, none⟩ = some u := by
  intro t ht u hu
  have hlt : j * 1 + t < l.length * 1 := by omega
  rw [hown.cellAt _ hlt]; rw [hnews, ← flatMap_drop encStr1_len, List.getElem?_drop] at hu; exact hu
 obtain ⟨A, hA, hsrc⟩ : ∃ A : Addr, (if cap = j then some (⟨g, 0, none⟩ : Addr) else some ⟨g, j, none⟩) = some A ∧ Hid (∀ t u, news[t]? = some u → w.drew.cell? (A.add t) = some u) := by
  by_cases h : cap = j
  ·refine ⟨⟨g, 0, none⟩, by simp [h], fun t u hu => ?_⟩
   have h0 : news.length = 0 := by rw [hlen]; omega
   rw [List.length_eq_zero_iff.1 h0] at hu; simp at hu
  ·refine ⟨⟨g, j, none⟩, by simp [h], fun t u hu => ?_⟩; rw [Addr.add_lit]; have := hget t (List.getElem?_eq_some_iff.1 hu).1 u hu
   simpa using this
 have s1 : Hid (news.length = (l.length - j) * 1) := hlen
 have s2 : Hid (∀ u ∈ news, u.oneCell' = true) := by
  intro u hu; rw [hnews] at hu; obtain ⟨x, _, hx⟩ := List.mem_flatMap.1 hu; exact encStr1_one x u hx
 have s3 : Hid (∀ t, t < news.length → (w.drew.cell? ⟨g, 0 + i * 1 + t, none⟩).isSome = true ∧ w.drew.frozen? ⟨g, 0 + i * 1 + t, none⟩ = false) := by
  intro t ht; rw [hlen] at ht; have := owns_there hown (i * 1 + t) (by omega); rw [Nat.zero_add]; exact this
 obtain ⟨W1, hW1⟩ : ∃ W1, W1 = w.drew.setCells g (0 + i * 1) news := ⟨_, rfl⟩
 have hg1 : w.grownBy W1 (some g) := by
  rw [hW1, kit_setCells]; exact grown_setCells _ _ (grown_of_ext (Ext.refl w).drew _)
 have ho1 : W1.ownsRow base 9 1 (.slice (some ⟨g, 0, none⟩) l.length cap) l.length (setAll (l.flatMap encStr1) (i * 1) news) := by
  rw [hW1, kit_setCells, Nat.zero_add]; exact owns_setCells _ _ hown.drew
 have hcl : ∀ ty, (Builtin.clear_ #[39] ty #[.slice (some ⟨g, (i + (l.length - j)), none⟩) (l.length - (i + (l.length - j))) (cap - (i + (l.length - j)))]).run Tryz.prog W1 = .ok (.tuple #[]) (W1.setCells g ((i + (l.length - j))) (Builtin.zeroCells (.string ⟨#[]⟩ : Value).cells (l.length - (i + (l.length - j)))).toList) :=
  fun ty => run_clear_cells W1 _ _ ty _ 1 Tryz.underlying39 hv rfl (by decide) g ((i + (l.length - j))) (l.length - (i + (l.length - j))) (cap - (i + (l.length - j))) (by omega) (fun t ht => (owns_there ho1 ((i + (l.length - j)) + t) (by omega)).1) (fun t ht => (owns_there ho1 ((i + (l.length - j)) + t) (by omega)).2)
 obtain ⟨W2, hW2⟩ : ∃ W2, W2 = W1.setCells g ((i + (l.length - j))) (Builtin.zeroCells (.string ⟨#[]⟩ : Value).cells (l.length - (i + (l.length - j)))).toList := ⟨_, rfl⟩; rw [← hW2] at hcl
 have hg2 : Hid (w.grownBy W2 (some g)) := by
  rw [hW2, kit_setCells]; exact grown_setCells _ _ hg1
 have ho2 : Hid (W2.ownsRow base 9 1 (.slice (some ⟨g, 0, none⟩) (l.length - (j - i)) cap) (l.length - (j - i)) ((l.take i ++ l.drop j).flatMap encStr1)) := by
  have h := owns_shrink (m := l.length - (j - i)) (owns_setCells (Builtin.zeroCells (.string ⟨#[]⟩ : Value).cells (l.length - (i + (l.length - j)))).toList ((i + (l.length - j)) * 1) ho1) (by omega); rw [hnews, del_list encStr1_len l i j (by omega) hj _ (by simp [Builtin.zeroCells, Value.cells]; omega)] at h; rw [hW2, kit_setCells]; exact hd0 (by simpa using h)
 have hW : Hid (W1 = w.drew.setCells g (0 + i * 1) news) := hW1
 have hic : i ≤ cap := by omega
 have hjc : j ≤ cap := by omega
 clear hW1 hW2 hg1 ho1 hown hget hnews hlen hbg
 go_enter Tryz.func126, Tryz.ntmps126
 go_wp2_with fail
 go_region_law_o (refine step_append_room rfl (.tmp 22) (.tmp 25) 39 rfl 9 i0 1 Tryz.underlying39 hi0 hz1 g 0 i cap (by simp [Act.eval, Act.put]) A (l.length - j) (cap - j) news (by simp [Act.eval, Act.put]) s1.out hsrc.out s2.out (by omega) s3.out ?_; rw [← hW.out])
 go_wp2; go_ret; refine ⟨by rw [show l.length - (j - i) = i + (l.length - j) by omega]; rfl, ho2.out, hg2.out⟩
theorem zeroInt : ∀ w, (zeroValue 3).run Tryz.prog w = .ok (.int .i64 0) w := by intro w; go_simp
theorem delInt_any (base g cap i j : Nat) (l : List Int) (w : World) (hij : i < j) (hj : j ≤ l.length)
  (hown : w.ownsRow base 3 1 (.slice (some ⟨g, 0, none⟩) l.length cap) l.length (l.flatMap encInt1)) :
  Calls Tryz.prog 127 #[.slice (some ⟨g, 0, none⟩) l.length cap, .int .i64 i, .int .i64 j] w fun e w' => e = .returned (.slice (some ⟨g, 0, none⟩) (l.length - (j - i)) cap) ∧
   w'.ownsRow base 3 1 (.slice (some ⟨g, 0, none⟩) (l.length - (j - i)) cap) (l.length - (j - i)) ((l.take i ++ l.drop j).flatMap encInt1) ∧ w.grownBy w' (some g) := by
 obtain ⟨hlc, hcm, hbg⟩ := owns_bound hown; obtain ⟨i0, hi0, hz0, hz1, hz2⟩ := info_parts infoInt; have hv := zeroInt; have mixed : Tryz.prog.follows .mixedOrders = true := rfl; obtain ⟨news, hnews⟩ : ∃ news, news = (l.drop j).flatMap encInt1 := ⟨_, rfl⟩
 have hlen : news.length = (l.length - j) * 1 := by rw [hnews, flatMap_length encInt1_len, List.length_drop]
 have hget : ∀ t, t < news.length → ∀ u, news[t]? = some u → w.cell? ⟨g, j * 1 + t, none⟩ = some u := by
  intro t ht u hu
  have hlt : j * 1 + t < l.length * 1 := by omega
  rw [hown.cellAt _ hlt]; rw [hnews, ← flatMap_drop encInt1_len, List.getElem?_drop] at hu; exact hu
 obtain ⟨A, hA, hsrc⟩ : ∃ A : Addr, (if cap = j then some (⟨g, 0, none⟩ : Addr) else some ⟨g, j, none⟩) = some A ∧ Hid (∀ t u, news[t]? = some u → w.drew.cell? (A.add t) = some u) := by
  by_cases h : cap = j
  ·refine ⟨⟨g, 0, none⟩, by simp [h], fun t u hu => ?_⟩
   have h0 : news.length = 0 := by rw [hlen]; omega
   rw [List.length_eq_zero_iff.1 h0] at hu; simp at hu
  ·refine ⟨⟨g, j, none⟩, by simp [h], fun t u hu => ?_⟩; rw [Addr.add_lit]; have := hget t (List.getElem?_eq_some_iff.1 hu).1 u hu
   simpa using this
 have s1 : Hid (news.length = (l.length - j) * 1) := hlen
 have s2 : Hid (∀ u ∈ news, u.oneCell' = true) := by
  intro u hu; rw [hnews] at hu; obtain ⟨x, _, hx⟩ := List.mem_flatMap.1 hu; exact encInt1_one x u hx
 have s3 : Hid (∀ t, t < news.length → (w.drew.cell? ⟨g, 0 + i * 1 + t, none⟩).isSome = true ∧ w.drew.frozen? ⟨g, 0 + i * 1 + t, none⟩ = false) := by
  intro t ht; rw [hlen] at ht; have := owns_there hown (i * 1 + t) (by omega); rw [Nat.zero_add]; exact this
 obtain ⟨W1, hW1⟩ : ∃ W1, W1 = w.drew.setCells g (0 + i * 1) news := ⟨_, rfl⟩
 have hg1 : w.grownBy W1 (some g) := by
  rw [hW1, kit_setCells]; exact grown_setCells _ _ (grown_of_ext (Ext.refl w).drew _)
 have ho1 : W1.ownsRow base 3 1 (.slice (some ⟨g, 0, none⟩) l.length cap) l.length (setAll (l.flatMap encInt1) (i * 1) news) := by
  rw [hW1, kit_setCells, Nat.zero_add]; exact owns_setCells _ _ hown.drew
 have hcl : ∀ ty, (Builtin.clear_ #[86] ty #[.slice (some ⟨g, (i + (l.length - j)), none⟩) (l.length - (i + (l.length - j))) (cap - (i + (l.length - j)))]).run Tryz.prog W1 = .ok (.tuple #[]) (W1.setCells g ((i + (l.length - j))) (Builtin.zeroCells (.int .i64 0 : Value).cells (l.length - (i + (l.length - j)))).toList) :=
  fun ty => run_clear_cells W1 _ _ ty _ 1 Tryz.underlying86 hv rfl (by decide) g ((i + (l.length - j))) (l.length - (i + (l.length - j))) (cap - (i + (l.length - j))) (by omega) (fun t ht => (owns_there ho1 ((i + (l.length - j)) + t) (by omega)).1) (fun t ht => (owns_there ho1 ((i + (l.length - j)) + t) (by omega)).2)
 obtain ⟨W2, hW2⟩ : ∃ W2, W2 = W1.setCells g ((i + (l.length - j))) (Builtin.zeroCells (.int .i64 0 : Value).cells (l.length - (i + (l.length - j)))).toList := ⟨_, rfl⟩; rw [← hW2] at hcl
 have hg2 : Hid (w.grownBy W2 (some g)) := by
  rw [hW2, kit_setCells]; exact grown_setCells _ _ hg1
 have ho2 : Hid (W2.ownsRow base 3 1 (.slice (some ⟨g, 0, none⟩) (l.length - (j - i)) cap) (l.length - (j - i)) ((l.take i ++ l.drop j).flatMap encInt1)) := by
  have h := owns_shrink (m := l.length - (j - i)) (owns_setCells (Builtin.zeroCells (.int .i64 0 : Value).cells (l.length - (i + (l.length - j)))).toList ((i + (l.length - j)) * 1) ho1) (by omega); rw [hnews, del_list encInt1_len l i j (by omega) hj _ (by simp [Builtin.zeroCells, Value.cells]; omega)] at h; rw [hW2, kit_setCells]; exact hd0 (by simpa using h)
 have hW : Hid (W1 = w.drew.setCells g (0 + i * 1) news) := hW1
 have hic : i ≤ cap := by omega
 have hjc : j ≤ cap := by omega
 clear hW1 hW2 hg1 ho1 hown hget hnews hlen hbg
 go_enter Tryz.func127, Tryz.ntmps127
 go_wp2_with fail
 go_region_law_o (refine step_append_room rfl (.tmp 22) (.tmp 25) 86 rfl 3 i0 1 Tryz.underlying86 hi0 hz1 g 0 i cap (by simp [Act.eval, Act.put]) A (l.length - j) (cap - j) news (by simp [Act.eval, Act.put]) s1.out hsrc.out s2.out (by omega) s3.out ?_; rw [← hW.out])
 go_wp2; go_ret; refine ⟨by rw [show l.length - (j - i) = i + (l.length - j) by omega]; rfl, ho2.out, hg2.out⟩
def eraNd (x : Nd) (p : Nat) : Nd := ⟨x.fold, x.own, x.grp, x.mode, x.text, x.N.eraseIdx p, x.K.eraseIdx p⟩
theorem era_take {α : Type} (l : List α) (p : Nat) : l.take p ++ l.drop (p + 1) = l.eraseIdx p := (List.eraseIdx_eq_take_drop_succ l p).symm
def VTk (W0 : World) (H : List Pl) (g nT cap : Nat) (vs : List Nc) (k : Nat) (x : Nd) (gn cn gk ck p : Nat) : Nat → Value → List Value → World → Prop := fun i v us wv => match i with
 | 0 => v = .slice (some ⟨g, 0, none⟩) nT cap
 | 1 => v = .int .i64 (k : Nat)
 | 2 => v = .slice (some ⟨g, 0, none⟩) nT cap
 | 3 => v = .int .i64 (k : Nat)
 | 4 => v = .slice (some ⟨g, 0, none⟩) nT cap
 | 5 => v = .int .i64 (k : Nat)
 | 6 => v = .pointer (some ⟨g, k * 7, none⟩)
 | 7 => v = .pointer (some ⟨g, k * 7 + 5, none⟩)
 | 8 => v = .slice (some ⟨gn, 0, none⟩) x.N.length cn
 | 9 => v = .int .i64 (p : Nat)
 | 10 => v = .int .i64 (p : Nat)
 | 11 => v = .int .i64 ((p : Int) + 1)
 | 12 => v = .slice (some ⟨gn, 0, none⟩) (eraNd x p).N.length cn ∧ ∃ w5, Sep W0 w5 H ∧ Chg (fun b => b = gn) w5 wv ∧ wv.ownsRow 0 9 1 v (eraNd x p).N.length ((eraNd x p).N.flatMap encStr1)
 | 13 => v = .slice (some ⟨g, 0, none⟩) nT cap
 | 14 => v = .int .i64 (k : Nat)
 | 15 => v = .pointer (some ⟨g, k * 7, none⟩)
 | 16 => v = .pointer (some ⟨g, k * 7 + 6, none⟩)
 | 17 => v = .slice (some ⟨gk, 0, none⟩) x.K.length ck
 | 18 => v = .int .i64 (p : Nat)
 | 19 => v = .int .i64 (p : Nat)
 | 20 => v = .int .i64 ((p : Int) + 1)
 | 21 => v = .slice (some ⟨gk, 0, none⟩) (eraNd x p).K.length ck ∧ us.getD 0 undef = .slice (some ⟨gn, 0, none⟩) (eraNd x p).N.length cn ∧ AdOk W0 H g (⟨x, some ⟨gn, 0, none⟩, cn, some ⟨gk, 0, none⟩, ck⟩ : Nc) (eraNd x p).N (eraNd x p).K (.slice (some ⟨gn, 0, none⟩) (eraNd x p).N.length cn) v wv ∧ wv.ownsRow 0 89 7 (.slice (some ⟨g, 0, none⟩) nT cap) nT (vs.flatMap encNc)
 | 22 => v = .pointer (some ⟨g, k * 7, none⟩)
 | 23 => v = .pointer (some ⟨g, k * 7 + 5, none⟩)
 | 24 => us.getD 0 undef = .slice (some ⟨gk, 0, none⟩) (eraNd x p).K.length ck ∧ AdOk W0 H g (⟨x, some ⟨gn, 0, none⟩, cn, some ⟨gk, 0, none⟩, ck⟩ : Nc) (eraNd x p).N (eraNd x p).K (.slice (some ⟨gn, 0, none⟩) (eraNd x p).N.length cn) (.slice (some ⟨gk, 0, none⟩) (eraNd x p).K.length ck) wv ∧ wv.ownsRow 0 89 7 (.slice (some ⟨g, 0, none⟩) nT cap) nT ((vs.set k (⟨⟨x.fold, x.own, x.grp, x.mode, x.text, (eraNd x p).N, x.K⟩, some ⟨gn, 0, none⟩, cn, some ⟨gk, 0, none⟩, ck⟩ : Nc)).flatMap encNc)
 | 25 => Sep W0 wv H
 | 26 => wv.cell? ⟨g, k * 7 + 5, none⟩ = some (.slice (some ⟨gn, 0, none⟩) x.N.length cn)
 | 27 => wv.cell? ⟨g, k * 7 + 6, none⟩ = some (.slice (some ⟨gk, 0, none⟩) x.K.length ck)
 | _ => True
theorem VTk.ext {W0 : World} {H : List Pl} {g nT cap : Nat} {vs : List Nc} {k : Nat} {x : Nd} {gn cn gk ck p : Nat} (i : Nat) (v : Value) (us : List Value) (w1 w2 : World) (h : VTk W0 H g nT cap vs k x gn cn gk ck p i v us w1) (hE : Ext w1 w2) : VTk W0 H g nT cap vs k x gn cn gk ck p i v us w2 := by
 match i with
 | 0 | 1 | 2 | 3 | 4 | 5 | 6 | 7 | 8 | 9 | 10 | 11 | 13 | 14 | 15 | 16 | 17 | 18 | 19 | 20 | 22 | 23 => exact h
 | 12 => obtain ⟨h1, w5, h2, h3, h4⟩ := h; exact ⟨h1, w5, h2, h3.trans (Chg.of_ext hE), ownsRow_ext h4 hE⟩
 | 21 => exact ⟨h.1, h.2.1, h.2.2.1.ext hE, ownsRow_ext h.2.2.2 hE⟩
 | 24 => exact ⟨h.1, h.2.1.ext hE, ownsRow_ext h.2.2 hE⟩
 | 25 => exact SepM.step (show Sep W0 w1 H from h) hE
 | 26 => exact cell_ext hE h
 | 27 => exact cell_ext hE h
 | (n + 28) => trivial
theorem zeroNd : ∀ w, (zeroValue 89).run Tryz.prog w = .ok (.agg #[.bool false, .int .i64 0, .int .i64 0, .int .i64 0, .string ⟨#[]⟩, .slice none 0 0, .slice none 0 0]) w := by intro w; go_simp
theorem delNd_any (base g cap i j : Nat) (l : List Nc) (w : World) (hij : i < j) (hj : j ≤ l.length)
  (hown : w.ownsRow base 89 7 (.slice (some ⟨g, 0, none⟩) l.length cap) l.length (l.flatMap encNc)) :
  Calls Tryz.prog 152 #[.slice (some ⟨g, 0, none⟩) l.length cap, .int .i64 i, .int .i64 j] w fun e w' => e = .returned (.slice (some ⟨g, 0, none⟩) (l.length - (j - i)) cap) ∧
   w'.ownsRow base 89 7 (.slice (some ⟨g, 0, none⟩) (l.length - (j - i)) cap) (l.length - (j - i)) ((l.take i ++ l.drop j).flatMap encNc) ∧ w.grownBy w' (some g) := by
 obtain ⟨hlc, hcm, hbg⟩ := owns_bound hown; obtain ⟨i0, hi0, hz0, hz1, hz2⟩ := info_parts infoNd; have hv := zeroNd; have mixed : Tryz.prog.follows .mixedOrders = true := rfl; obtain ⟨news, hnews⟩ : ∃ news, news = (l.drop j).flatMap encNc := ⟨_, rfl⟩
 have hlen : news.length = (l.length - j) * 7 := by rw [hnews, flatMap_length encNc_len, List.length_drop]
 have hget : ∀ t, t < news.length → ∀ u, news[t]? = some u → w.cell? ⟨g, j * 7 + t, none⟩ = some u := by
  intro t ht u hu
  have hlt : j * 7 + t < l.length * 7 := by omega
  rw [hown.cellAt _ hlt]; rw [hnews, ← flatMap_drop encNc_len, List.getElem?_drop] at hu; exact hu
 obtain ⟨A, hA, hsrc⟩ : ∃ A : Addr, (if cap = j then some (⟨g, 0, none⟩ : Addr) else some ⟨g, j * 7, none⟩) = some A ∧ Hid (∀ t u, news[t]? = some u → w.drew.cell? (A.add t) = some u) := by
  by_cases h : cap = j
  ·refine ⟨⟨g, 0, none⟩, by simp [h], fun t u hu => ?_⟩
   have h0 : news.length = 0 := by rw [hlen]; omega
   rw [List.length_eq_zero_iff.1 h0] at hu; simp at hu
  ·refine ⟨⟨g, j * 7, none⟩, by simp [h], fun t u hu => ?_⟩; rw [Addr.add_lit]; have := hget t (List.getElem?_eq_some_iff.1 hu).1 u hu
   simpa using this
 have s1 : Hid (news.length = (l.length - j) * 7) := hlen
 have s2 : Hid (∀ u ∈ news, u.oneCell' = true) := by
  intro u hu; rw [hnews] at hu; obtain ⟨x, _, hx⟩ := List.mem_flatMap.1 hu; exact encNc_one x u hx
 have s3 : Hid (∀ t, t < news.length → (w.drew.cell? ⟨g, 0 + i * 7 + t, none⟩).isSome = true ∧ w.drew.frozen? ⟨g, 0 + i * 7 + t, none⟩ = false) := by
  intro t ht; rw [hlen] at ht; have := owns_there hown (i * 7 + t) (by omega); rw [Nat.zero_add]; exact this
 obtain ⟨W1, hW1⟩ : ∃ W1, W1 = w.drew.setCells g (0 + i * 7) news := ⟨_, rfl⟩
 have hg1 : w.grownBy W1 (some g) := by
  rw [hW1, kit_setCells]; exact grown_setCells _ _ (grown_of_ext (Ext.refl w).drew _)
 have ho1 : W1.ownsRow base 89 7 (.slice (some ⟨g, 0, none⟩) l.length cap) l.length (setAll (l.flatMap encNc) (i * 7) news) := by
  rw [hW1, kit_setCells, Nat.zero_add]; exact owns_setCells _ _ hown.drew
 have hcl : ∀ ty, (Builtin.clear_ #[28] ty #[.slice (some ⟨g, (i + (l.length - j)) * 7, none⟩) (l.length - (i + (l.length - j))) (cap - (i + (l.length - j)))]).run Tryz.prog W1 = .ok (.tuple #[]) (W1.setCells g ((i + (l.length - j)) * 7) (Builtin.zeroCells (.agg #[.bool false, .int .i64 0, .int .i64 0, .int .i64 0, .string ⟨#[]⟩, .slice none 0 0, .slice none 0 0] : Value).cells (l.length - (i + (l.length - j)))).toList) :=
  fun ty => run_clear_cells W1 _ _ ty _ 7 Tryz.underlying28 hv rfl (by decide) g ((i + (l.length - j)) * 7) (l.length - (i + (l.length - j))) (cap - (i + (l.length - j))) (by omega) (fun t ht => (owns_there ho1 ((i + (l.length - j)) * 7 + t) (by omega)).1) (fun t ht => (owns_there ho1 ((i + (l.length - j)) * 7 + t) (by omega)).2)
 obtain ⟨W2, hW2⟩ : ∃ W2, W2 = W1.setCells g ((i + (l.length - j)) * 7) (Builtin.zeroCells (.agg #[.bool false, .int .i64 0, .int .i64 0, .int .i64 0, .string ⟨#[]⟩, .slice none 0 0, .slice none 0 0] : Value).cells (l.length - (i + (l.length - j)))).toList := ⟨_, rfl⟩; rw [← hW2] at hcl
 have hg2 : Hid (w.grownBy W2 (some g)) := by
  rw [hW2, kit_setCells]; exact grown_setCells _ _ hg1
 have ho2 : Hid (W2.ownsRow base 89 7 (.slice (some ⟨g, 0, none⟩) (l.length - (j - i)) cap) (l.length - (j - i)) ((l.take i ++ l.drop j).flatMap encNc)) := by
  have h := owns_shrink (m := l.length - (j - i)) (owns_setCells (Builtin.zeroCells (.agg #[.bool false, .int .i64 0, .int .i64 0, .int .i64 0, .string ⟨#[]⟩, .slice none 0 0, .slice none 0 0] : Value).cells (l.length - (i + (l.length - j)))).toList ((i + (l.length - j)) * 7) ho1) (by omega); rw [hnews, del_list encNc_len l i j (by omega) hj _ (by simp [Builtin.zeroCells, Value.cells]; omega)] at h; rw [hW2, kit_setCells]; exact hd0 (by simpa using h)
 have hW : Hid (W1 = w.drew.setCells g (0 + i * 7) news) := hW1
 have hic : i ≤ cap := by omega
 have hjc : j ≤ cap := by omega
 clear hW1 hW2 hg1 ho1 hown hget hnews hlen hbg
 go_enter Tryz.func152, Tryz.ntmps152
 go_wp2_with fail
 go_region_law_o (refine step_append_room rfl (.tmp 22) (.tmp 25) 28 rfl 89 i0 7 Tryz.underlying28 hi0 hz1 g 0 i cap (by simp [Act.eval, Act.put]) A (l.length - j) (cap - j) news (by simp [Act.eval, Act.put]) s1.out hsrc.out s2.out (by omega) s3.out ?_; rw [← hW.out])
 go_wp2; go_ret; refine ⟨by rw [show l.length - (j - i) = i + (l.length - j) by omega]; rfl, ho2.out, hg2.out⟩
section
variable {β α : Type} {e nf : Nat} {enc : β → List Value} {P : Pin β α} {M : Nat → Prop} {w0 w w' : World} {H : List Pl}
theorem SepM.gCut (S : SepM M w0 w H) (i : Nat) {g n n' cap : Nat} {vs : List β} {T : List α} (hi : H[i]? = some (plG e nf enc P (.slice (some ⟨g, 0, none⟩) n cap) vs T)) (kid : Nat)
  (hg : w.grownBy w' (some g)) (ho : w'.ownsRow 0 e nf (.slice (some ⟨g, 0, none⟩) n' cap) (vs.eraseIdx kid).length ((vs.eraseIdx kid).flatMap enc)) :
  SepM M w0 w' (H.set i (plG e nf enc P (.slice (some ⟨g, 0, none⟩) n' cap) (vs.eraseIdx kid) (T.eraseIdx kid))) := by
 obtain ⟨h1, h2, h3, h4, h5⟩ := S.at_ i hi; have hch : Chg (fun b => b = g) w w' := (Chg.of_row hg).mono (fun b hb _ => (Option.some.inj hb).symm); have him := List.mem_of_getElem? hi
 have hat : ∀ (l : Nat) (s : β), (vs.eraseIdx kid)[l]? = some s → vs[if l < kid then l else l + 1]? = some s := fun l s hs => by
  rw [era_at] at hs
  split <;> rename_i h
  ·rwa [if_pos h] at hs
  ·rwa [if_neg h] at hs
 have hlt : ∀ s ∈ vs, ∀ b, P.own s b → b < w.heap.size := fun s hs b hb => (S.lt him (show (plG e nf enc P (.slice (some ⟨g, 0, none⟩) n cap) vs T).own b from .inr ⟨s, hs, hb⟩)).2
 refine S.put i hi (hch.mono (fun b hb _ => .inl (by rw [hb]; rfl))) ⟨ho, ?_, fun l s t hs ht => ?_, fun s hs b hb hb2 => ?_, fun l m s s' hlm hs hs' b hb hb' => ?_⟩ (fun b hb => ?_)
 ·rw [List.length_eraseIdx, List.length_eraseIdx, h2]
 ·have hs2 := hat l s hs
  have ht2 : T[if l < kid then l else l + 1]? = some t := by
   rw [era_at] at ht
   split <;> rename_i h
   ·rwa [if_pos h] at ht
   ·rwa [if_neg h] at ht
  have h6 := h3 _ s t hs2 ht2; exact P.frame s t w w' h6 (fun b hb => hch.block b (hlt s (List.mem_of_getElem? hs2) b hb) (fun e => h4 s (List.mem_of_getElem? hs2) b hb (by rw [e]; rfl)))
 ·obtain ⟨l, hl⟩ := List.getElem?_of_mem hs; exact h4 s (List.mem_of_getElem? (hat l s hl)) b hb hb2
 ·exact h5 _ _ s s' (fun e => hlm (by split at e <;> split at e <;> omega)) (hat l s hs) (hat m s' hs') b hb hb'
 ·rcases hb with hb | ⟨s, hs, hb⟩
  ·exact .inl (.inl hb)
  ·obtain ⟨l, hl⟩ := List.getElem?_of_mem hs; exact .inl (.inr ⟨s, List.mem_of_getElem? (hat l s hl), hb⟩)
end
section
variable {M : Nat → Prop} {w0 w : World} {H : List Pl} {g n cap : Nat} {vs : List Nc} {T : List Nd} {k gk : Nat} {c : Nc} {x : Nd}
def kidNd (x : Nd) (K : List Int) : Nd := ⟨x.fold, x.own, x.grp, x.mode, x.text, x.N, K⟩
theorem SepM.ndKid (S : SepM M w0 w H) (i : Nat) (hi : H[i]? = some (plNd (.slice (some ⟨g, 0, none⟩) n cap) vs T)) (hc : vs[k]? = some c) (hx : T[k]? = some x) (hak : c.ak = some ⟨gk, 0, none⟩) (j : Nat) (y : Int) (hj : j < x.K.length) :
  SepM M w0 (w.setCell ⟨gk, j, none⟩ (.int .i64 y)) (H.set i (plNd (.slice (some ⟨g, 0, none⟩) n cap) (vs.set k ⟨kidNd x (x.K.set j y), c.an, c.cn, c.ak, c.ck⟩) (T.set k (kidNd x (x.K.set j y))))) := by
 obtain ⟨h1, h2, h3, h4, h5⟩ := S.at_ i hi; obtain ⟨pN, pK, pO, pA⟩ := S.nd_pin' i hi hc hx; obtain ⟨hk, hck⟩ := List.getElem?_eq_some_iff.1 hc; have e1 := (h3 k c x hc hx).1; obtain ⟨cn', an, cn, ak, ck⟩ := c; dsimp only at hak e1 pN pK pO pA; subst hak e1; have hch := Chg.setCell w gk j (.int .i64 y); have hgg : gk ≠ g := (pO gk (.inr rfl)).1; have hlen : (cn'.K.set j y).length = cn'.K.length := List.length_set; have hK := owns_set encInt1_len pK j 0 (.int .i64 y) y hj (by omega) rfl; rw [Nat.mul_one, Nat.add_zero] at hK
 have hcells : (vs.set k (⟨kidNd cn' (cn'.K.set j y), an, cn, some ⟨gk, 0, none⟩, ck⟩ : Nc)).flatMap encNc = vs.flatMap encNc := by
  have e : (vs.set k (⟨kidNd cn' (cn'.K.set j y), an, cn, some ⟨gk, 0, none⟩, ck⟩ : Nc)).map encNc = vs.map encNc := by
   rw [List.map_set]
   have e2 : encNc (⟨kidNd cn' (cn'.K.set j y), an, cn, some ⟨gk, 0, none⟩, ck⟩ : Nc) = encNc vs[k] := by
    rw [hck]
    show [Value.bool cn'.fold, .int .i64 cn'.own, .int .i64 cn'.grp, .int .i64 cn'.mode, .string cn'.text, .slice an cn'.N.length cn, .slice (some ⟨gk, 0, none⟩) (cn'.K.set j y).length ck] = _
    rw [hlen]; rfl
   rw [e2]; apply List.ext_getElem?; intro l
   by_cases hl : k = l
   ·subst hl; rw [List.getElem?_set_self (by simpa using hk), List.getElem?_map, hc, hck]; rfl
   ·rw [List.getElem?_set_ne hl]
  rw [List.flatMap_def, List.flatMap_def, e]
 refine S.ndPut i hi hc (c' := ⟨kidNd cn' (cn'.K.set j y), an, cn, some ⟨gk, 0, none⟩, ck⟩) (x' := kidNd cn' (cn'.K.set j y)) (hch.mono (fun b hb _ => .inr (.inr (.inr (by rw [hb]; rfl))))) ?_ ⟨rfl, ?_, ?_, ?_⟩ (fun b hb => ?_)
 ·rw [hcells]
  exact (plRow 89 7 encNc (.slice (some ⟨g, 0, none⟩) n cap) vs).frame w _ h1 (fun b hb => by
   have hb' : g = b := Option.some.inj hb; subst hb'
   exact hch.block g (S.lt (List.mem_of_getElem? hi) (show (plNd (.slice (some ⟨g, 0, none⟩) n cap) vs T).own g from .inl rfl)).2 (fun e => hgg e.symm))
 ·exact (plRow 9 1 encStr1 (.slice an cn'.N.length cn) cn'.N).frame w _ pN (fun b hb => hch.block b (pO b (.inl hb)).2.2 (fun e => pA b hb (by rw [e]; rfl)))
 ·show World.ownsRow _ _ _ _ (.slice (some ⟨gk, 0, none⟩) (cn'.K.set j y).length ck) (cn'.K.set j y).length ((cn'.K.set j y).flatMap encInt1)
  rw [hlen]; exact hK
 ·intro b hb hb2; have hb2' : (Value.slice (some ⟨gk, 0, none⟩) (cn'.K.set j y).length ck).ownBlock = some b := hb2; exact pA b hb hb2'
 ·exact .inl hb
end
def mapMix {α : Type} (f : α → α) (l : List α) (q : Nat) : List α := (l.take q).map f ++ l.drop q
section
variable {α : Type} {f : α → α} {l : List α} {q : Nat} {x : α}
theorem mm_len (hq : q ≤ l.length) : (mapMix f l q).length = l.length := by simp [mapMix]; omega
theorem mm_zero : mapMix f l 0 = l := by simp [mapMix]
theorem mm_full : mapMix f l l.length = l.map f := by simp [mapMix]
theorem mm_at (hq : q ≤ l.length) : (mapMix f l q)[q]? = l[q]? := by
 unfold mapMix; rw [List.getElem?_append_right (by simp; omega), List.length_map, List.length_take, Nat.min_eq_left hq, Nat.sub_self, List.getElem?_drop, Nat.add_zero]
theorem mm_set (hx : l[q]? = some x) : (mapMix f l q).set q (f x) = mapMix f l (q + 1) := by
 obtain ⟨hq, rfl⟩ := List.getElem?_eq_some_iff.1 hx; unfold mapMix
 have hl : ((l.take q).map f).length = q := by simp; omega
 rw [List.set_append, if_neg (by omega), hl, Nat.sub_self, List.drop_eq_getElem_cons hq, List.set_cons_zero, List.take_succ_eq_append_getElem hq, List.map_append, List.append_assoc]; rfl
theorem mm_same (hx : l[q]? = some x) (h : f x = x) : mapMix f l q = mapMix f l (q + 1) := by
 rw [← mm_set hx, h]; apply List.ext_getElem?; intro j
 by_cases hj : q = j
 ·subst hj; have hq := (List.getElem?_eq_some_iff.1 hx).1; rw [List.getElem?_set_self (by rw [mm_len (by omega)]; exact hq), mm_at (by omega), hx]
 ·rw [List.getElem?_set_ne hj]
end
end Go.Proofs.YtnibbldfohbfkaaGreatDoor
