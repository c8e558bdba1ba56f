/- FnExactCallLines returns true and leaves its argument alone, for every argument that can be read; what its row lists is tied to the text. No condition. -/
import Derived.ChangeMaps5
import Derived.Test.YtnibbldfohbfkaaGreatDoorMl21
set_option linter.all false
set_option maxRecDepth 100000
set_option maxHeartbeats 32000000
namespace Go.Proofs.YtnibbldfohbfkaaGreatDoor
open Go.RowKit
theorem exactCallLines_any (at_ : Option Addr) (ct : Nat) (T : List Nd) (r a s g : Int) (al : Option Addr) (capl : Nat) (L : List ByteArray) (w : World) (hT : T.length ≤ 9223372036854775807) (hlt : ∀ t ∈ T, SmN 9223372036854775807 t) (hrt : RdN w at_ T) (hll : L.length ≤ 9223372036854775807) (hsl : ∀ x ∈ L, x.size ≤ 9223372036854775807) (hrl : Rd 1 encStr1 w al L) (hm : MaxG w) :
  Calls Tryz.prog 5 #[.agg #[.slice at_ T.length ct, .int .i64 r, .int .i64 a, .int .i64 s, .int .i64 g], .slice al L.length capl] w (RetB True w) := by
 have HLT0 := Lib.hid hlt; clear hlt; have HSL0 := Lib.hid hsl; clear hsl
 go_enter Tryz.func5, Tryz.ntmps5
 have S := Sep.start w; replace S := S.alloc_at (n := w.heap.size) (by simp) #[.slice at_ T.length ct, .int .i64 r, .int .i64 a, .int .i64 s, .int .i64 g] 26
 go_wp2_with fail
 generalize (w.alloc (.cells #[.slice at_ T.length ct, .int .i64 r, .int .i64 a, .int .i64 s, .int .i64 g] 26)) = w1 at *; refine (szKer_more at_ ct T r a s g _ _ (by omega) (by omega) hT HLT0.out (hrt.ext S.ext)).mono ?_; rintro e w2 ⟨r2, rfl, hra2, hrb2, hrc2, hE⟩; have Hrc := Lib.hid hrc2; clear hrc2; replace S := S.step hE; clear hE
 by_cases hneg : r2 < 0
 ·go_wp2; go_ret; exact RetB.mk true rfl (by simp) S.ext
 have hall := Hrc.out (by omega); have hlT : T.length ≤ 1048576 := hall.1.1.1; have HLT : Hid (∀ t ∈ T, SmN 1048576 t) := Lib.hid hall.1.1.2; have HNK := Lib.hid hall.1.2; have hsum : sumNd T ≤ 6291456 := hall.2; have HNB : Hid (TreeOk T → NB 524288 T) := Lib.hid (fun h => nb_sz hall.1.2 h); clear Hrc hall
 go_wp2_with fail
 refine (szStr_more al capl L r2 _ (by omega) (by omega) hll HSL0.out (hrl.ext S.ext)).mono ?_; rintro e w3 ⟨r3, rfl, hra3, hrb3, hrc3, hE⟩; have Hrc := Lib.hid hrc3; clear hrc3; replace S := S.step hE; clear hE
 by_cases hneg3 : r3 < 0
 ·go_wp2; go_ret; exact RetB.mk true rfl (by simp) S.ext
 have hlL : L.length ≤ 1048576 := (Hrc.out (by omega)).2.1; have HSL : Hid (∀ x ∈ L, x.size ≤ 1048576) := Lib.hid (Hrc.out (by omega)).2.2; clear Hrc hra3 hrb3; clear hra2 hrb2; obtain ⟨R, tx, hR⟩ : ∃ R tx, callLines T ⟨r, a, s, g⟩ L = (R, tx) := ⟨_, _, rfl⟩; obtain ⟨cr, ca, cs, cg, hcc⟩ : ∃ cr ca cs cg, linesCr T ⟨r, a, s, g⟩ L = ⟨cr, ca, cs, cg⟩ := ⟨_, _, _, _, rfl⟩
 have HSp : Hid (∀ (a1 : Option Addr) (c1 : Nat) (a2 : Option Addr) (c2 : Nat) (w' : World), RdN w' a1 T → Rd 1 encStr1 w' a2 L → MaxG w' → Calls Tryz.prog 16 #[.agg #[.slice a1 T.length c1, .int .i64 r, .int .i64 a, .int .i64 s, .int .i64 g], .slice a2 L.length c2] w' (fun e w'' => ∃ u vs u2, e = .returned (.tuple #[.agg #[u, .int .i64 cr, .int .i64 ca, .int .i64 cs, .int .i64 cg], u2]) ∧ Sep w' w'' [plNd u vs R, plOut u2 tx])) := Lib.hid (fun a1 c1 a2 c2 w' hrd hrd2 hm' => by
  have h := specCallLines a1 c1 T r a s g a2 c2 L w' hlT HLT.out (fun h => nb_more (HNB.out h) (by omega)) hrd hlL HSL.out hrd2; rw [hR, hcc] at h
  exact h)
 have HIm : Hid (∀ (a1 : Option Addr) (c1 : Nat) (a2 : Option Addr) (c2 : Nat) (w' : World), RdN w' a1 T → Rd 1 encStr1 w' a2 L → MaxG w' → Calls Tryz.prog 15 #[.agg #[.slice a1 T.length c1, .int .i64 r, .int .i64 a, .int .i64 s, .int .i64 g], .slice a2 L.length c2] w' (fun e w'' => ∃ u vs u2, e = .returned (.tuple #[.agg #[u, .int .i64 cr, .int .i64 ca, .int .i64 cs, .int .i64 cg], u2]) ∧ Sep w' w'' [plNd u vs R, plOut u2 tx])) := Lib.hid (fun a1 c1 a2 c2 w' hrd hrd2 hm' => by
  have h := implCallLines a1 c1 T r a s g a2 c2 L w' hlT HLT.out (fun h => nb_more (HNB.out h) (by omega)) hrd hlL HSL.out hrd2 hm'; rw [hR, hcc] at h
  exact h)
 have HBd : Hid (Small R) := Lib.hid (by have h := (lines_small (c := ⟨r, a, s, g⟩) HNB.out L).1; rw [hR] at h; exact h)
 have hlA : tx.length ≤ 30 := by have h := (lines_small (c := ⟨r, a, s, g⟩) HNB.out L).2; rw [hR] at h; exact h
 clear hR hcc HNB; have hlR : R.length ≤ 1048576 := HBd.out.1; have hsumR : sumNd R ≤ 100000000 := HBd.out.2.2; obtain ⟨⟨bmc0, bmf0⟩, ⟨bmc1, bmf1⟩, ⟨bmc2, bmf2⟩, ⟨bmc3, bmf3⟩, ⟨bmc4, bmf4⟩⟩ := bx5 (S.box 0 rfl)
 go_wp2_with fail
 clear bmc0 bmf0 bmc1 bmf1 bmc2 bmf2 bmc3 bmf3 bmc4 bmf4; refine (toKer_any at_ ct T r a s g _ hlT HLT.out (hrt.ext S.ext)).mono ?_; rintro e w11 ⟨a1s, c1s, vss, rfl, hk1s, U⟩; clear hk1s; replace S : Sep w w11 [plNd (.slice a1s T.length c1s) vss T, plBox w.heap.size #[.slice at_ T.length ct, .int .i64 r, .int .i64 a, .int .i64 s, .int .i64 g] 26] := S.call U; clear U
 go_wp2_with fail
 refine (toStr_any al capl L _ hlL (hrl.ext S.ext)).mono ?_; rintro e w12 ⟨u, rfl, ⟨ho, hv⟩, hE⟩; obtain ⟨a2s, c2s, hv2, hk2s, _, _⟩ := view_owns encStr1_len ho; subst hv2; clear hv; have U := Sep.of_owns hE ho; clear hE ho hk2s; replace S : Sep w w12 [plRow 9 1 encStr1 (.slice a2s L.length c2s) L, plNd (.slice a1s T.length c1s) vss T, plBox w.heap.size #[.slice at_ T.length ct, .int .i64 r, .int .i64 a, .int .i64 s, .int .i64 g] 26] := S.call U; clear U
 go_wp2_with fail
 refine (HSp.out a1s c1s a2s c2s _ (S.rdN 1 rfl) (S.rd 0 encStr1_len rfl rfl) (hm.ext S.ext)).mono ?_; rintro e w13 ⟨uW, vW, u2W, rfl, U⟩; obtain ⟨aW, cW, rfl, _, _⟩ := nd_view (U.at_ 0 rfl); obtain ⟨aaW, ccW, rfl, _⟩ := out_view (U.at_ 1 rfl); replace S : Sep w w13 [plNd (.slice aW R.length cW) vW R, plOut (.slice aaW tx.length ccW) tx, plRow 9 1 encStr1 (.slice a2s L.length c2s) L, plNd (.slice a1s T.length c1s) vss T, plBox w.heap.size #[.slice at_ T.length ct, .int .i64 r, .int .i64 a, .int .i64 s, .int .i64 g] 26] := S.call U; clear U; replace S : Sep w w13 [plNd (.slice aW R.length cW) vW R, plOut (.slice aaW tx.length ccW) tx, plBox w.heap.size #[.slice at_ T.length ct, .int .i64 r, .int .i64 a, .int .i64 s, .int .i64 g] 26] := (S.drop 3).drop 2; replace S := S.alloc_at (n := w13.heap.size) (by simp) #[.slice aW R.length cW, .int .i64 cr, .int .i64 ca, .int .i64 cs, .int .i64 cg] 31; obtain ⟨⟨bmc0, bmf0⟩, ⟨bmc1, bmf1⟩, ⟨bmc2, bmf2⟩, ⟨bmc3, bmf3⟩, ⟨bmc4, bmf4⟩⟩ := bx5 (S.box 3 rfl)
 go_wp2_with fail
 generalize (w13.alloc (.cells #[.slice aW R.length cW, .int .i64 cr, .int .i64 ca, .int .i64 cs, .int .i64 cg] 31)) = w14 at *; clear bmc0 bmf0 bmc1 bmf1 bmc2 bmf2 bmc3 bmf3 bmc4 bmf4; refine (toKer_any at_ ct T r a s g _ hlT HLT.out (hrt.ext S.ext)).mono ?_; rintro e w15 ⟨a1x, c1x, vsx, rfl, hk1x, U⟩; clear hk1x; replace S : Sep w w15 [plNd (.slice a1x T.length c1x) vsx T, plBox w13.heap.size #[.slice aW R.length cW, .int .i64 cr, .int .i64 ca, .int .i64 cs, .int .i64 cg] 31, plNd (.slice aW R.length cW) vW R, plOut (.slice aaW tx.length ccW) tx, plBox w.heap.size #[.slice at_ T.length ct, .int .i64 r, .int .i64 a, .int .i64 s, .int .i64 g] 26] := S.call U; clear U; replace S := S.alloc_at (n := w15.heap.size) (by simp) #[.slice a1x T.length c1x, .int .i64 r, .int .i64 a, .int .i64 s, .int .i64 g] 31
 go_wp2_with fail
 generalize (w15.alloc (.cells #[.slice a1x T.length c1x, .int .i64 r, .int .i64 a, .int .i64 s, .int .i64 g] 31)) = w16 at *; refine (toStr_any al capl L _ hlL (hrl.ext S.ext)).mono ?_; rintro e w17 ⟨u, rfl, ⟨ho, hv⟩, hE⟩; obtain ⟨a2x, c2x, hv2, hk2x, _, _⟩ := view_owns encStr1_len ho; subst hv2; clear hv; have U := Sep.of_owns hE ho; clear hE ho hk2x; replace S : Sep w w17 [plRow 9 1 encStr1 (.slice a2x L.length c2x) L, plBox w15.heap.size #[.slice a1x T.length c1x, .int .i64 r, .int .i64 a, .int .i64 s, .int .i64 g] 31, plNd (.slice a1x T.length c1x) vsx T, plBox w13.heap.size #[.slice aW R.length cW, .int .i64 cr, .int .i64 ca, .int .i64 cs, .int .i64 cg] 31, plNd (.slice aW R.length cW) vW R, plOut (.slice aaW tx.length ccW) tx, plBox w.heap.size #[.slice at_ T.length ct, .int .i64 r, .int .i64 a, .int .i64 s, .int .i64 g] 26] := S.call U; clear U; obtain ⟨⟨bxc0, bxf0⟩, ⟨bxc1, bxf1⟩, ⟨bxc2, bxf2⟩, ⟨bxc3, bxf3⟩, ⟨bxc4, bxf4⟩⟩ := bx5 (S.box 1 rfl)
 go_wp2_with fail
 clear bxc0 bxf0 bxc1 bxf1 bxc2 bxf2 bxc3 bxf3 bxc4 bxf4; refine (HIm.out a1x c1x a2x c2x _ (S.rdN 2 rfl) (S.rd 0 encStr1_len rfl rfl) (hm.ext S.ext)).mono ?_; rintro e w18 ⟨uG, vG, u2G, rfl, U⟩; obtain ⟨aG, cG, rfl, _, _⟩ := nd_view (U.at_ 0 rfl); obtain ⟨aaG, ccG, rfl, _⟩ := out_view (U.at_ 1 rfl); replace S : Sep w w18 [plNd (.slice aG R.length cG) vG R, plOut (.slice aaG tx.length ccG) tx, plRow 9 1 encStr1 (.slice a2x L.length c2x) L, plBox w15.heap.size #[.slice a1x T.length c1x, .int .i64 r, .int .i64 a, .int .i64 s, .int .i64 g] 31, plNd (.slice a1x T.length c1x) vsx T, plBox w13.heap.size #[.slice aW R.length cW, .int .i64 cr, .int .i64 ca, .int .i64 cs, .int .i64 cg] 31, plNd (.slice aW R.length cW) vW R, plOut (.slice aaW tx.length ccW) tx, plBox w.heap.size #[.slice at_ T.length ct, .int .i64 r, .int .i64 a, .int .i64 s, .int .i64 g] 26] := S.call U; clear U; replace S := S.alloc_at (n := w18.heap.size) (by simp) #[.slice aG R.length cG, .int .i64 cr, .int .i64 ca, .int .i64 cs, .int .i64 cg] 31; obtain ⟨⟨bwc0, bwf0⟩, ⟨bwc1, bwf1⟩, ⟨bwc2, bwf2⟩, ⟨bwc3, bwf3⟩, ⟨bwc4, bwf4⟩⟩ := bx5 (S.box 6 rfl)
 go_wp2_with fail
 generalize (w18.alloc (.cells #[.slice aG R.length cG, .int .i64 cr, .int .i64 ca, .int .i64 cs, .int .i64 cg] 31)) = w19 at *; clear bwc0 bwf0 bwc1 bwf1 bwc2 bwf2 bwc3 bwf3 bwc4 bwf4; refine (eqKer_any aG aW cG cW R R cr ca cs cg cr ca cs cg _ (by omega) (by omega) (fun x hx => (HBd.out.2.1 x hx).big) (fun x hx => (HBd.out.2.1 x hx).big) (S.rdN 1 rfl) (S.rdN 7 rfl)).mono ?_; rintro e w20 ⟨q, rfl, hq, hE⟩; obtain rfl : q = true := hq.2 ⟨rfl, rfl, rfl, rfl, rfl⟩; clear hq; replace S := S.step hE; clear hE
 go_wp2_with fail
 refine (eqStr_any _ _ _ _ tx tx _ (by omega) (by omega) (out_rd (S.at_ 2 rfl)) (out_rd (S.at_ 8 rfl))).mono ?_; rintro e w21 ⟨q, rfl, hq, hE⟩; obtain rfl : q = true := hq.2 rfl; clear hq; replace S := S.step hE; clear hE; obtain ⟨⟨bmc0, bmf0⟩, ⟨bmc1, bmf1⟩, ⟨bmc2, bmf2⟩, ⟨bmc3, bmf3⟩, ⟨bmc4, bmf4⟩⟩ := bx5 (S.box 9 rfl); obtain ⟨⟨bxc0, bxf0⟩, ⟨bxc1, bxf1⟩, ⟨bxc2, bxf2⟩, ⟨bxc3, bxf3⟩, ⟨bxc4, bxf4⟩⟩ := bx5 (S.box 4 rfl)
 go_upto_region 14 with fail
 have hx1 : RdN (World.drew w21) a1x T := (S.rdN 5 rfl).ext (Ext.refl _).drew; have Ed := S.ext.drew
 refine wp_region_v 5 (V := fun i v wv => match i with
  | 0 => v = .agg #[.slice a1x T.length c1x, .int .i64 r, .int .i64 a, .int .i64 s, .int .i64 g]
  | 1 => v = .agg #[.slice at_ T.length ct, .int .i64 r, .int .i64 a, .int .i64 s, .int .i64 g]
  | 2 => KerQ T r a s g v wv
  | 3 => v = .bool true
  | 4 => v = .bool false
  | _ => True) rfl (by decide) (by kernel_rfl) (by kernel_rfl) (by kernel_rfl) ?_ ?_ ?_
 ·intro i v wa wb h hE
  match i with
  | 0 => exact h
  | 1 => exact h
  | 2 => exact KerQ.ext h hE
  | 3 => exact h
  | 4 => exact h
  | (n + 5) => trivial
 ·intro i o hi ho vs wc hvl hE hd; have c0 := cell_ext hE (show (World.drew w21).cell? _ = _ from bmc0); have c1 := cell_ext hE (show (World.drew w21).cell? _ = _ from bmc1); have c2 := cell_ext hE (show (World.drew w21).cell? _ = _ from bmc2); have c3 := cell_ext hE (show (World.drew w21).cell? _ = _ from bmc3); have c4 := cell_ext hE (show (World.drew w21).cell? _ = _ from bmc4); have d0 := cell_ext hE (show (World.drew w21).cell? _ = _ from bxc0); have d1 := cell_ext hE (show (World.drew w21).cell? _ = _ from bxc1); have d2 := cell_ext hE (show (World.drew w21).cell? _ = _ from bxc2); have d3 := cell_ext hE (show (World.drew w21).cell? _ = _ from bxc3); have d4 := cell_ext hE (show (World.drew w21).cell? _ = _ from bxc4); have hr5 := hx1.ext hE; have E7 := Ed.trans hE; clear bmc0 bmf0 bmc1 bmf1 bmc2 bmf2 bmc3 bmf3 bmc4 bmf4 bxc0 bxf0 bxc1 bxf1 bxc2 bxf2 bxc3 bxf3 bxc4 bxf4
  match vs, hvl with
  | [x0, x1, x2, x3, x4], _ =>
  rcases lc5 hi with rfl | rfl | rfl | rfl | rfl
  all_goals
   obtain rfl := Option.some.inj ho; simp [Waits, Region.binds] at hd
  ·simp [putAll, Act.put]; go_wp2; exact ⟨rfl, _, rfl, rfl, Ext.refl _⟩
  ·simp [putAll, Act.put]; go_wp2; exact ⟨rfl, _, rfl, rfl, Ext.refl _⟩
  ·simp [putAll, Act.put, hd]
   go_wp2_with fail
   refine (toKer_any at_ ct T r a s g wc hlT HLT.out (hrt.ext E7)).mono ?_; rintro e wd ⟨a8, c8, vs9, rfl, _, U⟩; have h9 : KerQ T r a s g (.agg #[.slice a8 T.length c8, .int .i64 r, .int .i64 a, .int .i64 s, .int .i64 g]) wd := ⟨_, _, rfl, U.rdN 0 rfl⟩; have hb := U.ext; clear U; go_wp2; exact ⟨rfl, _, rfl, h9, hb⟩
  ·obtain ⟨hd0, a8, c8, hd1, hr8⟩ := hd; subst hd0 hd1; simp [putAll, Act.put]
   go_wp2_with fail
   refine (eqKer_any _ _ _ _ T T r a s g r a s g wc hT hT HLT0.out HLT0.out hr5 hr8).mono ?_; rintro e wd ⟨b8, rfl, hb8, hb⟩; obtain rfl : b8 = true := hb8.2 ⟨rfl, rfl, rfl, rfl, rfl⟩; clear hb8; go_wp2; exact ⟨rfl, _, rfl, rfl, hb⟩
  ·simp [putAll, Act.put, hd]; go_wp2; exact ⟨rfl, _, rfl, rfl, Ext.refl _⟩
 intro vs w50 hvl hE hV
 match vs, hvl with
 | [x0, x1, x2, x3, x4], _ =>
 have e4 := hV 4 (by omega); clear hV; simp at e4; subst e4; simp only [putAll, Act.put, List.take_succ_cons, List.take_zero, List.drop_succ_cons, List.drop_zero]; simp; clear bmc0 bmf0 bmc1 bmf1 bmc2 bmf2 bmc3 bmf3 bmc4 bmf4 bxc0 bxf0 bxc1 bxf1 bxc2 bxf2 bxc3 bxf3 bxc4 bxf4; replace hE := ((Ext.refl _).drew).trans hE; replace S := S.step hE; clear hE; clear hx1 Ed
 go_wp2_with fail
 refine (toStr_any al capl L _ hlL (hrl.ext S.ext)).mono ?_; rintro e w22 ⟨u, rfl, ⟨ho, hv⟩, hE⟩; obtain ⟨a2t, c2t, hv2, hk2t, _, _⟩ := view_owns encStr1_len ho; subst hv2; clear hv; have U := Sep.of_owns hE ho; clear hE ho hk2t; replace S : Sep w w22 [plRow 9 1 encStr1 (.slice a2t L.length c2t) L, plBox w18.heap.size #[.slice aG R.length cG, .int .i64 cr, .int .i64 ca, .int .i64 cs, .int .i64 cg] 31, plNd (.slice aG R.length cG) vG R, plOut (.slice aaG tx.length ccG) tx, plRow 9 1 encStr1 (.slice a2x L.length c2x) L, plBox w15.heap.size #[.slice a1x T.length c1x, .int .i64 r, .int .i64 a, .int .i64 s, .int .i64 g] 31, plNd (.slice a1x T.length c1x) vsx T, plBox w13.heap.size #[.slice aW R.length cW, .int .i64 cr, .int .i64 ca, .int .i64 cs, .int .i64 cg] 31, plNd (.slice aW R.length cW) vW R, plOut (.slice aaW tx.length ccW) tx, plBox w.heap.size #[.slice at_ T.length ct, .int .i64 r, .int .i64 a, .int .i64 s, .int .i64 g] 26] := S.call U; clear U
 go_wp2_with fail
 refine (eqStr_any _ _ _ _ L L _ (by omega) (by omega) (S.rd 4 encStr1_len rfl rfl) (S.rd 0 encStr1_len rfl rfl)).mono ?_; rintro e w23 ⟨q, rfl, hq, hE⟩; obtain rfl : q = true := hq.2 rfl; clear hq; replace S := S.step hE; clear hE; replace S : Sep w w23 [plBox w18.heap.size #[.slice aG R.length cG, .int .i64 cr, .int .i64 ca, .int .i64 cs, .int .i64 cg] 31, plNd (.slice aG R.length cG) vG R, plOut (.slice aaG tx.length ccG) tx, plRow 9 1 encStr1 (.slice a2x L.length c2x) L, plBox w15.heap.size #[.slice a1x T.length c1x, .int .i64 r, .int .i64 a, .int .i64 s, .int .i64 g] 31, plNd (.slice a1x T.length c1x) vsx T, plBox w13.heap.size #[.slice aW R.length cW, .int .i64 cr, .int .i64 ca, .int .i64 cs, .int .i64 cg] 31, plNd (.slice aW R.length cW) vW R, plOut (.slice aaW tx.length ccW) tx, plBox w.heap.size #[.slice at_ T.length ct, .int .i64 r, .int .i64 a, .int .i64 s, .int .i64 g] 26] := S.drop 0; obtain ⟨⟨bxc0, bxf0⟩, ⟨bxc1, bxf1⟩, ⟨bxc2, bxf2⟩, ⟨bxc3, bxf3⟩, ⟨bxc4, bxf4⟩⟩ := bx5 (S.box 4 rfl)
 go_wp2_with fail
 clear bxc0 bxf0 bxc1 bxf1 bxc2 bxf2 bxc3 bxf3 bxc4 bxf4; refine (markKer_own S 5 r a s g 1 rfl hlT (fun x hx => ⟨(HLT.out x hx).2.1, (HLT.out x hx).2.2.2⟩) (by omega) (by omega) (by omega)).mono ?_; rintro e w24 ⟨vm, rfl, SM⟩; replace S : Sep w w24 [plBox w18.heap.size #[.slice aG R.length cG, .int .i64 cr, .int .i64 ca, .int .i64 cs, .int .i64 cg] 31, plNd (.slice aG R.length cG) vG R, plOut (.slice aaG tx.length ccG) tx, plRow 9 1 encStr1 (.slice a2x L.length c2x) L, plBox w15.heap.size #[.slice a1x T.length c1x, .int .i64 r, .int .i64 a, .int .i64 s, .int .i64 g] 31, plNd (.slice a1x T.length c1x) vm (marksNd T 1), plBox w13.heap.size #[.slice aW R.length cW, .int .i64 cr, .int .i64 ca, .int .i64 cs, .int .i64 cg] 31, plNd (.slice aW R.length cW) vW R, plOut (.slice aaW tx.length ccW) tx, plBox w.heap.size #[.slice at_ T.length ct, .int .i64 r, .int .i64 a, .int .i64 s, .int .i64 g] 26] := SM; clear SM
 go_wp2_with fail
 refine (markStrS_own w.heap.size (.slice a2x L.length c2x) L.length L (1 + (sumNd T : Int)) _ rfl hlL (by omega) (by omega) (S.row 3 rfl)).mono ?_; rintro e w25 ⟨rfl, hq, hg⟩
 replace hq : World.ownsRow w25 w.heap.size 9 1 (.slice a2x L.length c2x) (marksStr L.length (1 + (sumNd T : Int))).length ((marksStr L.length (1 + (sumNd T : Int))).flatMap encStr1) := by rw [marksStr_len]; exact hq
 replace S : Sep w w25 [plBox w18.heap.size #[.slice aG R.length cG, .int .i64 cr, .int .i64 ca, .int .i64 cs, .int .i64 cg] 31, plNd (.slice aG R.length cG) vG R, plOut (.slice aaG tx.length ccG) tx, plRow 9 1 encStr1 (.slice a2x L.length c2x) (marksStr L.length (1 + (sumNd T : Int))), plBox w15.heap.size #[.slice a1x T.length c1x, .int .i64 r, .int .i64 a, .int .i64 s, .int .i64 g] 31, plNd (.slice a1x T.length c1x) vm (marksNd T 1), plBox w13.heap.size #[.slice aW R.length cW, .int .i64 cr, .int .i64 ca, .int .i64 cs, .int .i64 cg] 31, plNd (.slice aW R.length cW) vW R, plOut (.slice aaW tx.length ccW) tx, plBox w.heap.size #[.slice at_ T.length ct, .int .i64 r, .int .i64 a, .int .i64 s, .int .i64 g] 26] := S.grow 3 rfl hg hq (fun b h => .inl h); clear hq hg
 have hk1 : ¬ ((1 + (sumNd T : Int) + (L.length : Int)) < 0) := by omega
 obtain ⟨⟨bgc0, bgf0⟩, ⟨bgc1, bgf1⟩, ⟨bgc2, bgf2⟩, ⟨bgc3, bgf3⟩, ⟨bgc4, bgf4⟩⟩ := bx5 (S.box 0 rfl); obtain ⟨⟨bwc0, bwf0⟩, ⟨bwc1, bwf1⟩, ⟨bwc2, bwf2⟩, ⟨bwc3, bwf3⟩, ⟨bwc4, bwf4⟩⟩ := bx5 (S.box 6 rfl)
 go_wp2_with fail
 clear bgc0 bgf0 bgc1 bgf1 bgc2 bgf2 bgc3 bgf3 bgc4 bgf4 bwc0 bwf0 bwc1 bwf1 bwc2 bwf2 bwc3 bwf3 bwc4 bwf4; refine (eqKer_any aG aW cG cW R R cr ca cs cg cr ca cs cg _ (by omega) (by omega) (fun x hx => (HBd.out.2.1 x hx).big) (fun x hx => (HBd.out.2.1 x hx).big) (S.rdN 1 rfl) (S.rdN 7 rfl)).mono ?_; rintro e w26 ⟨q, rfl, hq, hE⟩; obtain rfl : q = true := hq.2 ⟨rfl, rfl, rfl, rfl, rfl⟩; clear hq; replace S := S.step hE; clear hE
 go_wp2_with fail
 refine (eqStr_any _ _ _ _ tx tx _ (by omega) (by omega) (out_rd (S.at_ 2 rfl)) (out_rd (S.at_ 8 rfl))).mono ?_; rintro e w27 ⟨q, rfl, hq, hE⟩; obtain rfl : q = true := hq.2 rfl; clear hq; replace S := S.step hE; clear hE; obtain ⟨⟨bgc0, bgf0⟩, ⟨bgc1, bgf1⟩, ⟨bgc2, bgf2⟩, ⟨bgc3, bgf3⟩, ⟨bgc4, bgf4⟩⟩ := bx5 (S.box 0 rfl)
 go_wp2_with fail
 clear bgc0 bgf0 bgc1 bgf1 bgc2 bgf2 bgc3 bgf3 bgc4 bgf4; refine (markKer_own S 1 cr ca cs cg 1 rfl hlR HBd.out.nk hsumR (by omega) (by omega)).mono ?_; rintro e w28 ⟨vq, rfl, SM⟩; replace S : Sep w w28 [plBox w18.heap.size #[.slice aG R.length cG, .int .i64 cr, .int .i64 ca, .int .i64 cs, .int .i64 cg] 31, plNd (.slice aG R.length cG) vq (marksNd R 1), plOut (.slice aaG tx.length ccG) tx, plRow 9 1 encStr1 (.slice a2x L.length c2x) (marksStr L.length (1 + (sumNd T : Int))), plBox w15.heap.size #[.slice a1x T.length c1x, .int .i64 r, .int .i64 a, .int .i64 s, .int .i64 g] 31, plNd (.slice a1x T.length c1x) vm (marksNd T 1), plBox w13.heap.size #[.slice aW R.length cW, .int .i64 cr, .int .i64 ca, .int .i64 cs, .int .i64 cg] 31, plNd (.slice aW R.length cW) vW R, plOut (.slice aaW tx.length ccW) tx, plBox w.heap.size #[.slice at_ T.length ct, .int .i64 r, .int .i64 a, .int .i64 s, .int .i64 g] 26] := SM; clear SM
 go_wp2_with fail
 refine (markOut_own _ _ tx (1 + (sumNd R : Int)) _ (by omega) (by omega) (by omega) (S.at_ 2 rfl)).mono ?_; rintro e w29 ⟨rfl, hq, hg⟩; have SM := S.put 2 rfl hg hq (fun b h => .inl (marks_ne h)); replace S : Sep w w29 [plBox w18.heap.size #[.slice aG R.length cG, .int .i64 cr, .int .i64 ca, .int .i64 cs, .int .i64 cg] 31, plNd (.slice aG R.length cG) vq (marksNd R 1), plOut (.slice aaG tx.length ccG) (marksStr tx.length (1 + (sumNd R : Int))), plRow 9 1 encStr1 (.slice a2x L.length c2x) (marksStr L.length (1 + (sumNd T : Int))), plBox w15.heap.size #[.slice a1x T.length c1x, .int .i64 r, .int .i64 a, .int .i64 s, .int .i64 g] 31, plNd (.slice a1x T.length c1x) vm (marksNd T 1), plBox w13.heap.size #[.slice aW R.length cW, .int .i64 cr, .int .i64 ca, .int .i64 cs, .int .i64 cg] 31, plNd (.slice aW R.length cW) vW R, plOut (.slice aaW tx.length ccW) tx, plBox w.heap.size #[.slice at_ T.length ct, .int .i64 r, .int .i64 a, .int .i64 s, .int .i64 g] 26] := SM; clear SM; clear hq hg
 have hk2 : ¬ ((1 + (sumNd R : Int)) < 0) := by omega
 have hk3 : ¬ ((1 + (sumNd R : Int) + (tx.length : Int)) < 0) := by omega
 obtain ⟨⟨bgc0, bgf0⟩, ⟨bgc1, bgf1⟩, ⟨bgc2, bgf2⟩, ⟨bgc3, bgf3⟩, ⟨bgc4, bgf4⟩⟩ := bx5 (S.box 0 rfl)
 go_wp2_with fail
 clear bgc0 bgf0 bgc1 bgf1 bgc2 bgf2 bgc3 bgf3 bgc4 bgf4; refine (heldKer_any aG cG R cr ca cs cg 1 _ hlR HBd.out.nk hsumR (by omega) (by omega) (S.rdN 1 rfl)).mono ?_; rintro e w30 ⟨rfl, hE⟩; replace S := S.step hE; clear hE
 go_wp2_with fail
 refine (heldStrS_any _ _ tx.length (1 + (sumNd R : Int)) _ (by omega) (by omega) (by omega) (out_rd (S.at_ 2 rfl))).mono ?_; rintro e w31 ⟨rfl, hE⟩; replace S := S.step hE; clear hE
 have t2 : ((1 + (sumNd R : Int) + (tx.length : Int)) != (1 + (sumNd R : Int) + (tx.length : Int))) = false := by simp
 obtain ⟨⟨bmc0, bmf0⟩, ⟨bmc1, bmf1⟩, ⟨bmc2, bmf2⟩, ⟨bmc3, bmf3⟩, ⟨bmc4, bmf4⟩⟩ := bx5 (S.box 9 rfl)
 go_wp2_with fail
 clear bmc0 bmf0 bmc1 bmf1 bmc2 bmf2 bmc3 bmf3 bmc4 bmf4; refine (toKer_any at_ ct T r a s g _ hlT HLT.out (hrt.ext S.ext)).mono ?_; rintro e w32 ⟨a1y, c1y, vsy, rfl, hk1y, U⟩; clear hk1y; replace S : Sep w w32 [plNd (.slice a1y T.length c1y) vsy T, plBox w18.heap.size #[.slice aG R.length cG, .int .i64 cr, .int .i64 ca, .int .i64 cs, .int .i64 cg] 31, plNd (.slice aG R.length cG) vq (marksNd R 1), plOut (.slice aaG tx.length ccG) (marksStr tx.length (1 + (sumNd R : Int))), plRow 9 1 encStr1 (.slice a2x L.length c2x) (marksStr L.length (1 + (sumNd T : Int))), plBox w15.heap.size #[.slice a1x T.length c1x, .int .i64 r, .int .i64 a, .int .i64 s, .int .i64 g] 31, plNd (.slice a1x T.length c1x) vm (marksNd T 1), plBox w13.heap.size #[.slice aW R.length cW, .int .i64 cr, .int .i64 ca, .int .i64 cs, .int .i64 cg] 31, plNd (.slice aW R.length cW) vW R, plOut (.slice aaW tx.length ccW) tx, plBox w.heap.size #[.slice at_ T.length ct, .int .i64 r, .int .i64 a, .int .i64 s, .int .i64 g] 26] := S.call U; clear U
 go_wp2_with fail
 refine (toStr_any al capl L _ hlL (hrl.ext S.ext)).mono ?_; rintro e w33 ⟨u, rfl, ⟨ho, hv⟩, hE⟩; obtain ⟨a2y, c2y, hv2, hk2y, _, _⟩ := view_owns encStr1_len ho; subst hv2; clear hv; have U := Sep.of_owns hE ho; clear hE ho hk2y; replace S : Sep w w33 [plRow 9 1 encStr1 (.slice a2y L.length c2y) L, plNd (.slice a1y T.length c1y) vsy T, plBox w18.heap.size #[.slice aG R.length cG, .int .i64 cr, .int .i64 ca, .int .i64 cs, .int .i64 cg] 31, plNd (.slice aG R.length cG) vq (marksNd R 1), plOut (.slice aaG tx.length ccG) (marksStr tx.length (1 + (sumNd R : Int))), plRow 9 1 encStr1 (.slice a2x L.length c2x) (marksStr L.length (1 + (sumNd T : Int))), plBox w15.heap.size #[.slice a1x T.length c1x, .int .i64 r, .int .i64 a, .int .i64 s, .int .i64 g] 31, plNd (.slice a1x T.length c1x) vm (marksNd T 1), plBox w13.heap.size #[.slice aW R.length cW, .int .i64 cr, .int .i64 ca, .int .i64 cs, .int .i64 cg] 31, plNd (.slice aW R.length cW) vW R, plOut (.slice aaW tx.length ccW) tx, plBox w.heap.size #[.slice at_ T.length ct, .int .i64 r, .int .i64 a, .int .i64 s, .int .i64 g] 26] := S.call U; clear U
 go_wp2_with fail
 refine (HIm.out a1y c1y a2y c2y _ (S.rdN 1 rfl) (S.rd 0 encStr1_len rfl rfl) (hm.ext S.ext)).mono ?_; rintro e w34 ⟨uH, vH, u2H, rfl, U⟩; obtain ⟨aH, cH, rfl, _, _⟩ := nd_view (U.at_ 0 rfl); obtain ⟨aaH, ccH, rfl, _⟩ := out_view (U.at_ 1 rfl); replace S : Sep w w34 [plNd (.slice aH R.length cH) vH R, plOut (.slice aaH tx.length ccH) tx, plRow 9 1 encStr1 (.slice a2y L.length c2y) L, plNd (.slice a1y T.length c1y) vsy T, plBox w18.heap.size #[.slice aG R.length cG, .int .i64 cr, .int .i64 ca, .int .i64 cs, .int .i64 cg] 31, plNd (.slice aG R.length cG) vq (marksNd R 1), plOut (.slice aaG tx.length ccG) (marksStr tx.length (1 + (sumNd R : Int))), plRow 9 1 encStr1 (.slice a2x L.length c2x) (marksStr L.length (1 + (sumNd T : Int))), plBox w15.heap.size #[.slice a1x T.length c1x, .int .i64 r, .int .i64 a, .int .i64 s, .int .i64 g] 31, plNd (.slice a1x T.length c1x) vm (marksNd T 1), plBox w13.heap.size #[.slice aW R.length cW, .int .i64 cr, .int .i64 ca, .int .i64 cs, .int .i64 cg] 31, plNd (.slice aW R.length cW) vW R, plOut (.slice aaW tx.length ccW) tx, plBox w.heap.size #[.slice at_ T.length ct, .int .i64 r, .int .i64 a, .int .i64 s, .int .i64 g] 26] := S.call U; clear U; replace S := S.alloc_at (n := w34.heap.size) (by simp) #[.slice aH R.length cH, .int .i64 cr, .int .i64 ca, .int .i64 cs, .int .i64 cg] 31; obtain ⟨⟨bwc0, bwf0⟩, ⟨bwc1, bwf1⟩, ⟨bwc2, bwf2⟩, ⟨bwc3, bwf3⟩, ⟨bwc4, bwf4⟩⟩ := bx5 (S.box 11 rfl)
 go_wp2_with fail
 generalize (w34.alloc (.cells #[.slice aH R.length cH, .int .i64 cr, .int .i64 ca, .int .i64 cs, .int .i64 cg] 31)) = w35 at *; clear bwc0 bwf0 bwc1 bwf1 bwc2 bwf2 bwc3 bwf3 bwc4 bwf4; refine (eqKer_any aH aW cH cW R R cr ca cs cg cr ca cs cg _ (by omega) (by omega) (fun x hx => (HBd.out.2.1 x hx).big) (fun x hx => (HBd.out.2.1 x hx).big) (S.rdN 1 rfl) (S.rdN 12 rfl)).mono ?_; rintro e w36 ⟨q, rfl, hq, hE⟩; obtain rfl : q = true := hq.2 ⟨rfl, rfl, rfl, rfl, rfl⟩; clear hq; replace S := S.step hE; clear hE
 go_wp2_with fail
 refine (eqStr_any _ _ _ _ tx tx _ (by omega) (by omega) (out_rd (S.at_ 2 rfl)) (out_rd (S.at_ 13 rfl))).mono ?_; rintro e w37 ⟨q, rfl, hq, hE⟩; obtain rfl : q = true := hq.2 rfl; clear hq; replace S := S.step hE; clear hE; obtain ⟨⟨bgc0, bgf0⟩, ⟨bgc1, bgf1⟩, ⟨bgc2, bgf2⟩, ⟨bgc3, bgf3⟩, ⟨bgc4, bgf4⟩⟩ := bx5 (S.box 5 rfl)
 go_wp2_with fail
 clear bgc0 bgf0 bgc1 bgf1 bgc2 bgf2 bgc3 bgf3 bgc4 bgf4; refine (heldKer_any aG cG R cr ca cs cg 1 _ hlR HBd.out.nk hsumR (by omega) (by omega) (S.rdN 6 rfl)).mono ?_; rintro e w38 ⟨rfl, hE⟩; replace S := S.step hE; clear hE
 go_wp2_with fail
 refine (heldStrS_any _ _ tx.length (1 + (sumNd R : Int)) _ (by omega) (by omega) (by omega) (out_rd (S.at_ 7 rfl))).mono ?_; rintro e w39 ⟨rfl, hE⟩; replace S := S.step hE; clear hE; go_wp2; go_ret; exact RetB.mk true rfl (by simp) S.ext
end Go.Proofs.YtnibbldfohbfkaaGreatDoor

/- FnExactCallLines returns true and leaves its argument alone, for every argument that can be read; what its row lists is tied to the text. No condition. -/
namespace Go.Proofs.YtnibbldfohbfkaaGreatDoor.fnExactCallLines
open Go.ChangeShapes Go.WideShapes Go.ChangeAt Go.RowKit Go.Deep
theorem lifted (os : Os) (started : os.Started) (H : Type) (enc : TypeId × Value → H) :
  ReturnsInHanded {} Tryz.checked os 5 .any (fun w args => (Rows.fnExactCallLinesSpec.pre enc Tryz.prog Tryz.f5 Rows.fnExactCallLinesRow.domain false w args ∧ laidMetH Tryz.prog Rows.fnExactCallLinesRow.laid w) ∧ sizedMet enc Tryz.prog Tryz.f5 (OpenSpec.ofChange Rows.fnExactCallLinesSpec) false w args) (Rows.fnExactCallLinesSpec.post enc Tryz.prog Tryz.f5 false true false false) := by
 refine wrapD (C := Tryz.checked) rowOwn started (by kernel_rfl) Tryz.func5
  (ChangeSpec.witness_shaped (enc := enc) (C := Tryz.checked) (os := os) (X := fun w _ => laidMetH Tryz.prog Rows.fnExactCallLinesRow.laid w) false (World.laidAll Tryz.prog os Rows.fnExactCallLinesRow.laid) #[.agg #[.slice none 0 0, .int .i64 0, .int .i64 0, .int .i64 0, .int .i64 0], .slice none 0 0] 8 (World.laidAll_os _ _ _) (World.shaped_of_ZipB (by kernel_rfl) (by kernel_rfl)) (by kernel_rfl) (by kernel_rfl) (by kernel_rfl) (by rw [MakeChecks.laidMetH_plain _ _ _ (by kernel_rfl)]; exact laidMet_laidAll _ (by kernel_rfl) (by kernel_rfl))) ?_
 intro W base args ds gs before hval0 hW hsh; obtain ⟨m, hm⟩ : ∃ m, W.cell? ⟨maxLenG, 0, none⟩ = some (.int .i64 m) := cell_of_shapedOpen_int (P := Tryz.prog) (t := 3) (zero := #[.int .i64 0]) hsh (by decide +kernel) (by kernel_rfl) rfl (by kernel_rfl) (by kernel_rfl) Tryz.underlying3; have hval : ∀ (j : Nat) t v, Tryz.f5.params[j]? = some t → args[j]? = some v → Value.okWide Tryz.prog W .any base t v := hval0; have hW' := hW; obtain ⟨p, q, hA0, hV, rfl, hfz, hnd⟩ := hW; have hA : DataW.TrodAll enc Tryz.prog W 0 (fun _ => true) true Tryz.f5.params.toList args.toList ds p := hA0; rw [Tryz.params5] at hA hval; obtain ⟨v0, vs0, d0, ds0, p0, q0, hargs, rfl, rfl, h0, r0⟩ := trodAll_cons hA; obtain ⟨v1, vs1, d1, ds1, p1, q1, rfl, rfl, rfl, h1, r1⟩ := trodAll_cons r0; obtain ⟨rfl, rfl, rfl⟩ := trodAll_nil r1
 obtain rfl : args = #[v0, v1] := by cases args; simp_all
 obtain ⟨rfl, rfl⟩ := trodVars_none hV; obtain ⟨atk, ctk, Tk, rk, ak, sk, gk, rfl, hTk, hltk, hrtk⟩ := openKernel (hval 0 26 v0 rfl rfl) h0; obtain ⟨al, capl, l, rfl, hll, hgl, hrl⟩ := open_rd_arg (encA := encStr1) (good := fun s => s.size ≤ 9223372036854775807) Tryz.underlying39 cellsKstr (by omega) (fun _ => rfl) openKStr (hval 1 39 v1 rfl rfl) h1
 refine (exactCallLines_any atk ctk Tk rk ak sk gk al capl l W hTk hltk hrtk hll hgl hrl ⟨m, hm⟩).mono fun e W' ⟨b, he, hb, hE⟩ => ?_
 obtain rfl : b = true := hb.2 trivial; subst he; exact ⟨_, rfl, law_post (tb := 4) rowLaid hW' rfl (by kernel_rfl) Tryz.underlying4 (by rw [Tryz.params5]; exact (by decide +kernel)) rfl rfl rfl hE⟩
theorem said : Rows.FnExactCallLinesSaid :=
 OpenClaim.holds_of_wide 5 Tryz.f5 rfl rfl rfl rfl rfl rfl rfl ⟨rfl, rfl, rfl, rfl, rfl⟩ rfl rfl rfl rfl rfl (by kernel_rfl) Tryz.func5 (by kernel_rfl)
  (of_decide_eq_true (by kernel_rfl)) (by unfold Func.isWrapper; first | (rw [if_pos (by decide +kernel)]; kernel_rfl) | (rw [if_neg (by decide +kernel)]; exact ⟨rfl, rfl⟩))
  (fun os started H enc _ => lifted os started H enc)
theorem proved : Rows.FnExactCallLinesCardSaid :=
 Claim7.holds_tied_plain_at .later [] [.data, .pinned] true (true, "8145477ae8edc14bff9d8d1b452ee3239b57e774fe05c38056aa3212d8f66624") false said (fun _ h => by cases h) (by kernel_rfl) (fun _ h => by cases h) fnExactCallLines_row_tie rfl ⟨rfl, rfl⟩ (by kernel_rfl) rfl
  (fun f fn hf hfn => by
   obtain rfl : f = 5 := Option.some.inj ((show Tryz.prog.funcNamed "loop.example/userspaces/laws.FnExactCallLines" = some 5 by kernel_rfl).symm.trans hf) |>.symm
   obtain rfl : fn = Tryz.f5 := (Option.some.inj (Tryz.func5.symm.trans hfn)).symm
   exact ⟨by kernel_rfl, fun j t ht => by
    rw [Tryz.params5] at ht
    have hm : t ∈ [26, 39] := by simpa using Array.mem_of_getElem? ht
    have hall : ([26, 39].all fun u => !Tryz.prog.wantsStandIn u) = true := by kernel_rfl
    exact (show Tryz.prog.wantsStandIn t = false by simpa using List.all_eq_true.1 hall t hm)⟩)
  (by kernel_rfl)
#print axioms proved
end Go.Proofs.YtnibbldfohbfkaaGreatDoor.fnExactCallLines
