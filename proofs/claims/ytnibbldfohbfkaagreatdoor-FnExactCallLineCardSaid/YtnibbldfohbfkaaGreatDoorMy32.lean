/- FnExactCallLine returns true and leaves its argument alone, for every argument that can be read; what its row lists is tied to the text. No condition. -/
import Derived.ChangeMaps5
import Derived.Test.YtnibbldfohbfkaaGreatDoorMy31
set_option linter.unusedVariables false
set_option linter.unusedSimpArgs false
/- FnExactCallLine: the walk. No condition but that rows and texts are shorter than 2^63, and that the library's own variable holds a number. -/
namespace Go.Proofs.YtnibbldfohbfkaaGreatDoor
open Go.RowKit
set_option maxRecDepth 10000 in
set_option maxHeartbeats 32000000 in
theorem exactCallLine_any (at_ : Option Addr) (ct : Nat) (T : List Nd) (r a s g : Int) (line : ByteArray) (w : World) (hT : T.length ≤ 9223372036854775807) (hlt : ∀ t ∈ T, SmN 9223372036854775807 t) (hrt : RdN w at_ T) (hsl : line.size ≤ 9223372036854775807)  (hm : MaxG w) :
  Calls Tryz.prog 3 #[.agg #[.slice at_ T.length ct, .int .i64 r, .int .i64 a, .int .i64 s, .int .i64 g], .string line] w (RetB True w) := by
 have HLT0 := Lib.hid hlt
 clear hlt
 go_enter Tryz.func3, Tryz.ntmps3
 have S := Sep.start w
 replace S : Sep w (w.alloc (.cells #[.slice at_ T.length ct, .int .i64 r, .int .i64 a, .int .i64 s, .int .i64 g] 26)) [plBox w.heap.size #[.slice at_ T.length ct, .int .i64 r, .int .i64 a, .int .i64 s, .int .i64 g] 26] := S.alloc_at (by simp) _ _
 by_cases hbig : 1048576 < line.size
 ·go_wp2
  go_ret
  exact RetB.mk true rfl (by simp) S.ext
 go_wp2_with fail
 generalize (w.alloc (.cells #[.slice at_ T.length ct, .int .i64 r, .int .i64 a, .int .i64 s, .int .i64 g] 26)) = w1 at *
 refine (szKer_more at_ ct T r a s g _ _ (by omega) (by omega) hT HLT0.out (hrt.ext S.ext)).mono ?_
 rintro e w2 ⟨r2, rfl, hra2, hrb2, hrc2, hE⟩
 have Hrc := Lib.hid hrc2
 clear hrc2
 replace S := S.step hE
 clear hE
 by_cases hneg : r2 < 0
 ·go_wp2
  go_ret
  exact RetB.mk true rfl (by simp) S.ext
 have hall := Hrc.out (by omega)
 have hlT : T.length ≤ 1048576 := hall.1.1.1
 have HLT : Hid (∀ t ∈ T, SmN 1048576 t) := Lib.hid hall.1.1.2
 have HNK := Lib.hid hall.1.2
 have hsum : sumNd T ≤ 6291456 := hall.2
 have HNB : Hid (TreeOk T → NB 524288 T) := Lib.hid (fun h => nb_sz hall.1.2 h)
 clear Hrc hall
 clear hra2 hrb2
 obtain ⟨R, tx, hR⟩ : ∃ R tx, callLine T ⟨r, a, s, g⟩ line = (R, tx) := ⟨_, _, rfl⟩
 obtain ⟨cr, ca, cs, cg, hcc⟩ : ∃ cr ca cs cg, callCr T ⟨r, a, s, g⟩ = ⟨cr, ca, cs, cg⟩ := ⟨_, _, _, _, rfl⟩
 have HSp : Hid (∀ (a1 : Option Addr) (c1 : Nat) (w' : World), RdN w' a1 T → MaxG w' → Calls Tryz.prog 8 #[.agg #[.slice a1 T.length c1, .int .i64 r, .int .i64 a, .int .i64 s, .int .i64 g], .string line] w' (fun e w'' => ∃ u vs, e = .returned (.tuple #[.agg #[u, .int .i64 cr, .int .i64 ca, .int .i64 cs, .int .i64 cg], .string tx]) ∧ Sep w' w'' [plNd u vs R])) := Lib.hid (fun a1 c1 w' hrd hm' => by
  have h := specCallLine a1 c1 T r a s g line w' (by omega) hlT HLT.out (fun h => nb_more (HNB.out h) (by omega)) hrd
  rw [hR, hcc] at h
  exact h)
 have HIm : Hid (∀ (a1 : Option Addr) (c1 : Nat) (w' : World), RdN w' a1 T → MaxG w' → Calls Tryz.prog 10 #[.agg #[.slice a1 T.length c1, .int .i64 r, .int .i64 a, .int .i64 s, .int .i64 g], .string line] w' (fun e w'' => ∃ u vs, e = .returned (.tuple #[.agg #[u, .int .i64 cr, .int .i64 ca, .int .i64 cs, .int .i64 cg], .string tx]) ∧ Sep w' w'' [plNd u vs R])) := Lib.hid (fun a1 c1 w' hrd hm' => by
  have h := implCallLine a1 c1 T r a s g line w' (by omega) hlT HLT.out (fun h => nb_more (HNB.out h) (by omega)) hrd hm'
  rw [hR, hcc] at h
  exact h)
 have HBd : Hid (Small R) := Lib.hid (by have h := line_small (c := ⟨r, a, s, g⟩) HNB.out line; rw [hR] at h; exact h)
 clear hR hcc HNB
 have hlR : R.length ≤ 1048576 := HBd.out.1
 have hsumR : sumNd R ≤ 100000000 := HBd.out.2.2
 obtain ⟨⟨bmc0, bmf0⟩, ⟨bmc1, bmf1⟩, ⟨bmc2, bmf2⟩, ⟨bmc3, bmf3⟩, ⟨bmc4, bmf4⟩⟩ := bx5 (S.box 0 rfl)
 go_wp2_with fail
 clear bmc0 bmf0 bmc1 bmf1 bmc2 bmf2 bmc3 bmf3 bmc4 bmf4
 refine (toKer_any at_ ct T r a s g _ hlT HLT.out (hrt.ext S.ext)).mono ?_
 rintro e w11 ⟨a1s, c1s, vss, rfl, hk1s, U⟩
 clear hk1s
 replace S : Sep w w11 [plNd (.slice a1s T.length c1s) vss T, plBox w.heap.size #[.slice at_ T.length ct, .int .i64 r, .int .i64 a, .int .i64 s, .int .i64 g] 26] := S.call U
 clear U
 go_wp2_with fail
 refine (HSp.out a1s c1s _ (S.rdN 0 rfl) (hm.ext S.ext)).mono ?_
 rintro e w12 ⟨uW, vW, rfl, U⟩
 obtain ⟨aW, cW, rfl, _, _⟩ := nd_view (U.at_ 0 rfl)
 replace S : Sep w w12 [plNd (.slice aW R.length cW) vW R, plNd (.slice a1s T.length c1s) vss T, plBox w.heap.size #[.slice at_ T.length ct, .int .i64 r, .int .i64 a, .int .i64 s, .int .i64 g] 26] := S.call U
 clear U
 replace S : Sep w w12 [plNd (.slice aW R.length cW) vW R, plBox w.heap.size #[.slice at_ T.length ct, .int .i64 r, .int .i64 a, .int .i64 s, .int .i64 g] 26] := S.drop 1
 replace S : Sep w (w12.alloc (.cells #[.slice aW R.length cW, .int .i64 cr, .int .i64 ca, .int .i64 cs, .int .i64 cg] 31)) [plBox w12.heap.size #[.slice aW R.length cW, .int .i64 cr, .int .i64 ca, .int .i64 cs, .int .i64 cg] 31, plNd (.slice aW R.length cW) vW R, plBox w.heap.size #[.slice at_ T.length ct, .int .i64 r, .int .i64 a, .int .i64 s, .int .i64 g] 26] := S.alloc_at (by simp) _ _
 obtain ⟨⟨bmc0, bmf0⟩, ⟨bmc1, bmf1⟩, ⟨bmc2, bmf2⟩, ⟨bmc3, bmf3⟩, ⟨bmc4, bmf4⟩⟩ := bx5 (S.box 2 rfl)
 go_wp2_with fail
 generalize (w12.alloc (.cells #[.slice aW R.length cW, .int .i64 cr, .int .i64 ca, .int .i64 cs, .int .i64 cg] 31)) = w13 at *
 clear bmc0 bmf0 bmc1 bmf1 bmc2 bmf2 bmc3 bmf3 bmc4 bmf4
 refine (toKer_any at_ ct T r a s g _ hlT HLT.out (hrt.ext S.ext)).mono ?_
 rintro e w14 ⟨a1x, c1x, vsx, rfl, hk1x, U⟩
 clear hk1x
 replace S : Sep w w14 [plNd (.slice a1x T.length c1x) vsx T, plBox w12.heap.size #[.slice aW R.length cW, .int .i64 cr, .int .i64 ca, .int .i64 cs, .int .i64 cg] 31, plNd (.slice aW R.length cW) vW R, plBox w.heap.size #[.slice at_ T.length ct, .int .i64 r, .int .i64 a, .int .i64 s, .int .i64 g] 26] := S.call U
 clear U
 replace S : Sep w (w14.alloc (.cells #[.slice a1x T.length c1x, .int .i64 r, .int .i64 a, .int .i64 s, .int .i64 g] 31)) [plBox w14.heap.size #[.slice a1x T.length c1x, .int .i64 r, .int .i64 a, .int .i64 s, .int .i64 g] 31, plNd (.slice a1x T.length c1x) vsx T, plBox w12.heap.size #[.slice aW R.length cW, .int .i64 cr, .int .i64 ca, .int .i64 cs, .int .i64 cg] 31, plNd (.slice aW R.length cW) vW R, plBox w.heap.size #[.slice at_ T.length ct, .int .i64 r, .int .i64 a, .int .i64 s, .int .i64 g] 26] := S.alloc_at (by simp) _ _
 go_wp2_with fail
 generalize (w14.alloc (.cells #[.slice a1x T.length c1x, .int .i64 r, .int .i64 a, .int .i64 s, .int .i64 g] 31)) = w15 at *
 refine (HIm.out a1x c1x _ (S.rdN 1 rfl) (hm.ext S.ext)).mono ?_
 rintro e w16 ⟨uG, vG, rfl, U⟩
 obtain ⟨aG, cG, rfl, _, _⟩ := nd_view (U.at_ 0 rfl)
 replace S : Sep w w16 [plNd (.slice aG R.length cG) vG R, plBox w14.heap.size #[.slice a1x T.length c1x, .int .i64 r, .int .i64 a, .int .i64 s, .int .i64 g] 31, plNd (.slice a1x T.length c1x) vsx T, plBox w12.heap.size #[.slice aW R.length cW, .int .i64 cr, .int .i64 ca, .int .i64 cs, .int .i64 cg] 31, plNd (.slice aW R.length cW) vW R, plBox w.heap.size #[.slice at_ T.length ct, .int .i64 r, .int .i64 a, .int .i64 s, .int .i64 g] 26] := S.call U
 clear U
 replace S : Sep w (w16.alloc (.cells #[.slice aG R.length cG, .int .i64 cr, .int .i64 ca, .int .i64 cs, .int .i64 cg] 31)) [plBox w16.heap.size #[.slice aG R.length cG, .int .i64 cr, .int .i64 ca, .int .i64 cs, .int .i64 cg] 31, plNd (.slice aG R.length cG) vG R, plBox w14.heap.size #[.slice a1x T.length c1x, .int .i64 r, .int .i64 a, .int .i64 s, .int .i64 g] 31, plNd (.slice a1x T.length c1x) vsx T, plBox w12.heap.size #[.slice aW R.length cW, .int .i64 cr, .int .i64 ca, .int .i64 cs, .int .i64 cg] 31, plNd (.slice aW R.length cW) vW R, plBox w.heap.size #[.slice at_ T.length ct, .int .i64 r, .int .i64 a, .int .i64 s, .int .i64 g] 26] := S.alloc_at (by simp) _ _
 obtain ⟨⟨bwc0, bwf0⟩, ⟨bwc1, bwf1⟩, ⟨bwc2, bwf2⟩, ⟨bwc3, bwf3⟩, ⟨bwc4, bwf4⟩⟩ := bx5 (S.box 4 rfl)
 go_wp2_with fail
 generalize (w16.alloc (.cells #[.slice aG R.length cG, .int .i64 cr, .int .i64 ca, .int .i64 cs, .int .i64 cg] 31)) = w17 at *
 clear bwc0 bwf0 bwc1 bwf1 bwc2 bwf2 bwc3 bwf3 bwc4 bwf4
 refine (eqKer_any aG aW cG cW R R cr ca cs cg cr ca cs cg _ (by omega) (by omega) (fun x hx => (HBd.out.2.1 x hx).big) (fun x hx => (HBd.out.2.1 x hx).big) (S.rdN 1 rfl) (S.rdN 5 rfl)).mono ?_
 rintro e w18 ⟨q, rfl, hq, hE⟩
 obtain rfl : q = true := hq.2 ⟨rfl, rfl, rfl, rfl, rfl⟩
 clear hq
 replace S := S.step hE
 clear hE
 obtain ⟨⟨bmc0, bmf0⟩, ⟨bmc1, bmf1⟩, ⟨bmc2, bmf2⟩, ⟨bmc3, bmf3⟩, ⟨bmc4, bmf4⟩⟩ := bx5 (S.box 6 rfl)
 obtain ⟨⟨bxc0, bxf0⟩, ⟨bxc1, bxf1⟩, ⟨bxc2, bxf2⟩, ⟨bxc3, bxf3⟩, ⟨bxc4, bxf4⟩⟩ := bx5 (S.box 2 rfl)
 go_upto_region 12 with fail
 have hx1 : RdN (World.drew w18) a1x T := (S.rdN 3 rfl).ext (Ext.refl _).drew
 have Ed := S.ext.drew
 refine wp_region_v 5 (V := fun i v wv => match i with
  | 0 => v = .agg #[.slice a1x T.length c1x, .int .i64 r, .int .i64 a, .int .i64 s, .int .i64 g]
  | 1 => v = .agg #[.slice at_ T.length ct, .int .i64 r, .int .i64 a, .int .i64 s, .int .i64 g]
  | 2 => KerQ T r a s g v wv
  | 3 => v = .bool true
  | 4 => v = .bool false
  | _ => True) rfl (by decide) (by kernel_rfl) (by kernel_rfl) (by kernel_rfl) ?_ ?_ ?_
 ·intro i v wa wb h hE
  match i with
  | 0 => exact h
  | 1 => exact h
  | 2 => exact KerQ.ext h hE
  | 3 => exact h
  | 4 => exact h
  | (n + 5) => trivial
 ·intro i o hi ho vs wc hvl hE hd
  have c0 := cell_ext hE (show (World.drew w18).cell? _ = _ from bmc0)
  have c1 := cell_ext hE (show (World.drew w18).cell? _ = _ from bmc1)
  have c2 := cell_ext hE (show (World.drew w18).cell? _ = _ from bmc2)
  have c3 := cell_ext hE (show (World.drew w18).cell? _ = _ from bmc3)
  have c4 := cell_ext hE (show (World.drew w18).cell? _ = _ from bmc4)
  have d0 := cell_ext hE (show (World.drew w18).cell? _ = _ from bxc0)
  have d1 := cell_ext hE (show (World.drew w18).cell? _ = _ from bxc1)
  have d2 := cell_ext hE (show (World.drew w18).cell? _ = _ from bxc2)
  have d3 := cell_ext hE (show (World.drew w18).cell? _ = _ from bxc3)
  have d4 := cell_ext hE (show (World.drew w18).cell? _ = _ from bxc4)
  have hr5 := hx1.ext hE
  have E7 := Ed.trans hE
  clear bmc0 bmf0 bmc1 bmf1 bmc2 bmf2 bmc3 bmf3 bmc4 bmf4 bxc0 bxf0 bxc1 bxf1 bxc2 bxf2 bxc3 bxf3 bxc4 bxf4
  match vs, hvl with
  | [x0, x1, x2, x3, x4], _ =>
  rcases (show i = 0 ∨ i = 1 ∨ i = 2 ∨ i = 3 ∨ i = 4 by omega) with rfl | rfl | rfl | rfl | rfl
  all_goals
   simp only [List.getElem?_cons_zero, List.getElem?_cons_succ, Option.some.injEq] at ho
   subst ho
   simp [Waits, Region.binds] at hd
  ·simp [putAll, Act.put]
   go_wp2
   exact ⟨rfl, _, rfl, rfl, Ext.refl _⟩
  ·simp [putAll, Act.put]
   go_wp2
   exact ⟨rfl, _, rfl, rfl, Ext.refl _⟩
  ·simp [putAll, Act.put, hd]
   go_wp2_with fail
   refine (toKer_any at_ ct T r a s g wc hlT HLT.out (hrt.ext E7)).mono ?_
   rintro e wd ⟨a8, c8, vs9, rfl, _, U⟩
   have h9 : KerQ T r a s g (.agg #[.slice a8 T.length c8, .int .i64 r, .int .i64 a, .int .i64 s, .int .i64 g]) wd := ⟨_, _, rfl, U.rdN 0 rfl⟩
   have hb := U.ext
   clear U
   go_wp2
   exact ⟨rfl, _, rfl, h9, hb⟩
  ·obtain ⟨hd0, a8, c8, hd1, hr8⟩ := hd
   subst hd0 hd1
   simp [putAll, Act.put]
   go_wp2_with fail
   refine (eqKer_any _ _ _ _ T T r a s g r a s g wc hT hT HLT0.out HLT0.out hr5 hr8).mono ?_
   rintro e wd ⟨b8, rfl, hb8, hb⟩
   obtain rfl : b8 = true := hb8.2 ⟨rfl, rfl, rfl, rfl, rfl⟩
   clear hb8
   go_wp2
   exact ⟨rfl, _, rfl, rfl, hb⟩
  ·simp [putAll, Act.put, hd]
   go_wp2
   exact ⟨rfl, _, rfl, rfl, Ext.refl _⟩
 intro vs w50 hvl hE hV
 match vs, hvl with
 | [x0, x1, x2, x3, x4], _ =>
 have e4 := hV 4 (by omega)
 clear hV
 simp at e4
 subst e4
 simp only [putAll, Act.put, List.take_succ_cons, List.take_zero, List.drop_succ_cons, List.drop_zero]
 simp
 clear bmc0 bmf0 bmc1 bmf1 bmc2 bmf2 bmc3 bmf3 bmc4 bmf4 bxc0 bxf0 bxc1 bxf1 bxc2 bxf2 bxc3 bxf3 bxc4 bxf4
 replace hE := ((Ext.refl _).drew).trans hE
 replace S := S.step hE
 clear hE
 clear hx1 Ed
 obtain ⟨⟨bxc0, bxf0⟩, ⟨bxc1, bxf1⟩, ⟨bxc2, bxf2⟩, ⟨bxc3, bxf3⟩, ⟨bxc4, bxf4⟩⟩ := bx5 (S.box 2 rfl)
 go_wp2_with fail
 clear bxc0 bxf0 bxc1 bxf1 bxc2 bxf2 bxc3 bxf3 bxc4 bxf4
 refine (markKer_own S 3 r a s g 1 rfl hlT (fun x hx => ⟨(HLT.out x hx).2.1, (HLT.out x hx).2.2.2⟩) (by omega) (by omega) (by omega)).mono ?_
 rintro e w19 ⟨vm, rfl, SM⟩
 replace S : Sep w w19 [plBox w16.heap.size #[.slice aG R.length cG, .int .i64 cr, .int .i64 ca, .int .i64 cs, .int .i64 cg] 31, plNd (.slice aG R.length cG) vG R, plBox w14.heap.size #[.slice a1x T.length c1x, .int .i64 r, .int .i64 a, .int .i64 s, .int .i64 g] 31, plNd (.slice a1x T.length c1x) vm (marksNd T 1), plBox w12.heap.size #[.slice aW R.length cW, .int .i64 cr, .int .i64 ca, .int .i64 cs, .int .i64 cg] 31, plNd (.slice aW R.length cW) vW R, plBox w.heap.size #[.slice at_ T.length ct, .int .i64 r, .int .i64 a, .int .i64 s, .int .i64 g] 26] := SM
 clear SM
 have hk1 : ¬ ((1 + (sumNd T : Int)) < 0) := by omega
 obtain ⟨⟨bgc0, bgf0⟩, ⟨bgc1, bgf1⟩, ⟨bgc2, bgf2⟩, ⟨bgc3, bgf3⟩, ⟨bgc4, bgf4⟩⟩ := bx5 (S.box 0 rfl)
 obtain ⟨⟨bwc0, bwf0⟩, ⟨bwc1, bwf1⟩, ⟨bwc2, bwf2⟩, ⟨bwc3, bwf3⟩, ⟨bwc4, bwf4⟩⟩ := bx5 (S.box 4 rfl)
 go_wp2_with fail
 clear bgc0 bgf0 bgc1 bgf1 bgc2 bgf2 bgc3 bgf3 bgc4 bgf4 bwc0 bwf0 bwc1 bwf1 bwc2 bwf2 bwc3 bwf3 bwc4 bwf4
 refine (eqKer_any aG aW cG cW R R cr ca cs cg cr ca cs cg _ (by omega) (by omega) (fun x hx => (HBd.out.2.1 x hx).big) (fun x hx => (HBd.out.2.1 x hx).big) (S.rdN 1 rfl) (S.rdN 5 rfl)).mono ?_
 rintro e w20 ⟨q, rfl, hq, hE⟩
 obtain rfl : q = true := hq.2 ⟨rfl, rfl, rfl, rfl, rfl⟩
 clear hq
 replace S := S.step hE
 clear hE
 obtain ⟨⟨bgc0, bgf0⟩, ⟨bgc1, bgf1⟩, ⟨bgc2, bgf2⟩, ⟨bgc3, bgf3⟩, ⟨bgc4, bgf4⟩⟩ := bx5 (S.box 0 rfl)
 go_wp2_with fail
 clear bgc0 bgf0 bgc1 bgf1 bgc2 bgf2 bgc3 bgf3 bgc4 bgf4
 refine (markKer_own S 1 cr ca cs cg 1 rfl hlR HBd.out.nk hsumR (by omega) (by omega)).mono ?_
 rintro e w21 ⟨vq, rfl, SM⟩
 replace S : Sep w w21 [plBox w16.heap.size #[.slice aG R.length cG, .int .i64 cr, .int .i64 ca, .int .i64 cs, .int .i64 cg] 31, plNd (.slice aG R.length cG) vq (marksNd R 1), plBox w14.heap.size #[.slice a1x T.length c1x, .int .i64 r, .int .i64 a, .int .i64 s, .int .i64 g] 31, plNd (.slice a1x T.length c1x) vm (marksNd T 1), plBox w12.heap.size #[.slice aW R.length cW, .int .i64 cr, .int .i64 ca, .int .i64 cs, .int .i64 cg] 31, plNd (.slice aW R.length cW) vW R, plBox w.heap.size #[.slice at_ T.length ct, .int .i64 r, .int .i64 a, .int .i64 s, .int .i64 g] 26] := SM
 clear SM
 have hk2 : ¬ ((1 + (sumNd R : Int)) < 0) := by omega
 obtain ⟨⟨bgc0, bgf0⟩, ⟨bgc1, bgf1⟩, ⟨bgc2, bgf2⟩, ⟨bgc3, bgf3⟩, ⟨bgc4, bgf4⟩⟩ := bx5 (S.box 0 rfl)
 go_wp2_with fail
 clear bgc0 bgf0 bgc1 bgf1 bgc2 bgf2 bgc3 bgf3 bgc4 bgf4
 refine (heldKer_any aG cG R cr ca cs cg 1 _ hlR HBd.out.nk hsumR (by omega) (by omega) (S.rdN 1 rfl)).mono ?_
 rintro e w22 ⟨rfl, hE⟩
 replace S := S.step hE
 clear hE
 have t2 : ((1 + (sumNd R : Int)) != (1 + (sumNd R : Int))) = false := by simp
 obtain ⟨⟨bmc0, bmf0⟩, ⟨bmc1, bmf1⟩, ⟨bmc2, bmf2⟩, ⟨bmc3, bmf3⟩, ⟨bmc4, bmf4⟩⟩ := bx5 (S.box 6 rfl)
 go_wp2_with fail
 clear bmc0 bmf0 bmc1 bmf1 bmc2 bmf2 bmc3 bmf3 bmc4 bmf4
 refine (toKer_any at_ ct T r a s g _ hlT HLT.out (hrt.ext S.ext)).mono ?_
 rintro e w23 ⟨a1y, c1y, vsy, rfl, hk1y, U⟩
 clear hk1y
 replace S : Sep w w23 [plNd (.slice a1y T.length c1y) vsy T, plBox w16.heap.size #[.slice aG R.length cG, .int .i64 cr, .int .i64 ca, .int .i64 cs, .int .i64 cg] 31, plNd (.slice aG R.length cG) vq (marksNd R 1), plBox w14.heap.size #[.slice a1x T.length c1x, .int .i64 r, .int .i64 a, .int .i64 s, .int .i64 g] 31, plNd (.slice a1x T.length c1x) vm (marksNd T 1), plBox w12.heap.size #[.slice aW R.length cW, .int .i64 cr, .int .i64 ca, .int .i64 cs, .int .i64 cg] 31, plNd (.slice aW R.length cW) vW R, plBox w.heap.size #[.slice at_ T.length ct, .int .i64 r, .int .i64 a, .int .i64 s, .int .i64 g] 26] := S.call U
 clear U
 go_wp2_with fail
 refine (HIm.out a1y c1y _ (S.rdN 0 rfl) (hm.ext S.ext)).mono ?_
 rintro e w24 ⟨uH, vH, rfl, U⟩
 obtain ⟨aH, cH, rfl, _, _⟩ := nd_view (U.at_ 0 rfl)
 replace S : Sep w w24 [plNd (.slice aH R.length cH) vH R, plNd (.slice a1y T.length c1y) vsy T, plBox w16.heap.size #[.slice aG R.length cG, .int .i64 cr, .int .i64 ca, .int .i64 cs, .int .i64 cg] 31, plNd (.slice aG R.length cG) vq (marksNd R 1), plBox w14.heap.size #[.slice a1x T.length c1x, .int .i64 r, .int .i64 a, .int .i64 s, .int .i64 g] 31, plNd (.slice a1x T.length c1x) vm (marksNd T 1), plBox w12.heap.size #[.slice aW R.length cW, .int .i64 cr, .int .i64 ca, .int .i64 cs, .int .i64 cg] 31, plNd (.slice aW R.length cW) vW R, plBox w.heap.size #[.slice at_ T.length ct, .int .i64 r, .int .i64 a, .int .i64 s, .int .i64 g] 26] := S.call U
 clear U
 replace S : Sep w (w24.alloc (.cells #[.slice aH R.length cH, .int .i64 cr, .int .i64 ca, .int .i64 cs, .int .i64 cg] 31)) [plBox w24.heap.size #[.slice aH R.length cH, .int .i64 cr, .int .i64 ca, .int .i64 cs, .int .i64 cg] 31, plNd (.slice aH R.length cH) vH R, plNd (.slice a1y T.length c1y) vsy T, plBox w16.heap.size #[.slice aG R.length cG, .int .i64 cr, .int .i64 ca, .int .i64 cs, .int .i64 cg] 31, plNd (.slice aG R.length cG) vq (marksNd R 1), plBox w14.heap.size #[.slice a1x T.length c1x, .int .i64 r, .int .i64 a, .int .i64 s, .int .i64 g] 31, plNd (.slice a1x T.length c1x) vm (marksNd T 1), plBox w12.heap.size #[.slice aW R.length cW, .int .i64 cr, .int .i64 ca, .int .i64 cs, .int .i64 cg] 31, plNd (.slice aW R.length cW) vW R, plBox w.heap.size #[.slice at_ T.length ct, .int .i64 r, .int .i64 a, .int .i64 s, .int .i64 g] 26] := S.alloc_at (by simp) _ _
 obtain ⟨⟨bwc0, bwf0⟩, ⟨bwc1, bwf1⟩, ⟨bwc2, bwf2⟩, ⟨bwc3, bwf3⟩, ⟨bwc4, bwf4⟩⟩ := bx5 (S.box 7 rfl)
 go_wp2_with fail
 generalize (w24.alloc (.cells #[.slice aH R.length cH, .int .i64 cr, .int .i64 ca, .int .i64 cs, .int .i64 cg] 31)) = w25 at *
 clear bwc0 bwf0 bwc1 bwf1 bwc2 bwf2 bwc3 bwf3 bwc4 bwf4
 refine (eqKer_any aH aW cH cW R R cr ca cs cg cr ca cs cg _ (by omega) (by omega) (fun x hx => (HBd.out.2.1 x hx).big) (fun x hx => (HBd.out.2.1 x hx).big) (S.rdN 1 rfl) (S.rdN 8 rfl)).mono ?_
 rintro e w26 ⟨q, rfl, hq, hE⟩
 obtain rfl : q = true := hq.2 ⟨rfl, rfl, rfl, rfl, rfl⟩
 clear hq
 replace S := S.step hE
 clear hE
 obtain ⟨⟨bgc0, bgf0⟩, ⟨bgc1, bgf1⟩, ⟨bgc2, bgf2⟩, ⟨bgc3, bgf3⟩, ⟨bgc4, bgf4⟩⟩ := bx5 (S.box 3 rfl)
 go_wp2_with fail
 clear bgc0 bgf0 bgc1 bgf1 bgc2 bgf2 bgc3 bgf3 bgc4 bgf4
 refine (heldKer_any aG cG R cr ca cs cg 1 _ hlR HBd.out.nk hsumR (by omega) (by omega) (S.rdN 4 rfl)).mono ?_
 rintro e w27 ⟨rfl, hE⟩
 replace S := S.step hE
 clear hE
 go_wp2
 go_ret
 exact RetB.mk true rfl (by simp) S.ext
end Go.Proofs.YtnibbldfohbfkaaGreatDoor

/- FnExactCallLine returns true and leaves its argument alone, for every argument that can be read; what its row lists is tied to the text. No condition. -/
namespace Go.Proofs.YtnibbldfohbfkaaGreatDoor.fnExactCallLine
open Go.ChangeShapes Go.WideShapes Go.ChangeAt Go.RowKit Go.Deep
set_option maxRecDepth 100000 in
theorem lifted (os : Os) (started : os.Started) (H : Type) (enc : TypeId × Value → H) :
  ReturnsInHanded {} Tryz.checked os 3 .any (fun w args => (Rows.fnExactCallLineSpec.pre enc Tryz.prog Tryz.f3 Rows.fnExactCallLineRow.domain false w args ∧ laidMetH Tryz.prog Rows.fnExactCallLineRow.laid w) ∧ sizedMet enc Tryz.prog Tryz.f3 (OpenSpec.ofChange Rows.fnExactCallLineSpec) false w args) (Rows.fnExactCallLineSpec.post enc Tryz.prog Tryz.f3 false true false false) := by
 refine wrapD (C := Tryz.checked) rowOwn started (by kernel_rfl) Tryz.func3
  (ChangeSpec.witness_shaped (enc := enc) (C := Tryz.checked) (os := os) (X := fun w _ => laidMetH Tryz.prog Rows.fnExactCallLineRow.laid w) false (World.laidAll Tryz.prog os Rows.fnExactCallLineRow.laid) #[.agg #[.slice none 0 0, .int .i64 0, .int .i64 0, .int .i64 0, .int .i64 0], .string ByteArray.empty] 8 (World.laidAll_os _ _ _) (World.shaped_of_ZipB (by kernel_rfl) (by kernel_rfl)) (by kernel_rfl) (by kernel_rfl) (by kernel_rfl) (by rw [MakeChecks.laidMetH_plain _ _ _ (by kernel_rfl)]; exact laidMet_laidAll _ (by kernel_rfl) (by kernel_rfl))) ?_
 intro W base args ds gs before hval0 hW hsh
 obtain ⟨m, hm⟩ : ∃ m, W.cell? ⟨maxLenG, 0, none⟩ = some (.int .i64 m) := cell_of_shapedOpen_int (P := Tryz.prog) (t := 3) (zero := #[.int .i64 0]) hsh (by decide +kernel) (by kernel_rfl) rfl (by kernel_rfl) (by kernel_rfl) Tryz.underlying3
 have hval : ∀ (j : Nat) t v, Tryz.f3.params[j]? = some t → args[j]? = some v → Value.okWide Tryz.prog W .any base t v := hval0
 have hW' := hW
 obtain ⟨p, q, hA0, hV, rfl, hfz, hnd⟩ := hW
 have hA : DataW.TrodAll enc Tryz.prog W 0 (fun _ => true) true Tryz.f3.params.toList args.toList ds p := hA0
 rw [Tryz.params3] at hA hval
 obtain ⟨v0, vs0, d0, ds0, p0, q0, hargs, rfl, rfl, h0, r0⟩ := trodAll_cons hA
 obtain ⟨v1, vs1, d1, ds1, p1, q1, rfl, rfl, rfl, h1, r1⟩ := trodAll_cons r0
 obtain ⟨rfl, rfl, rfl⟩ := trodAll_nil r1
 obtain rfl : args = #[v0, v1] := by cases args; simp_all
 obtain ⟨rfl, rfl⟩ := trodVars_none hV
 obtain ⟨atk, ctk, Tk, rk, ak, sk, gk, rfl, hTk, hltk, hrtk⟩ := openKernel (hval 0 26 v0 rfl rfl) h0
 obtain ⟨l, rfl, rfl, rfl, wl⟩ := Go.ChangeMaps.open_string Tryz.underlying9 (hval 1 9 v1 rfl rfl) h1
 refine (exactCallLine_any atk ctk Tk rk ak sk gk l W hTk hltk hrtk wl ⟨m, hm⟩).mono fun e W' ⟨b, he, hb, hE⟩ => ?_
 obtain rfl : b = true := hb.2 trivial
 subst he
 exact ⟨_, rfl, law_post (tb := 4) rowLaid hW' rfl (by kernel_rfl) Tryz.underlying4 (by rw [Tryz.params3]; exact (by decide +kernel)) rfl rfl rfl hE⟩
theorem said : Rows.FnExactCallLineSaid :=
 OpenClaim.holds_of_wide 3 Tryz.f3 rfl rfl rfl rfl rfl rfl rfl ⟨rfl, rfl, rfl, rfl, rfl⟩ rfl rfl rfl rfl rfl (by kernel_rfl) Tryz.func3 (by kernel_rfl)
  (of_decide_eq_true (by kernel_rfl)) (by unfold Func.isWrapper; first | (rw [if_pos (by decide +kernel)]; kernel_rfl) | (rw [if_neg (by decide +kernel)]; exact ⟨rfl, rfl⟩))
  (fun os started H enc _ => lifted os started H enc)
theorem proved : Rows.FnExactCallLineCardSaid :=
 Claim7.holds_tied_plain_at .later [] [.data, .pinned] true (true, "8145477ae8edc14bff9d8d1b452ee3239b57e774fe05c38056aa3212d8f66624") false said (fun _ h => by cases h) (by kernel_rfl) (fun _ h => by cases h) fnExactCallLine_row_tie rfl ⟨rfl, rfl⟩ (by kernel_rfl) rfl
  (fun f fn hf hfn => by
   obtain rfl : f = 3 := Option.some.inj ((show Tryz.prog.funcNamed "loop.example/userspaces/laws.FnExactCallLine" = some 3 by kernel_rfl).symm.trans hf) |>.symm
   obtain rfl : fn = Tryz.f3 := (Option.some.inj (Tryz.func3.symm.trans hfn)).symm
   exact ⟨by kernel_rfl, fun j t ht => by
    rw [Tryz.params3] at ht
    have hm : t ∈ [26, 9] := by simpa using Array.mem_of_getElem? ht
    have hall : ([26, 9].all fun u => !Tryz.prog.wantsStandIn u) = true := by kernel_rfl
    exact (show Tryz.prog.wantsStandIn t = false by simpa using List.all_eq_true.1 hall t hm)⟩)
  (by kernel_rfl)
#print axioms proved
end Go.Proofs.YtnibbldfohbfkaaGreatDoor.fnExactCallLine
