/- FnExactWritePage: the walk. No condition but that rows are shorter than 2^63. -/
import Derived.Test.YtpnllhdgpfbaiaaPag1
import Derived.Test.YtpnllhdgpfbaiaaPagY
namespace Go.Proofs.Ytpnllhdgpfbaiaa
open Go.RowKit

set_option maxRecDepth 10000 in
set_option maxHeartbeats 8000000 in
theorem exactWritePage_any (af : Option Addr) (cf : Nat) (F : List Int) (at_ : Option Addr) (ct : Nat) (T : List (List Int)) (who : Int) (page : Int) (num : Int) (w : World) (hF : F.length ≤ 9223372036854775807) (hrf : Rd 1 encInt1 w af F) (hT : T.length ≤ 9223372036854775807) (hlt : ∀ t ∈ T, t.length ≤ 9223372036854775807) (hrt : RdT w at_ T) :
    Calls Try.prog 12 #[.agg #[.slice af F.length cf, .slice at_ T.length ct], .int .i64 who, .int .i64 page, .int .i64 num] w (RetB True w) := by
  have HLT0 := Lib.hid hlt
  clear hlt
  go_enter Try.func12, Try.ntmps12
  have S := Sep.start w
  replace S : Sep w (w.alloc (.cells #[.slice af F.length cf, .slice at_ T.length ct] 25)) [plBox w.heap.size #[.slice af F.length cf, .slice at_ T.length ct] 25] := S.alloc_at (by simp) _ _
  go_wp2_with fail
  generalize (w.alloc (.cells #[.slice af F.length cf, .slice at_ T.length ct] 25)) = w1 at *
  refine (szMem_any af cf F at_ ct T _ _ (by omega) (by omega) hF hT HLT0.out (hrt.ext S.ext)).mono ?_
  rintro e w2 ⟨r2, rfl, hra2, hrb2, hrc2, hE⟩
  have Hrc := Lib.hid hrc2
  clear hrc2
  replace S : Sep w w2 [plBox w.heap.size #[.slice af F.length cf, .slice at_ T.length ct] 25] := S.step hE
  clear hE
  by_cases hneg : r2 < 0
  · go_wp2
    go_ret
    exact RetB.mk true rfl (by simp) S.ext
  have hlF : F.length ≤ 1048576 := (Hrc.out (by omega)).1
  have hlT : T.length ≤ 1048576 := (Hrc.out (by omega)).2.1
  have hlS : sumL T ≤ 1048576 := (Hrc.out (by omega)).2.2
  have HLT : Hid (∀ t ∈ T, t.length ≤ 1048576) := Lib.hid (fun t ht => by
    obtain ⟨k, hk⟩ := List.getElem?_of_mem ht
    have := sumL_mem hk
    omega)
  clear Hrc
  obtain ⟨bmc0, bmf0⟩ : w2.cell? ⟨w.heap.size, 0, none⟩ = some (.slice af F.length cf) ∧ w2.frozen? ⟨w.heap.size, 0, none⟩ = false := bx (S.box 0 rfl) 0 rfl
  obtain ⟨bmc1, bmf1⟩ : w2.cell? ⟨w.heap.size, 1, none⟩ = some (.slice at_ T.length ct) ∧ w2.frozen? ⟨w.heap.size, 1, none⟩ = false := bx (S.box 0 rfl) 1 rfl
  go_wp2_with fail
  clear bmc0 bmf0 bmc1 bmf1
  refine (toMem_any af cf F at_ ct T _ hlF hlT HLT.out (hrf.ext S.ext) (hrt.ext S.ext)).mono ?_
  rintro e w11 ⟨a1s, c1s, a2s, c2s, vss, rfl, hk1s, hk2s, U⟩
  replace S : Sep w w11 [plTab (.slice a2s T.length c2s) vss T, plRow 3 1 encInt1 (.slice a1s F.length c1s) F, plBox w.heap.size #[.slice af F.length cf, .slice at_ T.length ct] 25] := S.call U
  clear U
  go_wp2_with fail
  refine (specWritePage a1s c1s F a2s c2s T who page num _ (by omega) (by omega) (S.rd 1 encInt1_len rfl rfl) (S.rdt 0 rfl)).mono ?_
  rintro e w12 ⟨a1W, c1W, FW, a2W, c2W, vsW, TW, yW1, rfl, hR, U⟩
  have HR := Lib.hid hR
  clear hR
  replace S : Sep w w12 [plTab (.slice a2W TW.length c2W) vsW TW, plRow 3 1 encInt1 (.slice a1W FW.length c1W) FW, plTab (.slice a2s T.length c2s) vss T, plRow 3 1 encInt1 (.slice a1s F.length c1s) F, plBox w.heap.size #[.slice af F.length cf, .slice at_ T.length ct] 25] := S.call U
  clear U
  have hS := writeR_small HR.out
  have hbF : FW.length ≤ 13 := hS.1
  have hbT : TW.length ≤ 5 := hS.2.1
  have hbS := small_sum hS
  have HTW : Hid (∀ t ∈ TW, t.length ≤ 9223372036854775807) := Lib.hid (fun t ht => by have := hS.2.2 t ht; omega)
  clear hS
  replace S : Sep w (w12.alloc (.cells #[.slice a1W FW.length c1W, .slice a2W TW.length c2W] 28)) [plBox w12.heap.size #[.slice a1W FW.length c1W, .slice a2W TW.length c2W] 28, plTab (.slice a2W TW.length c2W) vsW TW, plRow 3 1 encInt1 (.slice a1W FW.length c1W) FW, plTab (.slice a2s T.length c2s) vss T, plRow 3 1 encInt1 (.slice a1s F.length c1s) F, plBox w.heap.size #[.slice af F.length cf, .slice at_ T.length ct] 25] := S.alloc_at (by simp) _ _
  replace S : Sep w (w12.alloc (.cells #[.slice a1W FW.length c1W, .slice a2W TW.length c2W] 28)) [plBox w12.heap.size #[.slice a1W FW.length c1W, .slice a2W TW.length c2W] 28, plTab (.slice a2W TW.length c2W) vsW TW, plRow 3 1 encInt1 (.slice a1W FW.length c1W) FW, plRow 3 1 encInt1 (.slice a1s F.length c1s) F, plBox w.heap.size #[.slice af F.length cf, .slice at_ T.length ct] 25] := S.drop 3
  replace S : Sep w (w12.alloc (.cells #[.slice a1W FW.length c1W, .slice a2W TW.length c2W] 28)) [plBox w12.heap.size #[.slice a1W FW.length c1W, .slice a2W TW.length c2W] 28, plTab (.slice a2W TW.length c2W) vsW TW, plRow 3 1 encInt1 (.slice a1W FW.length c1W) FW, plBox w.heap.size #[.slice af F.length cf, .slice at_ T.length ct] 25] := S.drop 3
  obtain ⟨bmc0, bmf0⟩ : (w12.alloc (.cells #[.slice a1W FW.length c1W, .slice a2W TW.length c2W] 28)).cell? ⟨w.heap.size, 0, none⟩ = some (.slice af F.length cf) ∧ (w12.alloc (.cells #[.slice a1W FW.length c1W, .slice a2W TW.length c2W] 28)).frozen? ⟨w.heap.size, 0, none⟩ = false := bx (S.box 3 rfl) 0 rfl
  obtain ⟨bmc1, bmf1⟩ : (w12.alloc (.cells #[.slice a1W FW.length c1W, .slice a2W TW.length c2W] 28)).cell? ⟨w.heap.size, 1, none⟩ = some (.slice at_ T.length ct) ∧ (w12.alloc (.cells #[.slice a1W FW.length c1W, .slice a2W TW.length c2W] 28)).frozen? ⟨w.heap.size, 1, none⟩ = false := bx (S.box 3 rfl) 1 rfl
  go_wp2_with fail
  generalize (w12.alloc (.cells #[.slice a1W FW.length c1W, .slice a2W TW.length c2W] 28)) = w14 at *
  clear bmc0 bmf0 bmc1 bmf1
  refine (toMem_any af cf F at_ ct T _ hlF hlT HLT.out (hrf.ext S.ext) (hrt.ext S.ext)).mono ?_
  rintro e w13 ⟨a1x, c1x, a2x, c2x, vsx, rfl, hk1x, hk2x, U⟩
  replace S : Sep w w13 [plTab (.slice a2x T.length c2x) vsx T, plRow 3 1 encInt1 (.slice a1x F.length c1x) F, plBox w12.heap.size #[.slice a1W FW.length c1W, .slice a2W TW.length c2W] 28, plTab (.slice a2W TW.length c2W) vsW TW, plRow 3 1 encInt1 (.slice a1W FW.length c1W) FW, plBox w.heap.size #[.slice af F.length cf, .slice at_ T.length ct] 25] := S.call U
  clear U
  replace S : Sep w (w13.alloc (.cells #[.slice a1x F.length c1x, .slice a2x T.length c2x] 28)) [plBox w13.heap.size #[.slice a1x F.length c1x, .slice a2x T.length c2x] 28, plTab (.slice a2x T.length c2x) vsx T, plRow 3 1 encInt1 (.slice a1x F.length c1x) F, plBox w12.heap.size #[.slice a1W FW.length c1W, .slice a2W TW.length c2W] 28, plTab (.slice a2W TW.length c2W) vsW TW, plRow 3 1 encInt1 (.slice a1W FW.length c1W) FW, plBox w.heap.size #[.slice af F.length cf, .slice at_ T.length ct] 25] := S.alloc_at (by simp) _ _
  go_wp2_with fail
  generalize (w13.alloc (.cells #[.slice a1x F.length c1x, .slice a2x T.length c2x] 28)) = w15 at *
  refine (implWritePage a1x c1x F a2x c2x T who page num _ (by omega) (by omega) (S.rd 2 encInt1_len rfl rfl) (S.rdt 1 rfl)).mono ?_
  rintro e w16 ⟨a1G, c1G, FG, a2G, c2G, vsG, TG, yG1, rfl, hR, U⟩
  obtain ⟨rfl, rfl, rfl⟩ : FW = FG ∧ TW = TG ∧ yW1 = yG1 := writeR_fun HR.out hR
  clear hR
  replace S : Sep w w16 [plTab (.slice a2G TW.length c2G) vsG TW, plRow 3 1 encInt1 (.slice a1G FW.length c1G) FW, plBox w13.heap.size #[.slice a1x F.length c1x, .slice a2x T.length c2x] 28, plTab (.slice a2x T.length c2x) vsx T, plRow 3 1 encInt1 (.slice a1x F.length c1x) F, plBox w12.heap.size #[.slice a1W FW.length c1W, .slice a2W TW.length c2W] 28, plTab (.slice a2W TW.length c2W) vsW TW, plRow 3 1 encInt1 (.slice a1W FW.length c1W) FW, plBox w.heap.size #[.slice af F.length cf, .slice at_ T.length ct] 25] := S.call U
  clear U
  replace S : Sep w (w16.alloc (.cells #[.slice a1G FW.length c1G, .slice a2G TW.length c2G] 28)) [plBox w16.heap.size #[.slice a1G FW.length c1G, .slice a2G TW.length c2G] 28, plTab (.slice a2G TW.length c2G) vsG TW, plRow 3 1 encInt1 (.slice a1G FW.length c1G) FW, plBox w13.heap.size #[.slice a1x F.length c1x, .slice a2x T.length c2x] 28, plTab (.slice a2x T.length c2x) vsx T, plRow 3 1 encInt1 (.slice a1x F.length c1x) F, plBox w12.heap.size #[.slice a1W FW.length c1W, .slice a2W TW.length c2W] 28, plTab (.slice a2W TW.length c2W) vsW TW, plRow 3 1 encInt1 (.slice a1W FW.length c1W) FW, plBox w.heap.size #[.slice af F.length cf, .slice at_ T.length ct] 25] := S.alloc_at (by simp) _ _
  have e1 : (yW1 != yW1) = false := by simp
  obtain ⟨zWc0, zWf0⟩ : (w16.alloc (.cells #[.slice a1G FW.length c1G, .slice a2G TW.length c2G] 28)).cell? ⟨w12.heap.size, 0, none⟩ = some (.slice a1W FW.length c1W) ∧ (w16.alloc (.cells #[.slice a1G FW.length c1G, .slice a2G TW.length c2G] 28)).frozen? ⟨w12.heap.size, 0, none⟩ = false := bx (S.box 6 rfl) 0 rfl
  obtain ⟨zWc1, zWf1⟩ : (w16.alloc (.cells #[.slice a1G FW.length c1G, .slice a2G TW.length c2G] 28)).cell? ⟨w12.heap.size, 1, none⟩ = some (.slice a2W TW.length c2W) ∧ (w16.alloc (.cells #[.slice a1G FW.length c1G, .slice a2G TW.length c2G] 28)).frozen? ⟨w12.heap.size, 1, none⟩ = false := bx (S.box 6 rfl) 1 rfl
  go_wp2_with fail
  generalize (w16.alloc (.cells #[.slice a1G FW.length c1G, .slice a2G TW.length c2G] 28)) = w18 at *
  clear zWc0 zWf0 zWc1 zWf1
  refine (eqMem_any _ _ _ _ _ _ _ _ FW FW TW TW _ (by omega) (by omega) (by omega) (by omega) (fun t ht => HTW.out t ht) (fun t ht => HTW.out t ht) (S.rd 2 encInt1_len rfl rfl) (S.rdt 1 rfl) (S.rd 8 encInt1_len rfl rfl) (S.rdt 7 rfl)).mono ?_
  rintro e w17 ⟨q17, rfl, hq, hE⟩
  obtain rfl : q17 = true := hq.2 ⟨rfl, rfl⟩
  clear hq
  replace S : Sep w w17 [plBox w16.heap.size #[.slice a1G FW.length c1G, .slice a2G TW.length c2G] 28, plTab (.slice a2G TW.length c2G) vsG TW, plRow 3 1 encInt1 (.slice a1G FW.length c1G) FW, plBox w13.heap.size #[.slice a1x F.length c1x, .slice a2x T.length c2x] 28, plTab (.slice a2x T.length c2x) vsx T, plRow 3 1 encInt1 (.slice a1x F.length c1x) F, plBox w12.heap.size #[.slice a1W FW.length c1W, .slice a2W TW.length c2W] 28, plTab (.slice a2W TW.length c2W) vsW TW, plRow 3 1 encInt1 (.slice a1W FW.length c1W) FW, plBox w.heap.size #[.slice af F.length cf, .slice at_ T.length ct] 25] := S.step hE
  clear hE
  obtain ⟨bmc0, bmf0⟩ : w17.cell? ⟨w.heap.size, 0, none⟩ = some (.slice af F.length cf) ∧ w17.frozen? ⟨w.heap.size, 0, none⟩ = false := bx (S.box 9 rfl) 0 rfl
  obtain ⟨bmc1, bmf1⟩ : w17.cell? ⟨w.heap.size, 1, none⟩ = some (.slice at_ T.length ct) ∧ w17.frozen? ⟨w.heap.size, 1, none⟩ = false := bx (S.box 9 rfl) 1 rfl
  obtain ⟨bxc0, bxf0⟩ : w17.cell? ⟨w13.heap.size, 0, none⟩ = some (.slice a1x F.length c1x) ∧ w17.frozen? ⟨w13.heap.size, 0, none⟩ = false := bx (S.box 3 rfl) 0 rfl
  obtain ⟨bxc1, bxf1⟩ : w17.cell? ⟨w13.heap.size, 1, none⟩ = some (.slice a2x T.length c2x) ∧ w17.frozen? ⟨w13.heap.size, 1, none⟩ = false := bx (S.box 3 rfl) 1 rfl
  go_upto_region 10 with fail
  have hx0 : Rd 1 encInt1 (World.drew w17) a1x F := (S.rd 5 encInt1_len rfl rfl).ext (Ext.refl _).drew
  have hx1 : RdT (World.drew w17) a2x T := (S.rdt 4 rfl).ext (Ext.refl _).drew
  have Ed := S.ext.drew
  refine wp_region_v 5 (V := fun i v wv => match i with
    | 0 => v = .agg #[.slice a1x F.length c1x, .slice a2x T.length c2x]
    | 1 => v = .agg #[.slice af F.length cf, .slice at_ T.length ct]
    | 2 => MemN F T v wv
    | 3 => v = .bool true
    | 4 => v = .bool false
    | _ => True) rfl (by decide) (by kernel_rfl) (by kernel_rfl) (by kernel_rfl) ?_ ?_ ?_
  · intro i v wa wb h hE
    match i with
    | 0 => exact h
    | 1 => exact h
    | 2 => exact MemN.ext h hE
    | 3 => exact h
    | 4 => exact h
    | (n + 5) => trivial
  · intro i o hi ho vs wc hvl hE hd
    have c0 := cell_ext hE (show (World.drew w17).cell? _ = _ from bmc0)
    have c1 := cell_ext hE (show (World.drew w17).cell? _ = _ from bmc1)
    have c2 := cell_ext hE (show (World.drew w17).cell? _ = _ from bxc0)
    have c3 := cell_ext hE (show (World.drew w17).cell? _ = _ from bxc1)
    have hr4 := hx0.ext hE
    have hr5 := hx1.ext hE
    have E7 := Ed.trans hE
    clear bmc0 bmf0 bmc1 bmf1 bxc0 bxf0 bxc1 bxf1
    match vs, hvl with
    | [x0, x1, x2, x3, x4], _ =>
    rcases (show i = 0 ∨ i = 1 ∨ i = 2 ∨ i = 3 ∨ i = 4 by omega) with rfl | rfl | rfl | rfl | rfl
    all_goals
      simp only [List.getElem?_cons_zero, List.getElem?_cons_succ, Option.some.injEq] at ho
      subst ho
      simp [Waits, Region.binds] at hd
    · simp [putAll, Act.put]
      go_wp2
      exact ⟨rfl, _, rfl, rfl, Ext.refl _⟩
    · simp [putAll, Act.put]
      go_wp2
      exact ⟨rfl, _, rfl, rfl, Ext.refl _⟩
    · simp [putAll, Act.put, hd]
      go_wp2_with fail
      refine (toMem_any af cf F at_ ct T wc hlF hlT HLT.out (hrf.ext E7) (hrt.ext E7)).mono ?_
      rintro e wd ⟨a8, c8, a9, c9, vs9, rfl, _, _, U⟩
      have h9 : MemN F T (.agg #[.slice a8 F.length c8, .slice a9 T.length c9]) wd := ⟨_, _, _, _, rfl, U.rd 1 encInt1_len rfl rfl, U.rdt 0 rfl⟩
      have hb := U.ext
      clear U
      go_wp2
      exact ⟨rfl, _, rfl, h9, hb⟩
    · obtain ⟨hd0, a8, c8, a9, c9, hd1, hr8, hr9⟩ := hd
      subst hd0 hd1
      simp [putAll, Act.put]
      go_wp2_with fail
      refine (eqMem_any _ _ _ _ _ _ _ _ F F T T wc hF hF hT hT HLT0.out HLT0.out hr4 hr5 hr8 hr9).mono ?_
      rintro e wd ⟨b8, rfl, hb8, hb⟩
      obtain rfl : b8 = true := hb8.2 ⟨rfl, rfl⟩
      clear hb8
      go_wp2
      exact ⟨rfl, _, rfl, rfl, hb⟩
    · simp [putAll, Act.put, hd]
      go_wp2
      exact ⟨rfl, _, rfl, rfl, Ext.refl _⟩
  intro vs w21 hvl hE hV
  match vs, hvl with
  | [x0, x1, x2, x3, x4], _ =>
  have e4 := hV 4 (by omega)
  clear hV
  simp at e4
  subst e4
  simp only [putAll, Act.put, List.take_succ_cons, List.take_zero, List.drop_succ_cons, List.drop_zero]
  simp
  replace hE := Ext.trans (Ext.refl w17).drew hE
  clear hx0 hx1 Ed
  clear bmc0 bmf0 bmc1 bmf1 bxc0 bxf0 bxc1 bxf1
  replace S : Sep w w21 [plBox w16.heap.size #[.slice a1G FW.length c1G, .slice a2G TW.length c2G] 28, plTab (.slice a2G TW.length c2G) vsG TW, plRow 3 1 encInt1 (.slice a1G FW.length c1G) FW, plBox w13.heap.size #[.slice a1x F.length c1x, .slice a2x T.length c2x] 28, plTab (.slice a2x T.length c2x) vsx T, plRow 3 1 encInt1 (.slice a1x F.length c1x) F, plBox w12.heap.size #[.slice a1W FW.length c1W, .slice a2W TW.length c2W] 28, plTab (.slice a2W TW.length c2W) vsW TW, plRow 3 1 encInt1 (.slice a1W FW.length c1W) FW, plBox w.heap.size #[.slice af F.length cf, .slice at_ T.length ct] 25] := S.step hE
  clear hE
  obtain ⟨bxc0, bxf0⟩ : w21.cell? ⟨w13.heap.size, 0, none⟩ = some (.slice a1x F.length c1x) ∧ w21.frozen? ⟨w13.heap.size, 0, none⟩ = false := bx (S.box 3 rfl) 0 rfl
  obtain ⟨bxc1, bxf1⟩ : w21.cell? ⟨w13.heap.size, 1, none⟩ = some (.slice a2x T.length c2x) ∧ w21.frozen? ⟨w13.heap.size, 1, none⟩ = false := bx (S.box 3 rfl) 1 rfl
  go_wp2_with fail
  clear bxc0 bxf0 bxc1 bxf1
  refine (markMem_own S 4 5 1 rfl rfl (by decide) hlF hlT hlS (by omega) (by omega)).mono ?_
  rintro e w22 ⟨rfl, SM⟩
  replace S : Sep w w22 [plBox w16.heap.size #[.slice a1G FW.length c1G, .slice a2G TW.length c2G] 28, plTab (.slice a2G TW.length c2G) vsG TW, plRow 3 1 encInt1 (.slice a1G FW.length c1G) FW, plBox w13.heap.size #[.slice a1x F.length c1x, .slice a2x T.length c2x] 28, plTab (.slice a2x T.length c2x) vsx (marksT T (1 + (F.length : Int))), plRow 3 1 encInt1 (.slice a1x F.length c1x) (marksInt F.length 1), plBox w12.heap.size #[.slice a1W FW.length c1W, .slice a2W TW.length c2W] 28, plTab (.slice a2W TW.length c2W) vsW TW, plRow 3 1 encInt1 (.slice a1W FW.length c1W) FW, plBox w.heap.size #[.slice af F.length cf, .slice at_ T.length ct] 25] := SM
  clear SM
  have kneg : ¬ (1 + (F.length : Int) + (sumL T : Int) < 0) := by omega
  obtain ⟨zGc0, zGf0⟩ : w22.cell? ⟨w16.heap.size, 0, none⟩ = some (.slice a1G FW.length c1G) ∧ w22.frozen? ⟨w16.heap.size, 0, none⟩ = false := bx (S.box 0 rfl) 0 rfl
  obtain ⟨zGc1, zGf1⟩ : w22.cell? ⟨w16.heap.size, 1, none⟩ = some (.slice a2G TW.length c2G) ∧ w22.frozen? ⟨w16.heap.size, 1, none⟩ = false := bx (S.box 0 rfl) 1 rfl
  obtain ⟨zWc0, zWf0⟩ : w22.cell? ⟨w12.heap.size, 0, none⟩ = some (.slice a1W FW.length c1W) ∧ w22.frozen? ⟨w12.heap.size, 0, none⟩ = false := bx (S.box 6 rfl) 0 rfl
  obtain ⟨zWc1, zWf1⟩ : w22.cell? ⟨w12.heap.size, 1, none⟩ = some (.slice a2W TW.length c2W) ∧ w22.frozen? ⟨w12.heap.size, 1, none⟩ = false := bx (S.box 6 rfl) 1 rfl
  go_wp2_with fail
  clear zGc0 zGf0 zGc1 zGf1 zWc0 zWf0 zWc1 zWf1
  refine (eqMem_any _ _ _ _ _ _ _ _ FW FW TW TW _ (by omega) (by omega) (by omega) (by omega) (fun t ht => HTW.out t ht) (fun t ht => HTW.out t ht) (S.rd 2 encInt1_len rfl rfl) (S.rdt 1 rfl) (S.rd 8 encInt1_len rfl rfl) (S.rdt 7 rfl)).mono ?_
  rintro e w23 ⟨q23, rfl, hq, hE⟩
  obtain rfl : q23 = true := hq.2 ⟨rfl, rfl⟩
  clear hq
  replace S : Sep w w23 [plBox w16.heap.size #[.slice a1G FW.length c1G, .slice a2G TW.length c2G] 28, plTab (.slice a2G TW.length c2G) vsG TW, plRow 3 1 encInt1 (.slice a1G FW.length c1G) FW, plBox w13.heap.size #[.slice a1x F.length c1x, .slice a2x T.length c2x] 28, plTab (.slice a2x T.length c2x) vsx (marksT T (1 + (F.length : Int))), plRow 3 1 encInt1 (.slice a1x F.length c1x) (marksInt F.length 1), plBox w12.heap.size #[.slice a1W FW.length c1W, .slice a2W TW.length c2W] 28, plTab (.slice a2W TW.length c2W) vsW TW, plRow 3 1 encInt1 (.slice a1W FW.length c1W) FW, plBox w.heap.size #[.slice af F.length cf, .slice at_ T.length ct] 25] := S.step hE
  clear hE
  clear kneg
  obtain ⟨zGc0, zGf0⟩ : w23.cell? ⟨w16.heap.size, 0, none⟩ = some (.slice a1G FW.length c1G) ∧ w23.frozen? ⟨w16.heap.size, 0, none⟩ = false := bx (S.box 0 rfl) 0 rfl
  obtain ⟨zGc1, zGf1⟩ : w23.cell? ⟨w16.heap.size, 1, none⟩ = some (.slice a2G TW.length c2G) ∧ w23.frozen? ⟨w16.heap.size, 1, none⟩ = false := bx (S.box 0 rfl) 1 rfl
  go_wp2_with fail
  clear zGc0 zGf0 zGc1 zGf1
  refine (markMem_own S 1 2 1 rfl rfl (by decide) (by omega) (by omega) (by omega) (by omega) (by omega)).mono ?_
  rintro e w25 ⟨rfl, SM⟩
  replace S : Sep w w25 [plBox w16.heap.size #[.slice a1G FW.length c1G, .slice a2G TW.length c2G] 28, plTab (.slice a2G TW.length c2G) vsG (marksT TW (1 + (FW.length : Int))), plRow 3 1 encInt1 (.slice a1G FW.length c1G) (marksInt FW.length 1), plBox w13.heap.size #[.slice a1x F.length c1x, .slice a2x T.length c2x] 28, plTab (.slice a2x T.length c2x) vsx (marksT T (1 + (F.length : Int))), plRow 3 1 encInt1 (.slice a1x F.length c1x) (marksInt F.length 1), plBox w12.heap.size #[.slice a1W FW.length c1W, .slice a2W TW.length c2W] 28, plTab (.slice a2W TW.length c2W) vsW TW, plRow 3 1 encInt1 (.slice a1W FW.length c1W) FW, plBox w.heap.size #[.slice af F.length cf, .slice at_ T.length ct] 25] := SM
  clear SM
  obtain ⟨zGc0, zGf0⟩ : w25.cell? ⟨w16.heap.size, 0, none⟩ = some (.slice a1G FW.length c1G) ∧ w25.frozen? ⟨w16.heap.size, 0, none⟩ = false := bx (S.box 0 rfl) 0 rfl
  obtain ⟨zGc1, zGf1⟩ : w25.cell? ⟨w16.heap.size, 1, none⟩ = some (.slice a2G TW.length c2G) ∧ w25.frozen? ⟨w16.heap.size, 1, none⟩ = false := bx (S.box 0 rfl) 1 rfl
  go_wp2_with fail
  clear zGc0 zGf0 zGc1 zGf1
  refine (heldMem_any _ _ _ _ FW.length TW 1 _ (by omega) (by omega) (by omega) (by omega) (by omega) (S.rd 2 encInt1_len rfl (by rw [marksInt_len])) (S.rdt 1 rfl)).mono ?_
  rintro e w27 ⟨rfl, hE⟩
  replace S : Sep w w27 [plBox w16.heap.size #[.slice a1G FW.length c1G, .slice a2G TW.length c2G] 28, plTab (.slice a2G TW.length c2G) vsG (marksT TW (1 + (FW.length : Int))), plRow 3 1 encInt1 (.slice a1G FW.length c1G) (marksInt FW.length 1), plBox w13.heap.size #[.slice a1x F.length c1x, .slice a2x T.length c2x] 28, plTab (.slice a2x T.length c2x) vsx (marksT T (1 + (F.length : Int))), plRow 3 1 encInt1 (.slice a1x F.length c1x) (marksInt F.length 1), plBox w12.heap.size #[.slice a1W FW.length c1W, .slice a2W TW.length c2W] 28, plTab (.slice a2W TW.length c2W) vsW TW, plRow 3 1 encInt1 (.slice a1W FW.length c1W) FW, plBox w.heap.size #[.slice af F.length cf, .slice at_ T.length ct] 25] := S.step hE
  clear hE
  have hnn : ¬ (1 + (FW.length : Int) + (sumL TW : Int) < 0) := by omega
  have hne : (1 + (FW.length : Int) + (sumL TW : Int) != 1 + (FW.length : Int) + (sumL TW : Int)) = false := by simp
  obtain ⟨bmc0, bmf0⟩ : w27.cell? ⟨w.heap.size, 0, none⟩ = some (.slice af F.length cf) ∧ w27.frozen? ⟨w.heap.size, 0, none⟩ = false := bx (S.box 9 rfl) 0 rfl
  obtain ⟨bmc1, bmf1⟩ : w27.cell? ⟨w.heap.size, 1, none⟩ = some (.slice at_ T.length ct) ∧ w27.frozen? ⟨w.heap.size, 1, none⟩ = false := bx (S.box 9 rfl) 1 rfl
  go_wp2_with fail
  clear bmc0 bmf0 bmc1 bmf1
  refine (toMem_any af cf F at_ ct T _ hlF hlT HLT.out (hrf.ext S.ext) (hrt.ext S.ext)).mono ?_
  rintro e w29 ⟨a1h, c1h, a2h, c2h, vsh, rfl, hk1h, hk2h, U⟩
  replace S : Sep w w29 [plTab (.slice a2h T.length c2h) vsh T, plRow 3 1 encInt1 (.slice a1h F.length c1h) F, plBox w16.heap.size #[.slice a1G FW.length c1G, .slice a2G TW.length c2G] 28, plTab (.slice a2G TW.length c2G) vsG (marksT TW (1 + (FW.length : Int))), plRow 3 1 encInt1 (.slice a1G FW.length c1G) (marksInt FW.length 1), plBox w13.heap.size #[.slice a1x F.length c1x, .slice a2x T.length c2x] 28, plTab (.slice a2x T.length c2x) vsx (marksT T (1 + (F.length : Int))), plRow 3 1 encInt1 (.slice a1x F.length c1x) (marksInt F.length 1), plBox w12.heap.size #[.slice a1W FW.length c1W, .slice a2W TW.length c2W] 28, plTab (.slice a2W TW.length c2W) vsW TW, plRow 3 1 encInt1 (.slice a1W FW.length c1W) FW, plBox w.heap.size #[.slice af F.length cf, .slice at_ T.length ct] 25] := S.call U
  clear U
  go_wp2_with fail
  refine (implWritePage a1h c1h F a2h c2h T who page num _ (by omega) (by omega) (S.rd 1 encInt1_len rfl rfl) (S.rdt 0 rfl)).mono ?_
  rintro e w30 ⟨a1I, c1I, FI, a2I, c2I, vsI, TI, yI1, rfl, hR, U⟩
  obtain ⟨rfl, rfl, rfl⟩ : FW = FI ∧ TW = TI ∧ yW1 = yI1 := writeR_fun HR.out hR
  clear hR
  replace S : Sep w w30 [plTab (.slice a2I TW.length c2I) vsI TW, plRow 3 1 encInt1 (.slice a1I FW.length c1I) FW, plTab (.slice a2h T.length c2h) vsh T, plRow 3 1 encInt1 (.slice a1h F.length c1h) F, plBox w16.heap.size #[.slice a1G FW.length c1G, .slice a2G TW.length c2G] 28, plTab (.slice a2G TW.length c2G) vsG (marksT TW (1 + (FW.length : Int))), plRow 3 1 encInt1 (.slice a1G FW.length c1G) (marksInt FW.length 1), plBox w13.heap.size #[.slice a1x F.length c1x, .slice a2x T.length c2x] 28, plTab (.slice a2x T.length c2x) vsx (marksT T (1 + (F.length : Int))), plRow 3 1 encInt1 (.slice a1x F.length c1x) (marksInt F.length 1), plBox w12.heap.size #[.slice a1W FW.length c1W, .slice a2W TW.length c2W] 28, plTab (.slice a2W TW.length c2W) vsW TW, plRow 3 1 encInt1 (.slice a1W FW.length c1W) FW, plBox w.heap.size #[.slice af F.length cf, .slice at_ T.length ct] 25] := S.call U
  clear U
  replace S : Sep w (w30.alloc (.cells #[.slice a1I FW.length c1I, .slice a2I TW.length c2I] 28)) [plBox w30.heap.size #[.slice a1I FW.length c1I, .slice a2I TW.length c2I] 28, plTab (.slice a2I TW.length c2I) vsI TW, plRow 3 1 encInt1 (.slice a1I FW.length c1I) FW, plTab (.slice a2h T.length c2h) vsh T, plRow 3 1 encInt1 (.slice a1h F.length c1h) F, plBox w16.heap.size #[.slice a1G FW.length c1G, .slice a2G TW.length c2G] 28, plTab (.slice a2G TW.length c2G) vsG (marksT TW (1 + (FW.length : Int))), plRow 3 1 encInt1 (.slice a1G FW.length c1G) (marksInt FW.length 1), plBox w13.heap.size #[.slice a1x F.length c1x, .slice a2x T.length c2x] 28, plTab (.slice a2x T.length c2x) vsx (marksT T (1 + (F.length : Int))), plRow 3 1 encInt1 (.slice a1x F.length c1x) (marksInt F.length 1), plBox w12.heap.size #[.slice a1W FW.length c1W, .slice a2W TW.length c2W] 28, plTab (.slice a2W TW.length c2W) vsW TW, plRow 3 1 encInt1 (.slice a1W FW.length c1W) FW, plBox w.heap.size #[.slice af F.length cf, .slice at_ T.length ct] 25] := S.alloc_at (by simp) _ _
  replace S : Sep w (w30.alloc (.cells #[.slice a1I FW.length c1I, .slice a2I TW.length c2I] 28)) [plBox w30.heap.size #[.slice a1I FW.length c1I, .slice a2I TW.length c2I] 28, plTab (.slice a2I TW.length c2I) vsI TW, plRow 3 1 encInt1 (.slice a1I FW.length c1I) FW, plRow 3 1 encInt1 (.slice a1h F.length c1h) F, plBox w16.heap.size #[.slice a1G FW.length c1G, .slice a2G TW.length c2G] 28, plTab (.slice a2G TW.length c2G) vsG (marksT TW (1 + (FW.length : Int))), plRow 3 1 encInt1 (.slice a1G FW.length c1G) (marksInt FW.length 1), plBox w13.heap.size #[.slice a1x F.length c1x, .slice a2x T.length c2x] 28, plTab (.slice a2x T.length c2x) vsx (marksT T (1 + (F.length : Int))), plRow 3 1 encInt1 (.slice a1x F.length c1x) (marksInt F.length 1), plBox w12.heap.size #[.slice a1W FW.length c1W, .slice a2W TW.length c2W] 28, plTab (.slice a2W TW.length c2W) vsW TW, plRow 3 1 encInt1 (.slice a1W FW.length c1W) FW, plBox w.heap.size #[.slice af F.length cf, .slice at_ T.length ct] 25] := S.drop 3
  replace S : Sep w (w30.alloc (.cells #[.slice a1I FW.length c1I, .slice a2I TW.length c2I] 28)) [plBox w30.heap.size #[.slice a1I FW.length c1I, .slice a2I TW.length c2I] 28, plTab (.slice a2I TW.length c2I) vsI TW, plRow 3 1 encInt1 (.slice a1I FW.length c1I) FW, plBox w16.heap.size #[.slice a1G FW.length c1G, .slice a2G TW.length c2G] 28, plTab (.slice a2G TW.length c2G) vsG (marksT TW (1 + (FW.length : Int))), plRow 3 1 encInt1 (.slice a1G FW.length c1G) (marksInt FW.length 1), plBox w13.heap.size #[.slice a1x F.length c1x, .slice a2x T.length c2x] 28, plTab (.slice a2x T.length c2x) vsx (marksT T (1 + (F.length : Int))), plRow 3 1 encInt1 (.slice a1x F.length c1x) (marksInt F.length 1), plBox w12.heap.size #[.slice a1W FW.length c1W, .slice a2W TW.length c2W] 28, plTab (.slice a2W TW.length c2W) vsW TW, plRow 3 1 encInt1 (.slice a1W FW.length c1W) FW, plBox w.heap.size #[.slice af F.length cf, .slice at_ T.length ct] 25] := S.drop 3
  obtain ⟨zWc0, zWf0⟩ : (w30.alloc (.cells #[.slice a1I FW.length c1I, .slice a2I TW.length c2I] 28)).cell? ⟨w12.heap.size, 0, none⟩ = some (.slice a1W FW.length c1W) ∧ (w30.alloc (.cells #[.slice a1I FW.length c1I, .slice a2I TW.length c2I] 28)).frozen? ⟨w12.heap.size, 0, none⟩ = false := bx (S.box 9 rfl) 0 rfl
  obtain ⟨zWc1, zWf1⟩ : (w30.alloc (.cells #[.slice a1I FW.length c1I, .slice a2I TW.length c2I] 28)).cell? ⟨w12.heap.size, 1, none⟩ = some (.slice a2W TW.length c2W) ∧ (w30.alloc (.cells #[.slice a1I FW.length c1I, .slice a2I TW.length c2I] 28)).frozen? ⟨w12.heap.size, 1, none⟩ = false := bx (S.box 9 rfl) 1 rfl
  go_wp2_with fail
  generalize (w30.alloc (.cells #[.slice a1I FW.length c1I, .slice a2I TW.length c2I] 28)) = w32 at *
  clear zWc0 zWf0 zWc1 zWf1
  refine (eqMem_any _ _ _ _ _ _ _ _ FW FW TW TW _ (by omega) (by omega) (by omega) (by omega) (fun t ht => HTW.out t ht) (fun t ht => HTW.out t ht) (S.rd 2 encInt1_len rfl rfl) (S.rdt 1 rfl) (S.rd 11 encInt1_len rfl rfl) (S.rdt 10 rfl)).mono ?_
  rintro e w31 ⟨q31, rfl, hq, hE⟩
  obtain rfl : q31 = true := hq.2 ⟨rfl, rfl⟩
  clear hq
  replace S : Sep w w31 [plBox w30.heap.size #[.slice a1I FW.length c1I, .slice a2I TW.length c2I] 28, plTab (.slice a2I TW.length c2I) vsI TW, plRow 3 1 encInt1 (.slice a1I FW.length c1I) FW, plBox w16.heap.size #[.slice a1G FW.length c1G, .slice a2G TW.length c2G] 28, plTab (.slice a2G TW.length c2G) vsG (marksT TW (1 + (FW.length : Int))), plRow 3 1 encInt1 (.slice a1G FW.length c1G) (marksInt FW.length 1), plBox w13.heap.size #[.slice a1x F.length c1x, .slice a2x T.length c2x] 28, plTab (.slice a2x T.length c2x) vsx (marksT T (1 + (F.length : Int))), plRow 3 1 encInt1 (.slice a1x F.length c1x) (marksInt F.length 1), plBox w12.heap.size #[.slice a1W FW.length c1W, .slice a2W TW.length c2W] 28, plTab (.slice a2W TW.length c2W) vsW TW, plRow 3 1 encInt1 (.slice a1W FW.length c1W) FW, plBox w.heap.size #[.slice af F.length cf, .slice at_ T.length ct] 25] := S.step hE
  clear hE
  obtain ⟨zGc0, zGf0⟩ : w31.cell? ⟨w16.heap.size, 0, none⟩ = some (.slice a1G FW.length c1G) ∧ w31.frozen? ⟨w16.heap.size, 0, none⟩ = false := bx (S.box 3 rfl) 0 rfl
  obtain ⟨zGc1, zGf1⟩ : w31.cell? ⟨w16.heap.size, 1, none⟩ = some (.slice a2G TW.length c2G) ∧ w31.frozen? ⟨w16.heap.size, 1, none⟩ = false := bx (S.box 3 rfl) 1 rfl
  go_wp2_with fail
  clear zGc0 zGf0 zGc1 zGf1
  refine (heldMem_any _ _ _ _ FW.length TW 1 _ (by omega) (by omega) (by omega) (by omega) (by omega) (S.rd 5 encInt1_len rfl (by rw [marksInt_len])) (S.rdt 4 rfl)).mono ?_
  rintro e w34 ⟨rfl, hE⟩
  replace S : Sep w w34 [plBox w30.heap.size #[.slice a1I FW.length c1I, .slice a2I TW.length c2I] 28, plTab (.slice a2I TW.length c2I) vsI TW, plRow 3 1 encInt1 (.slice a1I FW.length c1I) FW, plBox w16.heap.size #[.slice a1G FW.length c1G, .slice a2G TW.length c2G] 28, plTab (.slice a2G TW.length c2G) vsG (marksT TW (1 + (FW.length : Int))), plRow 3 1 encInt1 (.slice a1G FW.length c1G) (marksInt FW.length 1), plBox w13.heap.size #[.slice a1x F.length c1x, .slice a2x T.length c2x] 28, plTab (.slice a2x T.length c2x) vsx (marksT T (1 + (F.length : Int))), plRow 3 1 encInt1 (.slice a1x F.length c1x) (marksInt F.length 1), plBox w12.heap.size #[.slice a1W FW.length c1W, .slice a2W TW.length c2W] 28, plTab (.slice a2W TW.length c2W) vsW TW, plRow 3 1 encInt1 (.slice a1W FW.length c1W) FW, plBox w.heap.size #[.slice af F.length cf, .slice at_ T.length ct] 25] := S.step hE
  clear hE
  go_wp2
  go_ret
  exact RetB.mk true rfl (by simp) S.ext
end Go.Proofs.Ytpnllhdgpfbaiaa
