/- FnExactFrameUses: the walk. No condition but that rows are shorter than 2^63. -/
import Derived.Test.YtpnllhdgpfbaiaaPag1
import Derived.Test.YtpnllhdgpfbaiaaPagU
namespace Go.Proofs.Ytpnllhdgpfbaiaa
open Go.RowKit

set_option maxRecDepth 10000 in
set_option maxHeartbeats 8000000 in
theorem exactFrameUses_any (af : Option Addr) (cf : Nat) (F : List Int) (at_ : Option Addr) (ct : Nat) (T : List (List Int))  (w : World) (hF : F.length ≤ 9223372036854775807) (hrf : Rd 1 encInt1 w af F) (hT : T.length ≤ 9223372036854775807) (hlt : ∀ t ∈ T, t.length ≤ 9223372036854775807) (hrt : RdT w at_ T) :
    Calls Try.prog 6 #[.agg #[.slice af F.length cf, .slice at_ T.length ct]] w (RetB True w) := by
  have HLT0 := Lib.hid hlt
  clear hlt
  go_enter Try.func6, Try.ntmps6
  have S := Sep.start w
  replace S : Sep w (w.alloc (.cells #[.slice af F.length cf, .slice at_ T.length ct] 25)) [plBox w.heap.size #[.slice af F.length cf, .slice at_ T.length ct] 25] := S.alloc_at (by simp) _ _
  go_wp2_with fail
  generalize (w.alloc (.cells #[.slice af F.length cf, .slice at_ T.length ct] 25)) = w1 at *
  refine (szMem_any af cf F at_ ct T _ _ (by omega) (by omega) hF hT HLT0.out (hrt.ext S.ext)).mono ?_
  rintro e w2 ⟨r2, rfl, hra2, hrb2, hrc2, hE⟩
  have Hrc := Lib.hid hrc2
  clear hrc2
  replace S : Sep w w2 [plBox w.heap.size #[.slice af F.length cf, .slice at_ T.length ct] 25] := S.step hE
  clear hE
  by_cases hneg : r2 < 0
  · go_wp2
    go_ret
    exact RetB.mk true rfl (by simp) S.ext
  have hlF : F.length ≤ 1048576 := (Hrc.out (by omega)).1
  have hlT : T.length ≤ 1048576 := (Hrc.out (by omega)).2.1
  have hlS : sumL T ≤ 1048576 := (Hrc.out (by omega)).2.2
  have HLT : Hid (∀ t ∈ T, t.length ≤ 1048576) := Lib.hid (fun t ht => by
    obtain ⟨k, hk⟩ := List.getElem?_of_mem ht
    have := sumL_mem hk
    omega)
  clear Hrc
  obtain ⟨bmc0, bmf0⟩ : w2.cell? ⟨w.heap.size, 0, none⟩ = some (.slice af F.length cf) ∧ w2.frozen? ⟨w.heap.size, 0, none⟩ = false := bx (S.box 0 rfl) 0 rfl
  obtain ⟨bmc1, bmf1⟩ : w2.cell? ⟨w.heap.size, 1, none⟩ = some (.slice at_ T.length ct) ∧ w2.frozen? ⟨w.heap.size, 1, none⟩ = false := bx (S.box 0 rfl) 1 rfl
  go_wp2_with fail
  clear bmc0 bmf0 bmc1 bmf1
  refine (toMem_any af cf F at_ ct T _ hlF hlT HLT.out (hrf.ext S.ext) (hrt.ext S.ext)).mono ?_
  rintro e w11 ⟨a1s, c1s, a2s, c2s, vss, rfl, hk1s, hk2s, U⟩
  replace S : Sep w w11 [plTab (.slice a2s T.length c2s) vss T, plRow 3 1 encInt1 (.slice a1s F.length c1s) F, plBox w.heap.size #[.slice af F.length cf, .slice at_ T.length ct] 25] := S.call U
  clear U
  go_wp2_with fail
  refine (specFrameUses a1s c1s F a2s c2s T _ (by omega) (by omega) (S.rd 1 encInt1_len rfl rfl) (S.rdt 0 rfl)).mono ?_
  rintro e w12 ⟨uW0, LW0, rfl, hR, U⟩
  have HR := Lib.hid hR
  clear hR
  obtain ⟨aW0, cW0, hv2, hkW0, _, _⟩ := view_owns encInt1_len (U.row 0 rfl)
  subst hv2
  replace S : Sep w w12 [plRow 3 1 encInt1 (.slice aW0 LW0.length cW0) LW0, plTab (.slice a2s T.length c2s) vss T, plRow 3 1 encInt1 (.slice a1s F.length c1s) F, plBox w.heap.size #[.slice af F.length cf, .slice at_ T.length ct] 25] := S.call U
  clear U
  have hb0 := usesR_len HR.out
  replace S : Sep w w12 [plRow 3 1 encInt1 (.slice aW0 LW0.length cW0) LW0, plRow 3 1 encInt1 (.slice a1s F.length c1s) F, plBox w.heap.size #[.slice af F.length cf, .slice at_ T.length ct] 25] := S.drop 1
  replace S : Sep w w12 [plRow 3 1 encInt1 (.slice aW0 LW0.length cW0) LW0, plBox w.heap.size #[.slice af F.length cf, .slice at_ T.length ct] 25] := S.drop 1
  obtain ⟨bmc0, bmf0⟩ : w12.cell? ⟨w.heap.size, 0, none⟩ = some (.slice af F.length cf) ∧ w12.frozen? ⟨w.heap.size, 0, none⟩ = false := bx (S.box 1 rfl) 0 rfl
  obtain ⟨bmc1, bmf1⟩ : w12.cell? ⟨w.heap.size, 1, none⟩ = some (.slice at_ T.length ct) ∧ w12.frozen? ⟨w.heap.size, 1, none⟩ = false := bx (S.box 1 rfl) 1 rfl
  go_wp2_with fail
  clear bmc0 bmf0 bmc1 bmf1
  refine (toMem_any af cf F at_ ct T _ hlF hlT HLT.out (hrf.ext S.ext) (hrt.ext S.ext)).mono ?_
  rintro e w13 ⟨a1x, c1x, a2x, c2x, vsx, rfl, hk1x, hk2x, U⟩
  replace S : Sep w w13 [plTab (.slice a2x T.length c2x) vsx T, plRow 3 1 encInt1 (.slice a1x F.length c1x) F, plRow 3 1 encInt1 (.slice aW0 LW0.length cW0) LW0, plBox w.heap.size #[.slice af F.length cf, .slice at_ T.length ct] 25] := S.call U
  clear U
  replace S : Sep w (w13.alloc (.cells #[.slice a1x F.length c1x, .slice a2x T.length c2x] 28)) [plBox w13.heap.size #[.slice a1x F.length c1x, .slice a2x T.length c2x] 28, plTab (.slice a2x T.length c2x) vsx T, plRow 3 1 encInt1 (.slice a1x F.length c1x) F, plRow 3 1 encInt1 (.slice aW0 LW0.length cW0) LW0, plBox w.heap.size #[.slice af F.length cf, .slice at_ T.length ct] 25] := S.alloc_at (by simp) _ _
  go_wp2_with fail
  generalize (w13.alloc (.cells #[.slice a1x F.length c1x, .slice a2x T.length c2x] 28)) = w14 at *
  refine (implFrameUses a1x c1x F a2x c2x T _ (by omega) (by omega) (S.rd 2 encInt1_len rfl rfl) (S.rdt 1 rfl)).mono ?_
  rintro e w15 ⟨uG0, LG0, rfl, hR, U⟩
  obtain rfl : LW0 = LG0 := usesR_fun HR.out hR
  clear hR
  obtain ⟨aG0, cG0, hv2, hkG0, _, _⟩ := view_owns encInt1_len (U.row 0 rfl)
  subst hv2
  replace S : Sep w w15 [plRow 3 1 encInt1 (.slice aG0 LW0.length cG0) LW0, plBox w13.heap.size #[.slice a1x F.length c1x, .slice a2x T.length c2x] 28, plTab (.slice a2x T.length c2x) vsx T, plRow 3 1 encInt1 (.slice a1x F.length c1x) F, plRow 3 1 encInt1 (.slice aW0 LW0.length cW0) LW0, plBox w.heap.size #[.slice af F.length cf, .slice at_ T.length ct] 25] := S.call U
  clear U
  go_wp2_with fail
  refine (eqIntS_any _ _ _ _ LW0 LW0 _ (by omega) (by omega) (S.rd 0 encInt1_len rfl rfl) (S.rd 4 encInt1_len rfl rfl)).mono ?_
  rintro e w16 ⟨q16, rfl, hq, hE⟩
  obtain rfl : q16 = true := hq.2 rfl
  clear hq
  replace S : Sep w w16 [plRow 3 1 encInt1 (.slice aG0 LW0.length cG0) LW0, plBox w13.heap.size #[.slice a1x F.length c1x, .slice a2x T.length c2x] 28, plTab (.slice a2x T.length c2x) vsx T, plRow 3 1 encInt1 (.slice a1x F.length c1x) F, plRow 3 1 encInt1 (.slice aW0 LW0.length cW0) LW0, plBox w.heap.size #[.slice af F.length cf, .slice at_ T.length ct] 25] := S.step hE
  clear hE
  obtain ⟨bmc0, bmf0⟩ : w16.cell? ⟨w.heap.size, 0, none⟩ = some (.slice af F.length cf) ∧ w16.frozen? ⟨w.heap.size, 0, none⟩ = false := bx (S.box 5 rfl) 0 rfl
  obtain ⟨bmc1, bmf1⟩ : w16.cell? ⟨w.heap.size, 1, none⟩ = some (.slice at_ T.length ct) ∧ w16.frozen? ⟨w.heap.size, 1, none⟩ = false := bx (S.box 5 rfl) 1 rfl
  obtain ⟨bxc0, bxf0⟩ : w16.cell? ⟨w13.heap.size, 0, none⟩ = some (.slice a1x F.length c1x) ∧ w16.frozen? ⟨w13.heap.size, 0, none⟩ = false := bx (S.box 1 rfl) 0 rfl
  obtain ⟨bxc1, bxf1⟩ : w16.cell? ⟨w13.heap.size, 1, none⟩ = some (.slice a2x T.length c2x) ∧ w16.frozen? ⟨w13.heap.size, 1, none⟩ = false := bx (S.box 1 rfl) 1 rfl
  go_upto_region 10 with fail
  have hx0 : Rd 1 encInt1 (World.drew w16) a1x F := (S.rd 3 encInt1_len rfl rfl).ext (Ext.refl _).drew
  have hx1 : RdT (World.drew w16) a2x T := (S.rdt 2 rfl).ext (Ext.refl _).drew
  have Ed := S.ext.drew
  refine wp_region_v 5 (V := fun i v wv => match i with
    | 0 => v = .agg #[.slice a1x F.length c1x, .slice a2x T.length c2x]
    | 1 => v = .agg #[.slice af F.length cf, .slice at_ T.length ct]
    | 2 => MemN F T v wv
    | 3 => v = .bool true
    | 4 => v = .bool false
    | _ => True) rfl (by decide) (by kernel_rfl) (by kernel_rfl) (by kernel_rfl) ?_ ?_ ?_
  · intro i v wa wb h hE
    match i with
    | 0 => exact h
    | 1 => exact h
    | 2 => exact MemN.ext h hE
    | 3 => exact h
    | 4 => exact h
    | (n + 5) => trivial
  · intro i o hi ho vs wc hvl hE hd
    have c0 := cell_ext hE (show (World.drew w16).cell? _ = _ from bmc0)
    have c1 := cell_ext hE (show (World.drew w16).cell? _ = _ from bmc1)
    have c2 := cell_ext hE (show (World.drew w16).cell? _ = _ from bxc0)
    have c3 := cell_ext hE (show (World.drew w16).cell? _ = _ from bxc1)
    have hr4 := hx0.ext hE
    have hr5 := hx1.ext hE
    have E7 := Ed.trans hE
    clear bmc0 bmf0 bmc1 bmf1 bxc0 bxf0 bxc1 bxf1
    match vs, hvl with
    | [x0, x1, x2, x3, x4], _ =>
    rcases (show i = 0 ∨ i = 1 ∨ i = 2 ∨ i = 3 ∨ i = 4 by omega) with rfl | rfl | rfl | rfl | rfl
    all_goals
      simp only [List.getElem?_cons_zero, List.getElem?_cons_succ, Option.some.injEq] at ho
      subst ho
      simp [Waits, Region.binds] at hd
    · simp [putAll, Act.put]
      go_wp2
      exact ⟨rfl, _, rfl, rfl, Ext.refl _⟩
    · simp [putAll, Act.put]
      go_wp2
      exact ⟨rfl, _, rfl, rfl, Ext.refl _⟩
    · simp [putAll, Act.put, hd]
      go_wp2_with fail
      refine (toMem_any af cf F at_ ct T wc hlF hlT HLT.out (hrf.ext E7) (hrt.ext E7)).mono ?_
      rintro e wd ⟨a8, c8, a9, c9, vs9, rfl, _, _, U⟩
      have h9 : MemN F T (.agg #[.slice a8 F.length c8, .slice a9 T.length c9]) wd := ⟨_, _, _, _, rfl, U.rd 1 encInt1_len rfl rfl, U.rdt 0 rfl⟩
      have hb := U.ext
      clear U
      go_wp2
      exact ⟨rfl, _, rfl, h9, hb⟩
    · obtain ⟨hd0, a8, c8, a9, c9, hd1, hr8, hr9⟩ := hd
      subst hd0 hd1
      simp [putAll, Act.put]
      go_wp2_with fail
      refine (eqMem_any _ _ _ _ _ _ _ _ F F T T wc hF hF hT hT HLT0.out HLT0.out hr4 hr5 hr8 hr9).mono ?_
      rintro e wd ⟨b8, rfl, hb8, hb⟩
      obtain rfl : b8 = true := hb8.2 ⟨rfl, rfl⟩
      clear hb8
      go_wp2
      exact ⟨rfl, _, rfl, rfl, hb⟩
    · simp [putAll, Act.put, hd]
      go_wp2
      exact ⟨rfl, _, rfl, rfl, Ext.refl _⟩
  intro vs w18 hvl hE hV
  match vs, hvl with
  | [x0, x1, x2, x3, x4], _ =>
  have e4 := hV 4 (by omega)
  clear hV
  simp at e4
  subst e4
  simp only [putAll, Act.put, List.take_succ_cons, List.take_zero, List.drop_succ_cons, List.drop_zero]
  simp
  replace hE := Ext.trans (Ext.refl w16).drew hE
  clear hx0 hx1 Ed
  clear bmc0 bmf0 bmc1 bmf1 bxc0 bxf0 bxc1 bxf1
  replace S : Sep w w18 [plRow 3 1 encInt1 (.slice aG0 LW0.length cG0) LW0, plBox w13.heap.size #[.slice a1x F.length c1x, .slice a2x T.length c2x] 28, plTab (.slice a2x T.length c2x) vsx T, plRow 3 1 encInt1 (.slice a1x F.length c1x) F, plRow 3 1 encInt1 (.slice aW0 LW0.length cW0) LW0, plBox w.heap.size #[.slice af F.length cf, .slice at_ T.length ct] 25] := S.step hE
  clear hE
  obtain ⟨bxc0, bxf0⟩ : w18.cell? ⟨w13.heap.size, 0, none⟩ = some (.slice a1x F.length c1x) ∧ w18.frozen? ⟨w13.heap.size, 0, none⟩ = false := bx (S.box 1 rfl) 0 rfl
  obtain ⟨bxc1, bxf1⟩ : w18.cell? ⟨w13.heap.size, 1, none⟩ = some (.slice a2x T.length c2x) ∧ w18.frozen? ⟨w13.heap.size, 1, none⟩ = false := bx (S.box 1 rfl) 1 rfl
  go_wp2_with fail
  clear bxc0 bxf0 bxc1 bxf1
  refine (markMem_own S 2 3 1 rfl rfl (by decide) hlF hlT hlS (by omega) (by omega)).mono ?_
  rintro e w19 ⟨rfl, SM⟩
  replace S : Sep w w19 [plRow 3 1 encInt1 (.slice aG0 LW0.length cG0) LW0, plBox w13.heap.size #[.slice a1x F.length c1x, .slice a2x T.length c2x] 28, plTab (.slice a2x T.length c2x) vsx (marksT T (1 + (F.length : Int))), plRow 3 1 encInt1 (.slice a1x F.length c1x) (marksInt F.length 1), plRow 3 1 encInt1 (.slice aW0 LW0.length cW0) LW0, plBox w.heap.size #[.slice af F.length cf, .slice at_ T.length ct] 25] := SM
  clear SM
  have kneg : ¬ (1 + (F.length : Int) + (sumL T : Int) < 0) := by omega
  go_wp2_with fail
  refine (eqIntS_any _ _ _ _ LW0 LW0 _ (by omega) (by omega) (S.rd 0 encInt1_len rfl rfl) (S.rd 4 encInt1_len rfl rfl)).mono ?_
  rintro e w20 ⟨q20, rfl, hq, hE⟩
  obtain rfl : q20 = true := hq.2 rfl
  clear hq
  replace S : Sep w w20 [plRow 3 1 encInt1 (.slice aG0 LW0.length cG0) LW0, plBox w13.heap.size #[.slice a1x F.length c1x, .slice a2x T.length c2x] 28, plTab (.slice a2x T.length c2x) vsx (marksT T (1 + (F.length : Int))), plRow 3 1 encInt1 (.slice a1x F.length c1x) (marksInt F.length 1), plRow 3 1 encInt1 (.slice aW0 LW0.length cW0) LW0, plBox w.heap.size #[.slice af F.length cf, .slice at_ T.length ct] 25] := S.step hE
  clear hE
  clear kneg
  go_wp2_with fail
  refine (markIntS_own _ _ _ LW0 _ _ rfl (by omega) (by omega) (by omega) (S.row 0 rfl)).mono ?_
  rintro e w21 ⟨rfl, hq, hg⟩
  replace hq : w21.ownsRow w.heap.size 3 1 (.slice aG0 LW0.length cG0) (marksInt LW0.length 1).length ((marksInt LW0.length 1).flatMap encInt1) := by rw [marksInt_len]; exact hq
  replace S : Sep w w21 [plRow 3 1 encInt1 (.slice aG0 LW0.length cG0) (marksInt LW0.length 1), plBox w13.heap.size #[.slice a1x F.length c1x, .slice a2x T.length c2x] 28, plTab (.slice a2x T.length c2x) vsx (marksT T (1 + (F.length : Int))), plRow 3 1 encInt1 (.slice a1x F.length c1x) (marksInt F.length 1), plRow 3 1 encInt1 (.slice aW0 LW0.length cW0) LW0, plBox w.heap.size #[.slice af F.length cf, .slice at_ T.length ct] 25] := S.grow 0 rfl hg hq (fun b h => .inl h)
  clear hq hg
  go_wp2_with fail
  refine (heldIntS_any _ _ LW0.length 1 _ (by omega) (by omega) (by omega) (S.rd 0 encInt1_len rfl (by rw [marksInt_len]))).mono ?_
  rintro e w22 ⟨rfl, hE⟩
  replace S : Sep w w22 [plRow 3 1 encInt1 (.slice aG0 LW0.length cG0) (marksInt LW0.length 1), plBox w13.heap.size #[.slice a1x F.length c1x, .slice a2x T.length c2x] 28, plTab (.slice a2x T.length c2x) vsx (marksT T (1 + (F.length : Int))), plRow 3 1 encInt1 (.slice a1x F.length c1x) (marksInt F.length 1), plRow 3 1 encInt1 (.slice aW0 LW0.length cW0) LW0, plBox w.heap.size #[.slice af F.length cf, .slice at_ T.length ct] 25] := S.step hE
  clear hE
  obtain ⟨bmc0, bmf0⟩ : w22.cell? ⟨w.heap.size, 0, none⟩ = some (.slice af F.length cf) ∧ w22.frozen? ⟨w.heap.size, 0, none⟩ = false := bx (S.box 5 rfl) 0 rfl
  obtain ⟨bmc1, bmf1⟩ : w22.cell? ⟨w.heap.size, 1, none⟩ = some (.slice at_ T.length ct) ∧ w22.frozen? ⟨w.heap.size, 1, none⟩ = false := bx (S.box 5 rfl) 1 rfl
  go_wp2_with fail
  clear bmc0 bmf0 bmc1 bmf1
  refine (toMem_any af cf F at_ ct T _ hlF hlT HLT.out (hrf.ext S.ext) (hrt.ext S.ext)).mono ?_
  rintro e w23 ⟨a1h, c1h, a2h, c2h, vsh, rfl, hk1h, hk2h, U⟩
  replace S : Sep w w23 [plTab (.slice a2h T.length c2h) vsh T, plRow 3 1 encInt1 (.slice a1h F.length c1h) F, plRow 3 1 encInt1 (.slice aG0 LW0.length cG0) (marksInt LW0.length 1), plBox w13.heap.size #[.slice a1x F.length c1x, .slice a2x T.length c2x] 28, plTab (.slice a2x T.length c2x) vsx (marksT T (1 + (F.length : Int))), plRow 3 1 encInt1 (.slice a1x F.length c1x) (marksInt F.length 1), plRow 3 1 encInt1 (.slice aW0 LW0.length cW0) LW0, plBox w.heap.size #[.slice af F.length cf, .slice at_ T.length ct] 25] := S.call U
  clear U
  go_wp2_with fail
  refine (implFrameUses a1h c1h F a2h c2h T _ (by omega) (by omega) (S.rd 1 encInt1_len rfl rfl) (S.rdt 0 rfl)).mono ?_
  rintro e w24 ⟨uI0, LI0, rfl, hR, U⟩
  obtain rfl : LW0 = LI0 := usesR_fun HR.out hR
  clear hR
  obtain ⟨aI0, cI0, hv2, hkI0, _, _⟩ := view_owns encInt1_len (U.row 0 rfl)
  subst hv2
  replace S : Sep w w24 [plRow 3 1 encInt1 (.slice aI0 LW0.length cI0) LW0, plTab (.slice a2h T.length c2h) vsh T, plRow 3 1 encInt1 (.slice a1h F.length c1h) F, plRow 3 1 encInt1 (.slice aG0 LW0.length cG0) (marksInt LW0.length 1), plBox w13.heap.size #[.slice a1x F.length c1x, .slice a2x T.length c2x] 28, plTab (.slice a2x T.length c2x) vsx (marksT T (1 + (F.length : Int))), plRow 3 1 encInt1 (.slice a1x F.length c1x) (marksInt F.length 1), plRow 3 1 encInt1 (.slice aW0 LW0.length cW0) LW0, plBox w.heap.size #[.slice af F.length cf, .slice at_ T.length ct] 25] := S.call U
  clear U
  replace S : Sep w w24 [plRow 3 1 encInt1 (.slice aI0 LW0.length cI0) LW0, plRow 3 1 encInt1 (.slice a1h F.length c1h) F, plRow 3 1 encInt1 (.slice aG0 LW0.length cG0) (marksInt LW0.length 1), plBox w13.heap.size #[.slice a1x F.length c1x, .slice a2x T.length c2x] 28, plTab (.slice a2x T.length c2x) vsx (marksT T (1 + (F.length : Int))), plRow 3 1 encInt1 (.slice a1x F.length c1x) (marksInt F.length 1), plRow 3 1 encInt1 (.slice aW0 LW0.length cW0) LW0, plBox w.heap.size #[.slice af F.length cf, .slice at_ T.length ct] 25] := S.drop 1
  replace S : Sep w w24 [plRow 3 1 encInt1 (.slice aI0 LW0.length cI0) LW0, plRow 3 1 encInt1 (.slice aG0 LW0.length cG0) (marksInt LW0.length 1), plBox w13.heap.size #[.slice a1x F.length c1x, .slice a2x T.length c2x] 28, plTab (.slice a2x T.length c2x) vsx (marksT T (1 + (F.length : Int))), plRow 3 1 encInt1 (.slice a1x F.length c1x) (marksInt F.length 1), plRow 3 1 encInt1 (.slice aW0 LW0.length cW0) LW0, plBox w.heap.size #[.slice af F.length cf, .slice at_ T.length ct] 25] := S.drop 1
  go_wp2_with fail
  refine (eqIntS_any _ _ _ _ LW0 LW0 _ (by omega) (by omega) (S.rd 0 encInt1_len rfl rfl) (S.rd 5 encInt1_len rfl rfl)).mono ?_
  rintro e w25 ⟨q25, rfl, hq, hE⟩
  obtain rfl : q25 = true := hq.2 rfl
  clear hq
  replace S : Sep w w25 [plRow 3 1 encInt1 (.slice aI0 LW0.length cI0) LW0, plRow 3 1 encInt1 (.slice aG0 LW0.length cG0) (marksInt LW0.length 1), plBox w13.heap.size #[.slice a1x F.length c1x, .slice a2x T.length c2x] 28, plTab (.slice a2x T.length c2x) vsx (marksT T (1 + (F.length : Int))), plRow 3 1 encInt1 (.slice a1x F.length c1x) (marksInt F.length 1), plRow 3 1 encInt1 (.slice aW0 LW0.length cW0) LW0, plBox w.heap.size #[.slice af F.length cf, .slice at_ T.length ct] 25] := S.step hE
  clear hE
  go_wp2_with fail
  refine (heldIntS_any _ _ LW0.length 1 _ (by omega) (by omega) (by omega) (S.rd 1 encInt1_len rfl (by rw [marksInt_len]))).mono ?_
  rintro e w26 ⟨rfl, hE⟩
  replace S : Sep w w26 [plRow 3 1 encInt1 (.slice aI0 LW0.length cI0) LW0, plRow 3 1 encInt1 (.slice aG0 LW0.length cG0) (marksInt LW0.length 1), plBox w13.heap.size #[.slice a1x F.length c1x, .slice a2x T.length c2x] 28, plTab (.slice a2x T.length c2x) vsx (marksT T (1 + (F.length : Int))), plRow 3 1 encInt1 (.slice a1x F.length c1x) (marksInt F.length 1), plRow 3 1 encInt1 (.slice aW0 LW0.length cW0) LW0, plBox w.heap.size #[.slice af F.length cf, .slice at_ T.length ct] 25] := S.step hE
  clear hE
  go_wp2
  go_ret
  exact RetB.mk true rfl (by simp) S.ext
end Go.Proofs.Ytpnllhdgpfbaiaa
