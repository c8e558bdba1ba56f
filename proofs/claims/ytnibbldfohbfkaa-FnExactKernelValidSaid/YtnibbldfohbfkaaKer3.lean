/- FnExactKernelValid: the walk. No condition but that rows are shorter than 2^63. -/
import Derived.Test.YtnibbldfohbfkaaKerV
namespace Go.Proofs.Ytnibbldfohbfkaa
open Go.RowKit

theorem sepB {f : FuncId} {args : Array Value} {w : World} {Q : Prop} (h : Calls Try.prog f args w (RetB Q w)) : Calls Try.prog f args w fun e w' => ∃ b, e = .returned (.bool b) ∧ (b = true ↔ Q) ∧ Sep w w' [] :=
  h.mono (fun e w' ⟨b, he, hb, hE⟩ => ⟨b, he, hb, Sep.of_ext hE⟩)
theorem iff_fun {P : Prop} {a b : Bool} (h : a = true ↔ P) (k : b = true ↔ P) : a = b := Bool.eq_iff_iff.2 (h.trans k.symm)
/-- A copy of a kernel, to be read. -/
def KerN (T : List Nd) (r a s g : Int) (v : Value) (w : World) : Prop := ∃ a1 c1, v = .agg #[.slice a1 T.length c1, .int .i64 r, .int .i64 a, .int .i64 s, .int .i64 g] ∧ RdN w a1 T
theorem KerN.ext {T : List Nd} {r a s g : Int} {v : Value} {w w' : World} (h : KerN T r a s g v w) (hE : Ext w w') : KerN T r a s g v w' := by
  obtain ⟨a1, c1, h1, h2⟩ := h
  exact ⟨a1, c1, h1, h2.ext hE⟩

set_option maxRecDepth 10000 in
set_option maxHeartbeats 8000000 in
theorem exactKernelValid_any (at_ : Option Addr) (ct : Nat) (T : List Nd) (r a s g : Int) (w : World) (hT : T.length ≤ 9223372036854775807) (hlt : ∀ t ∈ T, SmN 9223372036854775807 t) (hrt : RdN w at_ T) :
    Calls Try.prog 3 #[.agg #[.slice at_ T.length ct, .int .i64 r, .int .i64 a, .int .i64 s, .int .i64 g]] w (RetB True w) := by
  have HLT0 := Lib.hid hlt
  clear hlt
  go_enter Try.func3, Try.ntmps3
  have S := Sep.start w
  replace S : Sep w (w.alloc (.cells #[.slice at_ T.length ct, .int .i64 r, .int .i64 a, .int .i64 s, .int .i64 g] 26)) [plBox w.heap.size #[.slice at_ T.length ct, .int .i64 r, .int .i64 a, .int .i64 s, .int .i64 g] 26] := S.alloc_at (by simp) _ _
  go_wp2_with fail
  generalize (w.alloc (.cells #[.slice at_ T.length ct, .int .i64 r, .int .i64 a, .int .i64 s, .int .i64 g] 26)) = w1 at *
  refine (szKer_any at_ ct T r a s g _ _ (by omega) (by omega) hT HLT0.out (hrt.ext S.ext)).mono ?_
  rintro e w2 ⟨r2, rfl, hra2, hrb2, hrc2, hE⟩
  have Hrc := Lib.hid hrc2
  clear hrc2
  replace S : Sep w w2 [plBox w.heap.size #[.slice at_ T.length ct, .int .i64 r, .int .i64 a, .int .i64 s, .int .i64 g] 26] := S.step hE
  clear hE
  by_cases hneg : r2 < 0
  · go_wp2
    go_ret
    exact RetB.mk true rfl (by simp) S.ext
  have hlT : T.length ≤ 1048576 := (Hrc.out (by omega)).1
  have HLT : Hid (∀ t ∈ T, SmN 1048576 t) := Lib.hid (Hrc.out (by omega)).2
  clear Hrc
  obtain ⟨bmc0, bmf0⟩ : w2.cell? ⟨w.heap.size, 0, none⟩ = some (.slice at_ T.length ct) ∧ w2.frozen? ⟨w.heap.size, 0, none⟩ = false := bx (S.box 0 rfl) 0 rfl
  obtain ⟨bmc1, bmf1⟩ : w2.cell? ⟨w.heap.size, 1, none⟩ = some (.int .i64 r) ∧ w2.frozen? ⟨w.heap.size, 1, none⟩ = false := bx (S.box 0 rfl) 1 rfl
  obtain ⟨bmc2, bmf2⟩ : w2.cell? ⟨w.heap.size, 2, none⟩ = some (.int .i64 a) ∧ w2.frozen? ⟨w.heap.size, 2, none⟩ = false := bx (S.box 0 rfl) 2 rfl
  obtain ⟨bmc3, bmf3⟩ : w2.cell? ⟨w.heap.size, 3, none⟩ = some (.int .i64 s) ∧ w2.frozen? ⟨w.heap.size, 3, none⟩ = false := bx (S.box 0 rfl) 3 rfl
  obtain ⟨bmc4, bmf4⟩ : w2.cell? ⟨w.heap.size, 4, none⟩ = some (.int .i64 g) ∧ w2.frozen? ⟨w.heap.size, 4, none⟩ = false := bx (S.box 0 rfl) 4 rfl
  go_wp2_with fail
  clear bmc0 bmf0 bmc1 bmf1 bmc2 bmf2 bmc3 bmf3 bmc4 bmf4
  refine (toKer_any at_ ct T r a s g _ hlT HLT.out (hrt.ext S.ext)).mono ?_
  rintro e w11 ⟨a1s, c1s, vss, rfl, hk1s, U⟩
  replace S : Sep w w11 [plNd (.slice a1s T.length c1s) vss T, plBox w.heap.size #[.slice at_ T.length ct, .int .i64 r, .int .i64 a, .int .i64 s, .int .i64 g] 26] := S.call U
  clear U
  go_wp2_with fail
  refine (sepB (specKernelValid a1s c1s T r a s g _ hlT HLT.out (S.rdN 0 rfl))).mono ?_
  rintro e w12 ⟨yW0, rfl, hR, U⟩
  have HR := Lib.hid hR
  clear hR
  replace S : Sep w w12 [plNd (.slice a1s T.length c1s) vss T, plBox w.heap.size #[.slice at_ T.length ct, .int .i64 r, .int .i64 a, .int .i64 s, .int .i64 g] 26] := S.call U
  clear U
  replace S : Sep w w12 [plBox w.heap.size #[.slice at_ T.length ct, .int .i64 r, .int .i64 a, .int .i64 s, .int .i64 g] 26] := S.drop 0
  obtain ⟨bmc0, bmf0⟩ : w12.cell? ⟨w.heap.size, 0, none⟩ = some (.slice at_ T.length ct) ∧ w12.frozen? ⟨w.heap.size, 0, none⟩ = false := bx (S.box 0 rfl) 0 rfl
  obtain ⟨bmc1, bmf1⟩ : w12.cell? ⟨w.heap.size, 1, none⟩ = some (.int .i64 r) ∧ w12.frozen? ⟨w.heap.size, 1, none⟩ = false := bx (S.box 0 rfl) 1 rfl
  obtain ⟨bmc2, bmf2⟩ : w12.cell? ⟨w.heap.size, 2, none⟩ = some (.int .i64 a) ∧ w12.frozen? ⟨w.heap.size, 2, none⟩ = false := bx (S.box 0 rfl) 2 rfl
  obtain ⟨bmc3, bmf3⟩ : w12.cell? ⟨w.heap.size, 3, none⟩ = some (.int .i64 s) ∧ w12.frozen? ⟨w.heap.size, 3, none⟩ = false := bx (S.box 0 rfl) 3 rfl
  obtain ⟨bmc4, bmf4⟩ : w12.cell? ⟨w.heap.size, 4, none⟩ = some (.int .i64 g) ∧ w12.frozen? ⟨w.heap.size, 4, none⟩ = false := bx (S.box 0 rfl) 4 rfl
  go_wp2_with fail
  clear bmc0 bmf0 bmc1 bmf1 bmc2 bmf2 bmc3 bmf3 bmc4 bmf4
  refine (toKer_any at_ ct T r a s g _ hlT HLT.out (hrt.ext S.ext)).mono ?_
  rintro e w13 ⟨a1x, c1x, vsx, rfl, hk1x, U⟩
  replace S : Sep w w13 [plNd (.slice a1x T.length c1x) vsx T, plBox w.heap.size #[.slice at_ T.length ct, .int .i64 r, .int .i64 a, .int .i64 s, .int .i64 g] 26] := S.call U
  clear U
  replace S : Sep w (w13.alloc (.cells #[.slice a1x T.length c1x, .int .i64 r, .int .i64 a, .int .i64 s, .int .i64 g] 32)) [plBox w13.heap.size #[.slice a1x T.length c1x, .int .i64 r, .int .i64 a, .int .i64 s, .int .i64 g] 32, plNd (.slice a1x T.length c1x) vsx T, plBox w.heap.size #[.slice at_ T.length ct, .int .i64 r, .int .i64 a, .int .i64 s, .int .i64 g] 26] := S.alloc_at (by simp) _ _
  go_wp2_with fail
  generalize (w13.alloc (.cells #[.slice a1x T.length c1x, .int .i64 r, .int .i64 a, .int .i64 s, .int .i64 g] 32)) = w14 at *
  refine (sepB (implKernelValid a1x c1x T r a s g _ hlT HLT.out (S.rdN 1 rfl))).mono ?_
  rintro e w15 ⟨yG0, rfl, hR, U⟩
  obtain rfl : yW0 = yG0 := iff_fun HR.out hR
  clear hR
  replace S : Sep w w15 [plBox w13.heap.size #[.slice a1x T.length c1x, .int .i64 r, .int .i64 a, .int .i64 s, .int .i64 g] 32, plNd (.slice a1x T.length c1x) vsx T, plBox w.heap.size #[.slice at_ T.length ct, .int .i64 r, .int .i64 a, .int .i64 s, .int .i64 g] 26] := S.call U
  clear U
  have e0 : (yW0 != yW0) = false := by simp
  obtain ⟨bmc0, bmf0⟩ : w15.cell? ⟨w.heap.size, 0, none⟩ = some (.slice at_ T.length ct) ∧ w15.frozen? ⟨w.heap.size, 0, none⟩ = false := bx (S.box 2 rfl) 0 rfl
  obtain ⟨bmc1, bmf1⟩ : w15.cell? ⟨w.heap.size, 1, none⟩ = some (.int .i64 r) ∧ w15.frozen? ⟨w.heap.size, 1, none⟩ = false := bx (S.box 2 rfl) 1 rfl
  obtain ⟨bmc2, bmf2⟩ : w15.cell? ⟨w.heap.size, 2, none⟩ = some (.int .i64 a) ∧ w15.frozen? ⟨w.heap.size, 2, none⟩ = false := bx (S.box 2 rfl) 2 rfl
  obtain ⟨bmc3, bmf3⟩ : w15.cell? ⟨w.heap.size, 3, none⟩ = some (.int .i64 s) ∧ w15.frozen? ⟨w.heap.size, 3, none⟩ = false := bx (S.box 2 rfl) 3 rfl
  obtain ⟨bmc4, bmf4⟩ : w15.cell? ⟨w.heap.size, 4, none⟩ = some (.int .i64 g) ∧ w15.frozen? ⟨w.heap.size, 4, none⟩ = false := bx (S.box 2 rfl) 4 rfl
  obtain ⟨bxc0, bxf0⟩ : w15.cell? ⟨w13.heap.size, 0, none⟩ = some (.slice a1x T.length c1x) ∧ w15.frozen? ⟨w13.heap.size, 0, none⟩ = false := bx (S.box 0 rfl) 0 rfl
  obtain ⟨bxc1, bxf1⟩ : w15.cell? ⟨w13.heap.size, 1, none⟩ = some (.int .i64 r) ∧ w15.frozen? ⟨w13.heap.size, 1, none⟩ = false := bx (S.box 0 rfl) 1 rfl
  obtain ⟨bxc2, bxf2⟩ : w15.cell? ⟨w13.heap.size, 2, none⟩ = some (.int .i64 a) ∧ w15.frozen? ⟨w13.heap.size, 2, none⟩ = false := bx (S.box 0 rfl) 2 rfl
  obtain ⟨bxc3, bxf3⟩ : w15.cell? ⟨w13.heap.size, 3, none⟩ = some (.int .i64 s) ∧ w15.frozen? ⟨w13.heap.size, 3, none⟩ = false := bx (S.box 0 rfl) 3 rfl
  obtain ⟨bxc4, bxf4⟩ : w15.cell? ⟨w13.heap.size, 4, none⟩ = some (.int .i64 g) ∧ w15.frozen? ⟨w13.heap.size, 4, none⟩ = false := bx (S.box 0 rfl) 4 rfl
  go_upto_region 10 with fail
  have hx1 : RdN (World.drew w15) a1x T := (S.rdN 1 rfl).ext (Ext.refl _).drew
  have Ed := S.ext.drew
  refine wp_region_v 5 (V := fun i v wv => match i with
    | 0 => v = .agg #[.slice a1x T.length c1x, .int .i64 r, .int .i64 a, .int .i64 s, .int .i64 g]
    | 1 => v = .agg #[.slice at_ T.length ct, .int .i64 r, .int .i64 a, .int .i64 s, .int .i64 g]
    | 2 => KerN T r a s g v wv
    | 3 => v = .bool true
    | 4 => v = .bool false
    | _ => True) rfl (by decide) (by kernel_rfl) (by kernel_rfl) (by kernel_rfl) ?_ ?_ ?_
  · intro i v wa wb h hE
    match i with
    | 0 => exact h
    | 1 => exact h
    | 2 => exact KerN.ext h hE
    | 3 => exact h
    | 4 => exact h
    | (n + 5) => trivial
  · intro i o hi ho vs wc hvl hE hd
    have c0 := cell_ext hE (show (World.drew w15).cell? _ = _ from bmc0)
    have c1 := cell_ext hE (show (World.drew w15).cell? _ = _ from bmc1)
    have c2 := cell_ext hE (show (World.drew w15).cell? _ = _ from bmc2)
    have c3 := cell_ext hE (show (World.drew w15).cell? _ = _ from bmc3)
    have c4 := cell_ext hE (show (World.drew w15).cell? _ = _ from bmc4)
    have d0 := cell_ext hE (show (World.drew w15).cell? _ = _ from bxc0)
    have d1 := cell_ext hE (show (World.drew w15).cell? _ = _ from bxc1)
    have d2 := cell_ext hE (show (World.drew w15).cell? _ = _ from bxc2)
    have d3 := cell_ext hE (show (World.drew w15).cell? _ = _ from bxc3)
    have d4 := cell_ext hE (show (World.drew w15).cell? _ = _ from bxc4)
    have hr5 := hx1.ext hE
    have E7 := Ed.trans hE
    clear bmc0 bmf0 bmc1 bmf1 bmc2 bmf2 bmc3 bmf3 bmc4 bmf4 bxc0 bxf0 bxc1 bxf1 bxc2 bxf2 bxc3 bxf3 bxc4 bxf4
    match vs, hvl with
    | [x0, x1, x2, x3, x4], _ =>
    rcases (show i = 0 ∨ i = 1 ∨ i = 2 ∨ i = 3 ∨ i = 4 by omega) with rfl | rfl | rfl | rfl | rfl
    all_goals
      simp only [List.getElem?_cons_zero, List.getElem?_cons_succ, Option.some.injEq] at ho
      subst ho
      simp [Waits, Region.binds] at hd
    · simp [putAll, Act.put]
      go_wp2
      exact ⟨rfl, _, rfl, rfl, Ext.refl _⟩
    · simp [putAll, Act.put]
      go_wp2
      exact ⟨rfl, _, rfl, rfl, Ext.refl _⟩
    · simp [putAll, Act.put, hd]
      go_wp2_with fail
      refine (toKer_any at_ ct T r a s g wc hlT HLT.out (hrt.ext E7)).mono ?_
      rintro e wd ⟨a8, c8, vs9, rfl, _, U⟩
      have h9 : KerN T r a s g (.agg #[.slice a8 T.length c8, .int .i64 r, .int .i64 a, .int .i64 s, .int .i64 g]) wd := ⟨_, _, rfl, U.rdN 0 rfl⟩
      have hb := U.ext
      clear U
      go_wp2
      exact ⟨rfl, _, rfl, h9, hb⟩
    · obtain ⟨hd0, a8, c8, hd1, hr8⟩ := hd
      subst hd0 hd1
      simp [putAll, Act.put]
      go_wp2_with fail
      refine (eqKer_any _ _ _ _ T T r a s g r a s g wc hT hT HLT0.out HLT0.out hr5 hr8).mono ?_
      rintro e wd ⟨b8, rfl, hb8, hb⟩
      obtain rfl : b8 = true := hb8.2 ⟨rfl, rfl, rfl, rfl, rfl⟩
      clear hb8
      go_wp2
      exact ⟨rfl, _, rfl, rfl, hb⟩
    · simp [putAll, Act.put, hd]
      go_wp2
      exact ⟨rfl, _, rfl, rfl, Ext.refl _⟩
  intro vs w18 hvl hE hV
  match vs, hvl with
  | [x0, x1, x2, x3, x4], _ =>
  have e4 := hV 4 (by omega)
  clear hV
  simp at e4
  subst e4
  simp only [putAll, Act.put, List.take_succ_cons, List.take_zero, List.drop_succ_cons, List.drop_zero]
  simp
  replace hE := Ext.trans (Ext.refl w15).drew hE
  clear hx1 Ed
  clear bmc0 bmf0 bmc1 bmf1 bmc2 bmf2 bmc3 bmf3 bmc4 bmf4 bxc0 bxf0 bxc1 bxf1 bxc2 bxf2 bxc3 bxf3 bxc4 bxf4
  replace S : Sep w w18 [plBox w13.heap.size #[.slice a1x T.length c1x, .int .i64 r, .int .i64 a, .int .i64 s, .int .i64 g] 32, plNd (.slice a1x T.length c1x) vsx T, plBox w.heap.size #[.slice at_ T.length ct, .int .i64 r, .int .i64 a, .int .i64 s, .int .i64 g] 26] := S.step hE
  clear hE
  go_wp2
  go_ret
  exact RetB.mk true rfl (by simp) S.ext
end Go.Proofs.Ytnibbldfohbfkaa
