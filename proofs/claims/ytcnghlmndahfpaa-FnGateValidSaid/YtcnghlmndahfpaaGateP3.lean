/- FnGateValid: the walk. Condition: the code is shorter than 2^63. -/
import Derived.Test.YtcnghlmndahfpaaGateP
import Derived.Test.YtcnghlmndahfpaaOrdC
import Derived.Test.YtcnghlmndahfpaaAppB
import Derived.Test.YtcnghlmndahfpaaGuard
namespace Go.Proofs.Ytcnghlmndahfpaa
open Go.RowKit

def VGv (B1 p off cap B : Nat) (f x : Int) (l X : List Int) : Nat → Value → World → Prop := fun i v wv => match i with
  | 0 => v = .pointer (some ⟨B1, 0, none⟩)
  | 1 => v = .int .i64 f
  | 2 => v = .agg #[.int .i64 f, .slice none 0 0]
  | 3 => v = .bool true
  | 4 => v = .bool true
  | 5 => v = .pointer (some ⟨B1, 0, none⟩)
  | 6 => v = .int .i64 f
  | 7 => v = .pointer (some ⟨B1, 1, none⟩)
  | 8 => v = .slice (some ⟨p, off, none⟩) l.length cap
  | 9 => v = .pointer (some ⟨p, off, none⟩)
  | 10 => v = .int .i64 x
  | 11 => wv.ownsRow B 3 1 v 1 ([x].flatMap encInt1)
  | 12 => v = .pointer (some ⟨B1, 1, none⟩)
  | 13 => v = .slice (some ⟨p, off, none⟩) l.length cap
  | 14 => wv.ownsRow B 3 1 v X.length (X.flatMap encInt1)
  | 15 => ∃ u, v = .agg #[.int .i64 f, u] ∧ wv.ownsRow B 3 1 u X.length (X.flatMap encInt1)
  | 16 => v = .bool false
  | 17 => v = .bool true
  | 18 => v = .bool true
  | 19 => v = .bool true
  | _ => True
theorem VGv.ext {B1 p off cap B : Nat} {f x : Int} {l X : List Int} (i : Nat) (v : Value) (w w' : World) (h : VGv B1 p off cap B f x l X i v w) (hE : Ext w w') : VGv B1 p off cap B f x l X i v w' := by
  match i with
  | 11 => exact ownsRow_ext (show w.ownsRow _ _ _ _ _ _ from h) hE
  | 14 => exact ownsRow_ext (show w.ownsRow _ _ _ _ _ _ from h) hE
  | 15 => obtain ⟨u, h1, h2⟩ := h; exact ⟨u, h1, ownsRow_ext h2 hE⟩
  | 0 | 1 | 2 | 3 | 4 | 5 | 6 | 7 | 8 | 9 | 10 | 12 | 13 | 16 | 17 | 18 | 19 => exact h
  | (n + 20) => trivial

theorem gate_twice {f x : Int} {l : List Int} (hx : l[0]? = some x) : ¬ GateOk f (x :: l) := fun h => by
  have h1 := (h.1 1 (by have := (List.getElem?_eq_some_iff.1 hx).1; simp; omega) x (by simpa using hx)).2
  exact h1 (by simp)
theorem gate_alone {f : Int} {l : List Int} (h : GateOk f l) : GateOk f [] := ⟨fun k hk => by simp at hk, h.2.1, by simp, .inr rfl⟩

set_option maxRecDepth 10000 in
set_option maxHeartbeats 8000000 in
theorem fnGateValid_any (ac : Option Addr) (capc : Nat) (code : List Int) (w : World) (hlc : code.length ≤ 9223372036854775807) (hcap : code.length ≤ capc) (hu : ∀ x ∈ code, 0 ≤ x ∧ x ≤ 255) (hcc : Rd 1 encU8 w ac code) :
    Calls Try.prog 4 #[.slice ac code.length capc] w (RetB True w) := by
  go_enter Try.func4, Try.ntmps4
  by_cases hbig : 1048576 < code.length
  · have hb : (1048576 : Int) < (code.length : Int) := by omega
    go_wp2
    go_ret
    exact RetB.mk true rfl (by simp) (Ext.refl _)
  have hb : (code.length : Int) ≤ 1048576 := by omega
  have S := Sep.start w
  go_wp2_with fail
  refine (drawGateValid ac capc code w hlc hcap hu hcc).mono ?_
  rintro e w1 ⟨f, a, l, cap, rfl, hl12, hlcap, T⟩
  replace S : Sep w w1 [plView 1 encInt1 a l] := S.call T
  clear T
  clear hb hbig
  replace S : Sep w (w1.alloc (.cells #[.int .i64 f, .slice a l.length cap] 27)) [plBox w1.heap.size #[.int .i64 f, .slice a l.length cap] 27, plView 1 encInt1 a l] := S.alloc_at (by simp) _ _
  go_wp2_with fail
  generalize (w1.alloc (.cells #[.int .i64 f, .slice a l.length cap] 27)) = w2 at *
  generalize w1.heap.size = B1 at *
  refine (implGateValid f a cap l w2 (by omega) hlcap (S.see 1 rfl)).mono ?_
  rintro e w3 ⟨ok, rfl, hok, hE⟩
  have Hok := Lib.hid hok
  clear hok
  replace S : Sep w w3 [plBox B1 #[.int .i64 f, .slice a l.length cap] 27, plView 1 encInt1 a l] := S.step hE
  clear hE
  obtain ⟨gbc0, gbf0⟩ : w3.cell? ⟨B1, 0, none⟩ = some (.int .i64 f) ∧ w3.frozen? ⟨B1, 0, none⟩ = false := bx (S.box 0 rfl) 0 rfl
  obtain ⟨gbc1, gbf1⟩ : w3.cell? ⟨B1, 1, none⟩ = some (.slice a l.length cap) ∧ w3.frozen? ⟨B1, 1, none⟩ = false := bx (S.box 0 rfl) 1 rfl
  go_wp2_with fail
  refine (specGateValid f a cap l w3 (by omega) (S.see 1 rfl)).mono ?_
  rintro e w9 ⟨ok2, rfl, hok, hE⟩
  obtain rfl : ok = ok2 := Bool.eq_iff_iff.2 (Hok.out.trans hok.symm)
  clear hok
  clear gbc0 gbf0 gbc1 gbf1
  replace S : Sep w w9 [plBox B1 #[.int .i64 f, .slice a l.length cap] 27, plView 1 encInt1 a l] := S.step hE
  clear hE
  have tb : (ok != ok) = false := by simp
  obtain ⟨gbc0, gbf0⟩ : w9.cell? ⟨B1, 0, none⟩ = some (.int .i64 f) ∧ w9.frozen? ⟨B1, 0, none⟩ = false := bx (S.box 0 rfl) 0 rfl
  obtain ⟨gbc1, gbf1⟩ : w9.cell? ⟨B1, 1, none⟩ = some (.slice a l.length cap) ∧ w9.frozen? ⟨B1, 1, none⟩ = false := bx (S.box 0 rfl) 1 rfl
  by_cases hcase : ok = true ∧ l.length ≠ 0
  rotate_left
  · cases ok with
    | false =>
      go_wp2_with fail
      refine (alive_any _).mono ?_
      rintro e w10 ⟨b3, rfl, hb3, hE⟩
      obtain rfl : b3 = true := hb3.2 trivial
      clear hb3
      clear gbc0 gbf0 gbc1 gbf1
      replace S : Sep w w10 [plBox B1 #[.int .i64 f, .slice a l.length cap] 27, plView 1 encInt1 a l] := S.step hE
      clear hE
      go_wp2
      go_ret
      exact RetB.mk true rfl (by simp) S.ext
    | true =>
      have hl0 : l = [] := List.eq_nil_of_length_eq_zero (by simpa using hcase)
      subst hl0
      go_wp2_with fail
      refine (alive_any _).mono ?_
      rintro e w10 ⟨b3, rfl, hb3, hE⟩
      obtain rfl : b3 = true := hb3.2 trivial
      clear hb3
      clear gbc0 gbf0 gbc1 gbf1
      replace S : Sep w w10 [plBox B1 #[.int .i64 f, .slice a ([] : List Int).length cap] 27, plView 1 encInt1 a ([] : List Int)] := S.step hE
      clear hE
      go_wp2
      go_ret
      exact RetB.mk true rfl (by simp) S.ext
  obtain ⟨rfl, hl0⟩ := hcase
  have hO := Hok.out.1 rfl
  have HOK0 := Lib.hid (gate_alone hO)
  have rdl0 := S.see 1 rfl
  obtain ⟨x, p, off, hx, hpe, c0⟩ := atInt (rdl0.ext (Ext.refl w9).drew) (show 0 < l.length by omega)
  subst hpe
  obtain ⟨X, hX⟩ : ∃ X, X = x :: l := ⟨_, rfl⟩
  have HNO : Hid (¬ GateOk f X) := Lib.hid (by rw [hX]; exact gate_twice hx)
  have hX9 : X.length ≤ 9223372036854775807 := by rw [hX]; simp only [List.length_cons]; omega
  have HX := Lib.hid hX
  clear hX
  have rdl := rdl0.ext (Ext.refl w9).drew
  have i0 : (0 : Int) < (l.length : Int) := by omega
  have tl : ((l.length : Int) == 0) = false := by simpa using hl0
  simp only [Nat.add_zero] at c0
  clear hO hx Hok rdl0
  go_upto_region 9 with fail
  have g0 : w9.drew.cell? _ = _ := gbc0
  have g1 : w9.drew.cell? _ = _ := gbc1
  have hS := S.ext
  clear gbc0 gbf0 gbc1 gbf1
  clear S tl tb
  refine wp_region_c (V := VGv B1 p off cap w9.heap.size f x l X) (Ext w9.drew) (fun i => if i = 11 then some 14 else none) [(15, 14)] 20 0 rfl (by decide) (by kernel_rfl) (by kernel_rfl) (by kernel_rfl) (by kernel_rfl) (Ext.refl _) (fun r hr => by omega) ?_ ?_
  · intro i o hi ho vs w4 hvl hE hd _
    have d0 := cell_ext hE g0
    have d1 := cell_ext hE g1
    have d2 := cell_ext hE c0
    match vs, hvl with
    | [y0, y1, y2, y3, y4, y5, y6, y7, y8, y9, y10, y11, y12, y13, y14, y15, y16, y17, y18, y19], _ =>
    rcases (show i = 0 ∨ i = 1 ∨ i = 2 ∨ i = 3 ∨ i = 4 ∨ i = 5 ∨ i = 6 ∨ i = 7 ∨ i = 8 ∨ i = 9 ∨ i = 10 ∨ i = 11 ∨ i = 12 ∨ i = 13 ∨ i = 14 ∨ i = 15 ∨ i = 16 ∨ i = 17 ∨ i = 18 ∨ i = 19 by omega) with rfl | rfl | rfl | rfl | rfl | rfl | rfl | rfl | rfl | rfl | rfl | rfl | rfl | rfl | rfl | rfl | rfl | rfl | rfl | rfl
    all_goals
      simp only [List.getElem?_cons_zero, List.getElem?_cons_succ, Option.some.injEq] at ho
      subst ho
    · clear hd
      simp [putAll, Act.put]
      go_wp2
      exact OneC.mk (V := VGv B1 p off cap w9.heap.size f x l X) VGv.ext rfl rfl hE (Ext.refl _)
    · have q0 : y0 = .pointer (some ⟨B1, 0, none⟩) := hd ⟨0, .data⟩ (by simp) rfl (by decide)
      clear hd
      subst q0
      simp [putAll, Act.put]
      go_wp2
      exact OneC.mk (V := VGv B1 p off cap w9.heap.size f x l X) VGv.ext rfl rfl hE (Ext.refl _)
    · have q1 : y1 = .int .i64 f := hd ⟨1, .data⟩ (by simp) rfl (by decide)
      clear hd
      subst q1
      simp [putAll, Act.put]
      go_wp2
      exact OneC.mk (V := VGv B1 p off cap w9.heap.size f x l X) VGv.ext rfl rfl hE (Ext.refl _)
    · have q2 : y2 = .agg #[.int .i64 f, .slice none 0 0] := hd ⟨2, .data⟩ (by simp) rfl (by decide)
      clear hd
      subst q2
      simp [putAll, Act.put]
      go_wp2_with fail
      refine (implGateValid f none 0 [] w4 (by simp) (by simp) Rd.nil).mono ?_
      rintro e w5 ⟨b5, rfl, hb5, hE5⟩
      obtain rfl : b5 = true := hb5.2 HOK0.out
      clear hb5
      go_wp2
      exact OneC.mk (V := VGv B1 p off cap w9.heap.size f x l X) VGv.ext rfl rfl (hE.trans hE5) hE5
    · have q3 : y3 = .bool true := hd ⟨3, .data⟩ (by simp) rfl (by decide)
      clear hd
      subst q3
      simp [putAll, Act.put]
      go_wp2
      exact OneC.mk (V := VGv B1 p off cap w9.heap.size f x l X) VGv.ext rfl rfl hE (Ext.refl _)
    · have q4 : y4 = .bool true := hd ⟨4, .guard⟩ (by simp) rfl (by decide)
      clear hd
      subst q4
      simp [putAll, Act.put]
      go_wp2
      exact OneC.mk (V := VGv B1 p off cap w9.heap.size f x l X) VGv.ext rfl rfl hE (Ext.refl _)
    · have q4 : y4 = .bool true := hd ⟨4, .guard⟩ (by simp) rfl (by decide)
      have q5 : y5 = .pointer (some ⟨B1, 0, none⟩) := hd ⟨5, .data⟩ (by simp) rfl (by decide)
      clear hd
      subst q4
      subst q5
      simp [putAll, Act.put]
      go_wp2
      exact OneC.mk (V := VGv B1 p off cap w9.heap.size f x l X) VGv.ext rfl rfl hE (Ext.refl _)
    · have q4 : y4 = .bool true := hd ⟨4, .guard⟩ (by simp) rfl (by decide)
      clear hd
      subst q4
      simp [putAll, Act.put]
      go_wp2
      exact OneC.mk (V := VGv B1 p off cap w9.heap.size f x l X) VGv.ext rfl rfl hE (Ext.refl _)
    · have q4 : y4 = .bool true := hd ⟨4, .guard⟩ (by simp) rfl (by decide)
      have q7 : y7 = .pointer (some ⟨B1, 1, none⟩) := hd ⟨7, .data⟩ (by simp) rfl (by decide)
      clear hd
      subst q4
      subst q7
      simp [putAll, Act.put]
      go_wp2
      exact OneC.mk (V := VGv B1 p off cap w9.heap.size f x l X) VGv.ext rfl rfl hE (Ext.refl _)
    · have q4 : y4 = .bool true := hd ⟨4, .guard⟩ (by simp) rfl (by decide)
      have q8 : y8 = .slice (some ⟨p, off, none⟩) l.length cap := hd ⟨8, .data⟩ (by simp) rfl (by decide)
      clear hd
      subst q4
      subst q8
      simp [putAll, Act.put]
      go_wp2
      exact OneC.mk (V := VGv B1 p off cap w9.heap.size f x l X) VGv.ext rfl rfl hE (Ext.refl _)
    · have q4 : y4 = .bool true := hd ⟨4, .guard⟩ (by simp) rfl (by decide)
      have q9 : y9 = .pointer (some ⟨p, off, none⟩) := hd ⟨9, .data⟩ (by simp) rfl (by decide)
      clear hd
      subst q4
      subst q9
      simp [putAll, Act.put]
      go_wp2
      exact OneC.mk (V := VGv B1 p off cap w9.heap.size f x l X) VGv.ext rfl rfl hE (Ext.refl _)
    · have q4 : y4 = .bool true := hd ⟨4, .guard⟩ (by simp) rfl (by decide)
      have q10 : y10 = .int .i64 x := hd ⟨10, .data⟩ (by simp) rfl (by decide)
      clear hd
      subst q4 q10
      have hsz := hE.size
      have hrow : (w4.alloc (.cells #[.int .i64 x] 3)).ownsRow w9.heap.size 3 1 (.slice (some ⟨w4.heap.size, 0, none⟩) 1 1) 1 ([x].flatMap encInt1) := owns_lit_new [x] encInt1_len rfl rfl (by omega) hsz
      simp [putAll, Act.put]
      go_wp2
      exact OneC.mk (V := VGv B1 p off cap w9.heap.size f x l X) VGv.ext rfl hrow (hE.alloc _) ((Ext.refl _).alloc _)
    · have q4 : y4 = .bool true := hd ⟨4, .guard⟩ (by simp) rfl (by decide)
      clear hd
      subst q4
      simp [putAll, Act.put]
      go_wp2
      exact OneC.mk (V := VGv B1 p off cap w9.heap.size f x l X) VGv.ext rfl rfl hE (Ext.refl _)
    · have q4 : y4 = .bool true := hd ⟨4, .guard⟩ (by simp) rfl (by decide)
      have q12 : y12 = .pointer (some ⟨B1, 1, none⟩) := hd ⟨12, .data⟩ (by simp) rfl (by decide)
      clear hd
      subst q4
      subst q12
      simp [putAll, Act.put]
      go_wp2
      exact OneC.mk (V := VGv B1 p off cap w9.heap.size f x l X) VGv.ext rfl rfl hE (Ext.refl _)
    · have q4 : y4 = .bool true := hd ⟨4, .guard⟩ (by simp) rfl (by decide)
      have q11 : w4.ownsRow w9.heap.size 3 1 y11 1 ([x].flatMap encInt1) := hd ⟨11, .data⟩ (by simp) rfl (by decide)
      have q13 : y13 = .slice (some ⟨p, off, none⟩) l.length cap := hd ⟨13, .data⟩ (by simp) rfl (by decide)
      clear hd
      subst q4 q13
      have hrd4 := rdl.ext hE
      have hsz := hE.size
      simp [putAll, Act.put]
      refine wpList_unguard rfl ?_
      refine wpList_append_b rfl _ _ 22 rfl w9.heap.size 3 _ 1 _ Try.underlying22 infoInt rfl (by decide) encInt1_len encInt1_one _ 1 [x] rfl q11 rfl (some ⟨p, off, none⟩) l.length cap l rfl rfl hrd4 (by omega) (by omega) hsz ?_
      intro v5 w5 ho5 hgr5 _
      have hI5 : Ext w9.drew w5 := hE.grown hgr5 (fun b hb => (World.ownsRow.lt q11 b hb).1)
      have ho6 : w5.ownsRow w9.heap.size 3 1 v5 X.length (X.flatMap encInt1) := by rw [HX.out]; exact ho5
      clear q11 hgr5 ho5
      go_wp2
      refine ⟨rfl, _, rfl, ho6, hI5, fun i u hi hne hcon hnd hnc hv => ?_⟩
      match i with
      | 11 => exact absurd rfl hcon
      | 14 => exact absurd rfl hne
      | 15 => exact absurd (by simp) hnd
      | 0 | 1 | 2 | 3 | 4 | 5 | 6 | 7 | 8 | 9 | 10 | 12 | 13 | 16 | 17 | 18 | 19 => exact hv
      | (n + 20) => trivial
    · have q4 : y4 = .bool true := hd ⟨4, .guard⟩ (by simp) rfl (by decide)
      have q6 : y6 = .int .i64 f := hd ⟨6, .data⟩ (by simp) rfl (by decide)
      have q14 : w4.ownsRow w9.heap.size 3 1 y14 X.length (X.flatMap encInt1) := hd ⟨14, .data⟩ (by simp) rfl (by decide)
      clear hd
      subst q4 q6
      simp [putAll, Act.put]
      obtain ⟨a8, c8, hv8, _, _, _⟩ := view_owns encInt1_len q14
      subst hv8
      have hV : VGv B1 p off cap w9.heap.size f x l X 15 (.agg #[.int .i64 f, .slice a8 X.length c8]) w4 := ⟨_, rfl, q14⟩
      clear q14
      go_wp2
      exact OneC.mk (V := VGv B1 p off cap w9.heap.size f x l X) VGv.ext rfl hV hE (Ext.refl _)
    · have q4 : y4 = .bool true := hd ⟨4, .guard⟩ (by simp) rfl (by decide)
      have q15e : ∃ u, y15 = .agg #[.int .i64 f, u] ∧ w4.ownsRow w9.heap.size 3 1 u X.length (X.flatMap encInt1) := hd ⟨15, .data⟩ (by simp) rfl (by decide)
      clear hd
      subst q4
      simp [putAll, Act.put]
      obtain ⟨u, rfl, q15⟩ := q15e
      obtain ⟨a5, c5, rfl, hk5, hr5, _⟩ := view_owns encInt1_len q15
      clear q15
      go_wp2_with fail
      refine (implGateValid f a5 c5 X w4 hX9 hk5 hr5).mono ?_
      rintro e w5 ⟨b5, rfl, hb5, hE5⟩
      obtain rfl : b5 = false := by
        cases b5 with
        | false => rfl
        | true => exact absurd (hb5.1 rfl) HNO.out
      clear hb5
      go_wp2
      exact OneC.mk (V := VGv B1 p off cap w9.heap.size f x l X) VGv.ext rfl rfl (hE.trans hE5) hE5
    · have q4 : y4 = .bool true := hd ⟨4, .guard⟩ (by simp) rfl (by decide)
      have q16 : y16 = .bool false := hd ⟨16, .data⟩ (by simp) rfl (by decide)
      clear hd
      subst q4
      subst q16
      simp [putAll, Act.put]
      go_wp2
      exact OneC.mk (V := VGv B1 p off cap w9.heap.size f x l X) VGv.ext rfl rfl hE (Ext.refl _)
    · have q4 : y4 = .bool true := hd ⟨4, .data⟩ (by simp) rfl (by decide)
      have q17 : y17 = .bool true := hd ⟨17, .data⟩ (by simp) rfl (by decide)
      clear hd
      subst q4 q17
      simp [putAll, Act.put]
      go_wp2
      exact OneC.mk (V := VGv B1 p off cap w9.heap.size f x l X) VGv.ext rfl rfl hE (Ext.refl _)
    · have q18 : y18 = .bool true := hd ⟨18, .data⟩ (by simp) rfl (by decide)
      clear hd
      subst q18
      simp [putAll, Act.put]
      go_wp2
      exact OneC.mk (V := VGv B1 p off cap w9.heap.size f x l X) VGv.ext rfl rfl hE (Ext.refl _)
  intro vs w10 hvl hE hV _
  match vs, hvl with
  | [y0, y1, y2, y3, y4, y5, y6, y7, y8, y9, y10, y11, y12, y13, y14, y15, y16, y17, y18, y19], _ =>
  have e19 : y19 = .bool true := hV 19 (by omega) rfl
  clear hV
  subst e19
  simp only [putAll, Act.put, List.take_succ_cons, List.take_zero, List.drop_succ_cons, List.drop_zero]
  simp
  have hS2 := hS.trans (Ext.trans (Ext.refl w9).drew hE)
  go_wp2
  go_ret
  exact RetB.mk true rfl (by simp) hS2
end Go.Proofs.Ytcnghlmndahfpaa
