/- The draw of FnSetSetting. No condition but small sizes. -/
import Derived.Test.YtekmfphlccomaaaDrawSet
import Derived.Test.YtekmfphlccomaaaBT
import Derived.Test.YtekmfphlccomaaaSep
import Derived.Deep.Cut
namespace Go.Proofs.Ytekmfphlccomaaa
open Go.RowKit

set_option maxHeartbeats 4000000 in
theorem drawSetSetting (a : Option Addr) (cap : Nat) (l : List Int) (w : World) (hl : l.length ≤ 9223372036854775807) (hcap : l.length ≤ cap) (hu : ∀ x ∈ l, 0 ≤ x ∧ x ≤ 255) (hc : Rd 1 encU8 w a l) :
    Calls Try.prog 17 #[.slice a l.length cap] w (fun e w' => ∃ u L s t, e = .returned (.tuple #[u, .string s, .string t]) ∧ L.length ≤ 10 ∧ FitsS L ∧ s.size ≤ 40 ∧ t.size ≤ 40 ∧ Sep w w' [plRow 33 2 encSet u L]) := by
  go_enter Try.func17, Try.ntmps17
  go_wp2_with fail
  refine (open_any a cap l w hl hcap hu hc).mono ?_
  rintro e w1 ⟨v, rfl, ⟨rfl, hs⟩, E⟩
  have hg0 := hs.lt
  go_wp2_with fail
  refine (drawSettings _ _ _ _ hs (by omega) (by omega)).mono ?_
  rintro e w2 ⟨vL, rfl, ⟨L, h1, h17, h3⟩, hs2, hS⟩
  go_upto_region 3 with fail
  have hgb : w.heap.size < w2.heap.size := hs2.lt
  refine wp_region_s (Step (w.heap.size)) (fun k wv => Src (w.heap.size) (200 + (k : Int)) wv) 20 (V := fun i v wv => match i with
    | 0 => v = vL
    | 1 => LitC (w2.heap.size) 4 [CT.str 40] v wv
    | 2 => LitC (w2.heap.size) 7 [CT.int 0 3] v wv
    | 3 => v = .pointer (some ⟨w.heap.size, 0, none⟩)
    | 4 => (CT.int 0 6).has v
    | 5 => PtrC (w2.heap.size) [CT.int 0 3] v wv
    | 6 => (CT.int 0 3).has v
    | 7 => PtrC (w2.heap.size) [CT.str 40] v wv
    | 8 => (CT.str 40).has v
    | 9 => LitC (w2.heap.size) 5 [CT.str 40] v wv
    | 10 => LitC (w2.heap.size) 8 [CT.int 0 4] v wv
    | 11 => v = .pointer (some ⟨w.heap.size, 0, none⟩)
    | 12 => (CT.int 0 7).has v
    | 13 => PtrC (w2.heap.size) [CT.int 0 4] v wv
    | 14 => (CT.int 0 4).has v
    | 15 => PtrC (w2.heap.size) [CT.str 40] v wv
    | 16 => (CT.str 40).has v
    | 17 => v = vL
    | 18 => (CT.str 40).has v
    | 19 => (CT.str 40).has v
    | _ => True) rfl (by decide) (by kernel_rfl) (by kernel_rfl) (by kernel_rfl) (Step.refl _ _) (fun _ _ _ h k => h.trans k) ((hs2.mono (by omega)).ext (Ext.refl _).drew) ?_ ?_ ?_
  · intro i v w2 w3 h hE
    match i with
    | 0 => exact h
    | 1 => exact h.chg (Chg.of_step hE) (fun b e => e ▸ hgb)
    | 2 => exact h.chg (Chg.of_step hE) (fun b e => e ▸ hgb)
    | 3 => exact h
    | 4 => exact h
    | 5 => exact h.chg (Chg.of_step hE) (fun b e => e ▸ hgb)
    | 6 => exact h
    | 7 => exact h.chg (Chg.of_step hE) (fun b e => e ▸ hgb)
    | 8 => exact h
    | 9 => exact h.chg (Chg.of_step hE) (fun b e => e ▸ hgb)
    | 10 => exact h.chg (Chg.of_step hE) (fun b e => e ▸ hgb)
    | 11 => exact h
    | 12 => exact h
    | 13 => exact h.chg (Chg.of_step hE) (fun b e => e ▸ hgb)
    | 14 => exact h
    | 15 => exact h.chg (Chg.of_step hE) (fun b e => e ▸ hgb)
    | 16 => exact h
    | 17 => exact h
    | 18 => exact h
    | 19 => exact h
    | (n + 20) => trivial
  · intro i o hi ho k hk vs w4 hvl hE hsk hd
    have hsk1 : Src (w.heap.size) (200 + ((k + 1 : Nat) : Int)) w4 := hsk.mono (by omega)
    have hsz : w2.heap.size ≤ w4.heap.size := (Step.size hE : w2.drew.heap.size ≤ _)
    match vs, hvl with
    | [y0, y1, y2, y3, y4, y5, y6, y7, y8, y9, y10, y11, y12, y13, y14, y15, y16, y17, y18, y19], _ =>
    rcases (show i = 0 ∨ i = 1 ∨ i = 2 ∨ i = 3 ∨ i = 4 ∨ i = 5 ∨ i = 6 ∨ i = 7 ∨ i = 8 ∨ i = 9 ∨ i = 10 ∨ i = 11 ∨ i = 12 ∨ i = 13 ∨ i = 14 ∨ i = 15 ∨ i = 16 ∨ i = 17 ∨ i = 18 ∨ i = 19 by omega) with rfl | rfl | rfl | rfl | rfl | rfl | rfl | rfl | rfl | rfl | rfl | rfl | rfl | rfl | rfl | rfl | rfl | rfl | rfl | rfl
    all_goals
      simp only [List.getElem?_cons_zero, List.getElem?_cons_succ, Option.some.injEq] at ho
      subst ho
    · simp [putAll, Act.put]
      go_wp2
      exact ⟨rfl, _, rfl, rfl, Step.refl _ _, hsk1⟩
    · clear hd
      simp [putAll, Act.put]
      go_wp2
      exact ⟨rfl, _, rfl, LitC.mk hsz ⟨CT.str_mk, CT.str_mk, CT.str_mk, CT.str_mk, trivial⟩ rfl, (Step.refl _ _).alloc _, hsk1.ext ((Ext.refl _).alloc _)⟩
    · clear hd
      simp [putAll, Act.put]
      go_wp2
      exact ⟨rfl, _, rfl, LitC.mk hsz ⟨CT.int_mk (by omega), CT.int_mk (by omega), CT.int_mk (by omega), CT.int_mk (by omega), CT.int_mk (by omega), CT.int_mk (by omega), CT.int_mk (by omega), trivial⟩ rfl, (Step.refl _ _).alloc _, hsk1.ext ((Ext.refl _).alloc _)⟩
    · simp [putAll, Act.put]
      go_wp2
      exact ⟨rfl, _, rfl, rfl, Step.refl _ _, hsk1⟩
    · have q3 : y3 = .pointer (some ⟨w.heap.size, 0, none⟩) := hd ⟨3, .data⟩ (by simp) rfl
      clear hd
      simp [putAll, Act.put, q3]
      go_wp2_with fail
      refine (pick_any _ _ 7 _ hsk (by omega)).mono ?_
      rintro e w5 ⟨v5, rfl, ⟨z, rfl, z0, z1, _⟩, hs5, hS5⟩
      have hs6 : Src (w.heap.size) (200 + ((k + 1 : Nat) : Int)) w5 := hs5.mono (by omega)
      have hz := z1 (by omega)
      clear z1
      go_wp2
      exact ⟨rfl, _, rfl, CT.int_mk, hS5, hs6⟩
    · have q2 : LitC (w2.heap.size) 7 [CT.int 0 3] y2 w4 := hd ⟨2, .data⟩ (by simp) rfl
      have q4 : (CT.int 0 6).has y4 := hd ⟨4, .data⟩ (by simp) rfl
      clear hd
      obtain ⟨bb, hbb⟩ : ∃ bb, y2 = .slice (some ⟨bb, 0, none⟩) 7 7 := (let ⟨b, _, _, h, _⟩ := q2; ⟨b, h⟩)
      subst hbb
      obtain ⟨z, rfl, z0, z1⟩ := q4
      obtain ⟨j, rfl⟩ : ∃ j : Nat, z = j := ⟨z.toNat, by omega⟩
      have hp := LitC.ptr (nf := 1) rfl q2 (k := j) (by omega)
      have hj : (j : Int) < 7 := by omega
      clear q2
      have hp2 : PtrC (w2.heap.size) [CT.int 0 3] (.pointer (some ⟨bb, j, none⟩)) w4 := by simpa using hp
      simp [putAll, Act.put]
      go_wp2
      exact ⟨rfl, _, rfl, hp2, Step.refl _ _, hsk1⟩
    · have q5 : PtrC (w2.heap.size) [CT.int 0 3] y5 w4 := hd ⟨5, .data⟩ (by simp) rfl
      clear hd
      obtain ⟨b, o, rfl, hb, hlt, hc⟩ := q5
      obtain ⟨u0, c0, ht0⟩ := hc 0 _ rfl
      obtain ⟨x0, rfl, x0a, x0b⟩ := ht0
      rw [Nat.add_zero] at c0
      clear hc
      simp [putAll, Act.put]
      go_wp2
      exact ⟨rfl, _, rfl, CT.int_mk ⟨x0a, x0b⟩, Step.refl _ _, hsk1⟩
    · have q1 : LitC (w2.heap.size) 4 [CT.str 40] y1 w4 := hd ⟨1, .data⟩ (by simp) rfl
      have q6 : (CT.int 0 3).has y6 := hd ⟨6, .data⟩ (by simp) rfl
      clear hd
      obtain ⟨bb, hbb⟩ : ∃ bb, y1 = .slice (some ⟨bb, 0, none⟩) 4 4 := (let ⟨b, _, _, h, _⟩ := q1; ⟨b, h⟩)
      subst hbb
      obtain ⟨z, rfl, z0, z1⟩ := q6
      obtain ⟨j, rfl⟩ : ∃ j : Nat, z = j := ⟨z.toNat, by omega⟩
      have hp := LitC.ptr (nf := 1) rfl q1 (k := j) (by omega)
      have hj : (j : Int) < 4 := by omega
      clear q1
      have hp2 : PtrC (w2.heap.size) [CT.str 40] (.pointer (some ⟨bb, j, none⟩)) w4 := by simpa using hp
      simp [putAll, Act.put]
      go_wp2
      exact ⟨rfl, _, rfl, hp2, Step.refl _ _, hsk1⟩
    · have q7 : PtrC (w2.heap.size) [CT.str 40] y7 w4 := hd ⟨7, .data⟩ (by simp) rfl
      clear hd
      obtain ⟨b, o, rfl, hb, hlt, hc⟩ := q7
      obtain ⟨u0, c0, ht0⟩ := hc 0 _ rfl
      obtain ⟨x0, rfl, x0a⟩ := ht0
      rw [Nat.add_zero] at c0
      clear hc
      simp [putAll, Act.put]
      go_wp2
      exact ⟨rfl, _, rfl, CT.str_mk x0a, Step.refl _ _, hsk1⟩
    · clear hd
      simp [putAll, Act.put]
      go_wp2
      exact ⟨rfl, _, rfl, LitC.mk hsz ⟨CT.str_mk, CT.str_mk, CT.str_mk, CT.str_mk, CT.str_mk, trivial⟩ rfl, (Step.refl _ _).alloc _, hsk1.ext ((Ext.refl _).alloc _)⟩
    · clear hd
      simp [putAll, Act.put]
      go_wp2
      exact ⟨rfl, _, rfl, LitC.mk hsz ⟨CT.int_mk (by omega), CT.int_mk (by omega), CT.int_mk (by omega), CT.int_mk (by omega), CT.int_mk (by omega), CT.int_mk (by omega), CT.int_mk (by omega), CT.int_mk (by omega), trivial⟩ rfl, (Step.refl _ _).alloc _, hsk1.ext ((Ext.refl _).alloc _)⟩
    · simp [putAll, Act.put]
      go_wp2
      exact ⟨rfl, _, rfl, rfl, Step.refl _ _, hsk1⟩
    · have q11 : y11 = .pointer (some ⟨w.heap.size, 0, none⟩) := hd ⟨11, .data⟩ (by simp) rfl
      clear hd
      simp [putAll, Act.put, q11]
      go_wp2_with fail
      refine (pick_any _ _ 8 _ hsk (by omega)).mono ?_
      rintro e w5 ⟨v5, rfl, ⟨z, rfl, z0, z1, _⟩, hs5, hS5⟩
      have hs6 : Src (w.heap.size) (200 + ((k + 1 : Nat) : Int)) w5 := hs5.mono (by omega)
      have hz := z1 (by omega)
      clear z1
      go_wp2
      exact ⟨rfl, _, rfl, CT.int_mk, hS5, hs6⟩
    · have q10 : LitC (w2.heap.size) 8 [CT.int 0 4] y10 w4 := hd ⟨10, .data⟩ (by simp) rfl
      have q12 : (CT.int 0 7).has y12 := hd ⟨12, .data⟩ (by simp) rfl
      clear hd
      obtain ⟨bb, hbb⟩ : ∃ bb, y10 = .slice (some ⟨bb, 0, none⟩) 8 8 := (let ⟨b, _, _, h, _⟩ := q10; ⟨b, h⟩)
      subst hbb
      obtain ⟨z, rfl, z0, z1⟩ := q12
      obtain ⟨j, rfl⟩ : ∃ j : Nat, z = j := ⟨z.toNat, by omega⟩
      have hp := LitC.ptr (nf := 1) rfl q10 (k := j) (by omega)
      have hj : (j : Int) < 8 := by omega
      clear q10
      have hp2 : PtrC (w2.heap.size) [CT.int 0 4] (.pointer (some ⟨bb, j, none⟩)) w4 := by simpa using hp
      simp [putAll, Act.put]
      go_wp2
      exact ⟨rfl, _, rfl, hp2, Step.refl _ _, hsk1⟩
    · have q13 : PtrC (w2.heap.size) [CT.int 0 4] y13 w4 := hd ⟨13, .data⟩ (by simp) rfl
      clear hd
      obtain ⟨b, o, rfl, hb, hlt, hc⟩ := q13
      obtain ⟨u0, c0, ht0⟩ := hc 0 _ rfl
      obtain ⟨x0, rfl, x0a, x0b⟩ := ht0
      rw [Nat.add_zero] at c0
      clear hc
      simp [putAll, Act.put]
      go_wp2
      exact ⟨rfl, _, rfl, CT.int_mk ⟨x0a, x0b⟩, Step.refl _ _, hsk1⟩
    · have q9 : LitC (w2.heap.size) 5 [CT.str 40] y9 w4 := hd ⟨9, .data⟩ (by simp) rfl
      have q14 : (CT.int 0 4).has y14 := hd ⟨14, .data⟩ (by simp) rfl
      clear hd
      obtain ⟨bb, hbb⟩ : ∃ bb, y9 = .slice (some ⟨bb, 0, none⟩) 5 5 := (let ⟨b, _, _, h, _⟩ := q9; ⟨b, h⟩)
      subst hbb
      obtain ⟨z, rfl, z0, z1⟩ := q14
      obtain ⟨j, rfl⟩ : ∃ j : Nat, z = j := ⟨z.toNat, by omega⟩
      have hp := LitC.ptr (nf := 1) rfl q9 (k := j) (by omega)
      have hj : (j : Int) < 5 := by omega
      clear q9
      have hp2 : PtrC (w2.heap.size) [CT.str 40] (.pointer (some ⟨bb, j, none⟩)) w4 := by simpa using hp
      simp [putAll, Act.put]
      go_wp2
      exact ⟨rfl, _, rfl, hp2, Step.refl _ _, hsk1⟩
    · have q15 : PtrC (w2.heap.size) [CT.str 40] y15 w4 := hd ⟨15, .data⟩ (by simp) rfl
      clear hd
      obtain ⟨b, o, rfl, hb, hlt, hc⟩ := q15
      obtain ⟨u0, c0, ht0⟩ := hc 0 _ rfl
      obtain ⟨x0, rfl, x0a⟩ := ht0
      rw [Nat.add_zero] at c0
      clear hc
      simp [putAll, Act.put]
      go_wp2
      exact ⟨rfl, _, rfl, CT.str_mk x0a, Step.refl _ _, hsk1⟩
    · have q0 : y0 = vL := hd ⟨0, .data⟩ (by simp) rfl
      clear hd
      simp [putAll, Act.put]
      go_wp2
      exact ⟨rfl, _, rfl, q0, Step.refl _ _, hsk1⟩
    · have q8 : (CT.str 40).has y8 := hd ⟨8, .data⟩ (by simp) rfl
      clear hd
      simp [putAll, Act.put]
      go_wp2
      exact ⟨rfl, _, rfl, q8, Step.refl _ _, hsk1⟩
    · have q16 : (CT.str 40).has y16 := hd ⟨16, .data⟩ (by simp) rfl
      clear hd
      simp [putAll, Act.put]
      go_wp2
      exact ⟨rfl, _, rfl, q16, Step.refl _ _, hsk1⟩
  intro vs w4 hvl hE hsn hV
  match vs, hvl with
  | [y0, y1, y2, y3, y4, y5, y6, y7, y8, y9, y10, y11, y12, y13, y14, y15, y16, y17, y18, y19], _ =>
  have e17 : y17 = vL := hV 17 (by omega)
  have e18 : (CT.str 40).has y18 := hV 18 (by omega)
  have e19 : (CT.str 40).has y19 := hV 19 (by omega)
  clear hV
  skip
  obtain rfl : vL = y17 := e17.symm
  obtain ⟨s, rfl, hs40⟩ := e18
  obtain ⟨t, rfl, ht40⟩ := e19
  simp only [putAll, Act.put, List.take_succ_cons, List.take_zero, List.drop_succ_cons, List.drop_zero]
  simp
  have h4 := ownsRow_base (ownsRow_step (ownsRow_ext h3 (Ext.refl _).drew) hE hg0) E.size
  have hS4 := (hS.drew.trans hE).toExt E (Nat.le_refl _)
  go_wp2
  go_ret3
  exact ⟨_, L, s, t, rfl, h1, h17, hs40, ht40, Sep.of_owns hS4 h4⟩
end Go.Proofs.Ytekmfphlccomaaa
