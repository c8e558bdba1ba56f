/- The draws of FnSetTimer and FnEndTimers. No condition but small sizes. -/
import Derived.Test.YtgjadebohneioaaDrawTim
import Derived.Test.YtgjadebohneioaaBT
import Derived.Test.YtgjadebohneioaaSep
import Derived.Deep.Cut
namespace Go.Proofs.Ytgjadebohneioaa
open Go.RowKit

theorem agg3 {a b c d e f : Int} {v : Value} (h : AggC [CT.int a b, CT.int c d, CT.int e f] v) : ∃ x y z, v = .agg #[.int .i64 x, .int .i64 y, .int .i64 z] := by
  obtain ⟨vs, rfl, h⟩ := h
  match vs, h with
  | [_, _, _], h =>
    obtain ⟨⟨x, rfl, _⟩, ⟨y, rfl, _⟩, ⟨z, rfl, _⟩, _⟩ := h
    exact ⟨x, y, z, rfl⟩

set_option maxHeartbeats 4000000 in
theorem drawEndTimers (a : Option Addr) (cap : Nat) (l : List Int) (w : World) (hl : l.length ≤ 9223372036854775807) (hcap : l.length ≤ cap) (hu : ∀ x ∈ l, 0 ≤ x ∧ x ≤ 255) (hc : Rd 1 encU8 w a l) :
    Calls Try.prog 20 #[.slice a l.length cap] w (fun e w' => ∃ u L n, e = .returned (.tuple #[u, .int .i64 n]) ∧ L.length ≤ 9 ∧ Sep w w' [plRow 30 3 encTim u L]) := by
  go_enter Try.func20, Try.ntmps20
  go_wp2_with fail
  refine (open_any a cap l w hl hcap hu hc).mono ?_
  rintro e w1 ⟨v, rfl, ⟨rfl, hs⟩, E⟩
  have hg0 := hs.lt
  go_wp2_with fail
  refine (drawTimers _ _ _ _ hs (by omega) (by omega)).mono ?_
  rintro e w2 ⟨vL, rfl, ⟨L, h1, h3⟩, hs2, hS⟩
  go_upto_region 3 with fail
  have hgb : w.heap.size < w2.heap.size := hs2.lt
  refine wp_region_s (Step (w.heap.size)) (fun k wv => Src (w.heap.size) (100 + (k : Int)) wv) 13 (V := fun i v wv => match i with
    | 0 => v = vL
    | 1 => v = .pointer (some ⟨w.heap.size, 0, none⟩)
    | 2 => (CT.int 0 39).has v
    | 3 => LitC (w2.heap.size) 4 [CT.int (-1) 100001] v wv
    | 4 => LitC (w2.heap.size) 8 [CT.int 0 3] v wv
    | 5 => v = .pointer (some ⟨w.heap.size, 0, none⟩)
    | 6 => (CT.int 0 7).has v
    | 7 => PtrC (w2.heap.size) [CT.int 0 3] v wv
    | 8 => (CT.int 0 3).has v
    | 9 => PtrC (w2.heap.size) [CT.int (-1) 100001] v wv
    | 10 => (CT.int (-1) 100001).has v
    | 11 => v = vL
    | 12 => (CT.int (-1) 100001).has v
    | _ => True) rfl (by decide) (by kernel_rfl) (by kernel_rfl) (by kernel_rfl) (Step.refl _ _) (fun _ _ _ h k => h.trans k) ((hs2.mono (by omega)).ext (Ext.refl _).drew) ?_ ?_ ?_
  · intro i v w2 w3 h hE
    match i with
    | 0 => exact h
    | 1 => exact h
    | 2 => exact h
    | 3 => exact h.chg (Chg.of_step hE) (fun b e => e ▸ hgb)
    | 4 => exact h.chg (Chg.of_step hE) (fun b e => e ▸ hgb)
    | 5 => exact h
    | 6 => exact h
    | 7 => exact h.chg (Chg.of_step hE) (fun b e => e ▸ hgb)
    | 8 => exact h
    | 9 => exact h.chg (Chg.of_step hE) (fun b e => e ▸ hgb)
    | 10 => exact h
    | 11 => exact h
    | 12 => exact h
    | (n + 13) => trivial
  · intro i o hi ho k hk vs w4 hvl hE hsk hd
    have hsk1 : Src (w.heap.size) (100 + ((k + 1 : Nat) : Int)) w4 := hsk.mono (by omega)
    have hsz : w2.heap.size ≤ w4.heap.size := (Step.size hE : w2.drew.heap.size ≤ _)
    match vs, hvl with
    | [y0, y1, y2, y3, y4, y5, y6, y7, y8, y9, y10, y11, y12], _ =>
    rcases (show i = 0 ∨ i = 1 ∨ i = 2 ∨ i = 3 ∨ i = 4 ∨ i = 5 ∨ i = 6 ∨ i = 7 ∨ i = 8 ∨ i = 9 ∨ i = 10 ∨ i = 11 ∨ i = 12 by omega) with rfl | rfl | rfl | rfl | rfl | rfl | rfl | rfl | rfl | rfl | rfl | rfl | rfl
    all_goals
      simp only [List.getElem?_cons_zero, List.getElem?_cons_succ, Option.some.injEq] at ho
      subst ho
    · simp [putAll, Act.put]
      go_wp2
      exact ⟨rfl, _, rfl, rfl, Step.refl _ _, hsk1⟩
    · simp [putAll, Act.put]
      go_wp2
      exact ⟨rfl, _, rfl, rfl, Step.refl _ _, hsk1⟩
    · have q1 : y1 = .pointer (some ⟨w.heap.size, 0, none⟩) := hd ⟨1, .data⟩ (by simp) rfl
      clear hd
      simp [putAll, Act.put, q1]
      go_wp2_with fail
      refine (pick_any _ _ 40 _ hsk (by omega)).mono ?_
      rintro e w5 ⟨v5, rfl, ⟨z, rfl, z0, z1, _⟩, hs5, hS5⟩
      have hs6 : Src (w.heap.size) (100 + ((k + 1 : Nat) : Int)) w5 := hs5.mono (by omega)
      have hz := z1 (by omega)
      clear z1
      go_wp2
      exact ⟨rfl, _, rfl, CT.int_mk, hS5, hs6⟩
    · have q2 : (CT.int 0 39).has y2 := hd ⟨2, .data⟩ (by simp) rfl
      obtain ⟨z0, z0e, z0a, z0b⟩ := q2
      clear hd
      subst z0e
      simp [putAll, Act.put]
      go_wp2
      exact ⟨rfl, _, rfl, LitC.mk hsz ⟨CT.int_mk (by omega), CT.int_mk (by omega), CT.int_mk (by omega), CT.int_mk (by omega), trivial⟩ rfl, (Step.refl _ _).alloc _, hsk1.ext ((Ext.refl _).alloc _)⟩
    · clear hd
      simp [putAll, Act.put]
      go_wp2
      exact ⟨rfl, _, rfl, LitC.mk hsz ⟨CT.int_mk (by omega), CT.int_mk (by omega), CT.int_mk (by omega), CT.int_mk (by omega), CT.int_mk (by omega), CT.int_mk (by omega), CT.int_mk (by omega), CT.int_mk (by omega), trivial⟩ rfl, (Step.refl _ _).alloc _, hsk1.ext ((Ext.refl _).alloc _)⟩
    · simp [putAll, Act.put]
      go_wp2
      exact ⟨rfl, _, rfl, rfl, Step.refl _ _, hsk1⟩
    · have q5 : y5 = .pointer (some ⟨w.heap.size, 0, none⟩) := hd ⟨5, .data⟩ (by simp) rfl
      clear hd
      simp [putAll, Act.put, q5]
      go_wp2_with fail
      refine (pick_any _ _ 8 _ hsk (by omega)).mono ?_
      rintro e w5 ⟨v5, rfl, ⟨z, rfl, z0, z1, _⟩, hs5, hS5⟩
      have hs6 : Src (w.heap.size) (100 + ((k + 1 : Nat) : Int)) w5 := hs5.mono (by omega)
      have hz := z1 (by omega)
      clear z1
      go_wp2
      exact ⟨rfl, _, rfl, CT.int_mk, hS5, hs6⟩
    · have q4 : LitC (w2.heap.size) 8 [CT.int 0 3] y4 w4 := hd ⟨4, .data⟩ (by simp) rfl
      have q6 : (CT.int 0 7).has y6 := hd ⟨6, .data⟩ (by simp) rfl
      clear hd
      obtain ⟨bb, hbb⟩ : ∃ bb, y4 = .slice (some ⟨bb, 0, none⟩) 8 8 := (let ⟨b, _, _, h, _⟩ := q4; ⟨b, h⟩)
      subst hbb
      obtain ⟨z, rfl, z0, z1⟩ := q6
      obtain ⟨j, rfl⟩ : ∃ j : Nat, z = j := ⟨z.toNat, by omega⟩
      have hp := LitC.ptr (nf := 1) rfl q4 (k := j) (by omega)
      have hj : (j : Int) < 8 := by omega
      clear q4
      have hp2 : PtrC (w2.heap.size) [CT.int 0 3] (.pointer (some ⟨bb, j, none⟩)) w4 := by simpa using hp
      simp [putAll, Act.put]
      go_wp2
      exact ⟨rfl, _, rfl, hp2, Step.refl _ _, hsk1⟩
    · have q7 : PtrC (w2.heap.size) [CT.int 0 3] y7 w4 := hd ⟨7, .data⟩ (by simp) rfl
      clear hd
      obtain ⟨b, o, rfl, hb, hlt, hc⟩ := q7
      obtain ⟨u0, c0, ht0⟩ := hc 0 _ rfl
      obtain ⟨x0, rfl, x0a, x0b⟩ := ht0
      rw [Nat.add_zero] at c0
      clear hc
      simp [putAll, Act.put]
      go_wp2
      exact ⟨rfl, _, rfl, CT.int_mk ⟨x0a, x0b⟩, Step.refl _ _, hsk1⟩
    · have q3 : LitC (w2.heap.size) 4 [CT.int (-1) 100001] y3 w4 := hd ⟨3, .data⟩ (by simp) rfl
      have q8 : (CT.int 0 3).has y8 := hd ⟨8, .data⟩ (by simp) rfl
      clear hd
      obtain ⟨bb, hbb⟩ : ∃ bb, y3 = .slice (some ⟨bb, 0, none⟩) 4 4 := (let ⟨b, _, _, h, _⟩ := q3; ⟨b, h⟩)
      subst hbb
      obtain ⟨z, rfl, z0, z1⟩ := q8
      obtain ⟨j, rfl⟩ : ∃ j : Nat, z = j := ⟨z.toNat, by omega⟩
      have hp := LitC.ptr (nf := 1) rfl q3 (k := j) (by omega)
      have hj : (j : Int) < 4 := by omega
      clear q3
      have hp2 : PtrC (w2.heap.size) [CT.int (-1) 100001] (.pointer (some ⟨bb, j, none⟩)) w4 := by simpa using hp
      simp [putAll, Act.put]
      go_wp2
      exact ⟨rfl, _, rfl, hp2, Step.refl _ _, hsk1⟩
    · have q9 : PtrC (w2.heap.size) [CT.int (-1) 100001] y9 w4 := hd ⟨9, .data⟩ (by simp) rfl
      clear hd
      obtain ⟨b, o, rfl, hb, hlt, hc⟩ := q9
      obtain ⟨u0, c0, ht0⟩ := hc 0 _ rfl
      obtain ⟨x0, rfl, x0a, x0b⟩ := ht0
      rw [Nat.add_zero] at c0
      clear hc
      simp [putAll, Act.put]
      go_wp2
      exact ⟨rfl, _, rfl, CT.int_mk ⟨x0a, x0b⟩, Step.refl _ _, hsk1⟩
    · have q0 : y0 = vL := hd ⟨0, .data⟩ (by simp) rfl
      clear hd
      simp [putAll, Act.put]
      go_wp2
      exact ⟨rfl, _, rfl, q0, Step.refl _ _, hsk1⟩
    · have q10 : (CT.int (-1) 100001).has y10 := hd ⟨10, .data⟩ (by simp) rfl
      clear hd
      simp [putAll, Act.put]
      go_wp2
      exact ⟨rfl, _, rfl, q10, Step.refl _ _, hsk1⟩
  intro vs w4 hvl hE hsn hV
  match vs, hvl with
  | [y0, y1, y2, y3, y4, y5, y6, y7, y8, y9, y10, y11, y12], _ =>
  have e11 : y11 = vL := hV 11 (by omega)
  have e12 : (CT.int (-1) 100001).has y12 := hV 12 (by omega)
  clear hV
  skip
  subst e11
  obtain ⟨n, rfl, _, _⟩ := e12
  simp only [putAll, Act.put, List.take_succ_cons, List.take_zero, List.drop_succ_cons, List.drop_zero]
  simp
  have h4 := ownsRow_base (ownsRow_step (ownsRow_ext h3 (Ext.refl _).drew) hE hg0) E.size
  have hS4 := (hS.drew.trans hE).toExt E (Nat.le_refl _)
  go_wp2
  go_ret2
  exact ⟨_, L, n, rfl, h1, Sep.of_owns hS4 h4⟩

set_option maxHeartbeats 4000000 in
theorem drawSetTimer (a : Option Addr) (cap : Nat) (l : List Int) (w : World) (hl : l.length ≤ 9223372036854775807) (hcap : l.length ≤ cap) (hu : ∀ x ∈ l, 0 ≤ x ∧ x ≤ 255) (hc : Rd 1 encU8 w a l) :
    Calls Try.prog 15 #[.slice a l.length cap] w (fun e w' => ∃ u L, ∃ m : Tim, e = .returned (.tuple #[u, .agg #[.int .i64 m.tm, .int .i64 m.who, .int .i64 m.ag]]) ∧ L.length ≤ 9 ∧ Sep w w' [plRow 30 3 encTim u L]) := by
  go_enter Try.func15, Try.ntmps15
  have S := Sep.start w
  replace S : Sep w (w.alloc (.cells #[.int .i64 0, .int .i64 0, .int .i64 0] 30)) [plBox w.heap.size #[.int .i64 0, .int .i64 0, .int .i64 0] 30] := S.alloc_at (by simp) _ _
  go_wp2_with fail
  generalize (w.alloc (.cells #[.int .i64 0, .int .i64 0, .int .i64 0] 30)) = w1 at *
  refine (open_any a cap l w1 hl hcap hu (hc.ext S.ext)).mono ?_
  rintro e w2 ⟨v, rfl, ⟨rfl, hs⟩, hE⟩
  have hg1 := S.ge 0 rfl
  generalize w1.heap.size = g at *
  replace S : Sep w w2 [plBox w.heap.size #[.int .i64 0, .int .i64 0, .int .i64 0] 30] := S.step hE
  clear hE
  go_wp2_with fail
  refine (drawTimers g _ _ _ hs (by omega) (by omega)).mono ?_
  rintro e w3 ⟨vL, rfl, ⟨L, h1, h3⟩, hs3, hS⟩
  have hq : vL.ownBlock = some g → False := fun h => by
    have h2 := (World.ownsRow.lt h3 g h).1
    have := hs.lt
    omega
  replace S : Sep w w3 [plRow 30 3 encTim vL L, plBox w.heap.size #[.int .i64 0, .int .i64 0, .int .i64 0] 30] := (S.readOwn hS (by omega) (by simp [plBox]; omega) h3 (Nat.le_refl _))
  clear hS hs h3
  go_upto_region 3 with fail
  have hgb : g < w3.heap.size := hs3.lt
  refine wp_region_s (Step (g)) (fun k wv => Src (g) (100 + (k : Int)) wv) 20 (V := fun i v wv => match i with
    | 0 => v = vL
    | 1 => v = .pointer (some ⟨g, 0, none⟩)
    | 2 => (CT.int 0 29).has v
    | 3 => LitC (w3.heap.size) 2 [CT.int 0 100001] v wv
    | 4 => v = .pointer (some ⟨g, 0, none⟩)
    | 5 => (CT.int 0 8).has v
    | 6 => (CT.int 0 1).has v
    | 7 => PtrC (w3.heap.size) [CT.int 0 100001] v wv
    | 8 => (CT.int 0 100001).has v
    | 9 => v = .pointer (some ⟨g, 0, none⟩)
    | 10 => (CT.int 0 4).has v
    | 11 => v = .pointer (some ⟨g, 0, none⟩)
    | 12 => (CT.int 0 3).has v
    | 13 => v = .pointer (some ⟨g, 0, none⟩)
    | 14 => (CT.int 0 8).has v
    | 15 => (CT.int 0 1).has v
    | 16 => (CT.int 0 4).has v
    | 17 => (CT.int (-4) 3).has v
    | 18 => AggC [CT.int (0) (100001), CT.int (0) (4), CT.int (-4) (3)] v
    | 19 => v = vL
    | _ => True) rfl (by decide) (by kernel_rfl) (by kernel_rfl) (by kernel_rfl) (Step.refl _ _) (fun _ _ _ h k => h.trans k) ((hs3.mono (by omega)).ext (Ext.refl _).drew) ?_ ?_ ?_
  · intro i v w2 w3 h hE
    match i with
    | 0 => exact h
    | 1 => exact h
    | 2 => exact h
    | 3 => exact h.chg (Chg.of_step hE) (fun b e => e ▸ hgb)
    | 4 => exact h
    | 5 => exact h
    | 6 => exact h
    | 7 => exact h.chg (Chg.of_step hE) (fun b e => e ▸ hgb)
    | 8 => exact h
    | 9 => exact h
    | 10 => exact h
    | 11 => exact h
    | 12 => exact h
    | 13 => exact h
    | 14 => exact h
    | 15 => exact h
    | 16 => exact h
    | 17 => exact h
    | 18 => exact h
    | 19 => exact h
    | (n + 20) => trivial
  · intro i o hi ho k hk vs w4 hvl hE hsk hd
    have hsk1 : Src (g) (100 + ((k + 1 : Nat) : Int)) w4 := hsk.mono (by omega)
    have hsz : w3.heap.size ≤ w4.heap.size := (Step.size hE : w3.drew.heap.size ≤ _)
    match vs, hvl with
    | [y0, y1, y2, y3, y4, y5, y6, y7, y8, y9, y10, y11, y12, y13, y14, y15, y16, y17, y18, y19], _ =>
    rcases (show i = 0 ∨ i = 1 ∨ i = 2 ∨ i = 3 ∨ i = 4 ∨ i = 5 ∨ i = 6 ∨ i = 7 ∨ i = 8 ∨ i = 9 ∨ i = 10 ∨ i = 11 ∨ i = 12 ∨ i = 13 ∨ i = 14 ∨ i = 15 ∨ i = 16 ∨ i = 17 ∨ i = 18 ∨ i = 19 by omega) with rfl | rfl | rfl | rfl | rfl | rfl | rfl | rfl | rfl | rfl | rfl | rfl | rfl | rfl | rfl | rfl | rfl | rfl | rfl | rfl
    all_goals
      simp only [List.getElem?_cons_zero, List.getElem?_cons_succ, Option.some.injEq] at ho
      subst ho
    · simp [putAll, Act.put]
      go_wp2
      exact ⟨rfl, _, rfl, rfl, Step.refl _ _, hsk1⟩
    · simp [putAll, Act.put]
      go_wp2
      exact ⟨rfl, _, rfl, rfl, Step.refl _ _, hsk1⟩
    · have q1 : y1 = .pointer (some ⟨g, 0, none⟩) := hd ⟨1, .data⟩ (by simp) rfl
      clear hd
      simp [putAll, Act.put, q1]
      go_wp2_with fail
      refine (pick_any _ _ 30 _ hsk (by omega)).mono ?_
      rintro e w5 ⟨v5, rfl, ⟨z, rfl, z0, z1, _⟩, hs5, hS5⟩
      have hs6 : Src (g) (100 + ((k + 1 : Nat) : Int)) w5 := hs5.mono (by omega)
      have hz := z1 (by omega)
      clear z1
      go_wp2
      exact ⟨rfl, _, rfl, CT.int_mk, hS5, hs6⟩
    · have q2 : (CT.int 0 29).has y2 := hd ⟨2, .data⟩ (by simp) rfl
      obtain ⟨z0, z0e, z0a, z0b⟩ := q2
      clear hd
      subst z0e
      simp [putAll, Act.put]
      go_wp2
      exact ⟨rfl, _, rfl, LitC.mk hsz ⟨CT.int_mk (by omega), CT.int_mk (by omega), trivial⟩ rfl, (Step.refl _ _).alloc _, hsk1.ext ((Ext.refl _).alloc _)⟩
    · simp [putAll, Act.put]
      go_wp2
      exact ⟨rfl, _, rfl, rfl, Step.refl _ _, hsk1⟩
    · have q4 : y4 = .pointer (some ⟨g, 0, none⟩) := hd ⟨4, .data⟩ (by simp) rfl
      clear hd
      simp [putAll, Act.put, q4]
      go_wp2_with fail
      refine (pick_any _ _ 9 _ hsk (by omega)).mono ?_
      rintro e w5 ⟨v5, rfl, ⟨z, rfl, z0, z1, _⟩, hs5, hS5⟩
      have hs6 : Src (g) (100 + ((k + 1 : Nat) : Int)) w5 := hs5.mono (by omega)
      have hz := z1 (by omega)
      clear z1
      go_wp2
      exact ⟨rfl, _, rfl, CT.int_mk, hS5, hs6⟩
    · have q5 : (CT.int 0 8).has y5 := hd ⟨5, .data⟩ (by simp) rfl
      obtain ⟨z0, rfl, z0a, z0b⟩ := q5
      clear hd
      simp [putAll, Act.put]
      go_wp2
      exact ⟨rfl, _, rfl, CT.int_mk (by omega), Step.refl _ _, hsk1⟩
    · have q3 : LitC (w3.heap.size) 2 [CT.int 0 100001] y3 w4 := hd ⟨3, .data⟩ (by simp) rfl
      have q6 : (CT.int 0 1).has y6 := hd ⟨6, .data⟩ (by simp) rfl
      clear hd
      obtain ⟨bb, hbb⟩ : ∃ bb, y3 = .slice (some ⟨bb, 0, none⟩) 2 2 := (let ⟨b, _, _, h, _⟩ := q3; ⟨b, h⟩)
      subst hbb
      obtain ⟨z, rfl, z0, z1⟩ := q6
      obtain ⟨j, rfl⟩ : ∃ j : Nat, z = j := ⟨z.toNat, by omega⟩
      have hp := LitC.ptr (nf := 1) rfl q3 (k := j) (by omega)
      have hj : (j : Int) < 2 := by omega
      clear q3
      have hp2 : PtrC (w3.heap.size) [CT.int 0 100001] (.pointer (some ⟨bb, j, none⟩)) w4 := by simpa using hp
      simp [putAll, Act.put]
      go_wp2
      exact ⟨rfl, _, rfl, hp2, Step.refl _ _, hsk1⟩
    · have q7 : PtrC (w3.heap.size) [CT.int 0 100001] y7 w4 := hd ⟨7, .data⟩ (by simp) rfl
      clear hd
      obtain ⟨b, o, rfl, hb, hlt, hc⟩ := q7
      obtain ⟨u0, c0, ht0⟩ := hc 0 _ rfl
      obtain ⟨x0, rfl, x0a, x0b⟩ := ht0
      rw [Nat.add_zero] at c0
      clear hc
      simp [putAll, Act.put]
      go_wp2
      exact ⟨rfl, _, rfl, CT.int_mk ⟨x0a, x0b⟩, Step.refl _ _, hsk1⟩
    · simp [putAll, Act.put]
      go_wp2
      exact ⟨rfl, _, rfl, rfl, Step.refl _ _, hsk1⟩
    · have q9 : y9 = .pointer (some ⟨g, 0, none⟩) := hd ⟨9, .data⟩ (by simp) rfl
      clear hd
      simp [putAll, Act.put, q9]
      go_wp2_with fail
      refine (pick_any _ _ 5 _ hsk (by omega)).mono ?_
      rintro e w5 ⟨v5, rfl, ⟨z, rfl, z0, z1, _⟩, hs5, hS5⟩
      have hs6 : Src (g) (100 + ((k + 1 : Nat) : Int)) w5 := hs5.mono (by omega)
      have hz := z1 (by omega)
      clear z1
      go_wp2
      exact ⟨rfl, _, rfl, CT.int_mk, hS5, hs6⟩
    · simp [putAll, Act.put]
      go_wp2
      exact ⟨rfl, _, rfl, rfl, Step.refl _ _, hsk1⟩
    · have q11 : y11 = .pointer (some ⟨g, 0, none⟩) := hd ⟨11, .data⟩ (by simp) rfl
      clear hd
      simp [putAll, Act.put, q11]
      go_wp2_with fail
      refine (pick_any _ _ 4 _ hsk (by omega)).mono ?_
      rintro e w5 ⟨v5, rfl, ⟨z, rfl, z0, z1, _⟩, hs5, hS5⟩
      have hs6 : Src (g) (100 + ((k + 1 : Nat) : Int)) w5 := hs5.mono (by omega)
      have hz := z1 (by omega)
      clear z1
      go_wp2
      exact ⟨rfl, _, rfl, CT.int_mk, hS5, hs6⟩
    · simp [putAll, Act.put]
      go_wp2
      exact ⟨rfl, _, rfl, rfl, Step.refl _ _, hsk1⟩
    · have q13 : y13 = .pointer (some ⟨g, 0, none⟩) := hd ⟨13, .data⟩ (by simp) rfl
      clear hd
      simp [putAll, Act.put, q13]
      go_wp2_with fail
      refine (pick_any _ _ 9 _ hsk (by omega)).mono ?_
      rintro e w5 ⟨v5, rfl, ⟨z, rfl, z0, z1, _⟩, hs5, hS5⟩
      have hs6 : Src (g) (100 + ((k + 1 : Nat) : Int)) w5 := hs5.mono (by omega)
      have hz := z1 (by omega)
      clear z1
      go_wp2
      exact ⟨rfl, _, rfl, CT.int_mk, hS5, hs6⟩
    · have q14 : (CT.int 0 8).has y14 := hd ⟨14, .data⟩ (by simp) rfl
      obtain ⟨z0, rfl, z0a, z0b⟩ := q14
      clear hd
      simp [putAll, Act.put]
      go_wp2
      exact ⟨rfl, _, rfl, CT.int_mk (by omega), Step.refl _ _, hsk1⟩
    · have q15 : (CT.int 0 1).has y15 := hd ⟨15, .data⟩ (by simp) rfl
      obtain ⟨z0, rfl, z0a, z0b⟩ := q15
      clear hd
      have hw : IntKind.i64.wrap (z0 * 4) = z0 * 4 := IntWalk.i64_in _ (by omega)
      simp [putAll, Act.put]
      go_wp2
      exact ⟨rfl, _, rfl, CT.int_mk (by omega), Step.refl _ _, hsk1⟩
    · have q12 : (CT.int 0 3).has y12 := hd ⟨12, .data⟩ (by simp) rfl
      obtain ⟨z0, rfl, z0a, z0b⟩ := q12
      have q16 : (CT.int 0 4).has y16 := hd ⟨16, .data⟩ (by simp) rfl
      obtain ⟨z1, rfl, z1a, z1b⟩ := q16
      clear hd
      have hw : IntKind.i64.wrap (z0 - z1) = z0 - z1 := IntWalk.i64_in _ (by omega)
      simp [putAll, Act.put]
      go_wp2
      exact ⟨rfl, _, rfl, CT.int_mk (by omega), Step.refl _ _, hsk1⟩
    · have q8 : (CT.int (0) (100001)).has y8 := hd ⟨8, .data⟩ (by simp) rfl
      have q10 : (CT.int (0) (4)).has y10 := hd ⟨10, .data⟩ (by simp) rfl
      have q17 : (CT.int (-4) (3)).has y17 := hd ⟨17, .data⟩ (by simp) rfl
      clear hd
      obtain ⟨a1, rfl, a1a, a1b⟩ := q8
      obtain ⟨a2, rfl, a2a, a2b⟩ := q10
      obtain ⟨a3, rfl, a3a, a3b⟩ := q17
      simp [putAll, Act.put]
      go_wp2
      exact ⟨rfl, _, rfl, ⟨_, rfl, CT.int_mk (by omega), CT.int_mk (by omega), CT.int_mk (by omega), trivial⟩, Step.refl _ _, hsk1⟩
    · have q0 : y0 = vL := hd ⟨0, .data⟩ (by simp) rfl
      clear hd
      simp [putAll, Act.put]
      go_wp2
      exact ⟨rfl, _, rfl, q0, Step.refl _ _, hsk1⟩
  intro vs w4 hvl hE hsn hV
  match vs, hvl with
  | [y0, y1, y2, y3, y4, y5, y6, y7, y8, y9, y10, y11, y12, y13, y14, y15, y16, y17, y18, y19], _ =>
  have e18 : AggC [CT.int (0) (100001), CT.int (0) (4), CT.int (-4) (3)] y18 := hV 18 (by omega)
  have e19 : y19 = vL := hV 19 (by omega)
  clear hV
  obtain ⟨a1, a2, a3, rfl⟩ := agg3 e18
  obtain rfl : vL = y19 := e19.symm
  replace S : Sep w w4 [plRow 30 3 encTim vL L, plBox w.heap.size #[.int .i64 0, .int .i64 0, .int .i64 0] 30] := (S.drew.readD hE (by omega) (by simp [plBox, plRow]; exact ⟨hq, by omega⟩))
  clear hE
  obtain ⟨rbc0, rbf0⟩ : w4.cell? ⟨w.heap.size, 0, none⟩ = some (.int .i64 0) ∧ w4.frozen? ⟨w.heap.size, 0, none⟩ = false := bx (S.box 1 rfl) 0 rfl
  obtain ⟨rbc1, rbf1⟩ : w4.cell? ⟨w.heap.size, 1, none⟩ = some (.int .i64 0) ∧ w4.frozen? ⟨w.heap.size, 1, none⟩ = false := bx (S.box 1 rfl) 1 rfl
  obtain ⟨rbc2, rbf2⟩ : w4.cell? ⟨w.heap.size, 2, none⟩ = some (.int .i64 0) ∧ w4.frozen? ⟨w.heap.size, 2, none⟩ = false := bx (S.box 1 rfl) 2 rfl
  simp only [putAll, Act.put, List.take_succ_cons, List.take_zero, List.drop_succ_cons, List.drop_zero]
  simp
  go_wp2
  try simp only [Exit.inBlock, Exit.then]
  refine bodyPost_ret (v := .tuple #[vL, .agg #[.int .i64 a1, .int .i64 a2, .int .i64 a3]]) (by simp [results, Try.results15, go_sem, rbc0, rbc1, rbc2]) rfl ?_
  replace S : Sep w (w4.setCell ⟨w.heap.size, 0, none⟩ (.int .i64 a1)) [plRow 30 3 encTim vL L, plBox w.heap.size #[.int .i64 a1, .int .i64 0, .int .i64 0] 30] := S.set 1 rfl 0 _
  replace S : Sep w ((w4.setCell ⟨w.heap.size, 0, none⟩ (.int .i64 a1)).setCell ⟨w.heap.size, 1, none⟩ (.int .i64 a2)) [plRow 30 3 encTim vL L, plBox w.heap.size #[.int .i64 a1, .int .i64 a2, .int .i64 0] 30] := S.set 1 rfl 1 _
  replace S : Sep w (((w4.setCell ⟨w.heap.size, 0, none⟩ (.int .i64 a1)).setCell ⟨w.heap.size, 1, none⟩ (.int .i64 a2)).setCell ⟨w.heap.size, 2, none⟩ (.int .i64 a3)) [plRow 30 3 encTim vL L, plBox w.heap.size #[.int .i64 a1, .int .i64 a2, .int .i64 a3] 30] := S.set 1 rfl 2 _
  replace S : Sep w (((w4.setCell ⟨w.heap.size, 0, none⟩ (.int .i64 a1)).setCell ⟨w.heap.size, 1, none⟩ (.int .i64 a2)).setCell ⟨w.heap.size, 2, none⟩ (.int .i64 a3)) [plRow 30 3 encTim vL L] := S.drop 1
  first | exact ⟨vL, L, ⟨a1, a2, a3⟩, rfl, h1, S⟩ | exact ⟨vL, ⟨⟨a1, a2, a3⟩, rfl⟩, L, h1, S⟩
end Go.Proofs.Ytgjadebohneioaa
