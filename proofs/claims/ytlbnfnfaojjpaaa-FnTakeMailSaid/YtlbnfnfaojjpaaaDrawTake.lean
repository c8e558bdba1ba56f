/- The draws of FnTakeMail and FnPutMail. No condition but small sizes. -/
import Derived.Test.YtlbnfnfaojjpaaaDrawMail
import Derived.Test.YtlbnfnfaojjpaaaBT
import Derived.Test.YtlbnfnfaojjpaaaSep
import Derived.Deep.Cut
namespace Go.Proofs.Ytlbnfnfaojjpaaa
open Go.RowKit

set_option maxHeartbeats 4000000 in
theorem drawTakeMail (a : Option Addr) (cap : Nat) (l : List Int) (w : World) (hl : l.length ≤ 9223372036854775807) (hcap : l.length ≤ cap) (hu : ∀ x ∈ l, 0 ≤ x ∧ x ≤ 255) (hc : Rd 1 encU8 w a l) :
    Calls Try.prog 22 #[.slice a l.length cap] w (fun e w' => ∃ u L n, e = .returned (.tuple #[u, .int .i64 n]) ∧ L.length ≤ 10 ∧ (∀ x ∈ L, x.text.size ≤ 17) ∧ Sep w w' [plRow 27 2 encMail u L]) := by
  go_enter Try.func22, Try.ntmps22
  go_wp2_with fail
  refine (open_any a cap l w hl hcap hu hc).mono ?_
  rintro e w1 ⟨v, rfl, ⟨rfl, hs⟩, E⟩
  have hg0 := hs.lt
  go_wp2_with fail
  refine (drawMails _ _ _ _ hs (by omega) (by omega)).mono ?_
  rintro e w2 ⟨vL, rfl, ⟨L, h1, h17, h3⟩, hs2, hS⟩
  go_upto_region 3 with fail
  refine wp_region_s (Step (w.heap.size)) (fun k wv => Src (w.heap.size) (100 + (k : Int)) wv) 17 (V := fun i v wv => match i with
    | 0 => v = vL
    | 1 => v = .pointer (some ⟨w.heap.size, 0, none⟩)
    | 2 => (CT.int 0 4).has v
    | 3 => (CT.int 1 5).has v
    | 4 => v = .pointer (some ⟨w.heap.size, 0, none⟩)
    | 5 => (CT.int 0 4).has v
    | 6 => (CT.int (-5) (-1)).has v
    | 7 => LitC (w.heap.size) 5 [CT.int (-10) 10] v wv
    | 8 => LitC (w.heap.size) 9 [CT.int 0 4] v wv
    | 9 => v = .pointer (some ⟨w.heap.size, 0, none⟩)
    | 10 => (CT.int 0 8).has v
    | 11 => PtrC (w.heap.size) [CT.int 0 4] v wv
    | 12 => (CT.int 0 4).has v
    | 13 => PtrC (w.heap.size) [CT.int (-10) 10] v wv
    | 14 => (CT.int (-10) 10).has v
    | 15 => v = vL
    | 16 => (CT.int (-10) 10).has v
    | _ => True) rfl (by decide) (by kernel_rfl) (by kernel_rfl) (by kernel_rfl) (Step.refl _ _) (fun _ _ _ h k => h.trans k) ((hs2.mono (by omega)).ext (Ext.refl _).drew) ?_ ?_ ?_
  · intro i v w2 w3 h hE
    match i with
    | 0 => exact h
    | 1 => exact h
    | 2 => exact h
    | 3 => exact h
    | 4 => exact h
    | 5 => exact h
    | 6 => exact h
    | 7 => exact h.step hE
    | 8 => exact h.step hE
    | 9 => exact h
    | 10 => exact h
    | 11 => exact h.step hE
    | 12 => exact h
    | 13 => exact h.step hE
    | 14 => exact h
    | 15 => exact h
    | 16 => exact h
    | (n + 17) => trivial
  · intro i o hi ho k hk vs w4 hvl hE hsk hd
    have hsk1 : Src (w.heap.size) (100 + ((k + 1 : Nat) : Int)) w4 := hsk.mono (by omega)
    match vs, hvl with
    | [y0, y1, y2, y3, y4, y5, y6, y7, y8, y9, y10, y11, y12, y13, y14, y15, y16], _ =>
    rcases (show i = 0 ∨ i = 1 ∨ i = 2 ∨ i = 3 ∨ i = 4 ∨ i = 5 ∨ i = 6 ∨ i = 7 ∨ i = 8 ∨ i = 9 ∨ i = 10 ∨ i = 11 ∨ i = 12 ∨ i = 13 ∨ i = 14 ∨ i = 15 ∨ i = 16 by omega) with rfl | rfl | rfl | rfl | rfl | rfl | rfl | rfl | rfl | rfl | rfl | rfl | rfl | rfl | rfl | rfl | rfl
    all_goals
      simp only [List.getElem?_cons_zero, List.getElem?_cons_succ, Option.some.injEq] at ho
      subst ho
    · simp [putAll, Act.put]
      go_wp2
      exact ⟨rfl, _, rfl, rfl, Step.refl _ _, hsk1⟩
    · simp [putAll, Act.put]
      go_wp2
      exact ⟨rfl, _, rfl, rfl, Step.refl _ _, hsk1⟩
    · have q1 : y1 = .pointer (some ⟨w.heap.size, 0, none⟩) := hd ⟨1, .data⟩ (by simp) rfl
      clear hd
      simp [putAll, Act.put, q1]
      go_wp2_with fail
      refine (pick_any _ _ 5 _ hsk (by omega)).mono ?_
      rintro e w5 ⟨v5, rfl, ⟨z, rfl, z0, z1, _⟩, hs5, hS5⟩
      have hs6 : Src (w.heap.size) (100 + ((k + 1 : Nat) : Int)) w5 := hs5.mono (by omega)
      have hz := z1 (by omega)
      clear z1
      go_wp2
      exact ⟨rfl, _, rfl, CT.int_mk, hS5, hs6⟩
    · have q2 : (CT.int 0 4).has y2 := hd ⟨2, .data⟩ (by simp) rfl
      obtain ⟨z1, rfl, z1a, z1b⟩ := q2
      clear hd
      have hw : IntKind.i64.wrap (1 + z1) = 1 + z1 := IntWalk.i64_in _ (by omega)
      simp [putAll, Act.put]
      go_wp2
      exact ⟨rfl, _, rfl, CT.int_mk (by omega), Step.refl _ _, hsk1⟩
    · simp [putAll, Act.put]
      go_wp2
      exact ⟨rfl, _, rfl, rfl, Step.refl _ _, hsk1⟩
    · have q4 : y4 = .pointer (some ⟨w.heap.size, 0, none⟩) := hd ⟨4, .data⟩ (by simp) rfl
      clear hd
      simp [putAll, Act.put, q4]
      go_wp2_with fail
      refine (pick_any _ _ 5 _ hsk (by omega)).mono ?_
      rintro e w5 ⟨v5, rfl, ⟨z, rfl, z0, z1, _⟩, hs5, hS5⟩
      have hs6 : Src (w.heap.size) (100 + ((k + 1 : Nat) : Int)) w5 := hs5.mono (by omega)
      have hz := z1 (by omega)
      clear z1
      go_wp2
      exact ⟨rfl, _, rfl, CT.int_mk, hS5, hs6⟩
    · have q5 : (CT.int 0 4).has y5 := hd ⟨5, .data⟩ (by simp) rfl
      obtain ⟨z1, rfl, z1a, z1b⟩ := q5
      clear hd
      have hw : IntKind.i64.wrap ((-1) - z1) = (-1) - z1 := IntWalk.i64_in _ (by omega)
      simp [putAll, Act.put]
      go_wp2
      exact ⟨rfl, _, rfl, CT.int_mk (by omega), Step.refl _ _, hsk1⟩
    · have q3 : (CT.int 1 5).has y3 := hd ⟨3, .data⟩ (by simp) rfl
      obtain ⟨z1, z1e, z1a, z1b⟩ := q3
      have q6 : (CT.int (-5) (-1)).has y6 := hd ⟨6, .data⟩ (by simp) rfl
      obtain ⟨z2, z2e, z2a, z2b⟩ := q6
      clear hd
      subst z1e z2e
      simp [putAll, Act.put]
      go_wp2
      exact ⟨rfl, _, rfl, LitC.mk hsk.lt ⟨CT.int_mk (by omega), CT.int_mk (by omega), CT.int_mk (by omega), CT.int_mk (by omega), CT.int_mk (by omega), trivial⟩ rfl, (Step.refl _ _).alloc _, hsk1.ext ((Ext.refl _).alloc _)⟩
    · clear hd
      simp [putAll, Act.put]
      go_wp2
      exact ⟨rfl, _, rfl, LitC.mk hsk.lt ⟨CT.int_mk (by omega), CT.int_mk (by omega), CT.int_mk (by omega), CT.int_mk (by omega), CT.int_mk (by omega), CT.int_mk (by omega), CT.int_mk (by omega), CT.int_mk (by omega), CT.int_mk (by omega), trivial⟩ rfl, (Step.refl _ _).alloc _, hsk1.ext ((Ext.refl _).alloc _)⟩
    · simp [putAll, Act.put]
      go_wp2
      exact ⟨rfl, _, rfl, rfl, Step.refl _ _, hsk1⟩
    · have q9 : y9 = .pointer (some ⟨w.heap.size, 0, none⟩) := hd ⟨9, .data⟩ (by simp) rfl
      clear hd
      simp [putAll, Act.put, q9]
      go_wp2_with fail
      refine (pick_any _ _ 9 _ hsk (by omega)).mono ?_
      rintro e w5 ⟨v5, rfl, ⟨z, rfl, z0, z1, _⟩, hs5, hS5⟩
      have hs6 : Src (w.heap.size) (100 + ((k + 1 : Nat) : Int)) w5 := hs5.mono (by omega)
      have hz := z1 (by omega)
      clear z1
      go_wp2
      exact ⟨rfl, _, rfl, CT.int_mk, hS5, hs6⟩
    · have q8 : LitC (w.heap.size) 9 [CT.int 0 4] y8 w4 := hd ⟨8, .data⟩ (by simp) rfl
      have q10 : (CT.int 0 8).has y10 := hd ⟨10, .data⟩ (by simp) rfl
      clear hd
      obtain ⟨bb, hbb⟩ : ∃ bb, y8 = .slice (some ⟨bb, 0, none⟩) 9 9 := (let ⟨b, _, _, h, _⟩ := q8; ⟨b, h⟩)
      subst hbb
      obtain ⟨z, rfl, z0, z1⟩ := q10
      obtain ⟨j, rfl⟩ : ∃ j : Nat, z = j := ⟨z.toNat, by omega⟩
      have hp := LitC.ptr (nf := 1) rfl q8 (k := j) (by omega)
      have hj : (j : Int) < 9 := by omega
      clear q8
      simp [putAll, Act.put]
      go_wp2
      exact ⟨rfl, _, rfl, (by simpa using hp), Step.refl _ _, hsk1⟩
    · have q11 : PtrC (w.heap.size) [CT.int 0 4] y11 w4 := hd ⟨11, .data⟩ (by simp) rfl
      clear hd
      obtain ⟨b, o, rfl, hb, hlt, hc⟩ := q11
      obtain ⟨u0, c0, ht0⟩ := hc 0 _ rfl
      obtain ⟨x0, rfl, x0a, x0b⟩ := ht0
      rw [Nat.add_zero] at c0
      clear hc
      simp [putAll, Act.put]
      go_wp2
      exact ⟨rfl, _, rfl, CT.int_mk ⟨x0a, x0b⟩, Step.refl _ _, hsk1⟩
    · have q7 : LitC (w.heap.size) 5 [CT.int (-10) 10] y7 w4 := hd ⟨7, .data⟩ (by simp) rfl
      have q12 : (CT.int 0 4).has y12 := hd ⟨12, .data⟩ (by simp) rfl
      clear hd
      obtain ⟨bb, hbb⟩ : ∃ bb, y7 = .slice (some ⟨bb, 0, none⟩) 5 5 := (let ⟨b, _, _, h, _⟩ := q7; ⟨b, h⟩)
      subst hbb
      obtain ⟨z, rfl, z0, z1⟩ := q12
      obtain ⟨j, rfl⟩ : ∃ j : Nat, z = j := ⟨z.toNat, by omega⟩
      have hp := LitC.ptr (nf := 1) rfl q7 (k := j) (by omega)
      have hj : (j : Int) < 5 := by omega
      clear q7
      simp [putAll, Act.put]
      go_wp2
      exact ⟨rfl, _, rfl, (by simpa using hp), Step.refl _ _, hsk1⟩
    · have q13 : PtrC (w.heap.size) [CT.int (-10) 10] y13 w4 := hd ⟨13, .data⟩ (by simp) rfl
      clear hd
      obtain ⟨b, o, rfl, hb, hlt, hc⟩ := q13
      obtain ⟨u0, c0, ht0⟩ := hc 0 _ rfl
      obtain ⟨x0, rfl, x0a, x0b⟩ := ht0
      rw [Nat.add_zero] at c0
      clear hc
      simp [putAll, Act.put]
      go_wp2
      exact ⟨rfl, _, rfl, CT.int_mk ⟨x0a, x0b⟩, Step.refl _ _, hsk1⟩
    · have q0 : y0 = vL := hd ⟨0, .data⟩ (by simp) rfl
      clear hd
      simp [putAll, Act.put]
      go_wp2
      exact ⟨rfl, _, rfl, q0, Step.refl _ _, hsk1⟩
    · have q14 : (CT.int (-10) 10).has y14 := hd ⟨14, .data⟩ (by simp) rfl
      clear hd
      simp [putAll, Act.put]
      go_wp2
      exact ⟨rfl, _, rfl, q14, Step.refl _ _, hsk1⟩
  intro vs w4 hvl hE hsn hV
  match vs, hvl with
  | [y0, y1, y2, y3, y4, y5, y6, y7, y8, y9, y10, y11, y12, y13, y14, y15, y16], _ =>
  have e15 : y15 = vL := hV 15 (by omega)
  have e16 : (CT.int (-10) 10).has y16 := hV 16 (by omega)
  clear hV
  skip
  subst e15
  obtain ⟨n, rfl, _, _⟩ := e16
  simp only [putAll, Act.put, List.take_succ_cons, List.take_zero, List.drop_succ_cons, List.drop_zero]
  simp
  have h4 := ownsRow_base (ownsRow_step (ownsRow_ext h3 (Ext.refl _).drew) hE hg0) E.size
  have hS4 := (hS.drew.trans hE).toExt E (Nat.le_refl _)
  go_wp2
  go_ret2
  exact ⟨_, L, n, rfl, h1, h17, Sep.of_owns hS4 h4⟩

set_option maxHeartbeats 4000000 in
theorem drawPutMail (a : Option Addr) (cap : Nat) (l : List Int) (w : World) (hl : l.length ≤ 9223372036854775807) (hcap : l.length ≤ cap) (hu : ∀ x ∈ l, 0 ≤ x ∧ x ≤ 255) (hc : Rd 1 encU8 w a l) :
    Calls Try.prog 26 #[.slice a l.length cap] w (fun e w' => ∃ u L, ∃ m : Mail, e = .returned (.tuple #[u, .agg #[.int .i64 m.kind, .string m.text]]) ∧ L.length ≤ 10 ∧ (∀ x ∈ L, x.text.size ≤ 17) ∧ m.text.size ≤ 17 ∧ Sep w w' [plRow 27 2 encMail u L]) := by
  go_enter Try.func26, Try.ntmps26
  have S := Sep.start w
  replace S : Sep w (w.alloc (.cells #[.int .i64 0, .string ⟨#[]⟩] 27)) [plBox w.heap.size #[.int .i64 0, .string ⟨#[]⟩] 27] := S.alloc_at (by simp) _ _
  go_wp2_with fail
  generalize (w.alloc (.cells #[.int .i64 0, .string ⟨#[]⟩] 27)) = w1 at *
  refine (open_any a cap l w1 hl hcap hu (hc.ext S.ext)).mono ?_
  rintro e w2 ⟨v, rfl, ⟨rfl, hs⟩, hE⟩
  have hg1 := S.ge 0 rfl
  generalize w1.heap.size = g at *
  replace S : Sep w w2 [plBox w.heap.size #[.int .i64 0, .string ⟨#[]⟩] 27] := S.step hE
  clear hE
  go_wp2_with fail
  refine (drawMails g _ _ _ hs (by omega) (by omega)).mono ?_
  rintro e w3 ⟨vL, rfl, ⟨L, h1, h17, h3⟩, hs3, hS⟩
  have hq : vL.ownBlock = some g → False := fun h => by
    have h2 := (World.ownsRow.lt h3 g h).1
    have := hs.lt
    omega
  replace S : Sep w w3 [plRow 27 2 encMail vL L, plBox w.heap.size #[.int .i64 0, .string ⟨#[]⟩] 27] := (S.readOwn hS (by omega) (by simp [plBox]; omega) h3 (Nat.le_refl _))
  clear hS hs h3
  go_wp2_with fail
  refine (drawMail g _ 9 _ hs3 (by omega) (by omega)).mono ?_
  rintro e w4 ⟨v4, rfl, ⟨m, rfl, hm17⟩, hs4, hS⟩
  replace S : Sep w w4 [plRow 27 2 encMail vL L, plBox w.heap.size #[.int .i64 0, .string ⟨#[]⟩] 27] := (S.readD hS (by omega) (by simp [plBox, plRow]; exact ⟨hq, by omega⟩))
  obtain ⟨rbc0, rbf0⟩ : w4.cell? ⟨w.heap.size, 0, none⟩ = some (.int .i64 0) ∧ w4.frozen? ⟨w.heap.size, 0, none⟩ = false := bx (S.box 1 rfl) 0 rfl
  obtain ⟨rbc1, rbf1⟩ : w4.cell? ⟨w.heap.size, 1, none⟩ = some (.string ⟨#[]⟩) ∧ w4.frozen? ⟨w.heap.size, 1, none⟩ = false := bx (S.box 1 rfl) 1 rfl
  go_wp2
  try simp only [Exit.inBlock, Exit.then]
  refine bodyPost_ret (v := .tuple #[vL, .agg #[.int .i64 m.kind, .string m.text]]) (by simp [results, Try.results26, go_sem, rbc0, rbc1]) rfl ?_
  replace S : Sep w (w4.setCell ⟨w.heap.size, 0, none⟩ (.int .i64 m.kind)) [plRow 27 2 encMail vL L, plBox w.heap.size #[.int .i64 m.kind, .string ⟨#[]⟩] 27] := S.set 1 rfl 0 _
  replace S : Sep w ((w4.setCell ⟨w.heap.size, 0, none⟩ (.int .i64 m.kind)).setCell ⟨w.heap.size, 1, none⟩ (.string m.text)) [plRow 27 2 encMail vL L, plBox w.heap.size #[.int .i64 m.kind, .string m.text] 27] := S.set 1 rfl 1 _
  replace S : Sep w ((w4.setCell ⟨w.heap.size, 0, none⟩ (.int .i64 m.kind)).setCell ⟨w.heap.size, 1, none⟩ (.string m.text)) [plRow 27 2 encMail vL L] := S.drop 1
  exact ⟨vL, L, m, rfl, h1, h17, hm17, S⟩
end Go.Proofs.Ytlbnfnfaojjpaaa
