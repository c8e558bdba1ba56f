/- Parts of one proof: what each theorem proves, and its conditions, stand in its own statement. -/
import Derived.Deep.Cut
import Derived.Test.YtnibbldfohbfkaaGreatDoorMl1
set_option linter.all false
set_option maxRecDepth 100000
set_option maxHeartbeats 32000000
namespace Go.Proofs.YtnibbldfohbfkaaGreatDoor
open Go.RowKit
structure Pl where
 own : Nat → Prop
 ok : World → Prop
 frame : ∀ w w', ok w → (∀ b, own b → w'.heap[b]? = w.heap[b]?) → ok w'
 lt : ∀ w b, ok w → own b → b < w.heap.size
structure Chg (S : Nat → Prop) (w w' : World) : Prop where
 os : w'.os = w.os
 tape : w'.tape = w.tape
 output : w'.output = w.output
 size : w.heap.size ≤ w'.heap.size
 block : ∀ k, k < w.heap.size → ¬ S k → w'.heap[k]? = w.heap[k]?
theorem Chg.refl (S : Nat → Prop) (w : World) : Chg S w w := ⟨rfl, rfl, rfl, Nat.le_refl _, fun _ _ _ => rfl⟩
theorem Chg.of_ext {S : Nat → Prop} {w w' : World} (h : Ext w w') : Chg S w w' := ⟨h.os, h.tape, h.output, h.size, fun k hk _ => h.block k hk⟩
theorem Chg.trans {S : Nat → Prop} {a b c : World} (h : Chg S a b) (k : Chg S b c) : Chg S a c :=
 ⟨k.os.trans h.os, k.tape.trans h.tape, k.output.trans h.output, Nat.le_trans h.size k.size, fun i hi hn => (k.block i (Nat.lt_of_lt_of_le hi h.size) hn).trans (h.block i hi hn)⟩
theorem Chg.mono {S S' : Nat → Prop} {w w' : World} (h : Chg S w w') (hs : ∀ k, S k → k < w.heap.size → S' k) : Chg S' w w' :=
 ⟨h.os, h.tape, h.output, h.size, fun k hk hn => h.block k hk (fun hS => hn (hs k hS hk))⟩
theorem Chg.of_grown {w w' : World} {v : Value} (h : w.grownBy w' v.ownBlock) : Chg (fun b => v.ownBlock = some b) w w' := ⟨h.os, h.tape, h.output, h.size, fun k hk hn => h.block k hk (fun e => hn e.symm)⟩
theorem Chg.of_row {w w' : World} {row : Option Nat} (h : w.grownBy w' row) : Chg (fun b => row = some b) w w' := ⟨h.os, h.tape, h.output, h.size, fun k hk hn => h.block k hk (fun e => hn e.symm)⟩
theorem Chg.grown {w w' : World} {row : Option Nat} (h : Chg (fun b => row = some b) w w') : w.grownBy w' row := ⟨h.os, h.tape, h.output, h.size, fun k hk hn => h.block k hk (fun e => hn e.symm)⟩
theorem Chg.setCell (w : World) (b o : Nat) (u : Value) : Chg (fun k => k = b) w (w.setCell ⟨b, o, none⟩ u) :=
 ⟨rfl, rfl, rfl, by simp [World.setCell], fun k _ hn => Below.heap_setCell _ _ _ _ (fun e => hn e)⟩
theorem Chg.ext {S : Nat → Prop} {w0 w w' : World} (h : Ext w0 w) (hc : Chg S w w') (hS : ∀ k, S k → w0.heap.size ≤ k) : Ext w0 w' :=
 ⟨hc.os.trans h.os, hc.tape.trans h.tape, hc.output.trans h.output, Nat.le_trans h.size hc.size, fun k hk => (hc.block k (Nat.lt_of_lt_of_le hk h.size) (fun hs => by have := hS k hs; omega)).trans (h.block k hk)⟩
def plBox (b : Nat) (C : Array Value) (t : TypeId) : Pl where
 own k := k = b
 ok w := w.heap[b]? = some (.cells C t)
 frame := fun w w' h hf => (hf b rfl).trans h
 lt := fun w k h e => by
  subst e
  rcases Nat.lt_or_ge k w.heap.size with h3 | h3
  ·exact h3
  ·rw [Array.getElem?_eq_none h3] at h; cases h
def plRow {α : Type} (e nf : Nat) (enc : α → List Value) (u : Value) (l : List α) : Pl where
 own k := u.ownBlock = some k
 ok w := w.ownsRow 0 e nf u l.length (l.flatMap enc)
 frame := fun w w' h hf => by
  refine ⟨h.1, ?_⟩
  rcases h.2 with h2 | ⟨g, cap, cur, hv, hb, hh, r⟩
  ·exact .inl h2
  ·exact .inr ⟨g, cap, cur, hv, hb, by rw [hf g (by rw [hv]; rfl)]; exact hh, r⟩
 lt := fun w k h e => (World.ownsRow.lt h k e).2
structure SepM (M : Nat → Prop) (w0 w : World) (H : List Pl) : Prop where
 chg : Chg M w0 w
 small : ∀ b, M b → b < w0.heap.size
 ok : ∀ p ∈ H, p.ok w
 base : ∀ p ∈ H, ∀ b, p.own b → w0.heap.size ≤ b
 apart : H.Pairwise (fun p q => ∀ b, p.own b → ¬ q.own b)
abbrev Sep (w0 w : World) (H : List Pl) : Prop := SepM (fun _ => False) w0 w H
theorem SepM.ext {w0 w : World} {H : List Pl} (S : Sep w0 w H) : Ext w0 w := ⟨S.chg.os, S.chg.tape, S.chg.output, S.chg.size, fun k hk => S.chg.block k hk (fun h => h)⟩
theorem Sep.start (w : World) : Sep w w [] := ⟨Chg.refl _ w, by simp, by simp, by simp, .nil⟩
theorem Sep.of_ext {w0 w : World} (h : Ext w0 w) : Sep w0 w [] := ⟨Chg.of_ext h, by simp, by simp, by simp, .nil⟩
theorem SepM.lt {M : Nat → Prop} {w0 w : World} {H : List Pl} (S : SepM M w0 w H) {p : Pl} (hp : p ∈ H) {b : Nat} (hb : p.own b) : w0.heap.size ≤ b ∧ b < w.heap.size := ⟨S.base p hp b hb, p.lt w b (S.ok p hp) hb⟩
theorem SepM.step {M : Nat → Prop} {w0 w w' : World} {H : List Pl} (S : SepM M w0 w H) (hE : Ext w w') : SepM M w0 w' H :=
 ⟨S.chg.trans (Chg.of_ext hE), S.small, fun p hp => p.frame w w' (S.ok p hp) (fun b hb => hE.block b (S.lt hp hb).2), S.base, S.apart⟩
theorem SepM.drew {M : Nat → Prop} {w0 w : World} {H : List Pl} (S : SepM M w0 w H) : SepM M w0 w.drew H := S.step (Ext.refl w).drew
theorem SepM.drewN {M : Nat → Prop} {w0 w : World} {H : List Pl} (S : SepM M w0 w H) (n : Nat) : SepM M w0 (w.drewN n) H := S.step ((Ext.refl w).drewN n)
theorem SepM.call {M : Nat → Prop} {w0 w w' : World} {H H' : List Pl} (S : SepM M w0 w H) (T : Sep w w' H') : SepM M w0 w' (H' ++ H) :=
 ⟨S.chg.trans (Chg.of_ext T.ext), S.small, fun p hp => by
  rcases List.mem_append.1 hp with h | h
  ·exact T.ok p h
  ·exact (S.step T.ext).ok p h, fun p hp b hb => by
  rcases List.mem_append.1 hp with h | h
  ·exact Nat.le_trans S.chg.size (T.base p h b hb)
  ·exact S.base p h b hb, List.pairwise_append.2 ⟨T.apart, S.apart, fun p hp q hq b hb hc => by
  have h1 := T.base p hp b hb; have h2 := (S.lt hq hc).2
  omega⟩⟩
theorem SepM.cons {M : Nat → Prop} {w0 w w' : World} {H : List Pl} {p : Pl} (S : SepM M w0 w H) (hE : Ext w w') (hp : p.ok w') (hn : ∀ b, p.own b → w.heap.size ≤ b) : SepM M w0 w' (p :: H) :=
 S.call (H' := [p]) ⟨Chg.of_ext hE, by simp, fun q hq => by rw [List.mem_singleton.1 hq]; exact hp, fun q hq b hb => by rw [List.mem_singleton.1 hq] at hb; exact hn b hb, List.pairwise_singleton _ _⟩
theorem Sep.one {w w' : World} {p : Pl} (hE : Ext w w') (hp : p.ok w') (hn : ∀ b, p.own b → w.heap.size ≤ b) : Sep w w' [p] := (Sep.start w).cons hE hp hn
theorem SepM.alloc {M : Nat → Prop} {w0 w : World} {H : List Pl} (S : SepM M w0 w H) (C : Array Value) (t : TypeId) : SepM M w0 (w.alloc (.cells C t)) (plBox w.heap.size C t :: H) :=
 S.cons ((Ext.refl w).alloc _) (heap_alloc_new w _) (fun b hb => by
  have : b = w.heap.size := hb
  omega)
theorem SepM.alloc_at {M : Nat → Prop} {w0 w : World} {H : List Pl} {n : Nat} (S : SepM M w0 w H) (hn : n = w.heap.size) (C : Array Value) (t : TypeId) : SepM M w0 (w.alloc (.cells C t)) (plBox n C t :: H) := by subst hn; exact S.alloc C t
theorem SepM.owned {α : Type} {M : Nat → Prop} {w0 w w' : World} {H : List Pl} (S : SepM M w0 w H) (hE : Ext w w') {base e nf : Nat} {enc : α → List Value} {v : Value} {l : List α} (hb : w.heap.size ≤ base) (h : w'.ownsRow base e nf v l.length (l.flatMap enc)) : SepM M w0 w' (plRow e nf enc v l :: H) :=
 S.cons hE (ownsRow_base h (Nat.zero_le _)) (fun b hb2 => Nat.le_trans hb (World.ownsRow.lt h b hb2).1)
theorem SepM.lit0 {α : Type} {M : Nat → Prop} {w0 w : World} {H : List Pl} (S : SepM M w0 w H) {n : Nat} (hn : n = w.heap.size) (e nf : Nat) (enc : α → List Value) : SepM M w0 (w.alloc (.cells #[] e)) (plRow e nf enc (.slice (some ⟨n, 0, none⟩) 0 0) [] :: H) := by
 subst hn
 exact S.cons (p := plRow e nf enc (.slice (some ⟨w.heap.size, 0, none⟩) 0 0) []) ((Ext.refl w).alloc _) ⟨by simp, .inr ⟨w.heap.size, 0, #[], rfl, Nat.zero_le _, heap_alloc_new w _, Nat.le_refl _, Nat.zero_le _, by simp, by simp⟩⟩ (fun b hb => by
  have : w.heap.size = b := Option.some.inj hb
  omega)
theorem SepM.nil {α : Type} {M : Nat → Prop} {w0 w : World} {H : List Pl} (S : SepM M w0 w H) (e nf : Nat) (enc : α → List Value) : SepM M w0 w (plRow e nf enc (.slice none 0 0) [] :: H) :=
 S.cons (Ext.refl w) (World.ownsRow_nil _ _ _ _) (fun b hb => by cases hb)
theorem SepM.lit {α : Type} {M : Nat → Prop} {w0 w : World} {H : List Pl} (S : SepM M w0 w H) {n : Nat} (hn : n = w.heap.size) (e nf : Nat) {enc : α → List Value} (hlen : ∀ x, (enc x).length = nf) (l : List α) {C : Array Value} {m : Nat} (hC : C.toList = l.flatMap enc) (hm : m = l.length) (hsm : m ≤ 1000000000) : SepM M w0 (w.alloc (.cells C e)) (plRow e nf enc (.slice (some ⟨n, 0, none⟩) m m) l :: H) := by
 subst hn hm
 exact S.cons (p := plRow e nf enc (.slice (some ⟨w.heap.size, 0, none⟩) l.length l.length) l) ((Ext.refl w).alloc _) (by
  have hsz : C.size = l.length * nf := by rw [← Array.length_toList, hC, flatMap_length hlen]
  refine ⟨flatMap_length hlen l, .inr ⟨w.heap.size, l.length, C, rfl, Nat.zero_le _, heap_alloc_new w _, Nat.le_refl _, by unfold maxLen; omega, hsz, ?_⟩⟩
  rw [hC, List.take_of_length_le (by rw [flatMap_length hlen]; exact Nat.le_refl _)]) (fun b hb => by
  have : w.heap.size = b := Option.some.inj hb
  omega)
theorem SepM.at_ {M : Nat → Prop} {w0 w : World} {H : List Pl} (S : SepM M w0 w H) (i : Nat) {p : Pl} (h : H[i]? = some p) : p.ok w := S.ok p (List.mem_of_getElem? h)
theorem SepM.box {M : Nat → Prop} {w0 w : World} {H : List Pl} (S : SepM M w0 w H) (i : Nat) {b : Nat} {C : Array Value} {t : TypeId} (h : H[i]? = some (plBox b C t)) : w.heap[b]? = some (.cells C t) := S.at_ i h
theorem SepM.row {α : Type} {M : Nat → Prop} {w0 w : World} {H : List Pl} (S : SepM M w0 w H) (i : Nat) {e nf : Nat} {enc : α → List Value} {v : Value} {l : List α} (h : H[i]? = some (plRow e nf enc v l)) : w.ownsRow w0.heap.size e nf v l.length (l.flatMap enc) := by
 have h0 : w.ownsRow 0 e nf v l.length (l.flatMap enc) := S.at_ i h; refine ⟨h0.1, ?_⟩
 rcases h0.2 with h2 | ⟨g, cap, cur, hv, hb, r⟩
 ·exact .inl h2
 ·exact .inr ⟨g, cap, cur, hv, (S.lt (List.mem_of_getElem? h) (show v.ownBlock = some g by rw [hv]; rfl)).1, r⟩
theorem SepM.ne {M : Nat → Prop} {w0 w : World} {H : List Pl} (S : SepM M w0 w H) {i j : Nat} {p q : Pl} (hi : H[i]? = some p) (hj : H[j]? = some q) (hij : i ≠ j) {b : Nat} (hb : p.own b) : ¬ q.own b := by
 have hp := List.pairwise_iff_getElem.1 S.apart; obtain ⟨i1, i2⟩ := List.getElem?_eq_some_iff.1 hi; obtain ⟨j1, j2⟩ := List.getElem?_eq_some_iff.1 hj
 rcases Nat.lt_or_gt_of_ne hij with h | h
 ·have := hp i j i1 j1 h b (by rw [i2]; exact hb)
  rwa [j2] at this
 ·intro e; have := hp j i j1 i1 h b (by rw [j2]; exact e); rw [i2] at this; exact this hb
theorem SepM.bne {M : Nat → Prop} {w0 w : World} {H : List Pl} (S : SepM M w0 w H) (i j : Nat) {b c : Nat} {C D : Array Value} {t s : TypeId} (hi : H[i]? = some (plBox b C t)) (hj : H[j]? = some (plBox c D s)) (hij : i ≠ j) : b ≠ c := fun e => S.ne hi hj hij (show b = b from rfl) e
theorem SepM.put {M : Nat → Prop} {w0 w w' : World} {H : List Pl} (S : SepM M w0 w H) (i : Nat) {p q : Pl} (h : H[i]? = some p) (hg : Chg p.own w w') (hq : q.ok w') (hblk : ∀ b, q.own b → p.own b ∨ w.heap.size ≤ b) : SepM M w0 w' (H.set i q) := by
 have hm := List.mem_of_getElem? h; have hi := (List.getElem?_eq_some_iff.1 h).1
 have hok : ∀ j r, H[j]? = some r → j ≠ i → r.ok w' := fun j r hj hne =>
  r.frame w w' (S.at_ j hj) (fun b hb => hg.block b (S.lt (List.mem_of_getElem? hj) hb).2 (fun e => S.ne h hj (fun e => hne e.symm) e hb))
 refine ⟨⟨hg.os.trans S.chg.os, hg.tape.trans S.chg.tape, hg.output.trans S.chg.output, Nat.le_trans S.chg.size hg.size, fun k hk hn => (hg.block k (Nat.lt_of_lt_of_le hk S.chg.size) (fun hs => by have := (S.lt hm hs).1; omega)).trans (S.chg.block k hk hn)⟩, S.small, fun r hr => ?_, fun r hr b hb => ?_, ?_⟩
 ·obtain ⟨j, hj⟩ := List.getElem?_of_mem hr
  by_cases hji : i = j
  ·subst hji; rw [List.getElem?_set_self hi] at hj
   cases hj; exact hq
  ·rw [List.getElem?_set_ne hji] at hj; exact hok j r hj (fun e => hji e.symm)
 ·obtain ⟨j, hj⟩ := List.getElem?_of_mem hr
  by_cases hji : i = j
  ·subst hji; rw [List.getElem?_set_self hi] at hj
   cases hj
   rcases hblk b hb with h2 | h2
   ·exact (S.lt hm h2).1
   ·exact Nat.le_trans S.chg.size h2
  ·rw [List.getElem?_set_ne hji] at hj; exact S.base r (List.mem_of_getElem? hj) b hb
 ·rw [List.pairwise_iff_getElem]; intro j k hj hk hjk b hb; simp only [List.length_set] at hj hk; rw [List.getElem_set] at hb ⊢; have h1 := List.pairwise_iff_getElem.1 S.apart j k hj hk hjk
  by_cases e1 : i = j
  ·subst e1; rw [if_pos rfl] at hb; rw [if_neg (by omega)]
   rcases hblk b hb with h2 | h2
   ·exact S.ne h (List.getElem?_eq_getElem hk) (by omega) h2
   ·intro e; have := (S.lt (List.getElem_mem hk) e).2; omega
  ·rw [if_neg e1] at hb
   by_cases e2 : i = k
   ·subst e2; rw [if_pos rfl]; intro e
    rcases hblk b e with h2 | h2
    ·exact S.ne (List.getElem?_eq_getElem hj) h (by omega) hb h2
    ·have := (S.lt (List.getElem_mem hj) hb).2; omega
   ·rw [if_neg e2]; exact h1 b hb
theorem SepM.set {M : Nat → Prop} {w0 w : World} {H : List Pl} (S : SepM M w0 w H) (i : Nat) {b : Nat} {C : Array Value} {t : TypeId} (h : H[i]? = some (plBox b C t)) (o : Nat) (u : Value) : SepM M w0 (w.setCell ⟨b, o, none⟩ u) (H.set i (plBox b (C.setIfInBounds o u) t)) :=
 S.put i h (Chg.setCell w b o u) (by
  have := S.box i h
  show (w.setCell ⟨b, o, none⟩ u).heap[b]? = _
  simp [World.setCell, Array.getElem?_modify, this]) (fun c hc => .inl hc)
theorem SepM.grow {α : Type} {M : Nat → Prop} {w0 w w' : World} {H : List Pl} (S : SepM M w0 w H) (i : Nat) {base e nf : Nat} {enc : α → List Value} {v v' : Value} {l l' : List α} (h : H[i]? = some (plRow e nf enc v l)) (hg : w.grownBy w' v.ownBlock) (ho : w'.ownsRow base e nf v' l'.length (l'.flatMap enc)) (hblk : ∀ b, v'.ownBlock = some b → v.ownBlock = some b ∨ w.heap.size ≤ b) : SepM M w0 w' (H.set i (plRow e nf enc v' l')) :=
 S.put i h (Chg.of_grown hg) (ownsRow_base ho (Nat.zero_le _)) hblk
theorem SepM.rowSet {α : Type} {M : Nat → Prop} {w0 w : World} {H : List Pl} (S : SepM M w0 w H) (i : Nat) {e nf : Nat} {enc : α → List Value} (hn : ∀ x, (enc x).length = nf) {g n cap : Nat} {L : List α} (h : H[i]? = some (plRow e nf enc (.slice (some ⟨g, 0, none⟩) n cap) L)) (hnL : n = L.length) (k j : Nat) (u : Value) (x' : α) (hk : k < L.length) (hj : j < nf) (hx : enc x' = (enc L[k]).set j u) :
  SepM M w0 (w.setCell ⟨g, k * nf + j, none⟩ u) (H.set i (plRow e nf enc (.slice (some ⟨g, 0, none⟩) n cap) (L.set k x'))) := by
 subst hnL; have h0 := S.row i h; refine S.put i h ((Chg.setCell w g (k * nf + j) u).mono (fun b hb _ => by show some g = some b; rw [hb])) ?_ (fun b hb => .inl hb); have := owns_set hn (ownsRow_base h0 (Nat.zero_le _)) k j u x' hk hj hx
 show World.ownsRow _ 0 e nf _ (L.set k x').length _
 rw [List.length_set]; exact this
theorem SepM.keep {M : Nat → Prop} {w0 w : World} {H : List Pl} (S : SepM M w0 w H) (H' : List Pl) (h : H'.Sublist H) : SepM M w0 w H' :=
 ⟨S.chg, S.small, fun p hp => S.ok p (h.subset hp), fun p hp => S.base p (h.subset hp), S.apart.sublist h⟩
theorem SepM.drop {M : Nat → Prop} {w0 w : World} {H : List Pl} (S : SepM M w0 w H) (i : Nat) : SepM M w0 w (H.eraseIdx i) := S.keep _ (List.eraseIdx_sublist ..)
theorem SepM.perm {M : Nat → Prop} {w0 w : World} {H H' : List Pl} (S : SepM M w0 w H) (h : H.Perm H') : SepM M w0 w H' :=
 ⟨S.chg, S.small, fun p hp => S.ok p (h.mem_iff.2 hp), fun p hp => S.base p (h.mem_iff.2 hp), S.apart.perm h (fun hab b hb ha => hab b ha hb)⟩
theorem Sep.since {w0 w1 w : World} {H : List Pl} (S : Sep w1 w H) (hE : Ext w0 w1) : Sep w0 w H := by
 have := (Sep.of_ext hE).call S
 rwa [List.append_nil] at this
theorem bx {w : World} {b : Nat} {C : Array Value} {t : TypeId} (h : w.heap[b]? = some (.cells C t)) (o : Nat) {v : Value} (hv : C[o]? = some v) : w.cell? ⟨b, o, none⟩ = some v ∧ w.frozen? ⟨b, o, none⟩ = false := by
 refine ⟨?_, ?_⟩
 ·simp [World.cell?, h, hv]
 ·simp [World.frozen?, h]
theorem bx2 {w : World} {b t : Nat} {a0 a1 : Value} (h : w.heap[b]? = some (.cells #[a0, a1] t)) : (w.cell? ⟨b, 0, none⟩ = some a0 ∧ w.frozen? ⟨b, 0, none⟩ = false) ∧ (w.cell? ⟨b, 1, none⟩ = some a1 ∧ w.frozen? ⟨b, 1, none⟩ = false) :=
 ⟨bx h 0 rfl, bx h 1 rfl⟩
theorem bx3 {w : World} {b t : Nat} {a0 a1 a2 : Value} (h : w.heap[b]? = some (.cells #[a0, a1, a2] t)) : (w.cell? ⟨b, 0, none⟩ = some a0 ∧ w.frozen? ⟨b, 0, none⟩ = false) ∧ (w.cell? ⟨b, 1, none⟩ = some a1 ∧ w.frozen? ⟨b, 1, none⟩ = false) ∧ (w.cell? ⟨b, 2, none⟩ = some a2 ∧ w.frozen? ⟨b, 2, none⟩ = false) :=
 ⟨bx h 0 rfl, bx h 1 rfl, bx h 2 rfl⟩
theorem bx4 {w : World} {b t : Nat} {a0 a1 a2 a3 : Value} (h : w.heap[b]? = some (.cells #[a0, a1, a2, a3] t)) : (w.cell? ⟨b, 0, none⟩ = some a0 ∧ w.frozen? ⟨b, 0, none⟩ = false) ∧ (w.cell? ⟨b, 1, none⟩ = some a1 ∧ w.frozen? ⟨b, 1, none⟩ = false) ∧ (w.cell? ⟨b, 2, none⟩ = some a2 ∧ w.frozen? ⟨b, 2, none⟩ = false) ∧ (w.cell? ⟨b, 3, none⟩ = some a3 ∧ w.frozen? ⟨b, 3, none⟩ = false) :=
 ⟨bx h 0 rfl, bx h 1 rfl, bx h 2 rfl, bx h 3 rfl⟩
theorem bx5 {w : World} {b t : Nat} {a0 a1 a2 a3 a4 : Value} (h : w.heap[b]? = some (.cells #[a0, a1, a2, a3, a4] t)) : (w.cell? ⟨b, 0, none⟩ = some a0 ∧ w.frozen? ⟨b, 0, none⟩ = false) ∧ (w.cell? ⟨b, 1, none⟩ = some a1 ∧ w.frozen? ⟨b, 1, none⟩ = false) ∧ (w.cell? ⟨b, 2, none⟩ = some a2 ∧ w.frozen? ⟨b, 2, none⟩ = false) ∧ (w.cell? ⟨b, 3, none⟩ = some a3 ∧ w.frozen? ⟨b, 3, none⟩ = false) ∧ (w.cell? ⟨b, 4, none⟩ = some a4 ∧ w.frozen? ⟨b, 4, none⟩ = false) :=
 ⟨bx h 0 rfl, bx h 1 rfl, bx h 2 rfl, bx h 3 rfl, bx h 4 rfl⟩
theorem bx6 {w : World} {b t : Nat} {a0 a1 a2 a3 a4 a5 : Value} (h : w.heap[b]? = some (.cells #[a0, a1, a2, a3, a4, a5] t)) : (w.cell? ⟨b, 0, none⟩ = some a0 ∧ w.frozen? ⟨b, 0, none⟩ = false) ∧ (w.cell? ⟨b, 1, none⟩ = some a1 ∧ w.frozen? ⟨b, 1, none⟩ = false) ∧ (w.cell? ⟨b, 2, none⟩ = some a2 ∧ w.frozen? ⟨b, 2, none⟩ = false) ∧ (w.cell? ⟨b, 3, none⟩ = some a3 ∧ w.frozen? ⟨b, 3, none⟩ = false) ∧ (w.cell? ⟨b, 4, none⟩ = some a4 ∧ w.frozen? ⟨b, 4, none⟩ = false) ∧ (w.cell? ⟨b, 5, none⟩ = some a5 ∧ w.frozen? ⟨b, 5, none⟩ = false) :=
 ⟨bx h 0 rfl, bx h 1 rfl, bx h 2 rfl, bx h 3 rfl, bx h 4 rfl, bx h 5 rfl⟩
theorem bx7 {w : World} {b t : Nat} {a0 a1 a2 a3 a4 a5 a6 : Value} (h : w.heap[b]? = some (.cells #[a0, a1, a2, a3, a4, a5, a6] t)) : (w.cell? ⟨b, 0, none⟩ = some a0 ∧ w.frozen? ⟨b, 0, none⟩ = false) ∧ (w.cell? ⟨b, 1, none⟩ = some a1 ∧ w.frozen? ⟨b, 1, none⟩ = false) ∧ (w.cell? ⟨b, 2, none⟩ = some a2 ∧ w.frozen? ⟨b, 2, none⟩ = false) ∧ (w.cell? ⟨b, 3, none⟩ = some a3 ∧ w.frozen? ⟨b, 3, none⟩ = false) ∧ (w.cell? ⟨b, 4, none⟩ = some a4 ∧ w.frozen? ⟨b, 4, none⟩ = false) ∧ (w.cell? ⟨b, 5, none⟩ = some a5 ∧ w.frozen? ⟨b, 5, none⟩ = false) ∧ (w.cell? ⟨b, 6, none⟩ = some a6 ∧ w.frozen? ⟨b, 6, none⟩ = false) :=
 ⟨bx h 0 rfl, bx h 1 rfl, bx h 2 rfl, bx h 3 rfl, bx h 4 rfl, bx h 5 rfl, bx h 6 rfl⟩
theorem lc3 {i : Nat} (h : i < 3) : i = 0 ∨ i = 1 ∨ i = 2 := by omega
theorem lc5 {i : Nat} (h : i < 5) : i = 0 ∨ i = 1 ∨ i = 2 ∨ i = 3 ∨ i = 4 := by omega
theorem lc6 {i : Nat} (h : i < 6) : i = 0 ∨ i = 1 ∨ i = 2 ∨ i = 3 ∨ i = 4 ∨ i = 5 := by omega
theorem lc7 {i : Nat} (h : i < 7) : i = 0 ∨ i = 1 ∨ i = 2 ∨ i = 3 ∨ i = 4 ∨ i = 5 ∨ i = 6 := by omega
theorem lc8 {i : Nat} (h : i < 8) : i = 0 ∨ i = 1 ∨ i = 2 ∨ i = 3 ∨ i = 4 ∨ i = 5 ∨ i = 6 ∨ i = 7 := by omega
theorem lc9 {i : Nat} (h : i < 9) : i = 0 ∨ i = 1 ∨ i = 2 ∨ i = 3 ∨ i = 4 ∨ i = 5 ∨ i = 6 ∨ i = 7 ∨ i = 8 := by omega
theorem lc10 {i : Nat} (h : i < 10) : i = 0 ∨ i = 1 ∨ i = 2 ∨ i = 3 ∨ i = 4 ∨ i = 5 ∨ i = 6 ∨ i = 7 ∨ i = 8 ∨ i = 9 := by omega
theorem lc11 {i : Nat} (h : i < 11) : i = 0 ∨ i = 1 ∨ i = 2 ∨ i = 3 ∨ i = 4 ∨ i = 5 ∨ i = 6 ∨ i = 7 ∨ i = 8 ∨ i = 9 ∨ i = 10 := by omega
theorem lc12 {i : Nat} (h : i < 12) : i = 0 ∨ i = 1 ∨ i = 2 ∨ i = 3 ∨ i = 4 ∨ i = 5 ∨ i = 6 ∨ i = 7 ∨ i = 8 ∨ i = 9 ∨ i = 10 ∨ i = 11 := by omega
theorem lc13 {i : Nat} (h : i < 13) : i = 0 ∨ i = 1 ∨ i = 2 ∨ i = 3 ∨ i = 4 ∨ i = 5 ∨ i = 6 ∨ i = 7 ∨ i = 8 ∨ i = 9 ∨ i = 10 ∨ i = 11 ∨ i = 12 := by omega
theorem lc14 {i : Nat} (h : i < 14) : i = 0 ∨ i = 1 ∨ i = 2 ∨ i = 3 ∨ i = 4 ∨ i = 5 ∨ i = 6 ∨ i = 7 ∨ i = 8 ∨ i = 9 ∨ i = 10 ∨ i = 11 ∨ i = 12 ∨ i = 13 := by omega
theorem lc15 {i : Nat} (h : i < 15) : i = 0 ∨ i = 1 ∨ i = 2 ∨ i = 3 ∨ i = 4 ∨ i = 5 ∨ i = 6 ∨ i = 7 ∨ i = 8 ∨ i = 9 ∨ i = 10 ∨ i = 11 ∨ i = 12 ∨ i = 13 ∨ i = 14 := by omega
theorem hd0 {p : Prop} (h : p) : Hid p := Lib.hid h
theorem Sep.of_owns {α : Type} {w w' : World} {e nf : Nat} {enc : α → List Value} {v : Value} {l : List α} (hE : Ext w w') (h : w'.ownsRow w.heap.size e nf v l.length (l.flatMap enc)) : Sep w w' [plRow e nf enc v l] :=
 (Sep.start w).owned hE (Nat.le_refl _) h
theorem SepM.rd {α : Type} {M : Nat → Prop} {w0 w : World} {H : List Pl} (S : SepM M w0 w H) (i : Nat) {e nf : Nat} {enc : α → List Value} (hn : ∀ x, (enc x).length = nf) {a : Option Addr} {cap n : Nat} {l : List α} (h : H[i]? = some (plRow e nf enc (.slice a n cap) l)) (hl : n = l.length) : Rd nf enc w a l := by
 subst hl; exact rd_owns hn (S.row i h) rfl
theorem SepM.other {M : Nat → Prop} {w0 w w' : World} {H : List Pl} (S : SepM M w0 w H) (hc : Chg M w w') : SepM M w0 w' H :=
 ⟨S.chg.trans hc, S.small, fun p hp => p.frame w w' (S.ok p hp) (fun b hb => hc.block b (S.lt hp hb).2 (fun hm => by
  have h1 := S.small b hm; have h2 := (S.lt hp hb).1
  omega)), S.base, S.apart⟩
def RetSep (Q : Value → List Pl → Prop) (w : World) (e : Ending) (w' : World) : Prop := ∃ v H, e = .returned v ∧ Q v H ∧ Sep w w' H
theorem RetSep.mk {Q : Value → List Pl → Prop} {w w' : World} {v : Value} {H : List Pl} (h : Q v H) (S : Sep w w' H) : RetSep Q w (.returned v) w' := ⟨v, H, rfl, h, S⟩
structure Sl where
 a : Option Addr
 n : Nat
 c : Nat
def Sl.v (s : Sl) : Value := .slice s.a s.n s.c
def RdT (w : World) (a : Option Addr) (T : List (List Int)) : Prop :=
 ∀ i t, T[i]? = some t → ∃ b off ai ci, a = some ⟨b, off, none⟩ ∧ w.cell? ⟨b, off + i, none⟩ = some (.slice ai t.length ci) ∧ t.length ≤ ci ∧ Rd 1 encInt1 w ai t
theorem RdT.ext {w w' : World} {a : Option Addr} {T : List (List Int)} (h : RdT w a T) (hb : Ext w w') : RdT w' a T := by
 intro i t hi; obtain ⟨b, off, ai, ci, ha, hc, hl, hr⟩ := h i t hi; exact ⟨b, off, ai, ci, ha, cell_ext hb hc, hl, hr.ext hb⟩
theorem RdT.nil {w : World} {a : Option Addr} : RdT w a [] := fun i t h => by simp at h
theorem SepM.put' {M : Nat → Prop} {w0 w w' : World} {H : List Pl} (S : SepM M w0 w H) (i : Nat) {p q : Pl} (h : H[i]? = some p) (hg : Chg p.own w w') (hq : q.ok w') (hblk : ∀ b, q.own b → p.own b ∨ w.heap.size ≤ b ∨ (w0.heap.size ≤ b ∧ ∀ r ∈ H, ¬ r.own b)) : SepM M w0 w' (H.set i q) := by
 have hm := List.mem_of_getElem? h; have hi := (List.getElem?_eq_some_iff.1 h).1
 have hok : ∀ j r, H[j]? = some r → j ≠ i → r.ok w' := fun j r hj hne =>
  r.frame w w' (S.at_ j hj) (fun b hb => hg.block b (S.lt (List.mem_of_getElem? hj) hb).2 (fun e => S.ne h hj (fun e => hne e.symm) e hb))
 refine ⟨⟨hg.os.trans S.chg.os, hg.tape.trans S.chg.tape, hg.output.trans S.chg.output, Nat.le_trans S.chg.size hg.size, fun k hk hn => (hg.block k (Nat.lt_of_lt_of_le hk S.chg.size) (fun hs => by have := (S.lt hm hs).1; omega)).trans (S.chg.block k hk hn)⟩, S.small, fun r hr => ?_, fun r hr b hb => ?_, ?_⟩
 ·obtain ⟨j, hj⟩ := List.getElem?_of_mem hr
  by_cases hji : i = j
  ·subst hji; rw [List.getElem?_set_self hi] at hj
   cases hj; exact hq
  ·rw [List.getElem?_set_ne hji] at hj; exact hok j r hj (fun e => hji e.symm)
 ·obtain ⟨j, hj⟩ := List.getElem?_of_mem hr
  by_cases hji : i = j
  ·subst hji; rw [List.getElem?_set_self hi] at hj
   cases hj
   rcases hblk b hb with h2 | h2 | h2
   ·exact (S.lt hm h2).1
   ·exact Nat.le_trans S.chg.size h2
   ·exact h2.1
  ·rw [List.getElem?_set_ne hji] at hj; exact S.base r (List.mem_of_getElem? hj) b hb
 ·rw [List.pairwise_iff_getElem]; intro j k hj hk hjk b hb; simp only [List.length_set] at hj hk; rw [List.getElem_set] at hb ⊢; have h1 := List.pairwise_iff_getElem.1 S.apart j k hj hk hjk
  by_cases e1 : i = j
  ·subst e1; rw [if_pos rfl] at hb; rw [if_neg (by omega)]
   rcases hblk b hb with h2 | h2 | h2
   ·exact S.ne h (List.getElem?_eq_getElem hk) (by omega) h2
   ·intro e; have := (S.lt (List.getElem_mem hk) e).2; omega
   ·exact h2.2 _ (List.getElem_mem hk)
  ·rw [if_neg e1] at hb
   by_cases e2 : i = k
   ·subst e2; rw [if_pos rfl]; intro e
    rcases hblk b e with h2 | h2 | h2
    ·exact S.ne (List.getElem?_eq_getElem hj) h (by omega) hb h2
    ·have := (S.lt (List.getElem_mem hj) hb).2; omega
    ·exact h2.2 _ (List.getElem_mem hj) hb
   ·rw [if_neg e2]; exact h1 b hb
def plNone : Pl where
 own _ := False
 ok _ := True
 frame := fun _ _ h _ => h
 lt := fun _ _ _ h => h.elim
theorem SepM.fuse {M : Nat → Prop} {w0 w w' : World} {H : List Pl} (S : SepM M w0 w H) (i j : Nat) {p q r : Pl} (hi : H[i]? = some p) (hj : H[j]? = some r) (hij : i ≠ j) (hg : Chg p.own w w') (hq : r.ok w' → q.ok w') (hblk : ∀ b, q.own b → p.own b ∨ r.own b ∨ w.heap.size ≤ b) : SepM M w0 w' ((H.set i q).eraseIdx j) := by
 have hrm := List.mem_of_getElem? hj; have hr' : r.ok w' := r.frame w w' (S.at_ j hj) (fun b hb => hg.block b (S.lt hrm hb).2 (fun e => S.ne hi hj hij e hb)); have S1 : SepM M w0 w (H.set j plNone) := S.put j hj ((Chg.refl _ w)) trivial (fun b hb => hb.elim)
 have hi1 : (H.set j plNone)[i]? = some p := by rw [List.getElem?_set_ne (fun e => hij e.symm)]; exact hi
 have S2 : SepM M w0 w' ((H.set j plNone).set i q) := S1.put' i hi1 hg (hq hr') (fun b hb => by
  rcases hblk b hb with h | h | h
  ·exact .inl h
  ·refine .inr (.inr ⟨(S.lt hrm h).1, fun m hm hmb => ?_⟩); obtain ⟨k, hk⟩ := List.getElem?_of_mem hm
   by_cases hkj : j = k
   ·subst hkj; rw [List.getElem?_set_self (List.getElem?_eq_some_iff.1 hj).1] at hk
    cases hk; exact hmb
   ·rw [List.getElem?_set_ne hkj] at hk; exact S.ne hj hk hkj h hmb
  ·exact .inr (.inl h))
 have S3 := S2.drop j
 have e : ((H.set j plNone).set i q).eraseIdx j = (H.set i q).eraseIdx j := by
  rw [List.set_comm _ _ (fun e => hij e.symm)]; apply List.ext_getElem?; intro k; simp only [List.getElem?_eraseIdx]
  split
  ·rw [List.getElem?_set_ne (by omega)]
  ·rw [List.getElem?_set_ne (by omega)]
 rw [e] at S3; exact S3
section
variable {M : Nat → Prop} {w0 w w' : World} {H : List Pl}
end
structure Pin (β α : Type) where
 own : β → Nat → Prop
 ok : β → α → World → Prop
 frame : ∀ s t w w', ok s t w → (∀ b, own s b → w'.heap[b]? = w.heap[b]?) → ok s t w'
 lt : ∀ s t w b, ok s t w → own s b → b < w.heap.size
def Pin.one {β α : Type} (P : Pin β α) (s : β) (t : α) : Pl := ⟨P.own s, P.ok s t, P.frame s t, P.lt s t⟩
section
variable {β α : Type}
def plG (e nf : Nat) (enc : β → List Value) (P : Pin β α) (u : Value) (vs : List β) (T : List α) : Pl where
 own b := u.ownBlock = some b ∨ ∃ s ∈ vs, P.own s b
 ok w := w.ownsRow 0 e nf u vs.length (vs.flatMap enc) ∧ vs.length = T.length ∧ (∀ (i : Nat) (s : β) (t : α), vs[i]? = some s → T[i]? = some t → P.ok s t w) ∧
  (∀ s ∈ vs, ∀ b : Nat, P.own s b → u.ownBlock ≠ some b) ∧ (∀ (i j : Nat) (s s' : β), i ≠ j → vs[i]? = some s → vs[j]? = some s' → ∀ b : Nat, P.own s b → ¬ P.own s' b)
 frame := fun w w' h hf => by
  obtain ⟨h1, h2, h3, h4, h5⟩ := h; exact ⟨(plRow e nf enc u vs).frame w w' h1 (fun b hb => hf b (.inl hb)), h2, fun i s t hs ht => P.frame s t w w' (h3 i s t hs ht) (fun b hb => hf b (.inr ⟨s, List.mem_of_getElem? hs, hb⟩)), h4, h5⟩
 lt := fun w k h hk => by
  obtain ⟨h1, h2, h3, h4, h5⟩ := h
  rcases hk with hk | ⟨s, hs, hk⟩
  ·exact (plRow e nf enc u vs).lt w k h1 hk
  ·obtain ⟨i, hi⟩ := List.getElem?_of_mem hs; have hil := (List.getElem?_eq_some_iff.1 hi).1; exact P.lt s T[i] w k (h3 i s T[i] hi (List.getElem?_eq_getElem (by omega))) hk
variable {e nf : Nat} {enc : β → List Value} {P : Pin β α}
theorem plG_len {w : World} {u : Value} {vs : List β} {T : List α} (h : (plG e nf enc P u vs T).ok w) : vs.length = T.length := h.2.1
theorem plG_make {w : World} {u : Value} {n : Nat} {z : β} {zt : α} (hz : ∀ w, P.ok z zt w) (hn : ∀ b, ¬ P.own z b) (h : w.ownsRow 0 e nf u n ((List.replicate n z).flatMap enc)) : (plG e nf enc P u (List.replicate n z) (List.replicate n zt)).ok w := by
 have key : ∀ (i : Nat) (s : β), (List.replicate n z)[i]? = some s → s = z := fun i s hs => (List.mem_replicate.1 (List.mem_of_getElem? hs)).2
 refine ⟨by rw [List.length_replicate]; exact h, by simp, fun i s t hs ht => ?_, fun s hs b hb => ?_, fun i j s s' _ hs hs' b hb => ?_⟩
 ·rw [key i s hs, (List.mem_replicate.1 (List.mem_of_getElem? ht)).2]; exact hz w
 ·rw [(List.mem_replicate.1 hs).2] at hb; exact absurd hb (hn b)
 ·rw [key i s hs] at hb; exact absurd hb (hn b)
theorem chg_setCells (w : World) (g p : Nat) (us : List Value) : Chg (fun k => k = g) w (setCells w g p us) :=
 (Chg.of_row (grown_setCells us p (grown_of_ext (Ext.refl w) (some g)))).mono (fun k hk _ => (Option.some.inj hk).symm)
variable {M : Nat → Prop} {w0 w w' : World} {H : List Pl}
theorem SepM.gRow (S : SepM M w0 w H) (i : Nat) {u : Value} {vs : List β} {T : List α} (h : H[i]? = some (plG e nf enc P u vs T)) : w.ownsRow w0.heap.size e nf u vs.length (vs.flatMap enc) := by
 have h0 := (S.at_ i h).1; refine ⟨h0.1, ?_⟩
 rcases h0.2 with h2 | ⟨g, cap, cur, hv, hb, r⟩
 ·exact .inl h2
 ·exact .inr ⟨g, cap, cur, hv, (S.lt (List.mem_of_getElem? h) (show u.ownBlock = some g ∨ _ from .inl (by rw [hv]; rfl))).1, r⟩
theorem SepM.gPut (S : SepM M w0 w H) (i j : Nat) (hn : ∀ x, (enc x).length = nf) {g n cap : Nat} {vs : List β} {T : List α} {s : β} {t : α} {k : Nat} (hi : H[i]? = some (plG e nf enc P (.slice (some ⟨g, 0, none⟩) n cap) vs T)) (hj : H[j]? = some (P.one s t)) (hij : i ≠ j) (hk : k < vs.length) :
  SepM M w0 (setCells w g (k * nf) (enc s)) ((H.set i (plG e nf enc P (.slice (some ⟨g, 0, none⟩) n cap) (vs.set k s) (T.set k t))).eraseIdx j) := by
 obtain ⟨h1, h2, h3, h4, h5⟩ := S.at_ i hi; have hjm := List.mem_of_getElem? hj
 have hnew : ∀ b, P.own s b → ¬ (plG e nf enc P (.slice (some ⟨g, 0, none⟩) n cap) vs T).own b := fun b hb => S.ne hj hi (fun e => hij e.symm) hb
 have hlen : n = vs.length := by
  rcases h1.2 with ⟨e, _⟩ | ⟨g', cap', cur, e, _⟩
  ·simp at e
  ·simp only [Value.slice.injEq] at e; exact e.2.1
 have hset := owns_put hn (show w.ownsRow 0 e nf (.slice (some ⟨g, 0, none⟩) n cap) n (vs.flatMap enc) by rw [hlen]; rw [hlen] at h1; exact h1) k s hk; have hchg := chg_setCells w g (k * nf) (enc s); refine S.fuse i j hi hj hij (hchg.mono (fun b hb _ => .inl (by rw [hb]; rfl))) (fun hr => ⟨by rw [List.length_set, ← hlen]; exact hset, by simp [h2], fun l s2 t2 hs2 ht2 => ?_, fun s2 hs2 b hb hb2 => ?_, fun l m s2 s3 hlm hs2 hs3 b hb hb3 => ?_⟩) (fun b hb => ?_)
 ·by_cases hlk : k = l
  ·subst hlk; rw [List.getElem?_set_self hk] at hs2; rw [List.getElem?_set_self (by omega)] at ht2
   cases hs2; cases ht2
   exact hr
  ·rw [List.getElem?_set_ne hlk] at hs2 ht2; have h6 := h3 l s2 t2 hs2 ht2; exact P.frame s2 t2 w _ h6 (fun b hb => hchg.block b (P.lt s2 t2 w b h6 hb) (fun e => h4 s2 (List.mem_of_getElem? hs2) b hb (by rw [e]; rfl)))
 ·rcases List.mem_or_eq_of_mem_set hs2 with hs2 | rfl
  ·exact h4 s2 hs2 b hb hb2
  ·exact hnew b hb (.inl hb2)
 ·by_cases hlk : k = l
  ·subst hlk; rw [List.getElem?_set_self hk] at hs2
   cases hs2
   rw [List.getElem?_set_ne hlm] at hs3; exact hnew b hb (.inr ⟨s3, List.mem_of_getElem? hs3, hb3⟩)
  ·rw [List.getElem?_set_ne hlk] at hs2
   by_cases hmk : k = m
   ·subst hmk; rw [List.getElem?_set_self hk] at hs3
    cases hs3
    exact hnew b hb3 (.inr ⟨s2, List.mem_of_getElem? hs2, hb⟩)
   ·rw [List.getElem?_set_ne hmk] at hs3; exact h5 l m s2 s3 hlm hs2 hs3 b hb hb3
 ·rcases hb with hb | ⟨s2, hs2, hb⟩
  ·exact .inl (.inl hb)
  ·rcases List.mem_or_eq_of_mem_set hs2 with hs2 | rfl
   ·exact .inl (.inr ⟨s2, hs2, hb⟩)
   ·exact .inr (.inl hb)
end
@[ext] structure Nd where
 fold : Bool
 own : Int
 grp : Int
 mode : Int
 text : ByteArray
 N : List ByteArray
 K : List Int
structure Nc where
 n : Nd
 an : Option Addr
 cn : Nat
 ak : Option Addr
 ck : Nat
def encNc (c : Nc) : List Value := [.bool c.n.fold, .int .i64 c.n.own, .int .i64 c.n.grp, .int .i64 c.n.mode, .string c.n.text, .slice c.an c.n.N.length c.cn, .slice c.ak c.n.K.length c.ck]
theorem encNc_len (c : Nc) : (encNc c).length = 7 := rfl
theorem encNc_one (c : Nc) : ∀ u ∈ encNc c, u.oneCell' = true := by simp [encNc, Value.oneCell']
def Nc.rd (w : World) (c : Nc) : Prop := c.n.N.length ≤ c.cn ∧ c.n.K.length ≤ c.ck ∧ Rd 1 encStr1 w c.an c.n.N ∧ Rd 1 encInt1 w c.ak c.n.K
theorem Nc.rd.ext {w w' : World} {c : Nc} (h : c.rd w) (hE : Ext w w') : c.rd w' := ⟨h.1, h.2.1, h.2.2.1.ext hE, h.2.2.2.ext hE⟩
def RdN (w : World) (a : Option Addr) (T : List Nd) : Prop := ∃ vs : List Nc, vs.map (·.n) = T ∧ Rd 7 encNc w a vs ∧ ∀ c ∈ vs, c.rd w
theorem RdN.ext {w w' : World} {a : Option Addr} {T : List Nd} (h : RdN w a T) (hE : Ext w w') : RdN w' a T := by
 obtain ⟨vs, h1, h2, h3⟩ := h; exact ⟨vs, h1, h2.ext hE, fun c hc => (h3 c hc).ext hE⟩
theorem atNd {w : World} {a : Option Addr} {T : List Nd} (h : RdN w a T) {k : Nat} (hk : k < T.length) :
  ∃ (x : Nd) (b off : Nat) (an : Option Addr) (cn : Nat) (ak : Option Addr) (ck : Nat), T[k]? = some x ∧ a = some ⟨b, off, none⟩ ∧ w.cell? ⟨b, off + k * 7, none⟩ = some (.bool x.fold) ∧ w.cell? ⟨b, off + k * 7 + 1, none⟩ = some (.int .i64 x.own) ∧ w.cell? ⟨b, off + k * 7 + 2, none⟩ = some (.int .i64 x.grp) ∧
   w.cell? ⟨b, off + k * 7 + 3, none⟩ = some (.int .i64 x.mode) ∧ w.cell? ⟨b, off + k * 7 + 4, none⟩ = some (.string x.text) ∧ w.cell? ⟨b, off + k * 7 + 5, none⟩ = some (.slice an x.N.length cn) ∧ w.cell? ⟨b, off + k * 7 + 6, none⟩ = some (.slice ak x.K.length ck) ∧
   x.N.length ≤ cn ∧ x.K.length ≤ ck ∧ Rd 1 encStr1 w an x.N ∧ Rd 1 encInt1 w ak x.K := by
 obtain ⟨vs, rfl, h2, h3⟩ := h
 have hk' : k < vs.length := by simpa using hk
 obtain ⟨b, off, ha, hc⟩ := h2 k hk'; obtain ⟨g1, g2, g3, g4⟩ := h3 vs[k] (List.getElem_mem hk'); refine ⟨vs[k].n, b, off, vs[k].an, vs[k].cn, vs[k].ak, vs[k].ck, by rw [List.getElem?_map, List.getElem?_eq_getElem hk']; rfl, ha, hc 0 _ rfl, hc 1 _ rfl, hc 2 _ rfl, hc 3 _ rfl, hc 4 _ rfl, hc 5 _ rfl, hc 6 _ rfl, g1, g2, g3, g4⟩
def pinNd : Pin Nc Nd where
 own c b := (Value.slice c.an c.n.N.length c.cn).ownBlock = some b ∨ (Value.slice c.ak c.n.K.length c.ck).ownBlock = some b
 ok c n w := c.n = n ∧ w.ownsRow 0 9 1 (.slice c.an c.n.N.length c.cn) c.n.N.length (c.n.N.flatMap encStr1) ∧ w.ownsRow 0 3 1 (.slice c.ak c.n.K.length c.ck) c.n.K.length (c.n.K.flatMap encInt1) ∧
  ∀ b : Nat, (Value.slice c.an c.n.N.length c.cn).ownBlock = some b → (Value.slice c.ak c.n.K.length c.ck).ownBlock ≠ some b
 frame c n w w' h hf := ⟨h.1, (plRow 9 1 encStr1 (.slice c.an c.n.N.length c.cn) c.n.N).frame w w' h.2.1 (fun b hb => hf b (.inl hb)), (plRow 3 1 encInt1 (.slice c.ak c.n.K.length c.ck) c.n.K).frame w w' h.2.2.1 (fun b hb => hf b (.inr hb)), h.2.2.2⟩
 lt c n w b h hb := hb.elim (fun hb => (plRow 9 1 encStr1 (.slice c.an c.n.N.length c.cn) c.n.N).lt w b h.2.1 hb) (fun hb => (plRow 3 1 encInt1 (.slice c.ak c.n.K.length c.ck) c.n.K).lt w b h.2.2.1 hb)
theorem pin_rd {c : Nc} {n : Nd} {w : World} (h : pinNd.ok c n w) : c.rd w := by
 obtain ⟨_, h1, h2, _⟩ := h; obtain ⟨a, cap, hv, hl, hr, _⟩ := view_owns encStr1_len h1; simp only [Value.slice.injEq, true_and] at hv; obtain ⟨rfl, rfl⟩ := hv; obtain ⟨a, cap, hv, hl2, hr2, _⟩ := view_owns encInt1_len h2; simp only [Value.slice.injEq, true_and] at hv; obtain ⟨rfl, rfl⟩ := hv; exact ⟨hl, hl2, hr, hr2⟩
abbrev plNd (u : Value) (vs : List Nc) (T : List Nd) : Pl := plG 89 7 encNc pinNd u vs T
theorem nd_map {w : World} {u : Value} {vs : List Nc} {T : List Nd} (h : (plNd u vs T).ok w) : vs.map (·.n) = T := by
 obtain ⟨_, h2, h3, _⟩ := h; apply List.ext_getElem?; intro i
 by_cases hi : i < vs.length
 ·have := (h3 i vs[i] T[i] (List.getElem?_eq_getElem hi) (List.getElem?_eq_getElem (by omega))).1; rw [List.getElem?_map, List.getElem?_eq_getElem hi, List.getElem?_eq_getElem (by omega : i < T.length), Option.map_some, this]
 ·rw [List.getElem?_eq_none (by simp; omega), List.getElem?_eq_none (by omega)]
theorem nd_view {w : World} {u : Value} {vs : List Nc} {T : List Nd} (h : (plNd u vs T).ok w) : ∃ a cap, u = .slice a T.length cap ∧ T.length ≤ cap ∧ RdN w a T := by
 have hm := nd_map h; obtain ⟨h1, h2, h3, h4, h5⟩ := h; obtain ⟨a, cap, hu, hc, hr, hs⟩ := view_owns encNc_len h1; refine ⟨a, cap, by rw [hu, h2], by omega, vs, hm, hr, fun c hc => ?_⟩; obtain ⟨i, hi⟩ := List.getElem?_of_mem hc; have hil := (List.getElem?_eq_some_iff.1 hi).1; exact pin_rd (h3 i c T[i] hi (List.getElem?_eq_getElem (by omega)))
theorem SepM.rdN {M : Nat → Prop} {w0 w : World} {H : List Pl} (S : SepM M w0 w H) (i : Nat) {a : Option Addr} {n cap : Nat} {vs : List Nc} {T : List Nd} (h : H[i]? = some (plNd (.slice a n cap) vs T)) : RdN w a T := by
 obtain ⟨a', cap', hu, _, hr⟩ := nd_view (S.at_ i h); simp only [Value.slice.injEq] at hu; rw [hu.1]; exact hr
theorem SepM.ofRows {M : Nat → Prop} {w0 w : World} {H : List Pl} (S : SepM M w0 w H) (i j : Nat) (c : Nc) (hi : H[i]? = some (plRow 9 1 encStr1 (.slice c.an c.n.N.length c.cn) c.n.N)) (hj : H[j]? = some (plRow 3 1 encInt1 (.slice c.ak c.n.K.length c.ck) c.n.K)) (hij : i ≠ j) :
  SepM M w0 w ((H.set i (pinNd.one c c.n)).eraseIdx j) :=
 S.fuse i j hi hj hij (Chg.refl _ w) (fun hr => ⟨rfl, S.at_ i hi, hr, fun b hb => S.ne hi hj hij hb⟩) (fun b hb => hb.elim .inl (fun h => .inr (.inl h)))
def SmN (M : Nat) (n : Nd) : Prop := n.text.size ≤ M ∧ n.N.length ≤ M ∧ (∀ s ∈ n.N, s.size ≤ M) ∧ n.K.length ≤ M
theorem infoNd : (Tryz.prog.info? 89).map (fun i => (i.zero, i.size, i.bytes)) = some (some (.agg #[.bool false, .int .i64 0, .int .i64 0, .int .i64 0, .string ByteArray.empty, .slice none 0 0, .slice none 0 0]), 7, 96) := by kernel_rfl
def zNd : Nd := ⟨false, 0, 0, 0, ByteArray.empty, [], []⟩
def zNc : Nc := ⟨zNd, none, 0, none, 0⟩
theorem zNc_ok (w : World) : pinNd.ok zNc zNd w := ⟨rfl, World.ownsRow_nil _ _ _ _, World.ownsRow_nil _ _ _ _, fun b hb => by cases hb⟩
theorem zNc_own (b : Nat) : ¬ pinNd.own zNc b := fun h => h.elim (fun h => by cases h) (fun h => by cases h)
theorem madeNc (n : Nat) : (madeCells (Value.agg #[.bool false, .int .i64 0, .int .i64 0, .int .i64 0, .string ByteArray.empty, .slice none 0 0, .slice none 0 0]).cells (n * 7)).toList = (List.replicate n zNc).flatMap encNc := by
 apply List.ext_getElem?; intro j
 by_cases hj : j < n * 7
 ·have e : j = j / 7 * 7 + j % 7 := by omega
  have h3 : j % 7 < 7 := Nat.mod_lt _ (by omega)
  have hd : j / 7 < n := by omega
  rw [show ((List.replicate n zNc).flatMap encNc)[j]? = ((List.replicate n zNc).flatMap encNc)[j / 7 * 7 + j % 7]? by rw [← e], flatMap_at encNc_len _ _ _ h3]; simp [madeCells, Value.cells, hj, hd]
  rcases (show j % 7 = 0 ∨ j % 7 = 1 ∨ j % 7 = 2 ∨ j % 7 = 3 ∨ j % 7 = 4 ∨ j % 7 = 5 ∨ j % 7 = 6 by omega) with h | h | h | h | h | h | h <;> simp [h, encNc, zNc, zNd]
 ·rw [List.getElem?_eq_none (by simp [madeCells]; omega), List.getElem?_eq_none (by rw [flatMap_length encNc_len]; simp; omega)]
def mixNd (l : List Nd) (k : Nat) : List Nd := l.take k ++ List.replicate (l.length - k) zNd
theorem mixNd_len (l : List Nd) (k : Nat) (hk : k ≤ l.length) : (mixNd l k).length = l.length := by simp [mixNd]; omega
theorem mixNd_zero (l : List Nd) : mixNd l 0 = List.replicate l.length zNd := by simp [mixNd]
theorem mixNd_full (l : List Nd) : mixNd l l.length = l := by simp [mixNd]
theorem mixNd_set (l : List Nd) (k : Nat) (x : Nd) (hx : l[k]? = some x) : (mixNd l k).set k x = mixNd l (k + 1) := by
 obtain ⟨hk, rfl⟩ := List.getElem?_eq_some_iff.1 hx; unfold mixNd; obtain ⟨r, hr⟩ : ∃ r, l.length - k = r + 1 := ⟨l.length - k - 1, by omega⟩; rw [hr, List.replicate_succ, show l.length - (k + 1) = r by omega, List.set_append, if_neg (by simp; omega), List.take_succ_eq_append_getElem hk, List.length_take, Nat.min_eq_left (Nat.le_of_lt hk), Nat.sub_self, List.set_cons_zero, List.append_assoc]; rfl
end Go.Proofs.YtnibbldfohbfkaaGreatDoor

namespace Go.Proofs.YtnibbldfohbfkaaGreatDoor
open Go.ChangeShapes Go.WideShapes Go.ChangeAt Go.RowKit Go.Deep
theorem cellsKer : Tryz.prog.cellsOf 26 = 5 := by kernel_rfl
theorem cellsKNode : Tryz.prog.cellsOf 88 = 7 := by kernel_rfl
theorem cellsKCred : Tryz.prog.cellsOf 24 = 4 := by kernel_rfl
theorem cellsKNodes : Tryz.prog.cellsOf 22 = 1 := by kernel_rfl
theorem cellsKint : Tryz.prog.cellsOf 3 = 1 := by kernel_rfl
theorem cellsKstr : Tryz.prog.cellsOf 9 = 1 := by kernel_rfl
theorem cellsKbool : Tryz.prog.cellsOf 4 = 1 := by kernel_rfl
theorem cellsKints : Tryz.prog.cellsOf 86 = 1 := by kernel_rfl
theorem cellsKstrs : Tryz.prog.cellsOf 39 = 1 := by kernel_rfl
section
variable {H : Type} {enc : TypeId × Value → H} {w : World} {base : Nat} {spare : Nat → Bool} {held : Bool}
theorem openKInt (n : Nat) (cs : List Value) (y : DataW H × List MemPlace) (h : DataW.trod enc Tryz.prog w base spare held n 3 cs = some y) : ∃ x : Int, cs = encInt1 x ∧ True := by
 obtain ⟨v, hv, _, _⟩ := DataW.trod_int Tryz.underlying3 h; exact ⟨v, hv, trivial⟩
theorem openKStr (n : Nat) (cs : List Value) (y : DataW H × List MemPlace) (h : DataW.trod enc Tryz.prog w base spare held n 9 cs = some y) : ∃ x : ByteArray, cs = encStr1 x ∧ x.size ≤ 9223372036854775807 := by
 obtain ⟨v, hv, _, hw⟩ := DataW.trod_string Tryz.underlying9 h; exact ⟨v, hv, hw⟩
theorem openKNode (n : Nat) (cs : List Value) (y : DataW H × List MemPlace) (h : DataW.trod enc Tryz.prog w base spare held n 88 cs = some y) : ∃ c : Nc, cs = encNc c ∧ (SmN 9223372036854775807 c.n ∧ c.rd w) := by
 obtain ⟨xs, m, _, _, hl, hxl, hf⟩ := DataW.trod_struct Tryz.underlying88 h; have hl3 : cs.length = 7 := hl.trans cellsKNode; have hx3 : xs.length = 7 := hxl
 match cs, hl3, xs, hx3 with
 | [c0, c1, c2, c3, c4, c5, c6], _, [y0, y1, y2, y3, y4, y5, y6], _ =>
  have e0 : DataW.trod enc Tryz.prog w base spare held m 4 (List.take (Tryz.prog.cellsOf 4) [c0, c1, c2, c3, c4, c5, c6]) = some y0 := hf 0 _ rfl; simp only [cellsKbool, List.take_succ_cons, List.take_zero] at e0; obtain ⟨v0, h0, _⟩ := DataW.trod_bool Tryz.underlying4 e0; simp only [List.cons.injEq, and_true] at h0; subst h0; have e1 : DataW.trod enc Tryz.prog w base spare held m 3 (List.take (Tryz.prog.cellsOf 3) [c1, c2, c3, c4, c5, c6]) = some y1 := hf 1 _ rfl; simp only [cellsKint, List.take_succ_cons, List.take_zero] at e1; obtain ⟨v1, h1, _, _⟩ := DataW.trod_int Tryz.underlying3 e1; simp only [List.cons.injEq, and_true] at h1; subst h1; have e2 : DataW.trod enc Tryz.prog w base spare held m 3 (List.take (Tryz.prog.cellsOf 3) [c2, c3, c4, c5, c6]) = some y2 := hf 2 _ rfl; simp only [cellsKint, List.take_succ_cons, List.take_zero] at e2; obtain ⟨v2, h2, _, _⟩ := DataW.trod_int Tryz.underlying3 e2; simp only [List.cons.injEq, and_true] at h2; subst h2; have e3 : DataW.trod enc Tryz.prog w base spare held m 3 (List.take (Tryz.prog.cellsOf 3) [c3, c4, c5, c6]) = some y3 := hf 3 _ rfl; simp only [cellsKint, List.take_succ_cons, List.take_zero] at e3; obtain ⟨v3, h3, _, _⟩ := DataW.trod_int Tryz.underlying3 e3; simp only [List.cons.injEq, and_true] at h3; subst h3; have e4 : DataW.trod enc Tryz.prog w base spare held m 9 (List.take (Tryz.prog.cellsOf 9) [c4, c5, c6]) = some y4 := hf 4 _ rfl; simp only [cellsKstr, List.take_succ_cons, List.take_zero] at e4; obtain ⟨v4, h4, _, w4⟩ := DataW.trod_string Tryz.underlying9 e4; simp only [List.cons.injEq, and_true] at h4; subst h4; have e5 : DataW.trod enc Tryz.prog w base spare held m 39 (List.take (Tryz.prog.cellsOf 39) [c5, c6]) = some y5 := hf 5 _ rfl; simp only [cellsKstrs, List.take_succ_cons, List.take_zero] at e5; obtain ⟨an, cn, N, rfl, hN, hNs, hrN⟩ := open_rd (encA := encStr1) (good := fun s => s.size ≤ 9223372036854775807) Tryz.underlying39 cellsKstr (by omega) (fun _ => rfl) openKStr e5; have hcn : N.length ≤ cn := trod_cap (d := y5.1) (p := y5.2) Tryz.underlying39 ⟨m, e5⟩; have e6 : DataW.trod enc Tryz.prog w base spare held m 86 (List.take (Tryz.prog.cellsOf 86) [c6]) = some y6 := hf 6 _ rfl; simp only [cellsKints, List.take_succ_cons, List.take_zero] at e6; obtain ⟨ak, ck, K, rfl, hK, _, hrK⟩ := open_rd (encA := encInt1) (good := fun _ => True) Tryz.underlying86 cellsKint (by omega) (fun _ => rfl) openKInt e6; have hck : K.length ≤ ck := trod_cap (d := y6.1) (p := y6.2) Tryz.underlying86 ⟨m, e6⟩; exact ⟨⟨⟨v0, v1, v2, v3, v4, N, K⟩, an, cn, ak, ck⟩, rfl, ⟨w4, hN, hNs, hK⟩, hcn, hck, hrN, hrK⟩
theorem openKCred (n : Nat) (cs : List Value) (y : DataW H × List MemPlace) (h : DataW.trod enc Tryz.prog w base spare held n 24 cs = some y) : ∃ r a s g : Int, cs = [.int .i64 r, .int .i64 a, .int .i64 s, .int .i64 g] := by
 obtain ⟨xs, m, _, _, hl, hxl, hf⟩ := DataW.trod_struct Tryz.underlying24 h; have hl3 : cs.length = 4 := hl.trans cellsKCred; have hx3 : xs.length = 4 := hxl
 match cs, hl3, xs, hx3 with
 | [c1, c2, c3, c4], _, [y1, y2, y3, y4], _ =>
  have e1 : DataW.trod enc Tryz.prog w base spare held m 3 (List.take (Tryz.prog.cellsOf 3) [c1, c2, c3, c4]) = some y1 := hf 0 _ rfl; simp only [cellsKint, List.take_succ_cons, List.take_zero] at e1; obtain ⟨v1, h1, _, _⟩ := DataW.trod_int Tryz.underlying3 e1; simp only [List.cons.injEq, and_true] at h1; subst h1; have e2 : DataW.trod enc Tryz.prog w base spare held m 3 (List.take (Tryz.prog.cellsOf 3) [c2, c3, c4]) = some y2 := hf 1 _ rfl; simp only [cellsKint, List.take_succ_cons, List.take_zero] at e2; obtain ⟨v2, h2, _, _⟩ := DataW.trod_int Tryz.underlying3 e2; simp only [List.cons.injEq, and_true] at h2; subst h2; have e3 : DataW.trod enc Tryz.prog w base spare held m 3 (List.take (Tryz.prog.cellsOf 3) [c3, c4]) = some y3 := hf 2 _ rfl; simp only [cellsKint, List.take_succ_cons, List.take_zero] at e3; obtain ⟨v3, h3, _, _⟩ := DataW.trod_int Tryz.underlying3 e3; simp only [List.cons.injEq, and_true] at h3; subst h3; have e4 : DataW.trod enc Tryz.prog w base spare held m 3 (List.take (Tryz.prog.cellsOf 3) [c4]) = some y4 := hf 3 _ rfl; simp only [cellsKint, List.take_succ_cons, List.take_zero] at e4; obtain ⟨v4, h4, _, _⟩ := DataW.trod_int Tryz.underlying3 e4; simp only [List.cons.injEq, and_true] at h4; subst h4; exact ⟨v1, v2, v3, v4, rfl⟩
theorem openKernelC (n : Nat) (cs : List Value) (y : DataW H × List MemPlace) (h : DataW.trod enc Tryz.prog w base spare held n 26 cs = some y) :
  ∃ at_ ct, ∃ T : List Nd, ∃ r a s g : Int, cs = [.slice at_ T.length ct, .int .i64 r, .int .i64 a, .int .i64 s, .int .i64 g] ∧ T.length ≤ 9223372036854775807 ∧ (∀ x ∈ T, SmN 9223372036854775807 x) ∧ RdN w at_ T := by
 obtain ⟨xs, m, _, _, hl, hxl, hf⟩ := DataW.trod_struct Tryz.underlying26 h; have hl3 : cs.length = 5 := hl.trans cellsKer; have hx3 : xs.length = 2 := hxl
 match cs, hl3, xs, hx3 with
 | [c0, c1, c2, c3, c4], _, [y0, y1], _ =>
  have e0 : DataW.trod enc Tryz.prog w base spare held m 22 (List.take (Tryz.prog.cellsOf 22) [c0, c1, c2, c3, c4]) = some y0 := hf 0 _ rfl; simp only [cellsKNodes, List.take_succ_cons, List.take_zero] at e0; obtain ⟨at_, ct, X, rfl, h1, h2, h3⟩ := open_rd (encA := encNc) (good := fun c => SmN 9223372036854775807 c.n ∧ c.rd w) Tryz.underlying22 cellsKNode (by omega) encNc_len openKNode e0; have e1 : DataW.trod enc Tryz.prog w base spare held m 24 (List.take (Tryz.prog.cellsOf 24) [c1, c2, c3, c4]) = some y1 := hf 1 _ rfl; simp only [cellsKCred, List.take_succ_cons, List.take_zero] at e1; obtain ⟨r, a, s, g, h4⟩ := openKCred _ _ _ e1; simp only [List.cons.injEq, and_true] at h4; obtain ⟨rfl, rfl, rfl, rfl⟩ := h4; refine ⟨at_, ct, X.map (·.n), r, a, s, g, by rw [List.length_map], by rw [List.length_map]; exact h1, fun x hx => ?_, X, rfl, h3, fun c hc => (h2 c hc).2⟩; obtain ⟨c, hc, rfl⟩ := List.mem_map.1 hx; exact (h2 c hc).1
theorem openKernel {r : Reach} {b0 : Nat} {v : Value} {d : DataW H} {p : List MemPlace} (hv : Value.okWide Tryz.prog w r b0 26 v) (h : DataW.Trod enc Tryz.prog w base spare held 26 v d p) :
  ∃ at_ ct, ∃ T : List Nd, ∃ r a s g : Int, v = .agg #[.slice at_ T.length ct, .int .i64 r, .int .i64 a, .int .i64 s, .int .i64 g] ∧ T.length ≤ 9223372036854775807 ∧ (∀ x ∈ T, SmN 9223372036854775807 x) ∧ RdN w at_ T := by
 obtain ⟨cs, rfl, _⟩ := okWide_struct Tryz.underlying26 hv; obtain ⟨fuel, hf⟩ := h; obtain ⟨at_, ct, T, r, a, s, g, hx, h1⟩ := openKernelC fuel _ _ hf; refine ⟨at_, ct, T, r, a, s, g, ?_, h1⟩; have hx' : cs.toList = [.slice at_ T.length ct, .int .i64 r, .int .i64 a, .int .i64 s, .int .i64 g] := hx; rw [← Array.toArray_toList (xs := cs), hx']
end
theorem toNd_any (x : Nd) (an ak : Option Addr) (cn ck : Nat) (w : World) (hs2 : x.N.length ≤ 1048576) (hs4 : x.K.length ≤ 1048576) (hn : Rd 1 encStr1 w an x.N) (hk : Rd 1 encInt1 w ak x.K) :
  Calls Tryz.prog 77 #[.agg #[.bool x.fold, .int .i64 x.own, .int .i64 x.grp, .int .i64 x.mode, .string x.text, .slice an x.N.length cn, .slice ak x.K.length ck]] w fun e w' => ∃ a1 c1 a2 c2, e = .returned (.agg #[.bool x.fold, .int .i64 x.own, .int .i64 x.grp, .int .i64 x.mode, .string x.text, .slice a1 x.N.length c1, .slice a2 x.K.length c2]) ∧ Sep w w' [pinNd.one ⟨x, a1, c1, a2, c2⟩ x] := by
 obtain ⟨f, o, g, m, s, N, K⟩ := x; dsimp only at hs2 hs4 hn hk ⊢
 go_enter Tryz.func77, Tryz.ntmps77
 have S := Sep.start w; replace S := S.alloc_at (n := w.heap.size) (by simp) #[.bool f, .int .i64 o, .int .i64 g, .int .i64 m, .string s, .slice an N.length cn, .slice ak K.length ck] 88; replace S := S.alloc_at (n := (w.heap.size + 1)) (by simp) #[.bool false, .int .i64 0, .int .i64 0, .int .i64 0, .string ⟨#[]⟩, .slice none 0 0, .slice none 0 0] 89; replace S := S.alloc_at (n := (w.heap.size + 1 + 1)) (by simp) #[.bool f, .int .i64 o, .int .i64 g, .int .i64 m, .string s, .slice none 0 0, .slice none 0 0] 89
 go_wp2_with fail
 generalize (((w.alloc (.cells #[.bool f, .int .i64 o, .int .i64 g, .int .i64 m, .string s, .slice an N.length cn, .slice ak K.length ck] 88)).alloc (.cells #[.bool false, .int .i64 0, .int .i64 0, .int .i64 0, .string ⟨#[]⟩, .slice none 0 0, .slice none 0 0] 89)).alloc (.cells #[.bool f, .int .i64 o, .int .i64 g, .int .i64 m, .string s, .slice none 0 0, .slice none 0 0] 89)) = w1 at *; refine (toStr_any an cn N w1 hs2 (hn.ext S.ext)).mono ?_; rintro e w2 ⟨u, rfl, ⟨ho, hv⟩, hE⟩; obtain ⟨a1, c1, hv2, hk1, _, _⟩ := view_owns encStr1_len ho; subst hv2; clear hv; have U := Sep.of_owns hE ho; clear hE ho; replace S : Sep w w2 [plRow 9 1 encStr1 (.slice a1 N.length c1) N, plBox (w.heap.size + 1 + 1) #[.bool f, .int .i64 o, .int .i64 g, .int .i64 m, .string s, .slice none 0 0, .slice none 0 0] 89, plBox (w.heap.size + 1) #[.bool false, .int .i64 0, .int .i64 0, .int .i64 0, .string ⟨#[]⟩, .slice none 0 0, .slice none 0 0] 89, plBox w.heap.size #[.bool f, .int .i64 o, .int .i64 g, .int .i64 m, .string s, .slice an N.length cn, .slice ak K.length ck] 88] := S.call U; clear U; obtain ⟨⟨obc0, obf0⟩, ⟨obc1, obf1⟩, ⟨obc2, obf2⟩, ⟨obc3, obf3⟩, ⟨obc4, obf4⟩, ⟨obc5, obf5⟩, ⟨obc6, obf6⟩⟩ := bx7 (S.box 1 rfl); obtain ⟨⟨rbc0, rbf0⟩, ⟨rbc1, rbf1⟩, ⟨rbc2, rbf2⟩, ⟨rbc3, rbf3⟩, ⟨rbc4, rbf4⟩, ⟨rbc5, rbf5⟩, ⟨rbc6, rbf6⟩⟩ := bx7 (S.box 2 rfl); obtain ⟨⟨a0c0, a0f0⟩, ⟨a0c1, a0f1⟩, ⟨a0c2, a0f2⟩, ⟨a0c3, a0f3⟩, ⟨a0c4, a0f4⟩, ⟨a0c5, a0f5⟩, ⟨a0c6, a0f6⟩⟩ := bx7 (S.box 3 rfl)
 go_wp2_with fail
 clear obc0 obf0 obc1 obf1 obc2 obf2 obc3 obf3 obc4 obf4 obc5 obf5 obc6 obf6 rbc0 rbf0 rbc1 rbf1 rbc2 rbf2 rbc3 rbf3 rbc4 rbf4 rbc5 rbf5 rbc6 rbf6 a0c0 a0f0 a0c1 a0f1 a0c2 a0f2 a0c3 a0f3 a0c4 a0f4 a0c5 a0f5 a0c6 a0f6; replace S : Sep w (w2.setCell ⟨(w.heap.size + 1 + 1), 5, none⟩ (.slice a1 N.length c1)) [plRow 9 1 encStr1 (.slice a1 N.length c1) N, plBox (w.heap.size + 1 + 1) #[.bool f, .int .i64 o, .int .i64 g, .int .i64 m, .string s, .slice a1 N.length c1, .slice none 0 0] 89, plBox (w.heap.size + 1) #[.bool false, .int .i64 0, .int .i64 0, .int .i64 0, .string ⟨#[]⟩, .slice none 0 0, .slice none 0 0] 89, plBox w.heap.size #[.bool f, .int .i64 o, .int .i64 g, .int .i64 m, .string s, .slice an N.length cn, .slice ak K.length ck] 88] := S.set 1 rfl 5 _; generalize (w2.setCell ⟨(w.heap.size + 1 + 1), 5, none⟩ (.slice a1 N.length c1)) = w3 at *; refine (toIntS_any ak ck K w3 hs4 (hk.ext S.ext)).mono ?_; rintro e w4 ⟨u, rfl, ⟨ho, hv⟩, hE⟩; obtain ⟨a2, c2, hv2, hk2, _, _⟩ := view_owns encInt1_len ho; subst hv2; clear hv; have U := Sep.of_owns hE ho; clear hE ho; replace S : Sep w w4 [plRow 3 1 encInt1 (.slice a2 K.length c2) K, plRow 9 1 encStr1 (.slice a1 N.length c1) N, plBox (w.heap.size + 1 + 1) #[.bool f, .int .i64 o, .int .i64 g, .int .i64 m, .string s, .slice a1 N.length c1, .slice none 0 0] 89, plBox (w.heap.size + 1) #[.bool false, .int .i64 0, .int .i64 0, .int .i64 0, .string ⟨#[]⟩, .slice none 0 0, .slice none 0 0] 89, plBox w.heap.size #[.bool f, .int .i64 o, .int .i64 g, .int .i64 m, .string s, .slice an N.length cn, .slice ak K.length ck] 88] := S.call U; clear U; obtain ⟨⟨obc0, obf0⟩, ⟨obc1, obf1⟩, ⟨obc2, obf2⟩, ⟨obc3, obf3⟩, ⟨obc4, obf4⟩, ⟨obc5, obf5⟩, ⟨obc6, obf6⟩⟩ := bx7 (S.box 2 rfl); obtain ⟨⟨rbc0, rbf0⟩, ⟨rbc1, rbf1⟩, ⟨rbc2, rbf2⟩, ⟨rbc3, rbf3⟩, ⟨rbc4, rbf4⟩, ⟨rbc5, rbf5⟩, ⟨rbc6, rbf6⟩⟩ := bx7 (S.box 3 rfl); obtain ⟨⟨a0c0, a0f0⟩, ⟨a0c1, a0f1⟩, ⟨a0c2, a0f2⟩, ⟨a0c3, a0f3⟩, ⟨a0c4, a0f4⟩, ⟨a0c5, a0f5⟩, ⟨a0c6, a0f6⟩⟩ := bx7 (S.box 4 rfl); go_wp2
 try simp only [Exit.inBlock, Exit.then]
 refine bodyPost_ret (v := .agg #[.bool f, .int .i64 o, .int .i64 g, .int .i64 m, .string s, .slice a1 N.length c1, .slice a2 K.length c2]) (by simp [results, Tryz.results77, go_sem, rbc0, rbc1, rbc2, rbc3, rbc4, rbc5, rbc6, obc0, obc1, obc2, obc3, obc4, obc5, obc6]) rfl ?_; replace S : Sep w ((((((((w4.setCell ⟨(w.heap.size + 1 + 1), 6, none⟩ (.slice a2 K.length c2)).setCell ⟨(w.heap.size + 1), 0, none⟩ (.bool f)).setCell ⟨(w.heap.size + 1), 1, none⟩ (.int .i64 o)).setCell ⟨(w.heap.size + 1), 2, none⟩ (.int .i64 g)).setCell ⟨(w.heap.size + 1), 3, none⟩ (.int .i64 m)).setCell ⟨(w.heap.size + 1), 4, none⟩ (.string s)).setCell ⟨(w.heap.size + 1), 5, none⟩ (.slice a1 N.length c1)).setCell ⟨(w.heap.size + 1), 6, none⟩ (.slice a2 K.length c2)) [plRow 3 1 encInt1 (.slice a2 K.length c2) K, plRow 9 1 encStr1 (.slice a1 N.length c1) N] := ((((((((((S.set 2 rfl 6 _).set 3 rfl 0 _).set 3 rfl 1 _).set 3 rfl 2 _).set 3 rfl 3 _).set 3 rfl 4 _).set 3 rfl 5 _).set 3 rfl 6 _).drop 2).drop 2).drop 2; exact ⟨a1, c1, a2, c2, rfl, S.ofRows 1 0 ⟨⟨f, o, g, m, s, N, K⟩, a1, c1, a2, c2⟩ rfl rfl (by decide)⟩
theorem toNdS_any (a : Option Addr) (cap : Nat) (T : List Nd) (w : World) (hl : T.length ≤ 1048576) (hs : ∀ x ∈ T, SmN 1048576 x) (hc : RdN w a T) :
  Calls Tryz.prog 42 #[.slice a T.length cap] w fun e w' => ∃ vs, e = .returned (.slice (some ⟨w.heap.size, 0, none⟩) T.length T.length) ∧ Sep w w' [plNd (.slice (some ⟨w.heap.size, 0, none⟩) T.length T.length) vs T] := by
 obtain ⟨i0, hi, hz0, hz1, hz2⟩ := info_parts infoNd; have HS := hd0 hs; clear hs
 go_enter Tryz.func42, Tryz.ntmps42
 go_wp2_with (at_make; refine wpList_make_full _ rfl _ _ 28 rfl w.heap.size 89 i0 _ 7 Tryz.underlying28 hi hz0 hz1 _ _ _ _ T.length rfl rfl rfl rfl ?b1 ?b2 ?b3 ?_)
 case b1 => rw [hz2]; omega
 case b2 => unfold maxLen; omega
 case b3 => exact Nat.le_refl _
 intro w1 hown1 hgr1; have hE := ext_of_grown hgr1
 have S0 : Sep w w1 [plNd (.slice (some ⟨w.heap.size, 0, none⟩) T.length T.length) (List.replicate T.length zNc) (mixNd T 0)] := by
  rw [mixNd_zero]; refine Sep.one (p := plNd _ _ _) hE (plG_make zNc_ok zNc_own ?_) (fun b hb => ?_)
  ·have h2 := ownsRow_base hown1 (Nat.zero_le _); rw [← madeNc]; exact h2
  ·rcases hb with hb | ⟨s, hs, hb⟩
   ·have : w.heap.size = b := Option.some.inj hb; omega
   ·rw [(List.mem_replicate.1 hs).2] at hb; exact absurd hb (zNc_own b)
 clear hgr1 hown1 hE; go_wp2
 go_loopw [4] (fun i wr => ∃ (k : Nat) (vs : List Nc), k ≤ T.length ∧ i = .int .i64 k ∧ Sep w wr [plNd (.slice (some ⟨w.heap.size, 0, none⟩) T.length T.length) vs (mixNd T k)]) (fun i _ => T.length - (intOf i).toNat)
 case atStart => exact ⟨0, _, Nat.zero_le _, rfl, S0⟩
 case round =>
  clear S0; obtain ⟨k, vs, hk, rfl, S⟩ := hrel
  by_cases hlk : k < T.length
  ·obtain ⟨x, b, off, an, cn, ak, ck, hx, hpe, c0, c1, c2, c3, c4, c5, c6, hcn, hck, hrn, hrk⟩ := atNd (hc.ext S.ext) hlk; subst hpe; have Hx := hd0 hx; have hsx := HS.out x (List.mem_of_getElem? hx)
   have i0 : (k : Int) < (T.length : Int) := by omega
   clear hx hcn hck
   go_wp2_with fail
   refine (toNd_any x an ak cn ck wr hsx.2.1 hsx.2.2.2 hrn hrk).mono ?_; rintro e w2 ⟨a1, d1, a2, d2, rfl, U⟩; replace S := S.call U; clear U c0 c1 c2 c3 c4 c5 c6 hrn hrk; have hvl := plG_len (S.at_ 1 rfl); rw [mixNd_len T k hk] at hvl
   have hrow : w2.ownsRow w.heap.size 89 7 (.slice (some ⟨w.heap.size, 0, none⟩) T.length T.length) T.length (vs.flatMap encNc) := by
    have h := S.gRow 1 rfl; rw [hvl] at h; exact h
   have hkv : k < vs.length := by omega
   have g0 : w2.cell? ⟨w.heap.size, k * 7, none⟩ = some _ := owns_at encNc_len hrow k hkv 0 _ rfl; have g1 : w2.cell? ⟨w.heap.size, k * 7 + 1, none⟩ = some _ := owns_at encNc_len hrow k hkv 1 _ rfl; have g2 : w2.cell? ⟨w.heap.size, k * 7 + 2, none⟩ = some _ := owns_at encNc_len hrow k hkv 2 _ rfl; have g3 : w2.cell? ⟨w.heap.size, k * 7 + 3, none⟩ = some _ := owns_at encNc_len hrow k hkv 3 _ rfl; have g4 : w2.cell? ⟨w.heap.size, k * 7 + 4, none⟩ = some _ := owns_at encNc_len hrow k hkv 4 _ rfl; have g5 : w2.cell? ⟨w.heap.size, k * 7 + 5, none⟩ = some _ := owns_at encNc_len hrow k hkv 5 _ rfl; have g6 : w2.cell? ⟨w.heap.size, k * 7 + 6, none⟩ = some _ := owns_at encNc_len hrow k hkv 6 _ rfl; have f0 := hrow.frozenAt; have S2 := S.gPut 1 0 encNc_len (s := ⟨x, a1, d1, a2, d2⟩) (t := x) (k := k) rfl rfl (by decide) hkv; rw [mixNd_set T k x Hx.out] at S2; have S3 : Sep w (setCells w2 w.heap.size (k * 7) (encNc ⟨x, a1, d1, a2, d2⟩)) [plNd (.slice (some ⟨w.heap.size, 0, none⟩) T.length T.length) (vs.set k ⟨x, a1, d1, a2, d2⟩) (mixNd T (k + 1))] := S2; have HS3 := hd0 S3; clear S2 S3 S hrow hvl hsx; go_wp2; go_roundw
   case rel => exact ⟨k + 1, _, by omega, by go_num, by simpa [setCells, encNc] using HS3.out⟩
   case measure => simp [intOf]; omega
  ·obtain rfl : k = T.length := by omega
   have hni : ¬ (T.length : Int) < (T.length : Int) := by omega
   rw [mixNd_full] at S; go_wp2; go_ret; exact ⟨rfl, vs, S⟩
theorem eqNd_any (x y : Nd) (a1 a2 b1 b2 : Option Addr) (c1 c2 d1 d2 : Nat) (w : World) (h1 : x.N.length ≤ 9223372036854775807) (h2 : x.K.length ≤ 9223372036854775807) (h3 : y.N.length ≤ 9223372036854775807) (h4 : y.K.length ≤ 9223372036854775807)
  (hn : Rd 1 encStr1 w a1 x.N) (hk : Rd 1 encInt1 w a2 x.K) (hm : Rd 1 encStr1 w b1 y.N) (hl : Rd 1 encInt1 w b2 y.K) :
  Calls Tryz.prog 92 #[.agg #[.bool x.fold, .int .i64 x.own, .int .i64 x.grp, .int .i64 x.mode, .string x.text, .slice a1 x.N.length c1, .slice a2 x.K.length c2], .agg #[.bool y.fold, .int .i64 y.own, .int .i64 y.grp, .int .i64 y.mode, .string y.text, .slice b1 y.N.length d1, .slice b2 y.K.length d2]] w (RetB (x = y) w) := by
 obtain ⟨f, o, g, m, s, N, K⟩ := x; obtain ⟨f', o', g', m', s', N', K'⟩ := y; dsimp only at h1 h2 h3 h4 hn hk hm hl ⊢; simp only [Nd.mk.injEq]
 by_cases e1 : f = f'
 case neg =>
  cases f <;> cases f' <;> first
   | exact absurd rfl e1
   | (clear e1
      go_enter Tryz.func92, Tryz.ntmps92
      go_wp2; go_ret
      exact RetB.mk false rfl (by simp) (((Ext.refl _).alloc _).alloc _))
 subst e1
 by_cases e2 : o = o'
 case neg =>
  have t2 : (o != o') = true := by simpa using e2
  go_enter Tryz.func92, Tryz.ntmps92
  go_wp2; go_ret; exact RetB.mk false rfl (by simp [e2]) (((Ext.refl _).alloc _).alloc _)
 subst e2
 by_cases e3 : g = g'
 case neg =>
  have t2 : (g != g') = true := by simpa using e3
  go_enter Tryz.func92, Tryz.ntmps92
  go_wp2; go_ret; exact RetB.mk false rfl (by simp [e3]) (((Ext.refl _).alloc _).alloc _)
 subst e3
 by_cases e4 : m = m'
 case neg =>
  have t2 : (m != m') = true := by simpa using e4
  go_enter Tryz.func92, Tryz.ntmps92
  go_wp2; go_ret; exact RetB.mk false rfl (by simp [e4]) (((Ext.refl _).alloc _).alloc _)
 subst e4
 by_cases e5 : s = s'
 case neg =>
  have t2 : (s.toList == s'.toList) = false := by simpa [bytes_eq] using e5
  go_enter Tryz.func92, Tryz.ntmps92
  go_wp2; go_ret; exact RetB.mk false rfl (by simp [e5]) (((Ext.refl _).alloc _).alloc _)
 subst e5; simp only [true_and]
 go_enter Tryz.func92, Tryz.ntmps92
 have S := Sep.start w; replace S := S.alloc_at (n := w.heap.size) (by simp) #[.bool f, .int .i64 o, .int .i64 g, .int .i64 m, .string s, .slice a1 N.length c1, .slice a2 K.length c2] 89; replace S := S.alloc_at (n := (w.heap.size + 1)) (by simp) #[.bool f, .int .i64 o, .int .i64 g, .int .i64 m, .string s, .slice b1 N'.length d1, .slice b2 K'.length d2] 89
 go_wp2_with fail
 generalize ((w.alloc (.cells #[.bool f, .int .i64 o, .int .i64 g, .int .i64 m, .string s, .slice a1 N.length c1, .slice a2 K.length c2] 89)).alloc (.cells #[.bool f, .int .i64 o, .int .i64 g, .int .i64 m, .string s, .slice b1 N'.length d1, .slice b2 K'.length d2] 89)) = w1 at *; refine (eqStr_any a1 b1 c1 d1 N N' w1 h1 h3 (hn.ext S.ext) (hm.ext S.ext)).mono ?_; rintro e w2 ⟨v1, rfl, hv1, hE⟩; have Hv1 := hd0 hv1; clear hv1; replace S := S.step hE; clear hE
 cases v1 with
 | false =>
  go_wp2; go_ret; exact RetB.mk false rfl (by simp only [Bool.false_eq_true, false_iff]; exact fun h => Bool.noConfusion (Hv1.out.2 h.1)) S.ext
 | true =>
  obtain ⟨⟨qc0, qf0⟩, ⟨qc1, qf1⟩, ⟨qc2, qf2⟩, ⟨qc3, qf3⟩, ⟨qc4, qf4⟩, ⟨qc5, qf5⟩, ⟨qc6, qf6⟩⟩ := bx7 (S.box 0 rfl); obtain ⟨⟨pc0, pf0⟩, ⟨pc1, pf1⟩, ⟨pc2, pf2⟩, ⟨pc3, pf3⟩, ⟨pc4, pf4⟩, ⟨pc5, pf5⟩, ⟨pc6, pf6⟩⟩ := bx7 (S.box 1 rfl)
  go_wp2_with fail
  refine (eqIntS_any a2 b2 c2 d2 K K' w2 h2 h4 (hk.ext S.ext) (hl.ext S.ext)).mono ?_; rintro e w3 ⟨v2, rfl, hv2, hE⟩; have Hv2 := hd0 hv2; clear hv2; clear qc0 qf0 qc1 qf1 qc2 qf2 qc3 qf3 qc4 qf4 qc5 qf5 qc6 qf6 pc0 pf0 pc1 pf1 pc2 pf2 pc3 pf3 pc4 pf4 pc5 pf5 pc6 pf6; replace S := S.step hE; clear hE
  cases v2 with
  | false =>
   go_wp2; go_ret; exact RetB.mk false rfl (by simp only [Bool.false_eq_true, false_iff]; exact fun h => Bool.noConfusion (Hv2.out.2 h.2)) S.ext
  | true =>
   go_wp2; go_ret; exact RetB.mk true rfl (by simp only [true_iff]; exact ⟨Hv1.out.1 (by trivial), Hv2.out.1 (by trivial)⟩) S.ext
theorem extNd {l m : List Nd} (hl : l.length = m.length) (h : ∀ j, j < l.length → l[j]? = m[j]?) : l = m := by
 apply List.ext_getElem?; intro j
 by_cases hj : j < l.length
 ·exact h j hj
 ·rw [List.getElem?_eq_none (by omega), List.getElem?_eq_none (by omega)]
theorem eqNdS_any (a a' : Option Addr) (cap cap' : Nat) (T U : List Nd) (w : World) (hl : T.length ≤ 9223372036854775807) (hm : U.length ≤ 9223372036854775807) (hlt : ∀ t ∈ T, SmN 9223372036854775807 t) (hlu : ∀ t ∈ U, SmN 9223372036854775807 t) (hc : RdN w a T) (hd : RdN w a' U) :
  Calls Tryz.prog 49 #[.slice a T.length cap, .slice a' U.length cap'] w (RetB (T = U) w) := by
 have HLT := hd0 hlt; have HLU := hd0 hlu; clear hlt hlu
 by_cases hlen : T.length = U.length
 ·have ht : ((T.length : Int) != (U.length : Int)) = false := by simp; omega
  have Hlen := hd0 hlen; clear hlen
  go_enter Tryz.func49, Tryz.ntmps49
  go_wp2
  go_loopw [5] (fun i wr => ∃ k : Nat, k ≤ T.length ∧ i = .int .i64 k ∧ (∀ j, j < k → T[j]? = U[j]?) ∧ Ext w wr) (fun i _ => T.length - (intOf i).toNat)
  case atStart => exact ⟨0, Nat.zero_le _, rfl, fun _ h => absurd h (Nat.not_lt_zero _), Ext.refl _⟩
  case round =>
   obtain ⟨k, hk, rfl, hpre, hb⟩ := hrel; have Hpre := hd0 hpre; clear hpre ht
   by_cases hlk : k < T.length
   ·have hltm : k < U.length := by have := Hlen.out; omega
    obtain ⟨x, b, off, an, cn, ak, ck, hx, rfl, c0, c1, c2, c3, c4, c5, c6, hcn, hck, hrn, hrk⟩ := atNd (hc.ext hb) hlk; obtain ⟨y, b', off', an', cn', ak', ck', hy, rfl, d0, d1, d2, d3, d4, d5, d6, hdn, hdk, hsn, hsk⟩ := atNd (hd.ext hb) hltm; have Hx := hd0 hx; have Hy := hd0 hy; have s1 := (HLT.out x (List.mem_of_getElem? hx)).2; have s2 := (HLU.out y (List.mem_of_getElem? hy)).2; have S1 := hd0 s1; have S2 := hd0 s2
    have i0 : (k : Int) < (T.length : Int) := by omega
    have i1 : (k : Int) < (U.length : Int) := by omega
    clear hx hy hcn hck hdn hdk s1 s2; go_wp2
    go_still_tail 8, (by kernel_rfl)
    change wpList _ _ _ _ _ wr.drew
    generalize hw2 : wr.drew = w2
    have hb2 : Ext w w2 := by rw [← hw2]; exact hb.drew
    have he2 : Ext wr w2 := by rw [← hw2]; exact (Ext.refl wr).drew
    clear hw2 hb c0 d0 c1 d1 c2 d2 c3 d3 c4 d4 c5 d5 c6 d6
    go_wp2_with fail
    refine (eqNd_any x y an ak an' ak' cn ck cn' ck' w2 S1.out.1 S1.out.2.2 S2.out.1 S2.out.2.2 (hrn.ext he2) (hrk.ext he2) (hsn.ext he2) (hsk.ext he2)).mono ?_; rintro e w3 ⟨b0, rfl, he, hb3⟩; have He := hd0 he; clear he hrn hrk hsn hsk he2
    cases b0 with
    | false =>
     go_wp2; go_ret; exact RetB.mk false rfl (by simp only [Bool.false_eq_true, false_iff]; intro h; subst h; have h1 := Hx.out; rw [Hy.out] at h1; cases h1; exact Bool.noConfusion (He.out.2 rfl)) (hb2.trans hb3)
    | true =>
     have Hxy : Hid (x = y) := hd0 (He.out.1 rfl); go_wp2; go_roundw
     case rel => exact ⟨k + 1, by omega, by go_num, fun j hj => (Nat.lt_succ_iff_lt_or_eq.1 hj).elim (Hpre.out j) (fun e => by rw [e, Hx.out, Hy.out, Hxy.out]), hb2.trans hb3⟩
     case measure => simp [intOf]; omega
   ·go_wp2; go_ret; exact RetB.mk true rfl (by simp only [true_iff]; exact extNd Hlen.out (fun j hj => Hpre.out j (by omega))) hb
 ·have ht : ((T.length : Int) != (U.length : Int)) = true := by simp; omega
  have Hlen := hd0 hlen; clear hlen
  go_enter Tryz.func49, Tryz.ntmps49
  go_wp2; go_ret; exact RetB.mk false rfl (by simp only [Bool.false_eq_true, false_iff]; intro h; exact Hlen.out (by rw [h])) (Ext.refl _)
def CredOk (r a s g : Int) : Prop := inB r 0 99 = true ∧ inB a 0 99 = true ∧ inB s 0 99 = true ∧ inB g 0 255 = true
theorem l1In_is {n lo hi : Int} {b : Bool} (h : inB n lo hi = b) (w : World) : Calls Tryz.prog 68 #[.int .i64 n, .int .i64 lo, .int .i64 hi] w fun e w' => e = .returned (.bool b) ∧ w = w' := h ▸ l1In_any n lo hi w
theorem within_is {n lo hi : Int} {b : Bool} (h : inB n lo hi = b) (w : World) : Calls Tryz.prog 91 #[.int .i64 n, .int .i64 lo, .int .i64 hi] w fun e w' => e = .returned (.bool b) ∧ w = w' := h ▸ within_any n lo hi w
theorem isUser_is {n : Int} {b : Bool} (h : inB n 0 99 = b) (w : World) : Calls Tryz.prog 102 #[.int .i64 n] w fun e w' => e = .returned (.bool b) ∧ w = w' := by
 go_enter Tryz.func102, Tryz.ntmps102
 go_wp2_with (go_at_call 91; refine (within_is h _).mono ?_; rintro e w' ⟨rfl, rfl⟩)
 go_ret; exact ⟨rfl, rfl⟩
theorem cred_cases (r a s g : Int) : inB r 0 99 = false ∨ (inB r 0 99 = true ∧ inB a 0 99 = false) ∨ (inB r 0 99 = true ∧ inB a 0 99 = true ∧ inB s 0 99 = false) ∨ (inB r 0 99 = true ∧ inB a 0 99 = true ∧ inB s 0 99 = true ∧ inB g 0 255 = false) ∨ (inB r 0 99 = true ∧ inB a 0 99 = true ∧ inB s 0 99 = true ∧ inB g 0 255 = true) := by
 cases inB r 0 99 <;> cases inB a 0 99 <;> cases inB s 0 99 <;> cases inB g 0 255 <;> simp
theorem specCredValid (r a s g : Int) (w : World) : Calls Tryz.prog 65 #[.agg #[.int .i64 r, .int .i64 a, .int .i64 s, .int .i64 g]] w (RetB (CredOk r a s g) w) := by
 unfold CredOk
 rcases cred_cases r a s g with h1 | ⟨h1, h2⟩ | ⟨h1, h2, h3⟩ | ⟨h1, h2, h3, h4⟩ | ⟨h1, h2, h3, h4⟩
 all_goals
  go_enter Tryz.func65, Tryz.ntmps65
  go_wp2_with (go_at_call 68; refine (l1In_is (by assumption) _).mono ?_; rintro e w' ⟨rfl, rfl⟩)
  go_ret; exact RetB.mk _ rfl (by simp [*]) ((Ext.refl _).alloc _)
theorem implCredValid (r a s g : Int) (w : World) : Calls Tryz.prog 60 #[.agg #[.int .i64 r, .int .i64 a, .int .i64 s, .int .i64 g]] w (RetB (CredOk r a s g) w) := by
 unfold CredOk
 rcases cred_cases r a s g with h1 | ⟨h1, h2⟩ | ⟨h1, h2, h3⟩ | ⟨h1, h2, h3, h4⟩ | ⟨h1, h2, h3, h4⟩
 all_goals
  go_enter Tryz.func60, Tryz.ntmps60
  go_wp2_with (first
   | (go_at_call 102; refine (isUser_is (by assumption) _).mono ?_; rintro e w' ⟨rfl, rfl⟩)
   | (go_at_call 91; refine (within_is (by assumption) _).mono ?_; rintro e w' ⟨rfl, rfl⟩))
  go_ret; exact RetB.mk _ rfl (by simp [*]) ((Ext.refl _).alloc _)
theorem toCred_any (r a s g : Int) (w : World) : Calls Tryz.prog 43 #[.agg #[.int .i64 r, .int .i64 a, .int .i64 s, .int .i64 g]] w (RetV (fun v _ => v = .agg #[.int .i64 r, .int .i64 a, .int .i64 s, .int .i64 g]) w) := by
 go_enter Tryz.func43, Tryz.ntmps43
 go_wp2; exact bodyPost_ret (v := .agg #[.int .i64 r, .int .i64 a, .int .i64 s, .int .i64 g]) (by simp [results, Tryz.results43, go_sem]) rfl (RetV.mk rfl ((((Ext.refl _).alloc _).alloc _).alloc _))
theorem eqCred_any (r a s g r' a' s' g' : Int) (w : World) : Calls Tryz.prog 50 #[.agg #[.int .i64 r, .int .i64 a, .int .i64 s, .int .i64 g], .agg #[.int .i64 r', .int .i64 a', .int .i64 s', .int .i64 g']] w (RetB (r = r' ∧ a = a' ∧ s = s' ∧ g = g') w) := by
 go_enter Tryz.func50, Tryz.ntmps50
 go_wp2
 all_goals
  go_ret; refine RetB.mk _ rfl ?_ (((Ext.refl _).alloc _).alloc _)
  simp_all
theorem toKer_any (at_ : Option Addr) (cap : Nat) (T : List Nd) (r a s g : Int) (w : World) (hl : T.length ≤ 1048576) (hs : ∀ x ∈ T, SmN 1048576 x) (hc : RdN w at_ T) :
  Calls Tryz.prog 9 #[.agg #[.slice at_ T.length cap, .int .i64 r, .int .i64 a, .int .i64 s, .int .i64 g]] w fun e w' => ∃ a1 c1 vs, e = .returned (.agg #[.slice a1 T.length c1, .int .i64 r, .int .i64 a, .int .i64 s, .int .i64 g]) ∧ T.length ≤ c1 ∧ Sep w w' [plNd (.slice a1 T.length c1) vs T] := by
 have HS := hd0 hs; clear hs
 go_enter Tryz.func9, Tryz.ntmps9
 have S := Sep.start w; replace S := S.alloc_at (n := w.heap.size) (by simp) #[.slice at_ T.length cap, .int .i64 r, .int .i64 a, .int .i64 s, .int .i64 g] 26; replace S := S.alloc_at (n := (w.heap.size + 1)) (by simp) #[.slice none 0 0, .int .i64 0, .int .i64 0, .int .i64 0, .int .i64 0] 31; replace S := S.alloc_at (n := (w.heap.size + 2)) (by simp) #[.slice none 0 0, .int .i64 0, .int .i64 0, .int .i64 0, .int .i64 0] 31
 go_wp2_with fail
 generalize (((w.alloc (.cells #[.slice at_ T.length cap, .int .i64 r, .int .i64 a, .int .i64 s, .int .i64 g] 26)).alloc (.cells #[.slice none 0 0, .int .i64 0, .int .i64 0, .int .i64 0, .int .i64 0] 31)).alloc (.cells #[.slice none 0 0, .int .i64 0, .int .i64 0, .int .i64 0, .int .i64 0] 31)) = w1 at *; refine (toNdS_any at_ cap T w1 hl HS.out (hc.ext S.ext)).mono ?_; rintro e w2 ⟨vs, rfl, U⟩; generalize w1.heap.size = q at *; replace S : Sep w w2 [plNd (.slice (some ⟨q, 0, none⟩) T.length T.length) vs T, plBox (w.heap.size + 2) #[.slice none 0 0, .int .i64 0, .int .i64 0, .int .i64 0, .int .i64 0] 31, plBox (w.heap.size + 1) #[.slice none 0 0, .int .i64 0, .int .i64 0, .int .i64 0, .int .i64 0] 31, plBox w.heap.size #[.slice at_ T.length cap, .int .i64 r, .int .i64 a, .int .i64 s, .int .i64 g] 26] := S.call U; clear U; obtain ⟨⟨obc0, obf0⟩, ⟨obc1, obf1⟩, ⟨obc2, obf2⟩, ⟨obc3, obf3⟩, ⟨obc4, obf4⟩⟩ := bx5 (S.box 1 rfl); obtain ⟨⟨rbc0, rbf0⟩, ⟨rbc1, rbf1⟩, ⟨rbc2, rbf2⟩, ⟨rbc3, rbf3⟩, ⟨rbc4, rbf4⟩⟩ := bx5 (S.box 2 rfl); obtain ⟨⟨a0c0, a0f0⟩, ⟨a0c1, a0f1⟩, ⟨a0c2, a0f2⟩, ⟨a0c3, a0f3⟩, ⟨a0c4, a0f4⟩⟩ := bx5 (S.box 3 rfl)
 go_wp2_with fail
 clear obc0 obf0 obc1 obf1 obc2 obf2 obc3 obf3 obc4 obf4 rbc0 rbf0 rbc1 rbf1 rbc2 rbf2 rbc3 rbf3 rbc4 rbf4 a0c0 a0f0 a0c1 a0f1 a0c2 a0f2 a0c3 a0f3 a0c4 a0f4; replace S : Sep w (w2.setCell ⟨(w.heap.size + 2), 0, none⟩ (.slice (some ⟨q, 0, none⟩) T.length T.length)) [plNd (.slice (some ⟨q, 0, none⟩) T.length T.length) vs T, plBox (w.heap.size + 2) #[.slice (some ⟨q, 0, none⟩) T.length T.length, .int .i64 0, .int .i64 0, .int .i64 0, .int .i64 0] 31, plBox (w.heap.size + 1) #[.slice none 0 0, .int .i64 0, .int .i64 0, .int .i64 0, .int .i64 0] 31, plBox w.heap.size #[.slice at_ T.length cap, .int .i64 r, .int .i64 a, .int .i64 s, .int .i64 g] 26] := S.set 1 rfl 0 _; generalize (w2.setCell ⟨(w.heap.size + 2), 0, none⟩ (.slice (some ⟨q, 0, none⟩) T.length T.length)) = w3 at *; refine (toCred_any r a s g w3).mono ?_; rintro e w4 ⟨v, rfl, rfl, hE⟩; replace S := S.step hE; clear hE; obtain ⟨⟨obc0, obf0⟩, ⟨obc1, obf1⟩, ⟨obc2, obf2⟩, ⟨obc3, obf3⟩, ⟨obc4, obf4⟩⟩ := bx5 (S.box 1 rfl); obtain ⟨⟨rbc0, rbf0⟩, ⟨rbc1, rbf1⟩, ⟨rbc2, rbf2⟩, ⟨rbc3, rbf3⟩, ⟨rbc4, rbf4⟩⟩ := bx5 (S.box 2 rfl); obtain ⟨⟨a0c0, a0f0⟩, ⟨a0c1, a0f1⟩, ⟨a0c2, a0f2⟩, ⟨a0c3, a0f3⟩, ⟨a0c4, a0f4⟩⟩ := bx5 (S.box 3 rfl); go_wp2
 try simp only [Exit.inBlock, Exit.then]
 refine bodyPost_ret (v := .agg #[.slice (some ⟨q, 0, none⟩) T.length T.length, .int .i64 r, .int .i64 a, .int .i64 s, .int .i64 g]) (by simp [results, Tryz.results9, go_sem, rbc0, rbc1, rbc2, rbc3, rbc4, obc0, obc1, obc2, obc3, obc4]) rfl ?_; replace S : Sep w (((((((((w4.setCell ⟨(w.heap.size + 2), 1, none⟩ (.int .i64 r)).setCell ⟨(w.heap.size + 2), 2, none⟩ (.int .i64 a)).setCell ⟨(w.heap.size + 2), 3, none⟩ (.int .i64 s)).setCell ⟨(w.heap.size + 2), 4, none⟩ (.int .i64 g)).setCell ⟨(w.heap.size + 1), 0, none⟩ (.slice (some ⟨q, 0, none⟩) T.length T.length)).setCell ⟨(w.heap.size + 1), 1, none⟩ (.int .i64 r)).setCell ⟨(w.heap.size + 1), 2, none⟩ (.int .i64 a)).setCell ⟨(w.heap.size + 1), 3, none⟩ (.int .i64 s)).setCell ⟨(w.heap.size + 1), 4, none⟩ (.int .i64 g)) [plNd (.slice (some ⟨q, 0, none⟩) T.length T.length) vs T] := (((((((((((S.set 1 rfl 1 _).set 1 rfl 2 _).set 1 rfl 3 _).set 1 rfl 4 _).set 2 rfl 0 _).set 2 rfl 1 _).set 2 rfl 2 _).set 2 rfl 3 _).set 2 rfl 4 _).drop 1).drop 1).drop 1; exact ⟨_, _, vs, rfl, Nat.le_refl _, S⟩
theorem eqKer_any (a1 b1 : Option Addr) (c1 d1 : Nat) (T U : List Nd) (r a s g r' a' s' g' : Int) (w : World) (hl : T.length ≤ 9223372036854775807) (hm : U.length ≤ 9223372036854775807) (hlt : ∀ t ∈ T, SmN 9223372036854775807 t) (hlu : ∀ t ∈ U, SmN 9223372036854775807 t) (hc : RdN w a1 T) (hd : RdN w b1 U) :
  Calls Tryz.prog 11 #[.agg #[.slice a1 T.length c1, .int .i64 r, .int .i64 a, .int .i64 s, .int .i64 g], .agg #[.slice b1 U.length d1, .int .i64 r', .int .i64 a', .int .i64 s', .int .i64 g']] w (RetB (T = U ∧ r = r' ∧ a = a' ∧ s = s' ∧ g = g') w) := by
 have HLT := hd0 hlt; have HLU := hd0 hlu; clear hlt hlu
 go_enter Tryz.func11, Tryz.ntmps11
 have S := Sep.start w; replace S := S.alloc_at (n := w.heap.size) (by simp) #[.slice a1 T.length c1, .int .i64 r, .int .i64 a, .int .i64 s, .int .i64 g] 31; replace S := S.alloc_at (n := (w.heap.size + 1)) (by simp) #[.slice b1 U.length d1, .int .i64 r', .int .i64 a', .int .i64 s', .int .i64 g'] 31
 go_wp2_with fail
 generalize ((w.alloc (.cells #[.slice a1 T.length c1, .int .i64 r, .int .i64 a, .int .i64 s, .int .i64 g] 31)).alloc (.cells #[.slice b1 U.length d1, .int .i64 r', .int .i64 a', .int .i64 s', .int .i64 g'] 31)) = w1 at *; refine (eqNdS_any a1 b1 c1 d1 T U w1 hl hm HLT.out HLU.out (hc.ext S.ext) (hd.ext S.ext)).mono ?_; rintro e w2 ⟨v1, rfl, hv1, hE⟩; have Hv1 := hd0 hv1; clear hv1; replace S := S.step hE; clear hE
 cases v1 with
 | false =>
  go_wp2; go_ret; exact RetB.mk false rfl (by simp only [Bool.false_eq_true, false_iff]; exact fun h => Bool.noConfusion (Hv1.out.2 h.1)) S.ext
 | true =>
  obtain ⟨⟨qc0, qf0⟩, ⟨qc1, qf1⟩, ⟨qc2, qf2⟩, ⟨qc3, qf3⟩, ⟨qc4, qf4⟩⟩ := bx5 (S.box 0 rfl); obtain ⟨⟨pc0, pf0⟩, ⟨pc1, pf1⟩, ⟨pc2, pf2⟩, ⟨pc3, pf3⟩, ⟨pc4, pf4⟩⟩ := bx5 (S.box 1 rfl)
  go_wp2_with fail
  refine (eqCred_any r a s g r' a' s' g' w2).mono ?_; rintro e w3 ⟨v2, rfl, hv2, hE⟩; have Hv2 := hd0 hv2; clear hv2; clear qc0 qf0 qc1 qf1 qc2 qf2 qc3 qf3 qc4 qf4 pc0 pf0 pc1 pf1 pc2 pf2 pc3 pf3 pc4 pf4; replace S := S.step hE; clear hE
  cases v2 with
  | false =>
   go_wp2; go_ret; exact RetB.mk false rfl (by simp only [Bool.false_eq_true, false_iff]; exact fun h => Bool.noConfusion (Hv2.out.2 h.2)) S.ext
  | true =>
   go_wp2; go_ret; exact RetB.mk true rfl (by simp only [true_iff]; exact ⟨Hv1.out.1 (by trivial), Hv2.out.1 (by trivial)⟩) S.ext
end Go.Proofs.YtnibbldfohbfkaaGreatDoor
