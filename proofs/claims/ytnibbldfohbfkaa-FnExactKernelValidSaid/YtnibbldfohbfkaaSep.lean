/- What the call's own memory holds, in one fact: a list of pieces, each with the blocks that are its own, apart from all others and new; it lasts where memory only grows. No condition. -/
import Derived.Test.YtnibbldfohbfkaaBase
namespace Go.Proofs.Ytnibbldfohbfkaa
open Go.RowKit

/-- A piece of memory: which blocks are its own, what holds of them; it holds as long as they are as they were. -/
structure Pl where
  own : Nat → Prop
  ok : World → Prop
  frame : ∀ w w', ok w → (∀ b, own b → w'.heap[b]? = w.heap[b]?) → ok w'
  lt : ∀ w b, ok w → own b → b < w.heap.size

/-- Nothing has changed but blocks of S, and new memory. -/
structure Chg (S : Nat → Prop) (w w' : World) : Prop where
  os : w'.os = w.os
  tape : w'.tape = w.tape
  output : w'.output = w.output
  size : w.heap.size ≤ w'.heap.size
  block : ∀ k, k < w.heap.size → ¬ S k → w'.heap[k]? = w.heap[k]?
theorem Chg.refl (S : Nat → Prop) (w : World) : Chg S w w := ⟨rfl, rfl, rfl, Nat.le_refl _, fun _ _ _ => rfl⟩
theorem Chg.of_ext {S : Nat → Prop} {w w' : World} (h : Ext w w') : Chg S w w' := ⟨h.os, h.tape, h.output, h.size, fun k hk _ => h.block k hk⟩
theorem Chg.trans {S : Nat → Prop} {a b c : World} (h : Chg S a b) (k : Chg S b c) : Chg S a c :=
  ⟨k.os.trans h.os, k.tape.trans h.tape, k.output.trans h.output, Nat.le_trans h.size k.size, fun i hi hn => (k.block i (Nat.lt_of_lt_of_le hi h.size) hn).trans (h.block i hi hn)⟩
theorem Chg.mono {S S' : Nat → Prop} {w w' : World} (h : Chg S w w') (hs : ∀ k, S k → k < w.heap.size → S' k) : Chg S' w w' :=
  ⟨h.os, h.tape, h.output, h.size, fun k hk hn => h.block k hk (fun hS => hn (hs k hS hk))⟩
theorem Chg.of_grown {w w' : World} {v : Value} (h : w.grownBy w' v.ownBlock) : Chg (fun b => v.ownBlock = some b) w w' := ⟨h.os, h.tape, h.output, h.size, fun k hk hn => h.block k hk (fun e => hn e.symm)⟩
theorem Chg.of_row {w w' : World} {row : Option Nat} (h : w.grownBy w' row) : Chg (fun b => row = some b) w w' := ⟨h.os, h.tape, h.output, h.size, fun k hk hn => h.block k hk (fun e => hn e.symm)⟩
theorem Chg.grown {w w' : World} {row : Option Nat} (h : Chg (fun b => row = some b) w w') : w.grownBy w' row := ⟨h.os, h.tape, h.output, h.size, fun k hk hn => h.block k hk (fun e => hn e.symm)⟩
theorem Chg.setCell (w : World) (b o : Nat) (u : Value) : Chg (fun k => k = b) w (w.setCell ⟨b, o, none⟩ u) :=
  ⟨rfl, rfl, rfl, by simp [World.setCell], fun k _ hn => Below.heap_setCell _ _ _ _ (fun e => hn e)⟩
theorem Chg.ext {S : Nat → Prop} {w0 w w' : World} (h : Ext w0 w) (hc : Chg S w w') (hS : ∀ k, S k → w0.heap.size ≤ k) : Ext w0 w' :=
  ⟨hc.os.trans h.os, hc.tape.trans h.tape, hc.output.trans h.output, Nat.le_trans h.size hc.size, fun k hk => (hc.block k (Nat.lt_of_lt_of_le hk h.size) (fun hs => by have := hS k hs; omega)).trans (h.block k hk)⟩

/-- The pieces: one box whose cells are known; one row that a slice owns; a view that is only read. -/
def plBox (b : Nat) (C : Array Value) (t : TypeId) : Pl where
  own k := k = b
  ok w := w.heap[b]? = some (.cells C t)
  frame := fun w w' h hf => (hf b rfl).trans h
  lt := fun w k h e => by
    subst e
    rcases Nat.lt_or_ge k w.heap.size with h3 | h3
    · exact h3
    · rw [Array.getElem?_eq_none h3] at h; cases h
def plRow {α : Type} (e nf : Nat) (enc : α → List Value) (u : Value) (l : List α) : Pl where
  own k := u.ownBlock = some k
  ok w := w.ownsRow 0 e nf u l.length (l.flatMap enc)
  frame := fun w w' h hf => by
    refine ⟨h.1, ?_⟩
    rcases h.2 with h2 | ⟨g, cap, cur, hv, hb, hh, r⟩
    · exact .inl h2
    · exact .inr ⟨g, cap, cur, hv, hb, by rw [hf g (by rw [hv]; rfl)]; exact hh, r⟩
  lt := fun w k h e => (World.ownsRow.lt h k e).2
def plView {α : Type} (nf : Nat) (enc : α → List Value) (a : Option Addr) (l : List α) : Pl where
  own k := ∃ off, a = some ⟨k, off, none⟩
  ok w := Rd nf enc w a l ∧ ∀ b off, a = some ⟨b, off, none⟩ → b < w.heap.size
  frame := fun w w' h hf => by
    refine ⟨fun i hi => ?_, fun b off e => ?_⟩
    · obtain ⟨b, off, ha, hc⟩ := h.1 i hi
      refine ⟨b, off, ha, fun j u hu => ?_⟩
      rw [World.cell?_of_block (w := w) (hf b ⟨off, ha⟩)]
      exact hc j u hu
    · have h1 := hf b ⟨off, e⟩
      have h2 := h.2 b off e
      rcases Nat.lt_or_ge b w'.heap.size with h3 | h3
      · exact h3
      · rw [Array.getElem?_eq_none h3] at h1
        rw [Array.getElem?_eq_getElem h2] at h1
        cases h1
  lt := fun w k h ⟨off, e⟩ => h.2 k off e

/-- All of them; besides, blocks of M (which were there) may have changed. -/
structure SepM (M : Nat → Prop) (w0 w : World) (H : List Pl) : Prop where
  chg : Chg M w0 w
  small : ∀ b, M b → b < w0.heap.size
  ok : ∀ p ∈ H, p.ok w
  base : ∀ p ∈ H, ∀ b, p.own b → w0.heap.size ≤ b
  apart : H.Pairwise (fun p q => ∀ b, p.own b → ¬ q.own b)

abbrev Sep (w0 w : World) (H : List Pl) : Prop := SepM (fun _ => False) w0 w H
theorem SepM.ext {w0 w : World} {H : List Pl} (S : Sep w0 w H) : Ext w0 w := ⟨S.chg.os, S.chg.tape, S.chg.output, S.chg.size, fun k hk => S.chg.block k hk (fun h => h)⟩
theorem Sep.start (w : World) : Sep w w [] := ⟨Chg.refl _ w, by simp, by simp, by simp, .nil⟩
theorem Sep.of_ext {w0 w : World} (h : Ext w0 w) : Sep w0 w [] := ⟨Chg.of_ext h, by simp, by simp, by simp, .nil⟩
theorem SepM.begin (M : Nat → Prop) (w : World) (hM : ∀ b, M b → b < w.heap.size) : SepM M w w [] := ⟨Chg.refl _ w, hM, by simp, by simp, .nil⟩
theorem SepM.lt {M : Nat → Prop} {w0 w : World} {H : List Pl} (S : SepM M w0 w H) {p : Pl} (hp : p ∈ H) {b : Nat} (hb : p.own b) : w0.heap.size ≤ b ∧ b < w.heap.size := ⟨S.base p hp b hb, p.lt w b (S.ok p hp) hb⟩
theorem SepM.step {M : Nat → Prop} {w0 w w' : World} {H : List Pl} (S : SepM M w0 w H) (hE : Ext w w') : SepM M w0 w' H :=
  ⟨S.chg.trans (Chg.of_ext hE), S.small, fun p hp => p.frame w w' (S.ok p hp) (fun b hb => hE.block b (S.lt hp hb).2), S.base, S.apart⟩
theorem SepM.drew {M : Nat → Prop} {w0 w : World} {H : List Pl} (S : SepM M w0 w H) : SepM M w0 w.drew H := S.step (Ext.refl w).drew
theorem SepM.drewN {M : Nat → Prop} {w0 w : World} {H : List Pl} (S : SepM M w0 w H) (n : Nat) : SepM M w0 (w.drewN n) H := S.step ((Ext.refl w).drewN n)
/-- What a call leaves of its own comes to what was there. -/
theorem SepM.call {M : Nat → Prop} {w0 w w' : World} {H H' : List Pl} (S : SepM M w0 w H) (T : Sep w w' H') : SepM M w0 w' (H' ++ H) :=
  ⟨S.chg.trans (Chg.of_ext T.ext), S.small, fun p hp => by
    rcases List.mem_append.1 hp with h | h
    · exact T.ok p h
    · exact (S.step T.ext).ok p h, fun p hp b hb => by
    rcases List.mem_append.1 hp with h | h
    · exact Nat.le_trans S.chg.size (T.base p h b hb)
    · exact S.base p h b hb, List.pairwise_append.2 ⟨T.apart, S.apart, fun p hp q hq b hb hc => by
    have h1 := T.base p hp b hb
    have h2 := (S.lt hq hc).2
    omega⟩⟩
theorem SepM.cons {M : Nat → Prop} {w0 w w' : World} {H : List Pl} {p : Pl} (S : SepM M w0 w H) (hE : Ext w w') (hp : p.ok w') (hn : ∀ b, p.own b → w.heap.size ≤ b) : SepM M w0 w' (p :: H) :=
  S.call (H' := [p]) ⟨Chg.of_ext hE, by simp, fun q hq => by rw [List.mem_singleton.1 hq]; exact hp, fun q hq b hb => by rw [List.mem_singleton.1 hq] at hb; exact hn b hb, List.pairwise_singleton _ _⟩
theorem Sep.one {w w' : World} {p : Pl} (hE : Ext w w') (hp : p.ok w') (hn : ∀ b, p.own b → w.heap.size ≤ b) : Sep w w' [p] := (Sep.start w).cons hE hp hn
theorem SepM.alloc {M : Nat → Prop} {w0 w : World} {H : List Pl} (S : SepM M w0 w H) (C : Array Value) (t : TypeId) : SepM M w0 (w.alloc (.cells C t)) (plBox w.heap.size C t :: H) :=
  S.cons ((Ext.refl w).alloc _) (heap_alloc_new w _) (fun b hb => by
    have : b = w.heap.size := hb
    omega)
theorem SepM.alloc_at {M : Nat → Prop} {w0 w : World} {H : List Pl} {n : Nat} (S : SepM M w0 w H) (hn : n = w.heap.size) (C : Array Value) (t : TypeId) : SepM M w0 (w.alloc (.cells C t)) (plBox n C t :: H) := by subst hn; exact S.alloc C t
theorem SepM.owned {α : Type} {M : Nat → Prop} {w0 w w' : World} {H : List Pl} (S : SepM M w0 w H) (hE : Ext w w') {base e nf : Nat} {enc : α → List Value} {v : Value} {l : List α} (hb : w.heap.size ≤ base) (h : w'.ownsRow base e nf v l.length (l.flatMap enc)) : SepM M w0 w' (plRow e nf enc v l :: H) :=
  S.cons hE (ownsRow_base h (Nat.zero_le _)) (fun b hb2 => Nat.le_trans hb (World.ownsRow.lt h b hb2).1)

/-- An empty literal. -/
theorem SepM.lit0 {α : Type} {M : Nat → Prop} {w0 w : World} {H : List Pl} (S : SepM M w0 w H) {n : Nat} (hn : n = w.heap.size) (e nf : Nat) (enc : α → List Value) : SepM M w0 (w.alloc (.cells #[] e)) (plRow e nf enc (.slice (some ⟨n, 0, none⟩) 0 0) [] :: H) := by
  subst hn
  exact S.cons (p := plRow e nf enc (.slice (some ⟨w.heap.size, 0, none⟩) 0 0) []) ((Ext.refl w).alloc _) ⟨by simp, .inr ⟨w.heap.size, 0, #[], rfl, Nat.zero_le _, heap_alloc_new w _, Nat.le_refl _, Nat.zero_le _, by simp, by simp⟩⟩ (fun b hb => by
    have : w.heap.size = b := Option.some.inj hb
    omega)
theorem SepM.nil {α : Type} {M : Nat → Prop} {w0 w : World} {H : List Pl} (S : SepM M w0 w H) (e nf : Nat) (enc : α → List Value) : SepM M w0 w (plRow e nf enc (.slice none 0 0) [] :: H) :=
  S.cons (Ext.refl w) (World.ownsRow_nil _ _ _ _) (fun b hb => by cases hb)
/-- A literal of elements. -/
theorem SepM.lit {α : Type} {M : Nat → Prop} {w0 w : World} {H : List Pl} (S : SepM M w0 w H) {n : Nat} (hn : n = w.heap.size) (e nf : Nat) {enc : α → List Value} (hlen : ∀ x, (enc x).length = nf) (l : List α) {C : Array Value} {m : Nat} (hC : C.toList = l.flatMap enc) (hm : m = l.length) (hsm : m ≤ 1000000000) : SepM M w0 (w.alloc (.cells C e)) (plRow e nf enc (.slice (some ⟨n, 0, none⟩) m m) l :: H) := by
  subst hn hm
  exact S.cons (p := plRow e nf enc (.slice (some ⟨w.heap.size, 0, none⟩) l.length l.length) l) ((Ext.refl w).alloc _) (by
    have hsz : C.size = l.length * nf := by rw [← Array.length_toList, hC, flatMap_length hlen]
    refine ⟨flatMap_length hlen l, .inr ⟨w.heap.size, l.length, C, rfl, Nat.zero_le _, heap_alloc_new w _, Nat.le_refl _, by unfold maxLen; omega, hsz, ?_⟩⟩
    rw [hC, List.take_of_length_le (by rw [flatMap_length hlen]; exact Nat.le_refl _)]) (fun b hb => by
    have : w.heap.size = b := Option.some.inj hb
    omega)

/-- What is at place i. -/
theorem SepM.at_ {M : Nat → Prop} {w0 w : World} {H : List Pl} (S : SepM M w0 w H) (i : Nat) {p : Pl} (h : H[i]? = some p) : p.ok w := S.ok p (List.mem_of_getElem? h)
theorem SepM.box {M : Nat → Prop} {w0 w : World} {H : List Pl} (S : SepM M w0 w H) (i : Nat) {b : Nat} {C : Array Value} {t : TypeId} (h : H[i]? = some (plBox b C t)) : w.heap[b]? = some (.cells C t) := S.at_ i h
theorem SepM.ge {M : Nat → Prop} {w0 w : World} {H : List Pl} (S : SepM M w0 w H) (i : Nat) {b : Nat} {C : Array Value} {t : TypeId} (h : H[i]? = some (plBox b C t)) : w0.heap.size ≤ b ∧ b < w.heap.size := S.lt (List.mem_of_getElem? h) (show b = b from rfl)
theorem SepM.row {α : Type} {M : Nat → Prop} {w0 w : World} {H : List Pl} (S : SepM M w0 w H) (i : Nat) {e nf : Nat} {enc : α → List Value} {v : Value} {l : List α} (h : H[i]? = some (plRow e nf enc v l)) : w.ownsRow w0.heap.size e nf v l.length (l.flatMap enc) := by
  have h0 : w.ownsRow 0 e nf v l.length (l.flatMap enc) := S.at_ i h
  refine ⟨h0.1, ?_⟩
  rcases h0.2 with h2 | ⟨g, cap, cur, hv, hb, r⟩
  · exact .inl h2
  · exact .inr ⟨g, cap, cur, hv, (S.lt (List.mem_of_getElem? h) (show v.ownBlock = some g by rw [hv]; rfl)).1, r⟩
theorem SepM.ne {M : Nat → Prop} {w0 w : World} {H : List Pl} (S : SepM M w0 w H) {i j : Nat} {p q : Pl} (hi : H[i]? = some p) (hj : H[j]? = some q) (hij : i ≠ j) {b : Nat} (hb : p.own b) : ¬ q.own b := by
  have hp := List.pairwise_iff_getElem.1 S.apart
  obtain ⟨i1, i2⟩ := List.getElem?_eq_some_iff.1 hi
  obtain ⟨j1, j2⟩ := List.getElem?_eq_some_iff.1 hj
  rcases Nat.lt_or_gt_of_ne hij with h | h
  · have := hp i j i1 j1 h b (by rw [i2]; exact hb)
    rwa [j2] at this
  · intro e
    have := hp j i j1 i1 h b (by rw [j2]; exact e)
    rw [i2] at this
    exact this hb
/-- Two boxes are two blocks. -/
theorem SepM.bne {M : Nat → Prop} {w0 w : World} {H : List Pl} (S : SepM M w0 w H) (i j : Nat) {b c : Nat} {C D : Array Value} {t s : TypeId} (hi : H[i]? = some (plBox b C t)) (hj : H[j]? = some (plBox c D s)) (hij : i ≠ j) : b ≠ c := fun e => S.ne hi hj hij (show b = b from rfl) e
/-- One piece is written anew, nothing else. -/
theorem SepM.put {M : Nat → Prop} {w0 w w' : World} {H : List Pl} (S : SepM M w0 w H) (i : Nat) {p q : Pl} (h : H[i]? = some p) (hg : Chg p.own w w') (hq : q.ok w') (hblk : ∀ b, q.own b → p.own b ∨ w.heap.size ≤ b) : SepM M w0 w' (H.set i q) := by
  have hm := List.mem_of_getElem? h
  have hi := (List.getElem?_eq_some_iff.1 h).1
  have hok : ∀ j r, H[j]? = some r → j ≠ i → r.ok w' := fun j r hj hne =>
    r.frame w w' (S.at_ j hj) (fun b hb => hg.block b (S.lt (List.mem_of_getElem? hj) hb).2 (fun e => S.ne h hj (fun e => hne e.symm) e hb))
  refine ⟨⟨hg.os.trans S.chg.os, hg.tape.trans S.chg.tape, hg.output.trans S.chg.output, Nat.le_trans S.chg.size hg.size, fun k hk hn => (hg.block k (Nat.lt_of_lt_of_le hk S.chg.size) (fun hs => by have := (S.lt hm hs).1; omega)).trans (S.chg.block k hk hn)⟩, S.small, fun r hr => ?_, fun r hr b hb => ?_, ?_⟩
  · obtain ⟨j, hj⟩ := List.getElem?_of_mem hr
    by_cases hji : i = j
    · subst hji
      rw [List.getElem?_set_self hi] at hj
      cases hj; exact hq
    · rw [List.getElem?_set_ne hji] at hj
      exact hok j r hj (fun e => hji e.symm)
  · obtain ⟨j, hj⟩ := List.getElem?_of_mem hr
    by_cases hji : i = j
    · subst hji
      rw [List.getElem?_set_self hi] at hj
      cases hj
      rcases hblk b hb with h2 | h2
      · exact (S.lt hm h2).1
      · exact Nat.le_trans S.chg.size h2
    · rw [List.getElem?_set_ne hji] at hj
      exact S.base r (List.mem_of_getElem? hj) b hb
  · rw [List.pairwise_iff_getElem]
    intro j k hj hk hjk b hb
    simp only [List.length_set] at hj hk
    rw [List.getElem_set] at hb ⊢
    have h1 := List.pairwise_iff_getElem.1 S.apart j k hj hk hjk
    by_cases e1 : i = j
    · subst e1
      rw [if_pos rfl] at hb
      rw [if_neg (by omega)]
      rcases hblk b hb with h2 | h2
      · exact S.ne h (List.getElem?_eq_getElem hk) (by omega) h2
      · intro e
        have := (S.lt (List.getElem_mem hk) e).2
        omega
    · rw [if_neg e1] at hb
      by_cases e2 : i = k
      · subst e2
        rw [if_pos rfl]
        intro e
        rcases hblk b e with h2 | h2
        · exact S.ne (List.getElem?_eq_getElem hj) h (by omega) hb h2
        · have := (S.lt (List.getElem_mem hj) hb).2
          omega
      · rw [if_neg e2]
        exact h1 b hb
/-- A box's cell is written. -/
theorem SepM.set {M : Nat → Prop} {w0 w : World} {H : List Pl} (S : SepM M w0 w H) (i : Nat) {b : Nat} {C : Array Value} {t : TypeId} (h : H[i]? = some (plBox b C t)) (o : Nat) (u : Value) : SepM M w0 (w.setCell ⟨b, o, none⟩ u) (H.set i (plBox b (C.setIfInBounds o u) t)) :=
  S.put i h (Chg.setCell w b o u) (by
    have := S.box i h
    show (w.setCell ⟨b, o, none⟩ u).heap[b]? = _
    simp [World.setCell, Array.getElem?_modify, this]) (fun c hc => .inl hc)
/-- A row is written or grows. -/
theorem SepM.grow {α : Type} {M : Nat → Prop} {w0 w w' : World} {H : List Pl} (S : SepM M w0 w H) (i : Nat) {base e nf : Nat} {enc : α → List Value} {v v' : Value} {l l' : List α} (h : H[i]? = some (plRow e nf enc v l)) (hg : w.grownBy w' v.ownBlock) (ho : w'.ownsRow base e nf v' l'.length (l'.flatMap enc)) (hblk : ∀ b, v'.ownBlock = some b → v.ownBlock = some b ∨ w.heap.size ≤ b) : SepM M w0 w' (H.set i (plRow e nf enc v' l')) :=
  S.put i h (Chg.of_grown hg) (ownsRow_base ho (Nat.zero_le _)) hblk
/-- One field of one element of a row is written. -/
theorem SepM.rowSet {α : Type} {M : Nat → Prop} {w0 w : World} {H : List Pl} (S : SepM M w0 w H) (i : Nat) {e nf : Nat} {enc : α → List Value} (hn : ∀ x, (enc x).length = nf) {g n cap : Nat} {L : List α} (h : H[i]? = some (plRow e nf enc (.slice (some ⟨g, 0, none⟩) n cap) L)) (hnL : n = L.length) (k j : Nat) (u : Value) (x' : α) (hk : k < L.length) (hj : j < nf) (hx : enc x' = (enc L[k]).set j u) :
    SepM M w0 (w.setCell ⟨g, k * nf + j, none⟩ u) (H.set i (plRow e nf enc (.slice (some ⟨g, 0, none⟩) n cap) (L.set k x'))) := by
  subst hnL
  have h0 := S.row i h
  refine S.put i h ((Chg.setCell w g (k * nf + j) u).mono (fun b hb _ => by show some g = some b; rw [hb])) ?_ (fun b hb => .inl hb)
  have := owns_set hn (ownsRow_base h0 (Nat.zero_le _)) k j u x' hk hj hx
  show World.ownsRow _ 0 e nf _ (L.set k x').length _
  rw [List.length_set]
  exact this
/-- Pieces are forgotten. -/
theorem SepM.keep {M : Nat → Prop} {w0 w : World} {H : List Pl} (S : SepM M w0 w H) (H' : List Pl) (h : H'.Sublist H) : SepM M w0 w H' :=
  ⟨S.chg, S.small, fun p hp => S.ok p (h.subset hp), fun p hp => S.base p (h.subset hp), S.apart.sublist h⟩
theorem SepM.drop {M : Nat → Prop} {w0 w : World} {H : List Pl} (S : SepM M w0 w H) (i : Nat) : SepM M w0 w (H.eraseIdx i) := S.keep _ (List.eraseIdx_sublist ..)
/-- Two of them change places, or come in another order. -/
theorem SepM.perm {M : Nat → Prop} {w0 w : World} {H H' : List Pl} (S : SepM M w0 w H) (h : H.Perm H') : SepM M w0 w H' :=
  ⟨S.chg, S.small, fun p hp => S.ok p (h.mem_iff.2 hp), fun p hp => S.base p (h.mem_iff.2 hp), S.apart.perm h (fun hab b hb ha => hab b ha hb)⟩
/-- What began earlier began no later. -/
theorem Sep.since {w0 w1 w : World} {H : List Pl} (S : Sep w1 w H) (hE : Ext w0 w1) : Sep w0 w H := by
  have := (Sep.of_ext hE).call S
  rwa [List.append_nil] at this

/-- The cells of a box. -/
theorem bx {w : World} {b : Nat} {C : Array Value} {t : TypeId} (h : w.heap[b]? = some (.cells C t)) (o : Nat) {v : Value} (hv : C[o]? = some v) : w.cell? ⟨b, o, none⟩ = some v ∧ w.frozen? ⟨b, o, none⟩ = false := by
  refine ⟨?_, ?_⟩
  · simp [World.cell?, h, hv]
  · simp [World.frozen?, h]
/-- What is not there twice under another type. -/
theorem blk_type {w : World} {base e e' nf : Nat} {v : Value} {n B : Nat} {xs : List Value} {C : Array Value} {fz : Nat × Nat} (h : w.ownsRow base e nf v n xs) (hB : w.heap[B]? = some (.cells C e' fz)) (he : e ≠ e') : v.ownBlock ≠ some B := by
  intro hv
  rcases h.2 with ⟨rfl, _⟩ | ⟨g, cap, cur, rfl, _, hg, _⟩
  · cases hv
  · obtain rfl : g = B := by simpa [Value.ownBlock] using hv
    rw [hg] at hB
    simp only [Option.some.injEq, Obj.cells.injEq] at hB
    exact he hB.2.1

/-- One row, one view, as what a call leaves. -/
theorem Sep.of_owns {α : Type} {w w' : World} {e nf : Nat} {enc : α → List Value} {v : Value} {l : List α} (hE : Ext w w') (h : w'.ownsRow w.heap.size e nf v l.length (l.flatMap enc)) : Sep w w' [plRow e nf enc v l] :=
  (Sep.start w).owned hE (Nat.le_refl _) h
theorem Sep.of_view {α : Type} {w w' : World} {nf : Nat} {enc : α → List Value} {a : Option Addr} {l : List α} (hE : Ext w w') (h : Rd nf enc w' a l) (hb : ∀ p, a = some p → w.heap.size ≤ p.block ∧ p.block < w'.heap.size) : Sep w w' [plView nf enc a l] :=
  Sep.one (p := plView nf enc a l) hE ⟨h, fun b off e => (hb _ e).2⟩ (fun b ⟨off, e⟩ => (hb _ e).1)
theorem SepM.rd {α : Type} {M : Nat → Prop} {w0 w : World} {H : List Pl} (S : SepM M w0 w H) (i : Nat) {e nf : Nat} {enc : α → List Value} (hn : ∀ x, (enc x).length = nf) {a : Option Addr} {cap n : Nat} {l : List α} (h : H[i]? = some (plRow e nf enc (.slice a n cap) l)) (hl : n = l.length) : Rd nf enc w a l := by
  subst hl
  exact rd_owns hn (S.row i h) rfl
theorem SepM.see {α : Type} {M : Nat → Prop} {w0 w : World} {H : List Pl} (S : SepM M w0 w H) (i : Nat) {nf : Nat} {enc : α → List Value} {a : Option Addr} {l : List α} (h : H[i]? = some (plView nf enc a l)) : Rd nf enc w a l := (S.at_ i h).1

/-- Blocks of M were written, nothing of ours. -/
theorem SepM.other {M : Nat → Prop} {w0 w w' : World} {H : List Pl} (S : SepM M w0 w H) (hc : Chg M w w') : SepM M w0 w' H :=
  ⟨S.chg.trans hc, S.small, fun p hp => p.frame w w' (S.ok p hp) (fun b hb => hc.block b (S.lt hp hb).2 (fun hm => by
    have h1 := S.small b hm
    have h2 := (S.lt hp hb).1
    omega)), S.base, S.apart⟩
/-- .. and a piece came that is new. -/
theorem SepM.otherOwn {M : Nat → Prop} {w0 w w' : World} {H : List Pl} {p : Pl} (S : SepM M w0 w H) (hc : Chg M w w') (hp : p.ok w') (hn : ∀ b, p.own b → w.heap.size ≤ b) : SepM M w0 w' (p :: H) := by
  have S' := S.other hc
  refine ⟨S'.chg, S.small, fun q hq => ?_, fun q hq b h => ?_, List.pairwise_cons.2 ⟨fun q hq b h h2 => ?_, S.apart⟩⟩
  · rcases List.mem_cons.1 hq with rfl | hq
    · exact hp
    · exact S'.ok q hq
  · rcases List.mem_cons.1 hq with rfl | hq
    · exact Nat.le_trans S.chg.size (hn b h)
    · exact S.base q hq b h
  · have h3 := (S.lt hq h2).2
    have h4 := hn b h
    omega

theorem SepM.otherCall {M : Nat → Prop} {w0 w w' : World} {H : List Pl} (H' : List Pl) (S : SepM M w0 w H) (hc : Chg M w w') (hp : ∀ p ∈ H', p.ok w') (hn : ∀ p ∈ H', ∀ b, p.own b → w.heap.size ≤ b) (hap : H'.Pairwise (fun p q => ∀ b, p.own b → ¬ q.own b)) : SepM M w0 w' (H' ++ H) := by
  have S' := S.other hc
  refine ⟨S'.chg, S.small, fun q hq => ?_, fun q hq b h => ?_, List.pairwise_append.2 ⟨hap, S.apart, fun q hq r hr b h h2 => ?_⟩⟩
  · rcases List.mem_append.1 hq with hq | hq
    · exact hp q hq
    · exact S'.ok q hq
  · rcases List.mem_append.1 hq with hq | hq
    · exact Nat.le_trans S.chg.size (hn q hq b h)
    · exact S.base q hq b h
  · have h3 := (S.lt hr h2).2
    have h4 := hn q hq b h
    omega

/-- It returns a value that fits Q, and leaves pieces of its own. -/
def RetSep (Q : Value → List Pl → Prop) (w : World) (e : Ending) (w' : World) : Prop := ∃ v H, e = .returned v ∧ Q v H ∧ Sep w w' H
theorem RetSep.mk {Q : Value → List Pl → Prop} {w w' : World} {v : Value} {H : List Pl} (h : Q v H) (S : Sep w w' H) : RetSep Q w (.returned v) w' := ⟨v, H, rfl, h, S⟩

end Go.Proofs.Ytnibbldfohbfkaa
