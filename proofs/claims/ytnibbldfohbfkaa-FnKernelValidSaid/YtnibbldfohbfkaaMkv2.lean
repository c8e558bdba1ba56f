/- Texts merged: Tab; TabG; Nod; NodL; NodQ; Ker; May; May2. Each says below what it proves and on what conditions. -/
import Derived.Deep.Cut
import Derived.Test.YtnibbldfohbfkaaMkv1
/- Rows of rows of numbers: as a view, and as one piece of memory of one's own. No condition. -/
namespace Go.Proofs.Ytnibbldfohbfkaa
open Go.RowKit

structure Sl where
  a : Option Addr
  n : Nat
  c : Nat
def Sl.v (s : Sl) : Value := .slice s.a s.n s.c
def encSl (s : Sl) : List Value := [.slice s.a s.n s.c]
theorem encSl_len (x : Sl) : (encSl x).length = 1 := rfl
theorem encSl_one (x : Sl) : ∀ u ∈ encSl x, u.oneCell' = true := by simp [encSl, Value.oneCell']
theorem infoSl : (Try.prog.info? 53).map (fun i => (i.zero, i.size, i.bytes)) = some (some (.slice none 0 0), 1, 24) := by kernel_rfl

/-- A read-only view. -/
def RdT (w : World) (a : Option Addr) (T : List (List Int)) : Prop :=
  ∀ i t, T[i]? = some t → ∃ b off ai ci, a = some ⟨b, off, none⟩ ∧ w.cell? ⟨b, off + i, none⟩ = some (.slice ai t.length ci) ∧ t.length ≤ ci ∧ Rd 1 encInt1 w ai t
theorem RdT.ext {w w' : World} {a : Option Addr} {T : List (List Int)} (h : RdT w a T) (hb : Ext w w') : RdT w' a T := by
  intro i t hi
  obtain ⟨b, off, ai, ci, ha, hc, hl, hr⟩ := h i t hi
  exact ⟨b, off, ai, ci, ha, cell_ext hb hc, hl, hr.ext hb⟩
theorem RdT.nil {w : World} {a : Option Addr} : RdT w a [] := fun i t h => by simp at h
theorem atTab {w : World} {a : Option Addr} {T : List (List Int)} (h : RdT w a T) {k : Nat} (hk : k < T.length) :
    ∃ t b off ai ci, T[k]? = some t ∧ a = some ⟨b, off, none⟩ ∧ w.cell? ⟨b, off + k, none⟩ = some (.slice ai t.length ci) ∧ t.length ≤ ci ∧ Rd 1 encInt1 w ai t := by
  obtain ⟨b, off, ai, ci, h1, h2, h3, h4⟩ := h k T[k] (List.getElem?_eq_getElem hk)
  exact ⟨T[k], b, off, ai, ci, List.getElem?_eq_getElem hk, h1, h2, h3, h4⟩

/-- A row of rows, each in memory of its own. -/
def plTab (u : Value) (vs : List Sl) (T : List (List Int)) : Pl where
  own b := u.ownBlock = some b ∨ ∃ s ∈ vs, s.v.ownBlock = some b
  ok w := w.ownsRow 0 53 1 u vs.length (vs.flatMap encSl) ∧ vs.length = T.length ∧ (∀ (i : Nat) (s : Sl) (t : List Int), vs[i]? = some s → T[i]? = some t → w.ownsRow 0 3 1 s.v t.length (t.flatMap encInt1)) ∧
    (∀ s ∈ vs, ∀ b : Nat, s.v.ownBlock = some b → u.ownBlock ≠ some b) ∧ (∀ (i j : Nat) (s s' : Sl), i ≠ j → vs[i]? = some s → vs[j]? = some s' → ∀ b : Nat, s.v.ownBlock = some b → s'.v.ownBlock ≠ some b)
  frame := fun w w' h hf => by
    obtain ⟨h1, h2, h3, h4, h5⟩ := h
    refine ⟨(plRow 53 1 encSl u vs).frame w w' h1 (fun b hb => hf b (.inl hb)), h2, fun i s t hs ht => ?_, h4, h5⟩
    exact (plRow 3 1 encInt1 s.v t).frame w w' (h3 i s t hs ht) (fun b hb => hf b (.inr ⟨s, List.mem_of_getElem? hs, hb⟩))
  lt := fun w k h hk => by
    obtain ⟨h1, h2, h3, h4, h5⟩ := h
    rcases hk with hk | ⟨s, hs, hk⟩
    · exact (plRow 53 1 encSl u vs).lt w k h1 hk
    · obtain ⟨i, hi⟩ := List.getElem?_of_mem hs
      have hil := (List.getElem?_eq_some_iff.1 hi).1
      exact (plRow 3 1 encInt1 s.v T[i]).lt w k (h3 i s T[i] hi (List.getElem?_eq_getElem (by omega))) hk

theorem tab_view {w : World} {u : Value} {vs : List Sl} {T : List (List Int)} (h : (plTab u vs T).ok w) :
    ∃ a cap, u = .slice a T.length cap ∧ T.length ≤ cap ∧ RdT w a T ∧ ((a = none ∧ T = [] ∧ cap = 0) ∨ ∃ g, a = some ⟨g, 0, none⟩) := by
  obtain ⟨h1, h2, h3, h4, h5⟩ := h
  obtain ⟨a, cap, hu, hc, hr, hs⟩ := view_owns encSl_len h1
  refine ⟨a, cap, by rw [hu, h2], by omega, fun i t ht => ?_, ?_⟩
  · have hil := (List.getElem?_eq_some_iff.1 ht).1
    have hi : i < vs.length := by omega
    obtain ⟨b, off, ha, hcell⟩ := hr i hi
    have h6 := h3 i vs[i] t (List.getElem?_eq_getElem hi) ht
    obtain ⟨ai, ci, hv, hl, hri, _⟩ := view_owns encInt1_len h6
    have hc0 := hcell 0 _ rfl
    refine ⟨b, off, ai, ci, ha, ?_, hl, hri⟩
    have e : off + i * 1 + 0 = off + i := by omega
    rw [e] at hc0
    rw [hc0]
    exact congrArg some hv
  · rcases hs with ⟨e1, e2, e3⟩ | ⟨g, e1, _⟩
    · exact .inl ⟨e1, List.eq_nil_of_length_eq_zero (by rw [← h2, e2]; rfl), e3⟩
    · exact .inr ⟨g, e1⟩
theorem tab_len {w : World} {u : Value} {vs : List Sl} {T : List (List Int)} (h : (plTab u vs T).ok w) : vs.length = T.length := h.2.1
theorem tab_nil (w : World) : (plTab (.slice none 0 0) [] []).ok w := ⟨World.ownsRow_nil _ _ _ _, rfl, fun i s t h => by simp at h, fun s h => by simp at h, fun i j s s' _ h => by simp at h⟩
theorem tab_make {w : World} {u : Value} {n : Nat} (h : w.ownsRow 0 53 1 u n ((List.replicate n (⟨none, 0, 0⟩ : Sl)).flatMap encSl)) : (plTab u (List.replicate n ⟨none, 0, 0⟩) (List.replicate n [])).ok w := by
  have key : ∀ (i : Nat) (s : Sl), (List.replicate n (⟨none, 0, 0⟩ : Sl))[i]? = some s → s = ⟨none, 0, 0⟩ := fun i s hs => by
    have := List.mem_of_getElem? hs
    exact (List.mem_replicate.1 this).2
  refine ⟨by rw [List.length_replicate]; exact h, by simp, fun i s t hs ht => ?_, fun s hs b hb => ?_, fun i j s s' _ hs hs' b hb => ?_⟩
  · rw [key i s hs]
    have ht2 : t = [] := by
      have := List.mem_of_getElem? ht
      exact (List.mem_replicate.1 this).2
    subst ht2
    exact World.ownsRow_nil _ _ _ _
  · rw [(List.mem_replicate.1 hs).2] at hb; cases hb
  · rw [key i s hs] at hb; cases hb

/-- One piece is written anew; what is new in it is nobody else's. -/
theorem SepM.put' {M : Nat → Prop} {w0 w w' : World} {H : List Pl} (S : SepM M w0 w H) (i : Nat) {p q : Pl} (h : H[i]? = some p) (hg : Chg p.own w w') (hq : q.ok w') (hblk : ∀ b, q.own b → p.own b ∨ w.heap.size ≤ b ∨ (w0.heap.size ≤ b ∧ ∀ r ∈ H, ¬ r.own b)) : SepM M w0 w' (H.set i q) := by
  have hm := List.mem_of_getElem? h
  have hi := (List.getElem?_eq_some_iff.1 h).1
  have hok : ∀ j r, H[j]? = some r → j ≠ i → r.ok w' := fun j r hj hne =>
    r.frame w w' (S.at_ j hj) (fun b hb => hg.block b (S.lt (List.mem_of_getElem? hj) hb).2 (fun e => S.ne h hj (fun e => hne e.symm) e hb))
  refine ⟨⟨hg.os.trans S.chg.os, hg.tape.trans S.chg.tape, hg.output.trans S.chg.output, Nat.le_trans S.chg.size hg.size, fun k hk hn => (hg.block k (Nat.lt_of_lt_of_le hk S.chg.size) (fun hs => by have := (S.lt hm hs).1; omega)).trans (S.chg.block k hk hn)⟩, S.small, fun r hr => ?_, fun r hr b hb => ?_, ?_⟩
  · obtain ⟨j, hj⟩ := List.getElem?_of_mem hr
    by_cases hji : i = j
    · subst hji
      rw [List.getElem?_set_self hi] at hj
      cases hj; exact hq
    · rw [List.getElem?_set_ne hji] at hj
      exact hok j r hj (fun e => hji e.symm)
  · obtain ⟨j, hj⟩ := List.getElem?_of_mem hr
    by_cases hji : i = j
    · subst hji
      rw [List.getElem?_set_self hi] at hj
      cases hj
      rcases hblk b hb with h2 | h2 | h2
      · exact (S.lt hm h2).1
      · exact Nat.le_trans S.chg.size h2
      · exact h2.1
    · rw [List.getElem?_set_ne hji] at hj
      exact S.base r (List.mem_of_getElem? hj) b hb
  · rw [List.pairwise_iff_getElem]
    intro j k hj hk hjk b hb
    simp only [List.length_set] at hj hk
    rw [List.getElem_set] at hb ⊢
    have h1 := List.pairwise_iff_getElem.1 S.apart j k hj hk hjk
    by_cases e1 : i = j
    · subst e1
      rw [if_pos rfl] at hb
      rw [if_neg (by omega)]
      rcases hblk b hb with h2 | h2 | h2
      · exact S.ne h (List.getElem?_eq_getElem hk) (by omega) h2
      · intro e
        have := (S.lt (List.getElem_mem hk) e).2
        omega
      · exact h2.2 _ (List.getElem_mem hk)
    · rw [if_neg e1] at hb
      by_cases e2 : i = k
      · subst e2
        rw [if_pos rfl]
        intro e
        rcases hblk b e with h2 | h2 | h2
        · exact S.ne (List.getElem?_eq_getElem hj) h (by omega) hb h2
        · have := (S.lt (List.getElem_mem hj) hb).2
          omega
        · exact h2.2 _ (List.getElem_mem hj) hb
      · rw [if_neg e2]
        exact h1 b hb
def plNone : Pl where
  own _ := False
  ok _ := True
  frame := fun _ _ h _ => h
  lt := fun _ _ _ h => h.elim
/-- Two pieces become one. -/
theorem SepM.fuse {M : Nat → Prop} {w0 w w' : World} {H : List Pl} (S : SepM M w0 w H) (i j : Nat) {p q r : Pl} (hi : H[i]? = some p) (hj : H[j]? = some r) (hij : i ≠ j) (hg : Chg p.own w w') (hq : r.ok w' → q.ok w') (hblk : ∀ b, q.own b → p.own b ∨ r.own b ∨ w.heap.size ≤ b) : SepM M w0 w' ((H.set i q).eraseIdx j) := by
  have hrm := List.mem_of_getElem? hj
  have hr' : r.ok w' := r.frame w w' (S.at_ j hj) (fun b hb => hg.block b (S.lt hrm hb).2 (fun e => S.ne hi hj hij e hb))
  have S1 : SepM M w0 w (H.set j plNone) := S.put j hj ((Chg.refl _ w)) trivial (fun b hb => hb.elim)
  have hi1 : (H.set j plNone)[i]? = some p := by rw [List.getElem?_set_ne (fun e => hij e.symm)]; exact hi
  have S2 : SepM M w0 w' ((H.set j plNone).set i q) := S1.put' i hi1 hg (hq hr') (fun b hb => by
    rcases hblk b hb with h | h | h
    · exact .inl h
    · refine .inr (.inr ⟨(S.lt hrm h).1, fun m hm hmb => ?_⟩)
      obtain ⟨k, hk⟩ := List.getElem?_of_mem hm
      by_cases hkj : j = k
      · subst hkj
        rw [List.getElem?_set_self (List.getElem?_eq_some_iff.1 hj).1] at hk
        cases hk; exact hmb
      · rw [List.getElem?_set_ne hkj] at hk
        exact S.ne hj hk hkj h hmb
    · exact .inr (.inl h))
  have S3 := S2.drop j
  have e : ((H.set j plNone).set i q).eraseIdx j = (H.set i q).eraseIdx j := by
    rw [List.set_comm _ _ (fun e => hij e.symm)]
    apply List.ext_getElem?
    intro k
    simp only [List.getElem?_eraseIdx]
    split
    · rw [List.getElem?_set_ne (by omega)]
    · rw [List.getElem?_set_ne (by omega)]
  rw [e] at S3
  exact S3

section
variable {M : Nat → Prop} {w0 w w' : World} {H : List Pl}
theorem SepM.tab (S : SepM M w0 w H) (i : Nat) {u : Value} {vs : List Sl} {T : List (List Int)} (h : H[i]? = some (plTab u vs T)) :
    ∃ a cap, u = .slice a T.length cap ∧ T.length ≤ cap ∧ RdT w a T ∧ ((a = none ∧ T = [] ∧ cap = 0) ∨ ∃ g, a = some ⟨g, 0, none⟩) := tab_view (S.at_ i h)
theorem SepM.rdt (S : SepM M w0 w H) (i : Nat) {a : Option Addr} {n cap : Nat} {vs : List Sl} {T : List (List Int)} (h : H[i]? = some (plTab (.slice a n cap) vs T)) : RdT w a T := by
  obtain ⟨a', cap', hu, _, hr, _⟩ := S.tab i h
  simp only [Value.slice.injEq] at hu
  rw [hu.1]; exact hr
theorem SepM.tabRow (S : SepM M w0 w H) (i : Nat) {u : Value} {vs : List Sl} {T : List (List Int)} (h : H[i]? = some (plTab u vs T)) : w.ownsRow w0.heap.size 53 1 u vs.length (vs.flatMap encSl) := by
  have h0 := (S.at_ i h).1
  refine ⟨h0.1, ?_⟩
  rcases h0.2 with h2 | ⟨g, cap, cur, hv, hb, r⟩
  · exact .inl h2
  · exact .inr ⟨g, cap, cur, hv, (S.lt (List.mem_of_getElem? h) (show u.ownBlock = some g ∨ _ from .inl (by rw [hv]; rfl))).1, r⟩
theorem SepM.tabInner (S : SepM M w0 w H) (i : Nat) {u : Value} {vs : List Sl} {T : List (List Int)} (h : H[i]? = some (plTab u vs T)) {k : Nat} {t : List Int} (hk : T[k]? = some t) :
    ∃ s, vs[k]? = some s ∧ w.ownsRow w0.heap.size 3 1 s.v t.length (t.flatMap encInt1) := by
  obtain ⟨h1, h2, h3, h4, h5⟩ := S.at_ i h
  have hkl := (List.getElem?_eq_some_iff.1 hk).1
  have hkv : k < vs.length := by omega
  refine ⟨vs[k], List.getElem?_eq_getElem hkv, ?_⟩
  have h0 := h3 k vs[k] t (List.getElem?_eq_getElem hkv) hk
  refine ⟨h0.1, ?_⟩
  rcases h0.2 with h2 | ⟨g, cap, cur, hv, hb, r⟩
  · exact .inl h2
  · exact .inr ⟨g, cap, cur, hv, (S.lt (List.mem_of_getElem? h) (show _ ∨ _ from .inr ⟨vs[k], List.getElem_mem hkv, by rw [hv]; rfl⟩)).1, r⟩
/-- One of the rows is written. -/
theorem SepM.tabAt (S : SepM M w0 w H) (i : Nat) {u : Value} {vs : List Sl} {T : List (List Int)} (h : H[i]? = some (plTab u vs T)) {k base : Nat} {s : Sl} {t' : List Int} (hs : vs[k]? = some s)
    (hg : Chg (fun b => s.v.ownBlock = some b) w w') (ho : w'.ownsRow base 3 1 s.v t'.length (t'.flatMap encInt1)) : SepM M w0 w' (H.set i (plTab u vs (T.set k t'))) := by
  have hok := S.at_ i h
  obtain ⟨h1, h2, h3, h4, h5⟩ := hok
  have hkv := (List.getElem?_eq_some_iff.1 hs).1
  have hsm := List.mem_of_getElem? hs
  refine S.put i h (hg.mono (fun b hb _ => .inr ⟨s, hsm, hb⟩)) ⟨?_, by rw [List.length_set]; exact h2, fun j s2 t2 hs2 ht2 => ?_, h4, h5⟩ (fun b hb => .inl hb)
  · exact (plRow 53 1 encSl u vs).frame w w' h1 (fun b hb => hg.block b ((plRow 53 1 encSl u vs).lt w b h1 hb) (fun e => h4 s hsm b e hb))
  · by_cases hjk : k = j
    · subst hjk
      rw [hs] at hs2; cases hs2
      rw [List.getElem?_set_self (by omega)] at ht2
      cases ht2
      exact ownsRow_base ho (Nat.zero_le _)
    · rw [List.getElem?_set_ne hjk] at ht2
      have h6 := h3 j s2 t2 hs2 ht2
      exact (plRow 3 1 encInt1 s2.v t2).frame w w' h6 (fun b hb => hg.block b ((plRow 3 1 encInt1 s2.v t2).lt w b h6 hb) (fun e => h5 k j s s2 hjk hs hs2 b e hb))
/-- A row of its own becomes the last of the rows. -/
theorem SepM.tabPush (S : SepM M w0 w H) (i j : Nat) {u u' : Value} {vs : List Sl} {T : List (List Int)} {s : Sl} {t : List Int} {base : Nat} (hi : H[i]? = some (plTab u vs T)) (hj : H[j]? = some (plRow 3 1 encInt1 s.v t)) (hij : i ≠ j)
    (hg : w.grownBy w' u.ownBlock) (ho : w'.ownsRow base 53 1 u' (vs ++ [s]).length ((vs ++ [s]).flatMap encSl)) (hblk : ∀ b, u'.ownBlock = some b → u.ownBlock = some b ∨ w.heap.size ≤ b) :
    SepM M w0 w' ((H.set i (plTab u' (vs ++ [s]) (T ++ [t]))).eraseIdx j) := by
  obtain ⟨h1, h2, h3, h4, h5⟩ := S.at_ i hi
  have hjm := List.mem_of_getElem? hj
  have hnew : ∀ b, s.v.ownBlock = some b → ¬ (plTab u vs T).own b := fun b hb => S.ne hj hi (fun e => hij e.symm) hb
  have hlt : ∀ b, s.v.ownBlock = some b → b < w.heap.size := fun b hb => (S.lt hjm hb).2
  have hltv : ∀ s' ∈ vs, ∀ b, s'.v.ownBlock = some b → b < w.heap.size := fun s' hs' b hb => (S.lt (List.mem_of_getElem? hi) (show (plTab u vs T).own b from .inr ⟨s', hs', hb⟩)).2
  refine S.fuse i j hi hj hij ((Chg.of_grown hg).mono (fun b hb _ => .inl hb)) (fun hr => ⟨ownsRow_base ho (Nat.zero_le _), by simp [h2], fun k s2 t2 hs2 ht2 => ?_, fun s2 hs2 b hb hb2 => ?_, fun k l s2 s3 hkl hs2 hs3 b hb hb3 => ?_⟩) (fun b hb => ?_)
  · by_cases hk : k < vs.length
    · rw [List.getElem?_append_left hk] at hs2
      rw [List.getElem?_append_left (by omega)] at ht2
      have h6 := h3 k s2 t2 hs2 ht2
      exact (plRow 3 1 encInt1 s2.v t2).frame w w' h6 (fun b hb => (Chg.of_grown hg).block b (hltv s2 (List.mem_of_getElem? hs2) b hb) (fun e => h4 s2 (List.mem_of_getElem? hs2) b hb e))
    · have hkl := (List.getElem?_eq_some_iff.1 hs2).1
      simp only [List.length_append, List.length_singleton] at hkl
      have e : k = vs.length := by omega
      subst e
      rw [List.getElem?_append_right (Nat.le_refl _), Nat.sub_self] at hs2
      rw [h2, List.getElem?_append_right (Nat.le_refl _), Nat.sub_self] at ht2
      simp only [List.getElem?_cons_zero, Option.some.injEq] at hs2 ht2
      subst hs2 ht2
      exact hr
  · rcases List.mem_append.1 hs2 with hs2 | hs2
    · rcases hblk b hb2 with h | h
      · exact h4 s2 hs2 b hb h
      · have := hltv s2 hs2 b hb; omega
    · rw [List.mem_singleton.1 hs2] at hb
      rcases hblk b hb2 with h | h
      · exact hnew b hb (.inl h)
      · have := hlt b hb; omega
  · have hk2 := (List.getElem?_eq_some_iff.1 hs2).1
    have hl2 := (List.getElem?_eq_some_iff.1 hs3).1
    simp only [List.length_append, List.length_singleton] at hk2 hl2
    by_cases hk : k < vs.length
    · rw [List.getElem?_append_left hk] at hs2
      by_cases hl : l < vs.length
      · rw [List.getElem?_append_left hl] at hs3
        exact h5 k l s2 s3 hkl hs2 hs3 b hb hb3
      · rw [List.getElem?_append_right (by omega), show l - vs.length = 0 by omega] at hs3
        simp only [List.getElem?_cons_zero, Option.some.injEq] at hs3
        subst hs3
        exact hnew b hb3 (.inr ⟨s2, List.mem_of_getElem? hs2, hb⟩)
    · rw [List.getElem?_append_right (by omega), show k - vs.length = 0 by omega] at hs2
      simp only [List.getElem?_cons_zero, Option.some.injEq] at hs2
      subst hs2
      rw [List.getElem?_append_left (by omega)] at hs3
      exact hnew b hb (.inr ⟨s3, List.mem_of_getElem? hs3, hb3⟩)
  · rcases hb with hb | ⟨s2, hs2, hb⟩
    · rcases hblk b hb with h | h
      · exact .inl (.inl h)
      · exact .inr (.inr h)
    · rcases List.mem_append.1 hs2 with hs2 | hs2
      · exact .inl (.inr ⟨s2, hs2, hb⟩)
      · rw [List.mem_singleton.1 hs2] at hb
        exact .inr (.inl hb)
/-- A row of its own comes to the place of one. -/
theorem SepM.tabPut (S : SepM M w0 w H) (i j : Nat) {g n cap : Nat} {vs : List Sl} {T : List (List Int)} {s : Sl} {t : List Int} {k : Nat} (hi : H[i]? = some (plTab (.slice (some ⟨g, 0, none⟩) n cap) vs T)) (hj : H[j]? = some (plRow 3 1 encInt1 s.v t)) (hij : i ≠ j) (hk : k < vs.length) :
    SepM M w0 (w.setCell ⟨g, k, none⟩ s.v) ((H.set i (plTab (.slice (some ⟨g, 0, none⟩) n cap) (vs.set k s) (T.set k t))).eraseIdx j) := by
  obtain ⟨h1, h2, h3, h4, h5⟩ := S.at_ i hi
  have hjm := List.mem_of_getElem? hj
  have hnew : ∀ b, s.v.ownBlock = some b → ¬ (plTab (.slice (some ⟨g, 0, none⟩) n cap) vs T).own b := fun b hb => S.ne hj hi (fun e => hij e.symm) hb
  have hlen : n = vs.length := by
    have := h1.1
    rcases h1.2 with ⟨e, _⟩ | ⟨g', cap', cur, e, _⟩
    · simp at e
    · simp only [Value.slice.injEq] at e; exact e.2.1
  have hset := owns_set encSl_len (show w.ownsRow 0 53 1 (.slice (some ⟨g, 0, none⟩) n cap) n (vs.flatMap encSl) by rw [hlen]; rw [hlen] at h1; exact h1) k 0 s.v s hk (by omega) rfl
  rw [Nat.mul_one, Nat.add_zero] at hset
  have hchg := Chg.setCell w g k s.v
  refine S.fuse i j hi hj hij (hchg.mono (fun b hb _ => .inl (by rw [hb]; rfl))) (fun hr => ⟨by rw [List.length_set, ← hlen]; exact hset, by simp [h2], fun l s2 t2 hs2 ht2 => ?_, fun s2 hs2 b hb hb2 => ?_, fun l m s2 s3 hlm hs2 hs3 b hb hb3 => ?_⟩) (fun b hb => ?_)
  · by_cases hlk : k = l
    · subst hlk
      rw [List.getElem?_set_self hk] at hs2
      rw [List.getElem?_set_self (by omega)] at ht2
      cases hs2; cases ht2
      exact hr
    · rw [List.getElem?_set_ne hlk] at hs2 ht2
      have h6 := h3 l s2 t2 hs2 ht2
      exact (plRow 3 1 encInt1 s2.v t2).frame w _ h6 (fun b hb => hchg.block b ((plRow 3 1 encInt1 s2.v t2).lt w b h6 hb) (fun e => h4 s2 (List.mem_of_getElem? hs2) b hb (by rw [e]; rfl)))
  · rcases List.mem_or_eq_of_mem_set hs2 with hs2 | rfl
    · exact h4 s2 hs2 b hb hb2
    · exact hnew b hb (.inl hb2)
  · by_cases hlk : k = l
    · subst hlk
      rw [List.getElem?_set_self hk] at hs2
      cases hs2
      rw [List.getElem?_set_ne hlm] at hs3
      exact hnew b hb (.inr ⟨s3, List.mem_of_getElem? hs3, hb3⟩)
    · rw [List.getElem?_set_ne hlk] at hs2
      by_cases hmk : k = m
      · subst hmk
        rw [List.getElem?_set_self hk] at hs3
        cases hs3
        exact hnew b hb3 (.inr ⟨s2, List.mem_of_getElem? hs2, hb⟩)
      · rw [List.getElem?_set_ne hmk] at hs3
        exact h5 l m s2 s3 hlm hs2 hs3 b hb hb3
  · rcases hb with hb | ⟨s2, hs2, hb⟩
    · exact .inl (.inl hb)
    · rcases List.mem_or_eq_of_mem_set hs2 with hs2 | rfl
      · exact .inl (.inr ⟨s2, hs2, hb⟩)
      · exact .inr (.inl hb)
/-- A row without rows in it. -/
theorem SepM.tabNil (S : SepM M w0 w H) : SepM M w0 w (plTab (.slice none 0 0) [] [] :: H) :=
  S.cons (Ext.refl w) (tab_nil w) (fun b hb => by rcases hb with hb | ⟨s, hs, _⟩; cases hb; simp at hs)
theorem SepM.tabOf0 (S : SepM M w0 w H) (i : Nat) {u : Value} (h : H[i]? = some (plRow 53 1 encSl u [])) : SepM M w0 w (H.set i (plTab u [] [])) :=
  S.put i h (Chg.refl _ w) ⟨S.at_ i h, rfl, fun i s t h => by simp at h, fun s h => by simp at h, fun i j s s' _ h => by simp at h⟩ (fun b hb => by rcases hb with hb | ⟨s, hs, _⟩; exact .inl hb; simp at hs)
/-- A literal of one row. -/
theorem SepM.tabOf1 (S : SepM M w0 w H) (i j : Nat) {u : Value} {s : Sl} {t : List Int} (hi : H[i]? = some (plRow 53 1 encSl u [s])) (hj : H[j]? = some (plRow 3 1 encInt1 s.v t)) (hij : i ≠ j) : SepM M w0 w ((H.set i (plTab u [s] [t])).eraseIdx j) := by
  refine S.fuse i j hi hj hij (Chg.refl _ w) (fun hr => ⟨S.at_ i hi, rfl, fun k s2 t2 hs2 ht2 => ?_, fun s2 hs2 b hb hb2 => ?_, fun k l s2 s3 hkl hs2 hs3 => ?_⟩) (fun b hb => ?_)
  · have hk := (List.getElem?_eq_some_iff.1 hs2).1
    obtain rfl : k = 0 := by simpa using hk
    simp only [List.getElem?_cons_zero, Option.some.injEq] at hs2 ht2
    subst hs2 ht2
    exact hr
  · rw [List.mem_singleton.1 hs2] at hb
    exact S.ne hj hi (fun e => hij e.symm) hb hb2
  · have hk := (List.getElem?_eq_some_iff.1 hs2).1
    have hl := (List.getElem?_eq_some_iff.1 hs3).1
    simp only [List.length_singleton] at hk hl
    omega
  · rcases hb with hb | ⟨s2, hs2, hb⟩
    · exact .inl hb
    · rw [List.mem_singleton.1 hs2] at hb
      exact .inr (.inl hb)
end
end Go.Proofs.Ytnibbldfohbfkaa

/- Rows of elements that have memory of their own in them, as one piece of memory. No condition. -/
namespace Go.Proofs.Ytnibbldfohbfkaa
open Go.RowKit

/-- What an element has besides its cells. -/
structure Pin (β α : Type) where
  own : β → Nat → Prop
  ok : β → α → World → Prop
  frame : ∀ s t w w', ok s t w → (∀ b, own s b → w'.heap[b]? = w.heap[b]?) → ok s t w'
  lt : ∀ s t w b, ok s t w → own s b → b < w.heap.size
def Pin.one {β α : Type} (P : Pin β α) (s : β) (t : α) : Pl := ⟨P.own s, P.ok s t, P.frame s t, P.lt s t⟩

section
variable {β α : Type}
def plG (e nf : Nat) (enc : β → List Value) (P : Pin β α) (u : Value) (vs : List β) (T : List α) : Pl where
  own b := u.ownBlock = some b ∨ ∃ s ∈ vs, P.own s b
  ok w := w.ownsRow 0 e nf u vs.length (vs.flatMap enc) ∧ vs.length = T.length ∧ (∀ (i : Nat) (s : β) (t : α), vs[i]? = some s → T[i]? = some t → P.ok s t w) ∧
    (∀ s ∈ vs, ∀ b : Nat, P.own s b → u.ownBlock ≠ some b) ∧ (∀ (i j : Nat) (s s' : β), i ≠ j → vs[i]? = some s → vs[j]? = some s' → ∀ b : Nat, P.own s b → ¬ P.own s' b)
  frame := fun w w' h hf => by
    obtain ⟨h1, h2, h3, h4, h5⟩ := h
    exact ⟨(plRow e nf enc u vs).frame w w' h1 (fun b hb => hf b (.inl hb)), h2, fun i s t hs ht => P.frame s t w w' (h3 i s t hs ht) (fun b hb => hf b (.inr ⟨s, List.mem_of_getElem? hs, hb⟩)), h4, h5⟩
  lt := fun w k h hk => by
    obtain ⟨h1, h2, h3, h4, h5⟩ := h
    rcases hk with hk | ⟨s, hs, hk⟩
    · exact (plRow e nf enc u vs).lt w k h1 hk
    · obtain ⟨i, hi⟩ := List.getElem?_of_mem hs
      have hil := (List.getElem?_eq_some_iff.1 hi).1
      exact P.lt s T[i] w k (h3 i s T[i] hi (List.getElem?_eq_getElem (by omega))) hk

variable {e nf : Nat} {enc : β → List Value} {P : Pin β α}
theorem plG_len {w : World} {u : Value} {vs : List β} {T : List α} (h : (plG e nf enc P u vs T).ok w) : vs.length = T.length := h.2.1
theorem plG_make {w : World} {u : Value} {n : Nat} {z : β} {zt : α} (hz : ∀ w, P.ok z zt w) (hn : ∀ b, ¬ P.own z b) (h : w.ownsRow 0 e nf u n ((List.replicate n z).flatMap enc)) : (plG e nf enc P u (List.replicate n z) (List.replicate n zt)).ok w := by
  have key : ∀ (i : Nat) (s : β), (List.replicate n z)[i]? = some s → s = z := fun i s hs => (List.mem_replicate.1 (List.mem_of_getElem? hs)).2
  refine ⟨by rw [List.length_replicate]; exact h, by simp, fun i s t hs ht => ?_, fun s hs b hb => ?_, fun i j s s' _ hs hs' b hb => ?_⟩
  · rw [key i s hs, (List.mem_replicate.1 (List.mem_of_getElem? ht)).2]
    exact hz w
  · rw [(List.mem_replicate.1 hs).2] at hb
    exact absurd hb (hn b)
  · rw [key i s hs] at hb
    exact absurd hb (hn b)
theorem chg_setCells (w : World) (g p : Nat) (us : List Value) : Chg (fun k => k = g) w (setCells w g p us) :=
  (Chg.of_row (grown_setCells us p (grown_of_ext (Ext.refl w) (some g)))).mono (fun k hk _ => (Option.some.inj hk).symm)

variable {M : Nat → Prop} {w0 w w' : World} {H : List Pl}
theorem SepM.gRow (S : SepM M w0 w H) (i : Nat) {u : Value} {vs : List β} {T : List α} (h : H[i]? = some (plG e nf enc P u vs T)) : w.ownsRow w0.heap.size e nf u vs.length (vs.flatMap enc) := by
  have h0 := (S.at_ i h).1
  refine ⟨h0.1, ?_⟩
  rcases h0.2 with h2 | ⟨g, cap, cur, hv, hb, r⟩
  · exact .inl h2
  · exact .inr ⟨g, cap, cur, hv, (S.lt (List.mem_of_getElem? h) (show u.ownBlock = some g ∨ _ from .inl (by rw [hv]; rfl))).1, r⟩
/-- An element of its own comes to the place of one. -/
theorem SepM.gPut (S : SepM M w0 w H) (i j : Nat) (hn : ∀ x, (enc x).length = nf) {g n cap : Nat} {vs : List β} {T : List α} {s : β} {t : α} {k : Nat} (hi : H[i]? = some (plG e nf enc P (.slice (some ⟨g, 0, none⟩) n cap) vs T)) (hj : H[j]? = some (P.one s t)) (hij : i ≠ j) (hk : k < vs.length) :
    SepM M w0 (setCells w g (k * nf) (enc s)) ((H.set i (plG e nf enc P (.slice (some ⟨g, 0, none⟩) n cap) (vs.set k s) (T.set k t))).eraseIdx j) := by
  obtain ⟨h1, h2, h3, h4, h5⟩ := S.at_ i hi
  have hjm := List.mem_of_getElem? hj
  have hnew : ∀ b, P.own s b → ¬ (plG e nf enc P (.slice (some ⟨g, 0, none⟩) n cap) vs T).own b := fun b hb => S.ne hj hi (fun e => hij e.symm) hb
  have hlen : n = vs.length := by
    rcases h1.2 with ⟨e, _⟩ | ⟨g', cap', cur, e, _⟩
    · simp at e
    · simp only [Value.slice.injEq] at e; exact e.2.1
  have hset := owns_put hn (show w.ownsRow 0 e nf (.slice (some ⟨g, 0, none⟩) n cap) n (vs.flatMap enc) by rw [hlen]; rw [hlen] at h1; exact h1) k s hk
  have hchg := chg_setCells w g (k * nf) (enc s)
  refine S.fuse i j hi hj hij (hchg.mono (fun b hb _ => .inl (by rw [hb]; rfl))) (fun hr => ⟨by rw [List.length_set, ← hlen]; exact hset, by simp [h2], fun l s2 t2 hs2 ht2 => ?_, fun s2 hs2 b hb hb2 => ?_, fun l m s2 s3 hlm hs2 hs3 b hb hb3 => ?_⟩) (fun b hb => ?_)
  · by_cases hlk : k = l
    · subst hlk
      rw [List.getElem?_set_self hk] at hs2
      rw [List.getElem?_set_self (by omega)] at ht2
      cases hs2; cases ht2
      exact hr
    · rw [List.getElem?_set_ne hlk] at hs2 ht2
      have h6 := h3 l s2 t2 hs2 ht2
      exact P.frame s2 t2 w _ h6 (fun b hb => hchg.block b (P.lt s2 t2 w b h6 hb) (fun e => h4 s2 (List.mem_of_getElem? hs2) b hb (by rw [e]; rfl)))
  · rcases List.mem_or_eq_of_mem_set hs2 with hs2 | rfl
    · exact h4 s2 hs2 b hb hb2
    · exact hnew b hb (.inl hb2)
  · by_cases hlk : k = l
    · subst hlk
      rw [List.getElem?_set_self hk] at hs2
      cases hs2
      rw [List.getElem?_set_ne hlm] at hs3
      exact hnew b hb (.inr ⟨s3, List.mem_of_getElem? hs3, hb3⟩)
    · rw [List.getElem?_set_ne hlk] at hs2
      by_cases hmk : k = m
      · subst hmk
        rw [List.getElem?_set_self hk] at hs3
        cases hs3
        exact hnew b hb3 (.inr ⟨s2, List.mem_of_getElem? hs2, hb⟩)
      · rw [List.getElem?_set_ne hmk] at hs3
        exact h5 l m s2 s3 hlm hs2 hs3 b hb hb3
  · rcases hb with hb | ⟨s2, hs2, hb⟩
    · exact .inl (.inl hb)
    · rcases List.mem_or_eq_of_mem_set hs2 with hs2 | rfl
      · exact .inl (.inr ⟨s2, hs2, hb⟩)
      · exact .inr (.inl hb)
end
end Go.Proofs.Ytnibbldfohbfkaa

/- Nodes of a tree: their cells and rows, as a view and as one piece of memory. No condition. -/
namespace Go.Proofs.Ytnibbldfohbfkaa
open Go.RowKit

@[ext] structure Nd where
  fold : Bool
  own : Int
  grp : Int
  mode : Int
  text : ByteArray
  N : List ByteArray
  K : List Int
/-- A node as it lies: with where its rows are. -/
structure Nc where
  n : Nd
  an : Option Addr
  cn : Nat
  ak : Option Addr
  ck : Nat
def encNc (c : Nc) : List Value := [.bool c.n.fold, .int .i64 c.n.own, .int .i64 c.n.grp, .int .i64 c.n.mode, .string c.n.text, .slice c.an c.n.N.length c.cn, .slice c.ak c.n.K.length c.ck]
theorem encNc_len (c : Nc) : (encNc c).length = 7 := rfl
theorem encNc_one (c : Nc) : ∀ u ∈ encNc c, u.oneCell' = true := by simp [encNc, Value.oneCell']
def Nc.rd (w : World) (c : Nc) : Prop := c.n.N.length ≤ c.cn ∧ c.n.K.length ≤ c.ck ∧ Rd 1 encStr1 w c.an c.n.N ∧ Rd 1 encInt1 w c.ak c.n.K
theorem Nc.rd.ext {w w' : World} {c : Nc} (h : c.rd w) (hE : Ext w w') : c.rd w' := ⟨h.1, h.2.1, h.2.2.1.ext hE, h.2.2.2.ext hE⟩

/-- A read-only view of nodes. -/
def RdN (w : World) (a : Option Addr) (T : List Nd) : Prop := ∃ vs : List Nc, vs.map (·.n) = T ∧ Rd 7 encNc w a vs ∧ ∀ c ∈ vs, c.rd w
theorem RdN.ext {w w' : World} {a : Option Addr} {T : List Nd} (h : RdN w a T) (hE : Ext w w') : RdN w' a T := by
  obtain ⟨vs, h1, h2, h3⟩ := h
  exact ⟨vs, h1, h2.ext hE, fun c hc => (h3 c hc).ext hE⟩
theorem atNd {w : World} {a : Option Addr} {T : List Nd} (h : RdN w a T) {k : Nat} (hk : k < T.length) :
    ∃ (x : Nd) (b off : Nat) (an : Option Addr) (cn : Nat) (ak : Option Addr) (ck : Nat), T[k]? = some x ∧ a = some ⟨b, off, none⟩ ∧ w.cell? ⟨b, off + k * 7, none⟩ = some (.bool x.fold) ∧ w.cell? ⟨b, off + k * 7 + 1, none⟩ = some (.int .i64 x.own) ∧ w.cell? ⟨b, off + k * 7 + 2, none⟩ = some (.int .i64 x.grp) ∧
      w.cell? ⟨b, off + k * 7 + 3, none⟩ = some (.int .i64 x.mode) ∧ w.cell? ⟨b, off + k * 7 + 4, none⟩ = some (.string x.text) ∧ w.cell? ⟨b, off + k * 7 + 5, none⟩ = some (.slice an x.N.length cn) ∧ w.cell? ⟨b, off + k * 7 + 6, none⟩ = some (.slice ak x.K.length ck) ∧
      x.N.length ≤ cn ∧ x.K.length ≤ ck ∧ Rd 1 encStr1 w an x.N ∧ Rd 1 encInt1 w ak x.K := by
  obtain ⟨vs, rfl, h2, h3⟩ := h
  have hk' : k < vs.length := by simpa using hk
  obtain ⟨b, off, ha, hc⟩ := h2 k hk'
  obtain ⟨g1, g2, g3, g4⟩ := h3 vs[k] (List.getElem_mem hk')
  refine ⟨vs[k].n, b, off, vs[k].an, vs[k].cn, vs[k].ak, vs[k].ck, by rw [List.getElem?_map, List.getElem?_eq_getElem hk']; rfl, ha, hc 0 _ rfl, hc 1 _ rfl, hc 2 _ rfl, hc 3 _ rfl, hc 4 _ rfl, hc 5 _ rfl, hc 6 _ rfl, g1, g2, g3, g4⟩

/-- The rows of a node of one's own. -/
def pinNd : Pin Nc Nd where
  own c b := (Value.slice c.an c.n.N.length c.cn).ownBlock = some b ∨ (Value.slice c.ak c.n.K.length c.ck).ownBlock = some b
  ok c n w := c.n = n ∧ w.ownsRow 0 9 1 (.slice c.an c.n.N.length c.cn) c.n.N.length (c.n.N.flatMap encStr1) ∧ w.ownsRow 0 3 1 (.slice c.ak c.n.K.length c.ck) c.n.K.length (c.n.K.flatMap encInt1) ∧
    ∀ b : Nat, (Value.slice c.an c.n.N.length c.cn).ownBlock = some b → (Value.slice c.ak c.n.K.length c.ck).ownBlock ≠ some b
  frame c n w w' h hf := ⟨h.1, (plRow 9 1 encStr1 (.slice c.an c.n.N.length c.cn) c.n.N).frame w w' h.2.1 (fun b hb => hf b (.inl hb)), (plRow 3 1 encInt1 (.slice c.ak c.n.K.length c.ck) c.n.K).frame w w' h.2.2.1 (fun b hb => hf b (.inr hb)), h.2.2.2⟩
  lt c n w b h hb := hb.elim (fun hb => (plRow 9 1 encStr1 (.slice c.an c.n.N.length c.cn) c.n.N).lt w b h.2.1 hb) (fun hb => (plRow 3 1 encInt1 (.slice c.ak c.n.K.length c.ck) c.n.K).lt w b h.2.2.1 hb)
theorem pin_rd {c : Nc} {n : Nd} {w : World} (h : pinNd.ok c n w) : c.rd w := by
  obtain ⟨_, h1, h2, _⟩ := h
  obtain ⟨a, cap, hv, hl, hr, _⟩ := view_owns encStr1_len h1
  simp only [Value.slice.injEq, true_and] at hv
  obtain ⟨rfl, rfl⟩ := hv
  obtain ⟨a, cap, hv, hl2, hr2, _⟩ := view_owns encInt1_len h2
  simp only [Value.slice.injEq, true_and] at hv
  obtain ⟨rfl, rfl⟩ := hv
  exact ⟨hl, hl2, hr, hr2⟩
abbrev plNd (u : Value) (vs : List Nc) (T : List Nd) : Pl := plG 57 7 encNc pinNd u vs T
theorem nd_map {w : World} {u : Value} {vs : List Nc} {T : List Nd} (h : (plNd u vs T).ok w) : vs.map (·.n) = T := by
  obtain ⟨_, h2, h3, _⟩ := h
  apply List.ext_getElem?
  intro i
  by_cases hi : i < vs.length
  · have := (h3 i vs[i] T[i] (List.getElem?_eq_getElem hi) (List.getElem?_eq_getElem (by omega))).1
    rw [List.getElem?_map, List.getElem?_eq_getElem hi, List.getElem?_eq_getElem (by omega : i < T.length), Option.map_some, this]
  · rw [List.getElem?_eq_none (by simp; omega), List.getElem?_eq_none (by omega)]
theorem nd_view {w : World} {u : Value} {vs : List Nc} {T : List Nd} (h : (plNd u vs T).ok w) : ∃ a cap, u = .slice a T.length cap ∧ T.length ≤ cap ∧ RdN w a T := by
  have hm := nd_map h
  obtain ⟨h1, h2, h3, h4, h5⟩ := h
  obtain ⟨a, cap, hu, hc, hr, hs⟩ := view_owns encNc_len h1
  refine ⟨a, cap, by rw [hu, h2], by omega, vs, hm, hr, fun c hc => ?_⟩
  obtain ⟨i, hi⟩ := List.getElem?_of_mem hc
  have hil := (List.getElem?_eq_some_iff.1 hi).1
  exact pin_rd (h3 i c T[i] hi (List.getElem?_eq_getElem (by omega)))
theorem SepM.rdN {M : Nat → Prop} {w0 w : World} {H : List Pl} (S : SepM M w0 w H) (i : Nat) {a : Option Addr} {n cap : Nat} {vs : List Nc} {T : List Nd} (h : H[i]? = some (plNd (.slice a n cap) vs T)) : RdN w a T := by
  obtain ⟨a', cap', hu, _, hr⟩ := nd_view (S.at_ i h)
  simp only [Value.slice.injEq] at hu
  rw [hu.1]; exact hr
/-- Two rows become those of a node. -/
theorem SepM.ofRows {M : Nat → Prop} {w0 w : World} {H : List Pl} (S : SepM M w0 w H) (i j : Nat) (c : Nc) (hi : H[i]? = some (plRow 9 1 encStr1 (.slice c.an c.n.N.length c.cn) c.n.N)) (hj : H[j]? = some (plRow 3 1 encInt1 (.slice c.ak c.n.K.length c.ck) c.n.K)) (hij : i ≠ j) :
    SepM M w0 w ((H.set i (pinNd.one c c.n)).eraseIdx j) :=
  S.fuse i j hi hj hij (Chg.refl _ w) (fun hr => ⟨rfl, S.at_ i hi, hr, fun b hb => S.ne hi hj hij hb⟩) (fun b hb => hb.elim .inl (fun h => .inr (.inl h)))

/-- What is short. -/
def SmN (M : Nat) (n : Nd) : Prop := n.text.size ≤ M ∧ n.N.length ≤ M ∧ (∀ s ∈ n.N, s.size ≤ M) ∧ n.K.length ≤ M
theorem infoNd : (Try.prog.info? 57).map (fun i => (i.zero, i.size, i.bytes)) = some (some (.agg #[.bool false, .int .i64 0, .int .i64 0, .int .i64 0, .string ByteArray.empty, .slice none 0 0, .slice none 0 0]), 7, 96) := by kernel_rfl
def zNd : Nd := ⟨false, 0, 0, 0, ByteArray.empty, [], []⟩
def zNc : Nc := ⟨zNd, none, 0, none, 0⟩
theorem zNc_ok (w : World) : pinNd.ok zNc zNd w := ⟨rfl, World.ownsRow_nil _ _ _ _, World.ownsRow_nil _ _ _ _, fun b hb => by cases hb⟩
theorem zNc_own (b : Nat) : ¬ pinNd.own zNc b := fun h => h.elim (fun h => by cases h) (fun h => by cases h)
theorem madeNc (n : Nat) : (madeCells (Value.agg #[.bool false, .int .i64 0, .int .i64 0, .int .i64 0, .string ByteArray.empty, .slice none 0 0, .slice none 0 0]).cells (n * 7)).toList = (List.replicate n zNc).flatMap encNc := by
  apply List.ext_getElem?
  intro j
  by_cases hj : j < n * 7
  · have e : j = j / 7 * 7 + j % 7 := by omega
    have h3 : j % 7 < 7 := Nat.mod_lt _ (by omega)
    have hd : j / 7 < n := by omega
    rw [show ((List.replicate n zNc).flatMap encNc)[j]? = ((List.replicate n zNc).flatMap encNc)[j / 7 * 7 + j % 7]? by rw [← e], flatMap_at encNc_len _ _ _ h3]
    simp [madeCells, Value.cells, hj, hd]
    rcases (show j % 7 = 0 ∨ j % 7 = 1 ∨ j % 7 = 2 ∨ j % 7 = 3 ∨ j % 7 = 4 ∨ j % 7 = 5 ∨ j % 7 = 6 by omega) with h | h | h | h | h | h | h <;> simp [h, encNc, zNc, zNd]
  · rw [List.getElem?_eq_none (by simp [madeCells]; omega), List.getElem?_eq_none (by rw [flatMap_length encNc_len]; simp; omega)]
def mixNd (l : List Nd) (k : Nat) : List Nd := l.take k ++ List.replicate (l.length - k) zNd
theorem mixNd_len (l : List Nd) (k : Nat) (hk : k ≤ l.length) : (mixNd l k).length = l.length := by simp [mixNd]; omega
theorem mixNd_zero (l : List Nd) : mixNd l 0 = List.replicate l.length zNd := by simp [mixNd]
theorem mixNd_full (l : List Nd) : mixNd l l.length = l := by simp [mixNd]
theorem mixNd_set (l : List Nd) (k : Nat) (x : Nd) (hx : l[k]? = some x) : (mixNd l k).set k x = mixNd l (k + 1) := by
  obtain ⟨hk, rfl⟩ := List.getElem?_eq_some_iff.1 hx
  unfold mixNd
  obtain ⟨r, hr⟩ : ∃ r, l.length - k = r + 1 := ⟨l.length - k - 1, by omega⟩
  rw [hr, List.replicate_succ, show l.length - (k + 1) = r by omega, List.set_append, if_neg (by simp; omega), List.take_succ_eq_append_getElem hk, List.length_take, Nat.min_eq_left (Nat.le_of_lt hk), Nat.sub_self, List.set_cons_zero, List.append_assoc]
  rfl
end Go.Proofs.Ytnibbldfohbfkaa

/- Nodes: contracts of the laws' functions that count and copy them. Condition: rows and texts shorter than 2^63. -/
namespace Go.Proofs.Ytnibbldfohbfkaa
open Go.RowKit

set_option maxHeartbeats 2000000 in
theorem szNd_any (x : Nd) (an ak : Option Addr) (cn ck : Nat) (left : Int) (w : World) (h0 : 0 ≤ left) (h1 : left ≤ 1048576) (hs : SmN 9223372036854775807 x) (hn : Rd 1 encStr1 w an x.N) :
    Calls Try.prog 24 #[.agg #[.bool x.fold, .int .i64 x.own, .int .i64 x.grp, .int .i64 x.mode, .string x.text, .slice an x.N.length cn, .slice ak x.K.length ck], .int .i64 left] w (RetSz left (fun _ => SmN 1048576 x) w) := by
  obtain ⟨f, o, g, m, s, N, K⟩ := x
  obtain ⟨hs1, hs2, hs3, hs4⟩ := hs
  dsimp only at hs1 hs2 hs3 hs4 hn ⊢
  have HS := Lib.hid hs3
  clear hs3
  by_cases h : left - (s.size : Int) < 0
  · go_enter Try.func24, Try.ntmps24
    go_wp2
    go_ret
    exact RetSz.mk rfl (by omega) (by omega) (by omega) ((Ext.refl _).alloc _)
  · go_enter Try.func24, Try.ntmps24
    have S := Sep.start w
    replace S : Sep w (w.alloc (.cells #[.bool f, .int .i64 o, .int .i64 g, .int .i64 m, .string s, .slice an N.length cn, .slice ak K.length ck] 55)) [plBox w.heap.size #[.bool f, .int .i64 o, .int .i64 g, .int .i64 m, .string s, .slice an N.length cn, .slice ak K.length ck] 55] := S.alloc_at (by simp) _ _
    go_wp2_with fail
    generalize (w.alloc (.cells #[.bool f, .int .i64 o, .int .i64 g, .int .i64 m, .string s, .slice an N.length cn, .slice ak K.length ck] 55)) = w1 at *
    refine (szStr_any an cn N (left - (s.size : Int)) w1 (by omega) (by omega) hs2 HS.out (hn.ext S.ext)).mono ?_
    rintro e w2 ⟨r, rfl, hra, hrb, hrc, hE⟩
    have Hrc := Lib.hid hrc
    clear hrc
    replace S : Sep w w2 [plBox w.heap.size #[.bool f, .int .i64 o, .int .i64 g, .int .i64 m, .string s, .slice an N.length cn, .slice ak K.length ck] 55] := S.step hE
    clear hE
    by_cases hneg : r < 0
    · go_wp2
      go_ret
      exact RetSz.mk rfl (by omega) (by omega) (fun h => absurd h (by omega)) S.ext
    · obtain ⟨bc0, bf0⟩ : w2.cell? ⟨w.heap.size, 0, none⟩ = some (.bool f) ∧ w2.frozen? ⟨w.heap.size, 0, none⟩ = false := bx (S.box 0 rfl) 0 rfl
      obtain ⟨bc1, bf1⟩ : w2.cell? ⟨w.heap.size, 1, none⟩ = some (.int .i64 o) ∧ w2.frozen? ⟨w.heap.size, 1, none⟩ = false := bx (S.box 0 rfl) 1 rfl
      obtain ⟨bc2, bf2⟩ : w2.cell? ⟨w.heap.size, 2, none⟩ = some (.int .i64 g) ∧ w2.frozen? ⟨w.heap.size, 2, none⟩ = false := bx (S.box 0 rfl) 2 rfl
      obtain ⟨bc3, bf3⟩ : w2.cell? ⟨w.heap.size, 3, none⟩ = some (.int .i64 m) ∧ w2.frozen? ⟨w.heap.size, 3, none⟩ = false := bx (S.box 0 rfl) 3 rfl
      obtain ⟨bc4, bf4⟩ : w2.cell? ⟨w.heap.size, 4, none⟩ = some (.string s) ∧ w2.frozen? ⟨w.heap.size, 4, none⟩ = false := bx (S.box 0 rfl) 4 rfl
      obtain ⟨bc5, bf5⟩ : w2.cell? ⟨w.heap.size, 5, none⟩ = some (.slice an N.length cn) ∧ w2.frozen? ⟨w.heap.size, 5, none⟩ = false := bx (S.box 0 rfl) 5 rfl
      obtain ⟨bc6, bf6⟩ : w2.cell? ⟨w.heap.size, 6, none⟩ = some (.slice ak K.length ck) ∧ w2.frozen? ⟨w.heap.size, 6, none⟩ = false := bx (S.box 0 rfl) 6 rfl
      go_wp2_with fail
      refine (szIntS_any ak ck K r w2 (by omega) (by omega) hs4).mono ?_
      rintro e w3 ⟨q, rfl, hqa, hqb, hqc, hE⟩
      have Hqc := Lib.hid hqc
      clear hqc
      clear bc0 bf0 bc1 bf1 bc2 bf2 bc3 bf3 bc4 bf4 bc5 bf5 bc6 bf6
      replace S : Sep w w3 [plBox w.heap.size #[.bool f, .int .i64 o, .int .i64 g, .int .i64 m, .string s, .slice an N.length cn, .slice ak K.length ck] 55] := S.step hE
      clear hE
      by_cases hneg2 : q < 0
      · go_wp2
        go_ret
        exact RetSz.mk rfl (by omega) (by omega) (fun h => absurd h (by omega)) S.ext
      · go_wp2
        go_ret
        exact RetSz.mk rfl (by omega) (by omega) (fun _ => ⟨by show s.size ≤ _; omega, (Hrc.out (by omega)).1, (Hrc.out (by omega)).2, Hqc.out (by omega)⟩) S.ext

set_option maxHeartbeats 2000000 in
theorem szNdS_any (a : Option Addr) (cap : Nat) (T : List Nd) (left : Int) (w : World) (h0 : 0 ≤ left) (h1 : left ≤ 1048576) (hl : T.length ≤ 9223372036854775807) (hs : ∀ x ∈ T, SmN 9223372036854775807 x) (hc : RdN w a T) :
    Calls Try.prog 12 #[.slice a T.length cap, .int .i64 left] w (RetSz left (fun _ => T.length ≤ 1048576 ∧ ∀ x ∈ T, SmN 1048576 x) w) := by
  have HS := Lib.hid hs
  clear hs
  by_cases h : left - T.length < 0
  · go_enter Try.func12, Try.ntmps12
    go_wp2
    go_ret
    exact RetSz.mk rfl (by omega) (by omega) (by omega) (Ext.refl _)
  · go_enter Try.func12, Try.ntmps12
    go_wp2
    go_loopw [1, 5] (fun q i wr => ∃ (k : Nat) (r : Int), k ≤ T.length ∧ i = .int .i64 k ∧ q = .int .i64 r ∧ 0 ≤ r ∧ r ≤ left ∧ (∀ j, j < k → ∀ x, T[j]? = some x → SmN 1048576 x) ∧ Ext w wr) (fun _ i _ => T.length - (intOf i).toNat)
    case atStart => exact ⟨0, left - T.length, Nat.zero_le _, rfl, rfl, by omega, by omega, fun _ h => absurd h (Nat.not_lt_zero _), Ext.refl _⟩
    case round =>
      obtain ⟨k, r, hk, rfl, rfl, hr0, hr1, hpre, hb⟩ := hrel
      have Hpre := Lib.hid hpre
      clear hpre
      by_cases hlt : k < T.length
      · obtain ⟨x, b, off, an, cn, ak, ck, hx, rfl, c0, c1, c2, c3, c4, c5, c6, hcn, hck, hrn, hrk⟩ := atNd (hc.ext hb) hlt
        have Hx := Lib.hid hx
        have i0 : (k : Int) < (T.length : Int) := by omega
        clear hx hcn hck hrk
        go_wp2_with fail
        refine (szNd_any x an ak cn ck r wr (by omega) (by omega) (HS.out x (List.mem_of_getElem? Hx.out)) hrn).mono ?_
        rintro e w2 ⟨r2, rfl, hq1, hq2, hq3, hb2⟩
        have Hq3 := Lib.hid hq3
        clear hq3 c0 c1 c2 c3 c4 c5 c6 hrn
        by_cases hneg : r2 < 0
        · go_wp2
          go_ret
          exact RetSz.mk rfl (by omega) (by omega) (by omega) (hb.trans hb2)
        · have hpos : 0 ≤ r2 := by omega
          go_wp2
          go_roundw
          case rel => exact ⟨k + 1, r2, by omega, by go_num, rfl, by omega, by omega, fun j hj y hy => (Nat.lt_succ_iff_lt_or_eq.1 hj).elim (fun h => Hpre.out j h y hy) (fun e => by subst e; rw [Hx.out] at hy; cases hy; exact Hq3.out hpos), hb.trans hb2⟩
          case measure => simp [intOf]; omega
      · obtain rfl : k = T.length := by omega
        have hni : ¬ (T.length : Int) < (T.length : Int) := by omega
        go_wp2
        go_ret
        exact RetSz.mk rfl (by omega) (by omega) (fun _ => ⟨by omega, fun x hx => by obtain ⟨j, hj⟩ := List.getElem?_of_mem hx; exact Hpre.out j (List.getElem?_eq_some_iff.1 hj).1 x hj⟩) hb

set_option maxHeartbeats 2000000 in
theorem toNd_any (x : Nd) (an ak : Option Addr) (cn ck : Nat) (w : World) (hs2 : x.N.length ≤ 1048576) (hs4 : x.K.length ≤ 1048576) (hn : Rd 1 encStr1 w an x.N) (hk : Rd 1 encInt1 w ak x.K) :
    Calls Try.prog 28 #[.agg #[.bool x.fold, .int .i64 x.own, .int .i64 x.grp, .int .i64 x.mode, .string x.text, .slice an x.N.length cn, .slice ak x.K.length ck]] w fun e w' => ∃ a1 c1 a2 c2, e = .returned (.agg #[.bool x.fold, .int .i64 x.own, .int .i64 x.grp, .int .i64 x.mode, .string x.text, .slice a1 x.N.length c1, .slice a2 x.K.length c2]) ∧ Sep w w' [pinNd.one ⟨x, a1, c1, a2, c2⟩ x] := by
  obtain ⟨f, o, g, m, s, N, K⟩ := x
  dsimp only at hs2 hs4 hn hk ⊢
  go_enter Try.func28, Try.ntmps28
  have S := Sep.start w
  replace S : Sep w (w.alloc (.cells #[.bool f, .int .i64 o, .int .i64 g, .int .i64 m, .string s, .slice an N.length cn, .slice ak K.length ck] 55)) [plBox w.heap.size #[.bool f, .int .i64 o, .int .i64 g, .int .i64 m, .string s, .slice an N.length cn, .slice ak K.length ck] 55] := S.alloc_at (by simp) _ _
  replace S : Sep w ((w.alloc (.cells #[.bool f, .int .i64 o, .int .i64 g, .int .i64 m, .string s, .slice an N.length cn, .slice ak K.length ck] 55)).alloc (.cells #[.bool false, .int .i64 0, .int .i64 0, .int .i64 0, .string ⟨#[]⟩, .slice none 0 0, .slice none 0 0] 57)) [plBox (w.heap.size + 1) #[.bool false, .int .i64 0, .int .i64 0, .int .i64 0, .string ⟨#[]⟩, .slice none 0 0, .slice none 0 0] 57, plBox w.heap.size #[.bool f, .int .i64 o, .int .i64 g, .int .i64 m, .string s, .slice an N.length cn, .slice ak K.length ck] 55] := S.alloc_at (by simp) _ _
  replace S : Sep w (((w.alloc (.cells #[.bool f, .int .i64 o, .int .i64 g, .int .i64 m, .string s, .slice an N.length cn, .slice ak K.length ck] 55)).alloc (.cells #[.bool false, .int .i64 0, .int .i64 0, .int .i64 0, .string ⟨#[]⟩, .slice none 0 0, .slice none 0 0] 57)).alloc (.cells #[.bool f, .int .i64 o, .int .i64 g, .int .i64 m, .string s, .slice none 0 0, .slice none 0 0] 57)) [plBox (w.heap.size + 1 + 1) #[.bool f, .int .i64 o, .int .i64 g, .int .i64 m, .string s, .slice none 0 0, .slice none 0 0] 57, plBox (w.heap.size + 1) #[.bool false, .int .i64 0, .int .i64 0, .int .i64 0, .string ⟨#[]⟩, .slice none 0 0, .slice none 0 0] 57, plBox w.heap.size #[.bool f, .int .i64 o, .int .i64 g, .int .i64 m, .string s, .slice an N.length cn, .slice ak K.length ck] 55] := S.alloc_at (by simp) _ _
  go_wp2_with fail
  generalize (((w.alloc (.cells #[.bool f, .int .i64 o, .int .i64 g, .int .i64 m, .string s, .slice an N.length cn, .slice ak K.length ck] 55)).alloc (.cells #[.bool false, .int .i64 0, .int .i64 0, .int .i64 0, .string ⟨#[]⟩, .slice none 0 0, .slice none 0 0] 57)).alloc (.cells #[.bool f, .int .i64 o, .int .i64 g, .int .i64 m, .string s, .slice none 0 0, .slice none 0 0] 57)) = w1 at *
  refine (toStr_any an cn N w1 hs2 (hn.ext S.ext)).mono ?_
  rintro e w2 ⟨u, rfl, ⟨ho, hv⟩, hE⟩
  obtain ⟨a1, c1, hv2, hk1, _, _⟩ := view_owns encStr1_len ho
  subst hv2
  clear hv
  have U := Sep.of_owns hE ho
  clear hE ho
  replace S : Sep w w2 [plRow 9 1 encStr1 (.slice a1 N.length c1) N, plBox (w.heap.size + 1 + 1) #[.bool f, .int .i64 o, .int .i64 g, .int .i64 m, .string s, .slice none 0 0, .slice none 0 0] 57, plBox (w.heap.size + 1) #[.bool false, .int .i64 0, .int .i64 0, .int .i64 0, .string ⟨#[]⟩, .slice none 0 0, .slice none 0 0] 57, plBox w.heap.size #[.bool f, .int .i64 o, .int .i64 g, .int .i64 m, .string s, .slice an N.length cn, .slice ak K.length ck] 55] := S.call U
  clear U
  obtain ⟨obc0, obf0⟩ : w2.cell? ⟨(w.heap.size + 1 + 1), 0, none⟩ = some (.bool f) ∧ w2.frozen? ⟨(w.heap.size + 1 + 1), 0, none⟩ = false := bx (S.box 1 rfl) 0 rfl
  obtain ⟨obc1, obf1⟩ : w2.cell? ⟨(w.heap.size + 1 + 1), 1, none⟩ = some (.int .i64 o) ∧ w2.frozen? ⟨(w.heap.size + 1 + 1), 1, none⟩ = false := bx (S.box 1 rfl) 1 rfl
  obtain ⟨obc2, obf2⟩ : w2.cell? ⟨(w.heap.size + 1 + 1), 2, none⟩ = some (.int .i64 g) ∧ w2.frozen? ⟨(w.heap.size + 1 + 1), 2, none⟩ = false := bx (S.box 1 rfl) 2 rfl
  obtain ⟨obc3, obf3⟩ : w2.cell? ⟨(w.heap.size + 1 + 1), 3, none⟩ = some (.int .i64 m) ∧ w2.frozen? ⟨(w.heap.size + 1 + 1), 3, none⟩ = false := bx (S.box 1 rfl) 3 rfl
  obtain ⟨obc4, obf4⟩ : w2.cell? ⟨(w.heap.size + 1 + 1), 4, none⟩ = some (.string s) ∧ w2.frozen? ⟨(w.heap.size + 1 + 1), 4, none⟩ = false := bx (S.box 1 rfl) 4 rfl
  obtain ⟨obc5, obf5⟩ : w2.cell? ⟨(w.heap.size + 1 + 1), 5, none⟩ = some (.slice none 0 0) ∧ w2.frozen? ⟨(w.heap.size + 1 + 1), 5, none⟩ = false := bx (S.box 1 rfl) 5 rfl
  obtain ⟨obc6, obf6⟩ : w2.cell? ⟨(w.heap.size + 1 + 1), 6, none⟩ = some (.slice none 0 0) ∧ w2.frozen? ⟨(w.heap.size + 1 + 1), 6, none⟩ = false := bx (S.box 1 rfl) 6 rfl
  obtain ⟨rbc0, rbf0⟩ : w2.cell? ⟨(w.heap.size + 1), 0, none⟩ = some (.bool false) ∧ w2.frozen? ⟨(w.heap.size + 1), 0, none⟩ = false := bx (S.box 2 rfl) 0 rfl
  obtain ⟨rbc1, rbf1⟩ : w2.cell? ⟨(w.heap.size + 1), 1, none⟩ = some (.int .i64 0) ∧ w2.frozen? ⟨(w.heap.size + 1), 1, none⟩ = false := bx (S.box 2 rfl) 1 rfl
  obtain ⟨rbc2, rbf2⟩ : w2.cell? ⟨(w.heap.size + 1), 2, none⟩ = some (.int .i64 0) ∧ w2.frozen? ⟨(w.heap.size + 1), 2, none⟩ = false := bx (S.box 2 rfl) 2 rfl
  obtain ⟨rbc3, rbf3⟩ : w2.cell? ⟨(w.heap.size + 1), 3, none⟩ = some (.int .i64 0) ∧ w2.frozen? ⟨(w.heap.size + 1), 3, none⟩ = false := bx (S.box 2 rfl) 3 rfl
  obtain ⟨rbc4, rbf4⟩ : w2.cell? ⟨(w.heap.size + 1), 4, none⟩ = some (.string ⟨#[]⟩) ∧ w2.frozen? ⟨(w.heap.size + 1), 4, none⟩ = false := bx (S.box 2 rfl) 4 rfl
  obtain ⟨rbc5, rbf5⟩ : w2.cell? ⟨(w.heap.size + 1), 5, none⟩ = some (.slice none 0 0) ∧ w2.frozen? ⟨(w.heap.size + 1), 5, none⟩ = false := bx (S.box 2 rfl) 5 rfl
  obtain ⟨rbc6, rbf6⟩ : w2.cell? ⟨(w.heap.size + 1), 6, none⟩ = some (.slice none 0 0) ∧ w2.frozen? ⟨(w.heap.size + 1), 6, none⟩ = false := bx (S.box 2 rfl) 6 rfl
  obtain ⟨a0c0, a0f0⟩ : w2.cell? ⟨w.heap.size, 0, none⟩ = some (.bool f) ∧ w2.frozen? ⟨w.heap.size, 0, none⟩ = false := bx (S.box 3 rfl) 0 rfl
  obtain ⟨a0c1, a0f1⟩ : w2.cell? ⟨w.heap.size, 1, none⟩ = some (.int .i64 o) ∧ w2.frozen? ⟨w.heap.size, 1, none⟩ = false := bx (S.box 3 rfl) 1 rfl
  obtain ⟨a0c2, a0f2⟩ : w2.cell? ⟨w.heap.size, 2, none⟩ = some (.int .i64 g) ∧ w2.frozen? ⟨w.heap.size, 2, none⟩ = false := bx (S.box 3 rfl) 2 rfl
  obtain ⟨a0c3, a0f3⟩ : w2.cell? ⟨w.heap.size, 3, none⟩ = some (.int .i64 m) ∧ w2.frozen? ⟨w.heap.size, 3, none⟩ = false := bx (S.box 3 rfl) 3 rfl
  obtain ⟨a0c4, a0f4⟩ : w2.cell? ⟨w.heap.size, 4, none⟩ = some (.string s) ∧ w2.frozen? ⟨w.heap.size, 4, none⟩ = false := bx (S.box 3 rfl) 4 rfl
  obtain ⟨a0c5, a0f5⟩ : w2.cell? ⟨w.heap.size, 5, none⟩ = some (.slice an N.length cn) ∧ w2.frozen? ⟨w.heap.size, 5, none⟩ = false := bx (S.box 3 rfl) 5 rfl
  obtain ⟨a0c6, a0f6⟩ : w2.cell? ⟨w.heap.size, 6, none⟩ = some (.slice ak K.length ck) ∧ w2.frozen? ⟨w.heap.size, 6, none⟩ = false := bx (S.box 3 rfl) 6 rfl
  go_wp2_with fail
  clear obc0 obf0 obc1 obf1 obc2 obf2 obc3 obf3 obc4 obf4 obc5 obf5 obc6 obf6 rbc0 rbf0 rbc1 rbf1 rbc2 rbf2 rbc3 rbf3 rbc4 rbf4 rbc5 rbf5 rbc6 rbf6 a0c0 a0f0 a0c1 a0f1 a0c2 a0f2 a0c3 a0f3 a0c4 a0f4 a0c5 a0f5 a0c6 a0f6
  replace S : Sep w (w2.setCell ⟨(w.heap.size + 1 + 1), 5, none⟩ (.slice a1 N.length c1)) [plRow 9 1 encStr1 (.slice a1 N.length c1) N, plBox (w.heap.size + 1 + 1) #[.bool f, .int .i64 o, .int .i64 g, .int .i64 m, .string s, .slice a1 N.length c1, .slice none 0 0] 57, plBox (w.heap.size + 1) #[.bool false, .int .i64 0, .int .i64 0, .int .i64 0, .string ⟨#[]⟩, .slice none 0 0, .slice none 0 0] 57, plBox w.heap.size #[.bool f, .int .i64 o, .int .i64 g, .int .i64 m, .string s, .slice an N.length cn, .slice ak K.length ck] 55] := S.set 1 rfl 5 _
  generalize (w2.setCell ⟨(w.heap.size + 1 + 1), 5, none⟩ (.slice a1 N.length c1)) = w3 at *
  refine (toIntS_any ak ck K w3 hs4 (hk.ext S.ext)).mono ?_
  rintro e w4 ⟨u, rfl, ⟨ho, hv⟩, hE⟩
  obtain ⟨a2, c2, hv2, hk2, _, _⟩ := view_owns encInt1_len ho
  subst hv2
  clear hv
  have U := Sep.of_owns hE ho
  clear hE ho
  replace S : Sep w w4 [plRow 3 1 encInt1 (.slice a2 K.length c2) K, plRow 9 1 encStr1 (.slice a1 N.length c1) N, plBox (w.heap.size + 1 + 1) #[.bool f, .int .i64 o, .int .i64 g, .int .i64 m, .string s, .slice a1 N.length c1, .slice none 0 0] 57, plBox (w.heap.size + 1) #[.bool false, .int .i64 0, .int .i64 0, .int .i64 0, .string ⟨#[]⟩, .slice none 0 0, .slice none 0 0] 57, plBox w.heap.size #[.bool f, .int .i64 o, .int .i64 g, .int .i64 m, .string s, .slice an N.length cn, .slice ak K.length ck] 55] := S.call U
  clear U
  obtain ⟨obc0, obf0⟩ : w4.cell? ⟨(w.heap.size + 1 + 1), 0, none⟩ = some (.bool f) ∧ w4.frozen? ⟨(w.heap.size + 1 + 1), 0, none⟩ = false := bx (S.box 2 rfl) 0 rfl
  obtain ⟨obc1, obf1⟩ : w4.cell? ⟨(w.heap.size + 1 + 1), 1, none⟩ = some (.int .i64 o) ∧ w4.frozen? ⟨(w.heap.size + 1 + 1), 1, none⟩ = false := bx (S.box 2 rfl) 1 rfl
  obtain ⟨obc2, obf2⟩ : w4.cell? ⟨(w.heap.size + 1 + 1), 2, none⟩ = some (.int .i64 g) ∧ w4.frozen? ⟨(w.heap.size + 1 + 1), 2, none⟩ = false := bx (S.box 2 rfl) 2 rfl
  obtain ⟨obc3, obf3⟩ : w4.cell? ⟨(w.heap.size + 1 + 1), 3, none⟩ = some (.int .i64 m) ∧ w4.frozen? ⟨(w.heap.size + 1 + 1), 3, none⟩ = false := bx (S.box 2 rfl) 3 rfl
  obtain ⟨obc4, obf4⟩ : w4.cell? ⟨(w.heap.size + 1 + 1), 4, none⟩ = some (.string s) ∧ w4.frozen? ⟨(w.heap.size + 1 + 1), 4, none⟩ = false := bx (S.box 2 rfl) 4 rfl
  obtain ⟨obc5, obf5⟩ : w4.cell? ⟨(w.heap.size + 1 + 1), 5, none⟩ = some (.slice a1 N.length c1) ∧ w4.frozen? ⟨(w.heap.size + 1 + 1), 5, none⟩ = false := bx (S.box 2 rfl) 5 rfl
  obtain ⟨obc6, obf6⟩ : w4.cell? ⟨(w.heap.size + 1 + 1), 6, none⟩ = some (.slice none 0 0) ∧ w4.frozen? ⟨(w.heap.size + 1 + 1), 6, none⟩ = false := bx (S.box 2 rfl) 6 rfl
  obtain ⟨rbc0, rbf0⟩ : w4.cell? ⟨(w.heap.size + 1), 0, none⟩ = some (.bool false) ∧ w4.frozen? ⟨(w.heap.size + 1), 0, none⟩ = false := bx (S.box 3 rfl) 0 rfl
  obtain ⟨rbc1, rbf1⟩ : w4.cell? ⟨(w.heap.size + 1), 1, none⟩ = some (.int .i64 0) ∧ w4.frozen? ⟨(w.heap.size + 1), 1, none⟩ = false := bx (S.box 3 rfl) 1 rfl
  obtain ⟨rbc2, rbf2⟩ : w4.cell? ⟨(w.heap.size + 1), 2, none⟩ = some (.int .i64 0) ∧ w4.frozen? ⟨(w.heap.size + 1), 2, none⟩ = false := bx (S.box 3 rfl) 2 rfl
  obtain ⟨rbc3, rbf3⟩ : w4.cell? ⟨(w.heap.size + 1), 3, none⟩ = some (.int .i64 0) ∧ w4.frozen? ⟨(w.heap.size + 1), 3, none⟩ = false := bx (S.box 3 rfl) 3 rfl
  obtain ⟨rbc4, rbf4⟩ : w4.cell? ⟨(w.heap.size + 1), 4, none⟩ = some (.string ⟨#[]⟩) ∧ w4.frozen? ⟨(w.heap.size + 1), 4, none⟩ = false := bx (S.box 3 rfl) 4 rfl
  obtain ⟨rbc5, rbf5⟩ : w4.cell? ⟨(w.heap.size + 1), 5, none⟩ = some (.slice none 0 0) ∧ w4.frozen? ⟨(w.heap.size + 1), 5, none⟩ = false := bx (S.box 3 rfl) 5 rfl
  obtain ⟨rbc6, rbf6⟩ : w4.cell? ⟨(w.heap.size + 1), 6, none⟩ = some (.slice none 0 0) ∧ w4.frozen? ⟨(w.heap.size + 1), 6, none⟩ = false := bx (S.box 3 rfl) 6 rfl
  obtain ⟨a0c0, a0f0⟩ : w4.cell? ⟨w.heap.size, 0, none⟩ = some (.bool f) ∧ w4.frozen? ⟨w.heap.size, 0, none⟩ = false := bx (S.box 4 rfl) 0 rfl
  obtain ⟨a0c1, a0f1⟩ : w4.cell? ⟨w.heap.size, 1, none⟩ = some (.int .i64 o) ∧ w4.frozen? ⟨w.heap.size, 1, none⟩ = false := bx (S.box 4 rfl) 1 rfl
  obtain ⟨a0c2, a0f2⟩ : w4.cell? ⟨w.heap.size, 2, none⟩ = some (.int .i64 g) ∧ w4.frozen? ⟨w.heap.size, 2, none⟩ = false := bx (S.box 4 rfl) 2 rfl
  obtain ⟨a0c3, a0f3⟩ : w4.cell? ⟨w.heap.size, 3, none⟩ = some (.int .i64 m) ∧ w4.frozen? ⟨w.heap.size, 3, none⟩ = false := bx (S.box 4 rfl) 3 rfl
  obtain ⟨a0c4, a0f4⟩ : w4.cell? ⟨w.heap.size, 4, none⟩ = some (.string s) ∧ w4.frozen? ⟨w.heap.size, 4, none⟩ = false := bx (S.box 4 rfl) 4 rfl
  obtain ⟨a0c5, a0f5⟩ : w4.cell? ⟨w.heap.size, 5, none⟩ = some (.slice an N.length cn) ∧ w4.frozen? ⟨w.heap.size, 5, none⟩ = false := bx (S.box 4 rfl) 5 rfl
  obtain ⟨a0c6, a0f6⟩ : w4.cell? ⟨w.heap.size, 6, none⟩ = some (.slice ak K.length ck) ∧ w4.frozen? ⟨w.heap.size, 6, none⟩ = false := bx (S.box 4 rfl) 6 rfl
  go_wp2
  try simp only [Exit.inBlock, Exit.then]
  refine bodyPost_ret (v := .agg #[.bool f, .int .i64 o, .int .i64 g, .int .i64 m, .string s, .slice a1 N.length c1, .slice a2 K.length c2]) (by simp [results, Try.results28, go_sem, rbc0, rbc1, rbc2, rbc3, rbc4, rbc5, rbc6, obc0, obc1, obc2, obc3, obc4, obc5, obc6]) rfl ?_
  replace S : Sep w (w4.setCell ⟨(w.heap.size + 1 + 1), 6, none⟩ (.slice a2 K.length c2)) [plRow 3 1 encInt1 (.slice a2 K.length c2) K, plRow 9 1 encStr1 (.slice a1 N.length c1) N, plBox (w.heap.size + 1 + 1) #[.bool f, .int .i64 o, .int .i64 g, .int .i64 m, .string s, .slice a1 N.length c1, .slice a2 K.length c2] 57, plBox (w.heap.size + 1) #[.bool false, .int .i64 0, .int .i64 0, .int .i64 0, .string ⟨#[]⟩, .slice none 0 0, .slice none 0 0] 57, plBox w.heap.size #[.bool f, .int .i64 o, .int .i64 g, .int .i64 m, .string s, .slice an N.length cn, .slice ak K.length ck] 55] := S.set 2 rfl 6 _
  replace S : Sep w ((w4.setCell ⟨(w.heap.size + 1 + 1), 6, none⟩ (.slice a2 K.length c2)).setCell ⟨(w.heap.size + 1), 0, none⟩ (.bool f)) [plRow 3 1 encInt1 (.slice a2 K.length c2) K, plRow 9 1 encStr1 (.slice a1 N.length c1) N, plBox (w.heap.size + 1 + 1) #[.bool f, .int .i64 o, .int .i64 g, .int .i64 m, .string s, .slice a1 N.length c1, .slice a2 K.length c2] 57, plBox (w.heap.size + 1) #[.bool f, .int .i64 0, .int .i64 0, .int .i64 0, .string ⟨#[]⟩, .slice none 0 0, .slice none 0 0] 57, plBox w.heap.size #[.bool f, .int .i64 o, .int .i64 g, .int .i64 m, .string s, .slice an N.length cn, .slice ak K.length ck] 55] := S.set 3 rfl 0 _
  replace S : Sep w (((w4.setCell ⟨(w.heap.size + 1 + 1), 6, none⟩ (.slice a2 K.length c2)).setCell ⟨(w.heap.size + 1), 0, none⟩ (.bool f)).setCell ⟨(w.heap.size + 1), 1, none⟩ (.int .i64 o)) [plRow 3 1 encInt1 (.slice a2 K.length c2) K, plRow 9 1 encStr1 (.slice a1 N.length c1) N, plBox (w.heap.size + 1 + 1) #[.bool f, .int .i64 o, .int .i64 g, .int .i64 m, .string s, .slice a1 N.length c1, .slice a2 K.length c2] 57, plBox (w.heap.size + 1) #[.bool f, .int .i64 o, .int .i64 0, .int .i64 0, .string ⟨#[]⟩, .slice none 0 0, .slice none 0 0] 57, plBox w.heap.size #[.bool f, .int .i64 o, .int .i64 g, .int .i64 m, .string s, .slice an N.length cn, .slice ak K.length ck] 55] := S.set 3 rfl 1 _
  replace S : Sep w ((((w4.setCell ⟨(w.heap.size + 1 + 1), 6, none⟩ (.slice a2 K.length c2)).setCell ⟨(w.heap.size + 1), 0, none⟩ (.bool f)).setCell ⟨(w.heap.size + 1), 1, none⟩ (.int .i64 o)).setCell ⟨(w.heap.size + 1), 2, none⟩ (.int .i64 g)) [plRow 3 1 encInt1 (.slice a2 K.length c2) K, plRow 9 1 encStr1 (.slice a1 N.length c1) N, plBox (w.heap.size + 1 + 1) #[.bool f, .int .i64 o, .int .i64 g, .int .i64 m, .string s, .slice a1 N.length c1, .slice a2 K.length c2] 57, plBox (w.heap.size + 1) #[.bool f, .int .i64 o, .int .i64 g, .int .i64 0, .string ⟨#[]⟩, .slice none 0 0, .slice none 0 0] 57, plBox w.heap.size #[.bool f, .int .i64 o, .int .i64 g, .int .i64 m, .string s, .slice an N.length cn, .slice ak K.length ck] 55] := S.set 3 rfl 2 _
  replace S : Sep w (((((w4.setCell ⟨(w.heap.size + 1 + 1), 6, none⟩ (.slice a2 K.length c2)).setCell ⟨(w.heap.size + 1), 0, none⟩ (.bool f)).setCell ⟨(w.heap.size + 1), 1, none⟩ (.int .i64 o)).setCell ⟨(w.heap.size + 1), 2, none⟩ (.int .i64 g)).setCell ⟨(w.heap.size + 1), 3, none⟩ (.int .i64 m)) [plRow 3 1 encInt1 (.slice a2 K.length c2) K, plRow 9 1 encStr1 (.slice a1 N.length c1) N, plBox (w.heap.size + 1 + 1) #[.bool f, .int .i64 o, .int .i64 g, .int .i64 m, .string s, .slice a1 N.length c1, .slice a2 K.length c2] 57, plBox (w.heap.size + 1) #[.bool f, .int .i64 o, .int .i64 g, .int .i64 m, .string ⟨#[]⟩, .slice none 0 0, .slice none 0 0] 57, plBox w.heap.size #[.bool f, .int .i64 o, .int .i64 g, .int .i64 m, .string s, .slice an N.length cn, .slice ak K.length ck] 55] := S.set 3 rfl 3 _
  replace S : Sep w ((((((w4.setCell ⟨(w.heap.size + 1 + 1), 6, none⟩ (.slice a2 K.length c2)).setCell ⟨(w.heap.size + 1), 0, none⟩ (.bool f)).setCell ⟨(w.heap.size + 1), 1, none⟩ (.int .i64 o)).setCell ⟨(w.heap.size + 1), 2, none⟩ (.int .i64 g)).setCell ⟨(w.heap.size + 1), 3, none⟩ (.int .i64 m)).setCell ⟨(w.heap.size + 1), 4, none⟩ (.string s)) [plRow 3 1 encInt1 (.slice a2 K.length c2) K, plRow 9 1 encStr1 (.slice a1 N.length c1) N, plBox (w.heap.size + 1 + 1) #[.bool f, .int .i64 o, .int .i64 g, .int .i64 m, .string s, .slice a1 N.length c1, .slice a2 K.length c2] 57, plBox (w.heap.size + 1) #[.bool f, .int .i64 o, .int .i64 g, .int .i64 m, .string s, .slice none 0 0, .slice none 0 0] 57, plBox w.heap.size #[.bool f, .int .i64 o, .int .i64 g, .int .i64 m, .string s, .slice an N.length cn, .slice ak K.length ck] 55] := S.set 3 rfl 4 _
  replace S : Sep w (((((((w4.setCell ⟨(w.heap.size + 1 + 1), 6, none⟩ (.slice a2 K.length c2)).setCell ⟨(w.heap.size + 1), 0, none⟩ (.bool f)).setCell ⟨(w.heap.size + 1), 1, none⟩ (.int .i64 o)).setCell ⟨(w.heap.size + 1), 2, none⟩ (.int .i64 g)).setCell ⟨(w.heap.size + 1), 3, none⟩ (.int .i64 m)).setCell ⟨(w.heap.size + 1), 4, none⟩ (.string s)).setCell ⟨(w.heap.size + 1), 5, none⟩ (.slice a1 N.length c1)) [plRow 3 1 encInt1 (.slice a2 K.length c2) K, plRow 9 1 encStr1 (.slice a1 N.length c1) N, plBox (w.heap.size + 1 + 1) #[.bool f, .int .i64 o, .int .i64 g, .int .i64 m, .string s, .slice a1 N.length c1, .slice a2 K.length c2] 57, plBox (w.heap.size + 1) #[.bool f, .int .i64 o, .int .i64 g, .int .i64 m, .string s, .slice a1 N.length c1, .slice none 0 0] 57, plBox w.heap.size #[.bool f, .int .i64 o, .int .i64 g, .int .i64 m, .string s, .slice an N.length cn, .slice ak K.length ck] 55] := S.set 3 rfl 5 _
  replace S : Sep w ((((((((w4.setCell ⟨(w.heap.size + 1 + 1), 6, none⟩ (.slice a2 K.length c2)).setCell ⟨(w.heap.size + 1), 0, none⟩ (.bool f)).setCell ⟨(w.heap.size + 1), 1, none⟩ (.int .i64 o)).setCell ⟨(w.heap.size + 1), 2, none⟩ (.int .i64 g)).setCell ⟨(w.heap.size + 1), 3, none⟩ (.int .i64 m)).setCell ⟨(w.heap.size + 1), 4, none⟩ (.string s)).setCell ⟨(w.heap.size + 1), 5, none⟩ (.slice a1 N.length c1)).setCell ⟨(w.heap.size + 1), 6, none⟩ (.slice a2 K.length c2)) [plRow 3 1 encInt1 (.slice a2 K.length c2) K, plRow 9 1 encStr1 (.slice a1 N.length c1) N, plBox (w.heap.size + 1 + 1) #[.bool f, .int .i64 o, .int .i64 g, .int .i64 m, .string s, .slice a1 N.length c1, .slice a2 K.length c2] 57, plBox (w.heap.size + 1) #[.bool f, .int .i64 o, .int .i64 g, .int .i64 m, .string s, .slice a1 N.length c1, .slice a2 K.length c2] 57, plBox w.heap.size #[.bool f, .int .i64 o, .int .i64 g, .int .i64 m, .string s, .slice an N.length cn, .slice ak K.length ck] 55] := S.set 3 rfl 6 _
  replace S : Sep w ((((((((w4.setCell ⟨(w.heap.size + 1 + 1), 6, none⟩ (.slice a2 K.length c2)).setCell ⟨(w.heap.size + 1), 0, none⟩ (.bool f)).setCell ⟨(w.heap.size + 1), 1, none⟩ (.int .i64 o)).setCell ⟨(w.heap.size + 1), 2, none⟩ (.int .i64 g)).setCell ⟨(w.heap.size + 1), 3, none⟩ (.int .i64 m)).setCell ⟨(w.heap.size + 1), 4, none⟩ (.string s)).setCell ⟨(w.heap.size + 1), 5, none⟩ (.slice a1 N.length c1)).setCell ⟨(w.heap.size + 1), 6, none⟩ (.slice a2 K.length c2)) [plRow 3 1 encInt1 (.slice a2 K.length c2) K, plRow 9 1 encStr1 (.slice a1 N.length c1) N, plBox (w.heap.size + 1) #[.bool f, .int .i64 o, .int .i64 g, .int .i64 m, .string s, .slice a1 N.length c1, .slice a2 K.length c2] 57, plBox w.heap.size #[.bool f, .int .i64 o, .int .i64 g, .int .i64 m, .string s, .slice an N.length cn, .slice ak K.length ck] 55] := S.drop 2
  replace S : Sep w ((((((((w4.setCell ⟨(w.heap.size + 1 + 1), 6, none⟩ (.slice a2 K.length c2)).setCell ⟨(w.heap.size + 1), 0, none⟩ (.bool f)).setCell ⟨(w.heap.size + 1), 1, none⟩ (.int .i64 o)).setCell ⟨(w.heap.size + 1), 2, none⟩ (.int .i64 g)).setCell ⟨(w.heap.size + 1), 3, none⟩ (.int .i64 m)).setCell ⟨(w.heap.size + 1), 4, none⟩ (.string s)).setCell ⟨(w.heap.size + 1), 5, none⟩ (.slice a1 N.length c1)).setCell ⟨(w.heap.size + 1), 6, none⟩ (.slice a2 K.length c2)) [plRow 3 1 encInt1 (.slice a2 K.length c2) K, plRow 9 1 encStr1 (.slice a1 N.length c1) N, plBox w.heap.size #[.bool f, .int .i64 o, .int .i64 g, .int .i64 m, .string s, .slice an N.length cn, .slice ak K.length ck] 55] := S.drop 2
  replace S : Sep w ((((((((w4.setCell ⟨(w.heap.size + 1 + 1), 6, none⟩ (.slice a2 K.length c2)).setCell ⟨(w.heap.size + 1), 0, none⟩ (.bool f)).setCell ⟨(w.heap.size + 1), 1, none⟩ (.int .i64 o)).setCell ⟨(w.heap.size + 1), 2, none⟩ (.int .i64 g)).setCell ⟨(w.heap.size + 1), 3, none⟩ (.int .i64 m)).setCell ⟨(w.heap.size + 1), 4, none⟩ (.string s)).setCell ⟨(w.heap.size + 1), 5, none⟩ (.slice a1 N.length c1)).setCell ⟨(w.heap.size + 1), 6, none⟩ (.slice a2 K.length c2)) [plRow 3 1 encInt1 (.slice a2 K.length c2) K, plRow 9 1 encStr1 (.slice a1 N.length c1) N] := S.drop 2
  exact ⟨a1, c1, a2, c2, rfl, S.ofRows 1 0 ⟨⟨f, o, g, m, s, N, K⟩, a1, c1, a2, c2⟩ rfl rfl (by decide)⟩

set_option maxHeartbeats 2000000 in
theorem toNdS_any (a : Option Addr) (cap : Nat) (T : List Nd) (w : World) (hl : T.length ≤ 1048576) (hs : ∀ x ∈ T, SmN 1048576 x) (hc : RdN w a T) :
    Calls Try.prog 15 #[.slice a T.length cap] w fun e w' => ∃ vs, e = .returned (.slice (some ⟨w.heap.size, 0, none⟩) T.length T.length) ∧ Sep w w' [plNd (.slice (some ⟨w.heap.size, 0, none⟩) T.length T.length) vs T] := by
  obtain ⟨i0, hi, hz0, hz1, hz2⟩ := info_parts infoNd
  have HS := Lib.hid hs
  clear hs
  go_enter Try.func15, Try.ntmps15
  go_wp2_with (at_make; refine wpList_make_full _ rfl _ _ 29 rfl w.heap.size 57 i0 _ 7 Try.underlying29 hi hz0 hz1 _ _ _ _ T.length rfl rfl rfl rfl ?b1 ?b2 ?b3 ?_)
  case b1 => rw [hz2]; omega
  case b2 => unfold maxLen; omega
  case b3 => exact Nat.le_refl _
  intro w1 hown1 hgr1
  have hE := ext_of_grown hgr1
  have S0 : Sep w w1 [plNd (.slice (some ⟨w.heap.size, 0, none⟩) T.length T.length) (List.replicate T.length zNc) (mixNd T 0)] := by
    rw [mixNd_zero]
    refine Sep.one (p := plNd _ _ _) hE (plG_make zNc_ok zNc_own ?_) (fun b hb => ?_)
    · have h2 := ownsRow_base hown1 (Nat.zero_le _)
      rw [← madeNc]; exact h2
    · rcases hb with hb | ⟨s, hs, hb⟩
      · have : w.heap.size = b := Option.some.inj hb
        omega
      · rw [(List.mem_replicate.1 hs).2] at hb
        exact absurd hb (zNc_own b)
  clear hgr1 hown1 hE
  go_wp2
  go_loopw [4] (fun i wr => ∃ (k : Nat) (vs : List Nc), k ≤ T.length ∧ i = .int .i64 k ∧ Sep w wr [plNd (.slice (some ⟨w.heap.size, 0, none⟩) T.length T.length) vs (mixNd T k)]) (fun i _ => T.length - (intOf i).toNat)
  case atStart => exact ⟨0, _, Nat.zero_le _, rfl, S0⟩
  case round =>
    clear S0
    obtain ⟨k, vs, hk, rfl, S⟩ := hrel
    by_cases hlk : k < T.length
    · obtain ⟨x, b, off, an, cn, ak, ck, hx, hpe, c0, c1, c2, c3, c4, c5, c6, hcn, hck, hrn, hrk⟩ := atNd (hc.ext S.ext) hlk
      subst hpe
      have Hx := Lib.hid hx
      have hsx := HS.out x (List.mem_of_getElem? hx)
      have i0 : (k : Int) < (T.length : Int) := by omega
      clear hx hcn hck
      go_wp2_with fail
      refine (toNd_any x an ak cn ck wr hsx.2.1 hsx.2.2.2 hrn hrk).mono ?_
      rintro e w2 ⟨a1, d1, a2, d2, rfl, U⟩
      replace S := S.call U
      clear U c0 c1 c2 c3 c4 c5 c6 hrn hrk
      have hvl := plG_len (S.at_ 1 rfl)
      rw [mixNd_len T k hk] at hvl
      have hrow : w2.ownsRow w.heap.size 57 7 (.slice (some ⟨w.heap.size, 0, none⟩) T.length T.length) T.length (vs.flatMap encNc) := by
        have h := S.gRow 1 rfl
        rw [hvl] at h; exact h
      have hkv : k < vs.length := by omega
      have g0 : w2.cell? ⟨w.heap.size, k * 7, none⟩ = some _ := owns_at encNc_len hrow k hkv 0 _ rfl
      have g1 : w2.cell? ⟨w.heap.size, k * 7 + 1, none⟩ = some _ := owns_at encNc_len hrow k hkv 1 _ rfl
      have g2 : w2.cell? ⟨w.heap.size, k * 7 + 2, none⟩ = some _ := owns_at encNc_len hrow k hkv 2 _ rfl
      have g3 : w2.cell? ⟨w.heap.size, k * 7 + 3, none⟩ = some _ := owns_at encNc_len hrow k hkv 3 _ rfl
      have g4 : w2.cell? ⟨w.heap.size, k * 7 + 4, none⟩ = some _ := owns_at encNc_len hrow k hkv 4 _ rfl
      have g5 : w2.cell? ⟨w.heap.size, k * 7 + 5, none⟩ = some _ := owns_at encNc_len hrow k hkv 5 _ rfl
      have g6 : w2.cell? ⟨w.heap.size, k * 7 + 6, none⟩ = some _ := owns_at encNc_len hrow k hkv 6 _ rfl
      have f0 := hrow.frozenAt
      have S2 := S.gPut 1 0 encNc_len (s := ⟨x, a1, d1, a2, d2⟩) (t := x) (k := k) rfl rfl (by decide) hkv
      rw [mixNd_set T k x Hx.out] at S2
      have S3 : Sep w (setCells w2 w.heap.size (k * 7) (encNc ⟨x, a1, d1, a2, d2⟩)) [plNd (.slice (some ⟨w.heap.size, 0, none⟩) T.length T.length) (vs.set k ⟨x, a1, d1, a2, d2⟩) (mixNd T (k + 1))] := S2
      have HS3 := Lib.hid S3
      clear S2 S3 S hrow hvl hsx
      go_wp2
      go_roundw
      case rel => exact ⟨k + 1, _, by omega, by go_num, by simpa [setCells, encNc] using HS3.out⟩
      case measure => simp [intOf]; omega
    · obtain rfl : k = T.length := by omega
      have hni : ¬ (T.length : Int) < (T.length : Int) := by omega
      rw [mixNd_full] at S
      go_wp2
      go_ret
      exact ⟨rfl, vs, S⟩
end Go.Proofs.Ytnibbldfohbfkaa

/- Nodes: contracts of the laws' functions that compare them. Condition: rows shorter than 2^63. -/
namespace Go.Proofs.Ytnibbldfohbfkaa
open Go.RowKit

set_option maxHeartbeats 4000000 in
theorem eqNd_any (x y : Nd) (a1 a2 b1 b2 : Option Addr) (c1 c2 d1 d2 : Nat) (w : World) (h1 : x.N.length ≤ 9223372036854775807) (h2 : x.K.length ≤ 9223372036854775807) (h3 : y.N.length ≤ 9223372036854775807) (h4 : y.K.length ≤ 9223372036854775807)
    (hn : Rd 1 encStr1 w a1 x.N) (hk : Rd 1 encInt1 w a2 x.K) (hm : Rd 1 encStr1 w b1 y.N) (hl : Rd 1 encInt1 w b2 y.K) :
    Calls Try.prog 33 #[.agg #[.bool x.fold, .int .i64 x.own, .int .i64 x.grp, .int .i64 x.mode, .string x.text, .slice a1 x.N.length c1, .slice a2 x.K.length c2], .agg #[.bool y.fold, .int .i64 y.own, .int .i64 y.grp, .int .i64 y.mode, .string y.text, .slice b1 y.N.length d1, .slice b2 y.K.length d2]] w (RetB (x = y) w) := by
  obtain ⟨f, o, g, m, s, N, K⟩ := x
  obtain ⟨f', o', g', m', s', N', K'⟩ := y
  dsimp only at h1 h2 h3 h4 hn hk hm hl ⊢
  simp only [Nd.mk.injEq]
  by_cases e1 : f = f'
  case neg =>
    cases f <;> cases f' <;> first
      | exact absurd rfl e1
      | (clear e1
         go_enter Try.func33, Try.ntmps33
         go_wp2
         go_ret
         exact RetB.mk false rfl (by simp) (((Ext.refl _).alloc _).alloc _))
  subst e1
  by_cases e2 : o = o'
  case neg =>
    have t2 : (o != o') = true := by simpa using e2
    go_enter Try.func33, Try.ntmps33
    go_wp2
    go_ret
    exact RetB.mk false rfl (by simp [e2]) (((Ext.refl _).alloc _).alloc _)
  subst e2
  by_cases e3 : g = g'
  case neg =>
    have t2 : (g != g') = true := by simpa using e3
    go_enter Try.func33, Try.ntmps33
    go_wp2
    go_ret
    exact RetB.mk false rfl (by simp [e3]) (((Ext.refl _).alloc _).alloc _)
  subst e3
  by_cases e4 : m = m'
  case neg =>
    have t2 : (m != m') = true := by simpa using e4
    go_enter Try.func33, Try.ntmps33
    go_wp2
    go_ret
    exact RetB.mk false rfl (by simp [e4]) (((Ext.refl _).alloc _).alloc _)
  subst e4
  by_cases e5 : s = s'
  case neg =>
    have t2 : (s.toList == s'.toList) = false := by simpa [bytes_eq] using e5
    go_enter Try.func33, Try.ntmps33
    go_wp2
    go_ret
    exact RetB.mk false rfl (by simp [e5]) (((Ext.refl _).alloc _).alloc _)
  subst e5
  simp only [true_and]
  go_enter Try.func33, Try.ntmps33
  have S := Sep.start w
  replace S : Sep w (w.alloc (.cells #[.bool f, .int .i64 o, .int .i64 g, .int .i64 m, .string s, .slice a1 N.length c1, .slice a2 K.length c2] 57)) [plBox w.heap.size #[.bool f, .int .i64 o, .int .i64 g, .int .i64 m, .string s, .slice a1 N.length c1, .slice a2 K.length c2] 57] := S.alloc_at (by simp) _ _
  replace S : Sep w ((w.alloc (.cells #[.bool f, .int .i64 o, .int .i64 g, .int .i64 m, .string s, .slice a1 N.length c1, .slice a2 K.length c2] 57)).alloc (.cells #[.bool f, .int .i64 o, .int .i64 g, .int .i64 m, .string s, .slice b1 N'.length d1, .slice b2 K'.length d2] 57)) [plBox (w.heap.size + 1) #[.bool f, .int .i64 o, .int .i64 g, .int .i64 m, .string s, .slice b1 N'.length d1, .slice b2 K'.length d2] 57, plBox w.heap.size #[.bool f, .int .i64 o, .int .i64 g, .int .i64 m, .string s, .slice a1 N.length c1, .slice a2 K.length c2] 57] := S.alloc_at (by simp) _ _
  go_wp2_with fail
  generalize ((w.alloc (.cells #[.bool f, .int .i64 o, .int .i64 g, .int .i64 m, .string s, .slice a1 N.length c1, .slice a2 K.length c2] 57)).alloc (.cells #[.bool f, .int .i64 o, .int .i64 g, .int .i64 m, .string s, .slice b1 N'.length d1, .slice b2 K'.length d2] 57)) = w1 at *
  refine (eqStr_any a1 b1 c1 d1 N N' w1 h1 h3 (hn.ext S.ext) (hm.ext S.ext)).mono ?_
  rintro e w2 ⟨v1, rfl, hv1, hE⟩
  have Hv1 := Lib.hid hv1
  clear hv1
  replace S : Sep w w2 [plBox (w.heap.size + 1) #[.bool f, .int .i64 o, .int .i64 g, .int .i64 m, .string s, .slice b1 N'.length d1, .slice b2 K'.length d2] 57, plBox w.heap.size #[.bool f, .int .i64 o, .int .i64 g, .int .i64 m, .string s, .slice a1 N.length c1, .slice a2 K.length c2] 57] := S.step hE
  clear hE
  cases v1 with
  | false =>
    go_wp2
    go_ret
    exact RetB.mk false rfl (by simp only [Bool.false_eq_true, false_iff]; exact fun h => Bool.noConfusion (Hv1.out.2 h.1)) S.ext
  | true =>
    obtain ⟨qc0, qf0⟩ : w2.cell? ⟨(w.heap.size + 1), 0, none⟩ = some (.bool f) ∧ w2.frozen? ⟨(w.heap.size + 1), 0, none⟩ = false := bx (S.box 0 rfl) 0 rfl
    obtain ⟨qc1, qf1⟩ : w2.cell? ⟨(w.heap.size + 1), 1, none⟩ = some (.int .i64 o) ∧ w2.frozen? ⟨(w.heap.size + 1), 1, none⟩ = false := bx (S.box 0 rfl) 1 rfl
    obtain ⟨qc2, qf2⟩ : w2.cell? ⟨(w.heap.size + 1), 2, none⟩ = some (.int .i64 g) ∧ w2.frozen? ⟨(w.heap.size + 1), 2, none⟩ = false := bx (S.box 0 rfl) 2 rfl
    obtain ⟨qc3, qf3⟩ : w2.cell? ⟨(w.heap.size + 1), 3, none⟩ = some (.int .i64 m) ∧ w2.frozen? ⟨(w.heap.size + 1), 3, none⟩ = false := bx (S.box 0 rfl) 3 rfl
    obtain ⟨qc4, qf4⟩ : w2.cell? ⟨(w.heap.size + 1), 4, none⟩ = some (.string s) ∧ w2.frozen? ⟨(w.heap.size + 1), 4, none⟩ = false := bx (S.box 0 rfl) 4 rfl
    obtain ⟨qc5, qf5⟩ : w2.cell? ⟨(w.heap.size + 1), 5, none⟩ = some (.slice b1 N'.length d1) ∧ w2.frozen? ⟨(w.heap.size + 1), 5, none⟩ = false := bx (S.box 0 rfl) 5 rfl
    obtain ⟨qc6, qf6⟩ : w2.cell? ⟨(w.heap.size + 1), 6, none⟩ = some (.slice b2 K'.length d2) ∧ w2.frozen? ⟨(w.heap.size + 1), 6, none⟩ = false := bx (S.box 0 rfl) 6 rfl
    obtain ⟨pc0, pf0⟩ : w2.cell? ⟨w.heap.size, 0, none⟩ = some (.bool f) ∧ w2.frozen? ⟨w.heap.size, 0, none⟩ = false := bx (S.box 1 rfl) 0 rfl
    obtain ⟨pc1, pf1⟩ : w2.cell? ⟨w.heap.size, 1, none⟩ = some (.int .i64 o) ∧ w2.frozen? ⟨w.heap.size, 1, none⟩ = false := bx (S.box 1 rfl) 1 rfl
    obtain ⟨pc2, pf2⟩ : w2.cell? ⟨w.heap.size, 2, none⟩ = some (.int .i64 g) ∧ w2.frozen? ⟨w.heap.size, 2, none⟩ = false := bx (S.box 1 rfl) 2 rfl
    obtain ⟨pc3, pf3⟩ : w2.cell? ⟨w.heap.size, 3, none⟩ = some (.int .i64 m) ∧ w2.frozen? ⟨w.heap.size, 3, none⟩ = false := bx (S.box 1 rfl) 3 rfl
    obtain ⟨pc4, pf4⟩ : w2.cell? ⟨w.heap.size, 4, none⟩ = some (.string s) ∧ w2.frozen? ⟨w.heap.size, 4, none⟩ = false := bx (S.box 1 rfl) 4 rfl
    obtain ⟨pc5, pf5⟩ : w2.cell? ⟨w.heap.size, 5, none⟩ = some (.slice a1 N.length c1) ∧ w2.frozen? ⟨w.heap.size, 5, none⟩ = false := bx (S.box 1 rfl) 5 rfl
    obtain ⟨pc6, pf6⟩ : w2.cell? ⟨w.heap.size, 6, none⟩ = some (.slice a2 K.length c2) ∧ w2.frozen? ⟨w.heap.size, 6, none⟩ = false := bx (S.box 1 rfl) 6 rfl
    go_wp2_with fail
    refine (eqIntS_any a2 b2 c2 d2 K K' w2 h2 h4 (hk.ext S.ext) (hl.ext S.ext)).mono ?_
    rintro e w3 ⟨v2, rfl, hv2, hE⟩
    have Hv2 := Lib.hid hv2
    clear hv2
    clear qc0 qf0 qc1 qf1 qc2 qf2 qc3 qf3 qc4 qf4 qc5 qf5 qc6 qf6 pc0 pf0 pc1 pf1 pc2 pf2 pc3 pf3 pc4 pf4 pc5 pf5 pc6 pf6
    replace S : Sep w w3 [plBox (w.heap.size + 1) #[.bool f, .int .i64 o, .int .i64 g, .int .i64 m, .string s, .slice b1 N'.length d1, .slice b2 K'.length d2] 57, plBox w.heap.size #[.bool f, .int .i64 o, .int .i64 g, .int .i64 m, .string s, .slice a1 N.length c1, .slice a2 K.length c2] 57] := S.step hE
    clear hE
    cases v2 with
    | false =>
      go_wp2
      go_ret
      exact RetB.mk false rfl (by simp only [Bool.false_eq_true, false_iff]; exact fun h => Bool.noConfusion (Hv2.out.2 h.2)) S.ext
    | true =>
      go_wp2
      go_ret
      exact RetB.mk true rfl (by simp only [true_iff]; exact ⟨Hv1.out.1 (by trivial), Hv2.out.1 (by trivial)⟩) S.ext

theorem extNd {l m : List Nd} (hl : l.length = m.length) (h : ∀ j, j < l.length → l[j]? = m[j]?) : l = m := by
  apply List.ext_getElem?
  intro j
  by_cases hj : j < l.length
  · exact h j hj
  · rw [List.getElem?_eq_none (by omega), List.getElem?_eq_none (by omega)]
set_option maxRecDepth 10000 in
set_option maxHeartbeats 4000000 in
theorem eqNdS_any (a a' : Option Addr) (cap cap' : Nat) (T U : List Nd) (w : World) (hl : T.length ≤ 9223372036854775807) (hm : U.length ≤ 9223372036854775807) (hlt : ∀ t ∈ T, SmN 9223372036854775807 t) (hlu : ∀ t ∈ U, SmN 9223372036854775807 t) (hc : RdN w a T) (hd : RdN w a' U) :
    Calls Try.prog 19 #[.slice a T.length cap, .slice a' U.length cap'] w (RetB (T = U) w) := by
  have HLT := Lib.hid hlt
  have HLU := Lib.hid hlu
  clear hlt hlu
  by_cases hlen : T.length = U.length
  · have ht : ((T.length : Int) != (U.length : Int)) = false := by simp; omega
    have Hlen := Lib.hid hlen
    clear hlen
    go_enter Try.func19, Try.ntmps19
    go_wp2
    go_loopw [5] (fun i wr => ∃ k : Nat, k ≤ T.length ∧ i = .int .i64 k ∧ (∀ j, j < k → T[j]? = U[j]?) ∧ Ext w wr) (fun i _ => T.length - (intOf i).toNat)
    case atStart => exact ⟨0, Nat.zero_le _, rfl, fun _ h => absurd h (Nat.not_lt_zero _), Ext.refl _⟩
    case round =>
      obtain ⟨k, hk, rfl, hpre, hb⟩ := hrel
      have Hpre := Lib.hid hpre
      clear hpre ht
      by_cases hlk : k < T.length
      · have hltm : k < U.length := by have := Hlen.out; omega
        obtain ⟨x, b, off, an, cn, ak, ck, hx, rfl, c0, c1, c2, c3, c4, c5, c6, hcn, hck, hrn, hrk⟩ := atNd (hc.ext hb) hlk
        obtain ⟨y, b', off', an', cn', ak', ck', hy, rfl, d0, d1, d2, d3, d4, d5, d6, hdn, hdk, hsn, hsk⟩ := atNd (hd.ext hb) hltm
        have Hx := Lib.hid hx
        have Hy := Lib.hid hy
        have s1 := (HLT.out x (List.mem_of_getElem? hx)).2
        have s2 := (HLU.out y (List.mem_of_getElem? hy)).2
        have S1 := Lib.hid s1
        have S2 := Lib.hid s2
        have i0 : (k : Int) < (T.length : Int) := by omega
        have i1 : (k : Int) < (U.length : Int) := by omega
        clear hx hy hcn hck hdn hdk s1 s2
        go_wp2
        go_still_tail 8, (by kernel_rfl)
        change wpList _ _ _ _ _ wr.drew
        generalize hw2 : wr.drew = w2
        have hb2 : Ext w w2 := by rw [← hw2]; exact hb.drew
        have he2 : Ext wr w2 := by rw [← hw2]; exact (Ext.refl wr).drew
        clear hw2 hb c0 d0 c1 d1 c2 d2 c3 d3 c4 d4 c5 d5 c6 d6
        go_wp2_with fail
        refine (eqNd_any x y an ak an' ak' cn ck cn' ck' w2 S1.out.1 S1.out.2.2 S2.out.1 S2.out.2.2 (hrn.ext he2) (hrk.ext he2) (hsn.ext he2) (hsk.ext he2)).mono ?_
        rintro e w3 ⟨b0, rfl, he, hb3⟩
        have He := Lib.hid he
        clear he hrn hrk hsn hsk he2
        cases b0 with
        | false =>
          go_wp2
          go_ret
          exact RetB.mk false rfl (by simp only [Bool.false_eq_true, false_iff]; intro h; subst h; have h1 := Hx.out; rw [Hy.out] at h1; cases h1; exact Bool.noConfusion (He.out.2 rfl)) (hb2.trans hb3)
        | true =>
          have Hxy : Hid (x = y) := Lib.hid (He.out.1 rfl)
          go_wp2
          go_roundw
          case rel => exact ⟨k + 1, by omega, by go_num, fun j hj => (Nat.lt_succ_iff_lt_or_eq.1 hj).elim (Hpre.out j) (fun e => by rw [e, Hx.out, Hy.out, Hxy.out]), hb2.trans hb3⟩
          case measure => simp [intOf]; omega
      · go_wp2
        go_ret
        exact RetB.mk true rfl (by simp only [true_iff]; exact extNd Hlen.out (fun j hj => Hpre.out j (by omega))) hb
  · have ht : ((T.length : Int) != (U.length : Int)) = true := by simp; omega
    have Hlen := Lib.hid hlen
    clear hlen
    go_enter Try.func19, Try.ntmps19
    go_wp2
    go_ret
    exact RetB.mk false rfl (by simp only [Bool.false_eq_true, false_iff]; intro h; exact Hlen.out (by rw [h])) (Ext.refl _)
end Go.Proofs.Ytnibbldfohbfkaa

/- Kernels: contracts of the laws' functions that count, copy and compare them; credentials. Condition: rows shorter than 2^63. -/
namespace Go.Proofs.Ytnibbldfohbfkaa
open Go.RowKit

def CredOk (r a s g : Int) : Prop := inB r 0 99 = true ∧ inB a 0 99 = true ∧ inB s 0 99 = true ∧ inB g 0 255 = true
theorem l1In_is {n lo hi : Int} {b : Bool} (h : inB n lo hi = b) (w : World) : Calls Try.prog 25 #[.int .i64 n, .int .i64 lo, .int .i64 hi] w fun e w' => e = .returned (.bool b) ∧ w = w' := h ▸ l1In_any n lo hi w
theorem within_is {n lo hi : Int} {b : Bool} (h : inB n lo hi = b) (w : World) : Calls Try.prog 32 #[.int .i64 n, .int .i64 lo, .int .i64 hi] w fun e w' => e = .returned (.bool b) ∧ w = w' := h ▸ within_any n lo hi w
set_option maxHeartbeats 400000 in
theorem isUser_is {n : Int} {b : Bool} (h : inB n 0 99 = b) (w : World) : Calls Try.prog 31 #[.int .i64 n] w fun e w' => e = .returned (.bool b) ∧ w = w' := by
  go_enter Try.func31, Try.ntmps31
  go_wp2_with (go_at_call 32; refine (within_is h _).mono ?_; rintro e w' ⟨rfl, rfl⟩)
  go_ret
  exact ⟨rfl, rfl⟩

theorem cred_cases (r a s g : Int) : inB r 0 99 = false ∨ (inB r 0 99 = true ∧ inB a 0 99 = false) ∨ (inB r 0 99 = true ∧ inB a 0 99 = true ∧ inB s 0 99 = false) ∨ (inB r 0 99 = true ∧ inB a 0 99 = true ∧ inB s 0 99 = true ∧ inB g 0 255 = false) ∨ (inB r 0 99 = true ∧ inB a 0 99 = true ∧ inB s 0 99 = true ∧ inB g 0 255 = true) := by
  cases inB r 0 99 <;> cases inB a 0 99 <;> cases inB s 0 99 <;> cases inB g 0 255 <;> simp

set_option maxHeartbeats 4000000 in
theorem specCredValid (r a s g : Int) (w : World) : Calls Try.prog 14 #[.agg #[.int .i64 r, .int .i64 a, .int .i64 s, .int .i64 g]] w (RetB (CredOk r a s g) w) := by
  unfold CredOk
  rcases cred_cases r a s g with h1 | ⟨h1, h2⟩ | ⟨h1, h2, h3⟩ | ⟨h1, h2, h3, h4⟩ | ⟨h1, h2, h3, h4⟩
  all_goals
    go_enter Try.func14, Try.ntmps14
    go_wp2_with (go_at_call 25; refine (l1In_is (by assumption) _).mono ?_; rintro e w' ⟨rfl, rfl⟩)
    go_ret
    exact RetB.mk _ rfl (by simp [*]) ((Ext.refl _).alloc _)

set_option maxHeartbeats 4000000 in
theorem implCredValid (r a s g : Int) (w : World) : Calls Try.prog 18 #[.agg #[.int .i64 r, .int .i64 a, .int .i64 s, .int .i64 g]] w (RetB (CredOk r a s g) w) := by
  unfold CredOk
  rcases cred_cases r a s g with h1 | ⟨h1, h2⟩ | ⟨h1, h2, h3⟩ | ⟨h1, h2, h3, h4⟩ | ⟨h1, h2, h3, h4⟩
  all_goals
    go_enter Try.func18, Try.ntmps18
    go_wp2_with (first
      | (go_at_call 31; refine (isUser_is (by assumption) _).mono ?_; rintro e w' ⟨rfl, rfl⟩)
      | (go_at_call 32; refine (within_is (by assumption) _).mono ?_; rintro e w' ⟨rfl, rfl⟩))
    go_ret
    exact RetB.mk _ rfl (by simp [*]) ((Ext.refl _).alloc _)

set_option maxHeartbeats 1000000 in
theorem toCred_any (r a s g : Int) (w : World) : Calls Try.prog 16 #[.agg #[.int .i64 r, .int .i64 a, .int .i64 s, .int .i64 g]] w (RetV (fun v _ => v = .agg #[.int .i64 r, .int .i64 a, .int .i64 s, .int .i64 g]) w) := by
  go_enter Try.func16, Try.ntmps16
  go_wp2
  exact bodyPost_ret (v := .agg #[.int .i64 r, .int .i64 a, .int .i64 s, .int .i64 g]) (by simp [results, Try.results16, go_sem]) rfl (RetV.mk rfl ((((Ext.refl _).alloc _).alloc _).alloc _))

set_option maxHeartbeats 1000000 in
theorem eqCred_any (r a s g r' a' s' g' : Int) (w : World) : Calls Try.prog 20 #[.agg #[.int .i64 r, .int .i64 a, .int .i64 s, .int .i64 g], .agg #[.int .i64 r', .int .i64 a', .int .i64 s', .int .i64 g']] w (RetB (r = r' ∧ a = a' ∧ s = s' ∧ g = g') w) := by
  go_enter Try.func20, Try.ntmps20
  go_wp2
  all_goals
    go_ret
    refine RetB.mk _ rfl ?_ (((Ext.refl _).alloc _).alloc _)
    simp_all

set_option maxHeartbeats 1000000 in
theorem szKer_any (at_ : Option Addr) (cap : Nat) (T : List Nd) (r a s g left : Int) (w : World) (h0 : 0 ≤ left) (h1 : left ≤ 1048576) (hl : T.length ≤ 9223372036854775807) (hs : ∀ x ∈ T, SmN 9223372036854775807 x) (hc : RdN w at_ T) :
    Calls Try.prog 5 #[.agg #[.slice at_ T.length cap, .int .i64 r, .int .i64 a, .int .i64 s, .int .i64 g], .int .i64 left] w (RetSz left (fun _ => T.length ≤ 1048576 ∧ ∀ x ∈ T, SmN 1048576 x) w) := by
  have HS := Lib.hid hs
  clear hs
  go_enter Try.func5, Try.ntmps5
  have S := Sep.start w
  replace S : Sep w (w.alloc (.cells #[.slice at_ T.length cap, .int .i64 r, .int .i64 a, .int .i64 s, .int .i64 g] 26)) [plBox w.heap.size #[.slice at_ T.length cap, .int .i64 r, .int .i64 a, .int .i64 s, .int .i64 g] 26] := S.alloc_at (by simp) _ _
  go_wp2_with fail
  generalize (w.alloc (.cells #[.slice at_ T.length cap, .int .i64 r, .int .i64 a, .int .i64 s, .int .i64 g] 26)) = w1 at *
  refine (szNdS_any at_ cap T left w1 h0 h1 hl HS.out (hc.ext S.ext)).mono ?_
  rintro e w2 ⟨q, rfl, hra, hrb, hrc, hE⟩
  have Hrc := Lib.hid hrc
  clear hrc
  replace S : Sep w w2 [plBox w.heap.size #[.slice at_ T.length cap, .int .i64 r, .int .i64 a, .int .i64 s, .int .i64 g] 26] := S.step hE
  clear hE
  by_cases hneg : q < 0
  · go_wp2
    go_ret
    exact RetSz.mk rfl (by omega) (by omega) (fun h => absurd h (by omega)) S.ext
  · go_wp2
    go_ret
    exact RetSz.mk rfl (by omega) (by omega) (fun _ => Hrc.out (by omega)) S.ext

set_option maxHeartbeats 2000000 in
theorem toKer_any (at_ : Option Addr) (cap : Nat) (T : List Nd) (r a s g : Int) (w : World) (hl : T.length ≤ 1048576) (hs : ∀ x ∈ T, SmN 1048576 x) (hc : RdN w at_ T) :
    Calls Try.prog 7 #[.agg #[.slice at_ T.length cap, .int .i64 r, .int .i64 a, .int .i64 s, .int .i64 g]] w fun e w' => ∃ a1 c1 vs, e = .returned (.agg #[.slice a1 T.length c1, .int .i64 r, .int .i64 a, .int .i64 s, .int .i64 g]) ∧ T.length ≤ c1 ∧ Sep w w' [plNd (.slice a1 T.length c1) vs T] := by
  have HS := Lib.hid hs
  clear hs
  go_enter Try.func7, Try.ntmps7
  have S := Sep.start w
  replace S : Sep w (w.alloc (.cells #[.slice at_ T.length cap, .int .i64 r, .int .i64 a, .int .i64 s, .int .i64 g] 26)) [plBox w.heap.size #[.slice at_ T.length cap, .int .i64 r, .int .i64 a, .int .i64 s, .int .i64 g] 26] := S.alloc_at (by simp) _ _
  replace S : Sep w ((w.alloc (.cells #[.slice at_ T.length cap, .int .i64 r, .int .i64 a, .int .i64 s, .int .i64 g] 26)).alloc (.cells #[.slice none 0 0, .int .i64 0, .int .i64 0, .int .i64 0, .int .i64 0] 32)) [plBox (w.heap.size + 1) #[.slice none 0 0, .int .i64 0, .int .i64 0, .int .i64 0, .int .i64 0] 32, plBox w.heap.size #[.slice at_ T.length cap, .int .i64 r, .int .i64 a, .int .i64 s, .int .i64 g] 26] := S.alloc_at (by simp) _ _
  replace S : Sep w (((w.alloc (.cells #[.slice at_ T.length cap, .int .i64 r, .int .i64 a, .int .i64 s, .int .i64 g] 26)).alloc (.cells #[.slice none 0 0, .int .i64 0, .int .i64 0, .int .i64 0, .int .i64 0] 32)).alloc (.cells #[.slice none 0 0, .int .i64 0, .int .i64 0, .int .i64 0, .int .i64 0] 32)) [plBox (w.heap.size + 2) #[.slice none 0 0, .int .i64 0, .int .i64 0, .int .i64 0, .int .i64 0] 32, plBox (w.heap.size + 1) #[.slice none 0 0, .int .i64 0, .int .i64 0, .int .i64 0, .int .i64 0] 32, plBox w.heap.size #[.slice at_ T.length cap, .int .i64 r, .int .i64 a, .int .i64 s, .int .i64 g] 26] := S.alloc_at (by simp) _ _
  go_wp2_with fail
  generalize (((w.alloc (.cells #[.slice at_ T.length cap, .int .i64 r, .int .i64 a, .int .i64 s, .int .i64 g] 26)).alloc (.cells #[.slice none 0 0, .int .i64 0, .int .i64 0, .int .i64 0, .int .i64 0] 32)).alloc (.cells #[.slice none 0 0, .int .i64 0, .int .i64 0, .int .i64 0, .int .i64 0] 32)) = w1 at *
  refine (toNdS_any at_ cap T w1 hl HS.out (hc.ext S.ext)).mono ?_
  rintro e w2 ⟨vs, rfl, U⟩
  generalize w1.heap.size = q at *
  replace S : Sep w w2 [plNd (.slice (some ⟨q, 0, none⟩) T.length T.length) vs T, plBox (w.heap.size + 2) #[.slice none 0 0, .int .i64 0, .int .i64 0, .int .i64 0, .int .i64 0] 32, plBox (w.heap.size + 1) #[.slice none 0 0, .int .i64 0, .int .i64 0, .int .i64 0, .int .i64 0] 32, plBox w.heap.size #[.slice at_ T.length cap, .int .i64 r, .int .i64 a, .int .i64 s, .int .i64 g] 26] := S.call U
  clear U
  obtain ⟨obc0, obf0⟩ : w2.cell? ⟨(w.heap.size + 2), 0, none⟩ = some (.slice none 0 0) ∧ w2.frozen? ⟨(w.heap.size + 2), 0, none⟩ = false := bx (S.box 1 rfl) 0 rfl
  obtain ⟨obc1, obf1⟩ : w2.cell? ⟨(w.heap.size + 2), 1, none⟩ = some (.int .i64 0) ∧ w2.frozen? ⟨(w.heap.size + 2), 1, none⟩ = false := bx (S.box 1 rfl) 1 rfl
  obtain ⟨obc2, obf2⟩ : w2.cell? ⟨(w.heap.size + 2), 2, none⟩ = some (.int .i64 0) ∧ w2.frozen? ⟨(w.heap.size + 2), 2, none⟩ = false := bx (S.box 1 rfl) 2 rfl
  obtain ⟨obc3, obf3⟩ : w2.cell? ⟨(w.heap.size + 2), 3, none⟩ = some (.int .i64 0) ∧ w2.frozen? ⟨(w.heap.size + 2), 3, none⟩ = false := bx (S.box 1 rfl) 3 rfl
  obtain ⟨obc4, obf4⟩ : w2.cell? ⟨(w.heap.size + 2), 4, none⟩ = some (.int .i64 0) ∧ w2.frozen? ⟨(w.heap.size + 2), 4, none⟩ = false := bx (S.box 1 rfl) 4 rfl
  obtain ⟨rbc0, rbf0⟩ : w2.cell? ⟨(w.heap.size + 1), 0, none⟩ = some (.slice none 0 0) ∧ w2.frozen? ⟨(w.heap.size + 1), 0, none⟩ = false := bx (S.box 2 rfl) 0 rfl
  obtain ⟨rbc1, rbf1⟩ : w2.cell? ⟨(w.heap.size + 1), 1, none⟩ = some (.int .i64 0) ∧ w2.frozen? ⟨(w.heap.size + 1), 1, none⟩ = false := bx (S.box 2 rfl) 1 rfl
  obtain ⟨rbc2, rbf2⟩ : w2.cell? ⟨(w.heap.size + 1), 2, none⟩ = some (.int .i64 0) ∧ w2.frozen? ⟨(w.heap.size + 1), 2, none⟩ = false := bx (S.box 2 rfl) 2 rfl
  obtain ⟨rbc3, rbf3⟩ : w2.cell? ⟨(w.heap.size + 1), 3, none⟩ = some (.int .i64 0) ∧ w2.frozen? ⟨(w.heap.size + 1), 3, none⟩ = false := bx (S.box 2 rfl) 3 rfl
  obtain ⟨rbc4, rbf4⟩ : w2.cell? ⟨(w.heap.size + 1), 4, none⟩ = some (.int .i64 0) ∧ w2.frozen? ⟨(w.heap.size + 1), 4, none⟩ = false := bx (S.box 2 rfl) 4 rfl
  obtain ⟨a0c0, a0f0⟩ : w2.cell? ⟨w.heap.size, 0, none⟩ = some (.slice at_ T.length cap) ∧ w2.frozen? ⟨w.heap.size, 0, none⟩ = false := bx (S.box 3 rfl) 0 rfl
  obtain ⟨a0c1, a0f1⟩ : w2.cell? ⟨w.heap.size, 1, none⟩ = some (.int .i64 r) ∧ w2.frozen? ⟨w.heap.size, 1, none⟩ = false := bx (S.box 3 rfl) 1 rfl
  obtain ⟨a0c2, a0f2⟩ : w2.cell? ⟨w.heap.size, 2, none⟩ = some (.int .i64 a) ∧ w2.frozen? ⟨w.heap.size, 2, none⟩ = false := bx (S.box 3 rfl) 2 rfl
  obtain ⟨a0c3, a0f3⟩ : w2.cell? ⟨w.heap.size, 3, none⟩ = some (.int .i64 s) ∧ w2.frozen? ⟨w.heap.size, 3, none⟩ = false := bx (S.box 3 rfl) 3 rfl
  obtain ⟨a0c4, a0f4⟩ : w2.cell? ⟨w.heap.size, 4, none⟩ = some (.int .i64 g) ∧ w2.frozen? ⟨w.heap.size, 4, none⟩ = false := bx (S.box 3 rfl) 4 rfl
  go_wp2_with fail
  clear obc0 obf0 obc1 obf1 obc2 obf2 obc3 obf3 obc4 obf4 rbc0 rbf0 rbc1 rbf1 rbc2 rbf2 rbc3 rbf3 rbc4 rbf4 a0c0 a0f0 a0c1 a0f1 a0c2 a0f2 a0c3 a0f3 a0c4 a0f4
  replace S : Sep w (w2.setCell ⟨(w.heap.size + 2), 0, none⟩ (.slice (some ⟨q, 0, none⟩) T.length T.length)) [plNd (.slice (some ⟨q, 0, none⟩) T.length T.length) vs T, plBox (w.heap.size + 2) #[.slice (some ⟨q, 0, none⟩) T.length T.length, .int .i64 0, .int .i64 0, .int .i64 0, .int .i64 0] 32, plBox (w.heap.size + 1) #[.slice none 0 0, .int .i64 0, .int .i64 0, .int .i64 0, .int .i64 0] 32, plBox w.heap.size #[.slice at_ T.length cap, .int .i64 r, .int .i64 a, .int .i64 s, .int .i64 g] 26] := S.set 1 rfl 0 _
  generalize (w2.setCell ⟨(w.heap.size + 2), 0, none⟩ (.slice (some ⟨q, 0, none⟩) T.length T.length)) = w3 at *
  refine (toCred_any r a s g w3).mono ?_
  rintro e w4 ⟨v, rfl, rfl, hE⟩
  replace S : Sep w w4 [plNd (.slice (some ⟨q, 0, none⟩) T.length T.length) vs T, plBox (w.heap.size + 2) #[.slice (some ⟨q, 0, none⟩) T.length T.length, .int .i64 0, .int .i64 0, .int .i64 0, .int .i64 0] 32, plBox (w.heap.size + 1) #[.slice none 0 0, .int .i64 0, .int .i64 0, .int .i64 0, .int .i64 0] 32, plBox w.heap.size #[.slice at_ T.length cap, .int .i64 r, .int .i64 a, .int .i64 s, .int .i64 g] 26] := S.step hE
  clear hE
  obtain ⟨obc0, obf0⟩ : w4.cell? ⟨(w.heap.size + 2), 0, none⟩ = some (.slice (some ⟨q, 0, none⟩) T.length T.length) ∧ w4.frozen? ⟨(w.heap.size + 2), 0, none⟩ = false := bx (S.box 1 rfl) 0 rfl
  obtain ⟨obc1, obf1⟩ : w4.cell? ⟨(w.heap.size + 2), 1, none⟩ = some (.int .i64 0) ∧ w4.frozen? ⟨(w.heap.size + 2), 1, none⟩ = false := bx (S.box 1 rfl) 1 rfl
  obtain ⟨obc2, obf2⟩ : w4.cell? ⟨(w.heap.size + 2), 2, none⟩ = some (.int .i64 0) ∧ w4.frozen? ⟨(w.heap.size + 2), 2, none⟩ = false := bx (S.box 1 rfl) 2 rfl
  obtain ⟨obc3, obf3⟩ : w4.cell? ⟨(w.heap.size + 2), 3, none⟩ = some (.int .i64 0) ∧ w4.frozen? ⟨(w.heap.size + 2), 3, none⟩ = false := bx (S.box 1 rfl) 3 rfl
  obtain ⟨obc4, obf4⟩ : w4.cell? ⟨(w.heap.size + 2), 4, none⟩ = some (.int .i64 0) ∧ w4.frozen? ⟨(w.heap.size + 2), 4, none⟩ = false := bx (S.box 1 rfl) 4 rfl
  obtain ⟨rbc0, rbf0⟩ : w4.cell? ⟨(w.heap.size + 1), 0, none⟩ = some (.slice none 0 0) ∧ w4.frozen? ⟨(w.heap.size + 1), 0, none⟩ = false := bx (S.box 2 rfl) 0 rfl
  obtain ⟨rbc1, rbf1⟩ : w4.cell? ⟨(w.heap.size + 1), 1, none⟩ = some (.int .i64 0) ∧ w4.frozen? ⟨(w.heap.size + 1), 1, none⟩ = false := bx (S.box 2 rfl) 1 rfl
  obtain ⟨rbc2, rbf2⟩ : w4.cell? ⟨(w.heap.size + 1), 2, none⟩ = some (.int .i64 0) ∧ w4.frozen? ⟨(w.heap.size + 1), 2, none⟩ = false := bx (S.box 2 rfl) 2 rfl
  obtain ⟨rbc3, rbf3⟩ : w4.cell? ⟨(w.heap.size + 1), 3, none⟩ = some (.int .i64 0) ∧ w4.frozen? ⟨(w.heap.size + 1), 3, none⟩ = false := bx (S.box 2 rfl) 3 rfl
  obtain ⟨rbc4, rbf4⟩ : w4.cell? ⟨(w.heap.size + 1), 4, none⟩ = some (.int .i64 0) ∧ w4.frozen? ⟨(w.heap.size + 1), 4, none⟩ = false := bx (S.box 2 rfl) 4 rfl
  obtain ⟨a0c0, a0f0⟩ : w4.cell? ⟨w.heap.size, 0, none⟩ = some (.slice at_ T.length cap) ∧ w4.frozen? ⟨w.heap.size, 0, none⟩ = false := bx (S.box 3 rfl) 0 rfl
  obtain ⟨a0c1, a0f1⟩ : w4.cell? ⟨w.heap.size, 1, none⟩ = some (.int .i64 r) ∧ w4.frozen? ⟨w.heap.size, 1, none⟩ = false := bx (S.box 3 rfl) 1 rfl
  obtain ⟨a0c2, a0f2⟩ : w4.cell? ⟨w.heap.size, 2, none⟩ = some (.int .i64 a) ∧ w4.frozen? ⟨w.heap.size, 2, none⟩ = false := bx (S.box 3 rfl) 2 rfl
  obtain ⟨a0c3, a0f3⟩ : w4.cell? ⟨w.heap.size, 3, none⟩ = some (.int .i64 s) ∧ w4.frozen? ⟨w.heap.size, 3, none⟩ = false := bx (S.box 3 rfl) 3 rfl
  obtain ⟨a0c4, a0f4⟩ : w4.cell? ⟨w.heap.size, 4, none⟩ = some (.int .i64 g) ∧ w4.frozen? ⟨w.heap.size, 4, none⟩ = false := bx (S.box 3 rfl) 4 rfl
  go_wp2
  try simp only [Exit.inBlock, Exit.then]
  refine bodyPost_ret (v := .agg #[.slice (some ⟨q, 0, none⟩) T.length T.length, .int .i64 r, .int .i64 a, .int .i64 s, .int .i64 g]) (by simp [results, Try.results7, go_sem, rbc0, rbc1, rbc2, rbc3, rbc4, obc0, obc1, obc2, obc3, obc4]) rfl ?_
  replace S : Sep w (w4.setCell ⟨(w.heap.size + 2), 1, none⟩ (.int .i64 r)) [plNd (.slice (some ⟨q, 0, none⟩) T.length T.length) vs T, plBox (w.heap.size + 2) #[.slice (some ⟨q, 0, none⟩) T.length T.length, .int .i64 r, .int .i64 0, .int .i64 0, .int .i64 0] 32, plBox (w.heap.size + 1) #[.slice none 0 0, .int .i64 0, .int .i64 0, .int .i64 0, .int .i64 0] 32, plBox w.heap.size #[.slice at_ T.length cap, .int .i64 r, .int .i64 a, .int .i64 s, .int .i64 g] 26] := S.set 1 rfl 1 _
  replace S : Sep w ((w4.setCell ⟨(w.heap.size + 2), 1, none⟩ (.int .i64 r)).setCell ⟨(w.heap.size + 2), 2, none⟩ (.int .i64 a)) [plNd (.slice (some ⟨q, 0, none⟩) T.length T.length) vs T, plBox (w.heap.size + 2) #[.slice (some ⟨q, 0, none⟩) T.length T.length, .int .i64 r, .int .i64 a, .int .i64 0, .int .i64 0] 32, plBox (w.heap.size + 1) #[.slice none 0 0, .int .i64 0, .int .i64 0, .int .i64 0, .int .i64 0] 32, plBox w.heap.size #[.slice at_ T.length cap, .int .i64 r, .int .i64 a, .int .i64 s, .int .i64 g] 26] := S.set 1 rfl 2 _
  replace S : Sep w (((w4.setCell ⟨(w.heap.size + 2), 1, none⟩ (.int .i64 r)).setCell ⟨(w.heap.size + 2), 2, none⟩ (.int .i64 a)).setCell ⟨(w.heap.size + 2), 3, none⟩ (.int .i64 s)) [plNd (.slice (some ⟨q, 0, none⟩) T.length T.length) vs T, plBox (w.heap.size + 2) #[.slice (some ⟨q, 0, none⟩) T.length T.length, .int .i64 r, .int .i64 a, .int .i64 s, .int .i64 0] 32, plBox (w.heap.size + 1) #[.slice none 0 0, .int .i64 0, .int .i64 0, .int .i64 0, .int .i64 0] 32, plBox w.heap.size #[.slice at_ T.length cap, .int .i64 r, .int .i64 a, .int .i64 s, .int .i64 g] 26] := S.set 1 rfl 3 _
  replace S : Sep w ((((w4.setCell ⟨(w.heap.size + 2), 1, none⟩ (.int .i64 r)).setCell ⟨(w.heap.size + 2), 2, none⟩ (.int .i64 a)).setCell ⟨(w.heap.size + 2), 3, none⟩ (.int .i64 s)).setCell ⟨(w.heap.size + 2), 4, none⟩ (.int .i64 g)) [plNd (.slice (some ⟨q, 0, none⟩) T.length T.length) vs T, plBox (w.heap.size + 2) #[.slice (some ⟨q, 0, none⟩) T.length T.length, .int .i64 r, .int .i64 a, .int .i64 s, .int .i64 g] 32, plBox (w.heap.size + 1) #[.slice none 0 0, .int .i64 0, .int .i64 0, .int .i64 0, .int .i64 0] 32, plBox w.heap.size #[.slice at_ T.length cap, .int .i64 r, .int .i64 a, .int .i64 s, .int .i64 g] 26] := S.set 1 rfl 4 _
  replace S : Sep w (((((w4.setCell ⟨(w.heap.size + 2), 1, none⟩ (.int .i64 r)).setCell ⟨(w.heap.size + 2), 2, none⟩ (.int .i64 a)).setCell ⟨(w.heap.size + 2), 3, none⟩ (.int .i64 s)).setCell ⟨(w.heap.size + 2), 4, none⟩ (.int .i64 g)).setCell ⟨(w.heap.size + 1), 0, none⟩ (.slice (some ⟨q, 0, none⟩) T.length T.length)) [plNd (.slice (some ⟨q, 0, none⟩) T.length T.length) vs T, plBox (w.heap.size + 2) #[.slice (some ⟨q, 0, none⟩) T.length T.length, .int .i64 r, .int .i64 a, .int .i64 s, .int .i64 g] 32, plBox (w.heap.size + 1) #[.slice (some ⟨q, 0, none⟩) T.length T.length, .int .i64 0, .int .i64 0, .int .i64 0, .int .i64 0] 32, plBox w.heap.size #[.slice at_ T.length cap, .int .i64 r, .int .i64 a, .int .i64 s, .int .i64 g] 26] := S.set 2 rfl 0 _
  replace S : Sep w ((((((w4.setCell ⟨(w.heap.size + 2), 1, none⟩ (.int .i64 r)).setCell ⟨(w.heap.size + 2), 2, none⟩ (.int .i64 a)).setCell ⟨(w.heap.size + 2), 3, none⟩ (.int .i64 s)).setCell ⟨(w.heap.size + 2), 4, none⟩ (.int .i64 g)).setCell ⟨(w.heap.size + 1), 0, none⟩ (.slice (some ⟨q, 0, none⟩) T.length T.length)).setCell ⟨(w.heap.size + 1), 1, none⟩ (.int .i64 r)) [plNd (.slice (some ⟨q, 0, none⟩) T.length T.length) vs T, plBox (w.heap.size + 2) #[.slice (some ⟨q, 0, none⟩) T.length T.length, .int .i64 r, .int .i64 a, .int .i64 s, .int .i64 g] 32, plBox (w.heap.size + 1) #[.slice (some ⟨q, 0, none⟩) T.length T.length, .int .i64 r, .int .i64 0, .int .i64 0, .int .i64 0] 32, plBox w.heap.size #[.slice at_ T.length cap, .int .i64 r, .int .i64 a, .int .i64 s, .int .i64 g] 26] := S.set 2 rfl 1 _
  replace S : Sep w (((((((w4.setCell ⟨(w.heap.size + 2), 1, none⟩ (.int .i64 r)).setCell ⟨(w.heap.size + 2), 2, none⟩ (.int .i64 a)).setCell ⟨(w.heap.size + 2), 3, none⟩ (.int .i64 s)).setCell ⟨(w.heap.size + 2), 4, none⟩ (.int .i64 g)).setCell ⟨(w.heap.size + 1), 0, none⟩ (.slice (some ⟨q, 0, none⟩) T.length T.length)).setCell ⟨(w.heap.size + 1), 1, none⟩ (.int .i64 r)).setCell ⟨(w.heap.size + 1), 2, none⟩ (.int .i64 a)) [plNd (.slice (some ⟨q, 0, none⟩) T.length T.length) vs T, plBox (w.heap.size + 2) #[.slice (some ⟨q, 0, none⟩) T.length T.length, .int .i64 r, .int .i64 a, .int .i64 s, .int .i64 g] 32, plBox (w.heap.size + 1) #[.slice (some ⟨q, 0, none⟩) T.length T.length, .int .i64 r, .int .i64 a, .int .i64 0, .int .i64 0] 32, plBox w.heap.size #[.slice at_ T.length cap, .int .i64 r, .int .i64 a, .int .i64 s, .int .i64 g] 26] := S.set 2 rfl 2 _
  replace S : Sep w ((((((((w4.setCell ⟨(w.heap.size + 2), 1, none⟩ (.int .i64 r)).setCell ⟨(w.heap.size + 2), 2, none⟩ (.int .i64 a)).setCell ⟨(w.heap.size + 2), 3, none⟩ (.int .i64 s)).setCell ⟨(w.heap.size + 2), 4, none⟩ (.int .i64 g)).setCell ⟨(w.heap.size + 1), 0, none⟩ (.slice (some ⟨q, 0, none⟩) T.length T.length)).setCell ⟨(w.heap.size + 1), 1, none⟩ (.int .i64 r)).setCell ⟨(w.heap.size + 1), 2, none⟩ (.int .i64 a)).setCell ⟨(w.heap.size + 1), 3, none⟩ (.int .i64 s)) [plNd (.slice (some ⟨q, 0, none⟩) T.length T.length) vs T, plBox (w.heap.size + 2) #[.slice (some ⟨q, 0, none⟩) T.length T.length, .int .i64 r, .int .i64 a, .int .i64 s, .int .i64 g] 32, plBox (w.heap.size + 1) #[.slice (some ⟨q, 0, none⟩) T.length T.length, .int .i64 r, .int .i64 a, .int .i64 s, .int .i64 0] 32, plBox w.heap.size #[.slice at_ T.length cap, .int .i64 r, .int .i64 a, .int .i64 s, .int .i64 g] 26] := S.set 2 rfl 3 _
  replace S : Sep w (((((((((w4.setCell ⟨(w.heap.size + 2), 1, none⟩ (.int .i64 r)).setCell ⟨(w.heap.size + 2), 2, none⟩ (.int .i64 a)).setCell ⟨(w.heap.size + 2), 3, none⟩ (.int .i64 s)).setCell ⟨(w.heap.size + 2), 4, none⟩ (.int .i64 g)).setCell ⟨(w.heap.size + 1), 0, none⟩ (.slice (some ⟨q, 0, none⟩) T.length T.length)).setCell ⟨(w.heap.size + 1), 1, none⟩ (.int .i64 r)).setCell ⟨(w.heap.size + 1), 2, none⟩ (.int .i64 a)).setCell ⟨(w.heap.size + 1), 3, none⟩ (.int .i64 s)).setCell ⟨(w.heap.size + 1), 4, none⟩ (.int .i64 g)) [plNd (.slice (some ⟨q, 0, none⟩) T.length T.length) vs T, plBox (w.heap.size + 2) #[.slice (some ⟨q, 0, none⟩) T.length T.length, .int .i64 r, .int .i64 a, .int .i64 s, .int .i64 g] 32, plBox (w.heap.size + 1) #[.slice (some ⟨q, 0, none⟩) T.length T.length, .int .i64 r, .int .i64 a, .int .i64 s, .int .i64 g] 32, plBox w.heap.size #[.slice at_ T.length cap, .int .i64 r, .int .i64 a, .int .i64 s, .int .i64 g] 26] := S.set 2 rfl 4 _
  replace S : Sep w (((((((((w4.setCell ⟨(w.heap.size + 2), 1, none⟩ (.int .i64 r)).setCell ⟨(w.heap.size + 2), 2, none⟩ (.int .i64 a)).setCell ⟨(w.heap.size + 2), 3, none⟩ (.int .i64 s)).setCell ⟨(w.heap.size + 2), 4, none⟩ (.int .i64 g)).setCell ⟨(w.heap.size + 1), 0, none⟩ (.slice (some ⟨q, 0, none⟩) T.length T.length)).setCell ⟨(w.heap.size + 1), 1, none⟩ (.int .i64 r)).setCell ⟨(w.heap.size + 1), 2, none⟩ (.int .i64 a)).setCell ⟨(w.heap.size + 1), 3, none⟩ (.int .i64 s)).setCell ⟨(w.heap.size + 1), 4, none⟩ (.int .i64 g)) [plNd (.slice (some ⟨q, 0, none⟩) T.length T.length) vs T, plBox (w.heap.size + 1) #[.slice (some ⟨q, 0, none⟩) T.length T.length, .int .i64 r, .int .i64 a, .int .i64 s, .int .i64 g] 32, plBox w.heap.size #[.slice at_ T.length cap, .int .i64 r, .int .i64 a, .int .i64 s, .int .i64 g] 26] := S.drop 1
  replace S : Sep w (((((((((w4.setCell ⟨(w.heap.size + 2), 1, none⟩ (.int .i64 r)).setCell ⟨(w.heap.size + 2), 2, none⟩ (.int .i64 a)).setCell ⟨(w.heap.size + 2), 3, none⟩ (.int .i64 s)).setCell ⟨(w.heap.size + 2), 4, none⟩ (.int .i64 g)).setCell ⟨(w.heap.size + 1), 0, none⟩ (.slice (some ⟨q, 0, none⟩) T.length T.length)).setCell ⟨(w.heap.size + 1), 1, none⟩ (.int .i64 r)).setCell ⟨(w.heap.size + 1), 2, none⟩ (.int .i64 a)).setCell ⟨(w.heap.size + 1), 3, none⟩ (.int .i64 s)).setCell ⟨(w.heap.size + 1), 4, none⟩ (.int .i64 g)) [plNd (.slice (some ⟨q, 0, none⟩) T.length T.length) vs T, plBox w.heap.size #[.slice at_ T.length cap, .int .i64 r, .int .i64 a, .int .i64 s, .int .i64 g] 26] := S.drop 1
  replace S : Sep w (((((((((w4.setCell ⟨(w.heap.size + 2), 1, none⟩ (.int .i64 r)).setCell ⟨(w.heap.size + 2), 2, none⟩ (.int .i64 a)).setCell ⟨(w.heap.size + 2), 3, none⟩ (.int .i64 s)).setCell ⟨(w.heap.size + 2), 4, none⟩ (.int .i64 g)).setCell ⟨(w.heap.size + 1), 0, none⟩ (.slice (some ⟨q, 0, none⟩) T.length T.length)).setCell ⟨(w.heap.size + 1), 1, none⟩ (.int .i64 r)).setCell ⟨(w.heap.size + 1), 2, none⟩ (.int .i64 a)).setCell ⟨(w.heap.size + 1), 3, none⟩ (.int .i64 s)).setCell ⟨(w.heap.size + 1), 4, none⟩ (.int .i64 g)) [plNd (.slice (some ⟨q, 0, none⟩) T.length T.length) vs T] := S.drop 1
  exact ⟨_, _, vs, rfl, Nat.le_refl _, S⟩

set_option maxHeartbeats 2000000 in
theorem eqKer_any (a1 b1 : Option Addr) (c1 d1 : Nat) (T U : List Nd) (r a s g r' a' s' g' : Int) (w : World) (hl : T.length ≤ 9223372036854775807) (hm : U.length ≤ 9223372036854775807) (hlt : ∀ t ∈ T, SmN 9223372036854775807 t) (hlu : ∀ t ∈ U, SmN 9223372036854775807 t) (hc : RdN w a1 T) (hd : RdN w b1 U) :
    Calls Try.prog 9 #[.agg #[.slice a1 T.length c1, .int .i64 r, .int .i64 a, .int .i64 s, .int .i64 g], .agg #[.slice b1 U.length d1, .int .i64 r', .int .i64 a', .int .i64 s', .int .i64 g']] w (RetB (T = U ∧ r = r' ∧ a = a' ∧ s = s' ∧ g = g') w) := by
  have HLT := Lib.hid hlt
  have HLU := Lib.hid hlu
  clear hlt hlu
  go_enter Try.func9, Try.ntmps9
  have S := Sep.start w
  replace S : Sep w (w.alloc (.cells #[.slice a1 T.length c1, .int .i64 r, .int .i64 a, .int .i64 s, .int .i64 g] 32)) [plBox w.heap.size #[.slice a1 T.length c1, .int .i64 r, .int .i64 a, .int .i64 s, .int .i64 g] 32] := S.alloc_at (by simp) _ _
  replace S : Sep w ((w.alloc (.cells #[.slice a1 T.length c1, .int .i64 r, .int .i64 a, .int .i64 s, .int .i64 g] 32)).alloc (.cells #[.slice b1 U.length d1, .int .i64 r', .int .i64 a', .int .i64 s', .int .i64 g'] 32)) [plBox (w.heap.size + 1) #[.slice b1 U.length d1, .int .i64 r', .int .i64 a', .int .i64 s', .int .i64 g'] 32, plBox w.heap.size #[.slice a1 T.length c1, .int .i64 r, .int .i64 a, .int .i64 s, .int .i64 g] 32] := S.alloc_at (by simp) _ _
  go_wp2_with fail
  generalize ((w.alloc (.cells #[.slice a1 T.length c1, .int .i64 r, .int .i64 a, .int .i64 s, .int .i64 g] 32)).alloc (.cells #[.slice b1 U.length d1, .int .i64 r', .int .i64 a', .int .i64 s', .int .i64 g'] 32)) = w1 at *
  refine (eqNdS_any a1 b1 c1 d1 T U w1 hl hm HLT.out HLU.out (hc.ext S.ext) (hd.ext S.ext)).mono ?_
  rintro e w2 ⟨v1, rfl, hv1, hE⟩
  have Hv1 := Lib.hid hv1
  clear hv1
  replace S : Sep w w2 [plBox (w.heap.size + 1) #[.slice b1 U.length d1, .int .i64 r', .int .i64 a', .int .i64 s', .int .i64 g'] 32, plBox w.heap.size #[.slice a1 T.length c1, .int .i64 r, .int .i64 a, .int .i64 s, .int .i64 g] 32] := S.step hE
  clear hE
  cases v1 with
  | false =>
    go_wp2
    go_ret
    exact RetB.mk false rfl (by simp only [Bool.false_eq_true, false_iff]; exact fun h => Bool.noConfusion (Hv1.out.2 h.1)) S.ext
  | true =>
    obtain ⟨qc0, qf0⟩ : w2.cell? ⟨(w.heap.size + 1), 0, none⟩ = some (.slice b1 U.length d1) ∧ w2.frozen? ⟨(w.heap.size + 1), 0, none⟩ = false := bx (S.box 0 rfl) 0 rfl
    obtain ⟨qc1, qf1⟩ : w2.cell? ⟨(w.heap.size + 1), 1, none⟩ = some (.int .i64 r') ∧ w2.frozen? ⟨(w.heap.size + 1), 1, none⟩ = false := bx (S.box 0 rfl) 1 rfl
    obtain ⟨qc2, qf2⟩ : w2.cell? ⟨(w.heap.size + 1), 2, none⟩ = some (.int .i64 a') ∧ w2.frozen? ⟨(w.heap.size + 1), 2, none⟩ = false := bx (S.box 0 rfl) 2 rfl
    obtain ⟨qc3, qf3⟩ : w2.cell? ⟨(w.heap.size + 1), 3, none⟩ = some (.int .i64 s') ∧ w2.frozen? ⟨(w.heap.size + 1), 3, none⟩ = false := bx (S.box 0 rfl) 3 rfl
    obtain ⟨qc4, qf4⟩ : w2.cell? ⟨(w.heap.size + 1), 4, none⟩ = some (.int .i64 g') ∧ w2.frozen? ⟨(w.heap.size + 1), 4, none⟩ = false := bx (S.box 0 rfl) 4 rfl
    obtain ⟨pc0, pf0⟩ : w2.cell? ⟨w.heap.size, 0, none⟩ = some (.slice a1 T.length c1) ∧ w2.frozen? ⟨w.heap.size, 0, none⟩ = false := bx (S.box 1 rfl) 0 rfl
    obtain ⟨pc1, pf1⟩ : w2.cell? ⟨w.heap.size, 1, none⟩ = some (.int .i64 r) ∧ w2.frozen? ⟨w.heap.size, 1, none⟩ = false := bx (S.box 1 rfl) 1 rfl
    obtain ⟨pc2, pf2⟩ : w2.cell? ⟨w.heap.size, 2, none⟩ = some (.int .i64 a) ∧ w2.frozen? ⟨w.heap.size, 2, none⟩ = false := bx (S.box 1 rfl) 2 rfl
    obtain ⟨pc3, pf3⟩ : w2.cell? ⟨w.heap.size, 3, none⟩ = some (.int .i64 s) ∧ w2.frozen? ⟨w.heap.size, 3, none⟩ = false := bx (S.box 1 rfl) 3 rfl
    obtain ⟨pc4, pf4⟩ : w2.cell? ⟨w.heap.size, 4, none⟩ = some (.int .i64 g) ∧ w2.frozen? ⟨w.heap.size, 4, none⟩ = false := bx (S.box 1 rfl) 4 rfl
    go_wp2_with fail
    refine (eqCred_any r a s g r' a' s' g' w2).mono ?_
    rintro e w3 ⟨v2, rfl, hv2, hE⟩
    have Hv2 := Lib.hid hv2
    clear hv2
    clear qc0 qf0 qc1 qf1 qc2 qf2 qc3 qf3 qc4 qf4 pc0 pf0 pc1 pf1 pc2 pf2 pc3 pf3 pc4 pf4
    replace S : Sep w w3 [plBox (w.heap.size + 1) #[.slice b1 U.length d1, .int .i64 r', .int .i64 a', .int .i64 s', .int .i64 g'] 32, plBox w.heap.size #[.slice a1 T.length c1, .int .i64 r, .int .i64 a, .int .i64 s, .int .i64 g] 32] := S.step hE
    clear hE
    cases v2 with
    | false =>
      go_wp2
      go_ret
      exact RetB.mk false rfl (by simp only [Bool.false_eq_true, false_iff]; exact fun h => Bool.noConfusion (Hv2.out.2 h.2)) S.ext
    | true =>
      go_wp2
      go_ret
      exact RetB.mk true rfl (by simp only [true_iff]; exact ⟨Hv1.out.1 (by trivial), Hv2.out.1 (by trivial)⟩) S.ext
end Go.Proofs.Ytnibbldfohbfkaa

/- What may be done with a node: contracts of the reference's RightsFor, HasGroup, ClassOf, MayDo, l7May. No condition. -/
namespace Go.Proofs.Ytnibbldfohbfkaa
open Go.RowKit

def rightsFor (mode cls : Int) : Int := if inB mode 0 1023 = true ∧ inB cls 0 2 = true then (if cls = 0 then mode / 64 % 8 else if cls = 1 then mode / 8 % 8 else mode % 8) else -1
def hasGroup (gs g : Int) : Bool := inB gs 0 255 && (inB g 0 7 && (gs / 2 ^ g.toNat % 2 == 1))
def classOf (r a s gs owner grp : Int) : Int := if (inB r 0 99 = true ∧ inB a 0 99 = true ∧ inB s 0 99 = true ∧ inB gs 0 255 = true) ∧ inB owner 0 99 = true ∧ inB grp 0 7 = true then (if a = owner then 0 else if hasGroup gs grp = true then 1 else 2) else -1

set_option maxHeartbeats 2000000 in
theorem specRightsFor (mode cls : Int) (w : World) : Calls Try.prog 68 #[.int .i64 mode, .int .i64 cls] w fun e w' => e = .returned (.int .i64 (rightsFor mode cls)) ∧ w = w' := by
  cases h1 : inB mode 0 1023 with
  | false =>
    have hr : rightsFor mode cls = -1 := by simp [rightsFor, h1]
    rw [hr]
    go_enter Try.func68, Try.ntmps68
    go_wp2_with (go_at_call 25; refine (l1In_is (by assumption) _).mono ?_; rintro e w' ⟨rfl, rfl⟩)
    go_ret
    exact ⟨rfl, rfl⟩
  | true =>
    cases h2 : inB cls 0 2 with
    | false =>
      have hr : rightsFor mode cls = -1 := by simp [rightsFor, h2]
      rw [hr]
      go_enter Try.func68, Try.ntmps68
      go_wp2_with (go_at_call 25; refine (l1In_is (by assumption) _).mono ?_; rintro e w' ⟨rfl, rfl⟩)
      go_ret
      exact ⟨rfl, rfl⟩
    | true =>
      obtain ⟨a1, a2⟩ := inB_iff.1 h2
      obtain ⟨b1, b2⟩ := inB_iff.1 h1
      rcases (show cls = 0 ∨ cls = 1 ∨ cls = 2 by omega) with rfl | rfl | rfl
      · have HR := Lib.hid (show rightsFor mode 0 = mode / 64 % 8 by simp [rightsFor, h1, h2])
        go_enter Try.func68, Try.ntmps68
        go_wp2_with (go_at_call 25; refine (l1In_is (by assumption) _).mono ?_; rintro e w' ⟨rfl, rfl⟩)
        go_ret
        exact ⟨by rw [HR.out]; rfl, rfl⟩
      · have HR := Lib.hid (show rightsFor mode 1 = mode / 8 % 8 by simp [rightsFor, h1, h2])
        go_enter Try.func68, Try.ntmps68
        go_wp2_with (go_at_call 25; refine (l1In_is (by assumption) _).mono ?_; rintro e w' ⟨rfl, rfl⟩)
        go_ret
        exact ⟨by rw [HR.out]; rfl, rfl⟩
      · have HR := Lib.hid (show rightsFor mode 2 = mode % 8 by simp [rightsFor, h1, h2])
        go_enter Try.func68, Try.ntmps68
        go_wp2_with (go_at_call 25; refine (l1In_is (by assumption) _).mono ?_; rintro e w' ⟨rfl, rfl⟩)
        go_ret
        exact ⟨by rw [HR.out]; rfl, rfl⟩

set_option maxHeartbeats 2000000 in
theorem specHasGroup (gs g : Int) (w : World) : Calls Try.prog 69 #[.int .i64 gs, .int .i64 g] w fun e w' => e = .returned (.bool (hasGroup gs g)) ∧ w = w' := by
  cases h1 : inB gs 0 255 with
  | false =>
    have hr : hasGroup gs g = false := by simp [hasGroup, h1]
    rw [hr]
    go_enter Try.func69, Try.ntmps69
    go_wp2_with (go_at_call 25; refine (l1In_is (by assumption) _).mono ?_; rintro e w' ⟨rfl, rfl⟩)
    go_ret
    exact ⟨rfl, rfl⟩
  | true =>
    cases h2 : inB g 0 7 with
    | false =>
      have hr : hasGroup gs g = false := by simp [hasGroup, h2]
      rw [hr]
      go_enter Try.func69, Try.ntmps69
      go_wp2_with (go_at_call 25; refine (l1In_is (by assumption) _).mono ?_; rintro e w' ⟨rfl, rfl⟩)
      go_ret
      exact ⟨rfl, rfl⟩
    | true =>
      obtain ⟨a1, a2⟩ := inB_iff.1 h2
      obtain ⟨b1, b2⟩ := inB_iff.1 h1
      rcases (show g = 0 ∨ g = 1 ∨ g = 2 ∨ g = 3 ∨ g = 4 ∨ g = 5 ∨ g = 6 ∨ g = 7 by omega) with rfl | rfl | rfl | rfl | rfl | rfl | rfl | rfl
      all_goals
        have HR := Lib.hid h1
        clear h1
        go_enter Try.func69, Try.ntmps69
        go_wp2_with (go_at_call 25; refine (l1In_is (by first | exact HR.out | assumption) _).mono ?_; rintro e w' ⟨rfl, rfl⟩)
        go_ret
        refine ⟨?_, rfl⟩
        simp [hasGroup, HR.out, h2]
end Go.Proofs.Ytnibbldfohbfkaa

/- What may be done with a node: contracts of the reference's ClassOf, MayDo, l7May. No condition. -/
namespace Go.Proofs.Ytnibbldfohbfkaa
open Go.RowKit

theorem classOf_bad {r a s gs owner grp : Int} (h : ¬ ((inB r 0 99 = true ∧ inB a 0 99 = true ∧ inB s 0 99 = true ∧ inB gs 0 255 = true) ∧ inB owner 0 99 = true ∧ inB grp 0 7 = true)) : classOf r a s gs owner grp = -1 := by rw [classOf, if_neg h]
theorem classOf_good {r a s gs owner grp : Int} (h : (inB r 0 99 = true ∧ inB a 0 99 = true ∧ inB s 0 99 = true ∧ inB gs 0 255 = true) ∧ inB owner 0 99 = true ∧ inB grp 0 7 = true) : classOf r a s gs owner grp = if a = owner then 0 else if hasGroup gs grp = true then 1 else 2 := by rw [classOf, if_pos h]

set_option maxHeartbeats 4000000 in
theorem specClassOf (r a s gs owner grp : Int) (w : World) : Calls Try.prog 67 #[.agg #[.int .i64 r, .int .i64 a, .int .i64 s, .int .i64 gs], .int .i64 owner, .int .i64 grp] w (RetI (classOf r a s gs owner grp) w) := by
  go_enter Try.func67, Try.ntmps67
  have S := Sep.start w
  replace S : Sep w (w.alloc (.cells #[.int .i64 r, .int .i64 a, .int .i64 s, .int .i64 gs] 30)) [plBox w.heap.size #[.int .i64 r, .int .i64 a, .int .i64 s, .int .i64 gs] 30] := S.alloc_at (by simp) _ _
  go_wp2_with fail
  generalize (w.alloc (.cells #[.int .i64 r, .int .i64 a, .int .i64 s, .int .i64 gs] 30)) = w1 at *
  refine (specCredValid r a s gs w1).mono ?_
  rintro e w2 ⟨v, rfl, hv, hE⟩
  have Hv := Lib.hid hv
  clear hv
  replace S : Sep w w2 [plBox w.heap.size #[.int .i64 r, .int .i64 a, .int .i64 s, .int .i64 gs] 30] := S.step hE
  clear hE
  obtain ⟨bc0, bf0⟩ : w2.cell? ⟨w.heap.size, 0, none⟩ = some (.int .i64 r) ∧ w2.frozen? ⟨w.heap.size, 0, none⟩ = false := bx (S.box 0 rfl) 0 rfl
  obtain ⟨bc1, bf1⟩ : w2.cell? ⟨w.heap.size, 1, none⟩ = some (.int .i64 a) ∧ w2.frozen? ⟨w.heap.size, 1, none⟩ = false := bx (S.box 0 rfl) 1 rfl
  obtain ⟨bc2, bf2⟩ : w2.cell? ⟨w.heap.size, 2, none⟩ = some (.int .i64 s) ∧ w2.frozen? ⟨w.heap.size, 2, none⟩ = false := bx (S.box 0 rfl) 2 rfl
  obtain ⟨bc3, bf3⟩ : w2.cell? ⟨w.heap.size, 3, none⟩ = some (.int .i64 gs) ∧ w2.frozen? ⟨w.heap.size, 3, none⟩ = false := bx (S.box 0 rfl) 3 rfl
  cases v with
  | false =>
    have HB := Lib.hid (classOf_bad (r := r) (a := a) (s := s) (gs := gs) (owner := owner) (grp := grp) (fun h => Bool.noConfusion (Hv.out.2 h.1)))
    go_wp2
    go_ret
    exact ⟨by rw [HB.out]; rfl, S.ext⟩
  | true =>
    have HC := Lib.hid (Hv.out.1 rfl)
    clear Hv
    cases h1 : inB owner 0 99 with
    | false =>
      have HB := Lib.hid (classOf_bad (r := r) (a := a) (s := s) (gs := gs) (owner := owner) (grp := grp) (fun h => Bool.noConfusion (h1.symm.trans h.2.1)))
      go_wp2_with (go_at_call 25; refine (l1In_is (by assumption) _).mono ?_; rintro e w' ⟨rfl, rfl⟩)
      go_ret
      exact ⟨by rw [HB.out]; rfl, S.ext⟩
    | true =>
      cases h2 : inB grp 0 7 with
      | false =>
        have HB := Lib.hid (classOf_bad (r := r) (a := a) (s := s) (gs := gs) (owner := owner) (grp := grp) (fun h => Bool.noConfusion (h2.symm.trans h.2.2)))
        go_wp2_with (go_at_call 25; refine (l1In_is (by assumption) _).mono ?_; rintro e w' ⟨rfl, rfl⟩)
        go_ret
        exact ⟨by rw [HB.out]; rfl, S.ext⟩
      | true =>
        have HG := Lib.hid (classOf_good (r := r) (a := a) (s := s) (gs := gs) (owner := owner) (grp := grp) ⟨HC.out, h1, h2⟩)
        by_cases h3 : a = owner
        · have HB := Lib.hid (HG.out.trans (if_pos h3))
          subst h3
          clear HG
          go_wp2_with (go_at_call 25; refine (l1In_is (by assumption) _).mono ?_; rintro e w' ⟨rfl, rfl⟩)
          go_ret
          exact ⟨by rw [HB.out]; rfl, S.ext⟩
        · have t3 : (a == owner) = false := by simpa using h3
          have HN := Lib.hid (HG.out.trans (if_neg h3))
          clear h3 HG
          cases h4 : hasGroup gs grp with
          | false =>
            have HB := Lib.hid (HN.out.trans (if_neg (by rw [h4]; exact Bool.false_ne_true)))
            have H4 := Lib.hid h4
            clear h4
            go_wp2_with (first
              | (go_at_call 25; refine (l1In_is (by assumption) _).mono ?_; rintro e w' ⟨rfl, rfl⟩)
              | (go_at_call 69; refine (specHasGroup gs grp _).mono ?_; rintro e w' ⟨rfl, rfl⟩; rw [H4.out]))
            go_ret
            exact ⟨by rw [HB.out]; rfl, S.ext⟩
          | true =>
            have HB := Lib.hid (HN.out.trans (if_pos h4))
            have H4 := Lib.hid h4
            clear h4
            go_wp2_with (first
              | (go_at_call 25; refine (l1In_is (by assumption) _).mono ?_; rintro e w' ⟨rfl, rfl⟩)
              | (go_at_call 69; refine (specHasGroup gs grp _).mono ?_; rintro e w' ⟨rfl, rfl⟩; rw [H4.out]))
            go_ret
            exact ⟨by rw [HB.out]; rfl, S.ext⟩
end Go.Proofs.Ytnibbldfohbfkaa
