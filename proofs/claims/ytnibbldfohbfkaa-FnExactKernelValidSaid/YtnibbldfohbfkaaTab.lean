/- Rows of rows of numbers: as a view, and as one piece of memory of one's own. No condition. -/
import Derived.Test.YtnibbldfohbfkaaIntS
import Derived.Test.YtnibbldfohbfkaaSep
namespace Go.Proofs.Ytnibbldfohbfkaa
open Go.RowKit

structure Sl where
  a : Option Addr
  n : Nat
  c : Nat
def Sl.v (s : Sl) : Value := .slice s.a s.n s.c
def encSl (s : Sl) : List Value := [.slice s.a s.n s.c]
theorem encSl_len (x : Sl) : (encSl x).length = 1 := rfl
theorem encSl_one (x : Sl) : ∀ u ∈ encSl x, u.oneCell' = true := by simp [encSl, Value.oneCell']
theorem infoSl : (Try.prog.info? 53).map (fun i => (i.zero, i.size, i.bytes)) = some (some (.slice none 0 0), 1, 24) := by kernel_rfl

/-- A read-only view. -/
def RdT (w : World) (a : Option Addr) (T : List (List Int)) : Prop :=
  ∀ i t, T[i]? = some t → ∃ b off ai ci, a = some ⟨b, off, none⟩ ∧ w.cell? ⟨b, off + i, none⟩ = some (.slice ai t.length ci) ∧ t.length ≤ ci ∧ Rd 1 encInt1 w ai t
theorem RdT.ext {w w' : World} {a : Option Addr} {T : List (List Int)} (h : RdT w a T) (hb : Ext w w') : RdT w' a T := by
  intro i t hi
  obtain ⟨b, off, ai, ci, ha, hc, hl, hr⟩ := h i t hi
  exact ⟨b, off, ai, ci, ha, cell_ext hb hc, hl, hr.ext hb⟩
theorem RdT.nil {w : World} {a : Option Addr} : RdT w a [] := fun i t h => by simp at h
theorem atTab {w : World} {a : Option Addr} {T : List (List Int)} (h : RdT w a T) {k : Nat} (hk : k < T.length) :
    ∃ t b off ai ci, T[k]? = some t ∧ a = some ⟨b, off, none⟩ ∧ w.cell? ⟨b, off + k, none⟩ = some (.slice ai t.length ci) ∧ t.length ≤ ci ∧ Rd 1 encInt1 w ai t := by
  obtain ⟨b, off, ai, ci, h1, h2, h3, h4⟩ := h k T[k] (List.getElem?_eq_getElem hk)
  exact ⟨T[k], b, off, ai, ci, List.getElem?_eq_getElem hk, h1, h2, h3, h4⟩

/-- A row of rows, each in memory of its own. -/
def plTab (u : Value) (vs : List Sl) (T : List (List Int)) : Pl where
  own b := u.ownBlock = some b ∨ ∃ s ∈ vs, s.v.ownBlock = some b
  ok w := w.ownsRow 0 53 1 u vs.length (vs.flatMap encSl) ∧ vs.length = T.length ∧ (∀ (i : Nat) (s : Sl) (t : List Int), vs[i]? = some s → T[i]? = some t → w.ownsRow 0 3 1 s.v t.length (t.flatMap encInt1)) ∧
    (∀ s ∈ vs, ∀ b : Nat, s.v.ownBlock = some b → u.ownBlock ≠ some b) ∧ (∀ (i j : Nat) (s s' : Sl), i ≠ j → vs[i]? = some s → vs[j]? = some s' → ∀ b : Nat, s.v.ownBlock = some b → s'.v.ownBlock ≠ some b)
  frame := fun w w' h hf => by
    obtain ⟨h1, h2, h3, h4, h5⟩ := h
    refine ⟨(plRow 53 1 encSl u vs).frame w w' h1 (fun b hb => hf b (.inl hb)), h2, fun i s t hs ht => ?_, h4, h5⟩
    exact (plRow 3 1 encInt1 s.v t).frame w w' (h3 i s t hs ht) (fun b hb => hf b (.inr ⟨s, List.mem_of_getElem? hs, hb⟩))
  lt := fun w k h hk => by
    obtain ⟨h1, h2, h3, h4, h5⟩ := h
    rcases hk with hk | ⟨s, hs, hk⟩
    · exact (plRow 53 1 encSl u vs).lt w k h1 hk
    · obtain ⟨i, hi⟩ := List.getElem?_of_mem hs
      have hil := (List.getElem?_eq_some_iff.1 hi).1
      exact (plRow 3 1 encInt1 s.v T[i]).lt w k (h3 i s T[i] hi (List.getElem?_eq_getElem (by omega))) hk

theorem tab_view {w : World} {u : Value} {vs : List Sl} {T : List (List Int)} (h : (plTab u vs T).ok w) :
    ∃ a cap, u = .slice a T.length cap ∧ T.length ≤ cap ∧ RdT w a T ∧ ((a = none ∧ T = [] ∧ cap = 0) ∨ ∃ g, a = some ⟨g, 0, none⟩) := by
  obtain ⟨h1, h2, h3, h4, h5⟩ := h
  obtain ⟨a, cap, hu, hc, hr, hs⟩ := view_owns encSl_len h1
  refine ⟨a, cap, by rw [hu, h2], by omega, fun i t ht => ?_, ?_⟩
  · have hil := (List.getElem?_eq_some_iff.1 ht).1
    have hi : i < vs.length := by omega
    obtain ⟨b, off, ha, hcell⟩ := hr i hi
    have h6 := h3 i vs[i] t (List.getElem?_eq_getElem hi) ht
    obtain ⟨ai, ci, hv, hl, hri, _⟩ := view_owns encInt1_len h6
    have hc0 := hcell 0 _ rfl
    refine ⟨b, off, ai, ci, ha, ?_, hl, hri⟩
    have e : off + i * 1 + 0 = off + i := by omega
    rw [e] at hc0
    rw [hc0]
    exact congrArg some hv
  · rcases hs with ⟨e1, e2, e3⟩ | ⟨g, e1, _⟩
    · exact .inl ⟨e1, List.eq_nil_of_length_eq_zero (by rw [← h2, e2]; rfl), e3⟩
    · exact .inr ⟨g, e1⟩
theorem tab_len {w : World} {u : Value} {vs : List Sl} {T : List (List Int)} (h : (plTab u vs T).ok w) : vs.length = T.length := h.2.1
theorem tab_nil (w : World) : (plTab (.slice none 0 0) [] []).ok w := ⟨World.ownsRow_nil _ _ _ _, rfl, fun i s t h => by simp at h, fun s h => by simp at h, fun i j s s' _ h => by simp at h⟩
theorem tab_make {w : World} {u : Value} {n : Nat} (h : w.ownsRow 0 53 1 u n ((List.replicate n (⟨none, 0, 0⟩ : Sl)).flatMap encSl)) : (plTab u (List.replicate n ⟨none, 0, 0⟩) (List.replicate n [])).ok w := by
  have key : ∀ (i : Nat) (s : Sl), (List.replicate n (⟨none, 0, 0⟩ : Sl))[i]? = some s → s = ⟨none, 0, 0⟩ := fun i s hs => by
    have := List.mem_of_getElem? hs
    exact (List.mem_replicate.1 this).2
  refine ⟨by rw [List.length_replicate]; exact h, by simp, fun i s t hs ht => ?_, fun s hs b hb => ?_, fun i j s s' _ hs hs' b hb => ?_⟩
  · rw [key i s hs]
    have ht2 : t = [] := by
      have := List.mem_of_getElem? ht
      exact (List.mem_replicate.1 this).2
    subst ht2
    exact World.ownsRow_nil _ _ _ _
  · rw [(List.mem_replicate.1 hs).2] at hb; cases hb
  · rw [key i s hs] at hb; cases hb

/-- One piece is written anew; what is new in it is nobody else's. -/
theorem SepM.put' {M : Nat → Prop} {w0 w w' : World} {H : List Pl} (S : SepM M w0 w H) (i : Nat) {p q : Pl} (h : H[i]? = some p) (hg : Chg p.own w w') (hq : q.ok w') (hblk : ∀ b, q.own b → p.own b ∨ w.heap.size ≤ b ∨ (w0.heap.size ≤ b ∧ ∀ r ∈ H, ¬ r.own b)) : SepM M w0 w' (H.set i q) := by
  have hm := List.mem_of_getElem? h
  have hi := (List.getElem?_eq_some_iff.1 h).1
  have hok : ∀ j r, H[j]? = some r → j ≠ i → r.ok w' := fun j r hj hne =>
    r.frame w w' (S.at_ j hj) (fun b hb => hg.block b (S.lt (List.mem_of_getElem? hj) hb).2 (fun e => S.ne h hj (fun e => hne e.symm) e hb))
  refine ⟨⟨hg.os.trans S.chg.os, hg.tape.trans S.chg.tape, hg.output.trans S.chg.output, Nat.le_trans S.chg.size hg.size, fun k hk hn => (hg.block k (Nat.lt_of_lt_of_le hk S.chg.size) (fun hs => by have := (S.lt hm hs).1; omega)).trans (S.chg.block k hk hn)⟩, S.small, fun r hr => ?_, fun r hr b hb => ?_, ?_⟩
  · obtain ⟨j, hj⟩ := List.getElem?_of_mem hr
    by_cases hji : i = j
    · subst hji
      rw [List.getElem?_set_self hi] at hj
      cases hj; exact hq
    · rw [List.getElem?_set_ne hji] at hj
      exact hok j r hj (fun e => hji e.symm)
  · obtain ⟨j, hj⟩ := List.getElem?_of_mem hr
    by_cases hji : i = j
    · subst hji
      rw [List.getElem?_set_self hi] at hj
      cases hj
      rcases hblk b hb with h2 | h2 | h2
      · exact (S.lt hm h2).1
      · exact Nat.le_trans S.chg.size h2
      · exact h2.1
    · rw [List.getElem?_set_ne hji] at hj
      exact S.base r (List.mem_of_getElem? hj) b hb
  · rw [List.pairwise_iff_getElem]
    intro j k hj hk hjk b hb
    simp only [List.length_set] at hj hk
    rw [List.getElem_set] at hb ⊢
    have h1 := List.pairwise_iff_getElem.1 S.apart j k hj hk hjk
    by_cases e1 : i = j
    · subst e1
      rw [if_pos rfl] at hb
      rw [if_neg (by omega)]
      rcases hblk b hb with h2 | h2 | h2
      · exact S.ne h (List.getElem?_eq_getElem hk) (by omega) h2
      · intro e
        have := (S.lt (List.getElem_mem hk) e).2
        omega
      · exact h2.2 _ (List.getElem_mem hk)
    · rw [if_neg e1] at hb
      by_cases e2 : i = k
      · subst e2
        rw [if_pos rfl]
        intro e
        rcases hblk b e with h2 | h2 | h2
        · exact S.ne (List.getElem?_eq_getElem hj) h (by omega) hb h2
        · have := (S.lt (List.getElem_mem hj) hb).2
          omega
        · exact h2.2 _ (List.getElem_mem hj) hb
      · rw [if_neg e2]
        exact h1 b hb
def plNone : Pl where
  own _ := False
  ok _ := True
  frame := fun _ _ h _ => h
  lt := fun _ _ _ h => h.elim
/-- Two pieces become one. -/
theorem SepM.fuse {M : Nat → Prop} {w0 w w' : World} {H : List Pl} (S : SepM M w0 w H) (i j : Nat) {p q r : Pl} (hi : H[i]? = some p) (hj : H[j]? = some r) (hij : i ≠ j) (hg : Chg p.own w w') (hq : r.ok w' → q.ok w') (hblk : ∀ b, q.own b → p.own b ∨ r.own b ∨ w.heap.size ≤ b) : SepM M w0 w' ((H.set i q).eraseIdx j) := by
  have hrm := List.mem_of_getElem? hj
  have hr' : r.ok w' := r.frame w w' (S.at_ j hj) (fun b hb => hg.block b (S.lt hrm hb).2 (fun e => S.ne hi hj hij e hb))
  have S1 : SepM M w0 w (H.set j plNone) := S.put j hj ((Chg.refl _ w)) trivial (fun b hb => hb.elim)
  have hi1 : (H.set j plNone)[i]? = some p := by rw [List.getElem?_set_ne (fun e => hij e.symm)]; exact hi
  have S2 : SepM M w0 w' ((H.set j plNone).set i q) := S1.put' i hi1 hg (hq hr') (fun b hb => by
    rcases hblk b hb with h | h | h
    · exact .inl h
    · refine .inr (.inr ⟨(S.lt hrm h).1, fun m hm hmb => ?_⟩)
      obtain ⟨k, hk⟩ := List.getElem?_of_mem hm
      by_cases hkj : j = k
      · subst hkj
        rw [List.getElem?_set_self (List.getElem?_eq_some_iff.1 hj).1] at hk
        cases hk; exact hmb
      · rw [List.getElem?_set_ne hkj] at hk
        exact S.ne hj hk hkj h hmb
    · exact .inr (.inl h))
  have S3 := S2.drop j
  have e : ((H.set j plNone).set i q).eraseIdx j = (H.set i q).eraseIdx j := by
    rw [List.set_comm _ _ (fun e => hij e.symm)]
    apply List.ext_getElem?
    intro k
    simp only [List.getElem?_eraseIdx]
    split
    · rw [List.getElem?_set_ne (by omega)]
    · rw [List.getElem?_set_ne (by omega)]
  rw [e] at S3
  exact S3

section
variable {M : Nat → Prop} {w0 w w' : World} {H : List Pl}
theorem SepM.tab (S : SepM M w0 w H) (i : Nat) {u : Value} {vs : List Sl} {T : List (List Int)} (h : H[i]? = some (plTab u vs T)) :
    ∃ a cap, u = .slice a T.length cap ∧ T.length ≤ cap ∧ RdT w a T ∧ ((a = none ∧ T = [] ∧ cap = 0) ∨ ∃ g, a = some ⟨g, 0, none⟩) := tab_view (S.at_ i h)
theorem SepM.rdt (S : SepM M w0 w H) (i : Nat) {a : Option Addr} {n cap : Nat} {vs : List Sl} {T : List (List Int)} (h : H[i]? = some (plTab (.slice a n cap) vs T)) : RdT w a T := by
  obtain ⟨a', cap', hu, _, hr, _⟩ := S.tab i h
  simp only [Value.slice.injEq] at hu
  rw [hu.1]; exact hr
theorem SepM.tabRow (S : SepM M w0 w H) (i : Nat) {u : Value} {vs : List Sl} {T : List (List Int)} (h : H[i]? = some (plTab u vs T)) : w.ownsRow w0.heap.size 53 1 u vs.length (vs.flatMap encSl) := by
  have h0 := (S.at_ i h).1
  refine ⟨h0.1, ?_⟩
  rcases h0.2 with h2 | ⟨g, cap, cur, hv, hb, r⟩
  · exact .inl h2
  · exact .inr ⟨g, cap, cur, hv, (S.lt (List.mem_of_getElem? h) (show u.ownBlock = some g ∨ _ from .inl (by rw [hv]; rfl))).1, r⟩
theorem SepM.tabInner (S : SepM M w0 w H) (i : Nat) {u : Value} {vs : List Sl} {T : List (List Int)} (h : H[i]? = some (plTab u vs T)) {k : Nat} {t : List Int} (hk : T[k]? = some t) :
    ∃ s, vs[k]? = some s ∧ w.ownsRow w0.heap.size 3 1 s.v t.length (t.flatMap encInt1) := by
  obtain ⟨h1, h2, h3, h4, h5⟩ := S.at_ i h
  have hkl := (List.getElem?_eq_some_iff.1 hk).1
  have hkv : k < vs.length := by omega
  refine ⟨vs[k], List.getElem?_eq_getElem hkv, ?_⟩
  have h0 := h3 k vs[k] t (List.getElem?_eq_getElem hkv) hk
  refine ⟨h0.1, ?_⟩
  rcases h0.2 with h2 | ⟨g, cap, cur, hv, hb, r⟩
  · exact .inl h2
  · exact .inr ⟨g, cap, cur, hv, (S.lt (List.mem_of_getElem? h) (show _ ∨ _ from .inr ⟨vs[k], List.getElem_mem hkv, by rw [hv]; rfl⟩)).1, r⟩
/-- One of the rows is written. -/
theorem SepM.tabAt (S : SepM M w0 w H) (i : Nat) {u : Value} {vs : List Sl} {T : List (List Int)} (h : H[i]? = some (plTab u vs T)) {k base : Nat} {s : Sl} {t' : List Int} (hs : vs[k]? = some s)
    (hg : Chg (fun b => s.v.ownBlock = some b) w w') (ho : w'.ownsRow base 3 1 s.v t'.length (t'.flatMap encInt1)) : SepM M w0 w' (H.set i (plTab u vs (T.set k t'))) := by
  have hok := S.at_ i h
  obtain ⟨h1, h2, h3, h4, h5⟩ := hok
  have hkv := (List.getElem?_eq_some_iff.1 hs).1
  have hsm := List.mem_of_getElem? hs
  refine S.put i h (hg.mono (fun b hb _ => .inr ⟨s, hsm, hb⟩)) ⟨?_, by rw [List.length_set]; exact h2, fun j s2 t2 hs2 ht2 => ?_, h4, h5⟩ (fun b hb => .inl hb)
  · exact (plRow 53 1 encSl u vs).frame w w' h1 (fun b hb => hg.block b ((plRow 53 1 encSl u vs).lt w b h1 hb) (fun e => h4 s hsm b e hb))
  · by_cases hjk : k = j
    · subst hjk
      rw [hs] at hs2; cases hs2
      rw [List.getElem?_set_self (by omega)] at ht2
      cases ht2
      exact ownsRow_base ho (Nat.zero_le _)
    · rw [List.getElem?_set_ne hjk] at ht2
      have h6 := h3 j s2 t2 hs2 ht2
      exact (plRow 3 1 encInt1 s2.v t2).frame w w' h6 (fun b hb => hg.block b ((plRow 3 1 encInt1 s2.v t2).lt w b h6 hb) (fun e => h5 k j s s2 hjk hs hs2 b e hb))
/-- A row of its own becomes the last of the rows. -/
theorem SepM.tabPush (S : SepM M w0 w H) (i j : Nat) {u u' : Value} {vs : List Sl} {T : List (List Int)} {s : Sl} {t : List Int} {base : Nat} (hi : H[i]? = some (plTab u vs T)) (hj : H[j]? = some (plRow 3 1 encInt1 s.v t)) (hij : i ≠ j)
    (hg : w.grownBy w' u.ownBlock) (ho : w'.ownsRow base 53 1 u' (vs ++ [s]).length ((vs ++ [s]).flatMap encSl)) (hblk : ∀ b, u'.ownBlock = some b → u.ownBlock = some b ∨ w.heap.size ≤ b) :
    SepM M w0 w' ((H.set i (plTab u' (vs ++ [s]) (T ++ [t]))).eraseIdx j) := by
  obtain ⟨h1, h2, h3, h4, h5⟩ := S.at_ i hi
  have hjm := List.mem_of_getElem? hj
  have hnew : ∀ b, s.v.ownBlock = some b → ¬ (plTab u vs T).own b := fun b hb => S.ne hj hi (fun e => hij e.symm) hb
  have hlt : ∀ b, s.v.ownBlock = some b → b < w.heap.size := fun b hb => (S.lt hjm hb).2
  have hltv : ∀ s' ∈ vs, ∀ b, s'.v.ownBlock = some b → b < w.heap.size := fun s' hs' b hb => (S.lt (List.mem_of_getElem? hi) (show (plTab u vs T).own b from .inr ⟨s', hs', hb⟩)).2
  refine S.fuse i j hi hj hij ((Chg.of_grown hg).mono (fun b hb _ => .inl hb)) (fun hr => ⟨ownsRow_base ho (Nat.zero_le _), by simp [h2], fun k s2 t2 hs2 ht2 => ?_, fun s2 hs2 b hb hb2 => ?_, fun k l s2 s3 hkl hs2 hs3 b hb hb3 => ?_⟩) (fun b hb => ?_)
  · by_cases hk : k < vs.length
    · rw [List.getElem?_append_left hk] at hs2
      rw [List.getElem?_append_left (by omega)] at ht2
      have h6 := h3 k s2 t2 hs2 ht2
      exact (plRow 3 1 encInt1 s2.v t2).frame w w' h6 (fun b hb => (Chg.of_grown hg).block b (hltv s2 (List.mem_of_getElem? hs2) b hb) (fun e => h4 s2 (List.mem_of_getElem? hs2) b hb e))
    · have hkl := (List.getElem?_eq_some_iff.1 hs2).1
      simp only [List.length_append, List.length_singleton] at hkl
      have e : k = vs.length := by omega
      subst e
      rw [List.getElem?_append_right (Nat.le_refl _), Nat.sub_self] at hs2
      rw [h2, List.getElem?_append_right (Nat.le_refl _), Nat.sub_self] at ht2
      simp only [List.getElem?_cons_zero, Option.some.injEq] at hs2 ht2
      subst hs2 ht2
      exact hr
  · rcases List.mem_append.1 hs2 with hs2 | hs2
    · rcases hblk b hb2 with h | h
      · exact h4 s2 hs2 b hb h
      · have := hltv s2 hs2 b hb; omega
    · rw [List.mem_singleton.1 hs2] at hb
      rcases hblk b hb2 with h | h
      · exact hnew b hb (.inl h)
      · have := hlt b hb; omega
  · have hk2 := (List.getElem?_eq_some_iff.1 hs2).1
    have hl2 := (List.getElem?_eq_some_iff.1 hs3).1
    simp only [List.length_append, List.length_singleton] at hk2 hl2
    by_cases hk : k < vs.length
    · rw [List.getElem?_append_left hk] at hs2
      by_cases hl : l < vs.length
      · rw [List.getElem?_append_left hl] at hs3
        exact h5 k l s2 s3 hkl hs2 hs3 b hb hb3
      · rw [List.getElem?_append_right (by omega), show l - vs.length = 0 by omega] at hs3
        simp only [List.getElem?_cons_zero, Option.some.injEq] at hs3
        subst hs3
        exact hnew b hb3 (.inr ⟨s2, List.mem_of_getElem? hs2, hb⟩)
    · rw [List.getElem?_append_right (by omega), show k - vs.length = 0 by omega] at hs2
      simp only [List.getElem?_cons_zero, Option.some.injEq] at hs2
      subst hs2
      rw [List.getElem?_append_left (by omega)] at hs3
      exact hnew b hb (.inr ⟨s3, List.mem_of_getElem? hs3, hb3⟩)
  · rcases hb with hb | ⟨s2, hs2, hb⟩
    · rcases hblk b hb with h | h
      · exact .inl (.inl h)
      · exact .inr (.inr h)
    · rcases List.mem_append.1 hs2 with hs2 | hs2
      · exact .inl (.inr ⟨s2, hs2, hb⟩)
      · rw [List.mem_singleton.1 hs2] at hb
        exact .inr (.inl hb)
/-- A row of its own comes to the place of one. -/
theorem SepM.tabPut (S : SepM M w0 w H) (i j : Nat) {g n cap : Nat} {vs : List Sl} {T : List (List Int)} {s : Sl} {t : List Int} {k : Nat} (hi : H[i]? = some (plTab (.slice (some ⟨g, 0, none⟩) n cap) vs T)) (hj : H[j]? = some (plRow 3 1 encInt1 s.v t)) (hij : i ≠ j) (hk : k < vs.length) :
    SepM M w0 (w.setCell ⟨g, k, none⟩ s.v) ((H.set i (plTab (.slice (some ⟨g, 0, none⟩) n cap) (vs.set k s) (T.set k t))).eraseIdx j) := by
  obtain ⟨h1, h2, h3, h4, h5⟩ := S.at_ i hi
  have hjm := List.mem_of_getElem? hj
  have hnew : ∀ b, s.v.ownBlock = some b → ¬ (plTab (.slice (some ⟨g, 0, none⟩) n cap) vs T).own b := fun b hb => S.ne hj hi (fun e => hij e.symm) hb
  have hlen : n = vs.length := by
    have := h1.1
    rcases h1.2 with ⟨e, _⟩ | ⟨g', cap', cur, e, _⟩
    · simp at e
    · simp only [Value.slice.injEq] at e; exact e.2.1
  have hset := owns_set encSl_len (show w.ownsRow 0 53 1 (.slice (some ⟨g, 0, none⟩) n cap) n (vs.flatMap encSl) by rw [hlen]; rw [hlen] at h1; exact h1) k 0 s.v s hk (by omega) rfl
  rw [Nat.mul_one, Nat.add_zero] at hset
  have hchg := Chg.setCell w g k s.v
  refine S.fuse i j hi hj hij (hchg.mono (fun b hb _ => .inl (by rw [hb]; rfl))) (fun hr => ⟨by rw [List.length_set, ← hlen]; exact hset, by simp [h2], fun l s2 t2 hs2 ht2 => ?_, fun s2 hs2 b hb hb2 => ?_, fun l m s2 s3 hlm hs2 hs3 b hb hb3 => ?_⟩) (fun b hb => ?_)
  · by_cases hlk : k = l
    · subst hlk
      rw [List.getElem?_set_self hk] at hs2
      rw [List.getElem?_set_self (by omega)] at ht2
      cases hs2; cases ht2
      exact hr
    · rw [List.getElem?_set_ne hlk] at hs2 ht2
      have h6 := h3 l s2 t2 hs2 ht2
      exact (plRow 3 1 encInt1 s2.v t2).frame w _ h6 (fun b hb => hchg.block b ((plRow 3 1 encInt1 s2.v t2).lt w b h6 hb) (fun e => h4 s2 (List.mem_of_getElem? hs2) b hb (by rw [e]; rfl)))
  · rcases List.mem_or_eq_of_mem_set hs2 with hs2 | rfl
    · exact h4 s2 hs2 b hb hb2
    · exact hnew b hb (.inl hb2)
  · by_cases hlk : k = l
    · subst hlk
      rw [List.getElem?_set_self hk] at hs2
      cases hs2
      rw [List.getElem?_set_ne hlm] at hs3
      exact hnew b hb (.inr ⟨s3, List.mem_of_getElem? hs3, hb3⟩)
    · rw [List.getElem?_set_ne hlk] at hs2
      by_cases hmk : k = m
      · subst hmk
        rw [List.getElem?_set_self hk] at hs3
        cases hs3
        exact hnew b hb3 (.inr ⟨s2, List.mem_of_getElem? hs2, hb⟩)
      · rw [List.getElem?_set_ne hmk] at hs3
        exact h5 l m s2 s3 hlm hs2 hs3 b hb hb3
  · rcases hb with hb | ⟨s2, hs2, hb⟩
    · exact .inl (.inl hb)
    · rcases List.mem_or_eq_of_mem_set hs2 with hs2 | rfl
      · exact .inl (.inr ⟨s2, hs2, hb⟩)
      · exact .inr (.inl hb)
/-- A row without rows in it. -/
theorem SepM.tabNil (S : SepM M w0 w H) : SepM M w0 w (plTab (.slice none 0 0) [] [] :: H) :=
  S.cons (Ext.refl w) (tab_nil w) (fun b hb => by rcases hb with hb | ⟨s, hs, _⟩; cases hb; simp at hs)
theorem SepM.tabOf0 (S : SepM M w0 w H) (i : Nat) {u : Value} (h : H[i]? = some (plRow 53 1 encSl u [])) : SepM M w0 w (H.set i (plTab u [] [])) :=
  S.put i h (Chg.refl _ w) ⟨S.at_ i h, rfl, fun i s t h => by simp at h, fun s h => by simp at h, fun i j s s' _ h => by simp at h⟩ (fun b hb => by rcases hb with hb | ⟨s, hs, _⟩; exact .inl hb; simp at hs)
/-- A literal of one row. -/
theorem SepM.tabOf1 (S : SepM M w0 w H) (i j : Nat) {u : Value} {s : Sl} {t : List Int} (hi : H[i]? = some (plRow 53 1 encSl u [s])) (hj : H[j]? = some (plRow 3 1 encInt1 s.v t)) (hij : i ≠ j) : SepM M w0 w ((H.set i (plTab u [s] [t])).eraseIdx j) := by
  refine S.fuse i j hi hj hij (Chg.refl _ w) (fun hr => ⟨S.at_ i hi, rfl, fun k s2 t2 hs2 ht2 => ?_, fun s2 hs2 b hb hb2 => ?_, fun k l s2 s3 hkl hs2 hs3 => ?_⟩) (fun b hb => ?_)
  · have hk := (List.getElem?_eq_some_iff.1 hs2).1
    obtain rfl : k = 0 := by simpa using hk
    simp only [List.getElem?_cons_zero, Option.some.injEq] at hs2 ht2
    subst hs2 ht2
    exact hr
  · rw [List.mem_singleton.1 hs2] at hb
    exact S.ne hj hi (fun e => hij e.symm) hb hb2
  · have hk := (List.getElem?_eq_some_iff.1 hs2).1
    have hl := (List.getElem?_eq_some_iff.1 hs3).1
    simp only [List.length_singleton] at hk hl
    omega
  · rcases hb with hb | ⟨s2, hs2, hb⟩
    · exact .inl hb
    · rw [List.mem_singleton.1 hs2] at hb
      exact .inr (.inl hb)
end
end Go.Proofs.Ytnibbldfohbfkaa
