/- Parts of one proof: each says below what it proves and on what conditions. -/
import Derived.Deep.Cut
import Derived.Test.YtnibbldfohbfkaaGreatDoorMy2
set_option linter.unusedVariables false
set_option linter.unusedSimpArgs false
/- Rows of rows of numbers: as a view, and as one piece of memory of one's own. No condition. -/
namespace Go.Proofs.YtnibbldfohbfkaaGreatDoor
open Go.RowKit
structure Sl where
 a : Option Addr
 n : Nat
 c : Nat
def Sl.v (s : Sl) : Value := .slice s.a s.n s.c
def RdT (w : World) (a : Option Addr) (T : List (List Int)) : Prop :=
 ∀ i t, T[i]? = some t → ∃ b off ai ci, a = some ⟨b, off, none⟩ ∧ w.cell? ⟨b, off + i, none⟩ = some (.slice ai t.length ci) ∧ t.length ≤ ci ∧ Rd 1 encInt1 w ai t
theorem RdT.ext {w w' : World} {a : Option Addr} {T : List (List Int)} (h : RdT w a T) (hb : Ext w w') : RdT w' a T := by
 intro i t hi
 obtain ⟨b, off, ai, ci, ha, hc, hl, hr⟩ := h i t hi
 exact ⟨b, off, ai, ci, ha, cell_ext hb hc, hl, hr.ext hb⟩
theorem RdT.nil {w : World} {a : Option Addr} : RdT w a [] := fun i t h => by simp at h
theorem SepM.put' {M : Nat → Prop} {w0 w w' : World} {H : List Pl} (S : SepM M w0 w H) (i : Nat) {p q : Pl} (h : H[i]? = some p) (hg : Chg p.own w w') (hq : q.ok w') (hblk : ∀ b, q.own b → p.own b ∨ w.heap.size ≤ b ∨ (w0.heap.size ≤ b ∧ ∀ r ∈ H, ¬ r.own b)) : SepM M w0 w' (H.set i q) := by
 have hm := List.mem_of_getElem? h
 have hi := (List.getElem?_eq_some_iff.1 h).1
 have hok : ∀ j r, H[j]? = some r → j ≠ i → r.ok w' := fun j r hj hne =>
  r.frame w w' (S.at_ j hj) (fun b hb => hg.block b (S.lt (List.mem_of_getElem? hj) hb).2 (fun e => S.ne h hj (fun e => hne e.symm) e hb))
 refine ⟨⟨hg.os.trans S.chg.os, hg.tape.trans S.chg.tape, hg.output.trans S.chg.output, Nat.le_trans S.chg.size hg.size, fun k hk hn => (hg.block k (Nat.lt_of_lt_of_le hk S.chg.size) (fun hs => by have := (S.lt hm hs).1; omega)).trans (S.chg.block k hk hn)⟩, S.small, fun r hr => ?_, fun r hr b hb => ?_, ?_⟩
 ·obtain ⟨j, hj⟩ := List.getElem?_of_mem hr
  by_cases hji : i = j
  ·subst hji
   rw [List.getElem?_set_self hi] at hj
   cases hj; exact hq
  ·rw [List.getElem?_set_ne hji] at hj
   exact hok j r hj (fun e => hji e.symm)
 ·obtain ⟨j, hj⟩ := List.getElem?_of_mem hr
  by_cases hji : i = j
  ·subst hji
   rw [List.getElem?_set_self hi] at hj
   cases hj
   rcases hblk b hb with h2 | h2 | h2
   ·exact (S.lt hm h2).1
   ·exact Nat.le_trans S.chg.size h2
   ·exact h2.1
  ·rw [List.getElem?_set_ne hji] at hj
   exact S.base r (List.mem_of_getElem? hj) b hb
 ·rw [List.pairwise_iff_getElem]
  intro j k hj hk hjk b hb
  simp only [List.length_set] at hj hk
  rw [List.getElem_set] at hb ⊢
  have h1 := List.pairwise_iff_getElem.1 S.apart j k hj hk hjk
  by_cases e1 : i = j
  ·subst e1
   rw [if_pos rfl] at hb
   rw [if_neg (by omega)]
   rcases hblk b hb with h2 | h2 | h2
   ·exact S.ne h (List.getElem?_eq_getElem hk) (by omega) h2
   ·intro e
    have := (S.lt (List.getElem_mem hk) e).2
    omega
   ·exact h2.2 _ (List.getElem_mem hk)
  ·rw [if_neg e1] at hb
   by_cases e2 : i = k
   ·subst e2
    rw [if_pos rfl]
    intro e
    rcases hblk b e with h2 | h2 | h2
    ·exact S.ne (List.getElem?_eq_getElem hj) h (by omega) hb h2
    ·have := (S.lt (List.getElem_mem hj) hb).2
     omega
    ·exact h2.2 _ (List.getElem_mem hj) hb
   ·rw [if_neg e2]
    exact h1 b hb
def plNone : Pl where
 own _ := False
 ok _ := True
 frame := fun _ _ h _ => h
 lt := fun _ _ _ h => h.elim
theorem SepM.fuse {M : Nat → Prop} {w0 w w' : World} {H : List Pl} (S : SepM M w0 w H) (i j : Nat) {p q r : Pl} (hi : H[i]? = some p) (hj : H[j]? = some r) (hij : i ≠ j) (hg : Chg p.own w w') (hq : r.ok w' → q.ok w') (hblk : ∀ b, q.own b → p.own b ∨ r.own b ∨ w.heap.size ≤ b) : SepM M w0 w' ((H.set i q).eraseIdx j) := by
 have hrm := List.mem_of_getElem? hj
 have hr' : r.ok w' := r.frame w w' (S.at_ j hj) (fun b hb => hg.block b (S.lt hrm hb).2 (fun e => S.ne hi hj hij e hb))
 have S1 : SepM M w0 w (H.set j plNone) := S.put j hj ((Chg.refl _ w)) trivial (fun b hb => hb.elim)
 have hi1 : (H.set j plNone)[i]? = some p := by rw [List.getElem?_set_ne (fun e => hij e.symm)]; exact hi
 have S2 : SepM M w0 w' ((H.set j plNone).set i q) := S1.put' i hi1 hg (hq hr') (fun b hb => by
  rcases hblk b hb with h | h | h
  ·exact .inl h
  ·refine .inr (.inr ⟨(S.lt hrm h).1, fun m hm hmb => ?_⟩)
   obtain ⟨k, hk⟩ := List.getElem?_of_mem hm
   by_cases hkj : j = k
   ·subst hkj
    rw [List.getElem?_set_self (List.getElem?_eq_some_iff.1 hj).1] at hk
    cases hk; exact hmb
   ·rw [List.getElem?_set_ne hkj] at hk
    exact S.ne hj hk hkj h hmb
  ·exact .inr (.inl h))
 have S3 := S2.drop j
 have e : ((H.set j plNone).set i q).eraseIdx j = (H.set i q).eraseIdx j := by
  rw [List.set_comm _ _ (fun e => hij e.symm)]
  apply List.ext_getElem?
  intro k
  simp only [List.getElem?_eraseIdx]
  split
  ·rw [List.getElem?_set_ne (by omega)]
  ·rw [List.getElem?_set_ne (by omega)]
 rw [e] at S3
 exact S3
section
variable {M : Nat → Prop} {w0 w w' : World} {H : List Pl}
end
structure Pin (β α : Type) where
 own : β → Nat → Prop
 ok : β → α → World → Prop
 frame : ∀ s t w w', ok s t w → (∀ b, own s b → w'.heap[b]? = w.heap[b]?) → ok s t w'
 lt : ∀ s t w b, ok s t w → own s b → b < w.heap.size
def Pin.one {β α : Type} (P : Pin β α) (s : β) (t : α) : Pl := ⟨P.own s, P.ok s t, P.frame s t, P.lt s t⟩
section
variable {β α : Type}
def plG (e nf : Nat) (enc : β → List Value) (P : Pin β α) (u : Value) (vs : List β) (T : List α) : Pl where
 own b := u.ownBlock = some b ∨ ∃ s ∈ vs, P.own s b
 ok w := w.ownsRow 0 e nf u vs.length (vs.flatMap enc) ∧ vs.length = T.length ∧ (∀ (i : Nat) (s : β) (t : α), vs[i]? = some s → T[i]? = some t → P.ok s t w) ∧
  (∀ s ∈ vs, ∀ b : Nat, P.own s b → u.ownBlock ≠ some b) ∧ (∀ (i j : Nat) (s s' : β), i ≠ j → vs[i]? = some s → vs[j]? = some s' → ∀ b : Nat, P.own s b → ¬ P.own s' b)
 frame := fun w w' h hf => by
  obtain ⟨h1, h2, h3, h4, h5⟩ := h
  exact ⟨(plRow e nf enc u vs).frame w w' h1 (fun b hb => hf b (.inl hb)), h2, fun i s t hs ht => P.frame s t w w' (h3 i s t hs ht) (fun b hb => hf b (.inr ⟨s, List.mem_of_getElem? hs, hb⟩)), h4, h5⟩
 lt := fun w k h hk => by
  obtain ⟨h1, h2, h3, h4, h5⟩ := h
  rcases hk with hk | ⟨s, hs, hk⟩
  ·exact (plRow e nf enc u vs).lt w k h1 hk
  ·obtain ⟨i, hi⟩ := List.getElem?_of_mem hs
   have hil := (List.getElem?_eq_some_iff.1 hi).1
   exact P.lt s T[i] w k (h3 i s T[i] hi (List.getElem?_eq_getElem (by omega))) hk
variable {e nf : Nat} {enc : β → List Value} {P : Pin β α}
theorem plG_len {w : World} {u : Value} {vs : List β} {T : List α} (h : (plG e nf enc P u vs T).ok w) : vs.length = T.length := h.2.1
theorem plG_make {w : World} {u : Value} {n : Nat} {z : β} {zt : α} (hz : ∀ w, P.ok z zt w) (hn : ∀ b, ¬ P.own z b) (h : w.ownsRow 0 e nf u n ((List.replicate n z).flatMap enc)) : (plG e nf enc P u (List.replicate n z) (List.replicate n zt)).ok w := by
 have key : ∀ (i : Nat) (s : β), (List.replicate n z)[i]? = some s → s = z := fun i s hs => (List.mem_replicate.1 (List.mem_of_getElem? hs)).2
 refine ⟨by rw [List.length_replicate]; exact h, by simp, fun i s t hs ht => ?_, fun s hs b hb => ?_, fun i j s s' _ hs hs' b hb => ?_⟩
 ·rw [key i s hs, (List.mem_replicate.1 (List.mem_of_getElem? ht)).2]
  exact hz w
 ·rw [(List.mem_replicate.1 hs).2] at hb
  exact absurd hb (hn b)
 ·rw [key i s hs] at hb
  exact absurd hb (hn b)
theorem chg_setCells (w : World) (g p : Nat) (us : List Value) : Chg (fun k => k = g) w (setCells w g p us) :=
 (Chg.of_row (grown_setCells us p (grown_of_ext (Ext.refl w) (some g)))).mono (fun k hk _ => (Option.some.inj hk).symm)
variable {M : Nat → Prop} {w0 w w' : World} {H : List Pl}
theorem SepM.gRow (S : SepM M w0 w H) (i : Nat) {u : Value} {vs : List β} {T : List α} (h : H[i]? = some (plG e nf enc P u vs T)) : w.ownsRow w0.heap.size e nf u vs.length (vs.flatMap enc) := by
 have h0 := (S.at_ i h).1
 refine ⟨h0.1, ?_⟩
 rcases h0.2 with h2 | ⟨g, cap, cur, hv, hb, r⟩
 ·exact .inl h2
 ·exact .inr ⟨g, cap, cur, hv, (S.lt (List.mem_of_getElem? h) (show u.ownBlock = some g ∨ _ from .inl (by rw [hv]; rfl))).1, r⟩
theorem SepM.gPut (S : SepM M w0 w H) (i j : Nat) (hn : ∀ x, (enc x).length = nf) {g n cap : Nat} {vs : List β} {T : List α} {s : β} {t : α} {k : Nat} (hi : H[i]? = some (plG e nf enc P (.slice (some ⟨g, 0, none⟩) n cap) vs T)) (hj : H[j]? = some (P.one s t)) (hij : i ≠ j) (hk : k < vs.length) :
  SepM M w0 (setCells w g (k * nf) (enc s)) ((H.set i (plG e nf enc P (.slice (some ⟨g, 0, none⟩) n cap) (vs.set k s) (T.set k t))).eraseIdx j) := by
 obtain ⟨h1, h2, h3, h4, h5⟩ := S.at_ i hi
 have hjm := List.mem_of_getElem? hj
 have hnew : ∀ b, P.own s b → ¬ (plG e nf enc P (.slice (some ⟨g, 0, none⟩) n cap) vs T).own b := fun b hb => S.ne hj hi (fun e => hij e.symm) hb
 have hlen : n = vs.length := by
  rcases h1.2 with ⟨e, _⟩ | ⟨g', cap', cur, e, _⟩
  ·simp at e
  ·simp only [Value.slice.injEq] at e; exact e.2.1
 have hset := owns_put hn (show w.ownsRow 0 e nf (.slice (some ⟨g, 0, none⟩) n cap) n (vs.flatMap enc) by rw [hlen]; rw [hlen] at h1; exact h1) k s hk
 have hchg := chg_setCells w g (k * nf) (enc s)
 refine S.fuse i j hi hj hij (hchg.mono (fun b hb _ => .inl (by rw [hb]; rfl))) (fun hr => ⟨by rw [List.length_set, ← hlen]; exact hset, by simp [h2], fun l s2 t2 hs2 ht2 => ?_, fun s2 hs2 b hb hb2 => ?_, fun l m s2 s3 hlm hs2 hs3 b hb hb3 => ?_⟩) (fun b hb => ?_)
 ·by_cases hlk : k = l
  ·subst hlk
   rw [List.getElem?_set_self hk] at hs2
   rw [List.getElem?_set_self (by omega)] at ht2
   cases hs2; cases ht2
   exact hr
  ·rw [List.getElem?_set_ne hlk] at hs2 ht2
   have h6 := h3 l s2 t2 hs2 ht2
   exact P.frame s2 t2 w _ h6 (fun b hb => hchg.block b (P.lt s2 t2 w b h6 hb) (fun e => h4 s2 (List.mem_of_getElem? hs2) b hb (by rw [e]; rfl)))
 ·rcases List.mem_or_eq_of_mem_set hs2 with hs2 | rfl
  ·exact h4 s2 hs2 b hb hb2
  ·exact hnew b hb (.inl hb2)
 ·by_cases hlk : k = l
  ·subst hlk
   rw [List.getElem?_set_self hk] at hs2
   cases hs2
   rw [List.getElem?_set_ne hlm] at hs3
   exact hnew b hb (.inr ⟨s3, List.mem_of_getElem? hs3, hb3⟩)
  ·rw [List.getElem?_set_ne hlk] at hs2
   by_cases hmk : k = m
   ·subst hmk
    rw [List.getElem?_set_self hk] at hs3
    cases hs3
    exact hnew b hb3 (.inr ⟨s2, List.mem_of_getElem? hs2, hb⟩)
   ·rw [List.getElem?_set_ne hmk] at hs3
    exact h5 l m s2 s3 hlm hs2 hs3 b hb hb3
 ·rcases hb with hb | ⟨s2, hs2, hb⟩
  ·exact .inl (.inl hb)
  ·rcases List.mem_or_eq_of_mem_set hs2 with hs2 | rfl
   ·exact .inl (.inr ⟨s2, hs2, hb⟩)
   ·exact .inr (.inl hb)
end
@[ext] structure Nd where
 fold : Bool
 own : Int
 grp : Int
 mode : Int
 text : ByteArray
 N : List ByteArray
 K : List Int
structure Nc where
 n : Nd
 an : Option Addr
 cn : Nat
 ak : Option Addr
 ck : Nat
def encNc (c : Nc) : List Value := [.bool c.n.fold, .int .i64 c.n.own, .int .i64 c.n.grp, .int .i64 c.n.mode, .string c.n.text, .slice c.an c.n.N.length c.cn, .slice c.ak c.n.K.length c.ck]
theorem encNc_len (c : Nc) : (encNc c).length = 7 := rfl
theorem encNc_one (c : Nc) : ∀ u ∈ encNc c, u.oneCell' = true := by simp [encNc, Value.oneCell']
def Nc.rd (w : World) (c : Nc) : Prop := c.n.N.length ≤ c.cn ∧ c.n.K.length ≤ c.ck ∧ Rd 1 encStr1 w c.an c.n.N ∧ Rd 1 encInt1 w c.ak c.n.K
theorem Nc.rd.ext {w w' : World} {c : Nc} (h : c.rd w) (hE : Ext w w') : c.rd w' := ⟨h.1, h.2.1, h.2.2.1.ext hE, h.2.2.2.ext hE⟩
def RdN (w : World) (a : Option Addr) (T : List Nd) : Prop := ∃ vs : List Nc, vs.map (·.n) = T ∧ Rd 7 encNc w a vs ∧ ∀ c ∈ vs, c.rd w
theorem RdN.ext {w w' : World} {a : Option Addr} {T : List Nd} (h : RdN w a T) (hE : Ext w w') : RdN w' a T := by
 obtain ⟨vs, h1, h2, h3⟩ := h
 exact ⟨vs, h1, h2.ext hE, fun c hc => (h3 c hc).ext hE⟩
theorem atNd {w : World} {a : Option Addr} {T : List Nd} (h : RdN w a T) {k : Nat} (hk : k < T.length) :
  ∃ (x : Nd) (b off : Nat) (an : Option Addr) (cn : Nat) (ak : Option Addr) (ck : Nat), T[k]? = some x ∧ a = some ⟨b, off, none⟩ ∧ w.cell? ⟨b, off + k * 7, none⟩ = some (.bool x.fold) ∧ w.cell? ⟨b, off + k * 7 + 1, none⟩ = some (.int .i64 x.own) ∧ w.cell? ⟨b, off + k * 7 + 2, none⟩ = some (.int .i64 x.grp) ∧
   w.cell? ⟨b, off + k * 7 + 3, none⟩ = some (.int .i64 x.mode) ∧ w.cell? ⟨b, off + k * 7 + 4, none⟩ = some (.string x.text) ∧ w.cell? ⟨b, off + k * 7 + 5, none⟩ = some (.slice an x.N.length cn) ∧ w.cell? ⟨b, off + k * 7 + 6, none⟩ = some (.slice ak x.K.length ck) ∧
   x.N.length ≤ cn ∧ x.K.length ≤ ck ∧ Rd 1 encStr1 w an x.N ∧ Rd 1 encInt1 w ak x.K := by
 obtain ⟨vs, rfl, h2, h3⟩ := h
 have hk' : k < vs.length := by simpa using hk
 obtain ⟨b, off, ha, hc⟩ := h2 k hk'
 obtain ⟨g1, g2, g3, g4⟩ := h3 vs[k] (List.getElem_mem hk')
 refine ⟨vs[k].n, b, off, vs[k].an, vs[k].cn, vs[k].ak, vs[k].ck, by rw [List.getElem?_map, List.getElem?_eq_getElem hk']; rfl, ha, hc 0 _ rfl, hc 1 _ rfl, hc 2 _ rfl, hc 3 _ rfl, hc 4 _ rfl, hc 5 _ rfl, hc 6 _ rfl, g1, g2, g3, g4⟩
def pinNd : Pin Nc Nd where
 own c b := (Value.slice c.an c.n.N.length c.cn).ownBlock = some b ∨ (Value.slice c.ak c.n.K.length c.ck).ownBlock = some b
 ok c n w := c.n = n ∧ w.ownsRow 0 9 1 (.slice c.an c.n.N.length c.cn) c.n.N.length (c.n.N.flatMap encStr1) ∧ w.ownsRow 0 3 1 (.slice c.ak c.n.K.length c.ck) c.n.K.length (c.n.K.flatMap encInt1) ∧
  ∀ b : Nat, (Value.slice c.an c.n.N.length c.cn).ownBlock = some b → (Value.slice c.ak c.n.K.length c.ck).ownBlock ≠ some b
 frame c n w w' h hf := ⟨h.1, (plRow 9 1 encStr1 (.slice c.an c.n.N.length c.cn) c.n.N).frame w w' h.2.1 (fun b hb => hf b (.inl hb)), (plRow 3 1 encInt1 (.slice c.ak c.n.K.length c.ck) c.n.K).frame w w' h.2.2.1 (fun b hb => hf b (.inr hb)), h.2.2.2⟩
 lt c n w b h hb := hb.elim (fun hb => (plRow 9 1 encStr1 (.slice c.an c.n.N.length c.cn) c.n.N).lt w b h.2.1 hb) (fun hb => (plRow 3 1 encInt1 (.slice c.ak c.n.K.length c.ck) c.n.K).lt w b h.2.2.1 hb)
theorem pin_rd {c : Nc} {n : Nd} {w : World} (h : pinNd.ok c n w) : c.rd w := by
 obtain ⟨_, h1, h2, _⟩ := h
 obtain ⟨a, cap, hv, hl, hr, _⟩ := view_owns encStr1_len h1
 simp only [Value.slice.injEq, true_and] at hv
 obtain ⟨rfl, rfl⟩ := hv
 obtain ⟨a, cap, hv, hl2, hr2, _⟩ := view_owns encInt1_len h2
 simp only [Value.slice.injEq, true_and] at hv
 obtain ⟨rfl, rfl⟩ := hv
 exact ⟨hl, hl2, hr, hr2⟩
abbrev plNd (u : Value) (vs : List Nc) (T : List Nd) : Pl := plG 89 7 encNc pinNd u vs T
theorem nd_map {w : World} {u : Value} {vs : List Nc} {T : List Nd} (h : (plNd u vs T).ok w) : vs.map (·.n) = T := by
 obtain ⟨_, h2, h3, _⟩ := h
 apply List.ext_getElem?
 intro i
 by_cases hi : i < vs.length
 ·have := (h3 i vs[i] T[i] (List.getElem?_eq_getElem hi) (List.getElem?_eq_getElem (by omega))).1
  rw [List.getElem?_map, List.getElem?_eq_getElem hi, List.getElem?_eq_getElem (by omega : i < T.length), Option.map_some, this]
 ·rw [List.getElem?_eq_none (by simp; omega), List.getElem?_eq_none (by omega)]
theorem nd_view {w : World} {u : Value} {vs : List Nc} {T : List Nd} (h : (plNd u vs T).ok w) : ∃ a cap, u = .slice a T.length cap ∧ T.length ≤ cap ∧ RdN w a T := by
 have hm := nd_map h
 obtain ⟨h1, h2, h3, h4, h5⟩ := h
 obtain ⟨a, cap, hu, hc, hr, hs⟩ := view_owns encNc_len h1
 refine ⟨a, cap, by rw [hu, h2], by omega, vs, hm, hr, fun c hc => ?_⟩
 obtain ⟨i, hi⟩ := List.getElem?_of_mem hc
 have hil := (List.getElem?_eq_some_iff.1 hi).1
 exact pin_rd (h3 i c T[i] hi (List.getElem?_eq_getElem (by omega)))
theorem SepM.rdN {M : Nat → Prop} {w0 w : World} {H : List Pl} (S : SepM M w0 w H) (i : Nat) {a : Option Addr} {n cap : Nat} {vs : List Nc} {T : List Nd} (h : H[i]? = some (plNd (.slice a n cap) vs T)) : RdN w a T := by
 obtain ⟨a', cap', hu, _, hr⟩ := nd_view (S.at_ i h)
 simp only [Value.slice.injEq] at hu
 rw [hu.1]; exact hr
theorem SepM.ofRows {M : Nat → Prop} {w0 w : World} {H : List Pl} (S : SepM M w0 w H) (i j : Nat) (c : Nc) (hi : H[i]? = some (plRow 9 1 encStr1 (.slice c.an c.n.N.length c.cn) c.n.N)) (hj : H[j]? = some (plRow 3 1 encInt1 (.slice c.ak c.n.K.length c.ck) c.n.K)) (hij : i ≠ j) :
  SepM M w0 w ((H.set i (pinNd.one c c.n)).eraseIdx j) :=
 S.fuse i j hi hj hij (Chg.refl _ w) (fun hr => ⟨rfl, S.at_ i hi, hr, fun b hb => S.ne hi hj hij hb⟩) (fun b hb => hb.elim .inl (fun h => .inr (.inl h)))
def SmN (M : Nat) (n : Nd) : Prop := n.text.size ≤ M ∧ n.N.length ≤ M ∧ (∀ s ∈ n.N, s.size ≤ M) ∧ n.K.length ≤ M
theorem infoNd : (Tryz.prog.info? 89).map (fun i => (i.zero, i.size, i.bytes)) = some (some (.agg #[.bool false, .int .i64 0, .int .i64 0, .int .i64 0, .string ByteArray.empty, .slice none 0 0, .slice none 0 0]), 7, 96) := by kernel_rfl
def zNd : Nd := ⟨false, 0, 0, 0, ByteArray.empty, [], []⟩
def zNc : Nc := ⟨zNd, none, 0, none, 0⟩
theorem zNc_ok (w : World) : pinNd.ok zNc zNd w := ⟨rfl, World.ownsRow_nil _ _ _ _, World.ownsRow_nil _ _ _ _, fun b hb => by cases hb⟩
theorem zNc_own (b : Nat) : ¬ pinNd.own zNc b := fun h => h.elim (fun h => by cases h) (fun h => by cases h)
theorem madeNc (n : Nat) : (madeCells (Value.agg #[.bool false, .int .i64 0, .int .i64 0, .int .i64 0, .string ByteArray.empty, .slice none 0 0, .slice none 0 0]).cells (n * 7)).toList = (List.replicate n zNc).flatMap encNc := by
 apply List.ext_getElem?
 intro j
 by_cases hj : j < n * 7
 ·have e : j = j / 7 * 7 + j % 7 := by omega
  have h3 : j % 7 < 7 := Nat.mod_lt _ (by omega)
  have hd : j / 7 < n := by omega
  rw [show ((List.replicate n zNc).flatMap encNc)[j]? = ((List.replicate n zNc).flatMap encNc)[j / 7 * 7 + j % 7]? by rw [← e], flatMap_at encNc_len _ _ _ h3]
  simp [madeCells, Value.cells, hj, hd]
  rcases (show j % 7 = 0 ∨ j % 7 = 1 ∨ j % 7 = 2 ∨ j % 7 = 3 ∨ j % 7 = 4 ∨ j % 7 = 5 ∨ j % 7 = 6 by omega) with h | h | h | h | h | h | h <;> simp [h, encNc, zNc, zNd]
 ·rw [List.getElem?_eq_none (by simp [madeCells]; omega), List.getElem?_eq_none (by rw [flatMap_length encNc_len]; simp; omega)]
def mixNd (l : List Nd) (k : Nat) : List Nd := l.take k ++ List.replicate (l.length - k) zNd
theorem mixNd_len (l : List Nd) (k : Nat) (hk : k ≤ l.length) : (mixNd l k).length = l.length := by simp [mixNd]; omega
theorem mixNd_zero (l : List Nd) : mixNd l 0 = List.replicate l.length zNd := by simp [mixNd]
theorem mixNd_full (l : List Nd) : mixNd l l.length = l := by simp [mixNd]
theorem mixNd_set (l : List Nd) (k : Nat) (x : Nd) (hx : l[k]? = some x) : (mixNd l k).set k x = mixNd l (k + 1) := by
 obtain ⟨hk, rfl⟩ := List.getElem?_eq_some_iff.1 hx
 unfold mixNd
 obtain ⟨r, hr⟩ : ∃ r, l.length - k = r + 1 := ⟨l.length - k - 1, by omega⟩
 rw [hr, List.replicate_succ, show l.length - (k + 1) = r by omega, List.set_append, if_neg (by simp; omega), List.take_succ_eq_append_getElem hk, List.length_take, Nat.min_eq_left (Nat.le_of_lt hk), Nat.sub_self, List.set_cons_zero, List.append_assoc]
 rfl
end Go.Proofs.YtnibbldfohbfkaaGreatDoor

/- Kernel: an argument of the law's own mirror type is read as nodes and four numbers. No condition. -/
namespace Go.Proofs.YtnibbldfohbfkaaGreatDoor
open Go.ChangeShapes Go.WideShapes Go.ChangeAt Go.RowKit Go.Deep
theorem cellsKer : Tryz.prog.cellsOf 26 = 5 := by kernel_rfl
theorem cellsKNode : Tryz.prog.cellsOf 88 = 7 := by kernel_rfl
theorem cellsKCred : Tryz.prog.cellsOf 24 = 4 := by kernel_rfl
theorem cellsKNodes : Tryz.prog.cellsOf 22 = 1 := by kernel_rfl
theorem cellsKint : Tryz.prog.cellsOf 3 = 1 := by kernel_rfl
theorem cellsKstr : Tryz.prog.cellsOf 9 = 1 := by kernel_rfl
theorem cellsKbool : Tryz.prog.cellsOf 4 = 1 := by kernel_rfl
theorem cellsKints : Tryz.prog.cellsOf 86 = 1 := by kernel_rfl
theorem cellsKstrs : Tryz.prog.cellsOf 39 = 1 := by kernel_rfl
section
variable {H : Type} {enc : TypeId × Value → H} {w : World} {base : Nat} {spare : Nat → Bool} {held : Bool}
theorem openKInt (n : Nat) (cs : List Value) (y : DataW H × List MemPlace) (h : DataW.trod enc Tryz.prog w base spare held n 3 cs = some y) : ∃ x : Int, cs = encInt1 x ∧ True := by
 obtain ⟨v, hv, _, _⟩ := DataW.trod_int Tryz.underlying3 h
 exact ⟨v, hv, trivial⟩
theorem openKStr (n : Nat) (cs : List Value) (y : DataW H × List MemPlace) (h : DataW.trod enc Tryz.prog w base spare held n 9 cs = some y) : ∃ x : ByteArray, cs = encStr1 x ∧ x.size ≤ 9223372036854775807 := by
 obtain ⟨v, hv, _, hw⟩ := DataW.trod_string Tryz.underlying9 h
 exact ⟨v, hv, hw⟩
set_option maxRecDepth 100000 in
theorem openKNode (n : Nat) (cs : List Value) (y : DataW H × List MemPlace) (h : DataW.trod enc Tryz.prog w base spare held n 88 cs = some y) : ∃ c : Nc, cs = encNc c ∧ (SmN 9223372036854775807 c.n ∧ c.rd w) := by
 obtain ⟨xs, m, _, _, hl, hxl, hf⟩ := DataW.trod_struct Tryz.underlying88 h
 have hl3 : cs.length = 7 := hl.trans cellsKNode
 have hx3 : xs.length = 7 := hxl
 match cs, hl3, xs, hx3 with
 | [c0, c1, c2, c3, c4, c5, c6], _, [y0, y1, y2, y3, y4, y5, y6], _ =>
  have e0 : DataW.trod enc Tryz.prog w base spare held m 4 (List.take (Tryz.prog.cellsOf 4) [c0, c1, c2, c3, c4, c5, c6]) = some y0 := hf 0 _ rfl
  simp only [cellsKbool, List.take_succ_cons, List.take_zero] at e0
  obtain ⟨v0, h0, _⟩ := DataW.trod_bool Tryz.underlying4 e0
  simp only [List.cons.injEq, and_true] at h0
  subst h0
  have e1 : DataW.trod enc Tryz.prog w base spare held m 3 (List.take (Tryz.prog.cellsOf 3) [c1, c2, c3, c4, c5, c6]) = some y1 := hf 1 _ rfl
  simp only [cellsKint, List.take_succ_cons, List.take_zero] at e1
  obtain ⟨v1, h1, _, _⟩ := DataW.trod_int Tryz.underlying3 e1
  simp only [List.cons.injEq, and_true] at h1
  subst h1
  have e2 : DataW.trod enc Tryz.prog w base spare held m 3 (List.take (Tryz.prog.cellsOf 3) [c2, c3, c4, c5, c6]) = some y2 := hf 2 _ rfl
  simp only [cellsKint, List.take_succ_cons, List.take_zero] at e2
  obtain ⟨v2, h2, _, _⟩ := DataW.trod_int Tryz.underlying3 e2
  simp only [List.cons.injEq, and_true] at h2
  subst h2
  have e3 : DataW.trod enc Tryz.prog w base spare held m 3 (List.take (Tryz.prog.cellsOf 3) [c3, c4, c5, c6]) = some y3 := hf 3 _ rfl
  simp only [cellsKint, List.take_succ_cons, List.take_zero] at e3
  obtain ⟨v3, h3, _, _⟩ := DataW.trod_int Tryz.underlying3 e3
  simp only [List.cons.injEq, and_true] at h3
  subst h3
  have e4 : DataW.trod enc Tryz.prog w base spare held m 9 (List.take (Tryz.prog.cellsOf 9) [c4, c5, c6]) = some y4 := hf 4 _ rfl
  simp only [cellsKstr, List.take_succ_cons, List.take_zero] at e4
  obtain ⟨v4, h4, _, w4⟩ := DataW.trod_string Tryz.underlying9 e4
  simp only [List.cons.injEq, and_true] at h4
  subst h4
  have e5 : DataW.trod enc Tryz.prog w base spare held m 39 (List.take (Tryz.prog.cellsOf 39) [c5, c6]) = some y5 := hf 5 _ rfl
  simp only [cellsKstrs, List.take_succ_cons, List.take_zero] at e5
  obtain ⟨an, cn, N, rfl, hN, hNs, hrN⟩ := open_rd (encA := encStr1) (good := fun s => s.size ≤ 9223372036854775807) Tryz.underlying39 cellsKstr (by omega) (fun _ => rfl) openKStr e5
  have hcn : N.length ≤ cn := trod_cap (d := y5.1) (p := y5.2) Tryz.underlying39 ⟨m, e5⟩
  have e6 : DataW.trod enc Tryz.prog w base spare held m 86 (List.take (Tryz.prog.cellsOf 86) [c6]) = some y6 := hf 6 _ rfl
  simp only [cellsKints, List.take_succ_cons, List.take_zero] at e6
  obtain ⟨ak, ck, K, rfl, hK, _, hrK⟩ := open_rd (encA := encInt1) (good := fun _ => True) Tryz.underlying86 cellsKint (by omega) (fun _ => rfl) openKInt e6
  have hck : K.length ≤ ck := trod_cap (d := y6.1) (p := y6.2) Tryz.underlying86 ⟨m, e6⟩
  exact ⟨⟨⟨v0, v1, v2, v3, v4, N, K⟩, an, cn, ak, ck⟩, rfl, ⟨w4, hN, hNs, hK⟩, hcn, hck, hrN, hrK⟩
set_option maxRecDepth 100000 in
theorem openKCred (n : Nat) (cs : List Value) (y : DataW H × List MemPlace) (h : DataW.trod enc Tryz.prog w base spare held n 24 cs = some y) : ∃ r a s g : Int, cs = [.int .i64 r, .int .i64 a, .int .i64 s, .int .i64 g] := by
 obtain ⟨xs, m, _, _, hl, hxl, hf⟩ := DataW.trod_struct Tryz.underlying24 h
 have hl3 : cs.length = 4 := hl.trans cellsKCred
 have hx3 : xs.length = 4 := hxl
 match cs, hl3, xs, hx3 with
 | [c1, c2, c3, c4], _, [y1, y2, y3, y4], _ =>
  have e1 : DataW.trod enc Tryz.prog w base spare held m 3 (List.take (Tryz.prog.cellsOf 3) [c1, c2, c3, c4]) = some y1 := hf 0 _ rfl
  simp only [cellsKint, List.take_succ_cons, List.take_zero] at e1
  obtain ⟨v1, h1, _, _⟩ := DataW.trod_int Tryz.underlying3 e1
  simp only [List.cons.injEq, and_true] at h1
  subst h1
  have e2 : DataW.trod enc Tryz.prog w base spare held m 3 (List.take (Tryz.prog.cellsOf 3) [c2, c3, c4]) = some y2 := hf 1 _ rfl
  simp only [cellsKint, List.take_succ_cons, List.take_zero] at e2
  obtain ⟨v2, h2, _, _⟩ := DataW.trod_int Tryz.underlying3 e2
  simp only [List.cons.injEq, and_true] at h2
  subst h2
  have e3 : DataW.trod enc Tryz.prog w base spare held m 3 (List.take (Tryz.prog.cellsOf 3) [c3, c4]) = some y3 := hf 2 _ rfl
  simp only [cellsKint, List.take_succ_cons, List.take_zero] at e3
  obtain ⟨v3, h3, _, _⟩ := DataW.trod_int Tryz.underlying3 e3
  simp only [List.cons.injEq, and_true] at h3
  subst h3
  have e4 : DataW.trod enc Tryz.prog w base spare held m 3 (List.take (Tryz.prog.cellsOf 3) [c4]) = some y4 := hf 3 _ rfl
  simp only [cellsKint, List.take_succ_cons, List.take_zero] at e4
  obtain ⟨v4, h4, _, _⟩ := DataW.trod_int Tryz.underlying3 e4
  simp only [List.cons.injEq, and_true] at h4
  subst h4
  exact ⟨v1, v2, v3, v4, rfl⟩
set_option maxRecDepth 100000 in
theorem openKernelC (n : Nat) (cs : List Value) (y : DataW H × List MemPlace) (h : DataW.trod enc Tryz.prog w base spare held n 26 cs = some y) :
  ∃ at_ ct, ∃ T : List Nd, ∃ r a s g : Int, cs = [.slice at_ T.length ct, .int .i64 r, .int .i64 a, .int .i64 s, .int .i64 g] ∧ T.length ≤ 9223372036854775807 ∧ (∀ x ∈ T, SmN 9223372036854775807 x) ∧ RdN w at_ T := by
 obtain ⟨xs, m, _, _, hl, hxl, hf⟩ := DataW.trod_struct Tryz.underlying26 h
 have hl3 : cs.length = 5 := hl.trans cellsKer
 have hx3 : xs.length = 2 := hxl
 match cs, hl3, xs, hx3 with
 | [c0, c1, c2, c3, c4], _, [y0, y1], _ =>
  have e0 : DataW.trod enc Tryz.prog w base spare held m 22 (List.take (Tryz.prog.cellsOf 22) [c0, c1, c2, c3, c4]) = some y0 := hf 0 _ rfl
  simp only [cellsKNodes, List.take_succ_cons, List.take_zero] at e0
  obtain ⟨at_, ct, X, rfl, h1, h2, h3⟩ := open_rd (encA := encNc) (good := fun c => SmN 9223372036854775807 c.n ∧ c.rd w) Tryz.underlying22 cellsKNode (by omega) encNc_len openKNode e0
  have e1 : DataW.trod enc Tryz.prog w base spare held m 24 (List.take (Tryz.prog.cellsOf 24) [c1, c2, c3, c4]) = some y1 := hf 1 _ rfl
  simp only [cellsKCred, List.take_succ_cons, List.take_zero] at e1
  obtain ⟨r, a, s, g, h4⟩ := openKCred _ _ _ e1
  simp only [List.cons.injEq, and_true] at h4
  obtain ⟨rfl, rfl, rfl, rfl⟩ := h4
  refine ⟨at_, ct, X.map (·.n), r, a, s, g, by rw [List.length_map], by rw [List.length_map]; exact h1, fun x hx => ?_, X, rfl, h3, fun c hc => (h2 c hc).2⟩
  obtain ⟨c, hc, rfl⟩ := List.mem_map.1 hx
  exact (h2 c hc).1
set_option maxRecDepth 100000 in
theorem openKernel {r : Reach} {b0 : Nat} {v : Value} {d : DataW H} {p : List MemPlace} (hv : Value.okWide Tryz.prog w r b0 26 v) (h : DataW.Trod enc Tryz.prog w base spare held 26 v d p) :
  ∃ at_ ct, ∃ T : List Nd, ∃ r a s g : Int, v = .agg #[.slice at_ T.length ct, .int .i64 r, .int .i64 a, .int .i64 s, .int .i64 g] ∧ T.length ≤ 9223372036854775807 ∧ (∀ x ∈ T, SmN 9223372036854775807 x) ∧ RdN w at_ T := by
 obtain ⟨cs, rfl, _⟩ := okWide_struct Tryz.underlying26 hv
 obtain ⟨fuel, hf⟩ := h
 obtain ⟨at_, ct, T, r, a, s, g, hx, h1⟩ := openKernelC fuel _ _ hf
 refine ⟨at_, ct, T, r, a, s, g, ?_, h1⟩
 have hx' : cs.toList = [.slice at_ T.length ct, .int .i64 r, .int .i64 a, .int .i64 s, .int .i64 g] := hx
 rw [← Array.toArray_toList (xs := cs), hx']
end
set_option maxHeartbeats 2000000 in
theorem toNd_any (x : Nd) (an ak : Option Addr) (cn ck : Nat) (w : World) (hs2 : x.N.length ≤ 1048576) (hs4 : x.K.length ≤ 1048576) (hn : Rd 1 encStr1 w an x.N) (hk : Rd 1 encInt1 w ak x.K) :
  Calls Tryz.prog 77 #[.agg #[.bool x.fold, .int .i64 x.own, .int .i64 x.grp, .int .i64 x.mode, .string x.text, .slice an x.N.length cn, .slice ak x.K.length ck]] w fun e w' => ∃ a1 c1 a2 c2, e = .returned (.agg #[.bool x.fold, .int .i64 x.own, .int .i64 x.grp, .int .i64 x.mode, .string x.text, .slice a1 x.N.length c1, .slice a2 x.K.length c2]) ∧ Sep w w' [pinNd.one ⟨x, a1, c1, a2, c2⟩ x] := by
 obtain ⟨f, o, g, m, s, N, K⟩ := x
 dsimp only at hs2 hs4 hn hk ⊢
 go_enter Tryz.func77, Tryz.ntmps77
 have S := Sep.start w
 replace S : Sep w (w.alloc (.cells #[.bool f, .int .i64 o, .int .i64 g, .int .i64 m, .string s, .slice an N.length cn, .slice ak K.length ck] 88)) [plBox w.heap.size #[.bool f, .int .i64 o, .int .i64 g, .int .i64 m, .string s, .slice an N.length cn, .slice ak K.length ck] 88] := S.alloc_at (by simp) _ _
 replace S : Sep w ((w.alloc (.cells #[.bool f, .int .i64 o, .int .i64 g, .int .i64 m, .string s, .slice an N.length cn, .slice ak K.length ck] 88)).alloc (.cells #[.bool false, .int .i64 0, .int .i64 0, .int .i64 0, .string ⟨#[]⟩, .slice none 0 0, .slice none 0 0] 89)) [plBox (w.heap.size + 1) #[.bool false, .int .i64 0, .int .i64 0, .int .i64 0, .string ⟨#[]⟩, .slice none 0 0, .slice none 0 0] 89, plBox w.heap.size #[.bool f, .int .i64 o, .int .i64 g, .int .i64 m, .string s, .slice an N.length cn, .slice ak K.length ck] 88] := S.alloc_at (by simp) _ _
 replace S : Sep w (((w.alloc (.cells #[.bool f, .int .i64 o, .int .i64 g, .int .i64 m, .string s, .slice an N.length cn, .slice ak K.length ck] 88)).alloc (.cells #[.bool false, .int .i64 0, .int .i64 0, .int .i64 0, .string ⟨#[]⟩, .slice none 0 0, .slice none 0 0] 89)).alloc (.cells #[.bool f, .int .i64 o, .int .i64 g, .int .i64 m, .string s, .slice none 0 0, .slice none 0 0] 89)) [plBox (w.heap.size + 1 + 1) #[.bool f, .int .i64 o, .int .i64 g, .int .i64 m, .string s, .slice none 0 0, .slice none 0 0] 89, plBox (w.heap.size + 1) #[.bool false, .int .i64 0, .int .i64 0, .int .i64 0, .string ⟨#[]⟩, .slice none 0 0, .slice none 0 0] 89, plBox w.heap.size #[.bool f, .int .i64 o, .int .i64 g, .int .i64 m, .string s, .slice an N.length cn, .slice ak K.length ck] 88] := S.alloc_at (by simp) _ _
 go_wp2_with fail
 generalize (((w.alloc (.cells #[.bool f, .int .i64 o, .int .i64 g, .int .i64 m, .string s, .slice an N.length cn, .slice ak K.length ck] 88)).alloc (.cells #[.bool false, .int .i64 0, .int .i64 0, .int .i64 0, .string ⟨#[]⟩, .slice none 0 0, .slice none 0 0] 89)).alloc (.cells #[.bool f, .int .i64 o, .int .i64 g, .int .i64 m, .string s, .slice none 0 0, .slice none 0 0] 89)) = w1 at *
 refine (toStr_any an cn N w1 hs2 (hn.ext S.ext)).mono ?_
 rintro e w2 ⟨u, rfl, ⟨ho, hv⟩, hE⟩
 obtain ⟨a1, c1, hv2, hk1, _, _⟩ := view_owns encStr1_len ho
 subst hv2
 clear hv
 have U := Sep.of_owns hE ho
 clear hE ho
 replace S : Sep w w2 [plRow 9 1 encStr1 (.slice a1 N.length c1) N, plBox (w.heap.size + 1 + 1) #[.bool f, .int .i64 o, .int .i64 g, .int .i64 m, .string s, .slice none 0 0, .slice none 0 0] 89, plBox (w.heap.size + 1) #[.bool false, .int .i64 0, .int .i64 0, .int .i64 0, .string ⟨#[]⟩, .slice none 0 0, .slice none 0 0] 89, plBox w.heap.size #[.bool f, .int .i64 o, .int .i64 g, .int .i64 m, .string s, .slice an N.length cn, .slice ak K.length ck] 88] := S.call U
 clear U
 obtain ⟨⟨obc0, obf0⟩, ⟨obc1, obf1⟩, ⟨obc2, obf2⟩, ⟨obc3, obf3⟩, ⟨obc4, obf4⟩, ⟨obc5, obf5⟩, ⟨obc6, obf6⟩⟩ := bx7 (S.box 1 rfl)
 obtain ⟨⟨rbc0, rbf0⟩, ⟨rbc1, rbf1⟩, ⟨rbc2, rbf2⟩, ⟨rbc3, rbf3⟩, ⟨rbc4, rbf4⟩, ⟨rbc5, rbf5⟩, ⟨rbc6, rbf6⟩⟩ := bx7 (S.box 2 rfl)
 obtain ⟨⟨a0c0, a0f0⟩, ⟨a0c1, a0f1⟩, ⟨a0c2, a0f2⟩, ⟨a0c3, a0f3⟩, ⟨a0c4, a0f4⟩, ⟨a0c5, a0f5⟩, ⟨a0c6, a0f6⟩⟩ := bx7 (S.box 3 rfl)
 go_wp2_with fail
 clear obc0 obf0 obc1 obf1 obc2 obf2 obc3 obf3 obc4 obf4 obc5 obf5 obc6 obf6 rbc0 rbf0 rbc1 rbf1 rbc2 rbf2 rbc3 rbf3 rbc4 rbf4 rbc5 rbf5 rbc6 rbf6 a0c0 a0f0 a0c1 a0f1 a0c2 a0f2 a0c3 a0f3 a0c4 a0f4 a0c5 a0f5 a0c6 a0f6
 replace S : Sep w (w2.setCell ⟨(w.heap.size + 1 + 1), 5, none⟩ (.slice a1 N.length c1)) [plRow 9 1 encStr1 (.slice a1 N.length c1) N, plBox (w.heap.size + 1 + 1) #[.bool f, .int .i64 o, .int .i64 g, .int .i64 m, .string s, .slice a1 N.length c1, .slice none 0 0] 89, plBox (w.heap.size + 1) #[.bool false, .int .i64 0, .int .i64 0, .int .i64 0, .string ⟨#[]⟩, .slice none 0 0, .slice none 0 0] 89, plBox w.heap.size #[.bool f, .int .i64 o, .int .i64 g, .int .i64 m, .string s, .slice an N.length cn, .slice ak K.length ck] 88] := S.set 1 rfl 5 _
 generalize (w2.setCell ⟨(w.heap.size + 1 + 1), 5, none⟩ (.slice a1 N.length c1)) = w3 at *
 refine (toIntS_any ak ck K w3 hs4 (hk.ext S.ext)).mono ?_
 rintro e w4 ⟨u, rfl, ⟨ho, hv⟩, hE⟩
 obtain ⟨a2, c2, hv2, hk2, _, _⟩ := view_owns encInt1_len ho
 subst hv2
 clear hv
 have U := Sep.of_owns hE ho
 clear hE ho
 replace S : Sep w w4 [plRow 3 1 encInt1 (.slice a2 K.length c2) K, plRow 9 1 encStr1 (.slice a1 N.length c1) N, plBox (w.heap.size + 1 + 1) #[.bool f, .int .i64 o, .int .i64 g, .int .i64 m, .string s, .slice a1 N.length c1, .slice none 0 0] 89, plBox (w.heap.size + 1) #[.bool false, .int .i64 0, .int .i64 0, .int .i64 0, .string ⟨#[]⟩, .slice none 0 0, .slice none 0 0] 89, plBox w.heap.size #[.bool f, .int .i64 o, .int .i64 g, .int .i64 m, .string s, .slice an N.length cn, .slice ak K.length ck] 88] := S.call U
 clear U
 obtain ⟨⟨obc0, obf0⟩, ⟨obc1, obf1⟩, ⟨obc2, obf2⟩, ⟨obc3, obf3⟩, ⟨obc4, obf4⟩, ⟨obc5, obf5⟩, ⟨obc6, obf6⟩⟩ := bx7 (S.box 2 rfl)
 obtain ⟨⟨rbc0, rbf0⟩, ⟨rbc1, rbf1⟩, ⟨rbc2, rbf2⟩, ⟨rbc3, rbf3⟩, ⟨rbc4, rbf4⟩, ⟨rbc5, rbf5⟩, ⟨rbc6, rbf6⟩⟩ := bx7 (S.box 3 rfl)
 obtain ⟨⟨a0c0, a0f0⟩, ⟨a0c1, a0f1⟩, ⟨a0c2, a0f2⟩, ⟨a0c3, a0f3⟩, ⟨a0c4, a0f4⟩, ⟨a0c5, a0f5⟩, ⟨a0c6, a0f6⟩⟩ := bx7 (S.box 4 rfl)
 go_wp2
 try simp only [Exit.inBlock, Exit.then]
 refine bodyPost_ret (v := .agg #[.bool f, .int .i64 o, .int .i64 g, .int .i64 m, .string s, .slice a1 N.length c1, .slice a2 K.length c2]) (by simp [results, Tryz.results77, go_sem, rbc0, rbc1, rbc2, rbc3, rbc4, rbc5, rbc6, obc0, obc1, obc2, obc3, obc4, obc5, obc6]) rfl ?_
 replace S : Sep w ((((((((w4.setCell ⟨(w.heap.size + 1 + 1), 6, none⟩ (.slice a2 K.length c2)).setCell ⟨(w.heap.size + 1), 0, none⟩ (.bool f)).setCell ⟨(w.heap.size + 1), 1, none⟩ (.int .i64 o)).setCell ⟨(w.heap.size + 1), 2, none⟩ (.int .i64 g)).setCell ⟨(w.heap.size + 1), 3, none⟩ (.int .i64 m)).setCell ⟨(w.heap.size + 1), 4, none⟩ (.string s)).setCell ⟨(w.heap.size + 1), 5, none⟩ (.slice a1 N.length c1)).setCell ⟨(w.heap.size + 1), 6, none⟩ (.slice a2 K.length c2)) [plRow 3 1 encInt1 (.slice a2 K.length c2) K, plRow 9 1 encStr1 (.slice a1 N.length c1) N] := ((((((((((S.set 2 rfl 6 _).set 3 rfl 0 _).set 3 rfl 1 _).set 3 rfl 2 _).set 3 rfl 3 _).set 3 rfl 4 _).set 3 rfl 5 _).set 3 rfl 6 _).drop 2).drop 2).drop 2
 exact ⟨a1, c1, a2, c2, rfl, S.ofRows 1 0 ⟨⟨f, o, g, m, s, N, K⟩, a1, c1, a2, c2⟩ rfl rfl (by decide)⟩
set_option maxHeartbeats 2000000 in
theorem toNdS_any (a : Option Addr) (cap : Nat) (T : List Nd) (w : World) (hl : T.length ≤ 1048576) (hs : ∀ x ∈ T, SmN 1048576 x) (hc : RdN w a T) :
  Calls Tryz.prog 42 #[.slice a T.length cap] w fun e w' => ∃ vs, e = .returned (.slice (some ⟨w.heap.size, 0, none⟩) T.length T.length) ∧ Sep w w' [plNd (.slice (some ⟨w.heap.size, 0, none⟩) T.length T.length) vs T] := by
 obtain ⟨i0, hi, hz0, hz1, hz2⟩ := info_parts infoNd
 have HS := Lib.hid hs
 clear hs
 go_enter Tryz.func42, Tryz.ntmps42
 go_wp2_with (at_make; refine wpList_make_full _ rfl _ _ 28 rfl w.heap.size 89 i0 _ 7 Tryz.underlying28 hi hz0 hz1 _ _ _ _ T.length rfl rfl rfl rfl ?b1 ?b2 ?b3 ?_)
 case b1 => rw [hz2]; omega
 case b2 => unfold maxLen; omega
 case b3 => exact Nat.le_refl _
 intro w1 hown1 hgr1
 have hE := ext_of_grown hgr1
 have S0 : Sep w w1 [plNd (.slice (some ⟨w.heap.size, 0, none⟩) T.length T.length) (List.replicate T.length zNc) (mixNd T 0)] := by
  rw [mixNd_zero]
  refine Sep.one (p := plNd _ _ _) hE (plG_make zNc_ok zNc_own ?_) (fun b hb => ?_)
  ·have h2 := ownsRow_base hown1 (Nat.zero_le _)
   rw [← madeNc]; exact h2
  ·rcases hb with hb | ⟨s, hs, hb⟩
   ·have : w.heap.size = b := Option.some.inj hb
    omega
   ·rw [(List.mem_replicate.1 hs).2] at hb
    exact absurd hb (zNc_own b)
 clear hgr1 hown1 hE
 go_wp2
 go_loopw [4] (fun i wr => ∃ (k : Nat) (vs : List Nc), k ≤ T.length ∧ i = .int .i64 k ∧ Sep w wr [plNd (.slice (some ⟨w.heap.size, 0, none⟩) T.length T.length) vs (mixNd T k)]) (fun i _ => T.length - (intOf i).toNat)
 case atStart => exact ⟨0, _, Nat.zero_le _, rfl, S0⟩
 case round =>
  clear S0
  obtain ⟨k, vs, hk, rfl, S⟩ := hrel
  by_cases hlk : k < T.length
  ·obtain ⟨x, b, off, an, cn, ak, ck, hx, hpe, c0, c1, c2, c3, c4, c5, c6, hcn, hck, hrn, hrk⟩ := atNd (hc.ext S.ext) hlk
   subst hpe
   have Hx := Lib.hid hx
   have hsx := HS.out x (List.mem_of_getElem? hx)
   have i0 : (k : Int) < (T.length : Int) := by omega
   clear hx hcn hck
   go_wp2_with fail
   refine (toNd_any x an ak cn ck wr hsx.2.1 hsx.2.2.2 hrn hrk).mono ?_
   rintro e w2 ⟨a1, d1, a2, d2, rfl, U⟩
   replace S := S.call U
   clear U c0 c1 c2 c3 c4 c5 c6 hrn hrk
   have hvl := plG_len (S.at_ 1 rfl)
   rw [mixNd_len T k hk] at hvl
   have hrow : w2.ownsRow w.heap.size 89 7 (.slice (some ⟨w.heap.size, 0, none⟩) T.length T.length) T.length (vs.flatMap encNc) := by
    have h := S.gRow 1 rfl
    rw [hvl] at h; exact h
   have hkv : k < vs.length := by omega
   have g0 : w2.cell? ⟨w.heap.size, k * 7, none⟩ = some _ := owns_at encNc_len hrow k hkv 0 _ rfl
   have g1 : w2.cell? ⟨w.heap.size, k * 7 + 1, none⟩ = some _ := owns_at encNc_len hrow k hkv 1 _ rfl
   have g2 : w2.cell? ⟨w.heap.size, k * 7 + 2, none⟩ = some _ := owns_at encNc_len hrow k hkv 2 _ rfl
   have g3 : w2.cell? ⟨w.heap.size, k * 7 + 3, none⟩ = some _ := owns_at encNc_len hrow k hkv 3 _ rfl
   have g4 : w2.cell? ⟨w.heap.size, k * 7 + 4, none⟩ = some _ := owns_at encNc_len hrow k hkv 4 _ rfl
   have g5 : w2.cell? ⟨w.heap.size, k * 7 + 5, none⟩ = some _ := owns_at encNc_len hrow k hkv 5 _ rfl
   have g6 : w2.cell? ⟨w.heap.size, k * 7 + 6, none⟩ = some _ := owns_at encNc_len hrow k hkv 6 _ rfl
   have f0 := hrow.frozenAt
   have S2 := S.gPut 1 0 encNc_len (s := ⟨x, a1, d1, a2, d2⟩) (t := x) (k := k) rfl rfl (by decide) hkv
   rw [mixNd_set T k x Hx.out] at S2
   have S3 : Sep w (setCells w2 w.heap.size (k * 7) (encNc ⟨x, a1, d1, a2, d2⟩)) [plNd (.slice (some ⟨w.heap.size, 0, none⟩) T.length T.length) (vs.set k ⟨x, a1, d1, a2, d2⟩) (mixNd T (k + 1))] := S2
   have HS3 := Lib.hid S3
   clear S2 S3 S hrow hvl hsx
   go_wp2
   go_roundw
   case rel => exact ⟨k + 1, _, by omega, by go_num, by simpa [setCells, encNc] using HS3.out⟩
   case measure => simp [intOf]; omega
  ·obtain rfl : k = T.length := by omega
   have hni : ¬ (T.length : Int) < (T.length : Int) := by omega
   rw [mixNd_full] at S
   go_wp2
   go_ret
   exact ⟨rfl, vs, S⟩
set_option maxHeartbeats 4000000 in
theorem eqNd_any (x y : Nd) (a1 a2 b1 b2 : Option Addr) (c1 c2 d1 d2 : Nat) (w : World) (h1 : x.N.length ≤ 9223372036854775807) (h2 : x.K.length ≤ 9223372036854775807) (h3 : y.N.length ≤ 9223372036854775807) (h4 : y.K.length ≤ 9223372036854775807)
    (hn : Rd 1 encStr1 w a1 x.N) (hk : Rd 1 encInt1 w a2 x.K) (hm : Rd 1 encStr1 w b1 y.N) (hl : Rd 1 encInt1 w b2 y.K) :
    Calls Tryz.prog 92 #[.agg #[.bool x.fold, .int .i64 x.own, .int .i64 x.grp, .int .i64 x.mode, .string x.text, .slice a1 x.N.length c1, .slice a2 x.K.length c2], .agg #[.bool y.fold, .int .i64 y.own, .int .i64 y.grp, .int .i64 y.mode, .string y.text, .slice b1 y.N.length d1, .slice b2 y.K.length d2]] w (RetB (x = y) w) := by
  obtain ⟨f, o, g, m, s, N, K⟩ := x
  obtain ⟨f', o', g', m', s', N', K'⟩ := y
  dsimp only at h1 h2 h3 h4 hn hk hm hl ⊢
  simp only [Nd.mk.injEq]
  by_cases e1 : f = f'
  case neg =>
    cases f <;> cases f' <;> first
      | exact absurd rfl e1
      | (clear e1
         go_enter Tryz.func92, Tryz.ntmps92
         go_wp2
         go_ret
         exact RetB.mk false rfl (by simp) (((Ext.refl _).alloc _).alloc _))
  subst e1
  by_cases e2 : o = o'
  case neg =>
    have t2 : (o != o') = true := by simpa using e2
    go_enter Tryz.func92, Tryz.ntmps92
    go_wp2
    go_ret
    exact RetB.mk false rfl (by simp [e2]) (((Ext.refl _).alloc _).alloc _)
  subst e2
  by_cases e3 : g = g'
  case neg =>
    have t2 : (g != g') = true := by simpa using e3
    go_enter Tryz.func92, Tryz.ntmps92
    go_wp2
    go_ret
    exact RetB.mk false rfl (by simp [e3]) (((Ext.refl _).alloc _).alloc _)
  subst e3
  by_cases e4 : m = m'
  case neg =>
    have t2 : (m != m') = true := by simpa using e4
    go_enter Tryz.func92, Tryz.ntmps92
    go_wp2
    go_ret
    exact RetB.mk false rfl (by simp [e4]) (((Ext.refl _).alloc _).alloc _)
  subst e4
  by_cases e5 : s = s'
  case neg =>
    have t2 : (s.toList == s'.toList) = false := by simpa [bytes_eq] using e5
    go_enter Tryz.func92, Tryz.ntmps92
    go_wp2
    go_ret
    exact RetB.mk false rfl (by simp [e5]) (((Ext.refl _).alloc _).alloc _)
  subst e5
  simp only [true_and]
  go_enter Tryz.func92, Tryz.ntmps92
  have S := Sep.start w
  replace S : Sep w (w.alloc (.cells #[.bool f, .int .i64 o, .int .i64 g, .int .i64 m, .string s, .slice a1 N.length c1, .slice a2 K.length c2] 89)) [plBox w.heap.size #[.bool f, .int .i64 o, .int .i64 g, .int .i64 m, .string s, .slice a1 N.length c1, .slice a2 K.length c2] 89] := S.alloc_at (by simp) _ _
  replace S : Sep w ((w.alloc (.cells #[.bool f, .int .i64 o, .int .i64 g, .int .i64 m, .string s, .slice a1 N.length c1, .slice a2 K.length c2] 89)).alloc (.cells #[.bool f, .int .i64 o, .int .i64 g, .int .i64 m, .string s, .slice b1 N'.length d1, .slice b2 K'.length d2] 89)) [plBox (w.heap.size + 1) #[.bool f, .int .i64 o, .int .i64 g, .int .i64 m, .string s, .slice b1 N'.length d1, .slice b2 K'.length d2] 89, plBox w.heap.size #[.bool f, .int .i64 o, .int .i64 g, .int .i64 m, .string s, .slice a1 N.length c1, .slice a2 K.length c2] 89] := S.alloc_at (by simp) _ _
  go_wp2_with fail
  generalize ((w.alloc (.cells #[.bool f, .int .i64 o, .int .i64 g, .int .i64 m, .string s, .slice a1 N.length c1, .slice a2 K.length c2] 89)).alloc (.cells #[.bool f, .int .i64 o, .int .i64 g, .int .i64 m, .string s, .slice b1 N'.length d1, .slice b2 K'.length d2] 89)) = w1 at *
  refine (eqStr_any a1 b1 c1 d1 N N' w1 h1 h3 (hn.ext S.ext) (hm.ext S.ext)).mono ?_
  rintro e w2 ⟨v1, rfl, hv1, hE⟩
  have Hv1 := Lib.hid hv1
  clear hv1
  replace S := S.step hE
  clear hE
  cases v1 with
  | false =>
    go_wp2
    go_ret
    exact RetB.mk false rfl (by simp only [Bool.false_eq_true, false_iff]; exact fun h => Bool.noConfusion (Hv1.out.2 h.1)) S.ext
  | true =>
    obtain ⟨⟨qc0, qf0⟩, ⟨qc1, qf1⟩, ⟨qc2, qf2⟩, ⟨qc3, qf3⟩, ⟨qc4, qf4⟩, ⟨qc5, qf5⟩, ⟨qc6, qf6⟩⟩ := bx7 (S.box 0 rfl)
    obtain ⟨⟨pc0, pf0⟩, ⟨pc1, pf1⟩, ⟨pc2, pf2⟩, ⟨pc3, pf3⟩, ⟨pc4, pf4⟩, ⟨pc5, pf5⟩, ⟨pc6, pf6⟩⟩ := bx7 (S.box 1 rfl)
    go_wp2_with fail
    refine (eqIntS_any a2 b2 c2 d2 K K' w2 h2 h4 (hk.ext S.ext) (hl.ext S.ext)).mono ?_
    rintro e w3 ⟨v2, rfl, hv2, hE⟩
    have Hv2 := Lib.hid hv2
    clear hv2
    clear qc0 qf0 qc1 qf1 qc2 qf2 qc3 qf3 qc4 qf4 qc5 qf5 qc6 qf6 pc0 pf0 pc1 pf1 pc2 pf2 pc3 pf3 pc4 pf4 pc5 pf5 pc6 pf6
    replace S := S.step hE
    clear hE
    cases v2 with
    | false =>
      go_wp2
      go_ret
      exact RetB.mk false rfl (by simp only [Bool.false_eq_true, false_iff]; exact fun h => Bool.noConfusion (Hv2.out.2 h.2)) S.ext
    | true =>
      go_wp2
      go_ret
      exact RetB.mk true rfl (by simp only [true_iff]; exact ⟨Hv1.out.1 (by trivial), Hv2.out.1 (by trivial)⟩) S.ext
theorem extNd {l m : List Nd} (hl : l.length = m.length) (h : ∀ j, j < l.length → l[j]? = m[j]?) : l = m := by
  apply List.ext_getElem?
  intro j
  by_cases hj : j < l.length
  · exact h j hj
  · rw [List.getElem?_eq_none (by omega), List.getElem?_eq_none (by omega)]
set_option maxRecDepth 10000 in
set_option maxHeartbeats 4000000 in
theorem eqNdS_any (a a' : Option Addr) (cap cap' : Nat) (T U : List Nd) (w : World) (hl : T.length ≤ 9223372036854775807) (hm : U.length ≤ 9223372036854775807) (hlt : ∀ t ∈ T, SmN 9223372036854775807 t) (hlu : ∀ t ∈ U, SmN 9223372036854775807 t) (hc : RdN w a T) (hd : RdN w a' U) :
    Calls Tryz.prog 49 #[.slice a T.length cap, .slice a' U.length cap'] w (RetB (T = U) w) := by
  have HLT := Lib.hid hlt
  have HLU := Lib.hid hlu
  clear hlt hlu
  by_cases hlen : T.length = U.length
  · have ht : ((T.length : Int) != (U.length : Int)) = false := by simp; omega
    have Hlen := Lib.hid hlen
    clear hlen
    go_enter Tryz.func49, Tryz.ntmps49
    go_wp2
    go_loopw [5] (fun i wr => ∃ k : Nat, k ≤ T.length ∧ i = .int .i64 k ∧ (∀ j, j < k → T[j]? = U[j]?) ∧ Ext w wr) (fun i _ => T.length - (intOf i).toNat)
    case atStart => exact ⟨0, Nat.zero_le _, rfl, fun _ h => absurd h (Nat.not_lt_zero _), Ext.refl _⟩
    case round =>
      obtain ⟨k, hk, rfl, hpre, hb⟩ := hrel
      have Hpre := Lib.hid hpre
      clear hpre ht
      by_cases hlk : k < T.length
      · have hltm : k < U.length := by have := Hlen.out; omega
        obtain ⟨x, b, off, an, cn, ak, ck, hx, rfl, c0, c1, c2, c3, c4, c5, c6, hcn, hck, hrn, hrk⟩ := atNd (hc.ext hb) hlk
        obtain ⟨y, b', off', an', cn', ak', ck', hy, rfl, d0, d1, d2, d3, d4, d5, d6, hdn, hdk, hsn, hsk⟩ := atNd (hd.ext hb) hltm
        have Hx := Lib.hid hx
        have Hy := Lib.hid hy
        have s1 := (HLT.out x (List.mem_of_getElem? hx)).2
        have s2 := (HLU.out y (List.mem_of_getElem? hy)).2
        have S1 := Lib.hid s1
        have S2 := Lib.hid s2
        have i0 : (k : Int) < (T.length : Int) := by omega
        have i1 : (k : Int) < (U.length : Int) := by omega
        clear hx hy hcn hck hdn hdk s1 s2
        go_wp2
        go_still_tail 8, (by kernel_rfl)
        change wpList _ _ _ _ _ wr.drew
        generalize hw2 : wr.drew = w2
        have hb2 : Ext w w2 := by rw [← hw2]; exact hb.drew
        have he2 : Ext wr w2 := by rw [← hw2]; exact (Ext.refl wr).drew
        clear hw2 hb c0 d0 c1 d1 c2 d2 c3 d3 c4 d4 c5 d5 c6 d6
        go_wp2_with fail
        refine (eqNd_any x y an ak an' ak' cn ck cn' ck' w2 S1.out.1 S1.out.2.2 S2.out.1 S2.out.2.2 (hrn.ext he2) (hrk.ext he2) (hsn.ext he2) (hsk.ext he2)).mono ?_
        rintro e w3 ⟨b0, rfl, he, hb3⟩
        have He := Lib.hid he
        clear he hrn hrk hsn hsk he2
        cases b0 with
        | false =>
          go_wp2
          go_ret
          exact RetB.mk false rfl (by simp only [Bool.false_eq_true, false_iff]; intro h; subst h; have h1 := Hx.out; rw [Hy.out] at h1; cases h1; exact Bool.noConfusion (He.out.2 rfl)) (hb2.trans hb3)
        | true =>
          have Hxy : Hid (x = y) := Lib.hid (He.out.1 rfl)
          go_wp2
          go_roundw
          case rel => exact ⟨k + 1, by omega, by go_num, fun j hj => (Nat.lt_succ_iff_lt_or_eq.1 hj).elim (Hpre.out j) (fun e => by rw [e, Hx.out, Hy.out, Hxy.out]), hb2.trans hb3⟩
          case measure => simp [intOf]; omega
      · go_wp2
        go_ret
        exact RetB.mk true rfl (by simp only [true_iff]; exact extNd Hlen.out (fun j hj => Hpre.out j (by omega))) hb
  · have ht : ((T.length : Int) != (U.length : Int)) = true := by simp; omega
    have Hlen := Lib.hid hlen
    clear hlen
    go_enter Tryz.func49, Tryz.ntmps49
    go_wp2
    go_ret
    exact RetB.mk false rfl (by simp only [Bool.false_eq_true, false_iff]; intro h; exact Hlen.out (by rw [h])) (Ext.refl _)
end Go.Proofs.YtnibbldfohbfkaaGreatDoor
