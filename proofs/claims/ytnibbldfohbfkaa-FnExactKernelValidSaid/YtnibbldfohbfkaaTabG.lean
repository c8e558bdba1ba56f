/- Rows of elements that have memory of their own in them, as one piece of memory. No condition. -/
import Derived.Test.YtnibbldfohbfkaaTab
namespace Go.Proofs.Ytnibbldfohbfkaa
open Go.RowKit

/-- What an element has besides its cells. -/
structure Pin (β α : Type) where
  own : β → Nat → Prop
  ok : β → α → World → Prop
  frame : ∀ s t w w', ok s t w → (∀ b, own s b → w'.heap[b]? = w.heap[b]?) → ok s t w'
  lt : ∀ s t w b, ok s t w → own s b → b < w.heap.size
def Pin.one {β α : Type} (P : Pin β α) (s : β) (t : α) : Pl := ⟨P.own s, P.ok s t, P.frame s t, P.lt s t⟩

section
variable {β α : Type}
def plG (e nf : Nat) (enc : β → List Value) (P : Pin β α) (u : Value) (vs : List β) (T : List α) : Pl where
  own b := u.ownBlock = some b ∨ ∃ s ∈ vs, P.own s b
  ok w := w.ownsRow 0 e nf u vs.length (vs.flatMap enc) ∧ vs.length = T.length ∧ (∀ (i : Nat) (s : β) (t : α), vs[i]? = some s → T[i]? = some t → P.ok s t w) ∧
    (∀ s ∈ vs, ∀ b : Nat, P.own s b → u.ownBlock ≠ some b) ∧ (∀ (i j : Nat) (s s' : β), i ≠ j → vs[i]? = some s → vs[j]? = some s' → ∀ b : Nat, P.own s b → ¬ P.own s' b)
  frame := fun w w' h hf => by
    obtain ⟨h1, h2, h3, h4, h5⟩ := h
    exact ⟨(plRow e nf enc u vs).frame w w' h1 (fun b hb => hf b (.inl hb)), h2, fun i s t hs ht => P.frame s t w w' (h3 i s t hs ht) (fun b hb => hf b (.inr ⟨s, List.mem_of_getElem? hs, hb⟩)), h4, h5⟩
  lt := fun w k h hk => by
    obtain ⟨h1, h2, h3, h4, h5⟩ := h
    rcases hk with hk | ⟨s, hs, hk⟩
    · exact (plRow e nf enc u vs).lt w k h1 hk
    · obtain ⟨i, hi⟩ := List.getElem?_of_mem hs
      have hil := (List.getElem?_eq_some_iff.1 hi).1
      exact P.lt s T[i] w k (h3 i s T[i] hi (List.getElem?_eq_getElem (by omega))) hk

variable {e nf : Nat} {enc : β → List Value} {P : Pin β α}
theorem plG_len {w : World} {u : Value} {vs : List β} {T : List α} (h : (plG e nf enc P u vs T).ok w) : vs.length = T.length := h.2.1
theorem plG_make {w : World} {u : Value} {n : Nat} {z : β} {zt : α} (hz : ∀ w, P.ok z zt w) (hn : ∀ b, ¬ P.own z b) (h : w.ownsRow 0 e nf u n ((List.replicate n z).flatMap enc)) : (plG e nf enc P u (List.replicate n z) (List.replicate n zt)).ok w := by
  have key : ∀ (i : Nat) (s : β), (List.replicate n z)[i]? = some s → s = z := fun i s hs => (List.mem_replicate.1 (List.mem_of_getElem? hs)).2
  refine ⟨by rw [List.length_replicate]; exact h, by simp, fun i s t hs ht => ?_, fun s hs b hb => ?_, fun i j s s' _ hs hs' b hb => ?_⟩
  · rw [key i s hs, (List.mem_replicate.1 (List.mem_of_getElem? ht)).2]
    exact hz w
  · rw [(List.mem_replicate.1 hs).2] at hb
    exact absurd hb (hn b)
  · rw [key i s hs] at hb
    exact absurd hb (hn b)
theorem chg_setCells (w : World) (g p : Nat) (us : List Value) : Chg (fun k => k = g) w (setCells w g p us) :=
  (Chg.of_row (grown_setCells us p (grown_of_ext (Ext.refl w) (some g)))).mono (fun k hk _ => (Option.some.inj hk).symm)

variable {M : Nat → Prop} {w0 w w' : World} {H : List Pl}
theorem SepM.gRow (S : SepM M w0 w H) (i : Nat) {u : Value} {vs : List β} {T : List α} (h : H[i]? = some (plG e nf enc P u vs T)) : w.ownsRow w0.heap.size e nf u vs.length (vs.flatMap enc) := by
  have h0 := (S.at_ i h).1
  refine ⟨h0.1, ?_⟩
  rcases h0.2 with h2 | ⟨g, cap, cur, hv, hb, r⟩
  · exact .inl h2
  · exact .inr ⟨g, cap, cur, hv, (S.lt (List.mem_of_getElem? h) (show u.ownBlock = some g ∨ _ from .inl (by rw [hv]; rfl))).1, r⟩
/-- An element of its own comes to the place of one. -/
theorem SepM.gPut (S : SepM M w0 w H) (i j : Nat) (hn : ∀ x, (enc x).length = nf) {g n cap : Nat} {vs : List β} {T : List α} {s : β} {t : α} {k : Nat} (hi : H[i]? = some (plG e nf enc P (.slice (some ⟨g, 0, none⟩) n cap) vs T)) (hj : H[j]? = some (P.one s t)) (hij : i ≠ j) (hk : k < vs.length) :
    SepM M w0 (setCells w g (k * nf) (enc s)) ((H.set i (plG e nf enc P (.slice (some ⟨g, 0, none⟩) n cap) (vs.set k s) (T.set k t))).eraseIdx j) := by
  obtain ⟨h1, h2, h3, h4, h5⟩ := S.at_ i hi
  have hjm := List.mem_of_getElem? hj
  have hnew : ∀ b, P.own s b → ¬ (plG e nf enc P (.slice (some ⟨g, 0, none⟩) n cap) vs T).own b := fun b hb => S.ne hj hi (fun e => hij e.symm) hb
  have hlen : n = vs.length := by
    rcases h1.2 with ⟨e, _⟩ | ⟨g', cap', cur, e, _⟩
    · simp at e
    · simp only [Value.slice.injEq] at e; exact e.2.1
  have hset := owns_put hn (show w.ownsRow 0 e nf (.slice (some ⟨g, 0, none⟩) n cap) n (vs.flatMap enc) by rw [hlen]; rw [hlen] at h1; exact h1) k s hk
  have hchg := chg_setCells w g (k * nf) (enc s)
  refine S.fuse i j hi hj hij (hchg.mono (fun b hb _ => .inl (by rw [hb]; rfl))) (fun hr => ⟨by rw [List.length_set, ← hlen]; exact hset, by simp [h2], fun l s2 t2 hs2 ht2 => ?_, fun s2 hs2 b hb hb2 => ?_, fun l m s2 s3 hlm hs2 hs3 b hb hb3 => ?_⟩) (fun b hb => ?_)
  · by_cases hlk : k = l
    · subst hlk
      rw [List.getElem?_set_self hk] at hs2
      rw [List.getElem?_set_self (by omega)] at ht2
      cases hs2; cases ht2
      exact hr
    · rw [List.getElem?_set_ne hlk] at hs2 ht2
      have h6 := h3 l s2 t2 hs2 ht2
      exact P.frame s2 t2 w _ h6 (fun b hb => hchg.block b (P.lt s2 t2 w b h6 hb) (fun e => h4 s2 (List.mem_of_getElem? hs2) b hb (by rw [e]; rfl)))
  · rcases List.mem_or_eq_of_mem_set hs2 with hs2 | rfl
    · exact h4 s2 hs2 b hb hb2
    · exact hnew b hb (.inl hb2)
  · by_cases hlk : k = l
    · subst hlk
      rw [List.getElem?_set_self hk] at hs2
      cases hs2
      rw [List.getElem?_set_ne hlm] at hs3
      exact hnew b hb (.inr ⟨s3, List.mem_of_getElem? hs3, hb3⟩)
    · rw [List.getElem?_set_ne hlk] at hs2
      by_cases hmk : k = m
      · subst hmk
        rw [List.getElem?_set_self hk] at hs3
        cases hs3
        exact hnew b hb3 (.inr ⟨s2, List.mem_of_getElem? hs2, hb⟩)
      · rw [List.getElem?_set_ne hmk] at hs3
        exact h5 l m s2 s3 hlm hs2 hs3 b hb hb3
  · rcases hb with hb | ⟨s2, hs2, hb⟩
    · exact .inl (.inl hb)
    · rcases List.mem_or_eq_of_mem_set hs2 with hs2 | rfl
      · exact .inl (.inr ⟨s2, hs2, hb⟩)
      · exact .inr (.inl hb)
end
end Go.Proofs.Ytnibbldfohbfkaa
