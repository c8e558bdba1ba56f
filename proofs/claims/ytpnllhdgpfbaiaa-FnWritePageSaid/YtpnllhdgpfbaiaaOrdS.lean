/- A region that draws its order, whose operations may write: as wp_region_v, over whatever relation C between worlds, and with a state that is counted by operations. No condition. -/
import Derived.Test.YtpnllhdgpfbaiaaOrd
namespace Go.Proofs.Ytpnllhdgpfbaiaa
open Go.RowKit

section
variable {P : Program}

/-- What one operation leaves: C between the worlds, S1 behind it. -/
def OneSt (C : World → World → Prop) (S1 : World → Prop) (V : Value → World → Prop) (o : Oper) (a : Act) (w : World) : Exit → Act → World → Prop :=
  fun e a' w' => e = .normal ∧ ∃ v, a' = a.put o.dst v ∧ V v w' ∧ C w w' ∧ S1 w'

theorem wp_of_oneS {o : Oper} {a : Act} {w : World} {K : Act → World → Prop} {V : Value → World → Prop} {Q : Exit → Act → World → Prop} {ops : Array Oper} {i : Nat} {C : World → World → Prop} {S1 : World → Prop} (ho : ops[i]? = some o)
    (h : wpList P ops (OneSt C S1 V o a w) [o] a w) (hK : ∀ v w', V v w' → C w w' → S1 w' → K (a.put o.dst v) w') : wpOp P ops Q i K a w := by
  have hno : ¬ LetsOut (OneSt C S1 V o a w) := by rintro ⟨a', w', h', _⟩; cases h'
  unfold wpOp
  simp only [ho]
  simp only [wpList] at h
  split
  · rename_i hw
    rw [if_pos hw] at h
    left
    rcases h with h | ⟨_, h⟩
    · unfold Oper.wp at *
      generalize (execOp a.eval o).run P w = r at *
      cases r with
      | ok x w1 =>
        cases x <;> simp only [Oper.upon] at h ⊢
        case enter f args => exact h.mono fun e w2 he => by
                              cases e with
                              | returned v => obtain ⟨_, u, h1, h2, h3, h4⟩ := he; show K _ _; rw [h1]; exact hK u w2 h2 h3 h4
                              | panicked ch => obtain ⟨h1, _⟩ := he; cases h1
                              | outgrown => exact absurd he hno
        case row r1 args => exact h.mono fun v w2 he => by obtain ⟨_, u, h1, h2, h3, h4⟩ := he; rw [h1]; exact hK u w2 h2 h3 h4
        all_goals (obtain ⟨_, u, h1, h2, h3, h4⟩ := h; rw [h1]; exact hK u _ h2 h3 h4)
      | halt x w1 => cases x <;> simp only [Oper.upon] at h ⊢ <;> (obtain ⟨h1, _⟩ := h; cases h1)
    · exact absurd h hno
  · rename_i hw
    rw [if_neg hw] at h
    obtain ⟨_, u, h1, h2, h3, h4⟩ := h
    rw [h1]
    exact hK u w h2 h3 h4

structure HInvS (C : World → World → Prop) (S : Nat → World → Prop) (f : Nat) (V : Nat → Value → World → Prop) (l : List Oper) (n : Nat) (a0 : Act) (w0 : World) (listed : Array Bool) (a : Act) (w : World) : Prop where
  head : HeadInv .any l.toArray n listed
  ext : C w0 w
  st : ∃ k, k + f = n ∧ S k w
  vals : ∃ vs : List Value, vs.length = n ∧ a = putAll a0 (l.take n) vs ∧ ∀ i, i < n → listed.getD i false = true → V i (vs.getD i undef) w

theorem wpAny_headS {C : World → World → Prop} {S : Nat → World → Prop} (hCt : ∀ a b c, C a b → C b c → C a c) {V : Nat → Value → World → Prop} {l : List Oper} {n : Nat} {a0 : Act} {w0 : World} {Q : Exit → Act → World → Prop} (hn : n ≤ l.length)
    (hH : headB l a0.tmps.size n = true) (hT : tailB l n = true) (hS : Region.seqB .any l.toArray (l.length - n) n (markN n l.length) = true)
    (hst : ∀ i v w w', V i v w → C w w' → V i v w')
    (hstep : ∀ i o, i < n → l[i]? = some o → ∀ k, k < n → ∀ vs w, vs.length = n → C w0 w → S k w → Waits V o vs w → wpList P l.toArray (OneSt C (S (k + 1)) (V i) o (putAll a0 (l.take n) vs) w) [o] (putAll a0 (l.take n) vs) w)
    (hend : ∀ vs w, vs.length = n → C w0 w → S n w → (∀ i, i < n → V i (vs.getD i undef) w) → wpList P l.toArray Q (l.drop n) (putAll a0 (l.take n) vs) w) :
    ∀ (f : Nat) (listed : Array Bool) (a : Act) (w : World), unlisted listed n = f → HInvS C S f V l n a0 w0 listed a w → wpAny P .any l.toArray Q (f + (l.length - n)) listed a w := by
  have hop : ∀ i o, i < n → l[i]? = some o → (∀ d, o.dst = some d → ∀ j o', (l.take n)[j]? = some o' → j ≠ i → o'.dst ≠ some d) ∧ (∀ e ∈ o.after.toList, Region.binds .any e = true → e.on < i) := by
    intro i o hi ho
    have h1 := List.all_eq_true.1 hH i (List.mem_range.2 hi)
    simp only [ho, Bool.and_eq_true] at h1
    refine ⟨fun d hd j o' hj hne => ?_, fun e he hb => ?_⟩
    · have h2 := h1.1
      simp only [hd, Bool.and_eq_true] at h2
      have hjn : j < n := by
        have := (List.getElem?_eq_some_iff.1 hj).1
        simp at this; omega
      have h3 := List.all_eq_true.1 h2.2 j (List.mem_range.2 hjn)
      rw [List.getElem?_take, if_pos hjn] at hj
      simp only [hj, Bool.or_eq_true, decide_eq_true_eq] at h3
      exact h3.resolve_left hne
    · have h3 := List.all_eq_true.1 h1.2 e he
      simp only [Bool.or_eq_true, Bool.not_eq_true', hb, decide_eq_true_eq] at h3
      exact h3.resolve_left (by simp)
  have htailno : ∀ listed, HeadInv .any l.toArray n listed → (∃ i, i < n ∧ listed.getD i true = false) → ∀ t, n ≤ t → t ∉ Region.ready .any l.toArray listed := by
    intro listed inv ⟨i, hi, hun⟩ t ht
    simp only [tailB, Bool.or_eq_true, Bool.and_eq_true, decide_eq_true_eq] at hT
    rcases hT with h | h
    · intro hr
      obtain ⟨_, o, ho, _⟩ := mem_ready.1 hr
      have := (Array.getElem?_eq_some_iff.1 ho).1
      simp at this; omega
    · exact tail_waits h.1.2 h.2 (by simpa using h.1.1) inv _ i rfl hi hun t ht
  intro f
  induction f with
  | zero =>
    intro listed a w hf inv
    obtain ⟨vs, hvl, rfl, hV⟩ := inv.vals
    have hall := unlisted_zero hf
    have hlist : listed = markN n l.length := by
      apply Array.ext_getElem?
      intro i
      have hsz := inv.head.size
      simp only [List.size_toArray] at hsz
      by_cases hi : i < l.length
      · have hil : i < listed.size := by omega
        rw [Array.getElem?_eq_getElem hil]
        by_cases hin : i < n
        · have := hall i hin
          simp only [Array.getD_eq_getD_getElem?, Array.getElem?_eq_getElem hil, Option.getD_some] at this
          simp [markN, hi, hin, this]
        · have := inv.head.tail i (by omega) (by simpa using hi)
          simp only [Array.getD_eq_getD_getElem?, Array.getElem?_eq_getElem hil, Option.getD_some] at this
          simp [markN, hi, hin, this]
      · rw [Array.getElem?_eq_none (by omega), Array.getElem?_eq_none (by simp [markN]; omega)]
    rw [hlist]
    have hSn : S n w := by
      obtain ⟨k, hk, hs⟩ := inv.st
      have e : k = n := by omega
      rw [e] at hs; exact hs
    have := wpAny_of_seq (P := P) (md := .any) (Q' := Q) (ops := l.toArray) (l.drop n) n (markN n l.length) (putAll a0 (l.take n) vs) w (fun j => by simp [List.getElem?_drop]) (by rw [List.length_drop]; exact hS) (hend vs w hvl inv.ext hSn (fun i hi => hV i hi (hall i hi)))
    rw [List.length_drop] at this
    rw [Nat.zero_add]
    exact this
  | succ f ih =>
    intro listed a w hf inv
    rw [show f + 1 + (l.length - n) = (f + (l.length - n)) + 1 by omega]
    obtain ⟨vs, hvl, rfl, hV⟩ := inv.vals
    obtain ⟨i0, hi0, hun0, hmin⟩ := unlisted_pos (show unlisted listed n ≠ 0 by omega)
    have hsz := inv.head.size
    simp only [List.size_toArray] at hsz
    have hun0' : listed.getD i0 true = false := getD_in (by omega) hun0
    refine ⟨fun hnil => ?_, fun i hi => ?_⟩
    · exfalso
      obtain ⟨o, ho⟩ : ∃ o, l[i0]? = some o := ⟨_, List.getElem?_eq_getElem (by omega)⟩
      have : i0 ∈ Region.ready .any l.toArray listed := mem_ready.2 ⟨hun0', o, by simpa using ho, fun e he hb => hmin _ ((hop i0 o hi0 ho).2 e (by simpa using he) hb)⟩
      rw [hnil] at this
      cases this
    · have hin : i < n := by
        rcases Nat.lt_or_ge i n with h | h
        · exact h
        · exact absurd hi (htailno listed inv.head ⟨i0, hi0, hun0'⟩ i h)
      obtain ⟨hun, o, ho, hall⟩ := mem_ready.1 hi
      have ho' : l[i]? = some o := by simpa using ho
      obtain ⟨ks, hks, hss⟩ := inv.st
      refine wp_of_oneS ho (hstep i o hin ho' ks (by omega) vs w hvl inv.ext hss (fun e he hb => hV e.on (by have := (hop i o hin ho').2 e he hb; omega) (hall e (by simpa using he) hb))) (fun v w' hv hE hS1 => ?_)
      refine ih _ _ _ (by have := unlisted_set hin hun; omega) ⟨inv.head.set hi hin, hCt _ _ _ inv.ext hE, ⟨ks + 1, by omega, hS1⟩, vs.set i v, by simpa using hvl, ?_, fun j hj hlj => ?_⟩
      · exact putAll_put a0 (l.take n) vs i o v (by rw [List.getElem?_take, if_pos hin]; exact ho') (by simp; omega) (hop i o hin ho').1
      · by_cases hij : i = j
        · subst hij
          rw [List.getD_eq_getElem?_getD, List.getElem?_set_self (by omega)]
          exact hv
        · rw [getD_set_ne false hij] at hlj
          rw [List.getD_eq_getElem?_getD, List.getElem?_set_ne hij, ← List.getD_eq_getElem?_getD]
          exact hst j _ _ _ (hV j hj hlj) hE

/-- The region, in whatever order: C between the worlds, S k behind k operations. -/
theorem wp_region_s {V : Nat → Value → World → Prop} (C : World → World → Prop) (S : Nat → World → Prop) {l : List Oper} (n : Nat) {id : Nat} {a0 : Act} {w : World} {Q : Exit → Act → World → Prop} (hm : P.follows .mixedOrders = true)
    (hn : n ≤ l.length) (hH : headB l a0.tmps.size n = true) (hT : tailB l n = true) (hS : Region.seqB .any l.toArray (l.length - n) n (markN n l.length) = true)
    (hC0 : C w.drew w.drew) (hCt : ∀ a b c, C a b → C b c → C a c) (hS0 : S 0 w.drew)
    (hst : ∀ i v w w', V i v w → C w w' → V i v w')
    (hstep : ∀ i o, i < n → l[i]? = some o → ∀ k, k < n → ∀ vs w2, vs.length = n → C w.drew w2 → S k w2 → Waits V o vs w2 → wpList P l.toArray (OneSt C (S (k + 1)) (V i) o (putAll a0 (l.take n) vs) w2) [o] (putAll a0 (l.take n) vs) w2)
    (hend : ∀ vs w2, vs.length = n → C w.drew w2 → S n w2 → (∀ i, i < n → V i (vs.getD i undef) w2) → wpList P l.toArray Q (l.drop n) (putAll a0 (l.take n) vs) w2) :
    (Code.region id l.toArray true).wp P Q a0 w := by
  refine wp_region_any hm ?_
  have hdst : ∀ o ∈ l.take n, ∀ d, o.dst = some d → d < a0.tmps.size := by
    intro o ho d hd
    obtain ⟨i, hi⟩ := List.getElem?_of_mem ho
    have hin : i < n := by
      have := (List.getElem?_eq_some_iff.1 hi).1
      simp at this; omega
    rw [List.getElem?_take, if_pos hin] at hi
    have h1 := List.all_eq_true.1 hH i (List.mem_range.2 hin)
    simp only [hi, hd, Bool.and_eq_true, decide_eq_true_eq] at h1
    exact h1.1.1
  have hu : unlisted (Array.replicate l.length false) n = n := by
    unfold unlisted
    rw [List.filter_eq_self.2 (by intro i hi; rw [getD_replicate_false]; rfl)]
    simp
  have := wpAny_headS (P := P) (Q := Q) (a0 := a0) (w0 := w.drew) hCt hn hH hT hS hst hstep hend n (Array.replicate l.length false) a0 w.drew hu
    ⟨⟨by simp, fun j oj _ hl => (by rw [getD_replicate_false] at hl; cases hl), fun t _ ht => getD_in (by simpa using ht) (getD_replicate_false _ _)⟩, hC0, ⟨0, by omega, hS0⟩, oldVals a0 (l.take n), by simp [oldVals]; omega, (putAll_old a0 _ hdst).symm, fun i _ hl => (by rw [getD_replicate_false] at hl; cases hl)⟩
  rw [show n + (l.length - n) = l.toArray.size by simp; omega] at this
  exact this
end
end Go.Proofs.Ytpnllhdgpfbaiaa
