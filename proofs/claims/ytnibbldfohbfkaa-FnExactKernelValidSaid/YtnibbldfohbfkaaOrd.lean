/- A region that draws its order and makes memory: if each operation leaves what it is asked for wherever what it waits for holds, then every order does. The last operations may stand in one forced order. No condition. -/
import Derived.Test.YtnibbldfohbfkaaBase
import Derived.StillTailTactics
namespace Go.Proofs.Ytnibbldfohbfkaa
open Go.RowKit

section
variable {P : Program}

def putAll (a : Act) : List Oper → List Value → Act
  | o :: os, v :: vs => putAll (a.put o.dst v) os vs
  | _, _ => a

/-- The dsts are apart, each operation waits for earlier ones alone. -/
def headB (l : List Oper) (size n : Nat) : Bool :=
  (List.range n).all (fun i => match l[i]? with
    | some o => (match o.dst with | some d => decide (d < size) && (List.range n).all (fun j => decide (j = i) || match l[j]? with | some o' => decide (o'.dst ≠ some d) | none => true) | none => true) &&
        o.after.toList.all (fun e => !Region.binds .any e || decide (e.on < i))
    | none => false)
def tailB (l : List Oper) (n : Nat) : Bool :=
  decide (n = l.length) || (decide (n < l.length) && Region.sinkB .any l.toArray n && Region.chainB .any l.toArray n)
def markN (n m : Nat) : Array Bool := ((List.range m).map (fun i => decide (i < n))).toArray

/-- What one operation leaves. -/
def OneQ (V : Value → World → Prop) (o : Oper) (a : Act) (w : World) : Exit → Act → World → Prop :=
  fun e a' w' => e = .normal ∧ ∃ v, a' = a.put o.dst v ∧ V v w' ∧ Ext w w'

theorem wp_of_one {o : Oper} {a : Act} {w : World} {K : Act → World → Prop} {V : Value → World → Prop} {Q : Exit → Act → World → Prop} {ops : Array Oper} {i : Nat} (ho : ops[i]? = some o)
    (h : wpList P ops (OneQ V o a w) [o] a w) (hK : ∀ v w', V v w' → Ext w w' → K (a.put o.dst v) w') : wpOp P ops Q i K a w := by
  have hno : ¬ LetsOut (OneQ V o a w) := by rintro ⟨a', w', h', _⟩; cases h'
  unfold wpOp
  simp only [ho]
  simp only [wpList] at h
  split
  · rename_i hw
    rw [if_pos hw] at h
    left
    rcases h with h | ⟨_, h⟩
    · unfold Oper.wp at *
      generalize (execOp a.eval o).run P w = r at *
      cases r with
      | ok x w1 =>
        cases x <;> simp only [Oper.upon] at h ⊢
        case enter f args => exact h.mono fun e w2 he => by
                              cases e with
                              | returned v => obtain ⟨_, u, h1, h2, h3⟩ := he; show K _ _; rw [h1]; exact hK u w2 h2 h3
                              | panicked ch => obtain ⟨h1, _⟩ := he; cases h1
                              | outgrown => exact absurd he hno
        case row r1 args => exact h.mono fun v w2 he => by obtain ⟨_, u, h1, h2, h3⟩ := he; rw [h1]; exact hK u w2 h2 h3
        all_goals (obtain ⟨_, u, h1, h2, h3⟩ := h; rw [h1]; exact hK u _ h2 h3)
      | halt x w1 => cases x <;> simp only [Oper.upon] at h ⊢ <;> (obtain ⟨h1, _⟩ := h; cases h1)
    · exact absurd h hno
  · rename_i hw
    rw [if_neg hw] at h
    obtain ⟨_, u, h1, h2, h3⟩ := h
    rw [h1]
    exact hK u w h2 h3

theorem putAll_put (a : Act) : ∀ (os : List Oper) (vs : List Value) (i : Nat) (o : Oper) (v : Value), os[i]? = some o → os.length = vs.length →
    (∀ d, o.dst = some d → ∀ j o', os[j]? = some o' → j ≠ i → o'.dst ≠ some d) → (putAll a os vs).put o.dst v = putAll a os (vs.set i v) := by
  have comm : ∀ (os : List Oper) (vs : List Value) (a : Act) (x : Option Tmp) (v : Value), (∀ d, x = some d → ∀ o' ∈ os, o'.dst ≠ some d) → putAll (a.put x v) os vs = (putAll a os vs).put x v := by
    intro os
    induction os with
    | nil => intro vs a x v _; rfl
    | cons o os ih =>
      intro vs a x v h
      cases vs with
      | nil => rfl
      | cons u vs =>
        simp only [putAll]
        rw [Act.put_comm a v u (fun d hd => h d hd o (by simp)), ih vs _ x v (fun d hd o' ho' => h d hd o' (by simp [ho']))]
  have twice : ∀ (a : Act) (x : Option Tmp) (u v : Value), (a.put x u).put x v = a.put x v := by
    intro a x u v
    cases x with
    | none => rfl
    | some d => simp [Act.put]
  intro os
  induction os generalizing a with
  | nil => intro vs i o v h; simp at h
  | cons p os ih =>
    intro vs i o v hi hlen hd
    cases vs with
    | nil => simp at hlen
    | cons u vs =>
      cases i with
      | zero =>
        simp only [List.getElem?_cons_zero, Option.some.injEq] at hi
        subst hi
        simp only [putAll, List.set_cons_zero]
        have hos : ∀ d, p.dst = some d → ∀ o' ∈ os, o'.dst ≠ some d := fun d h o' ho' => by
          obtain ⟨j, hj⟩ := List.getElem?_of_mem ho'
          exact hd d h (j + 1) o' (by simpa using hj) (by omega)
        rw [← comm os vs _ _ _ hos, twice]
      | succ i =>
        simp only [List.getElem?_cons_succ] at hi
        simp only [putAll, List.set_cons_succ]
        exact ih _ vs i o v hi (by simpa using hlen) (fun d h j o' hj hne => hd d h (j + 1) o' (by simpa using hj) (by omega))

def oldVals (a : Act) (os : List Oper) : List Value := os.map (fun o => match o.dst with | some d => a.tmps.getD d undef | none => undef)
theorem putAll_old (a : Act) : ∀ (os : List Oper), (∀ o ∈ os, ∀ d, o.dst = some d → d < a.tmps.size) → putAll a os (oldVals a os) = a := by
  have one : ∀ (o : Oper), (∀ d, o.dst = some d → d < a.tmps.size) → a.put o.dst (match o.dst with | some d => a.tmps.getD d undef | none => undef) = a := by
    intro o h
    cases hd : o.dst with
    | none => rfl
    | some d =>
      have hlt := h d hd
      obtain ⟨t, df⟩ := a
      simp only [Act.put, Act.mk.injEq, and_true]
      apply Array.ext_getElem?
      intro i
      by_cases hi : d = i
      · subst hi
        simp only [] at hlt
        simp [hlt]
      · simp [Array.getElem?_setIfInBounds_ne hi]
  intro os
  induction os with
  | nil => intro _; rfl
  | cons o os ih =>
    intro h
    have h0 := one o (h o (by simp))
    simp only [oldVals, List.map_cons, putAll]
    rw [h0]
    exact ih (fun o' ho' => h o' (by simp [ho']))

/-- What an operation waits for. -/
def Waits (V : Nat → Value → World → Prop) (o : Oper) (vs : List Value) (w : World) : Prop := ∀ e ∈ o.after.toList, Region.binds .any e = true → V e.on (vs.getD e.on undef) w

structure HInv (V : Nat → Value → World → Prop) (l : List Oper) (n : Nat) (a0 : Act) (w0 : World) (listed : Array Bool) (a : Act) (w : World) : Prop where
  head : HeadInv .any l.toArray n listed
  ext : Ext w0 w
  vals : ∃ vs : List Value, vs.length = n ∧ a = putAll a0 (l.take n) vs ∧ ∀ i, i < n → listed.getD i false = true → V i (vs.getD i undef) w

def unlisted (listed : Array Bool) (n : Nat) : Nat := ((List.range n).filter (fun i => !listed.getD i false)).length
theorem unlisted_set {listed : Array Bool} {n i : Nat} (hi : i < n) (hl : listed.getD i true = false) : unlisted listed n = unlisted (listed.setIfInBounds i true) n + 1 := by
  unfold unlisted
  have hs : i < listed.size := by
    rcases Nat.lt_or_ge i listed.size with h | h
    · exact h
    · simp [Array.getElem?_eq_none h] at hl
  have hf : listed.getD i false = false := getD_both hl
  induction n with
  | zero => omega
  | succ n ih =>
    rw [List.range_succ, List.filter_append, List.filter_append, List.length_append, List.length_append]
    by_cases hin : i = n
    · subst hin
      have e1 : ((List.range i).filter (fun j => !listed.getD j false)) = ((List.range i).filter (fun j => !(listed.setIfInBounds i true).getD j false)) := by
        apply List.filter_congr
        intro j hj
        rw [getD_set_ne false (by have := List.mem_range.1 hj; omega)]
      have e2 : (listed.setIfInBounds i true).getD i false = true := by simp [hs]
      rw [e1]
      simp only [List.filter_cons, hf, e2, Bool.not_false, Bool.not_true, if_true, Bool.false_eq_true, if_false, List.filter_nil, List.length_cons, List.length_nil]
    · have := ih (by omega)
      rw [this]
      have e3 : (listed.setIfInBounds i true).getD n false = listed.getD n false := getD_set_ne false hin
      simp only [List.filter_cons, List.filter_nil, e3]
      omega
theorem unlisted_zero {listed : Array Bool} {n : Nat} (h : unlisted listed n = 0) : ∀ i, i < n → listed.getD i false = true := by
  intro i hi
  unfold unlisted at h
  have h1 := List.eq_nil_of_length_eq_zero h
  have h2 := List.filter_eq_nil_iff.1 h1 i (List.mem_range.2 hi)
  simpa using h2
theorem unlisted_pos {listed : Array Bool} {n : Nat} (h : unlisted listed n ≠ 0) : ∃ i, i < n ∧ listed.getD i false = false ∧ ∀ j, j < i → listed.getD j false = true := by
  induction n with
  | zero => simp [unlisted] at h
  | succ n ih =>
    by_cases hn : unlisted listed n = 0
    · have hall := unlisted_zero hn
      refine ⟨n, by omega, ?_, hall⟩
      cases hf : listed.getD n false with
      | false => rfl
      | true =>
        exfalso
        apply h
        unfold unlisted at hn ⊢
        rw [List.range_succ, List.filter_append, List.length_append, hn]
        simp only [List.filter_cons, hf, Bool.not_true, Bool.false_eq_true, if_false, List.filter_nil, List.length_nil]
    · obtain ⟨i, h1, h2, h3⟩ := ih hn
      exact ⟨i, by omega, h2, h3⟩

theorem wpAny_head {V : Nat → Value → World → Prop} {l : List Oper} {n : Nat} {a0 : Act} {w0 : World} {Q : Exit → Act → World → Prop} (hn : n ≤ l.length)
    (hH : headB l a0.tmps.size n = true) (hT : tailB l n = true) (hS : Region.seqB .any l.toArray (l.length - n) n (markN n l.length) = true)
    (hst : ∀ i v w w', V i v w → Ext w w' → V i v w')
    (hstep : ∀ i o, i < n → l[i]? = some o → ∀ vs w, vs.length = n → Ext w0 w → Waits V o vs w → wpList P l.toArray (OneQ (V i) o (putAll a0 (l.take n) vs) w) [o] (putAll a0 (l.take n) vs) w)
    (hend : ∀ vs w, vs.length = n → Ext w0 w → (∀ i, i < n → V i (vs.getD i undef) w) → wpList P l.toArray Q (l.drop n) (putAll a0 (l.take n) vs) w) :
    ∀ (f : Nat) (listed : Array Bool) (a : Act) (w : World), unlisted listed n = f → HInv V l n a0 w0 listed a w → wpAny P .any l.toArray Q (f + (l.length - n)) listed a w := by
  have hop : ∀ i o, i < n → l[i]? = some o → (∀ d, o.dst = some d → ∀ j o', (l.take n)[j]? = some o' → j ≠ i → o'.dst ≠ some d) ∧ (∀ e ∈ o.after.toList, Region.binds .any e = true → e.on < i) := by
    intro i o hi ho
    have h1 := List.all_eq_true.1 hH i (List.mem_range.2 hi)
    simp only [ho, Bool.and_eq_true] at h1
    refine ⟨fun d hd j o' hj hne => ?_, fun e he hb => ?_⟩
    · have h2 := h1.1
      simp only [hd, Bool.and_eq_true] at h2
      have hjn : j < n := by
        have := (List.getElem?_eq_some_iff.1 hj).1
        simp at this; omega
      have h3 := List.all_eq_true.1 h2.2 j (List.mem_range.2 hjn)
      rw [List.getElem?_take, if_pos hjn] at hj
      simp only [hj, Bool.or_eq_true, decide_eq_true_eq] at h3
      exact h3.resolve_left hne
    · have h3 := List.all_eq_true.1 h1.2 e he
      simp only [Bool.or_eq_true, Bool.not_eq_true', hb, decide_eq_true_eq] at h3
      exact h3.resolve_left (by simp)
  have htailno : ∀ listed, HeadInv .any l.toArray n listed → (∃ i, i < n ∧ listed.getD i true = false) → ∀ t, n ≤ t → t ∉ Region.ready .any l.toArray listed := by
    intro listed inv ⟨i, hi, hun⟩ t ht
    simp only [tailB, Bool.or_eq_true, Bool.and_eq_true, decide_eq_true_eq] at hT
    rcases hT with h | h
    · intro hr
      obtain ⟨_, o, ho, _⟩ := mem_ready.1 hr
      have := (Array.getElem?_eq_some_iff.1 ho).1
      simp at this; omega
    · exact tail_waits h.1.2 h.2 (by simpa using h.1.1) inv _ i rfl hi hun t ht
  intro f
  induction f with
  | zero =>
    intro listed a w hf inv
    obtain ⟨vs, hvl, rfl, hV⟩ := inv.vals
    have hall := unlisted_zero hf
    have hlist : listed = markN n l.length := by
      apply Array.ext_getElem?
      intro i
      have hsz := inv.head.size
      simp only [List.size_toArray] at hsz
      by_cases hi : i < l.length
      · have hil : i < listed.size := by omega
        rw [Array.getElem?_eq_getElem hil]
        by_cases hin : i < n
        · have := hall i hin
          simp only [Array.getD_eq_getD_getElem?, Array.getElem?_eq_getElem hil, Option.getD_some] at this
          simp [markN, hi, hin, this]
        · have := inv.head.tail i (by omega) (by simpa using hi)
          simp only [Array.getD_eq_getD_getElem?, Array.getElem?_eq_getElem hil, Option.getD_some] at this
          simp [markN, hi, hin, this]
      · rw [Array.getElem?_eq_none (by omega), Array.getElem?_eq_none (by simp [markN]; omega)]
    rw [hlist]
    have := wpAny_of_seq (P := P) (md := .any) (Q' := Q) (ops := l.toArray) (l.drop n) n (markN n l.length) (putAll a0 (l.take n) vs) w (fun j => by simp [List.getElem?_drop]) (by rw [List.length_drop]; exact hS) (hend vs w hvl inv.ext (fun i hi => hV i hi (hall i hi)))
    rw [List.length_drop] at this
    rw [Nat.zero_add]
    exact this
  | succ f ih =>
    intro listed a w hf inv
    rw [show f + 1 + (l.length - n) = (f + (l.length - n)) + 1 by omega]
    obtain ⟨vs, hvl, rfl, hV⟩ := inv.vals
    obtain ⟨i0, hi0, hun0, hmin⟩ := unlisted_pos (show unlisted listed n ≠ 0 by omega)
    have hsz := inv.head.size
    simp only [List.size_toArray] at hsz
    have hun0' : listed.getD i0 true = false := getD_in (by omega) hun0
    refine ⟨fun hnil => ?_, fun i hi => ?_⟩
    · exfalso
      obtain ⟨o, ho⟩ : ∃ o, l[i0]? = some o := ⟨_, List.getElem?_eq_getElem (by omega)⟩
      have : i0 ∈ Region.ready .any l.toArray listed := mem_ready.2 ⟨hun0', o, by simpa using ho, fun e he hb => hmin _ ((hop i0 o hi0 ho).2 e (by simpa using he) hb)⟩
      rw [hnil] at this
      cases this
    · have hin : i < n := by
        rcases Nat.lt_or_ge i n with h | h
        · exact h
        · exact absurd hi (htailno listed inv.head ⟨i0, hi0, hun0'⟩ i h)
      obtain ⟨hun, o, ho, hall⟩ := mem_ready.1 hi
      have ho' : l[i]? = some o := by simpa using ho
      refine wp_of_one ho (hstep i o hin ho' vs w hvl inv.ext (fun e he hb => hV e.on (by have := (hop i o hin ho').2 e he hb; omega) (hall e (by simpa using he) hb))) (fun v w' hv hE => ?_)
      refine ih _ _ _ (by have := unlisted_set hin hun; omega) ⟨inv.head.set hi hin, inv.ext.trans hE, vs.set i v, by simpa using hvl, ?_, fun j hj hlj => ?_⟩
      · exact putAll_put a0 (l.take n) vs i o v (by rw [List.getElem?_take, if_pos hin]; exact ho') (by simp; omega) (hop i o hin ho').1
      · by_cases hij : i = j
        · subst hij
          rw [List.getD_eq_getElem?_getD, List.getElem?_set_self (by omega)]
          exact hv
        · rw [getD_set_ne false hij] at hlj
          rw [List.getD_eq_getElem?_getD, List.getElem?_set_ne hij, ← List.getD_eq_getElem?_getD]
          exact hst j _ _ _ (hV j hj hlj) hE

/-- The region, in whatever order. -/
theorem wp_region_v {V : Nat → Value → World → Prop} {l : List Oper} (n : Nat) {id : Nat} {a0 : Act} {w : World} {Q : Exit → Act → World → Prop} (hm : P.follows .mixedOrders = true)
    (hn : n ≤ l.length) (hH : headB l a0.tmps.size n = true) (hT : tailB l n = true) (hS : Region.seqB .any l.toArray (l.length - n) n (markN n l.length) = true)
    (hst : ∀ i v w w', V i v w → Ext w w' → V i v w')
    (hstep : ∀ i o, i < n → l[i]? = some o → ∀ vs w2, vs.length = n → Ext w.drew w2 → Waits V o vs w2 → wpList P l.toArray (OneQ (V i) o (putAll a0 (l.take n) vs) w2) [o] (putAll a0 (l.take n) vs) w2)
    (hend : ∀ vs w2, vs.length = n → Ext w.drew w2 → (∀ i, i < n → V i (vs.getD i undef) w2) → wpList P l.toArray Q (l.drop n) (putAll a0 (l.take n) vs) w2) :
    (Code.region id l.toArray true).wp P Q a0 w := by
  refine wp_region_any hm ?_
  have hdst : ∀ o ∈ l.take n, ∀ d, o.dst = some d → d < a0.tmps.size := by
    intro o ho d hd
    obtain ⟨i, hi⟩ := List.getElem?_of_mem ho
    have hin : i < n := by
      have := (List.getElem?_eq_some_iff.1 hi).1
      simp at this; omega
    rw [List.getElem?_take, if_pos hin] at hi
    have h1 := List.all_eq_true.1 hH i (List.mem_range.2 hin)
    simp only [hi, hd, Bool.and_eq_true, decide_eq_true_eq] at h1
    exact h1.1.1
  have hu : unlisted (Array.replicate l.length false) n = n := by
    unfold unlisted
    rw [List.filter_eq_self.2 (by intro i hi; rw [getD_replicate_false]; rfl)]
    simp
  have := wpAny_head (P := P) (Q := Q) (a0 := a0) (w0 := w.drew) hn hH hT hS hst hstep hend n (Array.replicate l.length false) a0 w.drew hu
    ⟨⟨by simp, fun j oj _ hl => (by rw [getD_replicate_false] at hl; cases hl), fun t _ ht => getD_in (by simpa using ht) (getD_replicate_false _ _)⟩, Ext.refl _, oldVals a0 (l.take n), by simp [oldVals]; omega, (putAll_old a0 _ hdst).symm, fun i _ hl => (by rw [getD_replicate_false] at hl; cases hl)⟩
  rw [show n + (l.length - n) = l.toArray.size by simp; omega] at this
  exact this
end
end Go.Proofs.Ytnibbldfohbfkaa
