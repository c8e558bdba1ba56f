/- A region that draws its order, some of whose operations use up what others made (a row that is then written): as wp_region_d, each value's fact speaking of the values that its operation waits for as well. No condition. -/
import Derived.Test.YtpnllhdgpfbaiaaOrdC
namespace Go.Proofs.Ytpnllhdgpfbaiaa
open Go.RowKit

section
variable {P : Program}

def dvals (dep : Nat → List Nat) (vs : List Value) (i : Nat) : List Value := (dep i).map (fun d => vs.getD d undef)
/-- Each operation's fact speaks of values alone that it waits for. -/
def depOkB (l : List Oper) (n : Nat) (dep : Nat → List Nat) : Bool := (List.range n).all (fun i => (dep i).all (fun d => waitsB l i d))

/-- What one operation leaves: its own fact, and every fact of others that it does not use up. -/
def OneD (V : Nat → Value → List Value → World → Prop) (dep : Nat → List Nat) (cons : Nat → Option Nat) (D : List (Nat × Nat)) (n m : Nat) (I : World → Prop) (i : Nat) (o : Oper) (vs0 : List Value) (a : Act) (w : World) : Exit → Act → World → Prop :=
  fun e a' w' => e = .normal ∧ ∃ v, a' = a.put o.dst v ∧ V i v (dvals dep vs0 i) w' ∧ I w' ∧ ∀ j u us, j < n + m → j ≠ i → cons j ≠ some i → (j, i) ∉ D → (∀ c, cons j = some c → (i, c) ∉ D) → V j u us w → V j u us w'

theorem wp_of_oneD {V : Nat → Value → List Value → World → Prop} {dep : Nat → List Nat} {cons : Nat → Option Nat} {D : List (Nat × Nat)} {n m : Nat} {I : World → Prop} {o : Oper} {a : Act} {w : World} {K : Act → World → Prop} {Q : Exit → Act → World → Prop} {ops : Array Oper} {i : Nat} {vs0 : List Value} (ho : ops[i]? = some o)
    (h : wpList P ops (OneD V dep cons D n m I i o vs0 a w) [o] a w) (hK : ∀ v w', V i v (dvals dep vs0 i) w' → I w' → (∀ j u us, j < n + m → j ≠ i → cons j ≠ some i → (j, i) ∉ D → (∀ c, cons j = some c → (i, c) ∉ D) → V j u us w → V j u us w') → K (a.put o.dst v) w') : wpOp P ops Q i K a w := by
  have hno : ¬ LetsOut (OneD V dep cons D n m I i o vs0 a w) := by rintro ⟨a', w', h', _⟩; cases h'
  unfold wpOp
  simp only [ho]
  simp only [wpList] at h
  split
  · rename_i hw
    rw [if_pos hw] at h
    left
    rcases h with h | ⟨_, h⟩
    · unfold Oper.wp at *
      generalize (execOp a.eval o).run P w = r at *
      cases r with
      | ok x w1 =>
        cases x <;> simp only [Oper.upon] at h ⊢
        case enter f args => exact h.mono fun e w2 he => by
                              cases e with
                              | returned v => obtain ⟨_, u, h1, h2, h3, h4⟩ := he; show K _ _; rw [h1]; exact hK u w2 h2 h3 h4
                              | panicked ch => obtain ⟨h1, _⟩ := he; cases h1
                              | outgrown => exact absurd he hno
        case row r1 args => exact h.mono fun v w2 he => by obtain ⟨_, u, h1, h2, h3, h4⟩ := he; rw [h1]; exact hK u w2 h2 h3 h4
        all_goals (obtain ⟨_, u, h1, h2, h3, h4⟩ := h; rw [h1]; exact hK u _ h2 h3 h4)
      | halt x w1 => cases x <;> simp only [Oper.upon] at h ⊢ <;> (obtain ⟨h1, _⟩ := h; cases h1)
    · exact absurd h hno
  · rename_i hw
    rw [if_neg hw] at h
    obtain ⟨_, u, h1, h2, h3, h4⟩ := h
    rw [h1]
    exact hK u w h2 h3 h4

/-- What an operation may lean on: what it waits for, and what was there ahead of the region (numbers from n on). -/
def WaitsD (V : Nat → Value → List Value → World → Prop) (dep : Nat → List Nat) (cons : Nat → Option Nat) (i : Nat) (o : Oper) (vs : List Value) (w : World) : Prop :=
  ∀ e ∈ o.after.toList, Region.binds .any e = true → (cons e.on = none ∨ cons e.on = some i) → V e.on (vs.getD e.on undef) (dvals dep vs e.on) w
def RestD (V : Nat → Value → List Value → World → Prop) (cons : Nat → Option Nat) (n m i : Nat) (w : World) : Prop :=
  ∀ r, r < m → (cons (n + r) = none ∨ cons (n + r) = some i) → V (n + r) undef [] w

structure HInvD (V : Nat → Value → List Value → World → Prop) (dep : Nat → List Nat) (cons : Nat → Option Nat) (l : List Oper) (n m : Nat) (a0 : Act) (I : Nat → World → Prop) (f : Nat) (listed : Array Bool) (a : Act) (w : World) : Prop where
  head : HeadInv .any l.toArray n listed
  ext : ∃ k, k + f = n ∧ I k w
  rest : ∀ r, r < m → (∀ c, cons (n + r) = some c → listed.getD c false = false) → V (n + r) undef [] w
  vals : ∃ vs : List Value, vs.length = n ∧ a = putAll a0 (l.take n) vs ∧ ∀ i, i < n → listed.getD i false = true → (∀ c, cons i = some c → listed.getD c false = false) → V i (vs.getD i undef) (dvals dep vs i) w

theorem wpAny_headD {V : Nat → Value → List Value → World → Prop} {dep : Nat → List Nat} {cons : Nat → Option Nat} {D : List (Nat × Nat)} {l : List Oper} {n m : Nat} {a0 : Act} {I : Nat → World → Prop} {Q : Exit → Act → World → Prop} (hn : n ≤ l.length)
    (hH : headB l a0.tmps.size n = true) (hT : tailB l n = true) (hS : Region.seqB .any l.toArray (l.length - n) n (markN n l.length) = true) (hD : depsB l n D = true) (hdep : depOkB l n dep = true)
    (hstep : ∀ i o, i < n → l[i]? = some o → ∀ k, k < n → ∀ vs w, vs.length = n → I k w → WaitsD V dep cons i o vs w → RestD V cons n m i w → wpList P l.toArray (OneD V dep cons D n m (I (k + 1)) i o vs (putAll a0 (l.take n) vs) w) [o] (putAll a0 (l.take n) vs) w)
    (hend : ∀ vs w, vs.length = n → I n w → (∀ i, i < n → cons i = none → V i (vs.getD i undef) (dvals dep vs i) w) → (∀ r, r < m → cons (n + r) = none → V (n + r) undef [] w) → wpList P l.toArray Q (l.drop n) (putAll a0 (l.take n) vs) w) :
    ∀ (f : Nat) (listed : Array Bool) (a : Act) (w : World), unlisted listed n = f → HInvD V dep cons l n m a0 I f listed a w → wpAny P .any l.toArray Q (f + (l.length - n)) listed a w := by
  have hop : ∀ i o, i < n → l[i]? = some o → (∀ d, o.dst = some d → ∀ j o', (l.take n)[j]? = some o' → j ≠ i → o'.dst ≠ some d) ∧ (∀ e ∈ o.after.toList, Region.binds .any e = true → e.on < i) := by
    intro i o hi ho
    have h1 := List.all_eq_true.1 hH i (List.mem_range.2 hi)
    simp only [ho, Bool.and_eq_true] at h1
    refine ⟨fun d hd j o' hj hne => ?_, fun e he hb => ?_⟩
    · have h2 := h1.1
      simp only [hd, Bool.and_eq_true] at h2
      have hjn : j < n := by
        have := (List.getElem?_eq_some_iff.1 hj).1
        simp at this; omega
      have h3 := List.all_eq_true.1 h2.2 j (List.mem_range.2 hjn)
      rw [List.getElem?_take, if_pos hjn] at hj
      simp only [hj, Bool.or_eq_true, decide_eq_true_eq] at h3
      exact h3.resolve_left hne
    · have h3 := List.all_eq_true.1 h1.2 e he
      simp only [Bool.or_eq_true, Bool.not_eq_true', hb, decide_eq_true_eq] at h3
      exact h3.resolve_left (by simp)
  have htailno : ∀ listed, HeadInv .any l.toArray n listed → (∃ i, i < n ∧ listed.getD i true = false) → ∀ t, n ≤ t → t ∉ Region.ready .any l.toArray listed := by
    intro listed inv ⟨i, hi, hun⟩ t ht
    simp only [tailB, Bool.or_eq_true, Bool.and_eq_true, decide_eq_true_eq] at hT
    rcases hT with h | h
    · intro hr
      obtain ⟨_, o, ho, _⟩ := mem_ready.1 hr
      have := (Array.getElem?_eq_some_iff.1 ho).1
      simp at this; omega
    · exact tail_waits h.1.2 h.2 (by simpa using h.1.1) inv _ i rfl hi hun t ht
  intro f
  induction f with
  | zero =>
    intro listed a w hf inv
    obtain ⟨vs, hvl, rfl, hV⟩ := inv.vals
    have hall := unlisted_zero hf
    have hlist : listed = markN n l.length := by
      apply Array.ext_getElem?
      intro i
      have hsz := inv.head.size
      simp only [List.size_toArray] at hsz
      by_cases hi : i < l.length
      · have hil : i < listed.size := by omega
        rw [Array.getElem?_eq_getElem hil]
        by_cases hin : i < n
        · have := hall i hin
          simp only [Array.getD_eq_getD_getElem?, Array.getElem?_eq_getElem hil, Option.getD_some] at this
          simp [markN, hi, hin, this]
        · have := inv.head.tail i (by omega) (by simpa using hi)
          simp only [Array.getD_eq_getD_getElem?, Array.getElem?_eq_getElem hil, Option.getD_some] at this
          simp [markN, hi, hin, this]
      · rw [Array.getElem?_eq_none (by omega), Array.getElem?_eq_none (by simp [markN]; omega)]
    obtain ⟨kz, hkz, hIz⟩ := inv.ext
    have hIn : I n w := by rw [show n = kz by omega]; exact hIz
    rw [hlist]
    have := wpAny_of_seq (P := P) (md := .any) (Q' := Q) (ops := l.toArray) (l.drop n) n (markN n l.length) (putAll a0 (l.take n) vs) w (fun j => by simp [List.getElem?_drop]) (by rw [List.length_drop]; exact hS) (hend vs w hvl hIn (fun i hi hc => hV i hi (hall i hi) (by rw [hc]; simp)) (fun r hr hc => inv.rest r hr (by rw [hc]; simp)))
    rw [List.length_drop] at this
    rw [Nat.zero_add]
    exact this
  | succ f ih =>
    intro listed a w hf inv
    rw [show f + 1 + (l.length - n) = (f + (l.length - n)) + 1 by omega]
    obtain ⟨vs, hvl, rfl, hV⟩ := inv.vals
    obtain ⟨i0, hi0, hun0, hmin⟩ := unlisted_pos (show unlisted listed n ≠ 0 by omega)
    have hsz := inv.head.size
    simp only [List.size_toArray] at hsz
    have hun0' : listed.getD i0 true = false := getD_in (by omega) hun0
    refine ⟨fun hnil => ?_, fun i hi => ?_⟩
    · exfalso
      obtain ⟨o, ho⟩ : ∃ o, l[i0]? = some o := ⟨_, List.getElem?_eq_getElem (by omega)⟩
      have : i0 ∈ Region.ready .any l.toArray listed := mem_ready.2 ⟨hun0', o, by simpa using ho, fun e he hb => hmin _ ((hop i0 o hi0 ho).2 e (by simpa using he) hb)⟩
      rw [hnil] at this
      cases this
    · have hin : i < n := by
        rcases Nat.lt_or_ge i n with h | h
        · exact h
        · exact absurd hi (htailno listed inv.head ⟨i0, hi0, hun0'⟩ i h)
      obtain ⟨hun, o, ho, hall⟩ := mem_ready.1 hi
      have ho' : l[i]? = some o := by simpa using ho
      have hunf : listed.getD i false = false := getD_both hun
      have hdm : ∀ j d, j < n → d ∈ dep j → waitsB l j d = true := fun j d hj hd => List.all_eq_true.1 (List.all_eq_true.1 hdep j (List.mem_range.2 hj)) d hd
      have hself : ∀ v, dvals dep (vs.set i v) i = dvals dep vs i := fun v => by
        unfold dvals
        refine List.map_congr_left (fun d hd => ?_)
        have h1 := hdm i d hin hd
        simp only [waitsB, ho'] at h1
        obtain ⟨e, he, h2⟩ := List.any_eq_true.1 h1
        simp only [Bool.and_eq_true, decide_eq_true_eq] at h2
        have h3 := (hop i o hin ho').2 e he h2.1
        rw [List.getD_eq_getElem?_getD, List.getElem?_set_ne (by omega), ← List.getD_eq_getElem?_getD]
      have hoth : ∀ v j, j ≠ i → j < n → listed.getD j false = true → dvals dep (vs.set i v) j = dvals dep vs j := fun v j hji hj hlj => by
        unfold dvals
        refine List.map_congr_left (fun d hd => ?_)
        have h1 := hdm j d hj hd
        obtain ⟨oj, hoj⟩ : ∃ oj, l[j]? = some oj := ⟨_, List.getElem?_eq_getElem (by omega)⟩
        simp only [waitsB, hoj] at h1
        obtain ⟨e, he, h2⟩ := List.any_eq_true.1 h1
        simp only [Bool.and_eq_true, decide_eq_true_eq] at h2
        have h3 := inv.head.closed j oj (by simpa using hoj) hlj e (by simpa using he) h2.1
        rw [h2.2] at h3
        have hdi : i ≠ d := fun e => by rw [← e, hunf] at h3; cases h3
        rw [List.getD_eq_getElem?_getD, List.getElem?_set_ne hdi, ← List.getD_eq_getElem?_getD]
      have hno2 : ∀ j, (∀ c, cons j = some c → listed.getD c false = false) → ∀ c, cons j = some c → (i, c) ∉ D := fun j hj c hc hm => by
        have h1 := List.all_eq_true.1 hD (i, c) hm
        simp only [Bool.and_eq_true, waitsB, ho'] at h1
        obtain ⟨e, he, h2⟩ := List.any_eq_true.1 h1.2
        simp only [Bool.and_eq_true, decide_eq_true_eq] at h2
        have h3 := hall e (by simpa using he) h2.1
        rw [h2.2, hj c hc] at h3
        cases h3
      obtain ⟨kk, hkk, hIk⟩ := inv.ext
      refine wp_of_oneD ho (hstep i o hin ho' kk (by omega) vs w hvl hIk (fun e he hb hc => hV e.on (by have := (hop i o hin ho').2 e he hb; omega) (hall e (by simpa using he) hb) (fun c hcc => by
        rcases hc with hc | hc
        · rw [hc] at hcc; cases hcc
        · rw [hc] at hcc; cases hcc; exact hunf)) (fun r hr hc => inv.rest r hr (fun c hcc => by
        rcases hc with hc | hc
        · rw [hc] at hcc; cases hcc
        · rw [hc] at hcc; cases hcc; exact hunf))) (fun v w' hv hE hkeep => ?_)
      refine ih _ _ _ (by have := unlisted_set hin hun; omega) ⟨inv.head.set hi hin, ⟨kk + 1, by omega, hE⟩, fun r hr hcr => ?_, vs.set i v, by simpa using hvl, ?_, fun j hj hlj hcj => ?_⟩
      · have hil : i < listed.size := by omega
        have hci : cons (n + r) ≠ some i := fun e => by
          have := hcr i e
          rw [show (listed.setIfInBounds i true).getD i false = true by simp [hil]] at this
          cases this
        have hnd : (n + r, i) ∉ D := fun hm => by
          have h1 := List.all_eq_true.1 hD (n + r, i) hm
          simp only [Bool.and_eq_true, decide_eq_true_eq] at h1
          omega
        have hun2 : ∀ c, cons (n + r) = some c → listed.getD c false = false := fun c hc => by
          have h2 := hcr c hc
          have hne : i ≠ c := fun e => hci (by rw [e]; exact hc)
          rwa [getD_set_ne false hne] at h2
        exact hkeep (n + r) _ _ (by omega) (by omega) hci hnd (hno2 _ hun2) (inv.rest r hr hun2)
      · exact putAll_put a0 (l.take n) vs i o v (by rw [List.getElem?_take, if_pos hin]; exact ho') (by simp; omega) (hop i o hin ho').1
      · by_cases hij : i = j
        · subst hij
          rw [List.getD_eq_getElem?_getD, List.getElem?_set_self (by omega), hself v]
          exact hv
        · rw [getD_set_ne false hij] at hlj
          rw [List.getD_eq_getElem?_getD, List.getElem?_set_ne hij, ← List.getD_eq_getElem?_getD]
          have hil : i < listed.size := by omega
          have hci : cons j ≠ some i := fun e => by
            have := hcj i e
            rw [show (listed.setIfInBounds i true).getD i false = true by simp [hil]] at this
            cases this
          have hnd : (j, i) ∉ D := fun hm => by
            have h1 := List.all_eq_true.1 hD (j, i) hm
            simp only [Bool.and_eq_true, waitsB] at h1
            obtain ⟨oj, hoj⟩ : ∃ oj, l[j]? = some oj := ⟨_, List.getElem?_eq_getElem (by omega)⟩
            rw [hoj] at h1
            obtain ⟨e, he, h2⟩ := List.any_eq_true.1 h1.2
            simp only [Bool.and_eq_true, decide_eq_true_eq] at h2
            have h3 := inv.head.closed j oj (by simpa using hoj) hlj e (by simpa using he) h2.1
            rw [h2.2, hunf] at h3
            cases h3
          have hun2 : ∀ c, cons j = some c → listed.getD c false = false := fun c hc => by
            have h2 := hcj c hc
            have hne : i ≠ c := fun e => hci (by rw [e]; exact hc)
            rwa [getD_set_ne false hne] at h2
          rw [hoth v j (fun e => hij e.symm) hj hlj]
          exact hkeep j _ _ (by omega) (fun e => hij e.symm) hci hnd (hno2 _ hun2) (hV j hj hlj hun2)

/-- The region, in whatever order. -/
theorem wp_region_d {V : Nat → Value → List Value → World → Prop} (dep : Nat → List Nat) (I : Nat → World → Prop) (cons : Nat → Option Nat) (D : List (Nat × Nat)) {l : List Oper} (n m : Nat) {id : Nat} {a0 : Act} {w : World} {Q : Exit → Act → World → Prop} (hm : P.follows .mixedOrders = true)
    (hn : n ≤ l.length) (hH : headB l a0.tmps.size n = true) (hT : tailB l n = true) (hS : Region.seqB .any l.toArray (l.length - n) n (markN n l.length) = true) (hD : depsB l n D = true) (hdep : depOkB l n dep = true)
    (hI0 : I 0 w.drew) (hR0 : ∀ r, r < m → V (n + r) undef [] w.drew)
    (hstep : ∀ i o, i < n → l[i]? = some o → ∀ k, k < n → ∀ vs w2, vs.length = n → I k w2 → WaitsD V dep cons i o vs w2 → RestD V cons n m i w2 → wpList P l.toArray (OneD V dep cons D n m (I (k + 1)) i o vs (putAll a0 (l.take n) vs) w2) [o] (putAll a0 (l.take n) vs) w2)
    (hend : ∀ vs w2, vs.length = n → I n w2 → (∀ i, i < n → cons i = none → V i (vs.getD i undef) (dvals dep vs i) w2) → (∀ r, r < m → cons (n + r) = none → V (n + r) undef [] w2) → wpList P l.toArray Q (l.drop n) (putAll a0 (l.take n) vs) w2) :
    (Code.region id l.toArray true).wp P Q a0 w := by
  refine wp_region_any hm ?_
  have hdst : ∀ o ∈ l.take n, ∀ d, o.dst = some d → d < a0.tmps.size := by
    intro o ho d hd
    obtain ⟨i, hi⟩ := List.getElem?_of_mem ho
    have hin : i < n := by
      have := (List.getElem?_eq_some_iff.1 hi).1
      simp at this; omega
    rw [List.getElem?_take, if_pos hin] at hi
    have h1 := List.all_eq_true.1 hH i (List.mem_range.2 hin)
    simp only [hi, hd, Bool.and_eq_true, decide_eq_true_eq] at h1
    exact h1.1.1
  have hu : unlisted (Array.replicate l.length false) n = n := by
    unfold unlisted
    rw [List.filter_eq_self.2 (by intro i hi; rw [getD_replicate_false]; rfl)]
    simp
  have := wpAny_headD (P := P) (dep := dep) (Q := Q) (a0 := a0) (I := I) hn hH hT hS hD hdep hstep hend n (Array.replicate l.length false) a0 w.drew hu
    ⟨⟨by simp, fun j oj _ hl => (by rw [getD_replicate_false] at hl; cases hl), fun t _ ht => getD_in (by simpa using ht) (getD_replicate_false _ _)⟩, ⟨0, by omega, hI0⟩, fun r hr _ => hR0 r hr, oldVals a0 (l.take n), by simp [oldVals]; omega, (putAll_old a0 _ hdst).symm, fun i _ hl => (by rw [getD_replicate_false] at hl; cases hl)⟩
  rw [show n + (l.length - n) = l.toArray.size by simp; omega] at this
  exact this
end

/-- An operation that only makes memory keeps all facts that last. -/
theorem OneD.mk {V : Nat → Value → List Value → World → Prop} {dep : Nat → List Nat} {cons : Nat → Option Nat} {D : List (Nat × Nat)} {n m : Nat} {I : World → Prop} {i : Nat} {o : Oper} {vs0 : List Value} {a a' : Act} {w w' : World} (hst : ∀ i v us w w', V i v us w → Ext w w' → V i v us w') {v : Value} (ha : a' = a.put o.dst v) (hV : V i v (dvals dep vs0 i) w') (hI : I w') (hE : Ext w w') :
    OneD V dep cons D n m I i o vs0 a w .normal a' w' := ⟨rfl, v, ha, hV, hI, fun j u us _ _ _ _ _ h => hst j u us w w' h hE⟩

end Go.Proofs.Ytpnllhdgpfbaiaa
