/- Parts of one proof: each says below what it proves and on what conditions. -/
import Derived.Test.YtnibbldfohbfkaaGreatDoorMy8
set_option linter.unusedVariables false
set_option linter.unusedSimpArgs false
/- A region that draws its order, as wp_region_c, with operations that wait for others through a chain. No condition. -/
namespace Go.Proofs.YtnibbldfohbfkaaGreatDoor
open Go.RowKit
section
variable {P : Program}
def waitsF : Nat → List Oper → Nat → Nat → Bool
 | 0, _, _, _ => false
 | f + 1, l, j, i => match l[j]? with | some o => o.after.toList.any (fun e => Region.binds .any e && (decide (e.on = i) || waitsF f l e.on i)) | none => false
def depsT (l : List Oper) (n : Nat) (D : List (Nat × Nat)) : Bool := D.all (fun p => decide (p.1 < n) && waitsF 5 l p.1 p.2)
theorem waitsF_closed {l : List Oper} {listed : Array Bool} (hc : ∀ j oj, l[j]? = some oj → listed.getD j false = true → ∀ e ∈ oj.after, Region.binds .any e = true → listed.getD e.on false = true) : ∀ (f j i : Nat), waitsF f l j i = true → listed.getD j false = true → listed.getD i false = true
 | 0, j, i, h, _ => by simp [waitsF] at h
 | f + 1, j, i, h, hj => by
  rw [waitsF] at h
  cases ho : l[j]? with
  | none => rw [ho] at h; simp at h
  | some o =>
   rw [ho] at h
   obtain ⟨e, he, h2⟩ := List.any_eq_true.1 h
   simp only [Bool.and_eq_true, Bool.or_eq_true, decide_eq_true_eq] at h2
   have h3 := hc j o ho hj e (by simpa using he) h2.1
   rcases h2.2 with h4 | h4
   ·rw [← h4]; exact h3
   ·exact waitsF_closed hc f e.on i h4 h3
theorem waitsF_listed {l : List Oper} {listed : Array Bool} (hc : ∀ j oj, l[j]? = some oj → listed.getD j false = true → ∀ e ∈ oj.after, Region.binds .any e = true → listed.getD e.on false = true) {f j i : Nat} {o : Oper} (h : waitsF f l j i = true) (ho : l[j]? = some o) (ha : ∀ e ∈ o.after.toList, Region.binds .any e = true → listed.getD e.on false = true) : listed.getD i false = true := by
 cases f with
 | zero => simp [waitsF] at h
 | succ f =>
  rw [waitsF, ho] at h
  obtain ⟨e, he, h2⟩ := List.any_eq_true.1 h
  simp only [Bool.and_eq_true, Bool.or_eq_true, decide_eq_true_eq] at h2
  have h3 := ha e he h2.1
  rcases h2.2 with h4 | h4
  ·rw [← h4]; exact h3
  ·exact waitsF_closed hc f e.on i h4 h3
theorem wpAny_headT {V : Nat → Value → World → Prop} {cons : Nat → Option Nat} {D : List (Nat × Nat)} {l : List Oper} {n m : Nat} {a0 : Act} {I : World → Prop} {Q : Exit → Act → World → Prop} (hn : n ≤ l.length)
  (hH : headB l a0.tmps.size n = true) (hT : tailB l n = true) (hS : Region.seqB .any l.toArray (l.length - n) n (markN n l.length) = true) (hD : depsT l n D = true)
  (hstep : ∀ i o, i < n → l[i]? = some o → ∀ vs w, vs.length = n → I w → WaitsC V cons i o vs w → RestC V cons n m i w → wpList P l.toArray (OneC V cons D n m I i o (putAll a0 (l.take n) vs) w) [o] (putAll a0 (l.take n) vs) w)
  (hend : ∀ vs w, vs.length = n → I w → (∀ i, i < n → cons i = none → V i (vs.getD i undef) w) → (∀ r, r < m → cons (n + r) = none → V (n + r) undef w) → wpList P l.toArray Q (l.drop n) (putAll a0 (l.take n) vs) w) :
  ∀ (f : Nat) (listed : Array Bool) (a : Act) (w : World), unlisted listed n = f → HInvC V cons l n m a0 I listed a w → wpAny P .any l.toArray Q (f + (l.length - n)) listed a w := by
 have hop : ∀ i o, i < n → l[i]? = some o → (∀ d, o.dst = some d → ∀ j o', (l.take n)[j]? = some o' → j ≠ i → o'.dst ≠ some d) ∧ (∀ e ∈ o.after.toList, Region.binds .any e = true → e.on < i) := by
  intro i o hi ho
  have h1 := List.all_eq_true.1 hH i (List.mem_range.2 hi)
  simp only [ho, Bool.and_eq_true] at h1
  refine ⟨fun d hd j o' hj hne => ?_, fun e he hb => ?_⟩
  ·have h2 := h1.1
   simp only [hd, Bool.and_eq_true] at h2
   have hjn : j < n := by
    have := (List.getElem?_eq_some_iff.1 hj).1
    simp at this; omega
   have h3 := List.all_eq_true.1 h2.2 j (List.mem_range.2 hjn)
   rw [List.getElem?_take, if_pos hjn] at hj
   simp only [hj, Bool.or_eq_true, decide_eq_true_eq] at h3
   exact h3.resolve_left hne
  ·have h3 := List.all_eq_true.1 h1.2 e he
   simp only [Bool.or_eq_true, Bool.not_eq_true', hb, decide_eq_true_eq] at h3
   exact h3.resolve_left (by simp)
 have htailno : ∀ listed, HeadInv .any l.toArray n listed → (∃ i, i < n ∧ listed.getD i true = false) → ∀ t, n ≤ t → t ∉ Region.ready .any l.toArray listed := by
  intro listed inv ⟨i, hi, hun⟩ t ht
  simp only [tailB, Bool.or_eq_true, Bool.and_eq_true, decide_eq_true_eq] at hT
  rcases hT with h | h
  ·intro hr
   obtain ⟨_, o, ho, _⟩ := mem_ready.1 hr
   have := (Array.getElem?_eq_some_iff.1 ho).1
   simp at this; omega
  ·exact tail_waits h.1.2 h.2 (by simpa using h.1.1) inv _ i rfl hi hun t ht
 intro f
 induction f with
 | zero =>
  intro listed a w hf inv
  obtain ⟨vs, hvl, rfl, hV⟩ := inv.vals
  have hall := unlisted_zero hf
  have hlist : listed = markN n l.length := by
   apply Array.ext_getElem?
   intro i
   have hsz := inv.head.size
   simp only [List.size_toArray] at hsz
   by_cases hi : i < l.length
   ·have hil : i < listed.size := by omega
    rw [Array.getElem?_eq_getElem hil]
    by_cases hin : i < n
    ·have := hall i hin
     simp only [Array.getD_eq_getD_getElem?, Array.getElem?_eq_getElem hil, Option.getD_some] at this
     simp [markN, hi, hin, this]
    ·have := inv.head.tail i (by omega) (by simpa using hi)
     simp only [Array.getD_eq_getD_getElem?, Array.getElem?_eq_getElem hil, Option.getD_some] at this
     simp [markN, hi, hin, this]
   ·rw [Array.getElem?_eq_none (by omega), Array.getElem?_eq_none (by simp [markN]; omega)]
  rw [hlist]
  have := wpAny_of_seq (P := P) (md := .any) (Q' := Q) (ops := l.toArray) (l.drop n) n (markN n l.length) (putAll a0 (l.take n) vs) w (fun j => by simp [List.getElem?_drop]) (by rw [List.length_drop]; exact hS) (hend vs w hvl inv.ext (fun i hi hc => hV i hi (hall i hi) (by rw [hc]; simp)) (fun r hr hc => inv.rest r hr (by rw [hc]; simp)))
  rw [List.length_drop] at this
  rw [Nat.zero_add]
  exact this
 | succ f ih =>
  intro listed a w hf inv
  rw [show f + 1 + (l.length - n) = (f + (l.length - n)) + 1 by omega]
  obtain ⟨vs, hvl, rfl, hV⟩ := inv.vals
  obtain ⟨i0, hi0, hun0, hmin⟩ := unlisted_pos (show unlisted listed n ≠ 0 by omega)
  have hsz := inv.head.size
  simp only [List.size_toArray] at hsz
  have hun0' : listed.getD i0 true = false := getD_in (by omega) hun0
  refine ⟨fun hnil => ?_, fun i hi => ?_⟩
  ·exfalso
   obtain ⟨o, ho⟩ : ∃ o, l[i0]? = some o := ⟨_, List.getElem?_eq_getElem (by omega)⟩
   have : i0 ∈ Region.ready .any l.toArray listed := mem_ready.2 ⟨hun0', o, by simpa using ho, fun e he hb => hmin _ ((hop i0 o hi0 ho).2 e (by simpa using he) hb)⟩
   rw [hnil] at this
   cases this
  ·have hin : i < n := by
    rcases Nat.lt_or_ge i n with h | h
    ·exact h
    ·exact absurd hi (htailno listed inv.head ⟨i0, hi0, hun0'⟩ i h)
   obtain ⟨hun, o, ho, hall⟩ := mem_ready.1 hi
   have ho' : l[i]? = some o := by simpa using ho
   have hunf : listed.getD i false = false := getD_both hun
   have hno2 : ∀ j, (∀ c, cons j = some c → listed.getD c false = false) → ∀ c, cons j = some c → (i, c) ∉ D := fun j hj c hc hm => by
    have h1 := List.all_eq_true.1 hD (i, c) hm
    simp only [Bool.and_eq_true] at h1
    have h2 := waitsF_listed (fun j oj hoj hl => inv.head.closed j oj (by simpa using hoj) hl) h1.2 ho' (fun e he hb => hall e (by simpa using he) hb)
    rw [hj c hc] at h2
    cases h2
   refine wp_of_oneC ho (hstep i o hin ho' vs w hvl inv.ext (fun e he hb hc => hV e.on (by have := (hop i o hin ho').2 e he hb; omega) (hall e (by simpa using he) hb) (fun c hcc => by
    rcases hc with hc | hc
    ·rw [hc] at hcc; cases hcc
    ·rw [hc] at hcc; cases hcc; exact hunf)) (fun r hr hc => inv.rest r hr (fun c hcc => by
    rcases hc with hc | hc
    ·rw [hc] at hcc; cases hcc
    ·rw [hc] at hcc; cases hcc; exact hunf))) (fun v w' hv hE hkeep => ?_)
   refine ih _ _ _ (by have := unlisted_set hin hun; omega) ⟨inv.head.set hi hin, hE, fun r hr hcr => ?_, vs.set i v, by simpa using hvl, ?_, fun j hj hlj hcj => ?_⟩
   ·have hil : i < listed.size := by omega
    have hci : cons (n + r) ≠ some i := fun e => by
     have := hcr i e
     rw [show (listed.setIfInBounds i true).getD i false = true by simp [hil]] at this
     cases this
    have hnd : (n + r, i) ∉ D := fun hm => by
     have h1 := List.all_eq_true.1 hD (n + r, i) hm
     simp only [Bool.and_eq_true, decide_eq_true_eq] at h1
     omega
    have hun2 : ∀ c, cons (n + r) = some c → listed.getD c false = false := fun c hc => by
     have h2 := hcr c hc
     have hne : i ≠ c := fun e => hci (by rw [e]; exact hc)
     rwa [getD_set_ne false hne] at h2
    exact hkeep (n + r) _ (by omega) (by omega) hci hnd (hno2 _ hun2) (inv.rest r hr hun2)
   ·exact putAll_put a0 (l.take n) vs i o v (by rw [List.getElem?_take, if_pos hin]; exact ho') (by simp; omega) (hop i o hin ho').1
   ·by_cases hij : i = j
    ·subst hij
     rw [List.getD_eq_getElem?_getD, List.getElem?_set_self (by omega)]
     exact hv
    ·rw [getD_set_ne false hij] at hlj
     rw [List.getD_eq_getElem?_getD, List.getElem?_set_ne hij, ← List.getD_eq_getElem?_getD]
     have hil : i < listed.size := by omega
     have hci : cons j ≠ some i := fun e => by
      have := hcj i e
      rw [show (listed.setIfInBounds i true).getD i false = true by simp [hil]] at this
      cases this
     have hnd : (j, i) ∉ D := fun hm => by
      have h1 := List.all_eq_true.1 hD (j, i) hm
      simp only [Bool.and_eq_true] at h1
      obtain ⟨oj, hoj⟩ : ∃ oj, l[j]? = some oj := ⟨_, List.getElem?_eq_getElem (by omega)⟩
      have h2 := waitsF_listed (fun j oj hoj hl => inv.head.closed j oj (by simpa using hoj) hl) h1.2 hoj (fun e he hb => inv.head.closed j oj (by simpa using hoj) hlj e (by simpa using he) hb)
      rw [hunf] at h2
      cases h2
     have hun2 : ∀ c, cons j = some c → listed.getD c false = false := fun c hc => by
      have h2 := hcj c hc
      have hne : i ≠ c := fun e => hci (by rw [e]; exact hc)
      rwa [getD_set_ne false hne] at h2
     exact hkeep j _ (by omega) (fun e => hij e.symm) hci hnd (hno2 _ hun2) (hV j hj hlj hun2)
theorem wp_region_t {V : Nat → Value → World → Prop} (I : World → Prop) (cons : Nat → Option Nat) (D : List (Nat × Nat)) {l : List Oper} (n m : Nat) {id : Nat} {a0 : Act} {w : World} {Q : Exit → Act → World → Prop} (hm : P.follows .mixedOrders = true)
  (hn : n ≤ l.length) (hH : headB l a0.tmps.size n = true) (hT : tailB l n = true) (hS : Region.seqB .any l.toArray (l.length - n) n (markN n l.length) = true) (hD : depsT l n D = true)
  (hI0 : I w.drew) (hR0 : ∀ r, r < m → V (n + r) undef w.drew)
  (hstep : ∀ i o, i < n → l[i]? = some o → ∀ vs w2, vs.length = n → I w2 → WaitsC V cons i o vs w2 → RestC V cons n m i w2 → wpList P l.toArray (OneC V cons D n m I i o (putAll a0 (l.take n) vs) w2) [o] (putAll a0 (l.take n) vs) w2)
  (hend : ∀ vs w2, vs.length = n → I w2 → (∀ i, i < n → cons i = none → V i (vs.getD i undef) w2) → (∀ r, r < m → cons (n + r) = none → V (n + r) undef w2) → wpList P l.toArray Q (l.drop n) (putAll a0 (l.take n) vs) w2) :
  (Code.region id l.toArray true).wp P Q a0 w := by
 refine wp_region_any hm ?_
 have hdst : ∀ o ∈ l.take n, ∀ d, o.dst = some d → d < a0.tmps.size := by
  intro o ho d hd
  obtain ⟨i, hi⟩ := List.getElem?_of_mem ho
  have hin : i < n := by
   have := (List.getElem?_eq_some_iff.1 hi).1
   simp at this; omega
  rw [List.getElem?_take, if_pos hin] at hi
  have h1 := List.all_eq_true.1 hH i (List.mem_range.2 hin)
  simp only [hi, hd, Bool.and_eq_true, decide_eq_true_eq] at h1
  exact h1.1.1
 have hu : unlisted (Array.replicate l.length false) n = n := by
  unfold unlisted
  rw [List.filter_eq_self.2 (by intro i hi; rw [getD_replicate_false]; rfl)]
  simp
 have := wpAny_headT (P := P) (Q := Q) (a0 := a0) (I := I) hn hH hT hS hD hstep hend n (Array.replicate l.length false) a0 w.drew hu
  ⟨⟨by simp, fun j oj _ hl => (by rw [getD_replicate_false] at hl; cases hl), fun t _ ht => getD_in (by simpa using ht) (getD_replicate_false _ _)⟩, hI0, fun r hr _ => hR0 r hr, oldVals a0 (l.take n), by simp [oldVals]; omega, (putAll_old a0 _ hdst).symm, fun i _ hl => (by rw [getD_replicate_false] at hl; cases hl)⟩
 rw [show n + (l.length - n) = l.toArray.size by simp; omega] at this
 exact this
end
theorem heapx {w w' : World} {b : Nat} {o : Obj} (hE : Ext w w') (h : w.heap[b]? = some o) : w'.heap[b]? = some o := by
 rw [hE.block b (Array.getElem?_eq_some_iff.1 h).1]; exact h
theorem heap_chg {S : Nat → Prop} {w w' : World} {b : Nat} {o : Obj} (h : w.heap[b]? = some o) (hc : Chg S w w') (hn : ¬ S b) : w'.heap[b]? = some o :=
 (hc.block b (Array.getElem?_eq_some_iff.1 h).1 hn).trans h
theorem cell_chg {S : Nat → Prop} {w w' : World} {b o : Nat} {v : Value} (h : w.cell? ⟨b, o, none⟩ = some v) (hc : Chg S w w') (hn : ¬ S b) : w'.cell? ⟨b, o, none⟩ = some v := by
 rw [World.cell?_of_block (w := w) (hc.block b (World.block_lt_of_cell? w ⟨b, o, none⟩ h) hn)]; exact h
end Go.Proofs.YtnibbldfohbfkaaGreatDoor
