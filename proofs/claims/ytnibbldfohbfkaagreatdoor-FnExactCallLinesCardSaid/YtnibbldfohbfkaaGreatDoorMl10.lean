/- Parts of one proof: what each theorem proves, and its conditions, stand in its own statement. -/
import Derived.Deep.RegionLaw
import Derived.Shelf.RegionOpenPlain
import Derived.Lib.SliceRun
import Derived.Shelf.Spec.SlicesInsertGrow
import Derived.Test.YtnibbldfohbfkaaGreatDoorMl9
set_option linter.all false
set_option maxRecDepth 100000
set_option maxHeartbeats 32000000
namespace Go.Proofs.YtnibbldfohbfkaaGreatDoor
open Go.RowKit
section
variable {P : Program}
def dvals (dep : Nat → List Nat) (vs : List Value) (i : Nat) : List Value := (dep i).map (fun d => vs.getD d undef)
def depOkB (l : List Oper) (n : Nat) (dep : Nat → List Nat) : Bool := (List.range n).all (fun i => (dep i).all (fun d => waitsB l i d))
def OneD (V : Nat → Value → List Value → World → Prop) (dep : Nat → List Nat) (cons : Nat → Option Nat) (D : List (Nat × Nat)) (n m : Nat) (I : World → Prop) (i : Nat) (o : Oper) (vs0 : List Value) (a : Act) (w : World) : Exit → Act → World → Prop :=
 fun e a' w' => e = .normal ∧ ∃ v, a' = a.put o.dst v ∧ V i v (dvals dep vs0 i) w' ∧ I w' ∧ ∀ j u us, j < n + m → j ≠ i → cons j ≠ some i → (j, i) ∉ D → (∀ c, cons j = some c → (i, c) ∉ D) → V j u us w → V j u us w'
theorem wp_of_oneD {V : Nat → Value → List Value → World → Prop} {dep : Nat → List Nat} {cons : Nat → Option Nat} {D : List (Nat × Nat)} {n m : Nat} {I : World → Prop} {o : Oper} {a : Act} {w : World} {K : Act → World → Prop} {Q : Exit → Act → World → Prop} {ops : Array Oper} {i : Nat} {vs0 : List Value} (ho : ops[i]? = some o)
  (h : wpList P ops (OneD V dep cons D n m I i o vs0 a w) [o] a w) (hK : ∀ v w', V i v (dvals dep vs0 i) w' → I w' → (∀ j u us, j < n + m → j ≠ i → cons j ≠ some i → (j, i) ∉ D → (∀ c, cons j = some c → (i, c) ∉ D) → V j u us w → V j u us w') → K (a.put o.dst v) w') : wpOp P ops Q i K a w := by
 have hno : ¬ LetsOut (OneD V dep cons D n m I i o vs0 a w) := by rintro ⟨a', w', h', _⟩; cases h'
 unfold wpOp; simp only [ho]; simp only [wpList] at h
 split
 ·rename_i hw; rw [if_pos hw] at h; left
  rcases h with h | ⟨_, h⟩
  ·unfold Oper.wp at *; generalize (execOp a.eval o).run P w = r at *
   cases r with
   | ok x w1 =>
    cases x <;> simp only [Oper.upon] at h ⊢
    case enter f args => exact h.mono fun e w2 he => by
                          cases e with
                          | returned v => obtain ⟨_, u, h1, h2, h3, h4⟩ := he; show K _ _; rw [h1]; exact hK u w2 h2 h3 h4
                          | panicked ch => obtain ⟨h1, _⟩ := he; cases h1
                          | outgrown => exact absurd he hno
    case row r1 args => exact h.mono fun v w2 he => by obtain ⟨_, u, h1, h2, h3, h4⟩ := he; rw [h1]; exact hK u w2 h2 h3 h4
    all_goals (obtain ⟨_, u, h1, h2, h3, h4⟩ := h; rw [h1]; exact hK u _ h2 h3 h4)
   | halt x w1 => cases x <;> simp only [Oper.upon] at h ⊢ <;> (obtain ⟨h1, _⟩ := h; cases h1)
  ·exact absurd h hno
 ·rename_i hw; rw [if_neg hw] at h; obtain ⟨_, u, h1, h2, h3, h4⟩ := h; rw [h1]; exact hK u w h2 h3 h4
def WaitsD (V : Nat → Value → List Value → World → Prop) (dep : Nat → List Nat) (cons : Nat → Option Nat) (i : Nat) (o : Oper) (vs : List Value) (w : World) : Prop :=
 ∀ e ∈ o.after.toList, Region.binds .any e = true → (cons e.on = none ∨ cons e.on = some i) → V e.on (vs.getD e.on undef) (dvals dep vs e.on) w
def RestD (V : Nat → Value → List Value → World → Prop) (cons : Nat → Option Nat) (n m i : Nat) (w : World) : Prop :=
 ∀ r, r < m → (cons (n + r) = none ∨ cons (n + r) = some i) → V (n + r) undef [] w
structure HInvD (V : Nat → Value → List Value → World → Prop) (dep : Nat → List Nat) (cons : Nat → Option Nat) (l : List Oper) (n m : Nat) (a0 : Act) (I : Nat → World → Prop) (f : Nat) (listed : Array Bool) (a : Act) (w : World) : Prop where
 head : HeadInv .any l.toArray n listed
 ext : ∃ k, k + f = n ∧ I k w
 rest : ∀ r, r < m → (∀ c, cons (n + r) = some c → listed.getD c false = false) → V (n + r) undef [] w
 vals : ∃ vs : List Value, vs.length = n ∧ a = putAll a0 (l.take n) vs ∧ ∀ i, i < n → listed.getD i false = true → (∀ c, cons i = some c → listed.getD c false = false) → V i (vs.getD i undef) (dvals dep vs i) w
theorem wpAny_headD {V : Nat → Value → List Value → World → Prop} {dep : Nat → List Nat} {cons : Nat → Option Nat} {D : List (Nat × Nat)} {l : List Oper} {n m : Nat} {a0 : Act} {I : Nat → World → Prop} {Q : Exit → Act → World → Prop} (hn : n ≤ l.length)
  (hH : headB l a0.tmps.size n = true) (hT : tailB l n = true) (hS : Region.seqB .any l.toArray (l.length - n) n (markN n l.length) = true) (hD : depsB l n D = true) (hdep : depOkB l n dep = true)
  (hstep : ∀ i o, i < n → l[i]? = some o → ∀ k, k < n → ∀ vs w, vs.length = n → I k w → WaitsD V dep cons i o vs w → RestD V cons n m i w → wpList P l.toArray (OneD V dep cons D n m (I (k + 1)) i o vs (putAll a0 (l.take n) vs) w) [o] (putAll a0 (l.take n) vs) w)
  (hend : ∀ vs w, vs.length = n → I n w → (∀ i, i < n → cons i = none → V i (vs.getD i undef) (dvals dep vs i) w) → (∀ r, r < m → cons (n + r) = none → V (n + r) undef [] w) → wpList P l.toArray Q (l.drop n) (putAll a0 (l.take n) vs) w) :
  ∀ (f : Nat) (listed : Array Bool) (a : Act) (w : World), unlisted listed n = f → HInvD V dep cons l n m a0 I f listed a w → wpAny P .any l.toArray Q (f + (l.length - n)) listed a w := by
 have hop : ∀ i o, i < n → l[i]? = some o → (∀ d, o.dst = some d → ∀ j o', (l.take n)[j]? = some o' → j ≠ i → o'.dst ≠ some d) ∧ (∀ e ∈ o.after.toList, Region.binds .any e = true → e.on < i) := by
  intro i o hi ho; have h1 := List.all_eq_true.1 hH i (List.mem_range.2 hi); simp only [ho, Bool.and_eq_true] at h1; refine ⟨fun d hd j o' hj hne => ?_, fun e he hb => ?_⟩
  ·have h2 := h1.1; simp only [hd, Bool.and_eq_true] at h2
   have hjn : j < n := by
    have := (List.getElem?_eq_some_iff.1 hj).1; simp at this; omega
   have h3 := List.all_eq_true.1 h2.2 j (List.mem_range.2 hjn); rw [List.getElem?_take, if_pos hjn] at hj; simp only [hj, Bool.or_eq_true, decide_eq_true_eq] at h3; exact h3.resolve_left hne
  ·have h3 := List.all_eq_true.1 h1.2 e he; simp only [Bool.or_eq_true, Bool.not_eq_true', hb, decide_eq_true_eq] at h3; exact h3.resolve_left (by simp)
 have htailno : ∀ listed, HeadInv .any l.toArray n listed → (∃ i, i < n ∧ listed.getD i true = false) → ∀ t, n ≤ t → t ∉ Region.ready .any l.toArray listed := by
  intro listed inv ⟨i, hi, hun⟩ t ht; simp only [tailB, Bool.or_eq_true, Bool.and_eq_true, decide_eq_true_eq] at hT
  rcases hT with h | h
  ·intro hr; obtain ⟨_, o, ho, _⟩ := mem_ready.1 hr; have := (Array.getElem?_eq_some_iff.1 ho).1; simp at this; omega
  ·exact tail_waits h.1.2 h.2 (by simpa using h.1.1) inv _ i rfl hi hun t ht
 intro f
 induction f with
 | zero =>
  intro listed a w hf inv; obtain ⟨vs, hvl, rfl, hV⟩ := inv.vals; have hall := unlisted_zero hf
  have hlist : listed = markN n l.length := by
   apply Array.ext_getElem?; intro i; have hsz := inv.head.size; simp only [List.size_toArray] at hsz
   by_cases hi : i < l.length
   ·have hil : i < listed.size := by omega
    rw [Array.getElem?_eq_getElem hil]
    by_cases hin : i < n
    ·have := hall i hin; simp only [Array.getD_eq_getD_getElem?, Array.getElem?_eq_getElem hil, Option.getD_some] at this; simp [markN, hi, hin, this]
    ·have := inv.head.tail i (by omega) (by simpa using hi); simp only [Array.getD_eq_getD_getElem?, Array.getElem?_eq_getElem hil, Option.getD_some] at this; simp [markN, hi, hin, this]
   ·rw [Array.getElem?_eq_none (by omega), Array.getElem?_eq_none (by simp [markN]; omega)]
  obtain ⟨kz, hkz, hIz⟩ := inv.ext
  have hIn : I n w := by rw [show n = kz by omega]; exact hIz
  rw [hlist]; have := wpAny_of_seq (P := P) (md := .any) (Q' := Q) (ops := l.toArray) (l.drop n) n (markN n l.length) (putAll a0 (l.take n) vs) w (fun j => by simp [List.getElem?_drop]) (by rw [List.length_drop]; exact hS) (hend vs w hvl hIn (fun i hi hc => hV i hi (hall i hi) (by rw [hc]; simp)) (fun r hr hc => inv.rest r hr (by rw [hc]; simp))); rw [List.length_drop] at this; rw [Nat.zero_add]; exact this
 | succ f ih =>
  intro listed a w hf inv; rw [show f + 1 + (l.length - n) = (f + (l.length - n)) + 1 by omega]; obtain ⟨vs, hvl, rfl, hV⟩ := inv.vals; obtain ⟨i0, hi0, hun0, hmin⟩ := unlisted_pos (show unlisted listed n ≠ 0 by omega); have hsz := inv.head.size; simp only [List.size_toArray] at hsz; have hun0' : listed.getD i0 true = false := getD_in (by omega) hun0; refine ⟨fun hnil => ?_, fun i hi => ?_⟩
  ·exfalso; obtain ⟨o, ho⟩ : ∃ o, l[i0]? = some o := ⟨_, List.getElem?_eq_getElem (by omega)⟩; have : i0 ∈ Region.ready .any l.toArray listed := mem_ready.2 ⟨hun0', o, by simpa using ho, fun e he hb => hmin _ ((hop i0 o hi0 ho).2 e (by simpa using he) hb)⟩; rw [hnil] at this
   cases this
  ·have hin : i < n := by
    rcases Nat.lt_or_ge i n with h | h
    ·exact h
    ·exact absurd hi (htailno listed inv.head ⟨i0, hi0, hun0'⟩ i h)
   obtain ⟨hun, o, ho, hall⟩ := mem_ready.1 hi
   have ho' : l[i]? = some o := by simpa using ho
   have hunf : listed.getD i false = false := getD_both hun
   have hdm : ∀ j d, j < n → d ∈ dep j → waitsB l j d = true := fun j d hj hd => List.all_eq_true.1 (List.all_eq_true.1 hdep j (List.mem_range.2 hj)) d hd
   have hself : ∀ v, dvals dep (vs.set i v) i = dvals dep vs i := fun v => by
    unfold dvals; refine List.map_congr_left (fun d hd => ?_); have h1 := hdm i d hin hd; simp only [waitsB, ho'] at h1; obtain ⟨e, he, h2⟩ := List.any_eq_true.1 h1; simp only [Bool.and_eq_true, decide_eq_true_eq] at h2; have h3 := (hop i o hin ho').2 e he h2.1; rw [List.getD_eq_getElem?_getD, List.getElem?_set_ne (by omega), ← List.getD_eq_getElem?_getD]
   have hoth : ∀ v j, j ≠ i → j < n → listed.getD j false = true → dvals dep (vs.set i v) j = dvals dep vs j := fun v j hji hj hlj => by
    unfold dvals; refine List.map_congr_left (fun d hd => ?_); have h1 := hdm j d hj hd; obtain ⟨oj, hoj⟩ : ∃ oj, l[j]? = some oj := ⟨_, List.getElem?_eq_getElem (by omega)⟩; simp only [waitsB, hoj] at h1; obtain ⟨e, he, h2⟩ := List.any_eq_true.1 h1; simp only [Bool.and_eq_true, decide_eq_true_eq] at h2; have h3 := inv.head.closed j oj (by simpa using hoj) hlj e (by simpa using he) h2.1; rw [h2.2] at h3
    have hdi : i ≠ d := fun e => by rw [← e, hunf] at h3; cases h3
    rw [List.getD_eq_getElem?_getD, List.getElem?_set_ne hdi, ← List.getD_eq_getElem?_getD]
   have hno2 : ∀ j, (∀ c, cons j = some c → listed.getD c false = false) → ∀ c, cons j = some c → (i, c) ∉ D := fun j hj c hc hm => by
    have h1 := List.all_eq_true.1 hD (i, c) hm; simp only [Bool.and_eq_true, waitsB, ho'] at h1; obtain ⟨e, he, h2⟩ := List.any_eq_true.1 h1.2; simp only [Bool.and_eq_true, decide_eq_true_eq] at h2; have h3 := hall e (by simpa using he) h2.1; rw [h2.2, hj c hc] at h3
    cases h3
   obtain ⟨kk, hkk, hIk⟩ := inv.ext
   refine wp_of_oneD ho (hstep i o hin ho' kk (by omega) vs w hvl hIk (fun e he hb hc => hV e.on (by have := (hop i o hin ho').2 e he hb; omega) (hall e (by simpa using he) hb) (fun c hcc => by
    rcases hc with hc | hc
    ·rw [hc] at hcc; cases hcc
    ·rw [hc] at hcc; cases hcc; exact hunf)) (fun r hr hc => inv.rest r hr (fun c hcc => by
    rcases hc with hc | hc
    ·rw [hc] at hcc; cases hcc
    ·rw [hc] at hcc; cases hcc; exact hunf))) (fun v w' hv hE hkeep => ?_)
   refine ih _ _ _ (by have := unlisted_set hin hun; omega) ⟨inv.head.set hi hin, ⟨kk + 1, by omega, hE⟩, fun r hr hcr => ?_, vs.set i v, by simpa using hvl, ?_, fun j hj hlj hcj => ?_⟩
   ·have hil : i < listed.size := by omega
    have hci : cons (n + r) ≠ some i := fun e => by
     have := hcr i e; rw [show (listed.setIfInBounds i true).getD i false = true by simp [hil]] at this
     cases this
    have hnd : (n + r, i) ∉ D := fun hm => by
     have h1 := List.all_eq_true.1 hD (n + r, i) hm; simp only [Bool.and_eq_true, decide_eq_true_eq] at h1; omega
    have hun2 : ∀ c, cons (n + r) = some c → listed.getD c false = false := fun c hc => by
     have h2 := hcr c hc
     have hne : i ≠ c := fun e => hci (by rw [e]; exact hc)
     rwa [getD_set_ne false hne] at h2
    exact hkeep (n + r) _ _ (by omega) (by omega) hci hnd (hno2 _ hun2) (inv.rest r hr hun2)
   ·exact putAll_put a0 (l.take n) vs i o v (by rw [List.getElem?_take, if_pos hin]; exact ho') (by simp; omega) (hop i o hin ho').1
   ·by_cases hij : i = j
    ·subst hij; rw [List.getD_eq_getElem?_getD, List.getElem?_set_self (by omega), hself v]; exact hv
    ·rw [getD_set_ne false hij] at hlj; rw [List.getD_eq_getElem?_getD, List.getElem?_set_ne hij, ← List.getD_eq_getElem?_getD]
     have hil : i < listed.size := by omega
     have hci : cons j ≠ some i := fun e => by
      have := hcj i e; rw [show (listed.setIfInBounds i true).getD i false = true by simp [hil]] at this
      cases this
     have hnd : (j, i) ∉ D := fun hm => by
      have h1 := List.all_eq_true.1 hD (j, i) hm; simp only [Bool.and_eq_true, waitsB] at h1; obtain ⟨oj, hoj⟩ : ∃ oj, l[j]? = some oj := ⟨_, List.getElem?_eq_getElem (by omega)⟩; rw [hoj] at h1; obtain ⟨e, he, h2⟩ := List.any_eq_true.1 h1.2; simp only [Bool.and_eq_true, decide_eq_true_eq] at h2; have h3 := inv.head.closed j oj (by simpa using hoj) hlj e (by simpa using he) h2.1; rw [h2.2, hunf] at h3
      cases h3
     have hun2 : ∀ c, cons j = some c → listed.getD c false = false := fun c hc => by
      have h2 := hcj c hc
      have hne : i ≠ c := fun e => hci (by rw [e]; exact hc)
      rwa [getD_set_ne false hne] at h2
     rw [hoth v j (fun e => hij e.symm) hj hlj]; exact hkeep j _ _ (by omega) (fun e => hij e.symm) hci hnd (hno2 _ hun2) (hV j hj hlj hun2)
theorem wp_region_d {V : Nat → Value → List Value → World → Prop} (dep : Nat → List Nat) (I : Nat → World → Prop) (cons : Nat → Option Nat) (D : List (Nat × Nat)) {l : List Oper} (n m : Nat) {id : Nat} {a0 : Act} {w : World} {Q : Exit → Act → World → Prop} (hm : P.follows .mixedOrders = true)
  (hn : n ≤ l.length) (hH : headB l a0.tmps.size n = true) (hT : tailB l n = true) (hS : Region.seqB .any l.toArray (l.length - n) n (markN n l.length) = true) (hD : depsB l n D = true) (hdep : depOkB l n dep = true)
  (hI0 : I 0 w.drew) (hR0 : ∀ r, r < m → V (n + r) undef [] w.drew)
  (hstep : ∀ i o, i < n → l[i]? = some o → ∀ k, k < n → ∀ vs w2, vs.length = n → I k w2 → WaitsD V dep cons i o vs w2 → RestD V cons n m i w2 → wpList P l.toArray (OneD V dep cons D n m (I (k + 1)) i o vs (putAll a0 (l.take n) vs) w2) [o] (putAll a0 (l.take n) vs) w2)
  (hend : ∀ vs w2, vs.length = n → I n w2 → (∀ i, i < n → cons i = none → V i (vs.getD i undef) (dvals dep vs i) w2) → (∀ r, r < m → cons (n + r) = none → V (n + r) undef [] w2) → wpList P l.toArray Q (l.drop n) (putAll a0 (l.take n) vs) w2) :
  (Code.region id l.toArray true).wp P Q a0 w := by
 refine wp_region_any hm ?_
 have hdst : ∀ o ∈ l.take n, ∀ d, o.dst = some d → d < a0.tmps.size := by
  intro o ho d hd; obtain ⟨i, hi⟩ := List.getElem?_of_mem ho
  have hin : i < n := by
   have := (List.getElem?_eq_some_iff.1 hi).1; simp at this; omega
  rw [List.getElem?_take, if_pos hin] at hi; have h1 := List.all_eq_true.1 hH i (List.mem_range.2 hin); simp only [hi, hd, Bool.and_eq_true, decide_eq_true_eq] at h1; exact h1.1.1
 have hu : unlisted (Array.replicate l.length false) n = n := by
  unfold unlisted; rw [List.filter_eq_self.2 (by intro i hi; rw [getD_replicate_false]; rfl)]; simp
 have := wpAny_headD (P := P) (dep := dep) (Q := Q) (a0 := a0) (I := I) hn hH hT hS hD hdep hstep hend n (Array.replicate l.length false) a0 w.drew hu
  ⟨⟨by simp, fun j oj _ hl => (by rw [getD_replicate_false] at hl; cases hl), fun t _ ht => getD_in (by simpa using ht) (getD_replicate_false _ _)⟩, ⟨0, by omega, hI0⟩, fun r hr _ => hR0 r hr, oldVals a0 (l.take n), by simp [oldVals]; omega, (putAll_old a0 _ hdst).symm, fun i _ hl => (by rw [getD_replicate_false] at hl; cases hl)⟩
 rw [show n + (l.length - n) = l.toArray.size by simp; omega] at this; exact this
end
theorem OneD.mk {V : Nat → Value → List Value → World → Prop} {dep : Nat → List Nat} {cons : Nat → Option Nat} {D : List (Nat × Nat)} {n m : Nat} {I : World → Prop} {i : Nat} {o : Oper} {vs0 : List Value} {a a' : Act} {w w' : World} (hst : ∀ i v us w w', V i v us w → Ext w w' → V i v us w') {v : Value} (ha : a' = a.put o.dst v) (hV : V i v (dvals dep vs0 i) w') (hI : I w') (hE : Ext w w') :
  OneD V dep cons D n m I i o vs0 a w .normal a' w' := ⟨rfl, v, ha, hV, hI, fun j u us _ _ _ _ _ h => hst j u us w w' h hE⟩
def VCp (w : World) (B : Nat) (an ak : Option Addr) (cn ck : Nat) (N : List ByteArray) (K : List Int) (H : List Pl) : Nat → Value → List Value → World → Prop := fun i v us wv => match i with
 | 0 => v = .pointer (some ⟨B, 5, none⟩)
 | 1 => v = .slice an N.length cn
 | 2 => Sep w wv (plRow 9 1 encStr1 v N :: H)
 | 3 => v = .pointer (some ⟨B, 6, none⟩)
 | 4 => v = .slice ak K.length ck
 | 5 => Sep w wv (plRow 3 1 encInt1 v K :: plRow 9 1 encStr1 (us.getD 0 undef) N :: H)
 | 6 => v = .pointer (some ⟨B, 5, none⟩)
 | _ => True
theorem VCp.ext {w : World} {B : Nat} {an ak : Option Addr} {cn ck : Nat} {N : List ByteArray} {K : List Int} {H : List Pl} (i : Nat) (v : Value) (us : List Value) (w1 w2 : World) (h : VCp w B an ak cn ck N K H i v us w1) (hE : Ext w1 w2) : VCp w B an ak cn ck N K H i v us w2 := by
 match i with
 | 0 | 1 | 3 | 4 | 6 => exact h
 | 2 => exact SepM.step (show Sep w w1 _ from h) hE
 | 5 => exact SepM.step (show Sep w w1 _ from h) hE
 | (n + 7) => trivial
theorem implCopy (a : Option Addr) (cap : Nat) (T : List Nd) (w : World) (hl : T.length ≤ 1048576) (hT : ∀ x ∈ T, SmN 1048576 x) (hc : RdN w a T) :
  Calls Tryz.prog 46 #[.slice a T.length cap] w (RetTree T w) := by
 have HT := hd0 hT; clear hT
 go_enter Tryz.func46, Tryz.ntmps46
 have S := Sep.start w; replace S : Sep w (w.alloc (.cells #[] 89)) [plRow 89 7 encNc (.slice (some ⟨w.heap.size, 0, none⟩) 0 0) []] := S.lit0 (by simp) _ _ _; have S0 := S.gPure (P := pinNd) (T := ([] : List Nd)) 0 rfl rfl (fun k s t hs => by simp at hs) (fun s hs => by simp at hs)
 go_upto_region 2 with fail
 have S1 : Sep w (w.alloc (.cells #[] 89)) [plNd (.slice (some ⟨w.heap.size, 0, none⟩) 0 0) [] []] := S0; clear S0 S; generalize (w.alloc (.cells #[] 89)) = w1 at *; go_wp2
 go_loopw [3, 5, 9] (fun o _ i wr => ∃ (k : Nat) (u : Value) (vs : List Nc), k ≤ T.length ∧ i = .int .i64 k ∧ u = o ∧ Sep w wr [plNd u vs (T.take k)]) (fun _ _ i _ => T.length - (intOf i).toNat)
 case atStart => exact ⟨0, _, [], Nat.zero_le _, rfl, rfl, S1⟩
 case round =>
  clear S1; obtain ⟨k, u, vs, hk, rfl, rfl, S⟩ := hrel
  by_cases hlt : k < T.length
  rotate_left
  ·obtain rfl : k = T.length := by omega
   have hni : ¬ (T.length : Int) < (T.length : Int) := by omega
   rw [List.take_length] at S; go_wp2; go_ret; exact ⟨_, vs, rfl, S⟩
  ·obtain ⟨x, b', off, an, cn, ak, ck, hx, rfl, c0, c1, c2, c3, c4, c5, c6, hcn, hck, hrn, hrk⟩ := atNd hc hlt; have Hx := hd0 hx; have hsx := HT.out x (List.mem_of_getElem? hx); have hNl : x.N.length ≤ 1048576 := hsx.2.1; have hKl : x.K.length ≤ 1048576 := hsx.2.2.2
   have i0 : (k : Int) < (T.length : Int) := by omega
   have hE := S.ext; have d0 := cell_ext hE c0; have d1 := cell_ext hE c1; have d2 := cell_ext hE c2; have d3 := cell_ext hE c3; have d4 := cell_ext hE c4; have d5 := cell_ext hE c5; have d6 := cell_ext hE c6; have Hrn := hd0 hrn; have Hrk := hd0 hrk; clear hx hsx c0 c1 c2 c3 c4 c5 c6 hcn hck hrn hrk hE; replace S := S.alloc_at (n := wr.heap.size) (by simp) #[.bool x.fold, .int .i64 x.own, .int .i64 x.grp, .int .i64 x.mode, .string x.text, .slice an x.N.length cn, .slice ak x.K.length ck] 89
   go_upto_region 5 with fail
   clear d0 d1 d2 d3 d4 d5 d6; generalize (wr.alloc (.cells #[.bool x.fold, .int .i64 x.own, .int .i64 x.grp, .int .i64 x.mode, .string x.text, .slice an x.N.length cn, .slice ak x.K.length ck] 89)) = wA at *; generalize wr.heap.size = B at *; have Sd : Sep w (World.drew wA) [plBox B #[.bool x.fold, .int .i64 x.own, .int .i64 x.grp, .int .i64 x.mode, .string x.text, .slice an x.N.length cn, .slice ak x.K.length ck] 89, plNd u vs (T.take k)] := S.drew; obtain ⟨nb5, _⟩ := bx (Sd.box 0 rfl) 5 rfl; obtain ⟨nb6, _⟩ := bx (Sd.box 0 rfl) 6 rfl; clear S; refine wp_region_d (V := VCp w B an ak cn ck x.N x.K [plBox B #[.bool x.fold, .int .i64 x.own, .int .i64 x.grp, .int .i64 x.mode, .string x.text, .slice an x.N.length cn, .slice ak x.K.length ck] 89, plNd u vs (T.take k)]) (fun i => if i = 5 then [2] else []) (fun _ wv => Ext (World.drew wA) wv) (fun _ => none) [] 7 0 rfl (by decide) (by kernel_rfl) (by kernel_rfl) (by kernel_rfl) (by kernel_rfl) (by kernel_rfl) (Ext.refl _) (fun r hr => by omega) ?_ ?_
   ·intro i o hi ho k2 hk2 vz w4 hvl hE hd hrest; clear hrest
    match vz, hvl with
    | [y0, y1, y2, y3, y4, y5, y6], _ =>
    rcases lc7 hi with rfl | rfl | rfl | rfl | rfl | rfl | rfl
    all_goals
     obtain rfl := Option.some.inj ho
    ·clear hd; simp [putAll, Act.put]; go_wp2; exact OneD.mk (VCp.ext) rfl rfl hE (Ext.refl _)
    ·have q1 : y0 = .pointer (some ⟨B, 5, none⟩) := hd ⟨0, .data⟩ (by simp) rfl (.inl rfl); have c5 := cell_ext hE nb5; subst q1; clear hd; simp [putAll, Act.put]; go_wp2; exact OneD.mk (VCp.ext) rfl rfl hE (Ext.refl _)
    ·have q1 : y1 = .slice an x.N.length cn := hd ⟨1, .data⟩ (by simp) rfl (.inl rfl); have HC := hd0 (cloneStr_any an cn _ x.N w4 rfl hNl (Hrn.out.ext (Sd.ext.trans hE))); subst q1; clear hd; simp [putAll, Act.put]
     go_wp2_with fail
     refine HC.out.mono ?_; rintro e w5 ⟨v5, rfl, ho5, hE5⟩; have S5 := (Sd.step hE).cons (p := plRow 9 1 encStr1 v5 x.N) hE5 (ownsRow_base ho5 (Nat.zero_le _)) (fun b hb => (World.ownsRow.lt ho5 b hb).1); clear HC ho5; go_wp2; exact OneD.mk (VCp.ext) rfl S5 (hE.trans hE5) hE5
    ·clear hd; simp [putAll, Act.put]; go_wp2; exact OneD.mk (VCp.ext) rfl rfl hE (Ext.refl _)
    ·have q1 : y3 = .pointer (some ⟨B, 6, none⟩) := hd ⟨3, .data⟩ (by simp) rfl (.inl rfl); have c6 := cell_ext hE nb6; subst q1; clear hd; simp [putAll, Act.put]; go_wp2; exact OneD.mk (VCp.ext) rfl rfl hE (Ext.refl _)
    ·have q1 : y4 = .slice ak x.K.length ck := hd ⟨4, .data⟩ (by simp) rfl (.inl rfl); have S2 : Sep w w4 (plRow 9 1 encStr1 y2 x.N :: [plBox B #[.bool x.fold, .int .i64 x.own, .int .i64 x.grp, .int .i64 x.mode, .string x.text, .slice an x.N.length cn, .slice ak x.K.length ck] 89, plNd u vs (T.take k)]) := hd ⟨2, .chain⟩ (by simp) rfl (.inl rfl); have HC := hd0 (cloneInt_any ak ck _ x.K w4 rfl hKl (Hrk.out.ext (Sd.ext.trans hE))); subst q1; clear hd; simp [putAll, Act.put]
     go_wp2_with fail
     refine HC.out.mono ?_; rintro e w5 ⟨v5, rfl, ho5, hE5⟩; have S5 := S2.cons (p := plRow 3 1 encInt1 v5 x.K) hE5 (ownsRow_base ho5 (Nat.zero_le _)) (fun b hb => (World.ownsRow.lt ho5 b hb).1); clear HC ho5; go_wp2; exact OneD.mk (VCp.ext) rfl S5 (hE.trans hE5) hE5
    ·clear hd; simp [putAll, Act.put]; go_wp2; exact OneD.mk (VCp.ext) rfl rfl hE (Ext.refl _)
   ·intro vz wB hvl hE hV _
    match vz, hvl with
    | [y0, y1, y2, y3, y4, y5, y6], _ =>
    have S5 : Sep w wB [plRow 3 1 encInt1 y5 x.K, plRow 9 1 encStr1 y2 x.N, plBox B #[.bool x.fold, .int .i64 x.own, .int .i64 x.grp, .int .i64 x.mode, .string x.text, .slice an x.N.length cn, .slice ak x.K.length ck] 89, plNd u vs (T.take k)] := hV 5 (by omega) rfl; have q6 : y6 = .pointer (some ⟨B, 5, none⟩) := hV 6 (by omega) rfl; clear hV hE Sd nb5 nb6; obtain ⟨a5, k5, hy5, _, _, _⟩ := view_owns encStr1_len (S5.row 1 rfl); obtain ⟨a6, k6, hy6, _, _, _⟩ := view_owns encInt1_len (S5.row 0 rfl); subst q6 hy5 hy6; have S := S5; clear S5; simp only [putAll, Act.put, List.take_succ_cons, List.take_zero, List.drop_succ_cons, List.drop_zero]; simp; obtain ⟨⟨nbc0, nbf0⟩, ⟨nbc1, nbf1⟩, ⟨nbc2, nbf2⟩, ⟨nbc3, nbf3⟩, ⟨nbc4, nbf4⟩, ⟨nbc5, nbf5⟩, ⟨nbc6, nbf6⟩⟩ := bx7 (S.box 2 rfl)
    go_upto_region 6 with fail
    clear nbc0 nbf0 nbc1 nbf1 nbc2 nbf2 nbc3 nbf3 nbc4 nbf4 nbc5 nbf5 nbc6 nbf6; replace S : Sep w ((wB.setCell ⟨B, 5, none⟩ (.slice a5 x.N.length k5)).setCell ⟨B, 6, none⟩ (.slice a6 x.K.length k6)) [plRow 3 1 encInt1 (.slice a6 x.K.length k6) x.K, plRow 9 1 encStr1 (.slice a5 x.N.length k5) x.N, plBox B #[.bool x.fold, .int .i64 x.own, .int .i64 x.grp, .int .i64 x.mode, .string x.text, .slice a5 x.N.length k5, .slice a6 x.K.length k6] 89, plNd u vs (T.take k)] := (S.set 2 rfl 5 _).set 2 rfl 6 _; generalize ((wB.setCell ⟨B, 5, none⟩ (.slice a5 x.N.length k5)).setCell ⟨B, 6, none⟩ (.slice a6 x.K.length k6)) = wC at *; have S7 := S.ofRows 1 0 (⟨x, a5, k5, a6, k6⟩ : Nc) rfl rfl (by decide); clear S; have S : Sep w wC [pinNd.one (⟨x, a5, k5, a6, k6⟩ : Nc) x, plBox B #[.bool x.fold, .int .i64 x.own, .int .i64 x.grp, .int .i64 x.mode, .string x.text, .slice a5 x.N.length k5, .slice a6 x.K.length k6] 89, plNd u vs (T.take k)] := S7; clear S7
    have hvl : vs.length = k := by
     have := plG_len (S.at_ 2 rfl); rw [List.length_take] at this; omega
    have hvs : vs.length ≤ 1048576 := by omega
    have HS := hd0 S; obtain ⟨⟨nbc0, nbf0⟩, ⟨nbc1, nbf1⟩, ⟨nbc2, nbf2⟩, ⟨nbc3, nbf3⟩, ⟨nbc4, nbf4⟩, ⟨nbc5, nbf5⟩, ⟨nbc6, nbf6⟩⟩ := bx7 (S.box 1 rfl); have SA := S.alloc #[.bool x.fold, .int .i64 x.own, .int .i64 x.grp, .int .i64 x.mode, .string x.text, .slice a5 x.N.length k5, .slice a6 x.K.length k6] 89; have rd1 : Rd 7 encNc (wC.alloc (.cells #[.bool x.fold, .int .i64 x.own, .int .i64 x.grp, .int .i64 x.mode, .string x.text, .slice a5 x.N.length k5, .slice a6 x.K.length k6] 89)) (some ⟨wC.heap.size, 0, none⟩) [(⟨x, a5, k5, a6, k6⟩ : Nc)] := rd_lit_new [(⟨x, a5, k5, a6, k6⟩ : Nc)] encNc_len rfl; clear hvl; obtain ⟨ua, uc, hu, hucap, _, _⟩ := view_owns encNc_len (SA.gRow (2 + 1) rfl); have HSA := hd0 SA; subst hu
    go_wp2_with (at_builtin; refine Hid.out (?_ : Hid _))
    unfold Hid; refine wpList_append_b rfl _ _ 28 rfl w.heap.size 89 _ 7 _ Tryz.underlying28 infoNd rfl (by decide) encNc_len encNc_one _ vs.length vs rfl (HSA.out.gRow (2 + 1) rfl) rfl (some ⟨wC.heap.size, 0, none⟩) 1 1 [(⟨x, a5, k5, a6, k6⟩ : Nc)] rfl rfl rd1 (by omega) (by omega) HSA.out.chg.size ?_; intro v7 w7 ho hgr hblk
    have SM := (HSA.out.gPush (2 + 1) (0 + 1) rfl rfl (by decide) hgr ho hblk).keep [plNd v7 (vs ++ [(⟨x, a5, k5, a6, k6⟩ : Nc)]) (T.take k ++ [x])] (by
     refine List.Sublist.cons _ (List.Sublist.cons _ ?_)
     exact List.Sublist.refl _)
    have HN : Hid (T.take k ++ [x] = T.take (k + 1)) := hd0 (by rw [List.take_add_one, Hx.out]; rfl); rw [HN.out] at SM; clear ho hgr hblk SA rd1 S HSA HS nbc0 nbc1 nbc2 nbc3 nbc4 nbc5 nbc6 nbf0 nbf1 nbf2 nbf3 nbf4 nbf5 nbf6; go_wp2; go_roundw
    case rel => exact ⟨k + 1, v7, _, by omega, by go_num, rfl, SM⟩
    case measure => simp [intOf]; omega
section
variable {P : Program} {α : Type}
theorem kit_setCells (g : Nat) : ∀ (us : List Value) (p : Nat) (w : World), w.setCells g p us = setCells w g p us := by
 intro us
 induction us with
 | nil => intro p w; rfl
 | cons u us ih => intro p w; exact ih (p + 1) _
theorem setAll_eq (us : List Value) : ∀ (xs : List Value) (p : Nat), p + us.length ≤ xs.length → setAll xs p us = xs.take p ++ us ++ xs.drop (p + us.length) := by
 intro xs p h; apply List.ext_getElem?; intro i; rw [setAll_at us xs p i h]
 by_cases h1 : i < p
 ·rw [if_neg (by omega), List.append_assoc, List.getElem?_append_left (by simp; omega), List.getElem?_take, if_pos h1]
 ·by_cases h2 : i < p + us.length
  ·rw [if_pos (by omega), List.append_assoc, List.getElem?_append_right (by simp; omega), List.getElem?_append_left (by simp; omega)]; simp only [List.length_take]
   congr 1
   omega
  ·rw [if_neg (by omega), List.append_assoc, List.getElem?_append_right (by simp; omega), List.getElem?_append_right (by simp; omega), List.getElem?_drop]; simp only [List.length_take]
   congr 1
   omega
theorem flatMap_take {enc : α → List Value} {nf : Nat} (hn : ∀ x, (enc x).length = nf) (l : List α) (i : Nat) : (l.flatMap enc).take (i * nf) = (l.take i).flatMap enc := by
 induction l generalizing i with
 | nil => simp
 | cons x l ih =>
  cases i with
  | zero => simp
  | succ i => rw [List.flatMap_cons, List.take_succ_cons, List.flatMap_cons, List.take_append, hn, Nat.add_mul, Nat.one_mul, Nat.add_sub_cancel, ih, List.take_of_length_le (by rw [hn]; omega)]
theorem flatMap_drop {enc : α → List Value} {nf : Nat} (hn : ∀ x, (enc x).length = nf) (l : List α) (i : Nat) : (l.flatMap enc).drop (i * nf) = (l.drop i).flatMap enc := by
 induction l generalizing i with
 | nil => simp
 | cons x l ih =>
  cases i with
  | zero => simp
  | succ i => rw [List.flatMap_cons, List.drop_succ_cons, List.drop_append, hn, Nat.add_mul, Nat.one_mul, Nat.add_sub_cancel, ih, List.drop_of_length_le (by rw [hn]; omega), List.nil_append]
theorem del_list {enc : α → List Value} {nf : Nat} (hn : ∀ x, (enc x).length = nf) (l : List α) (i j : Nat) (hij : i ≤ j) (hj : j ≤ l.length) (zs : List Value) (hz : zs.length = (j - i) * nf) :
  (setAll (setAll (l.flatMap enc) (i * nf) ((l.drop j).flatMap enc)) ((i + (l.length - j)) * nf) zs).take ((l.length - (j - i)) * nf) = (l.take i ++ l.drop j).flatMap enc := by
 have hll := flatMap_length hn l; have hld := flatMap_length hn (l.drop j); rw [List.length_drop] at hld
 have e1 : i * nf + (l.length - j) * nf = (i + (l.length - j)) * nf := by rw [Nat.add_mul]
 have e2 : (i + (l.length - j)) * nf + (j - i) * nf = l.length * nf := by rw [← Nat.add_mul]; congr 1; omega
 have hs := setAll_eq ((l.drop j).flatMap enc) (l.flatMap enc) (i * nf) (by rw [hld, hll]; omega); rw [hs]
 have hlen : ((l.flatMap enc).take (i * nf) ++ (l.drop j).flatMap enc ++ (l.flatMap enc).drop (i * nf + ((l.drop j).flatMap enc).length)).length = l.length * nf := by
  simp only [List.length_append, List.length_take, List.length_drop, hld, hll]; omega
 rw [setAll_eq zs _ _ (by rw [hlen, hz]; omega), List.append_assoc, show l.length - (j - i) = i + (l.length - j) by omega, List.take_append_of_le_length (by rw [List.length_take, hlen]; omega), List.take_take, Nat.min_self]; rw [List.take_append_of_le_length (by simp only [List.length_append, List.length_take, hld, hll]; omega), List.take_of_length_le (by simp only [List.length_append, List.length_take, hld, hll]; omega), flatMap_take hn, List.flatMap_append]
theorem owns_shrink {w : World} {base e nf g n m cap : Nat} {xs : List Value} (h : w.ownsRow base e nf (.slice (some ⟨g, 0, none⟩) n cap) n xs) (hm : m ≤ n) : w.ownsRow base e nf (.slice (some ⟨g, 0, none⟩) m cap) m (xs.take (m * nf)) := by
 have hmul : m * nf ≤ n * nf := Nat.mul_le_mul_right _ hm; refine ⟨by rw [List.length_take, h.1]; omega, .inr ?_⟩
 rcases h.2 with ⟨h1, _⟩ | ⟨g', cap', cur, h1, h2, h3, h4, h5, h6, h7⟩
 ·cases h1
 ·simp only [Value.slice.injEq, Option.some.injEq, Addr.mk.injEq, and_true] at h1; obtain ⟨rfl, _, rfl⟩ := h1; refine ⟨g, cap, cur, rfl, h2, h3, by omega, h5, h6, ?_⟩; rw [← h7, List.take_take, Nat.min_eq_left hmul]
theorem owns_there {w : World} {base e nf g n cap : Nat} {xs : List Value} (h : w.ownsRow base e nf (.slice (some ⟨g, 0, none⟩) n cap) n xs) (k : Nat) (hk : k < n * nf) : (w.cell? ⟨g, k, none⟩).isSome = true ∧ w.frozen? ⟨g, k, none⟩ = false := by
 refine ⟨?_, h.frozenAt _⟩; rw [h.cellAt k hk, List.getElem?_eq_getElem (by rw [h.1]; exact hk)]; rfl
theorem owns_bound {w : World} {base e nf g n cap : Nat} {xs : List Value} (h : w.ownsRow base e nf (.slice (some ⟨g, 0, none⟩) n cap) n xs) : n ≤ cap ∧ cap ≤ 9223372036854775807 ∧ base ≤ g := by
 rcases h.2 with ⟨h1, _⟩ | ⟨g', cap', cur, h1, h2, h3, h4, h5, h6, h7⟩
 ·cases h1
 ·simp only [Value.slice.injEq, Option.some.injEq, Addr.mk.injEq, and_true] at h1; obtain ⟨rfl, _, rfl⟩ := h1; unfold maxLen at h5; exact ⟨h4, by omega, h2⟩
theorem run_clear_cells (w : World) (t e ty : TypeId) (z : Value) (nf : Nat) (ht : P.underlying t = some (.slice e)) (hv : ∀ w, (zeroValue e).run P w = .ok z w) (hz : z.cells.size = nf) (h1 : ∀ u ∈ z.cells.toList, u.oneCell' = true) (b o n c : Nat) (hn : 0 < n)
  (hc : ∀ j, j < n * nf → (w.cell? ⟨b, o + j, none⟩).isSome = true) (hf : ∀ j, j < n * nf → w.frozen? ⟨b, o + j, none⟩ = false) :
  (Builtin.clear_ #[t] ty #[.slice (some ⟨b, o, none⟩) n c]).run P w = .ok (.tuple #[]) (w.setCells b o (Builtin.zeroCells z.cells n).toList) := by
 have hlen : (Builtin.zeroCells z.cells n).toList.length = n * nf := by simp [Builtin.zeroCells, hz]
 have hst := run_storeCells_cells (P := P) b o (Builtin.zeroCells z.cells n).toList 0 w (by rw [hlen]; simpa using hc) (by rw [hlen]; simpa using hf) (by
  intro u hu; simp only [Builtin.zeroCells, Array.toList_map, List.mem_map] at hu; obtain ⟨i, hi, rfl⟩ := hu
  have hi2 : i < n * z.cells.size := by simpa using hi
  have hpos : 0 < z.cells.size := by
   rcases Nat.eq_zero_or_pos z.cells.size with h | h
   ·rw [h] at hi2; simp at hi2
   ·exact h
  rw [getElem!_pos z.cells _ (Nat.mod_lt _ hpos)]
  exact h1 _ (by simp))
 simp only [Nat.add_zero] at hst; obtain ⟨m, rfl⟩ : ∃ m, n = m + 1 := ⟨n - 1, by omega⟩; simp [Builtin.clear_, run_underlying ht, hv, hst]
end
theorem run_copy_kStr {P : Program} (w : World) (dT sT ty elem : TypeId) (b o dLen dCap : Nat) (a : Addr) (sLen sCap n nf : Nat) (cs : List Value)
  (hu : P.underlying dT = some (.slice elem)) (hs : (P.info? elem).map (·.size) = some nf) (hn : n = Nat.min sLen dLen) (hcl : cs.length = n * nf)
  (hsrc : ∀ j v, cs[j]? = some v → w.cell? (a.add j) = some v) (hc : ∀ j, j < cs.length → (w.cell? ⟨b, o + j, none⟩).isSome = true) (hf : ∀ j, j < cs.length → w.frozen? ⟨b, o + j, none⟩ = false) (h1 : ∀ v ∈ cs, v.oneCell' = true) :
  (Builtin.copy_ #[dT, sT] ty #[.slice (some ⟨b, o, none⟩) dLen dCap, .slice (some a) sLen sCap]).run P w = .ok (goInt n) (w.setCells b o cs) := by
 have hl := run_loadCells_list (P := P) w a cs hsrc; have hst := run_storeCells_cells (P := P) b o cs 0 w (by simpa using hc) (by simpa using hf) h1
 cases hq : P.info? elem with
 | none => simp [hq] at hs
 | some i =>
  have hi : i.size = nf := by simpa [hq] using hs
  simp [Builtin.copy_, run_underlying hu, Builtin.lenOf, Builtin.firstCells, sizeOf, typeInfo, hq, hi, ← hn, ← hcl, hl, hst]
theorem setCells_sameStr (g : Nat) : ∀ (us : List Value) (o : Nat) (w : World), w.setCells g o us = setCells w g o us
 | [], _, _ => rfl
 | u :: us, o, w => setCells_sameStr g us (o + 1) (w.setCell ⟨g, o, none⟩ u)
theorem owns_moreStr {w : World} {base e nf g n cap : Nat} {xs : List Value} (h : w.ownsRow base e nf (.slice (some ⟨g, 0, none⟩) n cap) n xs) (hc : n + 1 ≤ cap) : ∃ ys : List Value, ys.length = nf ∧ w.ownsRow base e nf (.slice (some ⟨g, 0, none⟩) (n + 1) cap) (n + 1) (xs ++ ys) := by
 rcases h.2 with ⟨h1, _⟩ | ⟨g', cap', cur, h1, hb, hg, _, hm, hs, ht⟩
 ·cases h1
 ·simp only [Value.slice.injEq, Option.some.injEq, Addr.mk.injEq, and_true, true_and] at h1; obtain ⟨rfl, rfl⟩ := h1; have hle : (n + 1) * nf ≤ cap * nf := Nat.mul_le_mul_right _ hc
  have hcl : cur.toList.length = cap * nf := by rw [Array.length_toList]; exact hs
  have e1 : (n + 1) * nf = n * nf + nf := by rw [Nat.add_mul, Nat.one_mul]
  have e2 : cur.toList.take ((n + 1) * nf) = xs ++ (cur.toList.drop (n * nf)).take nf := by rw [← ht, e1, List.take_add]
  refine ⟨(cur.toList.drop (n * nf)).take nf, by rw [List.length_take, List.length_drop]; omega, ?_, .inr ⟨g, cap, cur, rfl, hb, hg, hc, hm, hs, e2⟩⟩; rw [← e2, List.length_take]; omega
theorem setAll_lenStr (us : List Value) : ∀ (xs : List Value) (p : Nat), (setAll xs p us).length = xs.length := by
 induction us with
 | nil => intro xs p; rfl
 | cons u us ih => intro xs p; rw [setAll, ih, List.length_set]
theorem ins_cellsStr (L : List ByteArray) (x : ByteArray) (i : Nat) (hi : i ≤ L.length) (junk : List Value) (hj : junk.length = 1) :
  setAll (setAll (L.flatMap encStr1 ++ junk) ((i + 1) * 1) ((L.drop i).flatMap encStr1)) (i * 1) (encStr1 x) = (L.take i ++ x :: L.drop i).flatMap encStr1 := by
 have h1 : (L.flatMap encStr1 ++ junk).length = (L.length + 1) * 1 := by rw [List.length_append, flatMap_length encStr1_len, hj]; omega
 have h2 : ((L.drop i).flatMap encStr1).length = (L.length - i) * 1 := by rw [flatMap_length encStr1_len, List.length_drop]
 have h3 : ((L.take i).flatMap encStr1).length = i * 1 := by rw [flatMap_length encStr1_len, List.length_take, Nat.min_eq_left hi]
 have hl : L.flatMap encStr1 = (L.take i).flatMap encStr1 ++ (L.drop i).flatMap encStr1 := by rw [← List.flatMap_append, List.take_append_drop]
 apply List.ext_getElem?; intro j; rw [setAll_at _ _ _ _ (by rw [setAll_lenStr, h1, encStr1_len]; omega), encStr1_len, setAll_at _ _ _ _ (by rw [h1, h2]; omega), h2, List.flatMap_append, List.flatMap_cons, hl]
 by_cases c1 : j < i * 1
 ·rw [if_neg (by omega), if_neg (by omega), List.append_assoc, List.getElem?_append_left (by rw [h3]; exact c1), List.getElem?_append_left (by rw [h3]; exact c1)]
 ·by_cases c2 : j < i * 1 + 1
  ·rw [if_pos (by omega), List.getElem?_append_right (by rw [h3]; omega), h3, List.getElem?_append_left (by rw [encStr1_len]; omega)]
  ·by_cases c3 : j < (L.length + 1) * 1
   ·rw [if_neg (by omega), if_pos (by omega), List.getElem?_append_right (by rw [h3]; omega), h3, List.getElem?_append_right (by rw [encStr1_len]; omega), encStr1_len]
    congr 1
    all_goals omega
   ·rw [if_neg (by omega), if_neg (by omega), List.getElem?_eq_none (by simp only [List.length_append, h2, h3, hj]; omega), List.getElem?_eq_none (by simp only [List.length_append, h2, h3, encStr1_len]; omega)]
theorem ins_cells2Str (L : List ByteArray) (x : ByteArray) (i : Nat) (hi : i ≤ L.length) (R : List Value) (hR : R.length = (L.length + 1) * 1) (ht : R.take (i * 1) = (L.take i).flatMap encStr1) :
  setAll (setAll R (i * 1) (encStr1 x)) ((i + 1) * 1) ((L.drop i).flatMap encStr1) = (L.take i ++ x :: L.drop i).flatMap encStr1 := by
 have h2 : ((L.drop i).flatMap encStr1).length = (L.length - i) * 1 := by rw [flatMap_length encStr1_len, List.length_drop]
 have h3 : ((L.take i).flatMap encStr1).length = i * 1 := by rw [flatMap_length encStr1_len, List.length_take, Nat.min_eq_left hi]
 apply List.ext_getElem?; intro j; rw [setAll_at _ _ _ _ (by rw [setAll_lenStr, hR, h2]; omega), h2, setAll_at _ _ _ _ (by rw [hR, encStr1_len]; omega), encStr1_len, List.flatMap_append, List.flatMap_cons]
 by_cases c1 : j < i * 1
 ·rw [if_neg (by omega), if_neg (by omega), List.getElem?_append_left (by rw [h3]; exact c1), ← ht, List.getElem?_take, if_pos c1]
 ·by_cases c2 : j < i * 1 + 1
  ·rw [if_neg (by omega), if_pos (by omega), List.getElem?_append_right (by rw [h3]; omega), h3, List.getElem?_append_left (by rw [encStr1_len]; omega)]
  ·by_cases c3 : j < (L.length + 1) * 1
   ·rw [if_pos (by omega), List.getElem?_append_right (by rw [h3]; omega), h3, List.getElem?_append_right (by rw [encStr1_len]; omega), encStr1_len]
    congr 1
    all_goals omega
   ·rw [if_neg (by omega), if_neg (by omega), List.getElem?_eq_none (by omega), List.getElem?_eq_none (by simp only [List.length_append, h2, h3, encStr1_len]; omega)]
def InsQStr (base : Nat) (u : Value) (L : List ByteArray) (w : World) (e : Ending) (w' : World) : Prop := ∃ v', e = .returned v' ∧ w'.ownsRow base 9 1 v' L.length (L.flatMap encStr1) ∧ w.grownBy w' u.ownBlock ∧ (∀ b, v'.ownBlock = some b → u.ownBlock = some b ∨ w.heap.size ≤ b)
theorem insStr_end (base : Nat) (a : Option Addr) (cap vb : Nat) (L : List ByteArray) (x : ByteArray) (w : World) (hL : L.length ≤ 1000000) (hb : base ≤ w.heap.size)
  (hown : w.ownsRow base 9 1 (.slice a L.length cap) L.length (L.flatMap encStr1)) (hv : w.heap[vb]? = some (.cells (encStr1 x).toArray 9)) :
  Calls Tryz.prog 150 #[.slice a L.length cap, .int .i64 L.length, .slice (some ⟨vb, 0, none⟩) 1 1] w (InsQStr base (.slice a L.length cap) (L ++ [x]) w) := by
 have hrd : Rd 1 encStr1 w (some ⟨vb, 0, none⟩) [x] := rd_lit [x] encStr1_len hv (by simp); obtain ⟨a', cap', h1, hlc, _, hsh⟩ := view_owns encStr1_len hown; simp only [Value.slice.injEq, true_and] at h1; obtain ⟨rfl, rfl⟩ := h1; have Hsh := hd0 hsh; clear hsh
 rcases Nat.lt_or_eq_of_le hlc with hlt | rfl
 ·(have hlc2 : (L.length : Int) < (cap : Int) := by omega)
  go_enter Tryz.func150, Tryz.ntmps150
  go_wp2_with (at_builtin; refine Hid.out (?_ : Hid _))
  unfold Hid; refine wpList_append_b rfl _ _ 39 rfl base 9 _ 1 _ Tryz.underlying39 infoStr1 rfl (by decide) encStr1_len encStr1_one _ L.length L rfl hown rfl (some ⟨vb, 0, none⟩) 1 1 [x] rfl rfl hrd (by omega) (by omega) hb ?_; intro v' w' ho hgr hblk; go_wp2; go_ret; exact ⟨v', rfl, ho, hgr, hblk⟩
 ·go_enter Tryz.func150, Tryz.ntmps150
  go_wp2_with (at_builtin; refine Hid.out (?_ : Hid _))
  unfold Hid; refine wpList_append_b rfl _ _ 39 rfl base 9 _ 1 _ Tryz.underlying39 infoStr1 rfl (by decide) encStr1_len encStr1_one _ L.length L rfl hown rfl (some ⟨vb, 0, none⟩) 1 1 [x] rfl rfl hrd (by omega) (by omega) hb ?_; intro v' w' ho hgr hblk; go_wp2; go_ret; exact ⟨v', rfl, ho, hgr, hblk⟩
theorem insStr_room (base g cap i vb : Nat) (L : List ByteArray) (x : ByteArray) (w : World) (hi : i < L.length) (hroom : L.length + 1 ≤ cap) (hL : L.length ≤ 1000000) (hb : base ≤ w.heap.size)
  (hown : w.ownsRow base 9 1 (.slice (some ⟨g, 0, none⟩) L.length cap) L.length (L.flatMap encStr1)) (hv : w.heap[vb]? = some (.cells (encStr1 x).toArray 9)) (hne : vb ≠ g) :
  Calls Tryz.prog 150 #[.slice (some ⟨g, 0, none⟩) L.length cap, .int .i64 i, .slice (some ⟨vb, 0, none⟩) 1 1] w (InsQStr base (.slice (some ⟨g, 0, none⟩) L.length cap) (L.take i ++ x :: L.drop i) w) := by
 obtain ⟨i0, hi0, hz0, hzs, hzb⟩ := info_parts infoStr1
 have hsz : (Tryz.prog.info? 9).map (·.size) = some 1 := by rw [hi0]; simp [hzs]
 have mixed : Tryz.prog.follows .mixedOrders = true := rfl; obtain ⟨hlc, hcm, hbg⟩ := owns_bound hown; obtain ⟨junk, hjl, hmore⟩ := owns_moreStr hown hroom
 obtain ⟨cur, hcur, hcs⟩ : ∃ cur, w.heap[g]? = some (.cells cur 9 (0, 0)) ∧ cur.size = cap * 1 := by
  rcases hown.2 with ⟨h1, _⟩ | ⟨g', cap', cur, h1, _, hg, _, _, hs, _⟩
  ·cases h1
  ·simp only [Value.slice.injEq, Option.some.injEq, Addr.mk.injEq, and_true, true_and] at h1; obtain ⟨rfl, rfl⟩ := h1; exact ⟨cur, hg, hs⟩
 have hsome : ∀ k, k < (L.length + 1) * 1 → (w.cell? ⟨g, k, none⟩).isSome = true := fun k hk => by
  have : k < cur.size := by omega
  simp [World.cell?, hcur, this]
 have hfz : ∀ k, w.frozen? ⟨g, k, none⟩ = false := fun k => by simp [World.frozen?, hcur]
 obtain ⟨cs, hcsd⟩ : ∃ cs, cs = (L.drop i).flatMap encStr1 := ⟨_, rfl⟩
 have hcl : cs.length = (L.length - i) * 1 := by rw [hcsd, flatMap_length encStr1_len, List.length_drop]
 have h1c : ∀ v ∈ cs, v.oneCell' = true := fun v hv => by
  rw [hcsd] at hv; obtain ⟨y, _, hy⟩ := List.mem_flatMap.1 hv; exact encStr1_one y v hy
 have hsrc : ∀ j v, cs[j]? = some v → w.cell? ⟨g, i * 1 + j, none⟩ = some v := fun j v hj => by
  have hjl2 := (List.getElem?_eq_some_iff.1 hj).1; rw [hown.cellAt _ (by omega)]; rw [hcsd, ← flatMap_drop encStr1_len, List.getElem?_drop] at hj; exact hj
 obtain ⟨vs, hvs⟩ : ∃ vs, vs = encStr1 x := ⟨_, rfl⟩
 have hvl : vs.length = 1 := by rw [hvs]; exact encStr1_len x
 have h1v : ∀ v ∈ vs, v.oneCell' = true := fun v hv => by rw [hvs] at hv; exact encStr1_one x v hv
 have hvc : ∀ j v, vs[j]? = some v → w.cell? ⟨vb, 0 + j, none⟩ = some v := fun j v hj => by
  rw [hvs] at hj; simp [World.cell?, hv, hj]
 have hov : ∀ lb cb, (callFunc 172 #[.slice (some ⟨vb, 0, none⟩) 1 1, .slice (some ⟨g, (i + 1) * 1, none⟩) lb cb]).run Tryz.prog w = .ok (.value (.bool false)) w := fun lb cb => by
  rw [run_callFunc_extern Tryz.func172 (by kernel_rfl) (by kernel_rfl) (by kernel_rfl) (e := Extern.SlicesOverlaps.overlaps #[39, 39] #[4]) (by kernel_rfl),
   Lib.run_overlaps_apart w 39 4 9 Tryz.underlying39 1 (fun w => by simp [sizeOf, typeInfo, hi0, hzs]) ⟨vb, 0, none⟩ ⟨g, (i + 1) * 1, none⟩ 1 1 lb cb hne 9 9 1 (cap * 1) (by simp [World.shape?, hv, encStr1_len]) (by simp [World.shape?, hcur, hcs]) (by omega) (by simp [World.frozen?, hv]) (by simp [World.frozen?, hv])]
  rfl
 have hw1 : IntKind.i64.wrap ((i : Int) + 1) = (i : Int) + 1 := IntWalk.i64_in _ (by omega); have hwn : IntKind.i64.wrap ((L.length : Int) + 1) = (L.length : Int) + 1 := IntWalk.i64_in _ (by omega)
 have htn : ((i : Int) + 1).toNat = i + 1 := by omega
 have htn2 : ((L.length : Int) + 1).toNat = L.length + 1 := by omega
 have hz2 : ¬ ((i : Int) = (L.length : Int)) := by omega
 have hz2b : ((i : Int) == (L.length : Int)) = false := by simp; omega
 have hin : (i : Int) ≤ (L.length : Int) := by omega
 have hrm : ¬ ((cap : Int) < (L.length : Int) + 1) := by omega
 have hrm2 : (L.length : Int) + 1 ≤ (cap : Int) := by omega
 have hb1 : (0 : Int) ≤ (i : Int) + 1 := by omega
 have hb3 : (i : Int) ≤ (L.length : Int) + 1 := by omega
 have hb5 : (i : Int) + 1 ≤ (L.length : Int) + 1 := by omega
 have hb2 : ¬ (cap = i + 1) := by omega
 have hb4 : ¬ (cap = i) := by omega
 have hcp1 : ∀ ty dc sc, (Builtin.copy_ #[39, 39] ty #[.slice (some ⟨g, (i + 1) * 1, none⟩) (L.length - i) dc, .slice (some ⟨g, i * 1, none⟩) (L.length + 1 - i) sc]).run Tryz.prog w.drew = .ok (goInt ((L.length - i : Nat) : Int)) (w.drew.setCells g ((i + 1) * 1) cs) := fun ty dc sc =>
  run_copy_kStr w.drew _ _ ty 9 g ((i + 1) * 1) (L.length - i) dc ⟨g, i * 1, none⟩ (L.length + 1 - i) sc (L.length - i) 1 cs Tryz.underlying39 hsz (by simp only [Nat.min_def]; split <;> omega) hcl
   (fun j v hj => by rw [Addr.add_lit]; exact hsrc j v hj)
   (fun j hj => hsome _ (by omega)) (fun j hj => hfz _) h1c
 obtain ⟨W1, hW1⟩ : ∃ W1, W1 = w.drew.setCells g ((i + 1) * 1) cs := ⟨_, rfl⟩
 have hsp1 : ∀ k, k < (L.length + 1) * 1 → (W1.cell? ⟨g, k, none⟩).isSome = true := fun k hk => by
  rw [hW1]; exact isSome_setCells g cs ((i + 1) * 1) w.drew (fun j hj => hsome ((i + 1) * 1 + j) (by omega)) k (hsome k hk)
 have hcp2 : ∀ (W : World), (∀ x, W.cell? x = W1.cell? x) → (∀ x, W.frozen? x = W1.frozen? x) → ∀ ty dc, (Builtin.copy_ #[39, 39] ty #[.slice (some ⟨g, i * 1, none⟩) (L.length + 1 - i) dc, .slice (some ⟨vb, 0, none⟩) 1 1]).run Tryz.prog W = .ok (goInt ((1 : Nat) : Int)) (W.setCells g (i * 1) vs) := fun W hWc hWf ty dc =>
  run_copy_kStr W _ _ ty 9 g (i * 1) (L.length + 1 - i) dc ⟨vb, 0, none⟩ 1 1 1 1 vs Tryz.underlying39 hsz (by simp only [Nat.min_def]; split <;> omega) (by rw [hvl])
   (fun j v hj => by
    rw [Addr.add_lit, hWc, hW1, World.cell?_setCells_out g _ _ _ _ (fun h _ => absurd h hne)]
    exact hvc j v hj)
   (fun j hj => by rw [hWc]; exact hsp1 _ (by omega)) (fun j hj => by rw [hWf, hW1, World.frozen?_setCells]; exact hfz _) h1v
 rw [← hW1] at hcp1
 have HF : Hid (InsQStr base (.slice (some ⟨g, 0, none⟩) L.length cap) (L.take i ++ x :: L.drop i) w (.returned (.slice (some ⟨g, 0, none⟩) (L.length + 1) cap)) ((w.drew.setCells g ((i + 1) * 1) cs).setCells g (i * 1) vs)) := hd0 (by
  have hlen : (L.take i ++ x :: L.drop i).length = L.length + 1 := by simp; omega
  refine ⟨_, rfl, ?_, ?_, fun b h => .inl h⟩
  ·rw [hlen, setCells_sameStr, setCells_sameStr]; have h1 := owns_setCells vs (i * 1) (owns_setCells cs ((i + 1) * 1) (ownsRow_ext hmore (Ext.refl w).drew)); rw [hvs, hcsd, ins_cellsStr L x i (by omega) junk hjl] at h1; rw [hvs, hcsd]; exact h1
  ·rw [setCells_sameStr, setCells_sameStr]
   exact grown_setCells vs _ (grown_setCells cs _ (grown_of_ext (Ext.refl w).drew _)))
 clear hown hmore hcur hsome hfz hsrc hcl hvl hvc hsp1 h1c h1v hcsd hvs hlc hjl; simp only [Nat.mul_one] at hov hcp1 hcp2 HF
 go_enter Tryz.func150, Tryz.ntmps150
 go_wp2_with (simp only [hov])
 go_region_law (refine step_copy_runI rfl _ _ 39 39 rfl _ _ (by simp [Act.eval, Act.put]) (by simp [Act.eval, Act.put]) (hcp1 _ _ _) ?_)
 go_wp2_with (at_builtin; refine wpList_copy_runI _ rfl _ _ 39 39 rfl _ _ rfl rfl (hcp2 _ (fun _ => rfl) (fun _ => rfl) _ _) ?_)
 go_ret
 first | exact HF.out | (subst hW1; exact HF.out)
theorem insStr_grow (base g cap i vb : Nat) (L : List ByteArray) (x : ByteArray) (w : World) (hi : i < L.length) (hroom : cap < L.length + 1) (hL : L.length ≤ 1000000) (hb : base ≤ w.heap.size)
  (hown : w.ownsRow base 9 1 (.slice (some ⟨g, 0, none⟩) L.length cap) L.length (L.flatMap encStr1)) (hv : w.heap[vb]? = some (.cells (encStr1 x).toArray 9)) :
  Calls Tryz.prog 150 #[.slice (some ⟨g, 0, none⟩) L.length cap, .int .i64 i, .slice (some ⟨vb, 0, none⟩) 1 1] w (InsQStr base (.slice (some ⟨g, 0, none⟩) L.length cap) (L.take i ++ x :: L.drop i) w) := by
 obtain ⟨i0, hi0, hz0, hzs, hzb⟩ := info_parts infoStr1
 have hsz : (Tryz.prog.info? 9).map (·.size) = some 1 := by rw [hi0]; simp [hzs]
 have mixed : Tryz.prog.follows .mixedOrders = true := rfl; obtain ⟨hlc, hcm, hbg⟩ := owns_bound hown; have hgw : g < w.heap.size := (World.ownsRow.lt hown g rfl).2; have hvw : vb < w.heap.size := (Array.getElem?_eq_some_iff.1 hv).1; obtain ⟨cs, hcsd⟩ : ∃ cs, cs = (L.drop i).flatMap encStr1 := ⟨_, rfl⟩
 have hcl : cs.length = (L.length - i) * 1 := by rw [hcsd, flatMap_length encStr1_len, List.length_drop]
 have h1c : ∀ v ∈ cs, v.oneCell' = true := fun v hv => by
  rw [hcsd] at hv; obtain ⟨y, _, hy⟩ := List.mem_flatMap.1 hv; exact encStr1_one y v hy
 have hall : ∀ j v, (L.flatMap encStr1)[j]? = some v → w.cell? ⟨g, j, none⟩ = some v := fun j v hj => by
  have hjl2 := (List.getElem?_eq_some_iff.1 hj).1; rw [flatMap_length encStr1_len] at hjl2; rw [hown.cellAt _ hjl2]; exact hj
 have hsrc : ∀ j v, cs[j]? = some v → w.cell? ⟨g, i * 1 + j, none⟩ = some v := fun j v hj => by
  rw [hcsd, ← flatMap_drop encStr1_len, List.getElem?_drop] at hj; exact hall _ v hj
 obtain ⟨vs, hvs⟩ : ∃ vs, vs = encStr1 x := ⟨_, rfl⟩
 have hvl : vs.length = 1 := by rw [hvs]; exact encStr1_len x
 have h1v : ∀ v ∈ vs, v.oneCell' = true := fun v hv => by rw [hvs] at hv; exact encStr1_one x v hv
 have hvc : ∀ j v, vs[j]? = some v → w.cell? ⟨vb, 0 + j, none⟩ = some v := fun j v hj => by
  rw [hvs] at hj; simp [World.cell?, hv, hj]
 obtain ⟨os, hos⟩ : ∃ os, os = (L.take i).flatMap encStr1 := ⟨_, rfl⟩
 have hol : os.length = i * 1 := by rw [hos, flatMap_length encStr1_len, List.length_take, Nat.min_eq_left (by omega)]
 have hosc : ∀ j v, os[j]? = some v → w.cell? ⟨g, 0 + j, none⟩ = some v := fun j v hj => by
  rw [Nat.zero_add]; apply hall; have hjl := (List.getElem?_eq_some_iff.1 hj).1
  have e : L.flatMap encStr1 = os ++ (L.drop i).flatMap encStr1 := by rw [hos, ← List.flatMap_append, List.take_append_drop]
  rw [e, List.getElem?_append_left hjl]; exact hj
 have hold : (Builtin.firstCells i0.size i (.slice (some ⟨g, 0, none⟩) i cap)).run Tryz.prog w.drew = .ok os.toArray w.drew := by
  rw [hzs]
  exact run_firstCells_some w.drew 1 i ⟨g, 0, none⟩ i cap os (by rw [hol]) (fun j v hj => by
   rw [Addr.add_lit]
   exact hosc j v hj)
 obtain ⟨z, hz⟩ : ∃ z, i0.zero = some z := ⟨_, hz0⟩
 have hzc : z.cells.size = 1 := by rw [hz0] at hz; cases hz; rfl
 have hkk : (L.length : Int) + 1 - (i : Int) = ((L.length + 1 - i : Nat) : Int) := by omega
 have hik : i + (L.length + 1 - i) = L.length + 1 := by omega
 have hrz : ∀ ty, (Builtin.append_ #[39, 3] ty #[.slice (some ⟨g, 0, none⟩) i cap, .int .i64 ((L.length : Int) + 1 - (i : Int))]).run Tryz.prog w =
   .ok (.slice (some ⟨w.heap.size, 0, none⟩) (L.length + 1) (grownCap w (L.length + 1) cap 9)) (w.drew.alloc (.cells (os.toArray ++ Builtin.zeroCells z.cells (L.length + 1 - i) ++ Builtin.zeroCells z.cells (grownCap w (L.length + 1) cap 9 - (L.length + 1))) 9)) := fun ty => by
  have h := Lib.run_append_grow_zeros w 39 3 ty 9 i0 z .i64 .i64 Tryz.underlying39 Tryz.underlying3 hi0 hz (some ⟨g, 0, none⟩) i cap os hold (L.length + 1 - i) (by omega) (by omega) (by omega) (by omega) (by rw [hzb]; omega) (by rw [hzb, hik]; exact growslice_fits hroom (by omega)); rw [hik] at h; rw [hkk]; exact h
 obtain ⟨G, hG⟩ : ∃ G, G = grownCap w (L.length + 1) cap 9 := ⟨_, rfl⟩; obtain ⟨ROW, hROW⟩ : ∃ ROW : Array Value, ROW = os.toArray ++ Builtin.zeroCells z.cells (L.length + 1 - i) ++ Builtin.zeroCells z.cells (G - (L.length + 1)) := ⟨_, rfl⟩; rw [← hG] at hrz; rw [← hROW] at hrz
 have hGn : L.length + 1 ≤ G := by rw [hG]; exact grownCap_ge w _ _ _
 have hGm : G ≤ maxLen := by rw [hG]; exact grownCap_le_maxLen w (L.length + 1) cap 9 (by unfold maxLen; omega)
 have hG63 : G ≤ 9223372036854775807 := by unfold maxLen at hGm; omega
 have hRl : ROW.size = G * 1 := by
  rw [hROW]; simp [Builtin.zeroCells, hzc, hol]; omega
 have hRt : ROW.toList.take (i * 1) = os := by
  rw [hROW, ← hol]; simp
 have hRn : ROW.toList.length = G * 1 := by rw [Array.length_toList (xs := ROW)]; exact hRl
 obtain ⟨W1, hW1⟩ : ∃ W1, W1 = w.drew.alloc (.cells ROW 9) := ⟨_, rfl⟩; rw [← hW1] at hrz
 have hN : ∀ j, j < (L.length + 1) * 1 → (W1.cell? ⟨w.heap.size, j, none⟩).isSome = true := fun j hj => by
  rw [hW1, World.cell?_alloc_at (w := w.drew) ROW _ w.heap.size j rfl, Array.getElem?_eq_getElem (by omega)]; rfl
 have hNf : ∀ j, W1.frozen? ⟨w.heap.size, j, none⟩ = false := fun j => by rw [hW1]; exact World.frozen?_alloc_at (w := w.drew) ROW _ w.heap.size j rfl
 have hOb : ∀ j v, w.cell? ⟨g, j, none⟩ = some v → W1.cell? ⟨g, j, none⟩ = some v := fun j v h => by rw [hW1, World.cell?_alloc_past (w := w.drew) _ g j hgw]; exact h
 have hOv : ∀ j v, w.cell? ⟨vb, j, none⟩ = some v → W1.cell? ⟨vb, j, none⟩ = some v := fun j v h => by rw [hW1, World.cell?_alloc_past (w := w.drew) _ vb j hvw]; exact h
 have hcpA : ∀ (W : World), (∀ x, W.cell? x = W1.cell? x) → (∀ x, W.frozen? x = W1.frozen? x) → ∀ ty dc, (Builtin.copy_ #[39, 39] ty #[.slice (some ⟨w.heap.size, i * 1, none⟩) (L.length + 1 - i) dc, .slice (some ⟨vb, 0, none⟩) 1 1]).run Tryz.prog W = .ok (goInt ((1 : Nat) : Int)) (W.setCells w.heap.size (i * 1) vs) := fun W hWc hWf ty dc =>
  run_copy_kStr W _ _ ty 9 w.heap.size (i * 1) (L.length + 1 - i) dc ⟨vb, 0, none⟩ 1 1 1 1 vs Tryz.underlying39 hsz (by simp only [Nat.min_def]; split <;> omega) (by rw [hvl])
   (fun j v hj => by rw [Addr.add_lit, hWc]; exact hOv _ v (hvc j v hj))
   (fun j hj => by rw [hWc]; exact hN _ (by omega)) (fun j hj => by rw [hWf]; exact hNf _) h1v
 have hgN : g ≠ w.heap.size := by omega
 have hcpB : ∀ (W : World), (∀ x, W.cell? x = (W1.setCells w.heap.size (i * 1) vs).cell? x) → (∀ x, W.frozen? x = (W1.setCells w.heap.size (i * 1) vs).frozen? x) → ∀ ty dc sc, (Builtin.copy_ #[39, 39] ty #[.slice (some ⟨w.heap.size, (i + 1) * 1, none⟩) (L.length - i) dc, .slice (some ⟨g, i * 1, none⟩) (L.length - i) sc]).run Tryz.prog W = .ok (goInt ((L.length - i : Nat) : Int)) (W.setCells w.heap.size ((i + 1) * 1) cs) := fun W hWc hWf ty dc sc =>
  run_copy_kStr W _ _ ty 9 w.heap.size ((i + 1) * 1) (L.length - i) dc ⟨g, i * 1, none⟩ (L.length - i) sc (L.length - i) 1 cs Tryz.underlying39 hsz (by simp only [Nat.min_def]; split <;> omega) hcl
   (fun j v hj => by
    rw [Addr.add_lit, hWc, World.cell?_setCells_out _ _ _ _ _ (fun h _ => absurd h hgN)]
    exact hOb _ v (hsrc j v hj))
   (fun j hj => by rw [hWc]; exact isSome_setCells w.heap.size vs (i * 1) W1 (fun t ht => hN _ (by omega)) _ (hN _ (by omega)))
   (fun j hj => by rw [hWf, World.frozen?_setCells]; exact hNf _) h1c
 have HF : Hid (InsQStr base (.slice (some ⟨g, 0, none⟩) L.length cap) (L.take i ++ x :: L.drop i) w (.returned (.slice (some ⟨w.heap.size, 0, none⟩) (L.length + 1) G)) ((((w.alloc (.cells ROW 9)).drew.setCells w.heap.size (i * 1) vs).drew).setCells w.heap.size ((i + 1) * 1) cs)) := hd0 (by
  have hlen : (L.take i ++ x :: L.drop i).length = L.length + 1 := by simp; omega
  have h0 : (w.alloc (.cells ROW 9)).ownsRow base 9 1 (.slice (some ⟨w.heap.size, 0, none⟩) (L.length + 1) G) (L.length + 1) (ROW.toList.take ((L.length + 1) * 1)) :=
   ⟨by rw [List.length_take, hRn]; omega, .inr ⟨w.heap.size, G, ROW, rfl, hb, heap_alloc_new w _, hGn, hGm, hRl, rfl⟩⟩
  have hE := ((Ext.setCells (a := w) (Nat.le_refl _) cs ((i + 1) * 1) ((Ext.setCells (a := w) (Nat.le_refl _) vs (i * 1) (((Ext.refl w).alloc (.cells ROW 9)).drew)).drew))); refine ⟨_, rfl, ?_, ?_, fun b h => .inr (by have h9 : w.heap.size = b := Option.some.inj h; omega)⟩
  ·rw [hlen, setCells_sameStr, setCells_sameStr]; have h1 := owns_setCells cs ((i + 1) * 1) (ownsRow_ext (owns_setCells vs (i * 1) (ownsRow_ext h0 (Ext.refl _).drew)) (Ext.refl _).drew); rw [hvs, hcsd, ins_cells2Str L x i (by omega) _ (by rw [List.length_take, hRn]; omega) (by rw [List.take_take, Nat.min_eq_left (by omega), hRt, hos])] at h1; rw [hvs, hcsd]; exact h1
  ·rw [setCells_sameStr, setCells_sameStr]
   exact grown_of_ext hE _)
 have hE1 : ∀ x, ((w.alloc (.cells ROW 9)).drew).cell? x = (w.drew.alloc (.cells ROW 9)).cell? x := fun x => rfl
 have hE2 : ∀ x, ((w.alloc (.cells ROW 9)).drew).frozen? x = (w.drew.alloc (.cells ROW 9)).frozen? x := fun x => rfl
 have hF1 : ∀ x, (((w.alloc (.cells ROW 9)).drew.setCells w.heap.size (i * 1) vs).drew).cell? x = ((w.drew.alloc (.cells ROW 9)).setCells w.heap.size (i * 1) vs).cell? x := fun x => rfl
 have hF2 : ∀ x, (((w.alloc (.cells ROW 9)).drew.setCells w.heap.size (i * 1) vs).drew).frozen? x = ((w.drew.alloc (.cells ROW 9)).setCells w.heap.size (i * 1) vs).frozen? x := fun x => rfl
 subst hW1; have hw1 : IntKind.i64.wrap ((i : Int) + 1) = (i : Int) + 1 := IntWalk.i64_in _ (by omega); have hwn : IntKind.i64.wrap ((L.length : Int) + 1) = (L.length : Int) + 1 := IntWalk.i64_in _ (by omega); have hwk : IntKind.i64.wrap ((L.length : Int) + 1 - (i : Int)) = (L.length : Int) + 1 - (i : Int) := IntWalk.i64_in _ (by omega)
 have htn : ((i : Int) + 1).toNat = i + 1 := by omega
 have hz2 : ¬ ((i : Int) = (L.length : Int)) := by omega
 have hz2b : ((i : Int) == (L.length : Int)) = false := by simp; omega
 have hin : (i : Int) ≤ (L.length : Int) := by omega
 have hrm : (cap : Int) < (L.length : Int) + 1 := by omega
 have hb1 : (0 : Int) ≤ (i : Int) + 1 := by omega
 have hb3 : (i : Int) ≤ (L.length : Int) + 1 := by omega
 have hb5 : (i : Int) + 1 ≤ (L.length : Int) + 1 := by omega
 have hb6 : (i : Int) ≤ (cap : Int) := by omega
 have hGi : ¬ (G = i) := by omega
 have hGim : ¬ (G = i + 1) := by omega
 have hb4 : ¬ (cap = i) := by omega
 clear hown hv hcl h1c h1v hall hsrc hvl hvc hol hosc hold hz hz0 hzc hkk hik hROW hG hRl hRn hRt hN hNf hOb hOv hcsd hvs hos; simp only [Nat.mul_one] at hcpA hcpB HF hF1 hF2
 go_enter Tryz.func150, Tryz.ntmps150
 go_wp2_with (first
  | (at_builtin; refine Lib.wpList_append_run _ rfl _ _ _ _ rfl _ _ rfl rfl _ _ (hrz _) ?_)
  | (at_builtin; refine wpList_copy_runI _ rfl _ _ 39 39 rfl _ _ rfl rfl (hcpA _ hE1 hE2 _ _) ?_)
  | (at_builtin; refine wpList_copy_runI _ rfl _ _ 39 39 rfl _ _ rfl rfl (hcpB _ (fun _ => rfl) (fun _ => rfl) _ _ _) ?_))
 go_region_law (refine step_copy_runI rfl _ _ 39 39 rfl (.slice (some ⟨w.heap.size, (i + 1), none⟩) (L.length - i) (G - (i + 1))) (.slice (some ⟨g, i, none⟩) (L.length - i) (cap - i)) (by simp [Act.eval, Act.put]) (by simp [Act.eval, Act.put]) (hcpB _ hF1 hF2 3 (G - (i + 1)) (cap - i)) ?_)
 go_wp2; go_ret; exact HF.out
theorem insStr_any (base : Nat) (a : Option Addr) (cap i vb : Nat) (L : List ByteArray) (x : ByteArray) (w : World) (hi : i ≤ L.length) (hL : L.length ≤ 1000000) (hb : base ≤ w.heap.size)
  (hown : w.ownsRow base 9 1 (.slice a L.length cap) L.length (L.flatMap encStr1)) (hv : w.heap[vb]? = some (.cells (encStr1 x).toArray 9)) :
  Calls Tryz.prog 150 #[.slice a L.length cap, .int .i64 i, .slice (some ⟨vb, 0, none⟩) 1 1] w (InsQStr base (.slice a L.length cap) (L.take i ++ x :: L.drop i) w) := by
 rcases Nat.lt_or_eq_of_le hi with hlt | rfl
 ·obtain ⟨a', cap', h1, hlc, _, hsh⟩ := view_owns encStr1_len hown; simp only [Value.slice.injEq, true_and] at h1; obtain ⟨rfl, rfl⟩ := h1
  rcases hsh with ⟨_, h0, _⟩ | ⟨g, rfl, _⟩
  ·rw [h0] at hlt; simp at hlt
  rcases Nat.lt_or_ge cap (L.length + 1) with hr | hr
  ·exact insStr_grow base g cap i vb L x w hlt hr hL hb hown hv
  ·refine insStr_room base g cap i vb L x w hlt hr hL hb hown hv (fun e => ?_); subst e
   rcases hown.2 with ⟨h1, _⟩ | ⟨g', cap', cur, h1, _, hg, _, _, hs, _⟩
   ·cases h1
   ·simp only [Value.slice.injEq, Option.some.injEq, Addr.mk.injEq, and_true, true_and] at h1; obtain ⟨rfl, rfl⟩ := h1; rw [hv] at hg; simp only [Option.some.injEq, Obj.cells.injEq] at hg; have h2 := congrArg Array.size hg.1; rw [hs, List.size_toArray, encStr1_len] at h2; omega
 ·have := insStr_end base a cap vb L x w hL hb hown hv
  rwa [List.take_length, List.drop_length]
end Go.Proofs.YtnibbldfohbfkaaGreatDoor
