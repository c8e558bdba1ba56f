/- Parts of one proof: what each theorem proves, and its conditions, stand in its own statement. -/
import Derived.Test.YtnibbldfohbfkaaGreatDoorMl5
set_option linter.all false
set_option maxRecDepth 100000
set_option maxHeartbeats 32000000
namespace Go.Proofs.YtnibbldfohbfkaaGreatDoor
open Go.RowKit
section
variable {P : Program}
def waitsF : Nat → List Oper → Nat → Nat → Bool
 | 0, _, _, _ => false
 | f + 1, l, j, i => match l[j]? with | some o => o.after.toList.any (fun e => Region.binds .any e && (decide (e.on = i) || waitsF f l e.on i)) | none => false
def depsT (l : List Oper) (n : Nat) (D : List (Nat × Nat)) : Bool := D.all (fun p => decide (p.1 < n) && waitsF 5 l p.1 p.2)
theorem waitsF_closed {l : List Oper} {listed : Array Bool} (hc : ∀ j oj, l[j]? = some oj → listed.getD j false = true → ∀ e ∈ oj.after, Region.binds .any e = true → listed.getD e.on false = true) : ∀ (f j i : Nat), waitsF f l j i = true → listed.getD j false = true → listed.getD i false = true
 | 0, j, i, h, _ => by simp [waitsF] at h
 | f + 1, j, i, h, hj => by
  rw [waitsF] at h
  cases ho : l[j]? with
  | none => rw [ho] at h; simp at h
  | some o =>
   rw [ho] at h; obtain ⟨e, he, h2⟩ := List.any_eq_true.1 h; simp only [Bool.and_eq_true, Bool.or_eq_true, decide_eq_true_eq] at h2; have h3 := hc j o ho hj e (by simpa using he) h2.1
   rcases h2.2 with h4 | h4
   ·rw [← h4]; exact h3
   ·exact waitsF_closed hc f e.on i h4 h3
theorem waitsF_listed {l : List Oper} {listed : Array Bool} (hc : ∀ j oj, l[j]? = some oj → listed.getD j false = true → ∀ e ∈ oj.after, Region.binds .any e = true → listed.getD e.on false = true) {f j i : Nat} {o : Oper} (h : waitsF f l j i = true) (ho : l[j]? = some o) (ha : ∀ e ∈ o.after.toList, Region.binds .any e = true → listed.getD e.on false = true) : listed.getD i false = true := by
 cases f with
 | zero => simp [waitsF] at h
 | succ f =>
  rw [waitsF, ho] at h; obtain ⟨e, he, h2⟩ := List.any_eq_true.1 h; simp only [Bool.and_eq_true, Bool.or_eq_true, decide_eq_true_eq] at h2; have h3 := ha e he h2.1
  rcases h2.2 with h4 | h4
  ·rw [← h4]; exact h3
  ·exact waitsF_closed hc f e.on i h4 h3
theorem wpAny_headT {V : Nat → Value → World → Prop} {cons : Nat → Option Nat} {D : List (Nat × Nat)} {l : List Oper} {n m : Nat} {a0 : Act} {I : World → Prop} {Q : Exit → Act → World → Prop} (hn : n ≤ l.length)
  (hH : headB l a0.tmps.size n = true) (hT : tailB l n = true) (hS : Region.seqB .any l.toArray (l.length - n) n (markN n l.length) = true) (hD : depsT l n D = true)
  (hstep : ∀ i o, i < n → l[i]? = some o → ∀ vs w, vs.length = n → I w → WaitsC V cons i o vs w → RestC V cons n m i w → wpList P l.toArray (OneC V cons D n m I i o (putAll a0 (l.take n) vs) w) [o] (putAll a0 (l.take n) vs) w)
  (hend : ∀ vs w, vs.length = n → I w → (∀ i, i < n → cons i = none → V i (vs.getD i undef) w) → (∀ r, r < m → cons (n + r) = none → V (n + r) undef w) → wpList P l.toArray Q (l.drop n) (putAll a0 (l.take n) vs) w) :
  ∀ (f : Nat) (listed : Array Bool) (a : Act) (w : World), unlisted listed n = f → HInvC V cons l n m a0 I listed a w → wpAny P .any l.toArray Q (f + (l.length - n)) listed a w := by
 have hop : ∀ i o, i < n → l[i]? = some o → (∀ d, o.dst = some d → ∀ j o', (l.take n)[j]? = some o' → j ≠ i → o'.dst ≠ some d) ∧ (∀ e ∈ o.after.toList, Region.binds .any e = true → e.on < i) := by
  intro i o hi ho; have h1 := List.all_eq_true.1 hH i (List.mem_range.2 hi); simp only [ho, Bool.and_eq_true] at h1; refine ⟨fun d hd j o' hj hne => ?_, fun e he hb => ?_⟩
  ·have h2 := h1.1; simp only [hd, Bool.and_eq_true] at h2
   have hjn : j < n := by
    have := (List.getElem?_eq_some_iff.1 hj).1; simp at this; omega
   have h3 := List.all_eq_true.1 h2.2 j (List.mem_range.2 hjn); rw [List.getElem?_take, if_pos hjn] at hj; simp only [hj, Bool.or_eq_true, decide_eq_true_eq] at h3; exact h3.resolve_left hne
  ·have h3 := List.all_eq_true.1 h1.2 e he; simp only [Bool.or_eq_true, Bool.not_eq_true', hb, decide_eq_true_eq] at h3; exact h3.resolve_left (by simp)
 have htailno : ∀ listed, HeadInv .any l.toArray n listed → (∃ i, i < n ∧ listed.getD i true = false) → ∀ t, n ≤ t → t ∉ Region.ready .any l.toArray listed := by
  intro listed inv ⟨i, hi, hun⟩ t ht; simp only [tailB, Bool.or_eq_true, Bool.and_eq_true, decide_eq_true_eq] at hT
  rcases hT with h | h
  ·intro hr; obtain ⟨_, o, ho, _⟩ := mem_ready.1 hr; have := (Array.getElem?_eq_some_iff.1 ho).1; simp at this; omega
  ·exact tail_waits h.1.2 h.2 (by simpa using h.1.1) inv _ i rfl hi hun t ht
 intro f
 induction f with
 | zero =>
  intro listed a w hf inv; obtain ⟨vs, hvl, rfl, hV⟩ := inv.vals; have hall := unlisted_zero hf
  have hlist : listed = markN n l.length := by
   apply Array.ext_getElem?; intro i; have hsz := inv.head.size; simp only [List.size_toArray] at hsz
   by_cases hi : i < l.length
   ·have hil : i < listed.size := by omega
    rw [Array.getElem?_eq_getElem hil]
    by_cases hin : i < n
    ·have := hall i hin; simp only [Array.getD_eq_getD_getElem?, Array.getElem?_eq_getElem hil, Option.getD_some] at this; simp [markN, hi, hin, this]
    ·have := inv.head.tail i (by omega) (by simpa using hi); simp only [Array.getD_eq_getD_getElem?, Array.getElem?_eq_getElem hil, Option.getD_some] at this; simp [markN, hi, hin, this]
   ·rw [Array.getElem?_eq_none (by omega), Array.getElem?_eq_none (by simp [markN]; omega)]
  rw [hlist]; have := wpAny_of_seq (P := P) (md := .any) (Q' := Q) (ops := l.toArray) (l.drop n) n (markN n l.length) (putAll a0 (l.take n) vs) w (fun j => by simp [List.getElem?_drop]) (by rw [List.length_drop]; exact hS) (hend vs w hvl inv.ext (fun i hi hc => hV i hi (hall i hi) (by rw [hc]; simp)) (fun r hr hc => inv.rest r hr (by rw [hc]; simp))); rw [List.length_drop] at this; rw [Nat.zero_add]; exact this
 | succ f ih =>
  intro listed a w hf inv; rw [show f + 1 + (l.length - n) = (f + (l.length - n)) + 1 by omega]; obtain ⟨vs, hvl, rfl, hV⟩ := inv.vals; obtain ⟨i0, hi0, hun0, hmin⟩ := unlisted_pos (show unlisted listed n ≠ 0 by omega); have hsz := inv.head.size; simp only [List.size_toArray] at hsz; have hun0' : listed.getD i0 true = false := getD_in (by omega) hun0; refine ⟨fun hnil => ?_, fun i hi => ?_⟩
  ·exfalso; obtain ⟨o, ho⟩ : ∃ o, l[i0]? = some o := ⟨_, List.getElem?_eq_getElem (by omega)⟩; have : i0 ∈ Region.ready .any l.toArray listed := mem_ready.2 ⟨hun0', o, by simpa using ho, fun e he hb => hmin _ ((hop i0 o hi0 ho).2 e (by simpa using he) hb)⟩; rw [hnil] at this
   cases this
  ·have hin : i < n := by
    rcases Nat.lt_or_ge i n with h | h
    ·exact h
    ·exact absurd hi (htailno listed inv.head ⟨i0, hi0, hun0'⟩ i h)
   obtain ⟨hun, o, ho, hall⟩ := mem_ready.1 hi
   have ho' : l[i]? = some o := by simpa using ho
   have hunf : listed.getD i false = false := getD_both hun
   have hno2 : ∀ j, (∀ c, cons j = some c → listed.getD c false = false) → ∀ c, cons j = some c → (i, c) ∉ D := fun j hj c hc hm => by
    have h1 := List.all_eq_true.1 hD (i, c) hm; simp only [Bool.and_eq_true] at h1; have h2 := waitsF_listed (fun j oj hoj hl => inv.head.closed j oj (by simpa using hoj) hl) h1.2 ho' (fun e he hb => hall e (by simpa using he) hb); rw [hj c hc] at h2
    cases h2
   refine wp_of_oneC ho (hstep i o hin ho' vs w hvl inv.ext (fun e he hb hc => hV e.on (by have := (hop i o hin ho').2 e he hb; omega) (hall e (by simpa using he) hb) (fun c hcc => by
    rcases hc with hc | hc
    ·rw [hc] at hcc; cases hcc
    ·rw [hc] at hcc; cases hcc; exact hunf)) (fun r hr hc => inv.rest r hr (fun c hcc => by
    rcases hc with hc | hc
    ·rw [hc] at hcc; cases hcc
    ·rw [hc] at hcc; cases hcc; exact hunf))) (fun v w' hv hE hkeep => ?_)
   refine ih _ _ _ (by have := unlisted_set hin hun; omega) ⟨inv.head.set hi hin, hE, fun r hr hcr => ?_, vs.set i v, by simpa using hvl, ?_, fun j hj hlj hcj => ?_⟩
   ·have hil : i < listed.size := by omega
    have hci : cons (n + r) ≠ some i := fun e => by
     have := hcr i e; rw [show (listed.setIfInBounds i true).getD i false = true by simp [hil]] at this
     cases this
    have hnd : (n + r, i) ∉ D := fun hm => by
     have h1 := List.all_eq_true.1 hD (n + r, i) hm; simp only [Bool.and_eq_true, decide_eq_true_eq] at h1; omega
    have hun2 : ∀ c, cons (n + r) = some c → listed.getD c false = false := fun c hc => by
     have h2 := hcr c hc
     have hne : i ≠ c := fun e => hci (by rw [e]; exact hc)
     rwa [getD_set_ne false hne] at h2
    exact hkeep (n + r) _ (by omega) (by omega) hci hnd (hno2 _ hun2) (inv.rest r hr hun2)
   ·exact putAll_put a0 (l.take n) vs i o v (by rw [List.getElem?_take, if_pos hin]; exact ho') (by simp; omega) (hop i o hin ho').1
   ·by_cases hij : i = j
    ·subst hij; rw [List.getD_eq_getElem?_getD, List.getElem?_set_self (by omega)]; exact hv
    ·rw [getD_set_ne false hij] at hlj; rw [List.getD_eq_getElem?_getD, List.getElem?_set_ne hij, ← List.getD_eq_getElem?_getD]
     have hil : i < listed.size := by omega
     have hci : cons j ≠ some i := fun e => by
      have := hcj i e; rw [show (listed.setIfInBounds i true).getD i false = true by simp [hil]] at this
      cases this
     have hnd : (j, i) ∉ D := fun hm => by
      have h1 := List.all_eq_true.1 hD (j, i) hm; simp only [Bool.and_eq_true] at h1; obtain ⟨oj, hoj⟩ : ∃ oj, l[j]? = some oj := ⟨_, List.getElem?_eq_getElem (by omega)⟩; have h2 := waitsF_listed (fun j oj hoj hl => inv.head.closed j oj (by simpa using hoj) hl) h1.2 hoj (fun e he hb => inv.head.closed j oj (by simpa using hoj) hlj e (by simpa using he) hb); rw [hunf] at h2
      cases h2
     have hun2 : ∀ c, cons j = some c → listed.getD c false = false := fun c hc => by
      have h2 := hcj c hc
      have hne : i ≠ c := fun e => hci (by rw [e]; exact hc)
      rwa [getD_set_ne false hne] at h2
     exact hkeep j _ (by omega) (fun e => hij e.symm) hci hnd (hno2 _ hun2) (hV j hj hlj hun2)
theorem wp_region_t {V : Nat → Value → World → Prop} (I : World → Prop) (cons : Nat → Option Nat) (D : List (Nat × Nat)) {l : List Oper} (n m : Nat) {id : Nat} {a0 : Act} {w : World} {Q : Exit → Act → World → Prop} (hm : P.follows .mixedOrders = true)
  (hn : n ≤ l.length) (hH : headB l a0.tmps.size n = true) (hT : tailB l n = true) (hS : Region.seqB .any l.toArray (l.length - n) n (markN n l.length) = true) (hD : depsT l n D = true)
  (hI0 : I w.drew) (hR0 : ∀ r, r < m → V (n + r) undef w.drew)
  (hstep : ∀ i o, i < n → l[i]? = some o → ∀ vs w2, vs.length = n → I w2 → WaitsC V cons i o vs w2 → RestC V cons n m i w2 → wpList P l.toArray (OneC V cons D n m I i o (putAll a0 (l.take n) vs) w2) [o] (putAll a0 (l.take n) vs) w2)
  (hend : ∀ vs w2, vs.length = n → I w2 → (∀ i, i < n → cons i = none → V i (vs.getD i undef) w2) → (∀ r, r < m → cons (n + r) = none → V (n + r) undef w2) → wpList P l.toArray Q (l.drop n) (putAll a0 (l.take n) vs) w2) :
  (Code.region id l.toArray true).wp P Q a0 w := by
 refine wp_region_any hm ?_
 have hdst : ∀ o ∈ l.take n, ∀ d, o.dst = some d → d < a0.tmps.size := by
  intro o ho d hd; obtain ⟨i, hi⟩ := List.getElem?_of_mem ho
  have hin : i < n := by
   have := (List.getElem?_eq_some_iff.1 hi).1; simp at this; omega
  rw [List.getElem?_take, if_pos hin] at hi; have h1 := List.all_eq_true.1 hH i (List.mem_range.2 hin); simp only [hi, hd, Bool.and_eq_true, decide_eq_true_eq] at h1; exact h1.1.1
 have hu : unlisted (Array.replicate l.length false) n = n := by
  unfold unlisted; rw [List.filter_eq_self.2 (by intro i hi; rw [getD_replicate_false]; rfl)]; simp
 have := wpAny_headT (P := P) (Q := Q) (a0 := a0) (I := I) hn hH hT hS hD hstep hend n (Array.replicate l.length false) a0 w.drew hu
  ⟨⟨by simp, fun j oj _ hl => (by rw [getD_replicate_false] at hl; cases hl), fun t _ ht => getD_in (by simpa using ht) (getD_replicate_false _ _)⟩, hI0, fun r hr _ => hR0 r hr, oldVals a0 (l.take n), by simp [oldVals]; omega, (putAll_old a0 _ hdst).symm, fun i _ hl => (by rw [getD_replicate_false] at hl; cases hl)⟩
 rw [show n + (l.length - n) = l.toArray.size by simp; omega] at this; exact this
end
theorem heapx {w w' : World} {b : Nat} {o : Obj} (hE : Ext w w') (h : w.heap[b]? = some o) : w'.heap[b]? = some o := by
 rw [hE.block b (Array.getElem?_eq_some_iff.1 h).1]; exact h
theorem heap_chg {S : Nat → Prop} {w w' : World} {b : Nat} {o : Obj} (h : w.heap[b]? = some o) (hc : Chg S w w') (hn : ¬ S b) : w'.heap[b]? = some o :=
 (hc.block b (Array.getElem?_eq_some_iff.1 h).1 hn).trans h
theorem cell_chg {S : Nat → Prop} {w w' : World} {b o : Nat} {v : Value} (h : w.cell? ⟨b, o, none⟩ = some v) (hc : Chg S w w') (hn : ¬ S b) : w'.cell? ⟨b, o, none⟩ = some v := by
 rw [World.cell?_of_block (w := w) (hc.block b (World.block_lt_of_cell? w ⟨b, o, none⟩ h) hn)]; exact h
def VPutN (B3 B8 : Nat) (an : Option Addr) (nn cn k : Nat) (s : ByteArray) (A B : List ByteArray) (wr : World) (base : Nat) : Nat → Value → World → Prop := fun i v wv => match i with
 | 0 => ∃ g, v = .slice (some ⟨g, 0, none⟩) 0 0 ∧ base ≤ g ∧ wv.heap[g]? = some (.cells #[] 9)
 | 1 => v = .pointer (some ⟨B3, 5, none⟩)
 | 2 => v = .slice an nn cn
 | 3 => v = .int .i64 k
 | 4 => ∃ a' c', v = .slice a' k c' ∧ Rd 1 encStr1 wr a' A
 | 5 => wv.ownsRow base 9 1 v (A).length ((A).flatMap encStr1)
 | 6 => v = .string s
 | 7 => ∃ g, v = .slice (some ⟨g, 0, none⟩) 1 1 ∧ base ≤ g ∧ wv.heap[g]? = some (.cells #[.string s] 9)
 | 8 => wv.ownsRow base 9 1 v (A ++ [s]).length ((A ++ [s]).flatMap encStr1)
 | 9 => v = .pointer (some ⟨B3, 5, none⟩)
 | 10 => v = .slice an nn cn
 | 11 => v = .int .i64 k
 | 12 => ∃ a' c', v = .slice a' (nn - k) c' ∧ Rd 1 encStr1 wr a' B
 | 13 => wv.ownsRow base 9 1 v (A ++ [s] ++ B).length ((A ++ [s] ++ B).flatMap encStr1)
 | 14 => v = .pointer (some ⟨B8, 5, none⟩)
 | _ => True
theorem VPutN.ext {B3 B8 : Nat} {an : Option Addr} {nn cn k : Nat} {s : ByteArray} {A B : List ByteArray} {wr : World} {base : Nat} (i : Nat) (v : Value) (w1 w2 : World) (h : VPutN B3 B8 an nn cn k s A B wr base i v w1) (hE : Ext w1 w2) : VPutN B3 B8 an nn cn k s A B wr base i v w2 := by
 match i with
 | 0 => obtain ⟨g, h1, h2, h3⟩ := h; exact ⟨g, h1, h2, heapx hE h3⟩
 | 1 => exact h
 | 2 => exact h
 | 3 => exact h
 | 4 => exact h
 | 5 => exact ownsRow_ext (show w1.ownsRow _ _ _ _ _ _ from h) hE
 | 6 => exact h
 | 7 => obtain ⟨g, h1, h2, h3⟩ := h; exact ⟨g, h1, h2, heapx hE h3⟩
 | 8 => exact ownsRow_ext (show w1.ownsRow _ _ _ _ _ _ from h) hE
 | 9 => exact h
 | 10 => exact h
 | 11 => exact h
 | 12 => exact h
 | 13 => exact ownsRow_ext (show w1.ownsRow _ _ _ _ _ _ from h) hE
 | 14 => exact h
 | (n + 15) => trivial
def VPutK (B3 B8 : Nat) (an : Option Addr) (nn cn k : Nat) (s : Int) (A B : List Int) (wr : World) (base : Nat) : Nat → Value → World → Prop := fun i v wv => match i with
 | 0 => ∃ g, v = .slice (some ⟨g, 0, none⟩) 0 0 ∧ base ≤ g ∧ wv.heap[g]? = some (.cells #[] 3)
 | 1 => v = .pointer (some ⟨B3, 6, none⟩)
 | 2 => v = .slice an nn cn
 | 3 => v = .int .i64 k
 | 4 => ∃ a' c', v = .slice a' k c' ∧ Rd 1 encInt1 wr a' A
 | 5 => wv.ownsRow base 3 1 v (A).length ((A).flatMap encInt1)
 | 6 => v = .int .i64 s
 | 7 => ∃ g, v = .slice (some ⟨g, 0, none⟩) 1 1 ∧ base ≤ g ∧ wv.heap[g]? = some (.cells #[.int .i64 s] 3)
 | 8 => wv.ownsRow base 3 1 v (A ++ [s]).length ((A ++ [s]).flatMap encInt1)
 | 9 => v = .pointer (some ⟨B3, 6, none⟩)
 | 10 => v = .slice an nn cn
 | 11 => v = .int .i64 k
 | 12 => ∃ a' c', v = .slice a' (nn - k) c' ∧ Rd 1 encInt1 wr a' B
 | 13 => wv.ownsRow base 3 1 v (A ++ [s] ++ B).length ((A ++ [s] ++ B).flatMap encInt1)
 | 14 => v = .pointer (some ⟨B8, 6, none⟩)
 | _ => True
theorem VPutK.ext {B3 B8 : Nat} {an : Option Addr} {nn cn k : Nat} {s : Int} {A B : List Int} {wr : World} {base : Nat} (i : Nat) (v : Value) (w1 w2 : World) (h : VPutK B3 B8 an nn cn k s A B wr base i v w1) (hE : Ext w1 w2) : VPutK B3 B8 an nn cn k s A B wr base i v w2 := by
 match i with
 | 0 => obtain ⟨g, h1, h2, h3⟩ := h; exact ⟨g, h1, h2, heapx hE h3⟩
 | 1 => exact h
 | 2 => exact h
 | 3 => exact h
 | 4 => exact h
 | 5 => exact ownsRow_ext (show w1.ownsRow _ _ _ _ _ _ from h) hE
 | 6 => exact h
 | 7 => obtain ⟨g, h1, h2, h3⟩ := h; exact ⟨g, h1, h2, heapx hE h3⟩
 | 8 => exact ownsRow_ext (show w1.ownsRow _ _ _ _ _ _ from h) hE
 | 9 => exact h
 | 10 => exact h
 | 11 => exact h
 | 12 => exact h
 | 13 => exact ownsRow_ext (show w1.ownsRow _ _ _ _ _ _ from h) hE
 | 14 => exact h
 | (n + 15) => trivial
def Shape {α : Type} (a : Option Addr) (l : List α) (cap : Nat) : Prop := (a = none ∧ l = [] ∧ cap = 0) ∨ ∃ g, a = some ⟨g, 0, none⟩
abbrev ndV (x : Nd) (an : Option Addr) (cn : Nat) (ak : Option Addr) (ck : Nat) : Value := .agg #[.bool x.fold, .int .i64 x.own, .int .i64 x.grp, .int .i64 x.mode, .string x.text, .slice an x.N.length cn, .slice ak x.K.length ck]
def RetNd (x : Nd) (w : World) (e : Ending) (w' : World) : Prop := ∃ an cn ak ck, e = .returned (ndV x an cn ak ck) ∧ Sep w w' [plRow 3 1 encInt1 (.slice ak x.K.length ck) x.K, plRow 9 1 encStr1 (.slice an x.N.length cn) x.N]
theorem specPut (x : Nd) (an ak : Option Addr) (cn ck : Nat) (s : ByteArray) (y : Int) (w : World) (hN : x.N.length ≤ 1048576) (hlen : x.N.length = x.K.length) (hcn : x.N.length ≤ cn) (hck : x.K.length ≤ ck) (hsn : Shape an x.N cn) (hsk : Shape ak x.K ck) (hn : Rd 1 encStr1 w an x.N) (hk : Rd 1 encInt1 w ak x.K) :
  Calls Tryz.prog 69 #[ndV x an cn ak ck, .string s, .int .i64 y] w (RetNd (putNd x s y) w) := by
 obtain ⟨f, o, g, m, t, N, K⟩ := x; dsimp only at hN hlen hn hk hcn hck hsn hsk ⊢; have HPut : Hid (putNd ⟨f, o, g, m, t, N, K⟩ s y = ⟨f, o, g, m, t, N.take (posOf N s) ++ [s] ++ N.drop (posOf N s), K.take (posOf N s) ++ [y] ++ K.drop (posOf N s)⟩) := hd0 (by simp [putNd]); have Hlen := hd0 hlen; have HLN := hd0 hN; have HLK : Hid (K.length ≤ 1048576) := hd0 (by omega); have HcN := hd0 hcn; have HcK := hd0 hck; clear hlen hcn hck; have Hsn := hd0 hsn; have Hsk := hd0 hsk; have Hn := hd0 hn; have Hk := hd0 hk; clear hn hk hsk
 go_enter Tryz.func69, Tryz.ntmps69
 have S := Sep.start w; replace S := S.alloc_at (n := w.heap.size) (by simp) #[.bool f, .int .i64 o, .int .i64 g, .int .i64 m, .string t, .slice an N.length cn, .slice ak K.length ck] 89; replace S := S.alloc_at (n := (w.heap.size + 1)) (by simp) #[.bool false, .int .i64 0, .int .i64 0, .int .i64 0, .string ⟨#[]⟩, .slice none 0 0, .slice none 0 0] 89
 go_upto_region 1 with fail
 generalize ((w.alloc (.cells #[.bool f, .int .i64 o, .int .i64 g, .int .i64 m, .string t, .slice an N.length cn, .slice ak K.length ck] 89)).alloc (.cells #[.bool false, .int .i64 0, .int .i64 0, .int .i64 0, .string ⟨#[]⟩, .slice none 0 0, .slice none 0 0] 89)) = w1 at *; generalize w.heap.size + 1 = B6 at *; go_wp2
 go_loopw [7] (fun i wr => ∃ k : Nat, k ≤ N.length ∧ i = .int .i64 k ∧ posOf N s = k + posOf (N.drop k) s ∧ Sep w wr [plBox B6 #[.bool false, .int .i64 0, .int .i64 0, .int .i64 0, .string ⟨#[]⟩, .slice none 0 0, .slice none 0 0] 89, plBox w.heap.size #[.bool f, .int .i64 o, .int .i64 g, .int .i64 m, .string t, .slice an N.length cn, .slice ak K.length ck] 89]) (fun i _ => N.length - (intOf i).toNat)
 case atStart => exact ⟨0, Nat.zero_le _, rfl, by rw [List.drop_zero, Nat.zero_add], S⟩
 case round =>
  clear S; obtain ⟨k, hkl, rfl, hpre, S⟩ := hrel; have Hpre := hd0 hpre; clear hpre
  have i0 : (0 : Int) ≤ (k : Int) := by omega
  obtain ⟨⟨b3c0, b3f0⟩, ⟨b3c1, b3f1⟩, ⟨b3c2, b3f2⟩, ⟨b3c3, b3f3⟩, ⟨b3c4, b3f4⟩, ⟨b3c5, b3f5⟩, ⟨b3c6, b3f6⟩⟩ := bx7 (S.box 1 rfl)
  by_cases hlt : k < N.length
  ·obtain ⟨z, b1, off, hz, hpe, e0⟩ := atStr (Hn.out.ext S.ext) hlt; subst hpe
   have i1 : (k : Int) < (N.length : Int) := by omega
   have Hz := hd0 hz; clear hz
   cases hless : Op.bytesLess z.toList s.toList with
   | true =>
    have HN := hd0 (posOf_drop Hpre.out Hz.out hless); go_wp2; clear b3c0 b3f0 b3c1 b3f1 b3c2 b3f2 b3c3 b3f3 b3c4 b3f4 b3c5 b3f5 b3c6 b3f6; go_roundw
    case rel => exact ⟨k + 1, by omega, by go_num, HN.out, S⟩
    case measure => simp [intOf]; omega
   | false =>
    have HN := hd0 (posOf_stop Hpre.out Hz.out hless); clear b3c0 b3f0 b3c1 b3f1 b3c2 b3f2 b3c3 b3f3 b3c4 b3f4 b3c5 b3f5 b3c6 b3f6; have HkLN := hd0 hkl; have HkLK : Hid (k ≤ K.length) := hd0 (by have := Hlen.out; omega); clear hkl; obtain ⟨⟨b3c0, b3f0⟩, ⟨b3c1, b3f1⟩, ⟨b3c2, b3f2⟩, ⟨b3c3, b3f3⟩, ⟨b3c4, b3f4⟩, ⟨b3c5, b3f5⟩, ⟨b3c6, b3f6⟩⟩ := bx7 (S.box 1 rfl); replace S := S.alloc_at (n := wr.heap.size) (by simp) #[.bool f, .int .i64 o, .int .i64 g, .int .i64 m, .string t, .slice (some ⟨b1, off, none⟩) N.length cn, .slice ak K.length ck] 89
    go_upto_region 5 with fail
    clear b3c0 b3f0 b3c1 b3f1 b3c2 b3f2 b3c3 b3f3 b3c4 b3f4 b3c5 b3f5 b3c6 b3f6; generalize (wr.alloc (.cells #[.bool f, .int .i64 o, .int .i64 g, .int .i64 m, .string t, .slice (some ⟨b1, off, none⟩) N.length cn, .slice ak K.length ck] 89)) = wA at *; generalize wr.heap.size = B8 at *; obtain ⟨A, hA⟩ : ∃ A, A = N.take k := ⟨_, rfl⟩; obtain ⟨B, hB⟩ : ∃ B, B = N.drop k := ⟨_, rfl⟩; have hkl : k ≤ N.length := HkLN.out; have hLb : N.length ≤ 1048576 := HLN.out; have HkA : Hid (k = A.length) := hd0 (by rw [hA, List.length_take]; omega); have HkB : Hid (N.length - k = B.length) := hd0 (by rw [hB, List.length_drop])
    have hA8 : A.length ≤ 1048576 := by rw [hA, List.length_take]; have := HLN.out; omega
    have hB8 : B.length ≤ 1048576 := by rw [hB, List.length_drop]; have := HLN.out; omega
    have hrL : Rd 1 encStr1 wA (some ⟨b1, off, none⟩) N := Hn.out.ext S.ext
    have hrA : Rd 1 encStr1 wA (some ⟨b1, off, none⟩) A := by rw [hA]; exact hrL.take k
    have HBn : Hid (((some ⟨b1, off, none⟩) : Option Addr) = none → Rd 1 encStr1 wA none B) := hd0 (fun h => by
     rcases Hsn.out with ⟨h1, h2, h3⟩ | ⟨ga, h1⟩
     ·rw [hB, h2, List.drop_nil]; exact Rd.nil
     ·rw [h1] at h; cases h)
    have HBs : Hid (∀ ga, ((some ⟨b1, off, none⟩) : Option Addr) = some ⟨ga, 0, none⟩ → Rd 1 encStr1 wA (some ⟨ga, 0 + k * 1, none⟩) B) := hd0 (fun ga h => by
     rw [hB]; rw [h] at hrL; exact hrL.drop k)
    have hshapeF := Hsn.out; have HAB := hd0 (And.intro hA hB); clear hA hB hrL; have c3F := (bx (S.box 2 rfl) 5 rfl).1; have hlc : N.length ≤ cn := HcN.out
    have ic : (k : Int) ≤ (cn : Int) := by have := HcN.out; omega
    have il : (k : Int) ≤ (N.length : Int) := by omega
    refine wp_region_t (V := VPutN w.heap.size B8 (some ⟨b1, off, none⟩) N.length cn k s A B wA wA.heap.size) (Ext wA) (fun i => if i = 0 then some 5 else if i = 5 then some 8 else if i = 7 then some 8 else if i = 8 then some 13 else none) [(8, 5), (13, 8), (13, 5)] 15 0 rfl (by decide) (by kernel_rfl) (by kernel_rfl) (by kernel_rfl) (by kernel_rfl) (Ext.refl wA).drew (fun r hr => absurd hr (Nat.not_lt_zero _)) ?_ ?_
    ·intro i o hi ho vz w4 hvl hE hd hrest; have hsz : wA.heap.size ≤ w4.heap.size := hE.size
     match vz, hvl with
     | [y0, y1, y2, y3, y4, y5, y6, y7, y8, y9, y10, y11, y12, y13, y14], _ =>
     rcases lc15 hi with rfl | rfl | rfl | rfl | rfl | rfl | rfl | rfl | rfl | rfl | rfl | rfl | rfl | rfl | rfl
     all_goals
      obtain rfl := Option.some.inj ho
     ·clear hd hrest; simp [putAll, Act.put]; go_wp2; exact OneC.mk (VPutN.ext) rfl ⟨_, rfl, hsz, heap_alloc_new w4 _⟩ (hE.alloc _) ((Ext.refl _).alloc _)
     ·clear hd hrest; simp [putAll, Act.put]; go_wp2; exact OneC.mk (VPutN.ext) rfl rfl hE (Ext.refl _)
     ·have q1 : y1 = .pointer (some ⟨w.heap.size, 5, none⟩) := hd ⟨1, .data⟩ (by simp) rfl (by decide); have c3 := cell_ext hE c3F; subst q1; clear hd hrest; simp [putAll, Act.put]; go_wp2; exact OneC.mk (VPutN.ext) rfl rfl hE (Ext.refl _)
     ·clear hd hrest; simp [putAll, Act.put]; go_wp2; exact OneC.mk (VPutN.ext) rfl rfl hE (Ext.refl _)
     ·have q2 : y2 = .slice (some ⟨b1, off, none⟩) N.length cn := hd ⟨2, .data⟩ (by simp) rfl (by decide); have q3 : y3 = .int .i64 k := hd ⟨3, .data⟩ (by simp) rfl (by decide); subst q2 q3; clear hd hrest
      rcases hshapeF with ⟨h1, h2, h3⟩ | ⟨ga, h1⟩
      ·first
       | (cases h1; done)
       | (cases h1; cases h2; cases h3
          obtain rfl : k = 0 := by simpa using hkl
          simp [putAll, Act.put]; go_wp2
          exact OneC.mk (VPutN.ext) rfl ⟨_, _, rfl, hrA⟩ hE (Ext.refl _))
      ·cases h1
       simp [putAll, Act.put]; go_wp2; exact OneC.mk (VPutN.ext) rfl ⟨_, _, rfl, hrA⟩ hE (Ext.refl _)
     ·obtain ⟨gq0, q0, hbq0, hgq0⟩ : ∃ g, y0 = .slice (some ⟨g, 0, none⟩) 0 0 ∧ wA.heap.size ≤ g ∧ w4.heap[g]? = some (.cells #[] 9) := hd ⟨0, .data⟩ (by simp) rfl (by decide); obtain ⟨aq1, cq1, q1, hrq1⟩ : ∃ a' c', y4 = .slice a' k c' ∧ Rd 1 encStr1 wA a' A := hd ⟨4, .data⟩ (by simp) rfl (by decide); have hr4 := Rd.ext hrq1 hE; subst q0 q1; clear hd hrest; simp [putAll, Act.put]; refine wpList_append_lit rfl _ _ 39 rfl wA.heap.size 9 _ 1 _ Tryz.underlying39 infoStr1 rfl (by decide) encStr1_len encStr1_one gq0 rfl hgq0 hbq0 aq1 (k) _ (A) rfl (HkA.out) hr4 (by omega) (by omega) hsz ?_; intro v9 w9 ho9 hE9; go_wp2; exact OneC.mk (VPutN.ext) rfl ho9 (hE.trans hE9) hE9
     ·clear hd hrest; simp [putAll, Act.put]; go_wp2; exact OneC.mk (VPutN.ext) rfl rfl hE (Ext.refl _)
     ·have q6 : y6 = .string s := hd ⟨6, .data⟩ (by simp) rfl (by decide); subst q6; clear hd hrest; simp [putAll, Act.put]; go_wp2; exact OneC.mk (VPutN.ext) rfl ⟨_, rfl, hsz, heap_alloc_new w4 _⟩ (hE.alloc _) ((Ext.refl _).alloc _)
     ·have q0 : w4.ownsRow wA.heap.size 9 1 y5 (A).length ((A).flatMap encStr1) := hd ⟨5, .data⟩ (by simp) rfl (by decide); obtain ⟨gq1, q1, hbq1, hgq1⟩ : ∃ g, y7 = .slice (some ⟨g, 0, none⟩) 1 1 ∧ wA.heap.size ≤ g ∧ w4.heap[g]? = some (.cells #[.string s] 9) := hd ⟨7, .data⟩ (by simp) rfl (by decide); have hrd : Rd 1 encStr1 w4 (some ⟨gq1, 0, none⟩) [s] := rd_lit [s] encStr1_len hgq1 rfl; subst q1; clear hd hrest; simp [putAll, Act.put]; refine wpList_append_rd rfl _ _ 39 rfl wA.heap.size 9 _ 1 _ Tryz.underlying39 infoStr1 rfl (by decide) encStr1_len encStr1_one _ (A).length (A) rfl q0 rfl (some ⟨gq1, 0, none⟩) 1 1 [s] rfl rfl hrd (by first | omega | (simp; omega)) (by omega) hsz ?_; intro v9 w9 ho9 hg9; have hE9 : Ext wA w9 := hE.grown hg9 (fun k h => (q0.lt k h).1); go_wp2; refine ⟨rfl, _, rfl, ho9, hE9, fun j u hj hne hcon hnd hnc hv => ?_⟩
      match j with
      | 0 => exact absurd (by decide) (hnc 5 rfl)
      | 1 => exact hv
      | 2 => exact hv
      | 3 => exact hv
      | 4 => exact hv
      | 5 => exact absurd rfl hcon
      | 6 => exact hv
      | 7 => exact absurd rfl hcon
      | 8 => exact absurd rfl hne
      | 9 => exact hv
      | 10 => exact hv
      | 11 => exact hv
      | 12 => exact hv
      | 13 => exact absurd (by decide) hnd
      | 14 => exact hv
      | (zz + 15) => trivial
     ·clear hd hrest; simp [putAll, Act.put]; go_wp2; exact OneC.mk (VPutN.ext) rfl rfl hE (Ext.refl _)
     ·have q9 : y9 = .pointer (some ⟨w.heap.size, 5, none⟩) := hd ⟨9, .data⟩ (by simp) rfl (by decide); have c3 := cell_ext hE c3F; subst q9; clear hd hrest; simp [putAll, Act.put]; go_wp2; exact OneC.mk (VPutN.ext) rfl rfl hE (Ext.refl _)
     ·clear hd hrest; simp [putAll, Act.put]; go_wp2; exact OneC.mk (VPutN.ext) rfl rfl hE (Ext.refl _)
     ·have q10 : y10 = .slice (some ⟨b1, off, none⟩) N.length cn := hd ⟨10, .data⟩ (by simp) rfl (by decide); have q11 : y11 = .int .i64 k := hd ⟨11, .data⟩ (by simp) rfl (by decide); subst q10 q11; clear hd hrest
      rcases hshapeF with ⟨h1, h2, h3⟩ | ⟨ga, h1⟩
      ·first
       | (cases h1; done)
       | (have hBn := HBn.out h1; clear HBn HBs; cases h1; cases h2; cases h3
          obtain rfl : k = 0 := by simpa using hkl
          simp [putAll, Act.put]; go_wp2
          exact OneC.mk (VPutN.ext) rfl ⟨none, 0, by simp, hBn⟩ hE (Ext.refl _))
      ·have hrB := HBs.out ga h1; clear HBn HBs
       cases h1
       by_cases hcm : cn = k
       ·have hBz : B = [] := List.eq_nil_of_length_eq_zero (by have := HkB.out; omega)
        have hrZ : ∀ a, Rd 1 encStr1 wA a B := fun a => by rw [hBz]; exact Rd.nil
        have hnz : N.length - k = 0 := by omega
        simp [putAll, Act.put]; go_wp2; refine OneC.mk (VPutN.ext) rfl ?_ hE (Ext.refl _); exact ⟨some ⟨_, 0, none⟩, 0, by rw [hnz], by first | exact hrZ _ | exact Rd.nil⟩
       ·simp [putAll, Act.put]; go_wp2; exact OneC.mk (VPutN.ext) rfl ⟨some ⟨_, k, none⟩, cn - k, by first | rfl | (simp; omega), by simpa using hrB⟩ hE (Ext.refl _)
     ·have q0 : w4.ownsRow wA.heap.size 9 1 y8 (A ++ [s]).length ((A ++ [s]).flatMap encStr1) := hd ⟨8, .data⟩ (by simp) rfl (by decide); obtain ⟨aq1, cq1, q1, hrq1⟩ : ∃ a' c', y12 = .slice a' (N.length - k) c' ∧ Rd 1 encStr1 wA a' B := hd ⟨12, .data⟩ (by simp) rfl (by decide); have hrd := Rd.ext hrq1 hE; subst q1; clear hd hrest; simp [putAll, Act.put]; refine wpList_append_rd rfl _ _ 39 rfl wA.heap.size 9 _ 1 _ Tryz.underlying39 infoStr1 rfl (by decide) encStr1_len encStr1_one _ (A ++ [s]).length (A ++ [s]) rfl q0 rfl aq1 ((N.length - k)) cq1 (B) rfl (HkB.out) hrd (by first | omega | (simp; omega)) (by omega) hsz ?_; intro v9 w9 ho9 hg9; have hE9 : Ext wA w9 := hE.grown hg9 (fun k h => (q0.lt k h).1); go_wp2; refine ⟨rfl, _, rfl, ho9, hE9, fun j u hj hne hcon hnd hnc hv => ?_⟩
      match j with
      | 0 => exact absurd (by decide) (hnc 5 rfl)
      | 1 => exact hv
      | 2 => exact hv
      | 3 => exact hv
      | 4 => exact hv
      | 5 => exact absurd (by decide) (hnc 8 rfl)
      | 6 => exact hv
      | 7 => exact absurd (by decide) (hnc 8 rfl)
      | 8 => exact absurd rfl hcon
      | 9 => exact hv
      | 10 => exact hv
      | 11 => exact hv
      | 12 => exact hv
      | 13 => exact absurd rfl hne
      | 14 => exact hv
      | (zz + 15) => trivial
     ·clear hd hrest; simp [putAll, Act.put]; go_wp2; exact OneC.mk (VPutN.ext) rfl rfl hE (Ext.refl _)
    ·intro vz wA2 hvl hE hV _
     match vz, hvl with
     | [y0, y1, y2, y3, y4, y5, y6, y7, y8, y9, y10, y11, y12, y13, y14], _ =>
      have o5 : wA2.ownsRow wA.heap.size 9 1 y13 (A ++ [s] ++ B).length ((A ++ [s] ++ B).flatMap encStr1) := hV 13 (by omega) rfl; have e14 : y14 = .pointer (some ⟨B8, 5, none⟩) := hV 14 (by omega) rfl; clear hV ic il hlc hLb hrA HBn HBs hshapeF c3F; subst e14; obtain ⟨GN, hGN⟩ : ∃ G, G = A ++ [s] ++ B := ⟨_, rfl⟩; rw [← hGN] at o5; have HGN : Hid (GN = N.take k ++ [s] ++ N.drop k) := hd0 (by rw [hGN, HAB.out.1, HAB.out.2]); obtain ⟨aN, cN, hv13, hcap13, _, _⟩ := view_owns encStr1_len o5; clear hGN HAB HkA HkB hA8 hB8 hcap13; subst hv13; replace S : Sep w wA2 [plRow 9 1 encStr1 (.slice aN GN.length cN) GN, plBox B8 #[.bool f, .int .i64 o, .int .i64 g, .int .i64 m, .string t, .slice (some ⟨b1, off, none⟩) N.length cn, .slice ak K.length ck] 89, plBox B6 #[.bool false, .int .i64 0, .int .i64 0, .int .i64 0, .string ⟨#[]⟩, .slice none 0 0, .slice none 0 0] 89, plBox w.heap.size #[.bool f, .int .i64 o, .int .i64 g, .int .i64 m, .string t, .slice (some ⟨b1, off, none⟩) N.length cn, .slice ak K.length ck] 89] := (S.owned hE (Nat.le_refl _) o5); clear hE o5; simp only [putAll, Act.put, List.take_succ_cons, List.take_zero, List.drop_succ_cons, List.drop_zero]; simp; obtain ⟨⟨b8c0, b8f0⟩, ⟨b8c1, b8f1⟩, ⟨b8c2, b8f2⟩, ⟨b8c3, b8f3⟩, ⟨b8c4, b8f4⟩, ⟨b8c5, b8f5⟩, ⟨b8c6, b8f6⟩⟩ := bx7 (S.box 1 rfl); obtain ⟨⟨b3c0, b3f0⟩, ⟨b3c1, b3f1⟩, ⟨b3c2, b3f2⟩, ⟨b3c3, b3f3⟩, ⟨b3c4, b3f4⟩, ⟨b3c5, b3f5⟩, ⟨b3c6, b3f6⟩⟩ := bx7 (S.box 3 rfl)
      go_upto_region 6 with fail
      clear b8c0 b8f0 b8c1 b8f1 b8c2 b8f2 b8c3 b8f3 b8c4 b8f4 b8c5 b8f5 b8c6 b8f6 b3c0 b3f0 b3c1 b3f1 b3c2 b3f2 b3c3 b3f3 b3c4 b3f4 b3c5 b3f5 b3c6 b3f6; replace S : Sep w (wA2.setCell ⟨B8, 5, none⟩ (.slice aN GN.length cN)) [plRow 9 1 encStr1 (.slice aN GN.length cN) GN, plBox B8 #[.bool f, .int .i64 o, .int .i64 g, .int .i64 m, .string t, .slice aN GN.length cN, .slice ak K.length ck] 89, plBox B6 #[.bool false, .int .i64 0, .int .i64 0, .int .i64 0, .string ⟨#[]⟩, .slice none 0 0, .slice none 0 0] 89, plBox w.heap.size #[.bool f, .int .i64 o, .int .i64 g, .int .i64 m, .string t, .slice (some ⟨b1, off, none⟩) N.length cn, .slice ak K.length ck] 89] := S.set 1 rfl 5 _; generalize (wA2.setCell ⟨B8, 5, none⟩ (.slice aN GN.length cN)) = wB at *; obtain ⟨A, hA⟩ : ∃ A, A = K.take k := ⟨_, rfl⟩; obtain ⟨B, hB⟩ : ∃ B, B = K.drop k := ⟨_, rfl⟩; have hkl : k ≤ K.length := HkLK.out; have hLb : K.length ≤ 1048576 := HLK.out; have HkA : Hid (k = A.length) := hd0 (by rw [hA, List.length_take]; omega); have HkB : Hid (K.length - k = B.length) := hd0 (by rw [hB, List.length_drop])
      have hA8 : A.length ≤ 1048576 := by rw [hA, List.length_take]; have := HLK.out; omega
      have hB8 : B.length ≤ 1048576 := by rw [hB, List.length_drop]; have := HLK.out; omega
      have hrL : Rd 1 encInt1 wB ak K := Hk.out.ext S.ext
      have hrA : Rd 1 encInt1 wB ak A := by rw [hA]; exact hrL.take k
      have HBn : Hid ((ak : Option Addr) = none → Rd 1 encInt1 wB none B) := hd0 (fun h => by
       rcases Hsk.out with ⟨h1, h2, h3⟩ | ⟨ga, h1⟩
       ·rw [hB, h2, List.drop_nil]; exact Rd.nil
       ·rw [h1] at h; cases h)
      have HBs : Hid (∀ ga, (ak : Option Addr) = some ⟨ga, 0, none⟩ → Rd 1 encInt1 wB (some ⟨ga, 0 + k * 1, none⟩) B) := hd0 (fun ga h => by
       rw [hB]; rw [h] at hrL; exact hrL.drop k)
      have hshapeF := Hsk.out; have HAB := hd0 (And.intro hA hB); clear hA hB hrL; have c3F := (bx (S.box 3 rfl) 6 rfl).1; have hlc : K.length ≤ ck := HcK.out
      have ic : (k : Int) ≤ (ck : Int) := by have := HcK.out; omega
      have il : (k : Int) ≤ (K.length : Int) := by omega
      refine wp_region_t (V := VPutK w.heap.size B8 ak K.length ck k y A B wB wB.heap.size) (Ext wB) (fun i => if i = 0 then some 5 else if i = 5 then some 8 else if i = 7 then some 8 else if i = 8 then some 13 else none) [(8, 5), (13, 8), (13, 5)] 15 0 rfl (by decide) (by kernel_rfl) (by kernel_rfl) (by kernel_rfl) (by kernel_rfl) (Ext.refl wB).drew (fun r hr => absurd hr (Nat.not_lt_zero _)) ?_ ?_
      ·intro i o hi ho vz w4 hvl hE hd hrest; have hsz : wB.heap.size ≤ w4.heap.size := hE.size
       match vz, hvl with
       | [y0, y1, y2, y3, y4, y5, y6, y7, y8, y9, y10, y11, y12, y13, y14], _ =>
       rcases lc15 hi with rfl | rfl | rfl | rfl | rfl | rfl | rfl | rfl | rfl | rfl | rfl | rfl | rfl | rfl | rfl
       all_goals
        obtain rfl := Option.some.inj ho
       ·clear hd hrest; simp [putAll, Act.put]; go_wp2; exact OneC.mk (VPutK.ext) rfl ⟨_, rfl, hsz, heap_alloc_new w4 _⟩ (hE.alloc _) ((Ext.refl _).alloc _)
       ·clear hd hrest; simp [putAll, Act.put]; go_wp2; exact OneC.mk (VPutK.ext) rfl rfl hE (Ext.refl _)
       ·have q1 : y1 = .pointer (some ⟨w.heap.size, 6, none⟩) := hd ⟨1, .data⟩ (by simp) rfl (by decide); have c3 := cell_ext hE c3F; subst q1; clear hd hrest; simp [putAll, Act.put]; go_wp2; exact OneC.mk (VPutK.ext) rfl rfl hE (Ext.refl _)
       ·clear hd hrest; simp [putAll, Act.put]; go_wp2; exact OneC.mk (VPutK.ext) rfl rfl hE (Ext.refl _)
       ·have q2 : y2 = .slice ak K.length ck := hd ⟨2, .data⟩ (by simp) rfl (by decide); have q3 : y3 = .int .i64 k := hd ⟨3, .data⟩ (by simp) rfl (by decide); subst q2 q3; clear hd hrest
        rcases hshapeF with ⟨h1, h2, h3⟩ | ⟨ga, h1⟩
        ·first
         | (cases h1; done)
         | (cases h1; cases h2; cases h3
            obtain rfl : k = 0 := by simpa using hkl
            simp [putAll, Act.put]; go_wp2
            exact OneC.mk (VPutK.ext) rfl ⟨_, _, rfl, hrA⟩ hE (Ext.refl _))
        ·cases h1
         simp [putAll, Act.put]; go_wp2; exact OneC.mk (VPutK.ext) rfl ⟨_, _, rfl, hrA⟩ hE (Ext.refl _)
       ·obtain ⟨gq0, q0, hbq0, hgq0⟩ : ∃ g, y0 = .slice (some ⟨g, 0, none⟩) 0 0 ∧ wB.heap.size ≤ g ∧ w4.heap[g]? = some (.cells #[] 3) := hd ⟨0, .data⟩ (by simp) rfl (by decide); obtain ⟨aq1, cq1, q1, hrq1⟩ : ∃ a' c', y4 = .slice a' k c' ∧ Rd 1 encInt1 wB a' A := hd ⟨4, .data⟩ (by simp) rfl (by decide); have hr4 := Rd.ext hrq1 hE; subst q0 q1; clear hd hrest; simp [putAll, Act.put]; refine wpList_append_lit rfl _ _ 86 rfl wB.heap.size 3 _ 1 _ Tryz.underlying86 infoInt rfl (by decide) encInt1_len encInt1_one gq0 rfl hgq0 hbq0 aq1 (k) _ (A) rfl (HkA.out) hr4 (by omega) (by omega) hsz ?_; intro v9 w9 ho9 hE9; go_wp2; exact OneC.mk (VPutK.ext) rfl ho9 (hE.trans hE9) hE9
       ·clear hd hrest; simp [putAll, Act.put]; go_wp2; exact OneC.mk (VPutK.ext) rfl rfl hE (Ext.refl _)
       ·have q6 : y6 = .int .i64 y := hd ⟨6, .data⟩ (by simp) rfl (by decide); subst q6; clear hd hrest; simp [putAll, Act.put]; go_wp2; exact OneC.mk (VPutK.ext) rfl ⟨_, rfl, hsz, heap_alloc_new w4 _⟩ (hE.alloc _) ((Ext.refl _).alloc _)
       ·have q0 : w4.ownsRow wB.heap.size 3 1 y5 (A).length ((A).flatMap encInt1) := hd ⟨5, .data⟩ (by simp) rfl (by decide); obtain ⟨gq1, q1, hbq1, hgq1⟩ : ∃ g, y7 = .slice (some ⟨g, 0, none⟩) 1 1 ∧ wB.heap.size ≤ g ∧ w4.heap[g]? = some (.cells #[.int .i64 y] 3) := hd ⟨7, .data⟩ (by simp) rfl (by decide); have hrd : Rd 1 encInt1 w4 (some ⟨gq1, 0, none⟩) [y] := rd_lit [y] encInt1_len hgq1 rfl; subst q1; clear hd hrest; simp [putAll, Act.put]; refine wpList_append_rd rfl _ _ 86 rfl wB.heap.size 3 _ 1 _ Tryz.underlying86 infoInt rfl (by decide) encInt1_len encInt1_one _ (A).length (A) rfl q0 rfl (some ⟨gq1, 0, none⟩) 1 1 [y] rfl rfl hrd (by first | omega | (simp; omega)) (by omega) hsz ?_; intro v9 w9 ho9 hg9; have hE9 : Ext wB w9 := hE.grown hg9 (fun k h => (q0.lt k h).1); go_wp2; refine ⟨rfl, _, rfl, ho9, hE9, fun j u hj hne hcon hnd hnc hv => ?_⟩
        match j with
        | 0 => exact absurd (by decide) (hnc 5 rfl)
        | 1 => exact hv
        | 2 => exact hv
        | 3 => exact hv
        | 4 => exact hv
        | 5 => exact absurd rfl hcon
        | 6 => exact hv
        | 7 => exact absurd rfl hcon
        | 8 => exact absurd rfl hne
        | 9 => exact hv
        | 10 => exact hv
        | 11 => exact hv
        | 12 => exact hv
        | 13 => exact absurd (by decide) hnd
        | 14 => exact hv
        | (zz + 15) => trivial
       ·clear hd hrest; simp [putAll, Act.put]; go_wp2; exact OneC.mk (VPutK.ext) rfl rfl hE (Ext.refl _)
       ·have q9 : y9 = .pointer (some ⟨w.heap.size, 6, none⟩) := hd ⟨9, .data⟩ (by simp) rfl (by decide); have c3 := cell_ext hE c3F; subst q9; clear hd hrest; simp [putAll, Act.put]; go_wp2; exact OneC.mk (VPutK.ext) rfl rfl hE (Ext.refl _)
       ·clear hd hrest; simp [putAll, Act.put]; go_wp2; exact OneC.mk (VPutK.ext) rfl rfl hE (Ext.refl _)
       ·have q10 : y10 = .slice ak K.length ck := hd ⟨10, .data⟩ (by simp) rfl (by decide); have q11 : y11 = .int .i64 k := hd ⟨11, .data⟩ (by simp) rfl (by decide); subst q10 q11; clear hd hrest
        rcases hshapeF with ⟨h1, h2, h3⟩ | ⟨ga, h1⟩
        ·first
         | (cases h1; done)
         | (have hBn := HBn.out h1; clear HBn HBs; cases h1; cases h2; cases h3
            obtain rfl : k = 0 := by simpa using hkl
            simp [putAll, Act.put]; go_wp2
            exact OneC.mk (VPutK.ext) rfl ⟨none, 0, by simp, hBn⟩ hE (Ext.refl _))
        ·have hrB := HBs.out ga h1; clear HBn HBs
         cases h1
         by_cases hcm : ck = k
         ·have hBz : B = [] := List.eq_nil_of_length_eq_zero (by have := HkB.out; omega)
          have hrZ : ∀ a, Rd 1 encInt1 wB a B := fun a => by rw [hBz]; exact Rd.nil
          have hnz : K.length - k = 0 := by omega
          simp [putAll, Act.put]; go_wp2; refine OneC.mk (VPutK.ext) rfl ?_ hE (Ext.refl _); exact ⟨some ⟨_, 0, none⟩, 0, by rw [hnz], by first | exact hrZ _ | exact Rd.nil⟩
         ·simp [putAll, Act.put]; go_wp2; exact OneC.mk (VPutK.ext) rfl ⟨some ⟨_, k, none⟩, ck - k, by first | rfl | (simp; omega), by simpa using hrB⟩ hE (Ext.refl _)
       ·have q0 : w4.ownsRow wB.heap.size 3 1 y8 (A ++ [y]).length ((A ++ [y]).flatMap encInt1) := hd ⟨8, .data⟩ (by simp) rfl (by decide); obtain ⟨aq1, cq1, q1, hrq1⟩ : ∃ a' c', y12 = .slice a' (K.length - k) c' ∧ Rd 1 encInt1 wB a' B := hd ⟨12, .data⟩ (by simp) rfl (by decide); have hrd := Rd.ext hrq1 hE; subst q1; clear hd hrest; simp [putAll, Act.put]; refine wpList_append_rd rfl _ _ 86 rfl wB.heap.size 3 _ 1 _ Tryz.underlying86 infoInt rfl (by decide) encInt1_len encInt1_one _ (A ++ [y]).length (A ++ [y]) rfl q0 rfl aq1 ((K.length - k)) cq1 (B) rfl (HkB.out) hrd (by first | omega | (simp; omega)) (by omega) hsz ?_; intro v9 w9 ho9 hg9; have hE9 : Ext wB w9 := hE.grown hg9 (fun k h => (q0.lt k h).1); go_wp2; refine ⟨rfl, _, rfl, ho9, hE9, fun j u hj hne hcon hnd hnc hv => ?_⟩
        match j with
        | 0 => exact absurd (by decide) (hnc 5 rfl)
        | 1 => exact hv
        | 2 => exact hv
        | 3 => exact hv
        | 4 => exact hv
        | 5 => exact absurd (by decide) (hnc 8 rfl)
        | 6 => exact hv
        | 7 => exact absurd (by decide) (hnc 8 rfl)
        | 8 => exact absurd rfl hcon
        | 9 => exact hv
        | 10 => exact hv
        | 11 => exact hv
        | 12 => exact hv
        | 13 => exact absurd rfl hne
        | 14 => exact hv
        | (zz + 15) => trivial
       ·clear hd hrest; simp [putAll, Act.put]; go_wp2; exact OneC.mk (VPutK.ext) rfl rfl hE (Ext.refl _)
      ·intro vz wB2 hvl hE hV _
       match vz, hvl with
       | [y0, y1, y2, y3, y4, y5, y6, y7, y8, y9, y10, y11, y12, y13, y14], _ =>
        have o5 : wB2.ownsRow wB.heap.size 3 1 y13 (A ++ [y] ++ B).length ((A ++ [y] ++ B).flatMap encInt1) := hV 13 (by omega) rfl; have e14 : y14 = .pointer (some ⟨B8, 6, none⟩) := hV 14 (by omega) rfl; clear hV ic il hlc hLb hrA HBn HBs hshapeF c3F; subst e14; obtain ⟨GK, hGK⟩ : ∃ G, G = A ++ [y] ++ B := ⟨_, rfl⟩; rw [← hGK] at o5; have HGK : Hid (GK = K.take k ++ [y] ++ K.drop k) := hd0 (by rw [hGK, HAB.out.1, HAB.out.2]); obtain ⟨aK, cK, hv13, hcap13, _, _⟩ := view_owns encInt1_len o5; clear hGK HAB HkA HkB hA8 hB8 hcap13; subst hv13; replace S : Sep w wB2 [plRow 3 1 encInt1 (.slice aK GK.length cK) GK, plRow 9 1 encStr1 (.slice aN GN.length cN) GN, plBox B8 #[.bool f, .int .i64 o, .int .i64 g, .int .i64 m, .string t, .slice aN GN.length cN, .slice ak K.length ck] 89, plBox B6 #[.bool false, .int .i64 0, .int .i64 0, .int .i64 0, .string ⟨#[]⟩, .slice none 0 0, .slice none 0 0] 89, plBox w.heap.size #[.bool f, .int .i64 o, .int .i64 g, .int .i64 m, .string t, .slice (some ⟨b1, off, none⟩) N.length cn, .slice ak K.length ck] 89] := (S.owned hE (Nat.le_refl _) o5); clear hE o5; simp only [putAll, Act.put, List.take_succ_cons, List.take_zero, List.drop_succ_cons, List.drop_zero]; simp; obtain ⟨⟨b8c0, b8f0⟩, ⟨b8c1, b8f1⟩, ⟨b8c2, b8f2⟩, ⟨b8c3, b8f3⟩, ⟨b8c4, b8f4⟩, ⟨b8c5, b8f5⟩, ⟨b8c6, b8f6⟩⟩ := bx7 (S.box 2 rfl)
        go_upto_region 7 with fail
        clear b8c0 b8f0 b8c1 b8f1 b8c2 b8f2 b8c3 b8f3 b8c4 b8f4 b8c5 b8f5 b8c6 b8f6; replace S : Sep w (wB2.setCell ⟨B8, 6, none⟩ (.slice aK GK.length cK)) [plRow 3 1 encInt1 (.slice aK GK.length cK) GK, plRow 9 1 encStr1 (.slice aN GN.length cN) GN, plBox B8 #[.bool f, .int .i64 o, .int .i64 g, .int .i64 m, .string t, .slice aN GN.length cN, .slice aK GK.length cK] 89, plBox B6 #[.bool false, .int .i64 0, .int .i64 0, .int .i64 0, .string ⟨#[]⟩, .slice none 0 0, .slice none 0 0] 89, plBox w.heap.size #[.bool f, .int .i64 o, .int .i64 g, .int .i64 m, .string t, .slice (some ⟨b1, off, none⟩) N.length cn, .slice ak K.length ck] 89] := S.set 2 rfl 6 _; generalize (wB2.setCell ⟨B8, 6, none⟩ (.slice aK GK.length cK)) = wC at *; obtain ⟨⟨b8c0, b8f0⟩, ⟨b8c1, b8f1⟩, ⟨b8c2, b8f2⟩, ⟨b8c3, b8f3⟩, ⟨b8c4, b8f4⟩, ⟨b8c5, b8f5⟩, ⟨b8c6, b8f6⟩⟩ := bx7 (S.box 2 rfl); obtain ⟨⟨b6c0, b6f0⟩, ⟨b6c1, b6f1⟩, ⟨b6c2, b6f2⟩, ⟨b6c3, b6f3⟩, ⟨b6c4, b6f4⟩, ⟨b6c5, b6f5⟩, ⟨b6c6, b6f6⟩⟩ := bx7 (S.box 3 rfl); clear hkl i0; go_wp2; clear b8c0 b8f0 b8c1 b8f1 b8c2 b8f2 b8c3 b8f3 b8c4 b8f4 b8c5 b8f5 b8c6 b8f6 b6c0 b6f0 b6c1 b6f1 b6c2 b6f2 b6c3 b6f3 b6c4 b6f4 b6c5 b6f5 b6c6 b6f6; replace S : Sep w (((((((wC.setCell ⟨B6, 0, none⟩ (.bool f)).setCell ⟨B6, 1, none⟩ (.int .i64 o)).setCell ⟨B6, 2, none⟩ (.int .i64 g)).setCell ⟨B6, 3, none⟩ (.int .i64 m)).setCell ⟨B6, 4, none⟩ (.string t)).setCell ⟨B6, 5, none⟩ (.slice aN GN.length cN)).setCell ⟨B6, 6, none⟩ (.slice aK GK.length cK)) [plRow 3 1 encInt1 (.slice aK GK.length cK) GK, plRow 9 1 encStr1 (.slice aN GN.length cN) GN, plBox B8 #[.bool f, .int .i64 o, .int .i64 g, .int .i64 m, .string t, .slice aN GN.length cN, .slice aK GK.length cK] 89, plBox B6 #[.bool f, .int .i64 o, .int .i64 g, .int .i64 m, .string t, .slice aN GN.length cN, .slice aK GK.length cK] 89, plBox w.heap.size #[.bool f, .int .i64 o, .int .i64 g, .int .i64 m, .string t, .slice (some ⟨b1, off, none⟩) N.length cn, .slice ak K.length ck] 89] := ((((((S.set 3 rfl 0 _).set 3 rfl 1 _).set 3 rfl 2 _).set 3 rfl 3 _).set 3 rfl 4 _).set 3 rfl 5 _).set 3 rfl 6 _; generalize (((((((wC.setCell ⟨B6, 0, none⟩ (.bool f)).setCell ⟨B6, 1, none⟩ (.int .i64 o)).setCell ⟨B6, 2, none⟩ (.int .i64 g)).setCell ⟨B6, 3, none⟩ (.int .i64 m)).setCell ⟨B6, 4, none⟩ (.string t)).setCell ⟨B6, 5, none⟩ (.slice aN GN.length cN)).setCell ⟨B6, 6, none⟩ (.slice aK GK.length cK)) = wD at *; have HF : Hid (putNd ⟨f, o, g, m, t, N, K⟩ s y = ⟨f, o, g, m, t, GN, GK⟩) := hd0 (by rw [HPut.out, HN.out, HGN.out, HGK.out]); obtain ⟨⟨b6c0, b6f0⟩, ⟨b6c1, b6f1⟩, ⟨b6c2, b6f2⟩, ⟨b6c3, b6f3⟩, ⟨b6c4, b6f4⟩, ⟨b6c5, b6f5⟩, ⟨b6c6, b6f6⟩⟩ := bx7 (S.box 3 rfl); refine bodyPost_ret (v := ndV ⟨f, o, g, m, t, GN, GK⟩ aN cN aK cK) (by simp [results, Tryz.results69, go_sem, b6c0, b6c1, b6c2, b6c3, b6c4, b6c5, b6c6]) rfl ?_; rw [HF.out]; replace S : Sep w wD [plRow 3 1 encInt1 (.slice aK GK.length cK) GK, plRow 9 1 encStr1 (.slice aN GN.length cN) GN] := ((S.drop 2).drop 2).drop 2; exact ⟨aN, cN, aK, cK, rfl, S⟩
  ·have HN := hd0 (posOf_end (s := s) (N := N) (by have h := Hpre.out; rw [show k = N.length by omega] at h; exact h))
   have hkN : k = N.length := by omega
   have HkN := hd0 hkN
   have hni : ¬ (k : Int) < (N.length : Int) := by omega
   have HN2 : Hid (posOf N s = k) := hd0 (by rw [HN.out, hkN]); clear HN hkN; have HN := HN2; clear HN2; clear b3c0 b3f0 b3c1 b3f1 b3c2 b3f2 b3c3 b3f3 b3c4 b3f4 b3c5 b3f5 b3c6 b3f6; have HkLN := hd0 hkl; have HkLK : Hid (k ≤ K.length) := hd0 (by have := Hlen.out; omega); clear hkl; obtain ⟨⟨b3c0, b3f0⟩, ⟨b3c1, b3f1⟩, ⟨b3c2, b3f2⟩, ⟨b3c3, b3f3⟩, ⟨b3c4, b3f4⟩, ⟨b3c5, b3f5⟩, ⟨b3c6, b3f6⟩⟩ := bx7 (S.box 1 rfl); replace S := S.alloc_at (n := wr.heap.size) (by simp) #[.bool f, .int .i64 o, .int .i64 g, .int .i64 m, .string t, .slice an N.length cn, .slice ak K.length ck] 89
   go_upto_region 5 with fail
   clear b3c0 b3f0 b3c1 b3f1 b3c2 b3f2 b3c3 b3f3 b3c4 b3f4 b3c5 b3f5 b3c6 b3f6; generalize (wr.alloc (.cells #[.bool f, .int .i64 o, .int .i64 g, .int .i64 m, .string t, .slice an N.length cn, .slice ak K.length ck] 89)) = wA at *; generalize wr.heap.size = B8 at *; obtain ⟨A, hA⟩ : ∃ A, A = N.take k := ⟨_, rfl⟩; obtain ⟨B, hB⟩ : ∃ B, B = N.drop k := ⟨_, rfl⟩; have hkl : k ≤ N.length := HkLN.out; have hLb : N.length ≤ 1048576 := HLN.out; have HkA : Hid (k = A.length) := hd0 (by rw [hA, List.length_take]; omega); have HkB : Hid (N.length - k = B.length) := hd0 (by rw [hB, List.length_drop])
   have hA8 : A.length ≤ 1048576 := by rw [hA, List.length_take]; have := HLN.out; omega
   have hB8 : B.length ≤ 1048576 := by rw [hB, List.length_drop]; have := HLN.out; omega
   have hrL : Rd 1 encStr1 wA an N := Hn.out.ext S.ext
   have hrA : Rd 1 encStr1 wA an A := by rw [hA]; exact hrL.take k
   have HBn : Hid ((an : Option Addr) = none → Rd 1 encStr1 wA none B) := hd0 (fun h => by
    rcases Hsn.out with ⟨h1, h2, h3⟩ | ⟨ga, h1⟩
    ·rw [hB, h2, List.drop_nil]; exact Rd.nil
    ·rw [h1] at h; cases h)
   have HBs : Hid (∀ ga, (an : Option Addr) = some ⟨ga, 0, none⟩ → Rd 1 encStr1 wA (some ⟨ga, 0 + k * 1, none⟩) B) := hd0 (fun ga h => by
    rw [hB]; rw [h] at hrL; exact hrL.drop k)
   have hshapeF := Hsn.out; have HAB := hd0 (And.intro hA hB); clear hA hB hrL; have c3F := (bx (S.box 2 rfl) 5 rfl).1; have hlc : N.length ≤ cn := HcN.out
   have ic : (k : Int) ≤ (cn : Int) := by have := HcN.out; omega
   have il : (k : Int) ≤ (N.length : Int) := by omega
   refine wp_region_t (V := VPutN w.heap.size B8 an N.length cn k s A B wA wA.heap.size) (Ext wA) (fun i => if i = 0 then some 5 else if i = 5 then some 8 else if i = 7 then some 8 else if i = 8 then some 13 else none) [(8, 5), (13, 8), (13, 5)] 15 0 rfl (by decide) (by kernel_rfl) (by kernel_rfl) (by kernel_rfl) (by kernel_rfl) (Ext.refl wA).drew (fun r hr => absurd hr (Nat.not_lt_zero _)) ?_ ?_
   ·intro i o hi ho vz w4 hvl hE hd hrest; have hsz : wA.heap.size ≤ w4.heap.size := hE.size
    match vz, hvl with
    | [y0, y1, y2, y3, y4, y5, y6, y7, y8, y9, y10, y11, y12, y13, y14], _ =>
    rcases lc15 hi with rfl | rfl | rfl | rfl | rfl | rfl | rfl | rfl | rfl | rfl | rfl | rfl | rfl | rfl | rfl
    all_goals
     obtain rfl := Option.some.inj ho
    ·clear hd hrest; simp [putAll, Act.put]; go_wp2; exact OneC.mk (VPutN.ext) rfl ⟨_, rfl, hsz, heap_alloc_new w4 _⟩ (hE.alloc _) ((Ext.refl _).alloc _)
    ·clear hd hrest; simp [putAll, Act.put]; go_wp2; exact OneC.mk (VPutN.ext) rfl rfl hE (Ext.refl _)
    ·have q1 : y1 = .pointer (some ⟨w.heap.size, 5, none⟩) := hd ⟨1, .data⟩ (by simp) rfl (by decide); have c3 := cell_ext hE c3F; subst q1; clear hd hrest; simp [putAll, Act.put]; go_wp2; exact OneC.mk (VPutN.ext) rfl rfl hE (Ext.refl _)
    ·clear hd hrest; simp [putAll, Act.put]; go_wp2; exact OneC.mk (VPutN.ext) rfl rfl hE (Ext.refl _)
    ·have q2 : y2 = .slice an N.length cn := hd ⟨2, .data⟩ (by simp) rfl (by decide); have q3 : y3 = .int .i64 k := hd ⟨3, .data⟩ (by simp) rfl (by decide); subst q2 q3; clear hd hrest
     rcases hshapeF with ⟨h1, h2, h3⟩ | ⟨ga, h1⟩
     ·first
      | (cases h1; done)
      | (cases h1; cases h2; cases h3
         obtain rfl : k = 0 := by simpa using hkl
         simp [putAll, Act.put]; go_wp2
         exact OneC.mk (VPutN.ext) rfl ⟨_, _, rfl, hrA⟩ hE (Ext.refl _))
     ·cases h1
      simp [putAll, Act.put]; go_wp2; exact OneC.mk (VPutN.ext) rfl ⟨_, _, rfl, hrA⟩ hE (Ext.refl _)
    ·obtain ⟨gq0, q0, hbq0, hgq0⟩ : ∃ g, y0 = .slice (some ⟨g, 0, none⟩) 0 0 ∧ wA.heap.size ≤ g ∧ w4.heap[g]? = some (.cells #[] 9) := hd ⟨0, .data⟩ (by simp) rfl (by decide); obtain ⟨aq1, cq1, q1, hrq1⟩ : ∃ a' c', y4 = .slice a' k c' ∧ Rd 1 encStr1 wA a' A := hd ⟨4, .data⟩ (by simp) rfl (by decide); have hr4 := Rd.ext hrq1 hE; subst q0 q1; clear hd hrest; simp [putAll, Act.put]; refine wpList_append_lit rfl _ _ 39 rfl wA.heap.size 9 _ 1 _ Tryz.underlying39 infoStr1 rfl (by decide) encStr1_len encStr1_one gq0 rfl hgq0 hbq0 aq1 (k) _ (A) rfl (HkA.out) hr4 (by omega) (by omega) hsz ?_; intro v9 w9 ho9 hE9; go_wp2; exact OneC.mk (VPutN.ext) rfl ho9 (hE.trans hE9) hE9
    ·clear hd hrest; simp [putAll, Act.put]; go_wp2; exact OneC.mk (VPutN.ext) rfl rfl hE (Ext.refl _)
    ·have q6 : y6 = .string s := hd ⟨6, .data⟩ (by simp) rfl (by decide); subst q6; clear hd hrest; simp [putAll, Act.put]; go_wp2; exact OneC.mk (VPutN.ext) rfl ⟨_, rfl, hsz, heap_alloc_new w4 _⟩ (hE.alloc _) ((Ext.refl _).alloc _)
    ·have q0 : w4.ownsRow wA.heap.size 9 1 y5 (A).length ((A).flatMap encStr1) := hd ⟨5, .data⟩ (by simp) rfl (by decide); obtain ⟨gq1, q1, hbq1, hgq1⟩ : ∃ g, y7 = .slice (some ⟨g, 0, none⟩) 1 1 ∧ wA.heap.size ≤ g ∧ w4.heap[g]? = some (.cells #[.string s] 9) := hd ⟨7, .data⟩ (by simp) rfl (by decide); have hrd : Rd 1 encStr1 w4 (some ⟨gq1, 0, none⟩) [s] := rd_lit [s] encStr1_len hgq1 rfl; subst q1; clear hd hrest; simp [putAll, Act.put]; refine wpList_append_rd rfl _ _ 39 rfl wA.heap.size 9 _ 1 _ Tryz.underlying39 infoStr1 rfl (by decide) encStr1_len encStr1_one _ (A).length (A) rfl q0 rfl (some ⟨gq1, 0, none⟩) 1 1 [s] rfl rfl hrd (by first | omega | (simp; omega)) (by omega) hsz ?_; intro v9 w9 ho9 hg9; have hE9 : Ext wA w9 := hE.grown hg9 (fun k h => (q0.lt k h).1); go_wp2; refine ⟨rfl, _, rfl, ho9, hE9, fun j u hj hne hcon hnd hnc hv => ?_⟩
     match j with
     | 0 => exact absurd (by decide) (hnc 5 rfl)
     | 1 => exact hv
     | 2 => exact hv
     | 3 => exact hv
     | 4 => exact hv
     | 5 => exact absurd rfl hcon
     | 6 => exact hv
     | 7 => exact absurd rfl hcon
     | 8 => exact absurd rfl hne
     | 9 => exact hv
     | 10 => exact hv
     | 11 => exact hv
     | 12 => exact hv
     | 13 => exact absurd (by decide) hnd
     | 14 => exact hv
     | (zz + 15) => trivial
    ·clear hd hrest; simp [putAll, Act.put]; go_wp2; exact OneC.mk (VPutN.ext) rfl rfl hE (Ext.refl _)
    ·have q9 : y9 = .pointer (some ⟨w.heap.size, 5, none⟩) := hd ⟨9, .data⟩ (by simp) rfl (by decide); have c3 := cell_ext hE c3F; subst q9; clear hd hrest; simp [putAll, Act.put]; go_wp2; exact OneC.mk (VPutN.ext) rfl rfl hE (Ext.refl _)
    ·clear hd hrest; simp [putAll, Act.put]; go_wp2; exact OneC.mk (VPutN.ext) rfl rfl hE (Ext.refl _)
    ·have q10 : y10 = .slice an N.length cn := hd ⟨10, .data⟩ (by simp) rfl (by decide); have q11 : y11 = .int .i64 k := hd ⟨11, .data⟩ (by simp) rfl (by decide); subst q10 q11; clear hd hrest
     rcases hshapeF with ⟨h1, h2, h3⟩ | ⟨ga, h1⟩
     ·first
      | (cases h1; done)
      | (have hBn := HBn.out h1; clear HBn HBs; cases h1; cases h2; cases h3
         obtain rfl : k = 0 := by simpa using hkl
         simp [putAll, Act.put]; go_wp2
         exact OneC.mk (VPutN.ext) rfl ⟨none, 0, by simp, hBn⟩ hE (Ext.refl _))
     ·have hrB := HBs.out ga h1; clear HBn HBs
      cases h1
      by_cases hcm : cn = k
      ·have hBz : B = [] := List.eq_nil_of_length_eq_zero (by have := HkB.out; omega)
       have hrZ : ∀ a, Rd 1 encStr1 wA a B := fun a => by rw [hBz]; exact Rd.nil
       have hnz : N.length - k = 0 := by omega
       simp [putAll, Act.put]; go_wp2; refine OneC.mk (VPutN.ext) rfl ?_ hE (Ext.refl _); exact ⟨some ⟨_, 0, none⟩, 0, by rw [hnz], by first | exact hrZ _ | exact Rd.nil⟩
      ·simp [putAll, Act.put]; go_wp2; exact OneC.mk (VPutN.ext) rfl ⟨some ⟨_, k, none⟩, cn - k, by first | rfl | (simp; omega), by simpa using hrB⟩ hE (Ext.refl _)
    ·have q0 : w4.ownsRow wA.heap.size 9 1 y8 (A ++ [s]).length ((A ++ [s]).flatMap encStr1) := hd ⟨8, .data⟩ (by simp) rfl (by decide); obtain ⟨aq1, cq1, q1, hrq1⟩ : ∃ a' c', y12 = .slice a' (N.length - k) c' ∧ Rd 1 encStr1 wA a' B := hd ⟨12, .data⟩ (by simp) rfl (by decide); have hrd := Rd.ext hrq1 hE; subst q1; clear hd hrest; simp [putAll, Act.put]; refine wpList_append_rd rfl _ _ 39 rfl wA.heap.size 9 _ 1 _ Tryz.underlying39 infoStr1 rfl (by decide) encStr1_len encStr1_one _ (A ++ [s]).length (A ++ [s]) rfl q0 rfl aq1 ((N.length - k)) cq1 (B) rfl (HkB.out) hrd (by first | omega | (simp; omega)) (by omega) hsz ?_; intro v9 w9 ho9 hg9; have hE9 : Ext wA w9 := hE.grown hg9 (fun k h => (q0.lt k h).1); go_wp2; refine ⟨rfl, _, rfl, ho9, hE9, fun j u hj hne hcon hnd hnc hv => ?_⟩
     match j with
     | 0 => exact absurd (by decide) (hnc 5 rfl)
     | 1 => exact hv
     | 2 => exact hv
     | 3 => exact hv
     | 4 => exact hv
     | 5 => exact absurd (by decide) (hnc 8 rfl)
     | 6 => exact hv
     | 7 => exact absurd (by decide) (hnc 8 rfl)
     | 8 => exact absurd rfl hcon
     | 9 => exact hv
     | 10 => exact hv
     | 11 => exact hv
     | 12 => exact hv
     | 13 => exact absurd rfl hne
     | 14 => exact hv
     | (zz + 15) => trivial
    ·clear hd hrest; simp [putAll, Act.put]; go_wp2; exact OneC.mk (VPutN.ext) rfl rfl hE (Ext.refl _)
   ·intro vz wA2 hvl hE hV _
    match vz, hvl with
    | [y0, y1, y2, y3, y4, y5, y6, y7, y8, y9, y10, y11, y12, y13, y14], _ =>
     have o5 : wA2.ownsRow wA.heap.size 9 1 y13 (A ++ [s] ++ B).length ((A ++ [s] ++ B).flatMap encStr1) := hV 13 (by omega) rfl; have e14 : y14 = .pointer (some ⟨B8, 5, none⟩) := hV 14 (by omega) rfl; clear hV ic il hlc hLb hrA HBn HBs hshapeF c3F; subst e14; obtain ⟨GN, hGN⟩ : ∃ G, G = A ++ [s] ++ B := ⟨_, rfl⟩; rw [← hGN] at o5; have HGN : Hid (GN = N.take k ++ [s] ++ N.drop k) := hd0 (by rw [hGN, HAB.out.1, HAB.out.2]); obtain ⟨aN, cN, hv13, hcap13, _, _⟩ := view_owns encStr1_len o5; clear hGN HAB HkA HkB hA8 hB8 hcap13; subst hv13; replace S : Sep w wA2 [plRow 9 1 encStr1 (.slice aN GN.length cN) GN, plBox B8 #[.bool f, .int .i64 o, .int .i64 g, .int .i64 m, .string t, .slice an N.length cn, .slice ak K.length ck] 89, plBox B6 #[.bool false, .int .i64 0, .int .i64 0, .int .i64 0, .string ⟨#[]⟩, .slice none 0 0, .slice none 0 0] 89, plBox w.heap.size #[.bool f, .int .i64 o, .int .i64 g, .int .i64 m, .string t, .slice an N.length cn, .slice ak K.length ck] 89] := (S.owned hE (Nat.le_refl _) o5); clear hE o5; simp only [putAll, Act.put, List.take_succ_cons, List.take_zero, List.drop_succ_cons, List.drop_zero]; simp; obtain ⟨⟨b8c0, b8f0⟩, ⟨b8c1, b8f1⟩, ⟨b8c2, b8f2⟩, ⟨b8c3, b8f3⟩, ⟨b8c4, b8f4⟩, ⟨b8c5, b8f5⟩, ⟨b8c6, b8f6⟩⟩ := bx7 (S.box 1 rfl); obtain ⟨⟨b3c0, b3f0⟩, ⟨b3c1, b3f1⟩, ⟨b3c2, b3f2⟩, ⟨b3c3, b3f3⟩, ⟨b3c4, b3f4⟩, ⟨b3c5, b3f5⟩, ⟨b3c6, b3f6⟩⟩ := bx7 (S.box 3 rfl)
     go_upto_region 6 with fail
     clear b8c0 b8f0 b8c1 b8f1 b8c2 b8f2 b8c3 b8f3 b8c4 b8f4 b8c5 b8f5 b8c6 b8f6 b3c0 b3f0 b3c1 b3f1 b3c2 b3f2 b3c3 b3f3 b3c4 b3f4 b3c5 b3f5 b3c6 b3f6; replace S : Sep w (wA2.setCell ⟨B8, 5, none⟩ (.slice aN GN.length cN)) [plRow 9 1 encStr1 (.slice aN GN.length cN) GN, plBox B8 #[.bool f, .int .i64 o, .int .i64 g, .int .i64 m, .string t, .slice aN GN.length cN, .slice ak K.length ck] 89, plBox B6 #[.bool false, .int .i64 0, .int .i64 0, .int .i64 0, .string ⟨#[]⟩, .slice none 0 0, .slice none 0 0] 89, plBox w.heap.size #[.bool f, .int .i64 o, .int .i64 g, .int .i64 m, .string t, .slice an N.length cn, .slice ak K.length ck] 89] := S.set 1 rfl 5 _; generalize (wA2.setCell ⟨B8, 5, none⟩ (.slice aN GN.length cN)) = wB at *; obtain ⟨A, hA⟩ : ∃ A, A = K.take k := ⟨_, rfl⟩; obtain ⟨B, hB⟩ : ∃ B, B = K.drop k := ⟨_, rfl⟩; have hkl : k ≤ K.length := HkLK.out; have hLb : K.length ≤ 1048576 := HLK.out; have HkA : Hid (k = A.length) := hd0 (by rw [hA, List.length_take]; omega); have HkB : Hid (K.length - k = B.length) := hd0 (by rw [hB, List.length_drop])
     have hA8 : A.length ≤ 1048576 := by rw [hA, List.length_take]; have := HLK.out; omega
     have hB8 : B.length ≤ 1048576 := by rw [hB, List.length_drop]; have := HLK.out; omega
     have hrL : Rd 1 encInt1 wB ak K := Hk.out.ext S.ext
     have hrA : Rd 1 encInt1 wB ak A := by rw [hA]; exact hrL.take k
     have HBn : Hid ((ak : Option Addr) = none → Rd 1 encInt1 wB none B) := hd0 (fun h => by
      rcases Hsk.out with ⟨h1, h2, h3⟩ | ⟨ga, h1⟩
      ·rw [hB, h2, List.drop_nil]; exact Rd.nil
      ·rw [h1] at h; cases h)
     have HBs : Hid (∀ ga, (ak : Option Addr) = some ⟨ga, 0, none⟩ → Rd 1 encInt1 wB (some ⟨ga, 0 + k * 1, none⟩) B) := hd0 (fun ga h => by
      rw [hB]; rw [h] at hrL; exact hrL.drop k)
     have hshapeF := Hsk.out; have HAB := hd0 (And.intro hA hB); clear hA hB hrL; have c3F := (bx (S.box 3 rfl) 6 rfl).1; have hlc : K.length ≤ ck := HcK.out
     have ic : (k : Int) ≤ (ck : Int) := by have := HcK.out; omega
     have il : (k : Int) ≤ (K.length : Int) := by omega
     refine wp_region_t (V := VPutK w.heap.size B8 ak K.length ck k y A B wB wB.heap.size) (Ext wB) (fun i => if i = 0 then some 5 else if i = 5 then some 8 else if i = 7 then some 8 else if i = 8 then some 13 else none) [(8, 5), (13, 8), (13, 5)] 15 0 rfl (by decide) (by kernel_rfl) (by kernel_rfl) (by kernel_rfl) (by kernel_rfl) (Ext.refl wB).drew (fun r hr => absurd hr (Nat.not_lt_zero _)) ?_ ?_
     ·intro i o hi ho vz w4 hvl hE hd hrest; have hsz : wB.heap.size ≤ w4.heap.size := hE.size
      match vz, hvl with
      | [y0, y1, y2, y3, y4, y5, y6, y7, y8, y9, y10, y11, y12, y13, y14], _ =>
      rcases lc15 hi with rfl | rfl | rfl | rfl | rfl | rfl | rfl | rfl | rfl | rfl | rfl | rfl | rfl | rfl | rfl
      all_goals
       obtain rfl := Option.some.inj ho
      ·clear hd hrest; simp [putAll, Act.put]; go_wp2; exact OneC.mk (VPutK.ext) rfl ⟨_, rfl, hsz, heap_alloc_new w4 _⟩ (hE.alloc _) ((Ext.refl _).alloc _)
      ·clear hd hrest; simp [putAll, Act.put]; go_wp2; exact OneC.mk (VPutK.ext) rfl rfl hE (Ext.refl _)
      ·have q1 : y1 = .pointer (some ⟨w.heap.size, 6, none⟩) := hd ⟨1, .data⟩ (by simp) rfl (by decide); have c3 := cell_ext hE c3F; subst q1; clear hd hrest; simp [putAll, Act.put]; go_wp2; exact OneC.mk (VPutK.ext) rfl rfl hE (Ext.refl _)
      ·clear hd hrest; simp [putAll, Act.put]; go_wp2; exact OneC.mk (VPutK.ext) rfl rfl hE (Ext.refl _)
      ·have q2 : y2 = .slice ak K.length ck := hd ⟨2, .data⟩ (by simp) rfl (by decide); have q3 : y3 = .int .i64 k := hd ⟨3, .data⟩ (by simp) rfl (by decide); subst q2 q3; clear hd hrest
       rcases hshapeF with ⟨h1, h2, h3⟩ | ⟨ga, h1⟩
       ·first
        | (cases h1; done)
        | (cases h1; cases h2; cases h3
           obtain rfl : k = 0 := by simpa using hkl
           simp [putAll, Act.put]; go_wp2
           exact OneC.mk (VPutK.ext) rfl ⟨_, _, rfl, hrA⟩ hE (Ext.refl _))
       ·cases h1
        simp [putAll, Act.put]; go_wp2; exact OneC.mk (VPutK.ext) rfl ⟨_, _, rfl, hrA⟩ hE (Ext.refl _)
      ·obtain ⟨gq0, q0, hbq0, hgq0⟩ : ∃ g, y0 = .slice (some ⟨g, 0, none⟩) 0 0 ∧ wB.heap.size ≤ g ∧ w4.heap[g]? = some (.cells #[] 3) := hd ⟨0, .data⟩ (by simp) rfl (by decide); obtain ⟨aq1, cq1, q1, hrq1⟩ : ∃ a' c', y4 = .slice a' k c' ∧ Rd 1 encInt1 wB a' A := hd ⟨4, .data⟩ (by simp) rfl (by decide); have hr4 := Rd.ext hrq1 hE; subst q0 q1; clear hd hrest; simp [putAll, Act.put]; refine wpList_append_lit rfl _ _ 86 rfl wB.heap.size 3 _ 1 _ Tryz.underlying86 infoInt rfl (by decide) encInt1_len encInt1_one gq0 rfl hgq0 hbq0 aq1 (k) _ (A) rfl (HkA.out) hr4 (by omega) (by omega) hsz ?_; intro v9 w9 ho9 hE9; go_wp2; exact OneC.mk (VPutK.ext) rfl ho9 (hE.trans hE9) hE9
      ·clear hd hrest; simp [putAll, Act.put]; go_wp2; exact OneC.mk (VPutK.ext) rfl rfl hE (Ext.refl _)
      ·have q6 : y6 = .int .i64 y := hd ⟨6, .data⟩ (by simp) rfl (by decide); subst q6; clear hd hrest; simp [putAll, Act.put]; go_wp2; exact OneC.mk (VPutK.ext) rfl ⟨_, rfl, hsz, heap_alloc_new w4 _⟩ (hE.alloc _) ((Ext.refl _).alloc _)
      ·have q0 : w4.ownsRow wB.heap.size 3 1 y5 (A).length ((A).flatMap encInt1) := hd ⟨5, .data⟩ (by simp) rfl (by decide); obtain ⟨gq1, q1, hbq1, hgq1⟩ : ∃ g, y7 = .slice (some ⟨g, 0, none⟩) 1 1 ∧ wB.heap.size ≤ g ∧ w4.heap[g]? = some (.cells #[.int .i64 y] 3) := hd ⟨7, .data⟩ (by simp) rfl (by decide); have hrd : Rd 1 encInt1 w4 (some ⟨gq1, 0, none⟩) [y] := rd_lit [y] encInt1_len hgq1 rfl; subst q1; clear hd hrest; simp [putAll, Act.put]; refine wpList_append_rd rfl _ _ 86 rfl wB.heap.size 3 _ 1 _ Tryz.underlying86 infoInt rfl (by decide) encInt1_len encInt1_one _ (A).length (A) rfl q0 rfl (some ⟨gq1, 0, none⟩) 1 1 [y] rfl rfl hrd (by first | omega | (simp; omega)) (by omega) hsz ?_; intro v9 w9 ho9 hg9; have hE9 : Ext wB w9 := hE.grown hg9 (fun k h => (q0.lt k h).1); go_wp2; refine ⟨rfl, _, rfl, ho9, hE9, fun j u hj hne hcon hnd hnc hv => ?_⟩
       match j with
       | 0 => exact absurd (by decide) (hnc 5 rfl)
       | 1 => exact hv
       | 2 => exact hv
       | 3 => exact hv
       | 4 => exact hv
       | 5 => exact absurd rfl hcon
       | 6 => exact hv
       | 7 => exact absurd rfl hcon
       | 8 => exact absurd rfl hne
       | 9 => exact hv
       | 10 => exact hv
       | 11 => exact hv
       | 12 => exact hv
       | 13 => exact absurd (by decide) hnd
       | 14 => exact hv
       | (zz + 15) => trivial
      ·clear hd hrest; simp [putAll, Act.put]; go_wp2; exact OneC.mk (VPutK.ext) rfl rfl hE (Ext.refl _)
      ·have q9 : y9 = .pointer (some ⟨w.heap.size, 6, none⟩) := hd ⟨9, .data⟩ (by simp) rfl (by decide); have c3 := cell_ext hE c3F; subst q9; clear hd hrest; simp [putAll, Act.put]; go_wp2; exact OneC.mk (VPutK.ext) rfl rfl hE (Ext.refl _)
      ·clear hd hrest; simp [putAll, Act.put]; go_wp2; exact OneC.mk (VPutK.ext) rfl rfl hE (Ext.refl _)
      ·have q10 : y10 = .slice ak K.length ck := hd ⟨10, .data⟩ (by simp) rfl (by decide); have q11 : y11 = .int .i64 k := hd ⟨11, .data⟩ (by simp) rfl (by decide); subst q10 q11; clear hd hrest
       rcases hshapeF with ⟨h1, h2, h3⟩ | ⟨ga, h1⟩
       ·first
        | (cases h1; done)
        | (have hBn := HBn.out h1; clear HBn HBs; cases h1; cases h2; cases h3
           obtain rfl : k = 0 := by simpa using hkl
           simp [putAll, Act.put]; go_wp2
           exact OneC.mk (VPutK.ext) rfl ⟨none, 0, by simp, hBn⟩ hE (Ext.refl _))
       ·have hrB := HBs.out ga h1; clear HBn HBs
        cases h1
        by_cases hcm : ck = k
        ·have hBz : B = [] := List.eq_nil_of_length_eq_zero (by have := HkB.out; omega)
         have hrZ : ∀ a, Rd 1 encInt1 wB a B := fun a => by rw [hBz]; exact Rd.nil
         have hnz : K.length - k = 0 := by omega
         simp [putAll, Act.put]; go_wp2; refine OneC.mk (VPutK.ext) rfl ?_ hE (Ext.refl _); exact ⟨some ⟨_, 0, none⟩, 0, by rw [hnz], by first | exact hrZ _ | exact Rd.nil⟩
        ·simp [putAll, Act.put]; go_wp2; exact OneC.mk (VPutK.ext) rfl ⟨some ⟨_, k, none⟩, ck - k, by first | rfl | (simp; omega), by simpa using hrB⟩ hE (Ext.refl _)
      ·have q0 : w4.ownsRow wB.heap.size 3 1 y8 (A ++ [y]).length ((A ++ [y]).flatMap encInt1) := hd ⟨8, .data⟩ (by simp) rfl (by decide); obtain ⟨aq1, cq1, q1, hrq1⟩ : ∃ a' c', y12 = .slice a' (K.length - k) c' ∧ Rd 1 encInt1 wB a' B := hd ⟨12, .data⟩ (by simp) rfl (by decide); have hrd := Rd.ext hrq1 hE; subst q1; clear hd hrest; simp [putAll, Act.put]; refine wpList_append_rd rfl _ _ 86 rfl wB.heap.size 3 _ 1 _ Tryz.underlying86 infoInt rfl (by decide) encInt1_len encInt1_one _ (A ++ [y]).length (A ++ [y]) rfl q0 rfl aq1 ((K.length - k)) cq1 (B) rfl (HkB.out) hrd (by first | omega | (simp; omega)) (by omega) hsz ?_; intro v9 w9 ho9 hg9; have hE9 : Ext wB w9 := hE.grown hg9 (fun k h => (q0.lt k h).1); go_wp2; refine ⟨rfl, _, rfl, ho9, hE9, fun j u hj hne hcon hnd hnc hv => ?_⟩
       match j with
       | 0 => exact absurd (by decide) (hnc 5 rfl)
       | 1 => exact hv
       | 2 => exact hv
       | 3 => exact hv
       | 4 => exact hv
       | 5 => exact absurd (by decide) (hnc 8 rfl)
       | 6 => exact hv
       | 7 => exact absurd (by decide) (hnc 8 rfl)
       | 8 => exact absurd rfl hcon
       | 9 => exact hv
       | 10 => exact hv
       | 11 => exact hv
       | 12 => exact hv
       | 13 => exact absurd rfl hne
       | 14 => exact hv
       | (zz + 15) => trivial
      ·clear hd hrest; simp [putAll, Act.put]; go_wp2; exact OneC.mk (VPutK.ext) rfl rfl hE (Ext.refl _)
     ·intro vz wB2 hvl hE hV _
      match vz, hvl with
      | [y0, y1, y2, y3, y4, y5, y6, y7, y8, y9, y10, y11, y12, y13, y14], _ =>
       have o5 : wB2.ownsRow wB.heap.size 3 1 y13 (A ++ [y] ++ B).length ((A ++ [y] ++ B).flatMap encInt1) := hV 13 (by omega) rfl; have e14 : y14 = .pointer (some ⟨B8, 6, none⟩) := hV 14 (by omega) rfl; clear hV ic il hlc hLb hrA HBn HBs hshapeF c3F; subst e14; obtain ⟨GK, hGK⟩ : ∃ G, G = A ++ [y] ++ B := ⟨_, rfl⟩; rw [← hGK] at o5; have HGK : Hid (GK = K.take k ++ [y] ++ K.drop k) := hd0 (by rw [hGK, HAB.out.1, HAB.out.2]); obtain ⟨aK, cK, hv13, hcap13, _, _⟩ := view_owns encInt1_len o5; clear hGK HAB HkA HkB hA8 hB8 hcap13; subst hv13; replace S : Sep w wB2 [plRow 3 1 encInt1 (.slice aK GK.length cK) GK, plRow 9 1 encStr1 (.slice aN GN.length cN) GN, plBox B8 #[.bool f, .int .i64 o, .int .i64 g, .int .i64 m, .string t, .slice aN GN.length cN, .slice ak K.length ck] 89, plBox B6 #[.bool false, .int .i64 0, .int .i64 0, .int .i64 0, .string ⟨#[]⟩, .slice none 0 0, .slice none 0 0] 89, plBox w.heap.size #[.bool f, .int .i64 o, .int .i64 g, .int .i64 m, .string t, .slice an N.length cn, .slice ak K.length ck] 89] := (S.owned hE (Nat.le_refl _) o5); clear hE o5; simp only [putAll, Act.put, List.take_succ_cons, List.take_zero, List.drop_succ_cons, List.drop_zero]; simp; obtain ⟨⟨b8c0, b8f0⟩, ⟨b8c1, b8f1⟩, ⟨b8c2, b8f2⟩, ⟨b8c3, b8f3⟩, ⟨b8c4, b8f4⟩, ⟨b8c5, b8f5⟩, ⟨b8c6, b8f6⟩⟩ := bx7 (S.box 2 rfl)
       go_upto_region 7 with fail
       clear b8c0 b8f0 b8c1 b8f1 b8c2 b8f2 b8c3 b8f3 b8c4 b8f4 b8c5 b8f5 b8c6 b8f6; replace S : Sep w (wB2.setCell ⟨B8, 6, none⟩ (.slice aK GK.length cK)) [plRow 3 1 encInt1 (.slice aK GK.length cK) GK, plRow 9 1 encStr1 (.slice aN GN.length cN) GN, plBox B8 #[.bool f, .int .i64 o, .int .i64 g, .int .i64 m, .string t, .slice aN GN.length cN, .slice aK GK.length cK] 89, plBox B6 #[.bool false, .int .i64 0, .int .i64 0, .int .i64 0, .string ⟨#[]⟩, .slice none 0 0, .slice none 0 0] 89, plBox w.heap.size #[.bool f, .int .i64 o, .int .i64 g, .int .i64 m, .string t, .slice an N.length cn, .slice ak K.length ck] 89] := S.set 2 rfl 6 _; generalize (wB2.setCell ⟨B8, 6, none⟩ (.slice aK GK.length cK)) = wC at *; obtain ⟨⟨b8c0, b8f0⟩, ⟨b8c1, b8f1⟩, ⟨b8c2, b8f2⟩, ⟨b8c3, b8f3⟩, ⟨b8c4, b8f4⟩, ⟨b8c5, b8f5⟩, ⟨b8c6, b8f6⟩⟩ := bx7 (S.box 2 rfl); obtain ⟨⟨b6c0, b6f0⟩, ⟨b6c1, b6f1⟩, ⟨b6c2, b6f2⟩, ⟨b6c3, b6f3⟩, ⟨b6c4, b6f4⟩, ⟨b6c5, b6f5⟩, ⟨b6c6, b6f6⟩⟩ := bx7 (S.box 3 rfl); clear hkl i0; go_wp2; clear b8c0 b8f0 b8c1 b8f1 b8c2 b8f2 b8c3 b8f3 b8c4 b8f4 b8c5 b8f5 b8c6 b8f6 b6c0 b6f0 b6c1 b6f1 b6c2 b6f2 b6c3 b6f3 b6c4 b6f4 b6c5 b6f5 b6c6 b6f6; replace S : Sep w (((((((wC.setCell ⟨B6, 0, none⟩ (.bool f)).setCell ⟨B6, 1, none⟩ (.int .i64 o)).setCell ⟨B6, 2, none⟩ (.int .i64 g)).setCell ⟨B6, 3, none⟩ (.int .i64 m)).setCell ⟨B6, 4, none⟩ (.string t)).setCell ⟨B6, 5, none⟩ (.slice aN GN.length cN)).setCell ⟨B6, 6, none⟩ (.slice aK GK.length cK)) [plRow 3 1 encInt1 (.slice aK GK.length cK) GK, plRow 9 1 encStr1 (.slice aN GN.length cN) GN, plBox B8 #[.bool f, .int .i64 o, .int .i64 g, .int .i64 m, .string t, .slice aN GN.length cN, .slice aK GK.length cK] 89, plBox B6 #[.bool f, .int .i64 o, .int .i64 g, .int .i64 m, .string t, .slice aN GN.length cN, .slice aK GK.length cK] 89, plBox w.heap.size #[.bool f, .int .i64 o, .int .i64 g, .int .i64 m, .string t, .slice an N.length cn, .slice ak K.length ck] 89] := ((((((S.set 3 rfl 0 _).set 3 rfl 1 _).set 3 rfl 2 _).set 3 rfl 3 _).set 3 rfl 4 _).set 3 rfl 5 _).set 3 rfl 6 _; generalize (((((((wC.setCell ⟨B6, 0, none⟩ (.bool f)).setCell ⟨B6, 1, none⟩ (.int .i64 o)).setCell ⟨B6, 2, none⟩ (.int .i64 g)).setCell ⟨B6, 3, none⟩ (.int .i64 m)).setCell ⟨B6, 4, none⟩ (.string t)).setCell ⟨B6, 5, none⟩ (.slice aN GN.length cN)).setCell ⟨B6, 6, none⟩ (.slice aK GK.length cK)) = wD at *; have HF : Hid (putNd ⟨f, o, g, m, t, N, K⟩ s y = ⟨f, o, g, m, t, GN, GK⟩) := hd0 (by rw [HPut.out, HN.out, HGN.out, HGK.out]); obtain ⟨⟨b6c0, b6f0⟩, ⟨b6c1, b6f1⟩, ⟨b6c2, b6f2⟩, ⟨b6c3, b6f3⟩, ⟨b6c4, b6f4⟩, ⟨b6c5, b6f5⟩, ⟨b6c6, b6f6⟩⟩ := bx7 (S.box 3 rfl); refine bodyPost_ret (v := ndV ⟨f, o, g, m, t, GN, GK⟩ aN cN aK cK) (by simp [results, Tryz.results69, go_sem, b6c0, b6c1, b6c2, b6c3, b6c4, b6c5, b6c6]) rfl ?_; rw [HF.out]; replace S : Sep w wD [plRow 3 1 encInt1 (.slice aK GK.length cK) GK, plRow 9 1 encStr1 (.slice aN GN.length cN) GN] := ((S.drop 2).drop 2).drop 2; exact ⟨aN, cN, aK, cK, rfl, S⟩
section
variable {β α : Type} {e nf : Nat} {enc : β → List Value} {P : Pin β α} {M : Nat → Prop} {w0 w w' : World} {H : List Pl}
theorem SepM.gPush (S : SepM M w0 w H) (i j : Nat) {u u' : Value} {vs : List β} {T : List α} {s : β} {t : α} {base : Nat} (hi : H[i]? = some (plG e nf enc P u vs T)) (hj : H[j]? = some (P.one s t)) (hij : i ≠ j)
  (hg : w.grownBy w' u.ownBlock) (ho : w'.ownsRow base e nf u' (vs ++ [s]).length ((vs ++ [s]).flatMap enc)) (hblk : ∀ b, u'.ownBlock = some b → u.ownBlock = some b ∨ w.heap.size ≤ b) :
  SepM M w0 w' ((H.set i (plG e nf enc P u' (vs ++ [s]) (T ++ [t]))).eraseIdx j) := by
 obtain ⟨h1, h2, h3, h4, h5⟩ := S.at_ i hi; have hjm := List.mem_of_getElem? hj
 have hnew : ∀ b, P.own s b → ¬ (plG e nf enc P u vs T).own b := fun b hb => S.ne hj hi (fun e => hij e.symm) hb
 have hlt : ∀ b, P.own s b → b < w.heap.size := fun b hb => (S.lt hjm (show (P.one s t).own b from hb)).2
 have hltv : ∀ s' ∈ vs, ∀ b, P.own s' b → b < w.heap.size := fun s' hs' b hb => (S.lt (List.mem_of_getElem? hi) (show (plG e nf enc P u vs T).own b from .inr ⟨s', hs', hb⟩)).2
 refine S.fuse i j hi hj hij ((Chg.of_grown hg).mono (fun b hb _ => .inl hb)) (fun hr => ⟨ownsRow_base ho (Nat.zero_le _), by simp [h2], fun k s2 t2 hs2 ht2 => ?_, fun s2 hs2 b hb hb2 => ?_, fun k l s2 s3 hkl hs2 hs3 b hb hb3 => ?_⟩) (fun b hb => ?_)
 ·by_cases hk : k < vs.length
  ·rw [List.getElem?_append_left hk] at hs2; rw [List.getElem?_append_left (by omega)] at ht2; have h6 := h3 k s2 t2 hs2 ht2; exact P.frame s2 t2 w w' h6 (fun b hb => (Chg.of_grown hg).block b (hltv s2 (List.mem_of_getElem? hs2) b hb) (fun e => h4 s2 (List.mem_of_getElem? hs2) b hb e))
  ·have hkl := (List.getElem?_eq_some_iff.1 hs2).1; simp only [List.length_append, List.length_singleton] at hkl
   have e : k = vs.length := by omega
   subst e; rw [List.getElem?_append_right (Nat.le_refl _), Nat.sub_self] at hs2; rw [h2, List.getElem?_append_right (Nat.le_refl _), Nat.sub_self] at ht2; simp only [List.getElem?_cons_zero, Option.some.injEq] at hs2 ht2; subst hs2 ht2; exact hr
 ·rcases List.mem_append.1 hs2 with hs2 | hs2
  ·rcases hblk b hb2 with h | h
   ·exact h4 s2 hs2 b hb h
   ·have := hltv s2 hs2 b hb; omega
  ·rw [List.mem_singleton.1 hs2] at hb
   rcases hblk b hb2 with h | h
   ·exact hnew b hb (.inl h)
   ·have := hlt b hb; omega
 ·have hk2 := (List.getElem?_eq_some_iff.1 hs2).1; have hl2 := (List.getElem?_eq_some_iff.1 hs3).1; simp only [List.length_append, List.length_singleton] at hk2 hl2
  by_cases hk : k < vs.length
  ·rw [List.getElem?_append_left hk] at hs2
   by_cases hl : l < vs.length
   ·rw [List.getElem?_append_left hl] at hs3; exact h5 k l s2 s3 hkl hs2 hs3 b hb hb3
   ·rw [List.getElem?_append_right (by omega), show l - vs.length = 0 by omega] at hs3; simp only [List.getElem?_cons_zero, Option.some.injEq] at hs3; subst hs3; exact hnew b hb3 (.inr ⟨s2, List.mem_of_getElem? hs2, hb⟩)
  ·rw [List.getElem?_append_right (by omega), show k - vs.length = 0 by omega] at hs2; simp only [List.getElem?_cons_zero, Option.some.injEq] at hs2; subst hs2; rw [List.getElem?_append_left (by omega)] at hs3; exact hnew b hb (.inr ⟨s3, List.mem_of_getElem? hs3, hb3⟩)
 ·rcases hb with hb | ⟨s2, hs2, hb⟩
  ·rcases hblk b hb with h | h
   ·exact .inl (.inl h)
   ·exact .inr (.inr h)
  ·rcases List.mem_append.1 hs2 with hs2 | hs2
   ·exact .inl (.inr ⟨s2, hs2, hb⟩)
   ·rw [List.mem_singleton.1 hs2] at hb; exact .inr (.inl hb)
theorem SepM.gPure (S : SepM M w0 w H) (i : Nat) {u : Value} {vs : List β} {T : List α} (h : H[i]? = some (plRow e nf enc u vs)) (hl : vs.length = T.length) (hok : ∀ (k : Nat) (s : β) (t : α), vs[k]? = some s → T[k]? = some t → P.ok s t w) (hno : ∀ s ∈ vs, ∀ b, ¬ P.own s b) :
  SepM M w0 w (H.set i (plG e nf enc P u vs T)) :=
 S.put i h (Chg.refl _ w) ⟨S.at_ i h, hl, hok, fun s hs b hb => absurd hb (hno s hs b), fun k l s s' _ hs _ b hb => absurd hb (hno s (List.mem_of_getElem? hs) b)⟩ (fun b hb => by
  rcases hb with hb | ⟨s, hs, hb⟩
  ·exact .inl hb
  ·exact absurd hb (hno s hs b))
end
theorem root_pin (n : Nd) (hN : n.N = []) (hK : n.K = []) (w : World) : pinNd.ok ⟨n, none, 0, none, 0⟩ n w := by
 obtain ⟨f, o, g, m, t, N, K⟩ := n; subst hN hK; exact ⟨rfl, World.ownsRow_nil _ _ _ _, World.ownsRow_nil _ _ _ _, fun b hb => by cases hb⟩
theorem root_own (n : Nd) (b : Nat) : ¬ pinNd.own ⟨n, none, 0, none, 0⟩ b := fun h => h.elim (fun h => by cases h) (fun h => by cases h)
end Go.Proofs.YtnibbldfohbfkaaGreatDoor
