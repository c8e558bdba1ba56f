/- General lemmas for the walks of this seat: read-only views of slices, what a call owns, worlds that only grow. No condition. -/
import Derived.WalkKit
import Derived.WalkSpells
import Derived.WalkLawsBesides
import Derived.BigQuiet
import Derived.Deep.QuietTactic
import Derived.Lib.Hide
import Derived.StillTailTactics
import Derived.Deep.DeepFit
namespace Go.Proofs.Ytnibbldfohbfkaa
open Go.RowKit

theorem ret_bool {a b : Bool} (h : a = b) : Ending.returned (.bool a) = .returned (.bool b) := by rw [h]
theorem ret_int {k : IntKind} {a b : Int} (h : a = b) : Ending.returned (.int k a) = .returned (.int k b) := by rw [h]

/-- The world has only grown. -/
abbrev Ext (w w' : World) : Prop := Below w.heap.size w w'
theorem Ext.refl (w : World) : Ext w w := Below.refl _ _
theorem Ext.trans {a b c : World} (h : Ext a b) (k : Ext b c) : Ext a c := Below.trans h (k.mono h.size)
theorem Ext.alloc {a w : World} (h : Ext a w) (o : Obj) : Ext a (w.alloc o) := Below.alloc h h.size o
theorem Ext.drew {a w : World} (h : Ext a w) : Ext a w.drew := Below.drew h
theorem Ext.drewN {a w : World} (h : Ext a w) (n : Nat) : Ext a (w.drewN n) := ⟨h.os, h.tape, h.output, h.size, h.block⟩
theorem Ext.setCell {a w : World} (h : Ext a w) {p : Addr} (hp : a.heap.size ≤ p.block) (u : Value) : Ext a (w.setCell p u) := Below.setCell h hp u
theorem Ext.grown {a w w' : World} {row : Option Nat} (h : Ext a w) (hg : w.grownBy w' row) (hr : ∀ k, row = some k → a.heap.size ≤ k) : Ext a w' := Below.grown h hg h.size hr
theorem ext_of_grown {w w' : World} (hg : w.grownBy w' none) : Ext w w' := (Ext.refl w).grown hg (by intro k h; cases h)
theorem grown_of_ext {w w' : World} (h : Ext w w') (row : Option Nat) : w.grownBy w' row := ⟨h.os, h.tape, h.output, h.size, fun k hk _ => h.block k hk⟩

/-- Old cells and marks read as before. -/
theorem bcell {W w1 : World} (hb : Ext W w1) : (∀ b o, b < W.heap.size → w1.cell? ⟨b, o, none⟩ = W.cell? ⟨b, o, none⟩) ∧ (∀ b o, b < W.heap.size → w1.frozen? ⟨b, o, none⟩ = W.frozen? ⟨b, o, none⟩) :=
  ⟨fun b o h => hb.cell (p := ⟨b, o, none⟩) h, fun b o h => hb.frozen (p := ⟨b, o, none⟩) h⟩

theorem cell_ext {W w1 : World} (hb : Ext W w1) {b o : Nat} {v : Value} (h : W.cell? ⟨b, o, none⟩ = some v) : w1.cell? ⟨b, o, none⟩ = some v := by
  have := World.block_lt_of_cell? W ⟨b, o, none⟩ h
  rw [hb.cell (p := ⟨b, o, none⟩) this]; exact h

/-- It returns a bool that says whether P holds; the world has only grown. -/
def RetB (P : Prop) (w : World) (e : Ending) (w' : World) : Prop := ∃ b, e = .returned (.bool b) ∧ (b = true ↔ P) ∧ Ext w w'
theorem RetB.mk {P : Prop} {w w' : World} {v : Value} (b : Bool) (hv : v = .bool b) (h : b = true ↔ P) (hw : Ext w w') : RetB P w (.returned v) w' := ⟨b, by rw [hv], h, hw⟩
/-- It returns a value that fits Q with the world that it leaves; the world has only grown. -/
def RetV (Q : Value → World → Prop) (w : World) (e : Ending) (w' : World) : Prop := ∃ v, e = .returned v ∧ Q v w' ∧ Ext w w'
theorem RetV.mk {Q : Value → World → Prop} {w w' : World} {v : Value} (h : Q v w') (hw : Ext w w') : RetV Q w (.returned v) w' := ⟨v, rfl, h, hw⟩

/-- It returns what is left, or -1; where it is not negative, P holds. -/
def RetSz (left : Int) (P : Unit → Prop) (w : World) (e : Ending) (w' : World) : Prop := ∃ r : Int, e = .returned (.int .i64 r) ∧ -1 ≤ r ∧ r ≤ left ∧ (0 ≤ r → P ()) ∧ Ext w w'
theorem RetSz.mk {left : Int} {P : Unit → Prop} {w w' : World} {v : Value} {r : Int} (hv : v = .int .i64 r) (h1 : -1 ≤ r) (h2 : r ≤ left) (h3 : 0 ≤ r → P ()) (hw : Ext w w') : RetSz left P w (.returned v) w' := ⟨r, by rw [hv], h1, h2, h3, hw⟩
/-- It returns a number; the world has only grown. -/
def RetI (n : Int) (w : World) (e : Ending) (w' : World) : Prop := e = .returned (.int .i64 n) ∧ Ext w w'
theorem RetI.mk {n m : Int} {w w' : World} {v : Value} (hv : v = .int .i64 n) (hw : Ext w w') (h : n = m := by omega) : RetI m w (.returned v) w' := ⟨by rw [hv, h], hw⟩
/-- It returns a number; one block was written, nothing else but new memory. -/
def RetMark (n : Int) (Q : World → Prop) (row : Option Nat) (w : World) (e : Ending) (w' : World) : Prop := e = .returned (.int .i64 n) ∧ Q w' ∧ w.grownBy w' row
theorem RetMark.mk {n m : Int} {Q : World → Prop} {row : Option Nat} {w w' : World} {v : Value} (hv : v = .int .i64 n) (hq : Q w') (hw : w.grownBy w' row) (h : n = m := by omega) : RetMark m Q row w (.returned v) w' := ⟨by rw [hv, h], hq, hw⟩

/-- It returns a list in new memory and a bool that fit R; the world has only grown. -/
def RetSB {α : Type} (E nf : Nat) (enc : α → List Value) (R : List α → Bool → Prop) (w : World) (e : Ending) (w' : World) : Prop :=
  ∃ v L ok, e = .returned (.tuple #[v, .bool ok]) ∧ R L ok ∧ w'.ownsRow w.heap.size E nf v L.length (L.flatMap enc) ∧ Ext w w'
theorem RetSB.mk {α : Type} {E nf : Nat} {enc : α → List Value} {R : List α → Bool → Prop} {w w' : World} {v u : Value} {L : List α} {ok : Bool} (hu : u = .bool ok) (hR : R L ok)
    (ho : w'.ownsRow w.heap.size E nf v L.length (L.flatMap enc)) (hw : Ext w w') : RetSB E nf enc R w (.returned (.tuple #[v, u])) w' := ⟨v, L, ok, by rw [hu], hR, ho, hw⟩

theorem bytes_eq {a b : ByteArray} : a.toList = b.toList ↔ a = b := by
  rw [ByteArray.toList_eq, ByteArray.toList_eq]
  obtain ⟨⟨x⟩⟩ := a
  obtain ⟨⟨y⟩⟩ := b
  simp

section rd
variable {α : Type}

/-- A read-only view: at address a lie the elements of l, nf cells each, spelled by enc. -/
def Rd (nf : Nat) (enc : α → List Value) (w : World) (a : Option Addr) (l : List α) : Prop :=
  ∀ i, (h : i < l.length) → ∃ b off, a = some ⟨b, off, none⟩ ∧ ∀ j u, (enc l[i])[j]? = some u → w.cell? ⟨b, off + i * nf + j, none⟩ = some u

theorem Rd.ext {nf : Nat} {enc : α → List Value} {w w' : World} {a : Option Addr} {l : List α} (h : Rd nf enc w a l) (hb : Ext w w') : Rd nf enc w' a l := by
  intro i hi
  obtain ⟨b, off, ha, hc⟩ := h i hi
  exact ⟨b, off, ha, fun j u hu => cell_ext hb (hc j u hu)⟩

theorem flatMap_length {enc : α → List Value} {nf : Nat} (hn : ∀ x, (enc x).length = nf) (l : List α) : (l.flatMap enc).length = l.length * nf := by
  induction l with
  | nil => simp
  | cons x l ih => simp [hn, ih, Nat.add_mul]; omega

theorem flatMap_at {enc : α → List Value} {nf : Nat} (hn : ∀ x, (enc x).length = nf) (l : List α) (i j : Nat) (hj : j < nf) : (l.flatMap enc)[i * nf + j]? = (l[i]?).bind (fun x => (enc x)[j]?) := by
  induction l generalizing i with
  | nil => simp
  | cons x l ih =>
    cases i with
    | zero => simp [List.getElem?_append, hn, hj]
    | succ i =>
      have e : (i + 1) * nf + j = nf + (i * nf + j) := by rw [Nat.add_mul]; omega
      rw [e, List.flatMap_cons, List.getElem?_append_right (by rw [hn]; omega), hn]
      have e2 : nf + (i * nf + j) - nf = i * nf + j := by omega
      rw [e2, ih i]
      simp

theorem flatMap_set {enc : α → List Value} {nf : Nat} (hn : ∀ x, (enc x).length = nf) (l : List α) (k j : Nat) (u : Value) (x' : α) (hk : k < l.length) (hj : j < nf) (hx : enc x' = (enc l[k]).set j u) :
    (l.flatMap enc).set (k * nf + j) u = (l.set k x').flatMap enc := by
  induction l generalizing k with
  | nil => simp at hk
  | cons x l ih =>
    cases k with
    | zero =>
      simp only [List.getElem_cons_zero] at hx
      simp [List.set_append, hn, hj, hx]
    | succ k =>
      simp only [List.getElem_cons_succ] at hx
      have e : (k + 1) * nf + j = nf + (k * nf + j) := by rw [Nat.add_mul]; omega
      have e2 : nf + (k * nf + j) - nf = k * nf + j := by omega
      have e3 : ¬ nf + (k * nf + j) < nf := by omega
      rw [e, List.flatMap_cons, List.set_append, hn, if_neg e3, e2, ih k (by simpa using hk) hx]
      simp

/-- What is owned can be read. -/
theorem rd_of_owns {w : World} {base e nf : Nat} {enc : α → List Value} (hn : ∀ x, (enc x).length = nf) {v : Value} {l : List α} {n : Nat} (h : w.ownsRow base e nf v n (l.flatMap enc)) (hl : n = l.length) :
    ∃ a cap, v = .slice a l.length cap ∧ Rd nf enc w a l := by
  subst hl
  rcases h.2 with ⟨rfl, h0⟩ | ⟨g, cap, cur, rfl, _, hg, _, _, _, htake⟩
  · refine ⟨none, 0, by rw [h0], fun i hi => by omega⟩
  · refine ⟨_, cap, rfl, fun i hi => ⟨g, 0, rfl, fun j u hu => ?_⟩⟩
    have hj : j < nf := by
      have := (List.getElem?_eq_some_iff.1 hu).1
      rwa [hn] at this
    have hlt : i * nf + j < l.length * nf := by
      have : (i + 1) * nf ≤ l.length * nf := Nat.mul_le_mul_right _ hi
      rw [Nat.add_mul] at this; omega
    rw [Nat.zero_add, cell_of_row w g _ cur e (0, 0) hg]
    have h2 := flatMap_at hn l i j hj
    rw [List.getElem?_eq_getElem hi, Option.bind_some, hu, ← htake, List.getElem?_take, if_pos hlt] at h2
    simpa using h2
theorem rd_owns {w : World} {base e nf : Nat} {enc : α → List Value} (hn : ∀ x, (enc x).length = nf) {a : Option Addr} {cap : Nat} {l : List α} {n : Nat} (h : w.ownsRow base e nf (.slice a n cap) n (l.flatMap enc)) (hl : n = l.length) : Rd nf enc w a l := by
  obtain ⟨a', cap', hv, hr⟩ := rd_of_owns hn h hl
  simp only [Value.slice.injEq] at hv
  rw [hv.1]
  exact hr

/-- The cells of one element of what is owned, and that they may be written. -/
theorem owns_at {w : World} {base e nf : Nat} {enc : α → List Value} (hn : ∀ x, (enc x).length = nf) {g n cap : Nat} {L : List α} (h : w.ownsRow base e nf (.slice (some ⟨g, 0, none⟩) n cap) n (L.flatMap enc)) (k : Nat) (hk : k < L.length) :
    ∀ j u, (enc L[k])[j]? = some u → w.cell? ⟨g, k * nf + j, none⟩ = some u := by
  intro j u hu
  have hj : j < nf := by
    have := (List.getElem?_eq_some_iff.1 hu).1
    rwa [hn] at this
  have hlen := h.1
  rw [flatMap_length hn] at hlen
  have hlt : k * nf + j < n * nf := by
    have : (k + 1) * nf ≤ L.length * nf := Nat.mul_le_mul_right _ hk
    rw [Nat.add_mul] at this; omega
  rw [h.cellAt _ hlt, flatMap_at hn L k j hj, List.getElem?_eq_getElem hk, Option.bind_some, hu]

/-- One field of one element is written. -/
theorem owns_set {w : World} {base e nf : Nat} {enc : α → List Value} (hn : ∀ x, (enc x).length = nf) {g n cap : Nat} {L : List α} (h : w.ownsRow base e nf (.slice (some ⟨g, 0, none⟩) n cap) n (L.flatMap enc)) (k j : Nat) (u : Value) (x' : α) (hk : k < L.length) (hj : j < nf) (hx : enc x' = (enc L[k]).set j u) :
    (w.setCell ⟨g, k * nf + j, none⟩ u).ownsRow base e nf (.slice (some ⟨g, 0, none⟩) n cap) n ((L.set k x').flatMap enc) := by
  have := (h.stored (k * nf + j) u).1
  rwa [flatMap_set hn L k j u x' hk hj hx] at this

def setAll (xs : List Value) (p : Nat) : List Value → List Value
  | [] => xs
  | u :: us => setAll (xs.set p u) (p + 1) us
theorem setAll_at (us : List Value) : ∀ (xs : List Value) (p i : Nat), p + us.length ≤ xs.length → (setAll xs p us)[i]? = if p ≤ i ∧ i < p + us.length then us[i - p]? else xs[i]? := by
  induction us with
  | nil => intro xs p i _; simp [setAll]; omega
  | cons u us ih =>
    intro xs p i h
    simp only [List.length_cons] at h
    rw [setAll, ih _ _ _ (by simp; omega)]
    by_cases h1 : p + 1 ≤ i ∧ i < p + 1 + us.length
    · rw [if_pos h1, if_pos (by simp; omega), show i - p = (i - (p + 1)) + 1 by omega, List.getElem?_cons_succ]
    · rw [if_neg h1]
      by_cases h2 : i = p
      · subst h2
        rw [if_pos (by simp), List.getElem?_set_self (by omega)]; simp
      · rw [if_neg (by simp; omega), List.getElem?_set_ne (by omega)]
theorem flatMap_setAll {enc : α → List Value} {nf : Nat} (hn : ∀ x, (enc x).length = nf) (l : List α) (k : Nat) (x : α) (hk : k < l.length) : setAll (l.flatMap enc) (k * nf) (enc x) = (l.set k x).flatMap enc := by
  apply List.ext_getElem?
  intro i
  have hb : k * nf + nf ≤ l.length * nf := by
    have : (k + 1) * nf ≤ l.length * nf := Nat.mul_le_mul_right _ hk
    rw [Nat.add_mul] at this; omega
  rw [setAll_at _ _ _ _ (by rw [hn, flatMap_length hn]; exact hb), hn]
  by_cases h0 : nf = 0
  · subst h0
    have e1 : l.flatMap enc = [] := List.eq_nil_of_length_eq_zero (by rw [flatMap_length hn]; simp)
    have e2 : (l.set k x).flatMap enc = [] := List.eq_nil_of_length_eq_zero (by rw [flatMap_length hn]; simp)
    rw [if_neg (by omega), e1, e2]
  have hp : 0 < nf := by omega
  have e : i = i / nf * nf + i % nf := by rw [Nat.mul_comm]; exact (Nat.div_add_mod i nf).symm
  have hm := Nat.mod_lt i hp
  by_cases hd : i / nf = k
  · have e' : i = k * nf + i % nf := by rw [← hd]; exact e
    have r1 : (if k * nf ≤ i ∧ i < k * nf + nf then (enc x)[i - k * nf]? else (l.flatMap enc)[i]?) = (enc x)[i % nf]? := by
      rw [if_pos (by omega), show i - k * nf = i % nf by omega]
    rw [r1]
    have r2 : ((l.set k x).flatMap enc)[i]? = ((l.set k x).flatMap enc)[k * nf + i % nf]? := by rw [← e']
    rw [r2, flatMap_at hn _ _ _ hm, List.getElem?_set_self hk, Option.bind_some]
  · have r1 : ¬ (k * nf ≤ i ∧ i < k * nf + nf) := by
      rintro ⟨a1, a2⟩
      apply hd
      exact (Nat.div_eq_iff hp).2 ⟨by omega, by omega⟩
    rw [if_neg r1]
    have r2 : (l.flatMap enc)[i]? = (l.flatMap enc)[i / nf * nf + i % nf]? := by rw [← e]
    have r3 : ((l.set k x).flatMap enc)[i]? = ((l.set k x).flatMap enc)[i / nf * nf + i % nf]? := by rw [← e]
    rw [r2, r3, flatMap_at hn _ _ _ hm, flatMap_at hn _ _ _ hm, List.getElem?_set_ne (by omega)]

def setCells (w : World) (g p : Nat) : List Value → World
  | [] => w
  | u :: us => setCells (w.setCell ⟨g, p, none⟩ u) g (p + 1) us
theorem owns_setCells {base e nf g n cap : Nat} (us : List Value) : ∀ {w : World} {xs : List Value} (p : Nat), w.ownsRow base e nf (.slice (some ⟨g, 0, none⟩) n cap) n xs → (setCells w g p us).ownsRow base e nf (.slice (some ⟨g, 0, none⟩) n cap) n (setAll xs p us) := by
  induction us with
  | nil => intro w xs p h; exact h
  | cons u us ih => intro w xs p h; exact ih (p + 1) (h.stored p u).1
/-- One whole element is written. -/
theorem owns_put {w : World} {base e nf : Nat} {enc : α → List Value} (hn : ∀ x, (enc x).length = nf) {g n cap : Nat} {L : List α} (h : w.ownsRow base e nf (.slice (some ⟨g, 0, none⟩) n cap) n (L.flatMap enc)) (k : Nat) (x : α) (hk : k < L.length) :
    (setCells w g (k * nf) (enc x)).ownsRow base e nf (.slice (some ⟨g, 0, none⟩) n cap) n ((L.set k x).flatMap enc) := by
  have := owns_setCells (enc x) (k * nf) h
  rwa [flatMap_setAll hn L k x hk] at this
end rd

theorem grown_setCell {a w : World} {g p : Nat} (h : a.grownBy w (some g)) (u : Value) : a.grownBy (w.setCell ⟨g, p, none⟩ u) (some g) :=
  ⟨h.os, h.tape, h.output, by simpa [World.setCell] using h.size, fun k hk hne => (Below.heap_setCell _ _ _ _ (by intro e; exact hne (by rw [e]))).trans (h.block k hk hne)⟩
theorem grown_setCells {a : World} {g : Nat} (us : List Value) : ∀ {w : World} (p : Nat), a.grownBy w (some g) → a.grownBy (setCells w g p us) (some g) := by
  induction us with
  | nil => intro w p h; exact h
  | cons u us ih => intro w p h; exact ih (p + 1) (grown_setCell h u)
theorem grown_ext {a w w' : World} {row : Option Nat} (h : a.grownBy w row) (hE : Ext w w') : a.grownBy w' row :=
  ⟨hE.os.trans h.os, hE.tape.trans h.tape, hE.output.trans h.output, Nat.le_trans h.size hE.size, fun k hk hne => (hE.block k (Nat.lt_of_lt_of_le hk h.size)).trans (h.block k hk hne)⟩
theorem grown_trans {a w w' : World} {row : Option Nat} (h : a.grownBy w row) (hE : w.grownBy w' row) : a.grownBy w' row :=
  ⟨hE.os.trans h.os, hE.tape.trans h.tape, hE.output.trans h.output, Nat.le_trans h.size hE.size, fun k hk hne => (hE.block k (Nat.lt_of_lt_of_le hk h.size) hne).trans (h.block k hk hne)⟩
theorem Ext.setCells {a : World} {g : Nat} (hg : a.heap.size ≤ g) (us : List Value) : ∀ {w : World} (p : Nat), Ext a w → Ext a (setCells w g p us) := by
  induction us with
  | nil => intro w p h; exact h
  | cons u us ih => intro w p h; exact ih (p + 1) (h.setCell hg u)

theorem ownsRow_ext {w w' : World} {base e nf : Nat} {v : Value} {n : Nat} {xs : List Value} (h : w.ownsRow base e nf v n xs) (hb : Ext w w') : w'.ownsRow base e nf v n xs :=
  h.kept (row := none) (grown_of_ext hb none) (by cases v.ownBlock <;> simp)

/-- What values are good for, behind names that the walk does not open. -/
def OwnV {α : Type} (base E nf : Nat) (enc : α → List Value) (l : List α) (v : Value) (w : World) : Prop := ∃ g c, v = .slice g l.length c ∧ w.ownsRow base E nf (.slice g l.length c) l.length (l.flatMap enc)
theorem OwnV.ext {α : Type} {base E nf : Nat} {enc : α → List Value} {l : List α} {v : Value} {w w' : World} (h : OwnV base E nf enc l v w) (hE : Ext w w') : OwnV base E nf enc l v w' := by
  obtain ⟨g, c, h1, h2⟩ := h
  exact ⟨g, c, h1, ownsRow_ext h2 hE⟩
def PostSB {α : Type} (base E nf : Nat) (enc : α → List Value) (R : List α → Bool → Prop) (v : Value) (w : World) : Prop := ∃ u L ok, v = .tuple #[u, .bool ok] ∧ R L ok ∧ w.ownsRow base E nf u L.length (L.flatMap enc)
theorem PostSB.ext {α : Type} {base E nf : Nat} {enc : α → List Value} {R : List α → Bool → Prop} {v : Value} {w w' : World} (h : PostSB base E nf enc R v w) (hE : Ext w w') : PostSB base E nf enc R v w' := by
  obtain ⟨u, L, ok, h1, h2, h3⟩ := h
  exact ⟨u, L, ok, h1, h2, ownsRow_ext h3 hE⟩
def OneS {α : Type} (base E nf : Nat) (enc : α → List Value) (R : List α → Bool → Prop) (v : Value) (w : World) : Prop := ∃ L, (∃ ok, R L ok) ∧ w.ownsRow base E nf v L.length (L.flatMap enc)
theorem OneS.ext {α : Type} {base E nf : Nat} {enc : α → List Value} {R : List α → Bool → Prop} {v : Value} {w w' : World} (h : OneS base E nf enc R v w) (hE : Ext w w') : OneS base E nf enc R v w' := by
  obtain ⟨L, h1, h2⟩ := h
  exact ⟨L, h1, ownsRow_ext h2 hE⟩
def OneB {α : Type} (R : List α → Bool → Prop) (v : Value) : Prop := ∃ ok, v = .bool ok ∧ ∃ L, R L ok
def PostI (R : Int → Prop) (v : Value) : Prop := ∃ n, v = .int .i64 n ∧ R n

theorem ownsRow_base {w : World} {base base' e nf : Nat} {v : Value} {n : Nat} {xs : List Value} (h : w.ownsRow base e nf v n xs) (hb : base' ≤ base) : w.ownsRow base' e nf v n xs := by
  refine ⟨h.1, ?_⟩
  rcases h.2 with h2 | ⟨g, cap, cur, hv, hg, r⟩
  · exact .inl h2
  · exact .inr ⟨g, cap, cur, hv, Nat.le_trans hb hg, r⟩

end Go.Proofs.Ytnibbldfohbfkaa
