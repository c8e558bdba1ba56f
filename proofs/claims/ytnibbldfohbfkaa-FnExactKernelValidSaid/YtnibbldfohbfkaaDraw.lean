/- What the laws' own draws stand on: a reader of a code, whose place moves on; worlds in which nothing but it and new memory changes. No condition. -/
import Derived.Test.YtnibbldfohbfkaaBase
namespace Go.Proofs.Ytnibbldfohbfkaa
open Go.RowKit

def encU8 (x : Int) : List Value := [.int .u8 x]
theorem encU8_len (x : Int) : (encU8 x).length = 1 := rfl

/-- Nothing but block g has changed, and new memory. -/
def Step (g : Nat) (w w' : World) : Prop := w.grownBy w' (some g)
theorem Step.refl (g : Nat) (w : World) : Step g w w := ⟨rfl, rfl, rfl, Nat.le_refl _, fun _ _ _ => rfl⟩
theorem Step.size {g : Nat} {w w' : World} (h : Step g w w') : w.heap.size ≤ w'.heap.size := World.grownBy.size h
theorem Step.trans {g : Nat} {a b c : World} (h : Step g a b) (k : Step g b c) : Step g a c :=
  ⟨(World.grownBy.os k).trans (World.grownBy.os h), (World.grownBy.tape k).trans (World.grownBy.tape h), (World.grownBy.output k).trans (World.grownBy.output h), Nat.le_trans h.size k.size,
    fun i hi hn => ((World.grownBy.block k) i (Nat.lt_of_lt_of_le hi h.size) hn).trans ((World.grownBy.block h) i hi hn)⟩
theorem Step.of_ext {g : Nat} {a b : World} (h : Ext a b) : Step g a b := grown_of_ext h _
theorem Step.ext {g : Nat} {a b c : World} (h : Step g a b) (k : Ext b c) : Step g a c := h.trans (.of_ext k)
theorem Step.alloc {g : Nat} {a b : World} (h : Step g a b) (o : Obj) : Step g a (b.alloc o) := h.ext ((Ext.refl _).alloc o)
theorem Step.drew {g : Nat} {a b : World} (h : Step g a b) : Step g a b.drew := h.ext (Ext.refl _).drew
/-- A row of the call's own was written. -/
theorem Step.row {g : Nat} {a b c : World} {row : Option Nat} (h : Step g a b) (k : b.grownBy c row) (hr : ∀ i, row = some i → a.heap.size ≤ i) : Step g a c :=
  ⟨k.os.trans (World.grownBy.os h), k.tape.trans (World.grownBy.tape h), k.output.trans (World.grownBy.output h), Nat.le_trans h.size k.size,
    fun i hi hn => (k.block i (Nat.lt_of_lt_of_le hi h.size) (fun e => absurd (hr i e.symm) (by omega))).trans ((World.grownBy.block h) i hi hn)⟩
/-- Behind the reader's own birth a step is growth alone. -/
theorem Step.toExt {g : Nat} {a b c : World} (h : Ext a b) (k : Step g b c) (hg : a.heap.size ≤ g) : Ext a c := h.grown k (fun i e => by cases e; exact hg)
theorem cell_step {g : Nat} {w w' : World} (h : Step g w w') {b o : Nat} {v : Value} (hb : b ≠ g) (hc : w.cell? ⟨b, o, none⟩ = some v) : w'.cell? ⟨b, o, none⟩ = some v := by
  have hlt := World.block_lt_of_cell? w ⟨b, o, none⟩ hc
  rw [World.cell?_of_block (w := w) ((World.grownBy.block h) b hlt (by intro e; exact hb (Option.some.inj e)))]; exact hc
theorem heap_step {g : Nat} {w w' : World} (h : Step g w w') {b : Nat} (hb : b ≠ g) (hlt : b < w.heap.size) : w'.heap[b]? = w.heap[b]? := (World.grownBy.block h) b hlt (by intro e; exact hb (Option.some.inj e))
theorem frozen_step {g : Nat} {w w' : World} (h : Step g w w') {b o : Nat} (hb : b ≠ g) (hlt : b < w.heap.size) (hf : w.frozen? ⟨b, o, none⟩ = false) : w'.frozen? ⟨b, o, none⟩ = false := by
  rw [World.frozen?_of_block (w := w) (heap_step h hb hlt)]; exact hf
theorem frozen_new (w : World) (C : Array Value) (t : TypeId) (o : Nat) : (w.alloc (.cells C t)).frozen? ⟨w.heap.size, o, none⟩ = false := by simp only [World.frozen?, heap_alloc_new]; simp
theorem cell_new (w : World) (C : Array Value) (t : TypeId) (o : Nat) (v : Value) (h : C[o]? = some v) : (w.alloc (.cells C t)).cell? ⟨w.heap.size, o, none⟩ = some v := by simp only [World.cell?, heap_alloc_new]; simpa using h
theorem size_new (w : World) (o : Obj) : w.heap.size < (w.alloc o).heap.size := by simp
theorem ownsRow_step {g : Nat} {w w' : World} {base e nf : Nat} {v : Value} {n : Nat} {xs : List Value} (h : w.ownsRow base e nf v n xs) (k : Step g w w') (hg : g < base) : w'.ownsRow base e nf v n xs := by
  refine ⟨h.1, ?_⟩
  rcases h.2 with h2 | ⟨b, cap, cur, hv, hb, hh, r⟩
  · exact .inl h2
  · have hlt : b < w.heap.size := by
      rcases Nat.lt_or_ge b w.heap.size with h3 | h3
      · exact h3
      · rw [Array.getElem?_eq_none h3] at hh; cases hh
    exact .inr ⟨b, cap, cur, hv, hb, by rw [(World.grownBy.block k) b hlt (by intro e; have := Option.some.inj e; omega)]; exact hh, r⟩
theorem Rd.step {α : Type} {nf : Nat} {enc : α → List Value} {g : Nat} {w w' : World} {a : Option Addr} {l : List α} (h : Rd nf enc w a l) (k : Step g w w') (hg : l ≠ [] → ∀ b off, a = some ⟨b, off, none⟩ → b ≠ g) : Rd nf enc w' a l := by
  intro i hi
  obtain ⟨b, off, ha, hc⟩ := h i hi
  exact ⟨b, off, ha, fun j u hu => cell_step k (hg (by intro e; subst e; simp at hi) b off ha) (hc j u hu)⟩

/-- The reader at block g: its code has at most 2000 bytes, its place is at most P. -/
def Src (g : Nat) (P : Int) (w : World) : Prop :=
  ∃ (ab : Option Addr) (cb : Nat) (l : List Int) (p : Int), w.heap[g]? = some (.cells #[.slice ab l.length cb, .int .i64 p] 67 (0, 0)) ∧ 0 ≤ p ∧ p ≤ P ∧ l.length ≤ 2000 ∧ (∀ x ∈ l, 0 ≤ x ∧ x ≤ 255) ∧ Rd 1 encU8 w ab l ∧ (l ≠ [] → ∀ b off, ab = some ⟨b, off, none⟩ → b < g)
theorem Src.lt {g : Nat} {P : Int} {w : World} (h : Src g P w) : g < w.heap.size := by
  obtain ⟨ab, cb, l, p, hg, _⟩ := h
  rcases Nat.lt_or_ge g w.heap.size with h3 | h3
  · exact h3
  · rw [Array.getElem?_eq_none h3] at hg; cases hg
theorem Src.mono {g : Nat} {P P' : Int} {w : World} (h : Src g P w) (hP : P ≤ P') : Src g P' w := by
  obtain ⟨ab, cb, l, p, hg, h0, h1, r⟩ := h
  exact ⟨ab, cb, l, p, hg, h0, by omega, r⟩
theorem Src.ext {g : Nat} {P : Int} {w w' : World} (h : Src g P w) (hE : Ext w w') : Src g P w' := by
  have hlt := h.lt
  obtain ⟨ab, cb, l, p, hg, h0, h1, h2, h3, h4, h5⟩ := h
  exact ⟨ab, cb, l, p, by rw [hE.block g hlt]; exact hg, h0, h1, h2, h3, h4.ext hE, h5⟩
/-- A row behind the reader was written. -/
theorem Src.below {g : Nat} {P : Int} {w w' : World} (h : Src g P w) (hB : Below (g + 1) w w') : Src g P w' := by
  obtain ⟨ab, cb, l, p, hg, h0, h1, h2, h3, h4, h5⟩ := h
  refine ⟨ab, cb, l, p, by rw [hB.block g (by omega)]; exact hg, h0, h1, h2, h3, ?_, h5⟩
  intro i hi
  obtain ⟨b, off, ha, hc⟩ := h4 i hi
  have hb := h5 (by intro e; subst e; simp at hi) b off ha
  exact ⟨b, off, ha, fun j u hu => by rw [hB.cell (p := ⟨b, off + i * 1 + j, none⟩) (by show b < g + 1; omega)]; exact hc j u hu⟩
theorem Src.row {g : Nat} {P : Int} {w w' : World} {row : Option Nat} (h : Src g P w) (k : w.grownBy w' row) (hr : ∀ i, row = some i → g < i) : Src g P w' :=
  h.below ((Below.refl _ _).grown k (by have := h.lt; omega) (fun i e => hr i e))

theorem Step.setCell {g : Nat} {a b : World} (h : Step g a b) {p : Addr} (hp : a.heap.size ≤ p.block) (u : Value) : Step g a (b.setCell p u) :=
  ⟨(show b.os = a.os from World.grownBy.os h), (show b.tape = a.tape from World.grownBy.tape h), (show b.output = a.output from World.grownBy.output h), by have := h.size; simpa [World.setCell] using this,
    fun i hi hn => (Below.heap_setCell _ _ _ _ (by omega)).trans ((World.grownBy.block h) i hi hn)⟩
theorem Src.setCell {g : Nat} {P : Int} {w : World} (h : Src g P w) {p : Addr} (hp : g < p.block) (u : Value) : Src g P (w.setCell p u) :=
  h.below ((Below.refl _ _).setCell (by omega) u)

/-- It returns a value that fits Q with the world that it leaves; the reader went on by at most c places; nothing else changed. -/
def RetD (g : Nat) (P : Int) (c : Int) (Q : Value → World → Prop) (w : World) (e : Ending) (w' : World) : Prop := ∃ v, e = .returned v ∧ Q v w' ∧ Src g (P + c) w' ∧ Step g w w'
theorem RetD.mk {g : Nat} {P c P' : Int} {Q : Value → World → Prop} {w w' : World} {v : Value} (h : Q v w') (hs : Src g P' w') (hP : P' ≤ P + c) (hw : Step g w w') : RetD g P c Q w (.returned v) w' := ⟨v, rfl, h, hs.mono hP, hw⟩

/-- A literal's element at a drawn place. -/
theorem lit_at {α : Type} {nf : Nat} {enc : α → List Value} {w : World} {b : Nat} {l : List α} (h : Rd nf enc w (some ⟨b, 0, none⟩) l) {k : Nat} (hk : k < l.length) : ∃ x ∈ l, ∀ j u, (enc x)[j]? = some u → w.cell? ⟨b, k * nf + j, none⟩ = some u := by
  obtain ⟨b', off, hb, hc⟩ := h k hk
  simp only [Option.some.injEq, Addr.mk.injEq, and_true] at hb
  obtain ⟨rfl, rfl⟩ := hb
  exact ⟨l[k], List.getElem_mem hk, fun j u hu => by have := hc j u hu; rwa [Nat.zero_add] at this⟩
def encStr1 (s : ByteArray) : List Value := [.string s]
def encInt1 (x : Int) : List Value := [.int .i64 x]

end Go.Proofs.Ytnibbldfohbfkaa
