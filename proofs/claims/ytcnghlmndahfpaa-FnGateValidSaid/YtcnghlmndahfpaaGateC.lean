/- Gates: copyGate of the program, in whatever order. Condition: queues of at most 2^20. -/
import Derived.Test.YtcnghlmndahfpaaGate
import Derived.Test.YtcnghlmndahfpaaIntM
namespace Go.Proofs.Ytcnghlmndahfpaa
open Go.RowKit

/-- A gate in new memory. -/
def GateO (base : Nat) (f : Int) (l : List Int) (v : Value) (w : World) : Prop := ∃ u, v = .agg #[.int .i64 f, u] ∧ w.ownsRow base 3 1 u l.length (l.flatMap encInt1)
def OwnO (base : Nat) (l : List Int) (v : Value) (w : World) : Prop := w.ownsRow base 3 1 v l.length (l.flatMap encInt1)

theorem cells2 {w : World} {b : Nat} {t : TypeId} {x0 x1 : Value} (h : w.heap[b]? = some (.cells #[x0, x1] t)) :
    w.cell? ⟨b, 0, none⟩ = some x0 ∧ w.cell? ⟨b, 1, none⟩ = some x1 ∧ w.frozen? ⟨b, 0, none⟩ = false ∧ w.frozen? ⟨b, 1, none⟩ = false := by simp [World.cell?, World.frozen?, h]
theorem heap_ext {w w' : World} {b : Nat} {o : Obj} (hE : Ext w w') (h : w.heap[b]? = some o) : w'.heap[b]? = some o := by
  rw [hE.block b (Array.getElem?_eq_some_iff.1 h).1]; exact h

theorem heap_set {w : World} {B o : Nat} {C : Array Value} {t : TypeId} {fz : Nat × Nat} (h : w.heap[B]? = some (.cells C t fz)) (u : Value) : (w.setCell ⟨B, o, none⟩ u).heap[B]? = some (.cells (C.setIfInBounds o u) t fz) := by
  simp [World.setCell, Array.getElem?_modify, h]
theorem heap_set_ne {w : World} {B B' o : Nat} {x : Obj} (h : w.heap[B']? = some x) (hne : B' ≠ B) (u : Value) : (w.setCell ⟨B, o, none⟩ u).heap[B']? = some x := by
  rw [Below.heap_setCell _ _ _ _ (by simpa using hne)]; exact h

theorem cell_set_ne {w : World} {B o q r : Nat} {v : Value} (h : w.cell? ⟨q, r, none⟩ = some v) (hne : q ≠ B) (u : Value) : (w.setCell ⟨B, o, none⟩ u).cell? ⟨q, r, none⟩ = some v := by
  have h2 : (w.setCell ⟨B, o, none⟩ u).heap[q]? = w.heap[q]? := Below.heap_setCell _ _ _ _ (by simpa using hne)
  unfold World.cell? at h ⊢
  simp only [h2]
  exact h

set_option maxHeartbeats 2000000 in
theorem copyGate_any (f : Int) (a : Option Addr) (cap : Nat) (l : List Int) (w : World) (hl : l.length ≤ 1048576) (hc : Rd 1 encInt1 w a l) :
    Calls Try.prog 36 #[.agg #[.int .i64 f, .slice a l.length cap]] w (RetV (GateO w.heap.size f l) w) := by
  have E := ((Ext.refl w).alloc (.cells #[.int .i64 f, .slice a l.length cap] 27)).alloc (.cells #[.int .i64 0, .slice none 0 0] 27)
  have r0 : ((w.alloc (.cells #[.int .i64 f, .slice a l.length cap] 27)).alloc (.cells #[.int .i64 0, .slice none 0 0] 27)).heap[w.heap.size]? = some (.cells #[.int .i64 f, .slice a l.length cap] 27) := by
    rw [Below.heap_alloc _ _ _ (by simp)]
    exact heap_alloc_new w _
  have r1 : ((w.alloc (.cells #[.int .i64 f, .slice a l.length cap] 27)).alloc (.cells #[.int .i64 0, .slice none 0 0] 27)).heap[w.heap.size + 1]? = some (.cells #[.int .i64 0, .slice none 0 0] 27) := by
    have := heap_alloc_new (w.alloc (.cells #[.int .i64 f, .slice a l.length cap] 27)) (.cells #[.int .i64 0, .slice none 0 0] 27)
    simpa using this
  have hsz : w.heap.size + 2 ≤ ((w.alloc (.cells #[.int .i64 f, .slice a l.length cap] 27)).alloc (.cells #[.int .i64 0, .slice none 0 0] 27)).heap.size := by simp
  go_enter Try.func36, Try.ntmps36
  go_upto_region 1 with fail
  generalize ((w.alloc (.cells #[.int .i64 f, .slice a l.length cap] 27)).alloc (.cells #[.int .i64 0, .slice none 0 0] 27)) = w1 at *
  have Ed := E.drew
  have r0d : w1.drew.heap[w.heap.size]? = some (.cells #[.int .i64 f, .slice a l.length cap] 27) := r0
  have r1d : w1.drew.heap[w.heap.size + 1]? = some (.cells #[.int .i64 0, .slice none 0 0] 27) := r1
  refine wp_region_v 6 (V := fun i v wv => match i with
    | 0 => v = .pointer (some ⟨w.heap.size, 0, none⟩)
    | 1 => v = .int .i64 f
    | 2 => v = .pointer (some ⟨w.heap.size, 1, none⟩)
    | 3 => v = .slice a l.length cap
    | 4 => OwnO (w.heap.size + 2) l v wv
    | 5 => GateO (w.heap.size + 2) f l v wv
    | _ => True) rfl (by decide) (by kernel_rfl) (by kernel_rfl) (by kernel_rfl) ?_ ?_ ?_
  · intro i v w2 w3 h hE
    match i with
    | 0 => exact h
    | 1 => exact h
    | 2 => exact h
    | 3 => exact h
    | 4 => exact ownsRow_ext h hE
    | 5 => obtain ⟨u, h1, h2⟩ := h; exact ⟨u, h1, ownsRow_ext h2 hE⟩
    | (n + 6) => trivial
  · intro i o hi ho vs w2 hvl hE hd
    obtain ⟨c0, c1, f0, f1⟩ := cells2 (heap_ext hE r0d)
    have hs2 := hE.size
    match vs, hvl with
    | [x0, x1, x2, x3, x4, x5], _ =>
    rcases (show i = 0 ∨ i = 1 ∨ i = 2 ∨ i = 3 ∨ i = 4 ∨ i = 5 by omega) with rfl | rfl | rfl | rfl | rfl | rfl
    all_goals
      simp only [List.getElem?_cons_zero, List.getElem?_cons_succ, Option.some.injEq] at ho
      subst ho
      simp [Waits, Region.binds] at hd
    · simp [putAll, Act.put]
      go_wp2
      exact ⟨rfl, _, rfl, rfl, Ext.refl _⟩
    · simp [putAll, Act.put, hd]
      go_wp2
      exact ⟨rfl, _, rfl, rfl, Ext.refl _⟩
    · simp [putAll, Act.put]
      go_wp2
      exact ⟨rfl, _, rfl, rfl, Ext.refl _⟩
    · simp [putAll, Act.put, hd]
      go_wp2
      exact ⟨rfl, _, rfl, rfl, Ext.refl _⟩
    · simp [putAll, Act.put, hd]
      go_wp2_with fail
      refine (cloneInt_any a cap _ l w2 rfl hl (hc.ext (Ed.trans hE))).mono ?_
      rintro e w3 ⟨v, rfl, hown, hb⟩
      have h9 : OwnO (w.heap.size + 2) l v w3 := ownsRow_base hown (Nat.le_trans hsz hs2)
      clear hown
      go_wp2
      exact ⟨rfl, _, rfl, h9, hb⟩
    · obtain ⟨hd0, hown⟩ := hd
      obtain ⟨a8, cap8, hx4, _⟩ := view_owns encInt1_len hown
      subst hx4
      have h9 : GateO (w.heap.size + 2) f l (.agg #[.int .i64 f, .slice a8 l.length cap8]) w2 := ⟨_, rfl, hown⟩
      clear hown
      simp [putAll, Act.put, hd0]
      go_wp2
      exact ⟨rfl, _, rfl, h9, Ext.refl _⟩
  · intro vs w2 hvl hE hV
    match vs, hvl with
    | [x0, x1, x2, x3, x4, x5], _ =>
    obtain ⟨u, hu, hown⟩ := hV 5 (by omega)
    clear hV
    simp at hu
    subst hu
    obtain ⟨a2, cap2, rfl, hcap2, hrd2, _⟩ := view_owns encInt1_len hown
    obtain ⟨c0, c1, f0, f1⟩ := cells2 (heap_ext hE r1d)
    have E2 := (((Ed.trans hE).setCell (p := ⟨w.heap.size + 1, 0, none⟩) (by show w.heap.size ≤ w.heap.size + 1; omega) (.int .i64 f)).setCell (p := ⟨w.heap.size + 1, 1, none⟩) (by show w.heap.size ≤ w.heap.size + 1; omega) (.slice a2 l.length cap2))
    have ho := ownsRow_setCell_below (ownsRow_setCell_below hown (a := ⟨w.heap.size + 1, 0, none⟩) (by show w.heap.size + 1 < w.heap.size + 2; omega) (.int .i64 f)) (a := ⟨w.heap.size + 1, 1, none⟩) (by show w.heap.size + 1 < w.heap.size + 2; omega) (.slice a2 l.length cap2)
    have ho2 := ownsRow_base ho (show w.heap.size ≤ w.heap.size + 2 by omega)
    clear hrd2 hown ho
    simp only [putAll, Act.put, List.take_succ_cons, List.take_zero, List.drop_succ_cons, List.drop_zero]
    simp
    go_wp2
    try simp only [Exit.inBlock, Exit.then]
    refine bodyPost_ret (v := .agg #[.int .i64 f, .slice a2 l.length cap2]) (by simp [results, Try.results36, go_sem, c0, c1]) rfl ?_
    exact RetV.mk ⟨_, rfl, ho2⟩ E2
end Go.Proofs.Ytcnghlmndahfpaa
