/- The draws of a list of locks and another one. No condition but small sizes. -/
import Derived.Test.YtaofbdhljnhlnaaDrawLck
namespace Go.Proofs.Ytaofbdhljnhlnaa
open Go.RowKit

/-- A list in new memory and a lock. -/
def LcksX (base : Nat) (K : Nat) (v : Value) (w : World) : Prop := ∃ (u : Value) (x : Lck), v = .tuple #[u, .agg #[.int .i64 x.who, .int .i64 x.f, .int .i64 x.t, .bool x.alone]] ∧ LcksD base K u w

set_option maxHeartbeats 2000000 in
theorem drawLockHolder (a : Option Addr) (cap : Nat) (l : List Int) (w : World) (hl : l.length ≤ 9223372036854775807) (hcap : l.length ≤ cap) (hu : ∀ x ∈ l, 0 ≤ x ∧ x ≤ 255) (hc : Rd 1 encU8 w a l) :
    Calls Try.prog 21 #[.slice a l.length cap] w (RetV (LcksX w.heap.size 11) w) := by
  have hE0 := (Ext.refl w).alloc (.cells #[.int .i64 0, .int .i64 0, .int .i64 0, .bool false] 32)
  have r0 := cell_new w #[.int .i64 0, .int .i64 0, .int .i64 0, .bool false] 32 0 (.int .i64 0) rfl
  have r1 := cell_new w #[.int .i64 0, .int .i64 0, .int .i64 0, .bool false] 32 1 (.int .i64 0) rfl
  have r2 := cell_new w #[.int .i64 0, .int .i64 0, .int .i64 0, .bool false] 32 2 (.int .i64 0) rfl
  have r3 := cell_new w #[.int .i64 0, .int .i64 0, .int .i64 0, .bool false] 32 3 (.bool false) rfl
  have f0 := frozen_new w #[.int .i64 0, .int .i64 0, .int .i64 0, .bool false] 32 0
  have f1 := frozen_new w #[.int .i64 0, .int .i64 0, .int .i64 0, .bool false] 32 1
  have f2 := frozen_new w #[.int .i64 0, .int .i64 0, .int .i64 0, .bool false] 32 2
  have f3 := frozen_new w #[.int .i64 0, .int .i64 0, .int .i64 0, .bool false] 32 3
  have hlt := size_new w (.cells #[.int .i64 0, .int .i64 0, .int .i64 0, .bool false] 32)
  go_enter Try.func21, Try.ntmps21
  go_wp2_with fail
  generalize (w.alloc (.cells #[.int .i64 0, .int .i64 0, .int .i64 0, .bool false] 32)) = w0 at *
  refine (open_any a cap l w0 hl hcap hu (hc.ext hE0)).mono ?_
  rintro e w1 ⟨v, rfl, ⟨rfl, hs⟩, E⟩
  have hne : w.heap.size ≠ w0.heap.size := by omega
  replace r0 := cell_ext E r0
  replace r1 := cell_ext E r1
  replace r2 := cell_ext E r2
  replace r3 := cell_ext E r3
  replace f0 := (E.frozen (p := ⟨w.heap.size, 0, none⟩) hlt).trans f0
  replace f1 := (E.frozen (p := ⟨w.heap.size, 1, none⟩) hlt).trans f1
  replace f2 := (E.frozen (p := ⟨w.heap.size, 2, none⟩) hlt).trans f2
  replace f3 := (E.frozen (p := ⟨w.heap.size, 3, none⟩) hlt).trans f3
  have hlt1 := Nat.lt_of_lt_of_le hlt E.size
  have hg0 := hs.lt
  go_wp2_with fail
  refine (drawLocks _ _ _ _ hs (by omega) (by omega)).mono ?_
  rintro e w2 ⟨vL, rfl, ⟨L, h1, h3⟩, hs2, hS⟩
  replace r0 := cell_step hS hne r0
  replace r1 := cell_step hS hne r1
  replace r2 := cell_step hS hne r2
  replace r3 := cell_step hS hne r3
  replace f0 := frozen_step hS hne hlt1 f0
  replace f1 := frozen_step hS hne hlt1 f1
  replace f2 := frozen_step hS hne hlt1 f2
  replace f3 := frozen_step hS hne hlt1 f3
  have hlt2 := Nat.lt_of_lt_of_le hlt1 hS.size
  go_wp2_with fail
  refine (drawLock _ _ 9 _ hs2 (by omega) (by omega)).mono ?_
  rintro e w3 ⟨v3, rfl, ⟨x, rfl⟩, hs3, hS3⟩
  replace r0 := cell_step hS3 hne r0
  replace r1 := cell_step hS3 hne r1
  replace r2 := cell_step hS3 hne r2
  replace r3 := cell_step hS3 hne r3
  replace f0 := frozen_step hS3 hne hlt2 f0
  replace f1 := frozen_step hS3 hne hlt2 f1
  replace f2 := frozen_step hS3 hne hlt2 f2
  replace f3 := frozen_step hS3 hne hlt2 f3
  have h4 := ownsRow_step h3 hS3 hg0
  have E3 := (hS.trans hS3).toExt E (Nat.le_refl _)
  have E5 := ((((hE0.trans E3).setCell (p := ⟨w.heap.size, 0, none⟩) (Nat.le_refl _) (.int .i64 x.who)).setCell (p := ⟨w.heap.size, 1, none⟩) (Nat.le_refl _) (.int .i64 x.f)).setCell (p := ⟨w.heap.size, 2, none⟩) (Nat.le_refl _) (.int .i64 x.t)).setCell (p := ⟨w.heap.size, 3, none⟩) (Nat.le_refl _) (.bool x.alone)
  have hb : w.heap.size < w1.heap.size := by omega
  have h5 := ownsRow_setCell_below (ownsRow_setCell_below (ownsRow_setCell_below (ownsRow_setCell_below h4 (a := ⟨w.heap.size, 0, none⟩) hb (.int .i64 x.who)) (a := ⟨w.heap.size, 1, none⟩) hb (.int .i64 x.f)) (a := ⟨w.heap.size, 2, none⟩) hb (.int .i64 x.t)) (a := ⟨w.heap.size, 3, none⟩) hb (.bool x.alone)
  have h6 := ownsRow_base h5 (show w.heap.size ≤ w1.heap.size by omega)
  clear h3 h4 h5 hS hS3 hs hs2 hs3 E E3
  go_wp2
  try simp only [Exit.inBlock, Exit.then]
  refine bodyPost_ret (v := .tuple #[vL, .agg #[.int .i64 x.who, .int .i64 x.f, .int .i64 x.t, .bool x.alone]]) (by simp [results, Try.results21, go_sem, r0, r1, r2, r3]) rfl ?_
  exact RetV.mk ⟨_, x, rfl, L, h1, h6⟩ E5

set_option maxHeartbeats 2000000 in
theorem drawSetLock (a : Option Addr) (cap : Nat) (l : List Int) (w : World) (hl : l.length ≤ 9223372036854775807) (hcap : l.length ≤ cap) (hu : ∀ x ∈ l, 0 ≤ x ∧ x ≤ 255) (hc : Rd 1 encU8 w a l) :
    Calls Try.prog 28 #[.slice a l.length cap] w (RetV (LcksX w.heap.size 11) w) := by
  have hE0 := (Ext.refl w).alloc (.cells #[.int .i64 0, .int .i64 0, .int .i64 0, .bool false] 32)
  have r0 := cell_new w #[.int .i64 0, .int .i64 0, .int .i64 0, .bool false] 32 0 (.int .i64 0) rfl
  have r1 := cell_new w #[.int .i64 0, .int .i64 0, .int .i64 0, .bool false] 32 1 (.int .i64 0) rfl
  have r2 := cell_new w #[.int .i64 0, .int .i64 0, .int .i64 0, .bool false] 32 2 (.int .i64 0) rfl
  have r3 := cell_new w #[.int .i64 0, .int .i64 0, .int .i64 0, .bool false] 32 3 (.bool false) rfl
  have f0 := frozen_new w #[.int .i64 0, .int .i64 0, .int .i64 0, .bool false] 32 0
  have f1 := frozen_new w #[.int .i64 0, .int .i64 0, .int .i64 0, .bool false] 32 1
  have f2 := frozen_new w #[.int .i64 0, .int .i64 0, .int .i64 0, .bool false] 32 2
  have f3 := frozen_new w #[.int .i64 0, .int .i64 0, .int .i64 0, .bool false] 32 3
  have hlt := size_new w (.cells #[.int .i64 0, .int .i64 0, .int .i64 0, .bool false] 32)
  go_enter Try.func28, Try.ntmps28
  go_wp2_with fail
  generalize (w.alloc (.cells #[.int .i64 0, .int .i64 0, .int .i64 0, .bool false] 32)) = w0 at *
  refine (drawLockHolder a cap l w0 hl hcap hu (hc.ext hE0)).mono ?_
  rintro e w1 ⟨v, rfl, ⟨vL, x, rfl, L, h1, h4⟩, E⟩
  replace r0 := cell_ext E r0
  replace r1 := cell_ext E r1
  replace r2 := cell_ext E r2
  replace r3 := cell_ext E r3
  replace f0 := (E.frozen (p := ⟨w.heap.size, 0, none⟩) hlt).trans f0
  replace f1 := (E.frozen (p := ⟨w.heap.size, 1, none⟩) hlt).trans f1
  replace f2 := (E.frozen (p := ⟨w.heap.size, 2, none⟩) hlt).trans f2
  replace f3 := (E.frozen (p := ⟨w.heap.size, 3, none⟩) hlt).trans f3
  have E5 := ((((hE0.trans E).setCell (p := ⟨w.heap.size, 0, none⟩) (Nat.le_refl _) (.int .i64 x.who)).setCell (p := ⟨w.heap.size, 1, none⟩) (Nat.le_refl _) (.int .i64 x.f)).setCell (p := ⟨w.heap.size, 2, none⟩) (Nat.le_refl _) (.int .i64 x.t)).setCell (p := ⟨w.heap.size, 3, none⟩) (Nat.le_refl _) (.bool x.alone)
  have h5 := ownsRow_setCell_below (ownsRow_setCell_below (ownsRow_setCell_below (ownsRow_setCell_below h4 (a := ⟨w.heap.size, 0, none⟩) hlt (.int .i64 x.who)) (a := ⟨w.heap.size, 1, none⟩) hlt (.int .i64 x.f)) (a := ⟨w.heap.size, 2, none⟩) hlt (.int .i64 x.t)) (a := ⟨w.heap.size, 3, none⟩) hlt (.bool x.alone)
  have h6 := ownsRow_base h5 (show w.heap.size ≤ w0.heap.size by omega)
  clear h4 h5 E
  go_wp2
  try simp only [Exit.inBlock, Exit.then]
  refine bodyPost_ret (v := .tuple #[vL, .agg #[.int .i64 x.who, .int .i64 x.f, .int .i64 x.t, .bool x.alone]]) (by simp [results, Try.results28, go_sem, r0, r1, r2, r3]) rfl ?_
  exact RetV.mk ⟨_, x, rfl, L, h1, h6⟩ E5
end Go.Proofs.Ytaofbdhljnhlnaa
