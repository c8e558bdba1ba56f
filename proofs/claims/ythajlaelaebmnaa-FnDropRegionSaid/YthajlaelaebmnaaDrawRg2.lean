/- The draws of FnRightsAt, FnSetRegion and FnDropRegion. No condition but small sizes. -/
import Derived.Test.YthajlaelaebmnaaDrawReg
import Derived.Test.YthajlaelaebmnaaBT
import Derived.Test.YthajlaelaebmnaaSep
import Derived.Test.YthajlaelaebmnaaQuiet
import Derived.Deep.Cut
namespace Go.Proofs.Ythajlaelaebmnaa
open Go.RowKit

set_option maxHeartbeats 4000000 in
theorem drawRightsAt (a : Option Addr) (cap : Nat) (l : List Int) (w : World) (hl : l.length ≤ 9223372036854775807) (hcap : l.length ≤ cap) (hu : ∀ x ∈ l, 0 ≤ x ∧ x ≤ 255) (hc : Rd 1 encU8 w a l) :
    Calls Try.prog 20 #[.slice a l.length cap] w (fun e w' => ∃ u L n, e = .returned (.tuple #[u, .int .i64 n]) ∧ L.length ≤ 9 ∧ (-1 ≤ n ∧ n ≤ 64) ∧ Sep w w' [plRow 33 3 encReg u L]) := by
  go_enter Try.func20, Try.ntmps20
  go_wp2_with fail
  refine (open_any a cap l w hl hcap hu hc).mono ?_
  rintro e w1 ⟨v, rfl, ⟨rfl, hs⟩, E⟩
  have hg0 := hs.lt
  go_wp2_with fail
  refine (drawRegions _ _ _ _ hs (by omega) (by omega)).mono ?_
  rintro e w2 ⟨vL, rfl, ⟨L, h1, h3⟩, hs2, hS⟩
  go_wp2_with fail
  refine (pick_any _ _ 66 _ hs2 (by omega)).mono ?_
  rintro e w3 ⟨v, rfl, ⟨z, rfl, z0, z1, _⟩, hs3, hS3⟩
  have hz := z1 (by omega)
  have hw : IntKind.i64.wrap (z - 1) = z - 1 := IntWalk.i64_in _ (by omega)
  have h4 := ownsRow_base (ownsRow_step h3 hS3 hg0) E.size
  have hS4 := (hS.trans hS3).toExt E (Nat.le_refl _)
  clear z1
  go_wp2
  go_ret2
  exact ⟨_, L, z - 1, rfl, h1, by omega, Sep.of_owns hS4 h4⟩

set_option maxHeartbeats 4000000 in
theorem drawSetRegion (a : Option Addr) (cap : Nat) (l : List Int) (w : World) (hl : l.length ≤ 9223372036854775807) (hcap : l.length ≤ cap) (hu : ∀ x ∈ l, 0 ≤ x ∧ x ≤ 255) (hc : Rd 1 encU8 w a l) :
    Calls Try.prog 28 #[.slice a l.length cap] w (fun e w' => ∃ u L, ∃ m : Reg, e = .returned (.tuple #[u, .agg #[.int .i64 m.f, .int .i64 m.t, .int .i64 m.r]]) ∧ L.length ≤ 9 ∧ Sep w w' [plRow 33 3 encReg u L]) := by
  go_enter Try.func28, Try.ntmps28
  have S := Sep.start w
  replace S : Sep w (w.alloc (.cells #[.int .i64 0, .int .i64 0, .int .i64 0] 33)) [plBox w.heap.size #[.int .i64 0, .int .i64 0, .int .i64 0] 33] := S.alloc_at (by simp) _ _
  go_wp2_with fail
  generalize (w.alloc (.cells #[.int .i64 0, .int .i64 0, .int .i64 0] 33)) = w1 at *
  refine (open_any a cap l w1 hl hcap hu (hc.ext S.ext)).mono ?_
  rintro e w2 ⟨v, rfl, ⟨rfl, hs⟩, hE⟩
  have hg1 := S.ge 0 rfl
  generalize w1.heap.size = g at *
  replace S : Sep w w2 [plBox w.heap.size #[.int .i64 0, .int .i64 0, .int .i64 0] 33] := S.step hE
  clear hE
  go_wp2_with fail
  refine (drawRegions g _ _ _ hs (by omega) (by omega)).mono ?_
  rintro e w3 ⟨vL, rfl, ⟨L, h1, h3⟩, hs3, hS⟩
  have hq : vL.ownBlock = some g → False := fun h => by
    have h2 := (World.ownsRow.lt h3 g h).1
    have := hs.lt
    omega
  replace S : Sep w w3 [plRow 33 3 encReg vL L, plBox w.heap.size #[.int .i64 0, .int .i64 0, .int .i64 0] 33] := (S.readOwn hS (by omega) (by simp [plBox]; omega) h3 (Nat.le_refl _))
  clear hS hs h3
  go_wp2_with fail
  refine (drawRegion g _ 9 _ hs3 (by omega) (by omega)).mono ?_
  rintro e w4 ⟨v4, rfl, ⟨m, rfl⟩, hs4, hS⟩
  replace S : Sep w w4 [plRow 33 3 encReg vL L, plBox w.heap.size #[.int .i64 0, .int .i64 0, .int .i64 0] 33] := (S.readD hS (by omega) (by simp [plBox, plRow]; exact ⟨hq, by omega⟩))
  obtain ⟨rbc0, rbf0⟩ : w4.cell? ⟨w.heap.size, 0, none⟩ = some (.int .i64 0) ∧ w4.frozen? ⟨w.heap.size, 0, none⟩ = false := bx (S.box 1 rfl) 0 rfl
  obtain ⟨rbc1, rbf1⟩ : w4.cell? ⟨w.heap.size, 1, none⟩ = some (.int .i64 0) ∧ w4.frozen? ⟨w.heap.size, 1, none⟩ = false := bx (S.box 1 rfl) 1 rfl
  obtain ⟨rbc2, rbf2⟩ : w4.cell? ⟨w.heap.size, 2, none⟩ = some (.int .i64 0) ∧ w4.frozen? ⟨w.heap.size, 2, none⟩ = false := bx (S.box 1 rfl) 2 rfl
  go_wp2
  try simp only [Exit.inBlock, Exit.then]
  refine bodyPost_ret (v := .tuple #[vL, .agg #[.int .i64 m.f, .int .i64 m.t, .int .i64 m.r]]) (by simp [results, Try.results28, go_sem, rbc0, rbc1, rbc2]) rfl ?_
  replace S : Sep w (w4.setCell ⟨w.heap.size, 0, none⟩ (.int .i64 m.f)) [plRow 33 3 encReg vL L, plBox w.heap.size #[.int .i64 m.f, .int .i64 0, .int .i64 0] 33] := S.set 1 rfl 0 _
  replace S : Sep w ((w4.setCell ⟨w.heap.size, 0, none⟩ (.int .i64 m.f)).setCell ⟨w.heap.size, 1, none⟩ (.int .i64 m.t)) [plRow 33 3 encReg vL L, plBox w.heap.size #[.int .i64 m.f, .int .i64 m.t, .int .i64 0] 33] := S.set 1 rfl 1 _
  replace S : Sep w (((w4.setCell ⟨w.heap.size, 0, none⟩ (.int .i64 m.f)).setCell ⟨w.heap.size, 1, none⟩ (.int .i64 m.t)).setCell ⟨w.heap.size, 2, none⟩ (.int .i64 m.r)) [plRow 33 3 encReg vL L, plBox w.heap.size #[.int .i64 m.f, .int .i64 m.t, .int .i64 m.r] 33] := S.set 1 rfl 2 _
  replace S : Sep w (((w4.setCell ⟨w.heap.size, 0, none⟩ (.int .i64 m.f)).setCell ⟨w.heap.size, 1, none⟩ (.int .i64 m.t)).setCell ⟨w.heap.size, 2, none⟩ (.int .i64 m.r)) [plRow 33 3 encReg vL L] := S.drop 1
  exact ⟨vL, L, m, rfl, h1, S⟩

set_option maxHeartbeats 4000000 in
theorem drawDropRegion (a : Option Addr) (cap : Nat) (l : List Int) (w : World) (hl : l.length ≤ 9223372036854775807) (hcap : l.length ≤ cap) (hu : ∀ x ∈ l, 0 ≤ x ∧ x ≤ 255) (hc : Rd 1 encU8 w a l) :
    Calls Try.prog 30 #[.slice a l.length cap] w (fun e w' => ∃ u L f t, e = .returned (.tuple #[u, .int .i64 f, .int .i64 t]) ∧ L.length ≤ 9 ∧ Sep w w' [plRow 33 3 encReg u L]) := by
  go_enter Try.func30, Try.ntmps30
  go_wp2_with fail
  refine (open_any a cap l w hl hcap hu hc).mono ?_
  rintro e w1 ⟨v, rfl, ⟨rfl, hs⟩, E⟩
  have hg0 := hs.lt
  go_wp2_with fail
  refine (drawRegions _ _ _ _ hs (by omega) (by omega)).mono ?_
  rintro e w2 ⟨vL, rfl, ⟨L, h1, h3⟩, hs2, hS⟩
  go_wp2_with fail
  refine (drawRegion _ _ 9 _ hs2 (by omega) (by omega)).mono ?_
  rintro e w3 ⟨v, rfl, ⟨x, rfl⟩, hs3, hS3⟩
  have h4 := ownsRow_base (ownsRow_step h3 hS3 hg0) E.size
  have hS4 := (hS.trans hS3).toExt E (Nat.le_refl _)
  have S := Sep.of_owns hS4 h4
  clear hs hs2 hs3 hS hS3 h3 h4 hS4 E
  replace S : Sep w (w3.alloc (.cells #[.int .i64 x.f, .int .i64 x.t, .int .i64 x.r] 33)) [plBox w3.heap.size #[.int .i64 x.f, .int .i64 x.t, .int .i64 x.r] 33, plRow 33 3 encReg vL L] := S.alloc_at (by simp) _ _
  go_upto_region 4 with fail
  generalize (w3.alloc (.cells #[.int .i64 x.f, .int .i64 x.t, .int .i64 x.r] 33)) = w4 at *
  obtain ⟨rbc0, rbf0⟩ : w4.cell? ⟨w3.heap.size, 0, none⟩ = some (.int .i64 x.f) ∧ w4.frozen? ⟨w3.heap.size, 0, none⟩ = false := bx (S.box 0 rfl) 0 rfl
  obtain ⟨rbc1, rbf1⟩ : w4.cell? ⟨w3.heap.size, 1, none⟩ = some (.int .i64 x.t) ∧ w4.frozen? ⟨w3.heap.size, 1, none⟩ = false := bx (S.box 0 rfl) 1 rfl
  obtain ⟨rbc2, rbf2⟩ : w4.cell? ⟨w3.heap.size, 2, none⟩ = some (.int .i64 x.r) ∧ w4.frozen? ⟨w3.heap.size, 2, none⟩ = false := bx (S.box 0 rfl) 2 rfl
  go_quiet (fail)
  go_wp2
  go_ret3
  exact ⟨_, L, x.f, x.t, rfl, h1, (S.drop 0).drewN _⟩
end Go.Proofs.Ythajlaelaebmnaa
