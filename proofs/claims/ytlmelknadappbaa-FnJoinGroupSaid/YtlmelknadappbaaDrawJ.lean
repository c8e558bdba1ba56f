/- The draw of FnJoinGroup: a region that draws its order and reads on. No condition but small sizes. -/
import Derived.Test.YtlmelknadappbaaMemF2
import Derived.Test.YtlmelknadappbaaOrdS
import Derived.Deep.Cut
namespace Go.Proofs.Ytlmelknadappbaa
open Go.RowKit

def NumB (m : Int) (v : Value) : Prop := ∃ x : Int, v = .int .i64 x ∧ 0 ≤ x ∧ x < m
def TwoV (g : Nat) (v : Value) (w : World) : Prop := ∃ (b : Nat) (L : List Int), v = .slice (some ⟨b, 0, none⟩) 2 2 ∧ Rd 1 encInt1 w (some ⟨b, 0, none⟩) L ∧ L.length = 2 ∧ b ≠ g
def CellV (g : Nat) (v : Value) (w : World) : Prop := ∃ (b o : Nat) (u : Int), v = .pointer (some ⟨b, o, none⟩) ∧ w.cell? ⟨b, o, none⟩ = some (.int .i64 u) ∧ b ≠ g
theorem TwoV.step {g : Nat} {v : Value} {w w' : World} (h : TwoV g v w) (k : Step g w w') : TwoV g v w' := by
  obtain ⟨b, L, h1, h2, h3, h4⟩ := h
  exact ⟨b, L, h1, h2.step k (fun _ b' off e => by cases e; exact h4), h3, h4⟩
theorem CellV.step {g : Nat} {v : Value} {w w' : World} (h : CellV g v w) (k : Step g w w') : CellV g v w' := by
  obtain ⟨b, o, u, h1, h2, h3⟩ := h
  exact ⟨b, o, u, h1, cell_step k h3 h2, h3⟩
/-- A list in new memory and two numbers. -/
def MemsNN (base : Nat) (K : Nat) (v : Value) (w : World) : Prop := ∃ u n m, v = .tuple #[u, .int .i64 n, .int .i64 m] ∧ MemsD base K u w

set_option maxHeartbeats 4000000 in
theorem drawJoinGroup (a : Option Addr) (cap : Nat) (l : List Int) (w : World) (hl : l.length ≤ 9223372036854775807) (hcap : l.length ≤ cap) (hu : ∀ x ∈ l, 0 ≤ x ∧ x ≤ 255) (hc : Rd 1 encU8 w a l) :
    Calls Try.prog 26 #[.slice a l.length cap] w (RetV (MemsNN w.heap.size 7) w) := by
  go_enter Try.func26, Try.ntmps26
  go_wp2_with fail
  refine (open_any a cap l w hl hcap hu hc).mono ?_
  rintro e w1 ⟨v, rfl, ⟨rfl, hs⟩, E⟩
  have hg0 := hs.lt
  go_wp2_with fail
  refine (drawMembers _ _ _ _ hs (by omega) (by omega)).mono ?_
  rintro e w2 ⟨vL, rfl, ⟨L, h1, h3⟩, hs2, hS⟩
  go_wp2_with fail
  refine (pick_any _ _ 7 _ hs2 (by omega)).mono ?_
  rintro e w3 ⟨v3, rfl, ⟨x, rfl, x0, x1, _⟩, hs3, hS3⟩
  have hx : 1 + x < 8 := by have := x1 (by omega); omega
  have hwx : IntKind.i64.wrap (1 + x) = 1 + x := IntWalk.i64_in _ (by omega)
  replace h3 := ownsRow_step h3 hS3 hg0
  replace hS := hS.trans hS3
  clear x1 hs2 hS3 hs
  go_upto_region 4 with fail
  refine wp_region_s (Step w.heap.size) (fun k wv => Src w.heap.size (100 + (k : Int)) wv) 13 (V := fun i v wv => match i with
    | 0 => v = vL
    | 1 => v = .int .i64 (1 + x)
    | 2 => v = .int .i64 (1 + x)
    | 3 => v = .pointer (some ⟨w.heap.size, 0, none⟩)
    | 4 => NumB 7 v
    | 5 => NumB 8 v
    | 6 => TwoV w.heap.size v wv
    | 7 => v = .pointer (some ⟨w.heap.size, 0, none⟩)
    | 8 => NumB 2 v
    | 9 => CellV w.heap.size v wv
    | 10 => ∃ u : Int, v = .int .i64 u
    | 11 => v = vL
    | 12 => v = .int .i64 (1 + x)
    | _ => True) rfl (by decide) (by kernel_rfl) (by kernel_rfl) (by kernel_rfl) (Step.refl _ _) (fun _ _ _ h k => h.trans k) ((hs3.mono (by omega)).ext (Ext.refl _).drew) ?_ ?_ ?_
  · intro i v w2 w3 h hE
    match i with
    | 0 => exact h
    | 1 => exact h
    | 2 => exact h
    | 3 => exact h
    | 4 => exact h
    | 5 => exact h
    | 6 => exact h.step hE
    | 7 => exact h
    | 8 => exact h
    | 9 => exact h.step hE
    | 10 => exact h
    | 11 => exact h
    | 12 => exact h
    | (n + 13) => trivial
  · intro i o hi ho k hk vs w4 hvl hE hsk hd
    have hsk1 : Src w.heap.size (100 + ((k + 1 : Nat) : Int)) w4 := hsk.mono (by omega)
    match vs, hvl with
    | [y0, y1, y2, y3, y4, y5, y6, y7, y8, y9, y10, y11, y12], _ =>
    rcases (show i = 0 ∨ i = 1 ∨ i = 2 ∨ i = 3 ∨ i = 4 ∨ i = 5 ∨ i = 6 ∨ i = 7 ∨ i = 8 ∨ i = 9 ∨ i = 10 ∨ i = 11 ∨ i = 12 by omega) with rfl | rfl | rfl | rfl | rfl | rfl | rfl | rfl | rfl | rfl | rfl | rfl | rfl
    all_goals
      simp only [List.getElem?_cons_zero, List.getElem?_cons_succ, Option.some.injEq] at ho
      subst ho
      simp [Waits, Region.binds] at hd
    · simp [putAll, Act.put]
      go_wp2
      exact ⟨rfl, _, rfl, rfl, Step.refl _ _, hsk1⟩
    · simp [putAll, Act.put]
      go_wp2
      exact ⟨rfl, _, rfl, rfl, Step.refl _ _, hsk1⟩
    · simp [putAll, Act.put]
      go_wp2
      exact ⟨rfl, _, rfl, rfl, Step.refl _ _, hsk1⟩
    · simp [putAll, Act.put]
      go_wp2
      exact ⟨rfl, _, rfl, rfl, Step.refl _ _, hsk1⟩
    · simp [putAll, Act.put, hd]
      go_wp2_with fail
      refine (pick_any _ _ 7 _ hsk (by omega)).mono ?_
      rintro e w5 ⟨v5, rfl, ⟨z, rfl, z0, z1, _⟩, hs5, hS5⟩
      have hs6 : Src w.heap.size (100 + ((k + 1 : Nat) : Int)) w5 := hs5.mono (by omega)
      have hz := z1 (by omega)
      clear z1
      go_wp2
      exact ⟨rfl, _, rfl, ⟨z, rfl, z0, hz⟩, hS5, hs6⟩
    · obtain ⟨z, rfl, z0, z1⟩ := hd
      have hw : IntKind.i64.wrap (1 + z) = 1 + z := IntWalk.i64_in _ (by omega)
      simp [putAll, Act.put]
      go_wp2
      exact ⟨rfl, _, rfl, ⟨1 + z, rfl, by omega, by omega⟩, Step.refl _ _, hsk1⟩
    · obtain ⟨hd1, z, rfl, z0, z1⟩ := hd
      subst hd1
      simp [putAll, Act.put]
      go_wp2
      have hlt := hsk.lt
      exact ⟨rfl, _, rfl, ⟨w4.heap.size, [1 + x, z], rfl, rd_lit_new _ (fun _ => rfl) rfl, rfl, by omega⟩, (Step.refl _ _).alloc _, hsk1.ext ((Ext.refl _).alloc _)⟩
    · simp [putAll, Act.put]
      go_wp2
      exact ⟨rfl, _, rfl, rfl, Step.refl _ _, hsk1⟩
    · simp [putAll, Act.put, hd]
      go_wp2_with fail
      refine (pick_any _ _ 2 _ hsk (by omega)).mono ?_
      rintro e w5 ⟨v5, rfl, ⟨z, rfl, z0, z1, _⟩, hs5, hS5⟩
      have hs6 : Src w.heap.size (100 + ((k + 1 : Nat) : Int)) w5 := hs5.mono (by omega)
      have hz := z1 (by omega)
      clear z1
      go_wp2
      exact ⟨rfl, _, rfl, ⟨z, rfl, z0, hz⟩, hS5, hs6⟩
    · obtain ⟨⟨b, LL, rfl, hrd, hll, hb⟩, z, rfl, z0, z1⟩ := hd
      obtain ⟨j, rfl⟩ : ∃ j : Nat, z = j := ⟨z.toNat, by omega⟩
      obtain ⟨u, _, hcell⟩ := lit_at hrd (k := j) (by omega)
      have c0 : w4.cell? ⟨b, j, none⟩ = some (.int .i64 u) := by simpa using hcell 0 _ rfl
      clear hcell hrd
      have hj2 : (j : Int) < 2 := by omega
      simp [putAll, Act.put]
      go_wp2
      exact ⟨rfl, _, rfl, ⟨b, j, u, rfl, c0, hb⟩, Step.refl _ _, hsk1⟩
    · obtain ⟨b, o, u, rfl, c0, hb⟩ := hd
      simp [putAll, Act.put]
      go_wp2
      exact ⟨rfl, _, rfl, ⟨u, rfl⟩, Step.refl _ _, hsk1⟩
    · have h9 : y0 = vL := by first | exact hd | exact hd.1 | exact hd.1.1 | exact hd.2.1
      simp [putAll, Act.put]
      go_wp2
      exact ⟨rfl, _, rfl, h9, Step.refl _ _, hsk1⟩
    · have h9 : y1 = .int .i64 (1 + x) := by first | exact hd | exact hd.1 | exact hd.1.1 | exact hd.2.1
      simp [putAll, Act.put]
      go_wp2
      exact ⟨rfl, _, rfl, h9, Step.refl _ _, hsk1⟩
  · intro vs w4 hvl hE hsn hV
    match vs, hvl with
    | [y0, y1, y2, y3, y4, y5, y6, y7, y8, y9, y10, y11, y12], _ =>
    have e0 := hV 11 (by omega); have e1 := hV 12 (by omega); obtain ⟨u, e10⟩ := hV 10 (by omega)
    simp at e0 e1 e10
    subst e0 e1 e10
    clear hV
    simp only [putAll, Act.put, List.take_succ_cons, List.take_zero, List.drop_succ_cons, List.drop_zero]
    simp
    have hS4 := hS.drew.trans hE
    have h4 := ownsRow_base (ownsRow_step (ownsRow_ext h3 (Ext.refl _).drew) hE hg0) E.size
    go_wp2
    go_ret3
    exact RetV.mk ⟨_, _, _, rfl, L, h1, h4⟩ (hS4.toExt E (Nat.le_refl _))
end Go.Proofs.Ytlmelknadappbaa
