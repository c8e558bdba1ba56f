/- What is owned, cut and cleared: plain laws for slices.Delete. No condition. -/
import Derived.Test.YtlmelknadappbaaApp
import Derived.Deep.RegionLaw
import Derived.Shelf.RegionOpenPlain
import Derived.Lib.SliceRun
namespace Go.Proofs.Ytlmelknadappbaa
open Go.RowKit

section
variable {P : Program} {α : Type}

theorem kit_setCells (g : Nat) : ∀ (us : List Value) (p : Nat) (w : World), w.setCells g p us = setCells w g p us := by
  intro us
  induction us with
  | nil => intro p w; rfl
  | cons u us ih => intro p w; exact ih (p + 1) _
theorem setAll_eq (us : List Value) : ∀ (xs : List Value) (p : Nat), p + us.length ≤ xs.length → setAll xs p us = xs.take p ++ us ++ xs.drop (p + us.length) := by
  intro xs p h
  apply List.ext_getElem?
  intro i
  rw [setAll_at us xs p i h]
  by_cases h1 : i < p
  · rw [if_neg (by omega), List.append_assoc, List.getElem?_append_left (by simp; omega), List.getElem?_take, if_pos h1]
  · by_cases h2 : i < p + us.length
    · rw [if_pos (by omega), List.append_assoc, List.getElem?_append_right (by simp; omega), List.getElem?_append_left (by simp; omega)]
      simp only [List.length_take]
      congr 1
      omega
    · rw [if_neg (by omega), List.append_assoc, List.getElem?_append_right (by simp; omega), List.getElem?_append_right (by simp; omega), List.getElem?_drop]
      simp only [List.length_take]
      congr 1
      omega
theorem flatMap_take {enc : α → List Value} {nf : Nat} (hn : ∀ x, (enc x).length = nf) (l : List α) (i : Nat) : (l.flatMap enc).take (i * nf) = (l.take i).flatMap enc := by
  induction l generalizing i with
  | nil => simp
  | cons x l ih =>
    cases i with
    | zero => simp
    | succ i => rw [List.flatMap_cons, List.take_succ_cons, List.flatMap_cons, List.take_append, hn, Nat.add_mul, Nat.one_mul, Nat.add_sub_cancel, ih, List.take_of_length_le (by rw [hn]; omega)]
theorem flatMap_drop {enc : α → List Value} {nf : Nat} (hn : ∀ x, (enc x).length = nf) (l : List α) (i : Nat) : (l.flatMap enc).drop (i * nf) = (l.drop i).flatMap enc := by
  induction l generalizing i with
  | nil => simp
  | cons x l ih =>
    cases i with
    | zero => simp
    | succ i => rw [List.flatMap_cons, List.drop_succ_cons, List.drop_append, hn, Nat.add_mul, Nat.one_mul, Nat.add_sub_cancel, ih, List.drop_of_length_le (by rw [hn]; omega), List.nil_append]
/-- What stands behind i is moved to the left, the rest is overwritten: what stays. -/
theorem del_list {enc : α → List Value} {nf : Nat} (hn : ∀ x, (enc x).length = nf) (l : List α) (i j : Nat) (hij : i ≤ j) (hj : j ≤ l.length) (zs : List Value) (hz : zs.length = (j - i) * nf) :
    (setAll (setAll (l.flatMap enc) (i * nf) ((l.drop j).flatMap enc)) ((i + (l.length - j)) * nf) zs).take ((l.length - (j - i)) * nf) = (l.take i ++ l.drop j).flatMap enc := by
  have hll := flatMap_length hn l
  have hld := flatMap_length hn (l.drop j)
  rw [List.length_drop] at hld
  have e1 : i * nf + (l.length - j) * nf = (i + (l.length - j)) * nf := by rw [Nat.add_mul]
  have e2 : (i + (l.length - j)) * nf + (j - i) * nf = l.length * nf := by rw [← Nat.add_mul]; congr 1; omega
  have hs := setAll_eq ((l.drop j).flatMap enc) (l.flatMap enc) (i * nf) (by rw [hld, hll]; omega)
  rw [hs]
  have hlen : ((l.flatMap enc).take (i * nf) ++ (l.drop j).flatMap enc ++ (l.flatMap enc).drop (i * nf + ((l.drop j).flatMap enc).length)).length = l.length * nf := by
    simp only [List.length_append, List.length_take, List.length_drop, hld, hll]
    omega
  rw [setAll_eq zs _ _ (by rw [hlen, hz]; omega), List.append_assoc, show l.length - (j - i) = i + (l.length - j) by omega, List.take_append_of_le_length (by rw [List.length_take, hlen]; omega), List.take_take, Nat.min_self]
  rw [List.take_append_of_le_length (by simp only [List.length_append, List.length_take, hld, hll]; omega), List.take_of_length_le (by simp only [List.length_append, List.length_take, hld, hll]; omega), flatMap_take hn, List.flatMap_append]

theorem owns_shrink {w : World} {base e nf g n m cap : Nat} {xs : List Value} (h : w.ownsRow base e nf (.slice (some ⟨g, 0, none⟩) n cap) n xs) (hm : m ≤ n) : w.ownsRow base e nf (.slice (some ⟨g, 0, none⟩) m cap) m (xs.take (m * nf)) := by
  have hmul : m * nf ≤ n * nf := Nat.mul_le_mul_right _ hm
  refine ⟨by rw [List.length_take, h.1]; omega, .inr ?_⟩
  rcases h.2 with ⟨h1, _⟩ | ⟨g', cap', cur, h1, h2, h3, h4, h5, h6, h7⟩
  · cases h1
  · simp only [Value.slice.injEq, Option.some.injEq, Addr.mk.injEq, and_true] at h1
    obtain ⟨rfl, _, rfl⟩ := h1
    refine ⟨g, cap, cur, rfl, h2, h3, by omega, h5, h6, ?_⟩
    rw [← h7, List.take_take, Nat.min_eq_left hmul]
theorem owns_there {w : World} {base e nf g n cap : Nat} {xs : List Value} (h : w.ownsRow base e nf (.slice (some ⟨g, 0, none⟩) n cap) n xs) (k : Nat) (hk : k < n * nf) : (w.cell? ⟨g, k, none⟩).isSome = true ∧ w.frozen? ⟨g, k, none⟩ = false := by
  refine ⟨?_, h.frozenAt _⟩
  rw [h.cellAt k hk, List.getElem?_eq_getElem (by rw [h.1]; exact hk)]
  rfl
theorem owns_bound {w : World} {base e nf g n cap : Nat} {xs : List Value} (h : w.ownsRow base e nf (.slice (some ⟨g, 0, none⟩) n cap) n xs) : n ≤ cap ∧ cap ≤ 9223372036854775807 ∧ base ≤ g := by
  rcases h.2 with ⟨h1, _⟩ | ⟨g', cap', cur, h1, h2, h3, h4, h5, h6, h7⟩
  · cases h1
  · simp only [Value.slice.injEq, Option.some.injEq, Addr.mk.injEq, and_true] at h1
    obtain ⟨rfl, _, rfl⟩ := h1
    unfold maxLen at h5
    exact ⟨h4, by omega, h2⟩

/-- 'clear(s)', elements of any number of cells. -/
theorem run_clear_cells (w : World) (t e ty : TypeId) (z : Value) (nf : Nat) (ht : P.underlying t = some (.slice e)) (hv : ∀ w, (zeroValue e).run P w = .ok z w) (hz : z.cells.size = nf) (h1 : ∀ u ∈ z.cells.toList, u.oneCell' = true) (b o n c : Nat) (hn : 0 < n)
    (hc : ∀ j, j < n * nf → (w.cell? ⟨b, o + j, none⟩).isSome = true) (hf : ∀ j, j < n * nf → w.frozen? ⟨b, o + j, none⟩ = false) :
    (Builtin.clear_ #[t] ty #[.slice (some ⟨b, o, none⟩) n c]).run P w = .ok (.tuple #[]) (w.setCells b o (Builtin.zeroCells z.cells n).toList) := by
  have hlen : (Builtin.zeroCells z.cells n).toList.length = n * nf := by simp [Builtin.zeroCells, hz]
  have hst := run_storeCells_cells (P := P) b o (Builtin.zeroCells z.cells n).toList 0 w (by rw [hlen]; simpa using hc) (by rw [hlen]; simpa using hf) (by
    intro u hu
    simp only [Builtin.zeroCells, Array.toList_map, List.mem_map] at hu
    obtain ⟨i, hi, rfl⟩ := hu
    have hi2 : i < n * z.cells.size := by simpa using hi
    have hpos : 0 < z.cells.size := by
      rcases Nat.eq_zero_or_pos z.cells.size with h | h
      · rw [h] at hi2; simp at hi2
      · exact h
    rw [getElem!_pos z.cells _ (Nat.mod_lt _ hpos)]
    exact h1 _ (by simp))
  simp only [Nat.add_zero] at hst
  obtain ⟨m, rfl⟩ : ∃ m, n = m + 1 := ⟨n - 1, by omega⟩
  simp [Builtin.clear_, run_underlying ht, hv, hst]
end
end Go.Proofs.Ytlmelknadappbaa
