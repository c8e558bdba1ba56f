/- slices.Sort and slices.Compact at a row of the call's own. Condition: lists of at most 2^20. -/
import Derived.Test.YtlmelknadappbaaSort
import Derived.Sort.OwnSortedInts
import Derived.Lib.RowBridge
import Derived.Test.YtlmelknadappbaaCut
import Derived.Test.YtlmelknadappbaaIntS
namespace Go.Proofs.Ytlmelknadappbaa
open Go.RowKit Go.Sort

def sorted (l : List Int) : List Int := l.mergeSort fun x y => decide (x ≤ y)
theorem sorted_len (l : List Int) : (sorted l).length = l.length := by simp [sorted, List.length_mergeSort]
theorem fm_map (l : List Int) : l.flatMap encInt1 = l.map (Value.int .i64) := by
  induction l with
  | nil => rfl
  | cons a l ih => simp only [List.flatMap_cons, List.map_cons, ih]; rfl
theorem sort_own (base g cap : Nat) (l : List Int) (w : World) (hl : l.length ≤ 1048576) (hown : w.ownsRow base 3 1 (.slice (some ⟨g, 0, none⟩) l.length cap) l.length (l.flatMap encInt1)) :
    Calls Try.prog 49 #[.slice (some ⟨g, 0, none⟩) l.length cap] w fun e w' => e = .returned (.tuple #[]) ∧ w'.ownsRow base 3 1 (.slice (some ⟨g, 0, none⟩) l.length cap) l.length ((sorted l).flatMap encInt1) ∧ w.grownBy w' (some g) := by
  rw [fm_map] at hown
  rcases hown.2 with ⟨h0, _⟩ | ⟨g', cap', cur, hv, hbg, hb, h1, h2, h3, h4⟩
  · cases h0
  cases hv
  refine (sort_raw g 0 cap l w (holds_of_blockI hb (by simpa using h4)) (Array.getElem?_eq_some_iff.1 hb).1 (by omega)).mono ?_
  rintro e w' ⟨rfl, n, os, rfl⟩
  refine ⟨rfl, ?_, grownBy_sortedI _⟩
  rw [fm_map]
  exact ownsRow_sortedI (sorted_len l) hbg hb h1 h2 h3
theorem compact_own (base g cap : Nat) (l : List Int) (w : World) (hl : l.length ≤ 1048576) (hown : w.ownsRow base 3 1 (.slice (some ⟨g, 0, none⟩) l.length cap) l.length (l.flatMap encInt1)) :
    Calls Try.prog 50 #[.slice (some ⟨g, 0, none⟩) l.length cap] w fun e w' => e = .returned (.slice (some ⟨g, 0, none⟩) (Lib.compact l).length cap) ∧ w'.ownsRow base 3 1 (.slice (some ⟨g, 0, none⟩) (Lib.compact l).length cap) (Lib.compact l).length ((Lib.compact l).flatMap encInt1) ∧ w.grownBy w' (some g) := by
  rw [fm_map] at hown
  rcases hown.2 with ⟨h0, _⟩ | ⟨g', cap', cur, hv, hbg, hb, h1, h2, h3, h4⟩
  · cases h0
  cases hv
  have hle := Lib.compact_length_le l
  refine (compact_raw g 0 cap l w (holds_of_blockI hb (by simpa using h4)) (by omega) h1).mono ?_
  rintro e w' ⟨rfl, q, rfl⟩
  have hg := grownBy_sortedI (w := w) (g := g) (n := q) (os := #[]) (Lib.compact l ++ List.replicate (l.length - (Lib.compact l).length) 0).toArray
  have ho := ownsRow_sortedI (n := q) (os := #[]) (ss := l) (ts := Lib.compact l ++ List.replicate (l.length - (Lib.compact l).length) 0) (by simp; omega) hbg hb h1 h2 h3
  rw [grow_empty] at hg ho
  have h9 := owns_shrink ho hle
  rw [Nat.mul_one, List.map_append, List.take_append_of_le_length (by simp), List.take_of_length_le (by simp), ← fm_map] at h9
  exact ⟨rfl, h9, hg⟩
end Go.Proofs.Ytlmelknadappbaa
