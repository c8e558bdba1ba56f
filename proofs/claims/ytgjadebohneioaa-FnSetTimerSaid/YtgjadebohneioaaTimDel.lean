/- slices.Delete at []impl.Timer: its contract, for 0 <= i < j <= len. Condition: what is cut is a row in memory that may be written. -/
import Derived.Test.YtgjadebohneioaaCut
import Derived.Test.YtgjadebohneioaaTimFam
namespace Go.Proofs.Ytgjadebohneioaa
open Go.RowKit

theorem zeroTim : ∀ w, (zeroValue 30).run Try.prog w = .ok (.agg #[.int .i64 0, .int .i64 0, .int .i64 0]) w := by intro w; go_simp

set_option maxHeartbeats 4000000 in
theorem delTim_any (base g cap i j : Nat) (l : List Tim) (w : World) (hij : i < j) (hj : j ≤ l.length)
    (hown : w.ownsRow base 30 3 (.slice (some ⟨g, 0, none⟩) l.length cap) l.length (l.flatMap encTim)) :
    Calls Try.prog 35 #[.slice (some ⟨g, 0, none⟩) l.length cap, .int .i64 i, .int .i64 j] w fun e w' => e = .returned (.slice (some ⟨g, 0, none⟩) (l.length - (j - i)) cap) ∧
      w'.ownsRow base 30 3 (.slice (some ⟨g, 0, none⟩) (l.length - (j - i)) cap) (l.length - (j - i)) ((l.take i ++ l.drop j).flatMap encTim) ∧ w.grownBy w' (some g) := by
  obtain ⟨hlc, hcm, hbg⟩ := owns_bound hown
  obtain ⟨i0, hi0, hz0, hz1, hz2⟩ := info_parts infoTim
  have hv := zeroTim
  have mixed : Try.prog.follows .mixedOrders = true := rfl
  obtain ⟨news, hnews⟩ : ∃ news, news = (l.drop j).flatMap encTim := ⟨_, rfl⟩
  have hlen : news.length = (l.length - j) * 3 := by rw [hnews, flatMap_length encTim_len, List.length_drop]
  have hget : ∀ t, t < news.length → ∀ u, news[t]? = some u → w.cell? ⟨g, j * 3 + t, none⟩ = some u := by
    intro t ht u hu
    have hlt : j * 3 + t < l.length * 3 := by omega
    rw [hown.cellAt _ hlt]
    rw [hnews, ← flatMap_drop encTim_len, List.getElem?_drop] at hu
    exact hu
  obtain ⟨A, hA, hsrc⟩ : ∃ A : Addr, (if cap = j then some (⟨g, 0, none⟩ : Addr) else some ⟨g, j * 3, none⟩) = some A ∧ Hid (∀ t u, news[t]? = some u → w.drew.cell? (A.add t) = some u) := by
    by_cases h : cap = j
    · refine ⟨⟨g, 0, none⟩, by simp [h], fun t u hu => ?_⟩
      have h0 : news.length = 0 := by rw [hlen]; omega
      rw [List.length_eq_zero_iff.1 h0] at hu
      simp at hu
    · refine ⟨⟨g, j * 3, none⟩, by simp [h], fun t u hu => ?_⟩
      rw [Addr.add_lit]
      have := hget t (List.getElem?_eq_some_iff.1 hu).1 u hu
      simpa using this
  have s1 : Hid (news.length = (l.length - j) * 3) := hlen
  have s2 : Hid (∀ u ∈ news, u.oneCell' = true) := by
    intro u hu
    rw [hnews] at hu
    obtain ⟨x, _, hx⟩ := List.mem_flatMap.1 hu
    exact encTim_one x u hx
  have s3 : Hid (∀ t, t < news.length → (w.drew.cell? ⟨g, 0 + i * 3 + t, none⟩).isSome = true ∧ w.drew.frozen? ⟨g, 0 + i * 3 + t, none⟩ = false) := by
    intro t ht
    rw [hlen] at ht
    have := owns_there hown (i * 3 + t) (by omega)
    rw [Nat.zero_add]
    exact this
  obtain ⟨W1, hW1⟩ : ∃ W1, W1 = w.drew.setCells g (0 + i * 3) news := ⟨_, rfl⟩
  have hg1 : w.grownBy W1 (some g) := by
    rw [hW1, kit_setCells]
    exact grown_setCells _ _ (grown_of_ext (Ext.refl w).drew _)
  have ho1 : W1.ownsRow base 30 3 (.slice (some ⟨g, 0, none⟩) l.length cap) l.length (setAll (l.flatMap encTim) (i * 3) news) := by
    rw [hW1, kit_setCells, Nat.zero_add]
    exact owns_setCells _ _ hown.drew
  have hcl : ∀ ty, (Builtin.clear_ #[26] ty #[.slice (some ⟨g, (i + (l.length - j)) * 3, none⟩) (l.length - (i + (l.length - j))) (cap - (i + (l.length - j)))]).run Try.prog W1 = .ok (.tuple #[]) (W1.setCells g ((i + (l.length - j)) * 3) (Builtin.zeroCells (.agg #[.int .i64 0, .int .i64 0, .int .i64 0] : Value).cells (l.length - (i + (l.length - j)))).toList) :=
    fun ty => run_clear_cells W1 _ _ ty _ 3 Try.underlying26 hv rfl (by decide) g ((i + (l.length - j)) * 3) (l.length - (i + (l.length - j))) (cap - (i + (l.length - j))) (by omega) (fun t ht => (owns_there ho1 ((i + (l.length - j)) * 3 + t) (by omega)).1) (fun t ht => (owns_there ho1 ((i + (l.length - j)) * 3 + t) (by omega)).2)
  obtain ⟨W2, hW2⟩ : ∃ W2, W2 = W1.setCells g ((i + (l.length - j)) * 3) (Builtin.zeroCells (.agg #[.int .i64 0, .int .i64 0, .int .i64 0] : Value).cells (l.length - (i + (l.length - j)))).toList := ⟨_, rfl⟩
  rw [← hW2] at hcl
  have hg2 : Hid (w.grownBy W2 (some g)) := by
    rw [hW2, kit_setCells]
    exact grown_setCells _ _ hg1
  have ho2 : Hid (W2.ownsRow base 30 3 (.slice (some ⟨g, 0, none⟩) (l.length - (j - i)) cap) (l.length - (j - i)) ((l.take i ++ l.drop j).flatMap encTim)) := by
    have h := owns_shrink (m := l.length - (j - i)) (owns_setCells (Builtin.zeroCells (.agg #[.int .i64 0, .int .i64 0, .int .i64 0] : Value).cells (l.length - (i + (l.length - j)))).toList ((i + (l.length - j)) * 3) ho1) (by omega)
    rw [hnews, del_list encTim_len l i j (by omega) hj _ (by simp [Builtin.zeroCells, Value.cells]; omega)] at h
    rw [hW2, kit_setCells]
    exact Lib.hid (by simpa using h)
  have hW : Hid (W1 = w.drew.setCells g (0 + i * 3) news) := hW1
  have hic : i ≤ cap := by omega
  have hjc : j ≤ cap := by omega
  clear hW1 hW2 hg1 ho1 hown hget hnews hlen hbg
  go_enter Try.func35, Try.ntmps35
  go_wp2_with fail
  go_region_law_o (refine step_append_room rfl (.tmp 22) (.tmp 25) 26 rfl 30 i0 3 Try.underlying26 hi0 hz1 g 0 i cap (by simp [Act.eval, Act.put]) A (l.length - j) (cap - j) news (by simp [Act.eval, Act.put]) s1.out hsrc.out s2.out (by omega) s3.out ?_; rw [← hW.out])
  go_wp2
  go_ret
  refine ⟨by rw [show l.length - (j - i) = i + (l.length - j) by omega]; rfl, ho2.out, hg2.out⟩
end Go.Proofs.Ytgjadebohneioaa
