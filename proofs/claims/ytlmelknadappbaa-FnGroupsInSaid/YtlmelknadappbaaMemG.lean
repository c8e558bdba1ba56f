/- GroupsIn: what it computes, and the plain law. No condition. -/
import Derived.Test.YtlmelknadappbaaMemV
import Derived.Test.YtlmelknadappbaaSortO
namespace Go.Proofs.Ytlmelknadappbaa
open Go.RowKit

/-- A group of the session. -/
def InG (l : List Mem) (s g : Int) : Prop := ∃ m ∈ l, m.ses = s ∧ m.grp = g
/-- The groups of a session, each once, ascending. -/
def GroupsR (l : List Mem) (s : Int) (X : List Int) : Prop := (¬ MembersOk l → X = []) ∧ (MembersOk l → X.Pairwise (· < ·) ∧ ∀ g, g ∈ X ↔ InG l s g)
theorem asc_fun : ∀ {X Y : List Int}, X.Pairwise (· < ·) → Y.Pairwise (· < ·) → (∀ g, g ∈ X ↔ g ∈ Y) → X = Y
  | [], [], _, _, _ => rfl
  | [], y :: Y, _, _, h => by have := (h y).2 (by simp); simp at this
  | x :: X, [], _, _, h => by have := (h x).1 (by simp); simp at this
  | x :: X, y :: Y, hX, hY, h => by
    rw [List.pairwise_cons] at hX hY
    have e : x = y := by
      have h1 : x ∈ y :: Y := (h x).1 (by simp)
      have h2 : y ∈ x :: X := (h y).2 (by simp)
      rcases List.mem_cons.1 h1 with e | h1
      · exact e
      · rcases List.mem_cons.1 h2 with e | h2
        · exact e.symm
        · have h3 := hX.1 y h2
          have h4 := hY.1 x h1
          omega
    subst e
    rw [asc_fun hX.2 hY.2 (fun g => ⟨fun hg => ?_, fun hg => ?_⟩)]
    · rcases List.mem_cons.1 ((h g).1 (List.mem_cons_of_mem _ hg)) with rfl | h3
      · have := hX.1 _ hg; omega
      · exact h3
    · rcases List.mem_cons.1 ((h g).2 (List.mem_cons_of_mem _ hg)) with rfl | h3
      · have := hY.1 _ hg; omega
      · exact h3
theorem groupsR_fun {l : List Mem} {s : Int} {X Y : List Int} (h : GroupsR l s X) (h' : GroupsR l s Y) : X = Y := by
  by_cases hv : MembersOk l
  · exact asc_fun (h.2 hv).1 (h'.2 hv).1 (fun g => ((h.2 hv).2 g).trans ((h'.2 hv).2 g).symm)
  · exact (h.1 hv).trans (h'.1 hv).symm
theorem mem_grp {l : List Mem} (h : MembersOk l) {m : Mem} (hm : m ∈ l) : 1 ≤ m.grp ∧ m.grp ≤ 99 := by
  obtain ⟨k, hk⟩ := List.getElem?_of_mem hm
  exact (h.1 k (mem_lt hk) m hk).1.2.1
/-- Ascending numbers from lo to hi are few. -/
theorem asc_len : ∀ {X : List Int} {lo hi : Int}, X.Pairwise (· < ·) → (∀ x ∈ X, lo ≤ x ∧ x ≤ hi) → lo ≤ hi + 1 → (X.length : Int) ≤ hi + 1 - lo
  | [], lo, hi, _, _, h => by simp; omega
  | x :: X, lo, hi, hX, hb, h => by
    rw [List.pairwise_cons] at hX
    have h1 := hb x (by simp)
    have := asc_len (X := X) (lo := x + 1) (hi := hi) hX.2 (fun y hy => by have h2 := hX.1 y hy; have h3 := hb y (List.mem_cons_of_mem _ hy); omega) (by omega)
    simp only [List.length_cons]
    push_cast
    omega
theorem groupsR_len {l : List Mem} {s : Int} {X : List Int} (h : GroupsR l s X) : X.length ≤ 99 := by
  by_cases hv : MembersOk l
  · have h1 := asc_len (lo := 1) (hi := 99) (h.2 hv).1 (fun g hg => by
      obtain ⟨m, hm, _, rfl⟩ := ((h.2 hv).2 g).1 hg
      exact mem_grp hv hm) (by omega)
    omega
  · rw [h.1 hv]; simp

/-! ### slices.Compact of sorted numbers -/
theorem compact_eq (l : List Int) : Lib.compact l = Lib.compactUpTo l.toArray l.length := rfl
theorem arr_get (l : List Int) (j : Nat) (hj : j < l.length) : l.toArray[j]! = l[j] := by
  rw [getElem!_pos l.toArray j (by simpa using hj)]; simp
theorem compactUp_asc {l : List Int} (hs : l.Pairwise (· ≤ ·)) : ∀ m, m ≤ l.length → (Lib.compactUpTo l.toArray m).Pairwise (· < ·) ∧ (∀ g, g ∈ Lib.compactUpTo l.toArray m ↔ g ∈ l.take m) ∧ (∀ g ∈ Lib.compactUpTo l.toArray m, ∀ j, (h : j < l.length) → m ≤ j + 1 → g ≤ l[j])
  | 0, _ => by
    refine ⟨by simp [Lib.compactUpTo], fun g => by simp [Lib.compactUpTo], fun g hg => by simp [Lib.compactUpTo] at hg⟩
  | m + 1, hm => by
    obtain ⟨h1, h2, h3⟩ := compactUp_asc hs m (by omega)
    have hml : m < l.length := by omega
    have hle : ∀ (i j : Nat) (hi : i < l.length) (hj : j < l.length), i ≤ j → l[i] ≤ l[j] := fun i j hi hj hij => by
      rcases Nat.lt_or_eq_of_le hij with c | rfl
      · exact List.pairwise_iff_getElem.1 hs i j hi hj c
      · exact Int.le_refl _
    rw [Lib.compactUpTo_succ, arr_get l m hml, List.take_succ_eq_append_getElem hml]
    by_cases hk : Lib.keeps l.toArray m = true
    · rw [if_pos hk]
      have hgt : ∀ g ∈ Lib.compactUpTo l.toArray m, g < l[m] := fun g hg => by
        have ha := h3 g hg
        rcases Nat.eq_zero_or_pos m with rfl | hp
        · simp [Lib.compactUpTo] at hg
        · have hb := ha (m - 1) (by omega) (by omega)
          have hc := hle (m - 1) m (by omega) hml (by omega)
          have hne : l[m] ≠ l[m - 1] := by
            simp only [Lib.keeps, decide_eq_true_eq] at hk
            rcases hk with h0 | h0
            · omega
            · rwa [arr_get l m hml, arr_get l (m - 1) (by omega)] at h0
          omega
      refine ⟨?_, fun g => ?_, fun g hg j hj hmj => ?_⟩
      · rw [List.pairwise_append]
        exact ⟨h1, List.pairwise_singleton _ _, fun a ha b hb => by rw [List.mem_singleton.1 hb]; exact hgt a ha⟩
      · simp only [List.mem_append, h2, List.mem_singleton]
      · rcases List.mem_append.1 hg with hg | hg
        · exact Int.le_trans (Int.le_of_lt (hgt g hg)) (hle m j hml hj (by omega))
        · rw [List.mem_singleton.1 hg]; exact hle m j hml hj (by omega)
    · rw [if_neg hk, List.append_nil]
      have hk2 : m ≠ 0 ∧ l[m] = l[m - 1]'(by omega) := by
        simp only [Lib.keeps, decide_eq_true_eq, not_or, Classical.not_not] at hk
        refine ⟨hk.1, ?_⟩
        have := hk.2
        rwa [arr_get l m hml, arr_get l (m - 1) (by omega)] at this
      refine ⟨h1, fun g => ?_, fun g hg j hj hmj => h3 g hg j hj (by omega)⟩
      rw [h2, List.mem_append, List.mem_singleton]
      constructor
      · exact .inl
      · rintro (h | rfl)
        · exact h
        · rw [hk2.2]
          refine List.mem_iff_getElem?.2 ⟨m - 1, ?_⟩
          rw [List.getElem?_take, if_pos (by omega), List.getElem?_eq_getElem (by omega)]
theorem sorted_asc (l : List Int) : (sorted l).Pairwise (· ≤ ·) := by
  have h := List.pairwise_mergeSort (le := fun x y : Int => decide (x ≤ y)) (fun a b c h1 h2 => by simp at *; omega) (fun a b => by simp; omega) l
  exact h.imp (fun h => by simpa using h)
theorem sorted_mem (l : List Int) (g : Int) : g ∈ sorted l ↔ g ∈ l := by simp [sorted]
theorem compact_sorted (l : List Int) : (Lib.compact (sorted l)).Pairwise (· < ·) ∧ ∀ g, g ∈ Lib.compact (sorted l) ↔ g ∈ l := by
  obtain ⟨h1, h2, _⟩ := compactUp_asc (sorted_asc l) (sorted l).length (Nat.le_refl _)
  rw [← compact_eq] at h1 h2
  refine ⟨h1, fun g => ?_⟩
  rw [h2, List.take_length, sorted_mem]
/-- The groups of the first k. -/
def grpsOf (l : List Mem) (s : Int) (k : Nat) : List Int := ((l.take k).filter (fun m => decide (m.ses = s))).map (·.grp)
theorem grpsOf_len (l : List Mem) (s : Int) (k : Nat) : (grpsOf l s k).length ≤ l.length := by
  unfold grpsOf
  rw [List.length_map]
  exact Nat.le_trans (List.length_filter_le _ _) (by simp; omega)
theorem grpsOf_yes {l : List Mem} {s : Int} {k : Nat} {x : Mem} (hx : l[k]? = some x) (h : x.ses = s) : grpsOf l s (k + 1) = grpsOf l s k ++ [x.grp] := by
  obtain ⟨hk, rfl⟩ := List.getElem?_eq_some_iff.1 hx
  unfold grpsOf
  rw [List.take_succ_eq_append_getElem hk, List.filter_append, List.map_append]
  simp [h]
theorem grpsOf_no {l : List Mem} {s : Int} {k : Nat} {x : Mem} (hx : l[k]? = some x) (h : x.ses ≠ s) : grpsOf l s (k + 1) = grpsOf l s k := by
  obtain ⟨hk, rfl⟩ := List.getElem?_eq_some_iff.1 hx
  unfold grpsOf
  rw [List.take_succ_eq_append_getElem hk, List.filter_append, List.map_append]
  simp [h]
theorem grpsOf_mem (l : List Mem) (s g : Int) : g ∈ grpsOf l s l.length ↔ InG l s g := by
  unfold grpsOf InG
  rw [List.take_length]
  simp only [List.mem_map, List.mem_filter, decide_eq_true_eq]
  constructor
  · rintro ⟨m, ⟨h1, h2⟩, h3⟩; exact ⟨m, h1, h2, h3⟩
  · rintro ⟨m, h1, h2, h3⟩; exact ⟨m, ⟨h1, h2⟩, h3⟩
theorem groupsR_impl {l : List Mem} (h : MembersOk l) (s : Int) : GroupsR l s (Lib.compact (sorted (grpsOf l s l.length))) := by
  refine ⟨fun hn => absurd h hn, fun _ => ?_⟩
  obtain ⟨h1, h2⟩ := compact_sorted (grpsOf l s l.length)
  exact ⟨h1, fun g => (h2 g).trans (grpsOf_mem l s g)⟩
/-- What stands before group n of the reference's loop. -/
def UpTo (l : List Mem) (s n : Int) (X : List Int) : Prop := X.Pairwise (· < ·) ∧ (∀ g ∈ X, g < n) ∧ ∀ g, 1 ≤ g → g < n → (g ∈ X ↔ InG l s g)
theorem upTo_one (l : List Mem) (s : Int) : UpTo l s 1 [] := ⟨.nil, by simp, fun g h1 h2 => by omega⟩
theorem upTo_yes {l : List Mem} {s n : Int} {X : List Int} (h : UpTo l s n X) (hn : InG l s n) : UpTo l s (n + 1) (X ++ [n]) := by
  refine ⟨?_, fun g hg => ?_, fun g h1 h2 => ?_⟩
  · rw [List.pairwise_append]
    exact ⟨h.1, List.pairwise_singleton _ _, fun a ha b hb => by rw [List.mem_singleton.1 hb]; exact h.2.1 a ha⟩
  · rcases List.mem_append.1 hg with hg | hg
    · have := h.2.1 g hg; omega
    · rw [List.mem_singleton.1 hg]; omega
  · rw [List.mem_append, List.mem_singleton]
    by_cases e : g = n
    · subst e; exact ⟨fun _ => hn, fun _ => .inr rfl⟩
    · rw [h.2.2 g h1 (by omega)]
      exact ⟨fun h => h.resolve_right e, .inl⟩
theorem upTo_no {l : List Mem} {s n : Int} {X : List Int} (h : UpTo l s n X) (hn : ¬ InG l s n) : UpTo l s (n + 1) X := by
  refine ⟨h.1, fun g hg => by have := h.2.1 g hg; omega, fun g h1 h2 => ?_⟩
  by_cases e : g = n
  · subst e; exact ⟨fun hg => by have := h.2.1 g hg; omega, fun hg => absurd hg hn⟩
  · exact h.2.2 g h1 (by omega)
theorem groupsR_spec {l : List Mem} (h : MembersOk l) {s : Int} {X : List Int} (hu : UpTo l s 100 X) (hp : ∀ g ∈ X, 1 ≤ g) : GroupsR l s X := by
  refine ⟨fun hn => absurd h hn, fun _ => ⟨hu.1, fun g => ⟨fun hg => ?_, fun hg => ?_⟩⟩⟩
  · exact (hu.2.2 g (hp g hg) (hu.2.1 g hg)).1 hg
  · have h2 : 1 ≤ g ∧ g ≤ 99 := by obtain ⟨m, hm, _, rfl⟩ := hg; exact mem_grp h hm
    exact (hu.2.2 g h2.1 (by omega)).2 hg
/-- A group of the session among the first k. -/
def InGK (l : List Mem) (s g : Int) (k : Nat) : Prop := ∃ (j : Nat) (y : Mem), j < k ∧ l[j]? = some y ∧ y.grp = g ∧ y.ses = s
theorem inGK_zero (l : List Mem) (s g : Int) : ¬ InGK l s g 0 := by rintro ⟨j, _, h, _⟩; omega
theorem inGK_step {l : List Mem} {y : Mem} {s g : Int} {k : Nat} (hy : l[k]? = some y) : InGK l s g (k + 1) ↔ InGK l s g k ∨ (y.grp = g ∧ y.ses = s) := by
  constructor
  · rintro ⟨j, z, hj, hz, h⟩
    rcases Nat.lt_succ_iff_lt_or_eq.1 hj with h' | rfl
    · exact .inl ⟨j, z, h', hz, h⟩
    · rw [hy] at hz; cases hz; exact .inr h
  · rintro (⟨j, z, hj, hz, h⟩ | h)
    · exact ⟨j, z, by omega, hz, h⟩
    · exact ⟨k, y, by omega, hy, h⟩
theorem inGK_end (l : List Mem) (s g : Int) : InGK l s g l.length ↔ InG l s g := by
  constructor
  · rintro ⟨j, z, hj, hz, h1, h2⟩; exact ⟨z, List.mem_of_getElem? hz, h2, h1⟩
  · rintro ⟨z, hz, h2, h1⟩
    obtain ⟨j, hj⟩ := List.getElem?_of_mem hz
    exact ⟨j, z, mem_lt hj, hj, h1, h2⟩
/-- FnGroupsIn's inner question. -/
theorem groups_ask {l : List Mem} {s : Int} {X : List Int} (h : GroupsR l s X) (hv : MembersOk l) {x : Mem} (hx : x ∈ l) : x.grp ∈ X ↔ x.ses = s := by
  rw [(h.2 hv).2]
  constructor
  · rintro ⟨m, hm, h1, h2⟩
    -- one group, one session
    obtain ⟨i, hi⟩ := List.getElem?_of_mem hm
    obtain ⟨k, hk⟩ := List.getElem?_of_mem hx
    rcases Nat.lt_trichotomy i k with c | c | c
    · have := (hv.1 k (mem_lt hk) x hk).2.2 i m c hi
      rw [← h1]
      refine Classical.byContradiction fun hne => this ⟨h2, fun e => hne e.symm⟩
    · subst c; rw [hi] at hk; cases hk; exact h1
    · have := (hv.1 i (mem_lt hi) m hi).2.2 k x c hk
      rw [← h1]
      refine Classical.byContradiction fun hne => this ⟨h2.symm, fun e => hne e⟩
  · intro h; exact ⟨x, hx, h, rfl⟩
end Go.Proofs.Ytlmelknadappbaa
