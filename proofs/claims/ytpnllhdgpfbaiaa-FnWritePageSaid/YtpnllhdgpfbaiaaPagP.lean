/- Memories: the plain laws of MemoryValid, FrameUses, ReadPage, ForkMemory, WritePage. No condition. -/
import Derived.Test.YtpnllhdgpfbaiaaPagY
namespace Go.Proofs.Ytpnllhdgpfbaiaa
open Go.RowKit

theorem mem_bad (F : List Int) : ¬ MemOk F [[(F.length : Int)]] := fun h => by
  have := ((h.pages 0 [(F.length : Int)] rfl).2 0 (by simp) _ rfl).1
  omega
theorem mem_none {F : List Int} {T : List (List Int)} (h : MemOk F T) : MemOk F [] := ⟨h.frames, by simp, h.uses, fun j t ht => by simp at ht⟩

/-! ### FrameUses -/
theorem sum_take {X : List Int} {k : Nat} {x : Int} (h : X[k]? = some x) : (X.take (k + 1)).sum = (X.take k).sum + x := by
  rw [List.take_add_one, h]
  simp
theorem usesP_sum : ∀ {P : List Int} {n : Nat}, (∀ x ∈ P, 0 ≤ x ∧ x < n) → (usesP n P).sum = P.length := by
  intro P
  induction P with
  | nil => intro n _; rw [usesP_zero]; simp
  | cons a P ih =>
    intro n h
    have h1 := ih (n := n) (fun x hx => h x (List.mem_cons_of_mem _ hx))
    obtain ⟨a0, a1⟩ := h a (by simp)
    -- place by place
    have key : ∀ m : Nat, (usesP m (a :: P)).sum = (usesP m P).sum + if a < m then 1 else 0 := by
      intro m
      induction m with
      | zero => simp [usesP]; omega
      | succ m ihm =>
        rw [← usesP_snoc, ← usesP_snoc, List.sum_append, List.sum_append, ihm]
        rw [List.count_cons]
        by_cases e : a = (m : Int)
        · subst e
          have e1 : ¬ (m : Int) < (m : Int) := by omega
          have e2 : (m : Int) < ((m + 1 : Nat) : Int) := by push_cast; omega
          rw [if_neg e1, if_pos e2]
          simp
          omega
        · by_cases e2 : a < (m : Int)
          · have e3 : a < ((m + 1 : Nat) : Int) := by push_cast; omega
            rw [if_pos e2, if_pos e3]
            simp [e]
            omega
          · have e3 : ¬ a < ((m + 1 : Nat) : Int) := by push_cast; omega
            rw [if_neg e2, if_neg e3]
            simp [e]
    rw [key n, h1, if_pos a1]
    simp
theorem pages_in {F : List Int} {T : List (List Int)} (h : MemOk F T) : ∀ x ∈ T.flatten, 0 ≤ x ∧ x < F.length := fun x hx => by
  obtain ⟨t, ht, hx⟩ := List.mem_flatten.1 hx
  obtain ⟨k, hk⟩ := List.getElem?_of_mem ht
  obtain ⟨j, hj⟩ := List.getElem?_of_mem hx
  have := ((h.pages k t hk).2 j (List.getElem?_eq_some_iff.1 hj).1 x hj).1
  omega
theorem uses_law {F : List Int} {T : List (List Int)} (h : MemOk F T) {X : List Int} (hX : UsesR F T X) : X.length = F.length ∧ X.sum = (sumL T : Int) ∧ ∀ x ∈ X, 0 ≤ x ∧ x ≤ 20 := by
  rw [hX.2 h]
  refine ⟨usesP_len _ _, ?_, fun x hx => ?_⟩
  · rw [usesP_sum (pages_in h), flat_len]
  · unfold usesP at hx
    obtain ⟨g, _, rfl⟩ := List.mem_map.1 hx
    have h1 := count_le T.flatten (g : Int)
    rw [flat_len] at h1
    have h2 := small_sum (same_small h)
    omega
theorem sum_bound {X : List Int} (h : ∀ x ∈ X, 0 ≤ x ∧ x ≤ 20) (k : Nat) : 0 ≤ (X.take k).sum ∧ (X.take k).sum ≤ 20 * X.length := by
  have key : ∀ Y : List Int, (∀ x ∈ Y, 0 ≤ x ∧ x ≤ 20) → 0 ≤ Y.sum ∧ Y.sum ≤ 20 * Y.length := by
    intro Y
    induction Y with
    | nil => intro _; simp
    | cons y Y ih =>
      intro hY
      have h1 := hY y (by simp)
      have h2 := ih (fun x hx => hY x (List.mem_cons_of_mem _ hx))
      simp only [List.sum_cons, List.length_cons]
      push_cast
      omega
  have h3 := key (X.take k) (fun x hx => h x (List.mem_of_mem_take hx))
  have h4 : (X.take k).length ≤ X.length := by simp; omega
  omega

theorem sumL_small {T : List (List Int)} (h : ∀ t ∈ T, t.length ≤ 4) (h6 : T.length ≤ 6) : sumL T ≤ 24 := by
  have key : ∀ (T : List (List Int)), (∀ t ∈ T, t.length ≤ 4) → sumL T ≤ 4 * T.length := by
    intro T
    induction T with
    | nil => intro _; simp [sumL]
    | cons t T ih =>
      intro h
      have h1 := h t (by simp)
      have h2 := ih (fun t ht => h t (by simp [ht]))
      simp only [sumL, List.length_cons]
      omega
  have := key T h
  omega

/-! ### ReadPage -/
theorem read_in {F : List Int} {T : List (List Int)} (h : MemOk F T) {k j : Nat} {t : List Int} {f : Int} (ht : T[k]? = some t) (hf : t[j]? = some f) {n : Int} (hn : ReadR F T k j n) : ∃ g : Nat, f = g ∧ F[g]? = some n := by
  obtain ⟨g, rfl, hg⟩ := frame_of h ht hf
  refine ⟨g, rfl, ?_⟩
  rw [hn.1 h, readP, pageAt_some ht hf]
  simp [List.getElem?_eq_getElem hg]
theorem read_out {F : List Int} {T : List (List Int)} {who page n : Int} (h : MemOk F T → pageAt T who page = none) (hn : ReadR F T who page n) : n = -1 := by
  by_cases hv : MemOk F T
  · rw [hn.1 hv, readP, h hv]
  · exact hn.2 hv

/-! ### ForkMemory -/
theorem fork_law {F : List Int} {T : List (List Int)} {who : Int} {F2 : List Int} {T2 : List (List Int)} (h : ForkR F T who F2 T2 true) :
    F2 = F ∧ T2.length = T.length + 1 ∧ MemOk F T ∧ MemOk F2 T2 ∧ ∀ page n m : Int, ReadR F2 T2 ((T2.length : Int) - 1) page n → ReadR F2 T2 who page m → n = m := by
  rcases h with ⟨_, _, _, h⟩ | ⟨_, _, _, _, h⟩ | ⟨h, ⟨h1, h2, h3⟩, t, ht, rfl, rfl, _⟩
  · cases h
  · cases h
  · obtain ⟨k, rfl⟩ : ∃ k : Nat, who = k := ⟨who.toNat, by omega⟩
    rw [Int.toNat_natCast] at ht
    have hk := (List.getElem?_eq_some_iff.1 ht).1
    have hv : MemOk F2 (T ++ [t]) := ⟨h.frames, by have := h.tables; simp; omega, h.uses, fun j u hu => by
      by_cases hj : j < T.length
      · rw [List.getElem?_append_left hj] at hu; exact h.pages j u hu
      · have hj2 := (List.getElem?_eq_some_iff.1 hu).1
        simp only [List.length_append, List.length_singleton] at hj2
        obtain rfl : j = T.length := by omega
        rw [List.getElem?_append_right (Nat.le_refl _), Nat.sub_self] at hu
        obtain rfl : t = u := by simpa using hu
        exact h.pages k t ht⟩
    refine ⟨rfl, by simp, h, hv, fun page n m hn hm => ?_⟩
    rw [hn.1 hv, hm.1 hv, readP, readP]
    have e : pageAt (T ++ [t]) (((T ++ [t]).length : Int) - 1) page = pageAt (T ++ [t]) (k : Int) page := by
      unfold pageAt
      have e1 : (((T ++ [t]).length : Int) - 1) = (T.length : Int) := by simp
      rw [e1]
      simp only [Int.toNat_natCast, List.getElem?_append_right (Nat.le_refl T.length), Nat.sub_self, List.getElem?_cons_zero, List.getElem?_append_left hk, ht]
      simp
    rw [e]
theorem fork_none {F : List Int} {T : List (List Int)} {who : Int} {F2 : List Int} {T2 : List (List Int)} (h : ForkR F T who F2 T2 false) : (F2 = F ∧ T2 = T) ∨ (F2 = [] ∧ T2 = []) := by
  rcases h with ⟨_, h1, h2, _⟩ | ⟨_, _, h1, h2, _⟩ | ⟨_, _, _, _, _, _, h⟩
  · exact .inr ⟨h1, h2⟩
  · exact .inl ⟨h1, h2⟩
  · cases h

/-! ### WritePage -/
theorem count_two {F : List Int} {T : List (List Int)} (h : MemOk F T) {k j k' j' : Nat} {t t' : List Int} {f : Int} (ht : T[k]? = some t) (hj : t[j]? = some f) (ht' : T[k']? = some t') (hj' : t'[j']? = some f) (hne : ¬ (k = k' ∧ j = j')) : 2 ≤ T.flatten.count f := by
  have key : ∀ {k k' : Nat} {t t' : List Int}, T[k]? = some t → T[k']? = some t' → f ∈ t → f ∈ t' → k < k' → 2 ≤ T.flatten.count f := by
    intro k k' t t' ht ht' hf hf' hlt
    obtain ⟨hk', e⟩ := List.getElem?_eq_some_iff.1 ht'
    have e0 : T = T.take k' ++ (t' :: T.drop (k' + 1)) := by rw [← e, ← List.drop_eq_getElem_cons hk', List.take_append_drop]
    have hm : t ∈ T.take k' := List.mem_of_getElem? (i := k) (by rw [List.getElem?_take, if_pos hlt]; exact ht)
    rw [e0, List.flatten_append, List.flatten_cons, List.count_append, List.count_append]
    have h1 : 1 ≤ (T.take k').flatten.count f := List.one_le_count_iff.2 (List.mem_flatten.2 ⟨t, hm, hf⟩)
    have h2 : 1 ≤ t'.count f := List.one_le_count_iff.2 hf'
    omega
  have m1 := List.mem_of_getElem? hj
  have m2 := List.mem_of_getElem? hj'
  rcases Nat.lt_trichotomy k k' with c | c | c
  · exact key ht ht' m1 m2 c
  · subst c
    rw [ht] at ht'; cases ht'
    have hp := (h.pages k t ht).2
    have one : ∀ {a b : Nat}, t[a]? = some f → t[b]? = some f → a < b → False := fun {a b} ha hb hab => by
      exact (hp b (List.getElem?_eq_some_iff.1 hb).1 f hb).2 (in_take ha hab)
    rcases Nat.lt_trichotomy j j' with d | d | d
    · exact (one hj hj' d).elim
    · exact absurd ⟨rfl, d⟩ hne
    · exact (one hj' hj d).elim
  · exact key ht' ht m2 m1 c
theorem tabOk_set {n m : Nat} {t : List Int} (h : TabOk n t) (hnm : n ≤ m) {j : Nat} (g : Nat) (hg : g < m) (hgt : (g : Int) ∉ t) : TabOk m (t.set j g) := by
  refine ⟨by rw [List.length_set]; exact h.1, fun i hi x hx => ?_⟩
  rw [List.length_set] at hi
  have hsub : ∀ y, y ∈ (t.set j (g : Int)).take i → i ≤ j → y ∈ t.take i := fun y hy hij => by
    rw [List.take_set_of_le hij] at hy
    exact hy
  by_cases e : j = i
  · subst e
    rw [List.getElem?_set_self hi] at hx
    obtain rfl := Option.some.inj hx
    refine ⟨by omega, fun hm => hgt (List.mem_of_mem_take (hsub _ hm (Nat.le_refl _)))⟩
  · rw [List.getElem?_set_ne e] at hx
    obtain ⟨h1, h2⟩ := h.2 i hi x hx
    refine ⟨by omega, fun hm => ?_⟩
    obtain ⟨i', hi'⟩ := List.getElem?_of_mem hm
    rw [List.getElem?_take] at hi'
    split at hi'
    · rename_i hlt
      by_cases e2 : j = i'
      · subst e2
        rw [List.getElem?_set_self (by omega)] at hi'
        obtain rfl := Option.some.inj hi'
        exact hgt (List.mem_of_getElem? hx)
      · rw [List.getElem?_set_ne e2] at hi'
        exact h2 (in_take hi' hlt)
    · cases hi'
theorem tab_more {n m : Nat} {t : List Int} (h : TabOk n t) (hnm : n ≤ m) : TabOk m t := ⟨h.1, fun j hj x hx => by
  obtain ⟨h1, h2⟩ := h.2 j hj x hx
  exact ⟨by omega, h2⟩⟩
theorem use_set {F : List Int} (h : ∀ (j : Nat) x, F[j]? = some x → UseOk x) {num : Int} (hn : UseOk num) (g : Nat) : ∀ (j : Nat) x, (F.set g num)[j]? = some x → UseOk x := fun j x hx => by
  rcases List.mem_or_eq_of_mem_set (List.mem_of_getElem? hx) with hm | rfl
  · obtain ⟨i, hi⟩ := List.getElem?_of_mem hm
    exact h i x hi
  · exact hn
theorem readP_at {F : List Int} {T : List (List Int)} {k j g : Nat} {t : List Int} (ht : T[k]? = some t) (hf : t[j]? = some (g : Int)) : readP F T k j = (F[g]?).getD (-1) := by
  unfold readP
  rw [pageAt_some ht hf]
  simp
theorem write_law {F : List Int} {T : List (List Int)} {who page num : Int} {F2 : List Int} {T2 : List (List Int)} (h : WriteR F T who page num F2 T2 true) :
    MemOk F T ∧ MemOk F2 T2 ∧ ∀ (k j : Nat) t f n m, T[k]? = some t → t[j]? = some f → ReadR F T k j n → ReadR F2 T2 k j m → m = if (k : Int) = who ∧ (j : Int) = page then num else n := by
  rcases h with ⟨_, _, _, h⟩ | ⟨_, _, _, _, h⟩ | ⟨hv, hu, k, j, t, f, rfl, rfl, ht, hf, hW⟩
  · cases h
  · cases h
  have hk := (List.getElem?_eq_some_iff.1 ht).1
  have hj := (List.getElem?_eq_some_iff.1 hf).1
  have hlen := hv.frames
  have absent : ∀ {g : Nat}, T.flatten.count (g : Int) = 0 → ∀ {k' j' : Nat} {t' : List Int} {f' : Nat}, T[k']? = some t' → t'[j']? = some (f' : Int) → f' ≠ g := fun {g} h0 {k' j' t' f'} ht' hf' e => by
    subst e
    have hm : (f' : Int) ∈ T.flatten := List.mem_flatten.2 ⟨t', List.mem_of_getElem? ht', List.mem_of_getElem? hf'⟩
    have := List.one_le_count_iff.2 hm
    omega
  have pagesSet : ∀ {m g : Nat}, F.length ≤ m → g < m → (g : Int) ∉ t → ∀ (i : Nat) u, (T.set k (t.set j (g : Int)))[i]? = some u → TabOk m u := fun {m g} hm hg hgt i u hui => by
    by_cases e : k = i
    · subst e
      rw [List.getElem?_set_self hk] at hui
      obtain rfl := Option.some.inj hui
      exact tabOk_set (hv.pages k t ht) hm g hg hgt
    · rw [List.getElem?_set_ne e] at hui
      exact tab_more (hv.pages i u hui) hm
  have atSet : ∀ {g k' j' : Nat} {t' : List Int} {f' : Nat}, T[k']? = some t' → t'[j']? = some (f' : Int) → ∃ t2, (T.set k (t.set j (g : Int)))[k']? = some t2 ∧ t2[j']? = some (((if k' = k ∧ j' = j then g else f') : Nat) : Int) := fun {g k' j' t' f'} ht' hf' => by
    by_cases e : k = k'
    · subst e
      rw [ht] at ht'; cases ht'
      refine ⟨t.set j g, by rw [List.getElem?_set_self hk], ?_⟩
      by_cases e2 : j = j'
      · subst e2
        rw [List.getElem?_set_self hj, if_pos ⟨rfl, rfl⟩]
      · rw [List.getElem?_set_ne e2, if_neg (fun h => e2 h.2.symm)]
        exact hf'
    · exact ⟨t', by rw [List.getElem?_set_ne e]; exact ht', by rw [if_neg (fun h => e h.1.symm)]; exact hf'⟩
  rcases hW with ⟨hc, rfl, rfl, _⟩ | ⟨hc, g, hg, ⟨hgl, rfl, rfl, _⟩ | ⟨_, _, _, _, h⟩ | ⟨hgl, h12, rfl, rfl, _⟩⟩
  · have hv2 : MemOk (F.set f num) T2 := ⟨by rw [List.length_set]; exact hv.frames, hv.tables, use_set hv.uses hu f, fun i u hui => by rw [List.length_set]; exact hv.pages i u hui⟩
    refine ⟨hv, hv2, fun k' j' t' f' n m ht' hf' hn hm => ?_⟩
    obtain ⟨g', rfl, hg'⟩ := frame_of hv ht' hf'
    rw [hm.1 hv2, readP_at ht' hf', hn.1 hv, readP_at ht' hf']
    by_cases e : f = g'
    · subst e
      have he : k' = k ∧ j' = j := Classical.byContradiction fun hne => by
        have := count_two hv ht' hf' ht hf hne
        omega
      rw [if_pos (by omega), List.getElem?_set_self (by omega)]
      rfl
    · rw [List.getElem?_set_ne e]
      by_cases e2 : k' = k ∧ j' = j
      · obtain ⟨rfl, rfl⟩ := e2
        rw [ht] at ht'; cases ht'
        rw [hf] at hf'
        have := Option.some.inj hf'
        omega
      · rw [if_neg (by omega)]
  · have h0 := hg.2.2 hgl
    have hgt : (g : Int) ∉ t := fun hm => by
      have hm2 : (g : Int) ∈ T.flatten := List.mem_flatten.2 ⟨t, List.mem_of_getElem? ht, hm⟩
      have := List.one_le_count_iff.2 hm2
      omega
    have hv2 : MemOk (F.set g num) (T.set k (t.set j g)) := ⟨by rw [List.length_set]; exact hv.frames, by rw [List.length_set]; exact hv.tables, use_set hv.uses hu g, fun i u hui => by rw [List.length_set]; exact pagesSet (Nat.le_refl _) hgl hgt i u hui⟩
    refine ⟨hv, hv2, fun k' j' t' f' n m ht' hf' hn hm => ?_⟩
    obtain ⟨g', rfl, hg'⟩ := frame_of hv ht' hf'
    obtain ⟨t2, ht2, hf2⟩ := atSet (g := g) ht' hf'
    rw [hm.1 hv2, readP_at ht2 hf2, hn.1 hv, readP_at ht' hf']
    by_cases e2 : k' = k ∧ j' = j
    · rw [if_pos e2, if_pos (by omega), List.getElem?_set_self hgl]
      rfl
    · rw [if_neg e2, if_neg (by omega), List.getElem?_set_ne (fun e => absent h0 ht' hf' e.symm)]
  · cases h
  · have hgt : (g : Int) ∉ t := fun hm => by
      have hm2 : (g : Int) ∈ T.flatten := List.mem_flatten.2 ⟨t, List.mem_of_getElem? ht, hm⟩
      have := pages_in hv _ hm2
      omega
    have hv2 : MemOk (F ++ [num]) (T.set k (t.set j g)) := ⟨by simp; omega, by rw [List.length_set]; exact hv.tables, fun i x hx => by
      rcases List.mem_append.1 (List.mem_of_getElem? hx) with hm | hm
      · obtain ⟨i', hi'⟩ := List.getElem?_of_mem hm
        exact hv.uses i' x hi'
      · rw [List.mem_singleton.1 hm]; exact hu, fun i u hui => by
      have e1 : (F ++ [num]).length = F.length + 1 := by simp
      rw [e1]
      exact pagesSet (by omega) (by omega) hgt i u hui⟩
    refine ⟨hv, hv2, fun k' j' t' f' n m ht' hf' hn hm => ?_⟩
    obtain ⟨g', rfl, hg'⟩ := frame_of hv ht' hf'
    obtain ⟨t2, ht2, hf2⟩ := atSet (g := g) ht' hf'
    rw [hm.1 hv2, readP_at ht2 hf2, hn.1 hv, readP_at ht' hf']
    by_cases e2 : k' = k ∧ j' = j
    · rw [if_pos e2, if_pos (by omega), hgl, List.getElem?_append_right (Nat.le_refl _), Nat.sub_self]
      rfl
    · rw [if_neg e2, if_neg (by omega), List.getElem?_append_left hg']
theorem write_none {F : List Int} {T : List (List Int)} {who page num : Int} {F2 : List Int} {T2 : List (List Int)} (h : WriteR F T who page num F2 T2 false) : (F2 = F ∧ T2 = T) ∨ (F2 = [] ∧ T2 = []) := by
  rcases h with ⟨_, h1, h2, _⟩ | ⟨_, _, h1, h2, _⟩ | ⟨_, _, k, j, t, f, _, _, _, _, ⟨_, _, _, h⟩ | ⟨_, g, _, ⟨_, _, _, h⟩ | ⟨_, _, h1, h2, _⟩ | ⟨_, _, _, _, h⟩⟩⟩
  · exact .inr ⟨h1, h2⟩
  · exact .inl ⟨h1, h2⟩
  · cases h
  · cases h
  · exact .inl ⟨h1, h2⟩
  · cases h
end Go.Proofs.Ytpnllhdgpfbaiaa
