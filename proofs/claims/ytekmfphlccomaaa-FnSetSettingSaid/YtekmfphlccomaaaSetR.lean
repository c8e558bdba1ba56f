/- What a setting that was set is good for (FnSetSetting's plain law). No condition. -/
import Derived.Test.YtekmfphlccomaaaSetP
namespace Go.Proofs.Ytekmfphlccomaaa
open Go.RowKit

theorem lt_irr (a : ByteArray) : ¬ lt a a := fun h => by
  have h0 : ∀ x : List UInt8, Op.bytesLess x x = false := by
    intro x
    induction x with
    | nil => rfl
    | cons y t ih => simp [Op.bytesLess, UInt8.lt_irrefl, ih]
  unfold lt at h
  rw [h0] at h
  cases h
theorem name_one {X : List Set} (h : SetsOk X) {i j : Nat} {x y : Set} (hx : X[i]? = some x) (hy : X[j]? = some y) (e : x.name = y.name) : i = j := by
  rcases Nat.lt_trichotomy i j with c | c | c
  · obtain ⟨d, rfl⟩ : ∃ d, j = i + d + 1 := ⟨j - i - 1, by omega⟩
    have := lt_mono h d i x y hx hy
    rw [e] at this
    exact absurd this (lt_irr _)
  · exact c
  · obtain ⟨d, rfl⟩ : ∃ d, i = j + d + 1 := ⟨i - j - 1, by omega⟩
    have := lt_mono h d j y x hy hx
    rw [e] at this
    exact absurd this (lt_irr _)
/-- It has another name. -/
def noS (nm : ByteArray) (x : Set) : Bool := decide (x.name ≠ nm)
theorem noS_true {nm : ByteArray} {x : Set} (h : x.name ≠ nm) : noS nm x = true := by simp [noS, h]
theorem noS_false {nm : ByteArray} {x : Set} (h : x.name = nm) : noS nm x = false := by simp [noS, h]
theorem setSR_law {l X : List Set} {nm tx : ByteArray} (h : SetSR l nm tx X true) : SetsOk l ∧ SetsOk X ∧ X.filter (noS nm) = l.filter (noS nm) ∧ ∃ k : Nat, X[k]? = some (⟨nm, tx⟩ : Set) := by
  rcases h with ⟨_, _, h⟩ | ⟨h, k, b, hP, ⟨c, rfl, _⟩ | ⟨_, _, h2⟩⟩
  · cases h
  · refine ⟨h, c, ?_, k, ?_⟩
    · cases b with
      | true =>
        obtain ⟨x, hx, hn⟩ := hP.2.2.2.1 rfl
        have hk := (List.getElem?_eq_some_iff.1 hx).1
        have hxe := (List.getElem?_eq_some_iff.1 hx).2
        simp only [putS, if_true]
        have e1 : l = l.take k ++ x :: l.drop (k + 1) := by rw [← hxe, ← List.drop_eq_getElem_cons hk, List.take_append_drop]
        have e2 : l.set k ⟨nm, tx⟩ = l.take k ++ ⟨nm, tx⟩ :: l.drop (k + 1) := by rw [List.set_eq_take_append_cons_drop, if_pos hk]
        rw [e2]
        conv => rhs; rw [e1]
        rw [List.filter_append, List.filter_append, List.filter_cons_of_neg (by simp [noS]), List.filter_cons_of_neg (by simp [noS, hn])]
      | false =>
        simp only [putS, Bool.false_eq_true, if_false]
        rw [List.filter_append, List.filter_cons_of_neg (by simp [noS]), ← List.filter_append, List.take_append_drop]
    · cases b with
      | true =>
        obtain ⟨x, hx, hn⟩ := hP.2.2.2.1 rfl
        have hk := (List.getElem?_eq_some_iff.1 hx).1
        simp only [putS, if_true]
        rw [List.getElem?_set_self hk]
      | false =>
        have hk := hP.1
        simp only [putS, Bool.false_eq_true, if_false]
        rw [List.getElem?_append_right (by rw [List.length_take]; omega), List.length_take, Nat.min_eq_left hk, Nat.sub_self]
        rfl
  · cases h2
theorem setSR_none {l X : List Set} {nm tx : ByteArray} (h : SetSR l nm tx X false) : X = l ∨ X = [] := by
  rcases h with ⟨_, h, _⟩ | ⟨h, k, b, hP, ⟨_, _, c⟩ | ⟨_, h2, _⟩⟩
  · exact .inr h
  · cases c
  · exact .inl h2
theorem setSR_again {X M : List Set} {nm tx : ByteArray} {k : Nat} {ok : Bool} (hX : SetsOk X) (hk : X[k]? = some (⟨nm, tx⟩ : Set)) (h : SetSR X nm tx M ok) : M = X ∧ ok = true := by
  rcases h with ⟨h, _, _⟩ | ⟨_, k', b, hP, hc⟩
  · exact absurd hX h
  · have hkk : k' = k := by
      rcases Nat.lt_trichotomy k' k with c | c | c
      · have hkl := (List.getElem?_eq_some_iff.1 hk).1
        have hz : X[k']? = some X[k'] := List.getElem?_eq_getElem (by omega)
        obtain ⟨d, rfl⟩ : ∃ d, k = k' + d + 1 := ⟨k - k' - 1, by omega⟩
        exact absurd (lt_mono hX d k' _ _ hz hk) (hP.2.2.1 k' _ (Nat.le_refl _) hz)
      · exact c
      · exact absurd (hP.2.1 k _ c hk) (lt_irr _)
    subst hkk
    obtain rfl : b = true := hP.2.2.2.2 ⟨_, hk, rfl⟩
    have e : putS X nm tx k' true = X := by
      simp only [putS, if_true]
      obtain ⟨h1, h2⟩ := List.getElem?_eq_some_iff.1 hk
      rw [← h2]
      exact List.set_getElem_self h1
    rw [e] at hc
    rcases hc with ⟨_, h1, h2⟩ | ⟨h1, _, _⟩
    · exact ⟨h1, h2⟩
    · exact absurd hX h1
theorem sets_fits' {X : List Set} (h : SetsOk X) : FitsS X := fun x hx => by
  obtain ⟨k, hk⟩ := List.getElem?_of_mem hx
  have hok := (h.1 k (List.getElem?_eq_some_iff.1 hk).1 x hk).1
  have h1 : x.name.size ≤ 8 := hok.1.2.2
  have h2 : x.text.size ≤ 16 := hok.2.2
  exact ⟨by omega, by omega⟩
section
variable {α : Type} {l X : List α} {p : α → Bool}
/-- Two lists side by side, of which a part counts. -/
theorem beside (h : X.filter p = l.filter p) {k a : Nat} (hp : (X.take k).filter p = (l.take a).filter p) : (l.drop a).filter p = (X.drop k).filter p := by
  have e1 : X.filter p = (X.take k).filter p ++ (X.drop k).filter p := by rw [← List.filter_append, List.take_append_drop]
  have e2 : l.filter p = (l.take a).filter p ++ (l.drop a).filter p := by rw [← List.filter_append, List.take_append_drop]
  rw [e1, e2, hp] at h
  exact (List.append_cancel_left h).symm
theorem beside_here (h : X.filter p = l.filter p) {k a : Nat} (hp : (X.take k).filter p = (l.take a).filter p) {x : α} (hx : X[k]? = some x) (px : p x = true) :
    a < l.length ∧ ∀ y, l[a]? = some y → p y = true → y = x := by
  have h1 := beside h hp
  obtain ⟨hk, rfl⟩ := List.getElem?_eq_some_iff.1 hx
  rw [List.drop_eq_getElem_cons hk, List.filter_cons_of_pos px] at h1
  have ha : a < l.length := by
    rcases Nat.lt_or_ge a l.length with c | c
    · exact c
    · rw [List.drop_eq_nil_of_le c] at h1; cases h1
  refine ⟨ha, fun y hy py => ?_⟩
  obtain ⟨_, rfl⟩ := List.getElem?_eq_some_iff.1 hy
  rw [List.drop_eq_getElem_cons ha, List.filter_cons_of_pos py] at h1
  exact (List.cons.inj h1).1
theorem beside_end (h : X.filter p = l.filter p) {a : Nat} (hp : X.filter p = (l.take a).filter p) : ∀ y, l[a]? = some y → p y = false := by
  have h1 := beside (k := X.length) h (by rw [List.take_length]; exact hp)
  rw [List.drop_length, List.filter_nil] at h1
  intro y hy
  obtain ⟨ha, rfl⟩ := List.getElem?_eq_some_iff.1 hy
  rw [List.drop_eq_getElem_cons ha] at h1
  cases hpy : p l[a] with
  | false => rfl
  | true => rw [List.filter_cons_of_pos hpy] at h1; cases h1
theorem takeF_skip {k : Nat} {x : α} (hx : l[k]? = some x) (px : p x = false) : (l.take (k + 1)).filter p = (l.take k).filter p := by
  obtain ⟨hk, rfl⟩ := List.getElem?_eq_some_iff.1 hx
  rw [List.take_succ_eq_append_getElem hk, List.filter_append, List.filter_cons_of_neg (by simp [px]), List.filter_nil, List.append_nil]
theorem takeF_both {k a : Nat} (hp : (X.take k).filter p = (l.take a).filter p) {x : α} (hx : X[k]? = some x) (hy : l[a]? = some x) : (X.take (k + 1)).filter p = (l.take (a + 1)).filter p := by
  obtain ⟨hk, hx⟩ := List.getElem?_eq_some_iff.1 hx
  obtain ⟨ha, hy⟩ := List.getElem?_eq_some_iff.1 hy
  rw [List.take_succ_eq_append_getElem hk, List.take_succ_eq_append_getElem ha, List.filter_append, List.filter_append, hp, hx, hy]
end
end Go.Proofs.Ytekmfphlccomaaa
