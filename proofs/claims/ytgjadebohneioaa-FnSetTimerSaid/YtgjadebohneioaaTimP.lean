/- FnEndTimers, FnSetTimer: the plain laws. No condition. -/
import Derived.Test.YtgjadebohneioaaTimE
namespace Go.Proofs.Ytgjadebohneioaa
open Go.RowKit

theorem again_len {t : Tim} {r r' : List Tim} (h : AgainR t r r') : r'.length ≤ r.length + 1 := by
  rcases h with ⟨_, h⟩ | ⟨_, rfl⟩
  · rw [insR_len h]; omega
  · omega
theorem endR_facts {now : Int} : ∀ (n : Nat) {o L : List Tim} {W : List Int}, EndR now n o L W → L.length ≤ o.length ∧ (n ≤ W.length ∨ L = [] ∨ ∃ t r, L = t :: r ∧ now < t.tm) := by
  intro n
  induction n with
  | zero => rintro o L W ⟨rfl, rfl⟩; exact ⟨Nat.le_refl _, .inl (Nat.zero_le _)⟩
  | succ n ih =>
    intro o L W h
    cases o with
    | nil => obtain ⟨rfl, rfl⟩ := h; exact ⟨Nat.le_refl _, .inr (.inl rfl)⟩
    | cons t r =>
      rcases h with ⟨h, rfl, rfl⟩ | ⟨h, a, V, ha, he, rfl⟩
      · exact ⟨Nat.le_refl _, .inr (.inr ⟨t, r, rfl, h⟩)⟩
      · obtain ⟨h1, h2⟩ := ih he
        have h3 := again_len ha
        refine ⟨by rw [List.length_cons]; omega, ?_⟩
        rcases h2 with h2 | h2
        · exact .inl (by rw [List.length_cons]; omega)
        · exact .inr h2
theorem endR_more {now : Int} {n : Nat} {L M : List Tim} {V : List Int} (hc : L = [] ∨ ∃ t r, L = t :: r ∧ now < t.tm) (h : EndR now n L M V) : V = [] := by
  cases n with
  | zero => exact h.2
  | succ n =>
    rcases hc with rfl | ⟨t, r, rfl, ht⟩
    · exact h.2
    · rcases h with ⟨_, _, rfl⟩ | ⟨h, _⟩
      · rfl
      · omega
theorem tims_head {t : Tim} {r : List Tim} (h : TimsOk (t :: r)) : ∀ (j : Nat) y, r[j]? = some y → t.tm ≤ y.tm := by
  intro j
  induction j with
  | zero =>
    intro y hy
    have hl := (List.getElem?_eq_some_iff.1 hy).1
    exact (h.1 1 (by simp; omega) y (by simpa using hy)).2 0 t rfl rfl
  | succ j ih =>
    intro y hy
    have hl := (List.getElem?_eq_some_iff.1 hy).1
    have hj : r[j]? = some r[j] := List.getElem?_eq_getElem (by omega)
    have h1 := ih _ hj
    have h2 := (h.1 (j + 2) (by simp; omega) y (by simpa using hy)).2 (j + 1) r[j] rfl (by simp)
    omega
theorem mem_ins {r : List Tim} {x y : Tim} {r' : List Tim} (h : InsR r x r') : (y ∈ r' ↔ y = x ∨ y ∈ r) := by
  obtain ⟨k, _, rfl⟩ := h
  unfold insT
  rw [List.mem_append, List.mem_cons]
  conv => rhs; rw [← List.take_append_drop k r, List.mem_append]
  constructor
  · rintro (h | h | h)
    · exact .inr (.inl h)
    · exact .inl h
    · exact .inr (.inr h)
  · rintro (h | h | h)
    · exact .inr (.inl h)
    · exact .inl h
    · exact .inr (.inr h)
theorem mem_again {t y : Tim} {r r' : List Tim} (h : AgainR t r r') (hy : y ∈ r) : y ∈ r' := by
  rcases h with ⟨_, h⟩ | ⟨_, rfl⟩
  · exact (mem_ins h).2 (.inr hy)
  · exact hy
theorem endR_mem {now : Int} : ∀ (n : Nat) {o L : List Tim} {W : List Int} {x : Tim}, TimsOk o → x ∈ o → x.tm ≤ now → EndR now n o L W → x.who ∈ W ∨ W.length = n := by
  intro n
  induction n with
  | zero => rintro o L W x _ _ _ ⟨rfl, rfl⟩; exact .inr rfl
  | succ n ih =>
    intro o L W x hok hx hn h
    cases o with
    | nil => cases hx
    | cons t r =>
      rcases h with ⟨h, rfl, rfl⟩ | ⟨h, a, V, ha, he, rfl⟩
      · exfalso
        rcases List.mem_cons.1 hx with rfl | hx
        · omega
        · obtain ⟨j, hj⟩ := List.getElem?_of_mem hx
          have := tims_head hok j x hj
          omega
      · rcases List.mem_cons.1 hx with rfl | hx
        · exact .inl (by simp)
        · rcases ih (again_ok hok ha) (mem_again ha hx) hn he with h9 | h9
          · exact .inl (by simp [h9])
          · exact .inr (by rw [List.length_cons, h9])
/-- What FnEndTimers asks. -/
theorem ends_law {l L M : List Tim} {now : Int} {W V : List Int} (hv : TimsOk l ∧ 0 ≤ now ∧ now ≤ 100000) (h : EndsR l now L W) (h' : EndsR L now M V) :
    TimsOk L ∧ L.length ≤ l.length ∧ (40 ≤ W.length ∨ (V = [] ∧ (L = [] ∨ ∃ t r, L = t :: r ∧ now < t.tm))) := by
  obtain ⟨_, hR, hE⟩ := h.resolve_left (fun h => h.1 hv)
  obtain ⟨h1, h2⟩ := endR_facts 40 hE
  refine ⟨hR.2.1, h1, ?_⟩
  rcases h2 with h2 | h2
  · exact .inl h2
  · refine .inr ⟨?_, h2⟩
    obtain ⟨_, _, hE'⟩ := h'.resolve_left (fun h => h.1 ⟨hR.2.1, hv.2⟩)
    exact endR_more h2 hE'
theorem ends_bad {l L : List Tim} {now : Int} {W : List Int} (hv : ¬ (TimsOk l ∧ 0 ≤ now ∧ now ≤ 100000)) (h : EndsR l now L W) : L = [] ∧ W = [] := by
  rcases h with h | h
  · exact h.2
  · exact absurd h.1 hv
/-- What FnSetTimer asks. -/
theorem set_law {l X M : List Tim} {x : Tim} {W : List Int} (h : SetTR l x X true) (h' : EndsR X x.tm M W) : TimsOk X ∧ X.length = l.length + 1 ∧ (x.who ∈ W ∨ W.length = 40) := by
  rcases h with ⟨_, _, h⟩ | ⟨_, M', hM, ⟨hok, rfl, _⟩ | ⟨_, _, h⟩⟩
  · exact Bool.noConfusion h
  · have hx : x ∈ X := (mem_ins hM).2 (.inl rfl)
    obtain ⟨j, hj⟩ := List.getElem?_of_mem hx
    have hxo := (hok.1 j (List.getElem?_eq_some_iff.1 hj).1 x hj).1
    obtain ⟨_, _, hE⟩ := h'.resolve_left (fun h => h.1 ⟨hok, hxo.1⟩)
    exact ⟨hok, insR_len hM, endR_mem 40 hok hx (Int.le_refl _) hE⟩
  · exact Bool.noConfusion h
theorem set_false {l X : List Tim} {x : Tim} (h : SetTR l x X false) : X = l ∨ X = [] := by
  rcases h with ⟨_, h, _⟩ | ⟨_, M', hM, ⟨_, _, h⟩ | ⟨_, h, _⟩⟩
  · exact .inr h
  · exact Bool.noConfusion h
  · exact .inl h
end Go.Proofs.Ytgjadebohneioaa
