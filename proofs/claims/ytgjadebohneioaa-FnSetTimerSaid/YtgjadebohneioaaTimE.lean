/- EndTimers: the plain law. No condition. -/
import Derived.Test.YtgjadebohneioaaTimS
namespace Go.Proofs.Ytgjadebohneioaa
open Go.RowKit

def AgainR (t : Tim) (r r' : List Tim) : Prop := ((0 < t.ag ∧ t.tm + t.ag ≤ 100000) ∧ InsR r ⟨t.tm + t.ag, t.who, t.ag⟩ r') ∨ (¬ (0 < t.ag ∧ t.tm + t.ag ≤ 100000) ∧ r' = r)
def EndR (now : Int) : Nat → List Tim → List Tim → List Int → Prop
  | 0, o, L, W => L = o ∧ W = []
  | _ + 1, [], L, W => L = [] ∧ W = []
  | n + 1, t :: r, L, W => (now < t.tm ∧ L = t :: r ∧ W = []) ∨ (t.tm ≤ now ∧ ∃ r' W', AgainR t r r' ∧ EndR now n r' L W' ∧ W = t.who :: W')
theorem again_fun {t : Tim} {r a b : List Tim} (h : AgainR t r a) (h' : AgainR t r b) : a = b := by
  rcases h with ⟨h, x⟩ | ⟨h, rfl⟩ <;> rcases h' with ⟨h', y⟩ | ⟨h', rfl⟩
  · exact insR_fun x y
  · exact absurd h h'
  · exact absurd h' h
  · rfl
theorem endR_fun {now : Int} : ∀ (n : Nat) {o L L' : List Tim} {W W' : List Int}, EndR now n o L W → EndR now n o L' W' → L = L' ∧ W = W' := by
  intro n
  induction n with
  | zero => rintro o L L' W W' ⟨rfl, rfl⟩ ⟨rfl, rfl⟩; exact ⟨rfl, rfl⟩
  | succ n ih =>
    intro o L L' W W' h h'
    cases o with
    | nil => obtain ⟨rfl, rfl⟩ := h; obtain ⟨rfl, rfl⟩ := h'; exact ⟨rfl, rfl⟩
    | cons t r =>
      rcases h with ⟨h, rfl, rfl⟩ | ⟨h, a, V, ha, he, rfl⟩ <;> rcases h' with ⟨h', rfl, rfl⟩ | ⟨h', b, V', hb, he', rfl⟩
      · exact ⟨rfl, rfl⟩
      · omega
      · omega
      · obtain rfl := again_fun ha hb
        obtain ⟨rfl, rfl⟩ := ih he he'
        exact ⟨rfl, rfl⟩
theorem getElem?_insT {l : List Tim} {x : Tim} {k : Nat} (hk : k ≤ l.length) (j : Nat) : (insT l x k)[j]? = if j < k then l[j]? else if j = k then some x else l[j - 1]? := by
  unfold insT
  by_cases h1 : j < k
  · rw [if_pos h1, List.getElem?_append_left (by rw [List.length_take]; omega), List.getElem?_take_of_lt h1]
  · rw [if_neg h1, List.getElem?_append_right (by rw [List.length_take]; omega), List.length_take, Nat.min_eq_left hk]
    by_cases h2 : j = k
    · rw [if_pos h2, h2, Nat.sub_self]; rfl
    · rw [if_neg h2]
      obtain ⟨m, rfl⟩ : ∃ m, j = k + 1 + m := ⟨j - k - 1, by omega⟩
      rw [show k + 1 + m - k = m + 1 by omega, List.getElem?_cons_succ, List.getElem?_drop, show k + 1 + m - 1 = k + m by omega]
theorem tims_ins {r : List Tim} {x : Tim} {r' : List Tim} (h : TimsOk r) (h7 : r.length ≤ 7) (hx : okTim x) (hi : InsR r x r') : TimsOk r' := by
  have hlen := insR_len hi
  obtain ⟨k, ⟨hk, ha, hb⟩, rfl⟩ := hi
  have g0 : ∀ j y, r[j]? = some y → okTim y := fun j y hy => (h.1 j (List.getElem?_eq_some_iff.1 hy).1 y hy).1
  have g1 : ∀ j y p, r[j + 1]? = some y → r[j]? = some p → p.tm ≤ y.tm := fun j y p hy hp => (h.1 _ (List.getElem?_eq_some_iff.1 hy).1 y hy).2 j p rfl hp
  refine ⟨fun j hj y hy => ?_, by omega⟩
  rw [getElem?_insT hk] at hy
  refine ⟨?_, fun m p hm hp => ?_⟩
  · split at hy
    · exact g0 _ _ hy
    · split at hy
      · cases hy; exact hx
      · exact g0 _ _ hy
  · subst hm
    rw [getElem?_insT hk] at hp
    by_cases c1 : m + 1 < k
    · rw [if_pos c1] at hy
      rw [if_pos (by omega)] at hp
      exact g1 m y p hy hp
    · rw [if_neg c1] at hy
      by_cases c2 : m + 1 = k
      · rw [if_pos c2] at hy
        cases hy
        rw [if_pos (by omega)] at hp
        exact hb m p c2.symm hp
      · rw [if_neg c2] at hy
        rw [show m + 1 - 1 = m by omega] at hy
        rw [if_neg (by omega)] at hp
        by_cases c3 : m = k
        · rw [if_pos c3] at hp
          cases hp
          have := ha m y (by omega) hy
          omega
        · rw [if_neg c3] at hp
          obtain ⟨i, rfl⟩ : ∃ i, m = i + 1 := ⟨m - 1, by omega⟩
          exact g1 i y p hy hp
theorem tims_tail {t : Tim} {r : List Tim} (h : TimsOk (t :: r)) : TimsOk r ∧ r.length ≤ 7 ∧ okTim t := by
  refine ⟨⟨fun k hk x hx => ?_, ?_⟩, ?_, (h.1 0 (by simp) t rfl).1⟩
  · have h1 := h.1 (k + 1) (by simp; omega) x (by simpa using hx)
    refine ⟨h1.1, fun m p hm hp => h1.2 (m + 1) p (by omega) (by simpa using hp)⟩
  · have := h.2; simp at this; omega
  · have := h.2; simp at this; omega
theorem again_ok {t : Tim} {r r' : List Tim} (h : TimsOk (t :: r)) (ha : AgainR t r r') : TimsOk r' := by
  obtain ⟨h1, h2, h3⟩ := tims_tail h
  rcases ha with ⟨⟨c1, c2⟩, hi⟩ | ⟨_, rfl⟩
  · have h4 := h3.1.1
    exact tims_ins (x := ⟨t.tm + t.ag, t.who, t.ag⟩) h1 h2 ⟨⟨by show 0 ≤ t.tm + t.ag; omega, c2⟩, h3.2.1, h3.2.2⟩ hi
  · exact h1
/-- How far it has come: e have ended, o is left. -/
def Run (now : Int) (l o : List Tim) (e : List Int) : Prop := e.length ≤ 40 ∧ TimsOk o ∧ ∀ L W, EndR now (40 - e.length) o L W → EndR now 40 l L (e ++ W)
theorem run_start {now : Int} {l : List Tim} (h : TimsOk l) : Run now l l [] := ⟨by simp, h, fun L W hE => by simpa using hE⟩
theorem run_step {now : Int} {l r r' : List Tim} {t : Tim} {e : List Int} (h : Run now l (t :: r) e) (he : e.length < 40) (ht : t.tm ≤ now) (ha : AgainR t r r') : Run now l r' (e ++ [t.who]) := by
  refine ⟨by simp; omega, again_ok h.2.1 ha, fun L W hE => ?_⟩
  have h2 := h.2.2 L (t.who :: W)
  rw [show 40 - e.length = (39 - e.length) + 1 by omega] at h2
  rw [show 40 - (e ++ [t.who]).length = 39 - e.length by rw [List.length_append]; show 40 - (e.length + 1) = _; omega] at hE
  have := h2 (.inr ⟨ht, r', W, ha, hE, rfl⟩)
  simpa using this
theorem run_end {now : Int} {l o : List Tim} {e : List Int} (h : Run now l o e) (hc : o = [] ∨ (∃ t r, o = t :: r ∧ now < t.tm) ∨ 40 ≤ e.length) : EndR now 40 l o e := by
  have h2 := h.2.2 o []
  rw [List.append_nil] at h2
  apply h2
  have := h.1
  rcases hc with rfl | ⟨t, r, rfl, ht⟩ | hc
  · cases h9 : 40 - e.length with
    | zero => exact ⟨rfl, rfl⟩
    | succ n => exact ⟨rfl, rfl⟩
  · cases h9 : 40 - e.length with
    | zero => exact ⟨rfl, rfl⟩
    | succ n => exact .inl ⟨ht, rfl, rfl⟩
  · rw [show 40 - e.length = 0 by omega]; exact ⟨rfl, rfl⟩
def EndsR (l : List Tim) (now : Int) (L : List Tim) (W : List Int) : Prop :=
  (¬ (TimsOk l ∧ 0 ≤ now ∧ now ≤ 100000) ∧ L = [] ∧ W = []) ∨ ((TimsOk l ∧ 0 ≤ now ∧ now ≤ 100000) ∧ Run now l L W ∧ EndR now 40 l L W)
theorem endsR_fun {l : List Tim} {now : Int} {L L' : List Tim} {W W' : List Int} (h : EndsR l now L W) (h' : EndsR l now L' W') : L = L' ∧ W = W' := by
  rcases h with ⟨h, rfl, rfl⟩ | ⟨h, _, hE⟩ <;> rcases h' with ⟨h', rfl, rfl⟩ | ⟨h', _, hE'⟩
  · exact ⟨rfl, rfl⟩
  · exact absurd h' h
  · exact absurd h h'
  · exact endR_fun _ hE hE'
theorem endsR_len {l : List Tim} {now : Int} {L : List Tim} {W : List Int} (h : EndsR l now L W) : L.length ≤ 8 ∧ W.length ≤ 40 := by
  rcases h with ⟨_, rfl, rfl⟩ | ⟨_, h, _⟩
  · simp
  · exact ⟨h.2.1.2, h.1⟩
end Go.Proofs.Ytgjadebohneioaa
