/- Which message is taken: the plain law, no program in sight. No condition. -/
import Derived.Test.YtlbnfnfaojjpaaaMailV
namespace Go.Proofs.Ytlbnfnfaojjpaaa
open Go.RowKit

def FitsM (kind : Int) (m : Mail) : Prop := kind = 0 ∨ (0 < kind ∧ m.kind = kind) ∨ (kind < 0 ∧ m.kind ≤ -kind)
/-- b is the place of the best one among the first k, -1 if none fits. -/
def BestM (kind : Int) (l : List Mail) (k : Nat) (b : Int) : Prop :=
  (b = -1 ∧ ∀ j m, j < k → l[j]? = some m → ¬ FitsM kind m) ∨
  ∃ j : Nat, ∃ m, b = j ∧ j < k ∧ l[j]? = some m ∧ FitsM kind m ∧
    ∀ i x, i < k → l[i]? = some x → FitsM kind x → (kind < 0 → m.kind ≤ x.kind ∧ (i < j → m.kind < x.kind)) ∧ (0 ≤ kind → j ≤ i)

theorem bestM_zero (kind : Int) (l : List Mail) : BestM kind l 0 (-1) := .inl ⟨rfl, fun _ _ h => absurd h (Nat.not_lt_zero _)⟩
theorem bestM_range {kind : Int} {l : List Mail} {k : Nat} {b : Int} (h : BestM kind l k b) : -1 ≤ b ∧ b < k := by
  rcases h with ⟨rfl, _⟩ | ⟨j, m, rfl, hj, _⟩ <;> omega
theorem bestM_at {kind : Int} {l : List Mail} {k : Nat} {b : Int} (h : BestM kind l k b) (h0 : 0 ≤ b) : ∃ j : Nat, ∃ m, b = j ∧ j < k ∧ l[j]? = some m ∧ FitsM kind m := by
  rcases h with ⟨rfl, _⟩ | ⟨j, m, rfl, hj, h1, h2, _⟩
  · omega
  · exact ⟨j, m, rfl, hj, h1, h2⟩
theorem bestM_keep {kind : Int} {l : List Mail} {k : Nat} {b : Int} {x : Mail} (h : BestM kind l k b) (hx : l[k]? = some x) (hc : ¬ FitsM kind x ∨ (0 ≤ b ∧ (kind < 0 → ∀ j : Nat, ∀ y, b = j → l[j]? = some y → y.kind ≤ x.kind))) : BestM kind l (k + 1) b := by
  rcases h with ⟨rfl, hn⟩ | ⟨j, m, rfl, hj, h1, h2, h3⟩
  · refine .inl ⟨rfl, fun j m hj hm => ?_⟩
    rcases Nat.lt_succ_iff_lt_or_eq.1 hj with h' | rfl
    · exact hn j m h' hm
    · rw [hx] at hm; cases hm
      rcases hc with hc | ⟨hc, _⟩
      · exact hc
      · omega
  · refine .inr ⟨j, m, rfl, by omega, h1, h2, fun i y hi hy hf => ?_⟩
    rcases Nat.lt_succ_iff_lt_or_eq.1 hi with h' | rfl
    · exact h3 i y h' hy hf
    · rw [hx] at hy; cases hy
      rcases hc with hc | ⟨_, hc⟩
      · exact absurd hf hc
      · exact ⟨fun hk => ⟨hc hk j m rfl h1, fun h => by omega⟩, fun _ => by omega⟩
theorem bestM_take {kind : Int} {l : List Mail} {k : Nat} {b : Int} {x : Mail} (h : BestM kind l k b) (hx : l[k]? = some x) (hf : FitsM kind x) (hc : b < 0 ∨ (kind < 0 ∧ ∃ j : Nat, ∃ y, b = j ∧ l[j]? = some y ∧ x.kind < y.kind)) : BestM kind l (k + 1) k := by
  refine .inr ⟨k, x, rfl, by omega, hx, hf, fun i y hi hy hfy => ?_⟩
  rcases Nat.lt_succ_iff_lt_or_eq.1 hi with h' | rfl
  · rcases h with ⟨rfl, hn⟩ | ⟨j, m, rfl, hj, h1, h2, h3⟩
    · exact absurd hfy (hn i y h' hy)
    · rcases hc with hc | ⟨hk, j', z, hj', hz, hlt⟩
      · omega
      · obtain rfl : j = j' := by omega
        rw [h1] at hz; cases hz
        have := (h3 i y h' hy hfy).1 hk
        exact ⟨fun _ => ⟨by omega, fun _ => by omega⟩, fun h => by omega⟩
  · rw [hx] at hy; cases hy
    exact ⟨fun _ => ⟨Int.le_refl _, fun h => absurd h (Nat.lt_irrefl _)⟩, fun _ => Nat.le_refl _⟩
theorem bestM_fun {kind : Int} {l : List Mail} {k : Nat} {b b' : Int} (h : BestM kind l k b) (h' : BestM kind l k b') : b = b' := by
  rcases h with ⟨rfl, hn⟩ | ⟨j, m, rfl, hj, h1, h2, h3⟩ <;> rcases h' with ⟨rfl, hn'⟩ | ⟨j', m', rfl, hj', h1', h2', h3'⟩
  · rfl
  · exact absurd h2' (hn j' m' hj' h1')
  · exact absurd h2 (hn' j m hj h1)
  · have a := h3 j' m' hj' h1' h2'
    have c := h3' j m hj h1 h2
    by_cases hk : kind < 0
    · have a1 := a.1 hk
      have c1 := c.1 hk
      by_cases e1 : j' < j
      · have := a1.2 e1; omega
      · by_cases e2 : j < j'
        · have := c1.2 e2; omega
        · omega
    · have a1 := a.2 (by omega)
      have c1 := c.2 (by omega)
      omega

/-- What TakeMail answers. -/
def TakeR (l : List Mail) (kind : Int) (L : List Mail) (m : Mail) (ok : Bool) : Prop :=
  (¬ (MailsOk l ∧ -9 ≤ kind ∧ kind ≤ 9) ∧ L = [] ∧ m = ⟨0, ⟨#[]⟩⟩ ∧ ok = false) ∨
  ((MailsOk l ∧ -9 ≤ kind ∧ kind ≤ 9) ∧ ∃ b, BestM kind l l.length b ∧
    ((b < 0 ∧ L = l ∧ m = ⟨0, ⟨#[]⟩⟩ ∧ ok = false) ∨ ∃ j : Nat, b = j ∧ l[j]? = some m ∧ L = l.take j ++ l.drop (j + 1) ∧ ok = true))
theorem takeR_fun {l : List Mail} {kind : Int} {L L' : List Mail} {m m' : Mail} {ok ok' : Bool} (h : TakeR l kind L m ok) (h' : TakeR l kind L' m' ok') : L = L' ∧ m = m' ∧ ok = ok' := by
  rcases h with ⟨c, rfl, rfl, rfl⟩ | ⟨c, b, hb, h⟩ <;> rcases h' with ⟨c', rfl, rfl, rfl⟩ | ⟨c', b', hb', h'⟩
  · exact ⟨rfl, rfl, rfl⟩
  · exact absurd c' c
  · exact absurd c c'
  · have e := bestM_fun hb hb'
    subst e
    rcases h with ⟨h1, rfl, rfl, rfl⟩ | ⟨j, rfl, h1, rfl, rfl⟩ <;> rcases h' with ⟨h1', rfl, rfl, rfl⟩ | ⟨j', e', h1', rfl, rfl⟩
    · exact ⟨rfl, rfl, rfl⟩
    · omega
    · omega
    · obtain rfl : j = j' := by omega
      rw [h1] at h1'; cases h1'
      exact ⟨rfl, rfl, rfl⟩
theorem takeR_len {l : List Mail} {kind : Int} {L : List Mail} {m : Mail} {ok : Bool} (h : TakeR l kind L m ok) (hl : l.length ≤ 1048576) : L.length ≤ 1048576 := by
  rcases h with ⟨c, rfl, rfl, rfl⟩ | ⟨c, b, hb, ⟨h1, rfl, rfl, rfl⟩ | ⟨j, rfl, h1, rfl, rfl⟩⟩
  · simp
  · exact hl
  · simp only [List.length_append, List.length_take, List.length_drop]; omega
end Go.Proofs.Ytlbnfnfaojjpaaa
