/- Memories of a few short rows. No condition. -/
import Derived.Test.YtpnllhdgpfbaiaaPagF
namespace Go.Proofs.Ytpnllhdgpfbaiaa

def Small (F : List Int) (T : List (List Int)) : Prop := F.length ≤ 13 ∧ T.length ≤ 5 ∧ ∀ t ∈ T, t.length ≤ 4
theorem small_sum {F : List Int} {T : List (List Int)} (h : Small F T) : sumL T ≤ 20 := by
  have key : ∀ (T : List (List Int)), (∀ t ∈ T, t.length ≤ 4) → sumL T ≤ 4 * T.length := by
    intro T
    induction T with
    | nil => intro _; simp [sumL]
    | cons t T ih =>
      intro h
      have h1 := h t (by simp)
      have h2 := ih (fun t ht => h t (by simp [ht]))
      simp only [sumL, List.length_cons]
      omega
  have := key T h.2.2
  have := h.2.1
  omega
theorem ok_small {F : List Int} {T : List (List Int)} (h : MemOk F T) : F.length ≤ 12 ∧ T.length ≤ 4 ∧ ∀ t ∈ T, t.length ≤ 4 := ⟨h.frames, h.tables, fun t ht => by
  obtain ⟨k, hk⟩ := List.getElem?_of_mem ht
  exact (h.pages k t hk).1⟩
theorem nil_small : Small [] [] := ⟨by simp, by simp, by simp⟩
theorem same_small {F : List Int} {T : List (List Int)} (h : MemOk F T) : Small F T := by
  obtain ⟨h1, h2, h3⟩ := ok_small h
  exact ⟨by omega, by omega, h3⟩
theorem forkR_small {F : List Int} {T : List (List Int)} {who : Int} {F2 : List Int} {T2 : List (List Int)} {ok : Bool} (h : ForkR F T who F2 T2 ok) : Small F2 T2 := by
  rcases h with ⟨_, rfl, rfl, _⟩ | ⟨h, _, rfl, rfl, _⟩ | ⟨h, _, t, ht, rfl, rfl, _⟩
  · exact nil_small
  · exact same_small h
  · obtain ⟨h1, h2, h3⟩ := ok_small h
    refine ⟨by omega, by simp; omega, fun u hu => ?_⟩
    rcases List.mem_append.1 hu with hu | hu
    · exact h3 u hu
    · rw [List.mem_singleton.1 hu]
      exact h3 t (List.mem_of_getElem? ht)
end Go.Proofs.Ytpnllhdgpfbaiaa
