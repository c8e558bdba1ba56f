/- WritePage gives a memory of a few short rows. No condition. -/
import Derived.Test.YtpnllhdgpfbaiaaPagX
namespace Go.Proofs.Ytpnllhdgpfbaiaa

theorem set_small {T : List (List Int)} (h : ∀ t ∈ T, t.length ≤ 4) {k j : Nat} {t : List Int} (ht : T[k]? = some t) (x : Int) : ∀ u ∈ T.set k (t.set j x), u.length ≤ 4 := fun u hu => by
  rcases List.mem_or_eq_of_mem_set hu with hu | rfl
  · exact h u hu
  · rw [List.length_set]; exact h t (List.mem_of_getElem? ht)
theorem writeR_small {F : List Int} {T : List (List Int)} {who page num : Int} {F2 : List Int} {T2 : List (List Int)} {ok : Bool} (h : WriteR F T who page num F2 T2 ok) : Small F2 T2 := by
  rcases h with ⟨_, rfl, rfl, _⟩ | ⟨h, _, rfl, rfl, _⟩ | ⟨h, _, k, j, t, f, rfl, rfl, ht, hf, hW⟩
  · exact nil_small
  · exact same_small h
  · obtain ⟨h1, h2, h3⟩ := ok_small h
    rcases hW with ⟨_, rfl, rfl, _⟩ | ⟨_, g, _, ⟨_, rfl, rfl, _⟩ | ⟨_, _, rfl, rfl, _⟩ | ⟨_, _, rfl, rfl, _⟩⟩
    · exact ⟨by rw [List.length_set]; omega, by omega, h3⟩
    · exact ⟨by rw [List.length_set]; omega, by rw [List.length_set]; omega, set_small h3 ht _⟩
    · exact same_small h
    · exact ⟨by simp; omega, by rw [List.length_set]; omega, set_small h3 ht _⟩
end Go.Proofs.Ytpnllhdgpfbaiaa
