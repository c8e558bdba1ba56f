/- Locks: the plain laws. No program in sight. -/
import Derived.Test.YtaofbdhljnhlnaaLckS
namespace Go.Proofs.Ytaofbdhljnhlnaa
open Go.RowKit

theorem locks_drop {l : List Lck} (h : LocksOk l) (k : Nat) : LocksOk (l.drop k) := by
  refine ⟨fun i hi => ?_, by rw [List.length_drop]; have := h.2; omega⟩
  rw [List.length_drop] at hi
  intro x hx
  rw [List.getElem?_drop] at hx
  have h1 := h.1 (k + i) (by omega) x hx
  exact ⟨h1.1, fun j p hj hp => h1.2 (k + j) p (by omega) (by rw [List.getElem?_drop] at hp; exact hp)⟩
theorem locks_twice (x : Lck) (t : List Lck) : ¬ LocksOk (x :: x :: t) := fun h => by
  have h0 := (h.1 0 (by simp) x rfl).1
  have h1 := (h.1 1 (by simp) x rfl).2 0 x (by omega) rfl
  refine h1 ⟨⟨?_, ?_⟩, .inl rfl⟩ <;> (have := h0.2.2; omega)

theorem locks_iff {l : List Lck} : LocksOk l ↔ (∀ x ∈ l, okLck x) ∧ l.Pairwise (fun p x => ¬ clash p x) ∧ l.length ≤ 10 := by
  constructor
  · intro h
    refine ⟨fun x hx => ?_, List.pairwise_iff_getElem.2 (fun i j hi hj hij => ?_), h.2⟩
    · obtain ⟨k, hk, rfl⟩ := List.getElem_of_mem hx
      exact (h.1 k hk _ (List.getElem?_eq_getElem hk)).1
    · exact (h.1 j hj _ (List.getElem?_eq_getElem hj)).2 i _ hij (List.getElem?_eq_getElem hi)
  · rintro ⟨h1, h2, h3⟩
    refine ⟨fun k hk x hx => ?_, h3⟩
    have hkx : x = l[k] := by rw [List.getElem?_eq_getElem hk] at hx; exact (Option.some.inj hx).symm
    subst hkx
    refine ⟨h1 _ (List.getElem_mem hk), fun j p hj hp => ?_⟩
    have hjl : j < l.length := by omega
    have hjp : p = l[j] := by rw [List.getElem?_eq_getElem hjl] at hp; exact (Option.some.inj hp).symm
    subst hjp
    exact List.pairwise_iff_getElem.1 h2 j k hjl hk hj

/-- What is left of a lock lies within it. -/
def within' (y x : Lck) : Prop := y.who = x.who ∧ y.alone = x.alone ∧ x.f ≤ y.f ∧ y.t ≤ x.t ∧ y.f < y.t
theorem cut_within {who f t : Int} {x y : Lck} (hx : okLck x) (h : y ∈ cutL who f t x) : within' y x := by
  have := hx.2.2
  unfold cutL at h
  split at h
  · rename_i hc
    simp only [List.mem_append] at h
    rcases h with h | h
    · split at h
      · rw [List.mem_singleton.1 h]; exact ⟨hc.1.symm, rfl, by simp only; omega, by simp only; omega, by simp only; omega⟩
      · cases h
    · split at h
      · rw [List.mem_singleton.1 h]; exact ⟨hc.1.symm, rfl, by simp only; omega, by simp only; omega, by simp only; omega⟩
      · cases h
  · rw [List.mem_singleton.1 h]; exact ⟨rfl, rfl, by omega, by omega, by omega⟩
theorem cut_ok {who f t : Int} {x y : Lck} (hx : okLck x) (h : y ∈ cutL who f t x) : okLck y := by
  obtain ⟨h1, h2, h3, h4, h5⟩ := cut_within hx h
  obtain ⟨a, b, c⟩ := hx
  exact ⟨by rw [h1]; exact a, by omega, by omega⟩
theorem clash_within {p x p' x' : Lck} (hp : within' p' p) (hx : within' x' x) (h : clash p' x') : clash p x := by
  obtain ⟨p1, p2, p3, p4, p5⟩ := hp
  obtain ⟨x1, x2, x3, x4, x5⟩ := hx
  obtain ⟨⟨m1, m2⟩, h2⟩ := h
  refine ⟨⟨by omega, by omega⟩, ?_⟩
  rw [p1, p2, x1, x2] at h2
  exact h2
theorem cut_pair {who f t : Int} {x : Lck} (hft : f < t) : (cutL who f t x).Pairwise (fun p y => ¬ clash p y) := by
  unfold cutL
  split
  · split <;> split <;> simp
    intro h
    have := h.1
    unfold meetL at this
    simp only at this
    omega
  · simp
theorem freeL_ok {l : List Lck} {who f t : Int} (h : LocksOk l) (hft : f < t) (h10 : (freeL l who f t).length ≤ 10) : LocksOk (freeL l who f t) := by
  rw [locks_iff] at h ⊢
  obtain ⟨h1, h2, h3⟩ := h
  refine ⟨fun y hy => ?_, ?_, h10⟩
  · obtain ⟨x, hx, hy⟩ := List.mem_flatMap.1 hy
    exact cut_ok (h1 x hx) hy
  · clear h10 h3
    induction l with
    | nil => simp [freeL]
    | cons x l ih =>
      simp only [freeL, List.flatMap_cons]
      rw [List.pairwise_cons] at h2
      refine List.pairwise_append.2 ⟨cut_pair hft, ih (fun y hy => h1 y (by simp [hy])) h2.2, fun p hp y hy => ?_⟩
      obtain ⟨z, hz, hy⟩ := List.mem_flatMap.1 hy
      exact fun hc => h2.1 z hz (clash_within (cut_within (h1 x (by simp)) hp) (cut_within (h1 z (by simp [hz])) hy) hc)
end Go.Proofs.Ytaofbdhljnhlnaa
