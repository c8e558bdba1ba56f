/- SetLock: the plain law: a set lock holds, and giving its bytes back leads to FreeBytes of them. No program in sight. -/
import Derived.Test.YtaofbdhljnhlnaaLckP
namespace Go.Proofs.Ytaofbdhljnhlnaa
open Go.RowKit

theorem cut_idem {who f t : Int} {x y : Lck} (h : y ∈ cutL who f t x) : cutL who f t y = [y] := by
  unfold cutL at h
  split at h
  · simp only [List.mem_append] at h
    rcases h with h | h
    · split at h
      · rw [List.mem_singleton.1 h]
        exact cut_keep (fun hc => by have := hc.2.2; simp only at this; omega)
      · cases h
    · split at h
      · rw [List.mem_singleton.1 h]
        exact cut_keep (fun hc => by have := hc.2.1; simp only at this; omega)
      · cases h
  · rename_i hc
    rw [List.mem_singleton.1 h]
    exact cut_keep hc
theorem flatMap_self {α : Type} {g : α → List α} : ∀ {l : List α}, (∀ y ∈ l, g y = [y]) → l.flatMap g = l
  | [], _ => rfl
  | y :: l, h => by
    rw [List.flatMap_cons, h y (by simp), flatMap_self (fun z hz => h z (by simp [hz]))]
    rfl
theorem freeL_idem (l : List Lck) (who f t : Int) : freeL (freeL l who f t) who f t = freeL l who f t := by
  refine flatMap_self (fun y hy => ?_)
  obtain ⟨x, _, hx⟩ := List.mem_flatMap.1 hy
  exact cut_idem hx
theorem free_set {l : List Lck} {x : Lck} (hx : okLck x) : freeL (setL l x) x.who x.f x.t = freeL l x.who x.f x.t := by
  have := hx.2.2
  have h1 : cutL x.who x.f x.t x = [] := by
    simp only [cutL]
    rw [if_pos ⟨trivial, by omega, by omega⟩, if_neg (by omega), if_neg (by omega)]
    rfl
  have h2 : freeL (setL l x) x.who x.f x.t = freeL (freeL l x.who x.f x.t) x.who x.f x.t ++ cutL x.who x.f x.t x := by
    simp [setL, freeL, List.flatMap_append]
  rw [h2, freeL_idem, h1, List.append_nil]
theorem hold_zero {x : Lck} : ∀ {l : List Lck}, (∀ p ∈ l, 1 ≤ p.who) → holdL l x = 0 → ∀ p ∈ l, ¬ blocksL p x
  | [], _, _ => by simp
  | q :: l, hw, h => by
    rw [holdL] at h
    split at h
    · have := hw q (by simp); omega
    · rename_i hb
      intro p hp
      rcases List.mem_cons.1 hp with rfl | hp
      · exact hb
      · exact hold_zero (fun p hp => hw p (by simp [hp])) h p hp
theorem set_ok {l : List Lck} {x : Lck} (h : LocksOk l) (hx : okLck x) (h0 : holdL l x = 0) (h10 : (setL l x).length ≤ 10) : LocksOk (setL l x) := by
  have hxx := hx.2.2
  have hfl : (freeL l x.who x.f x.t).length ≤ 10 := by have : (setL l x).length = (freeL l x.who x.f x.t).length + 1 := by simp [setL]
                                                       omega
  have hF := locks_iff.1 (freeL_ok (who := x.who) (f := x.f) (t := x.t) h (by omega) hfl)
  obtain ⟨l1, l2, l3⟩ := locks_iff.1 h
  have hb := hold_zero (x := x) (fun p hp => (l1 p hp).1.1) h0
  refine locks_iff.2 ⟨fun y hy => ?_, ?_, h10⟩
  · rcases List.mem_append.1 hy with hy | hy
    · exact hF.1 y hy
    · rw [List.mem_singleton.1 hy]; exact hx
  · refine List.pairwise_append.2 ⟨hF.2.1, by simp, fun y hy z hz => ?_⟩
    rw [List.mem_singleton.1 hz]
    obtain ⟨q, hq, hy⟩ := List.mem_flatMap.1 hy
    have hw := cut_within (l1 q hq) hy
    have hi := cut_idem hy
    rintro ⟨hm, hc⟩
    by_cases hwho : y.who = x.who
    · have : ¬ (y.who = x.who ∧ y.f < x.t ∧ x.f < y.t) := fun hcond => by
        have h5 : cutL x.who x.f x.t y = (if y.f < x.f then [⟨x.who, y.f, x.f, y.alone⟩] else []) ++ (if x.t < y.t then [⟨x.who, x.t, y.t, y.alone⟩] else []) := if_pos hcond
        rw [h5] at hi
        have hm2 : y ∈ (if y.f < x.f then [(⟨x.who, y.f, x.f, y.alone⟩ : Lck)] else []) ++ (if x.t < y.t then [(⟨x.who, x.t, y.t, y.alone⟩ : Lck)] else []) := by rw [hi]; simp
        obtain ⟨_, hc1, hc2⟩ := hcond
        rcases List.mem_append.1 hm2 with h6 | h6
        · split at h6
          · have h7 := congrArg Lck.t (List.mem_singleton.1 h6); simp only at h7; omega
          · cases h6
        · split at h6
          · have h7 := congrArg Lck.f (List.mem_singleton.1 h6); simp only at h7; omega
          · cases h6
      exact this ⟨hwho, hm.1, hm.2⟩
    · obtain ⟨w1, w2, w3, w4, w5⟩ := hw
      refine hb q hq ⟨by rw [← w1]; exact hwho, ⟨?_, ?_⟩, ?_⟩
      · have := hm.1; omega
      · have := hm.2; omega
      · rw [w2] at hc
        exact hc.resolve_left hwho
/-- What a set lock leaves. -/
theorem setR_ok {l L : List Lck} {x : Lck} (h : SetR l x L true) : LocksOk l ∧ okLck x ∧ L = setL l x ∧ LocksOk L ∧ L.length ≤ 10 ∧ (freeL l x.who x.f x.t).length ≤ 10 := by
  by_cases hv : LocksOk l ∧ okLck x
  rotate_left
  · have := (h.1 hv).2; cases this
  · by_cases hs : holdL l x = 0 ∧ (setL l x).length ≤ 10
    rotate_left
    · have := ((h.2 hv).2 hs).2; cases this
    · obtain ⟨hL, _⟩ := (h.2 hv).1 hs
      have hl : (setL l x).length = (freeL l x.who x.f x.t).length + 1 := by simp [setL]
      exact ⟨hv.1, hv.2, hL, by rw [hL]; exact set_ok hv.1 hv.2 hs.1 hs.2, by rw [hL]; exact hs.2, by have := hs.2; omega⟩
theorem setR_none {l L : List Lck} {x : Lck} (h : SetR l x L false) : L = l ∨ L = [] := by
  by_cases hv : LocksOk l ∧ okLck x
  · by_cases hs : holdL l x = 0 ∧ (setL l x).length ≤ 10
    · have := ((h.2 hv).1 hs).2; cases this
    · exact .inl ((h.2 hv).2 hs).1
  · exact .inr (h.1 hv).1
theorem free_back {l L A B : List Lck} {x : Lck} {one two : Bool} (h : SetR l x L true) (ha : FreeR L x.who x.f x.t A one) (hb : FreeR l x.who x.f x.t B two) : one = true ∧ two = true ∧ A = B := by
  obtain ⟨h1, h2, h3, h4, h5, h6⟩ := setR_ok h
  have hft : FT x.f x.t := ⟨h2.2.1, h2.2.2⟩
  have hL : freeL L x.who x.f x.t = freeL l x.who x.f x.t := by rw [h3]; exact free_set h2
  obtain ⟨a1, a2⟩ := (ha.2 ⟨h4, hft⟩).1 (by rw [hL]; exact h6)
  obtain ⟨b1, b2⟩ := (hb.2 ⟨h1, hft⟩).1 h6
  exact ⟨a2, b2, by rw [a1, b1, hL]⟩
end Go.Proofs.Ytaofbdhljnhlnaa
