/- Regions, plain law: pages as a list of rights, the regions that they make, and that both say the same. No program in sight. -/
import Derived.Test.YthajlaelaebmnaaRegV
namespace Go.Proofs.Ythajlaelaebmnaa

def has (x : Reg) (p : Int) : Prop := x.f ≤ p ∧ p < x.t
/-- r are the rights of page p in l; -1 if it is in none. -/
def RightsIs (l : List Reg) (p r : Int) : Prop := (∃ x ∈ l, has x p ∧ r = x.r) ∨ ((∀ x ∈ l, ¬ has x p) ∧ r = -1)
/-- The last region that holds the page. -/
def lastF (p : Int) : List Reg → Int → Int
  | [], r => r
  | x :: l, r => lastF p l (if x.f ≤ p ∧ p < x.t then x.r else r)
theorem lastF_snoc (p : Int) (l : List Reg) (x : Reg) (r : Int) : lastF p (l ++ [x]) r = if x.f ≤ p ∧ p < x.t then x.r else lastF p l r := by
  induction l generalizing r with
  | nil => rfl
  | cons y l ih => exact ih _
theorem lastF_is (p : Int) (l : List Reg) : RightsIs l p (lastF p l (-1)) := by
  have key : ∀ (l : List Reg) (r : Int), (∃ x ∈ l, has x p ∧ lastF p l r = x.r) ∨ ((∀ x ∈ l, ¬ has x p) ∧ lastF p l r = r) := by
    intro l
    induction l with
    | nil => intro r; exact .inr ⟨by simp, rfl⟩
    | cons y l ih =>
      intro r
      rcases ih (if y.f ≤ p ∧ p < y.t then y.r else r) with ⟨x, hx, h1, h2⟩ | ⟨h1, h2⟩
      · exact .inl ⟨x, by simp [hx], h1, h2⟩
      · by_cases hy : y.f ≤ p ∧ p < y.t
        · exact .inl ⟨y, by simp, hy, by show lastF p l _ = _; rw [h2, if_pos hy]⟩
        · refine .inr ⟨fun x hx => ?_, by show lastF p l _ = _; rw [h2, if_neg hy]⟩
          rcases List.mem_cons.1 hx with rfl | hx
          · exact hy
          · exact h1 x hx
  exact key l (-1)

theorem regs_sorted {l : List Reg} (h : RegsOk l) : ∀ (j i : Nat) (x y : Reg), i < j → l[i]? = some x → l[j]? = some y → x.t ≤ y.f := by
  intro j
  induction j with
  | zero => intro i x y hij; omega
  | succ j ih =>
    intro i x y hij hx hy
    have hjl : j + 1 < l.length := (List.getElem?_eq_some_iff.1 hy).1
    obtain ⟨z, hz⟩ : ∃ z, l[j]? = some z := ⟨_, List.getElem?_eq_getElem (by omega)⟩
    have h1 := ((h.1 _ hjl y hy).2 j z rfl hz).1
    by_cases hij' : i = j
    · subst hij'
      rw [hz] at hx; cases hx
      exact h1
    · have h2 := ih i x z (by omega) hx hz
      have h3 := (h.1 j (by omega) z hz).1
      unfold okReg at h3
      omega
theorem rights_unique {l : List Reg} (h : RegsOk l) {p r s : Int} (hr : RightsIs l p r) (hs : RightsIs l p s) : r = s := by
  rcases hr with ⟨x, hx, hxp, rfl⟩ | ⟨hn, rfl⟩ <;> rcases hs with ⟨y, hy, hyp, rfl⟩ | ⟨hm, rfl⟩
  · obtain ⟨i, hi⟩ := List.getElem?_of_mem hx
    obtain ⟨j, hj⟩ := List.getElem?_of_mem hy
    unfold has at hxp hyp
    rcases Nat.lt_trichotomy i j with h1 | h1 | h1
    · have := regs_sorted h j i x y h1 hi hj; omega
    · subst h1; rw [hi] at hj; cases hj; rfl
    · have := regs_sorted h i j y x h1 hj hi; omega
  · exact absurd hxp (hm x hx)
  · exact absurd hyp (hn y hy)
  · rfl

/-- One page more. -/
def stepReg (out : List Reg) (page : Int) (rights : Int) : List Reg :=
  if rights < 0 then out else
  match out.getLast? with
  | some q => if q.t = page ∧ q.r = rights then out.dropLast ++ [⟨q.f, page + 1, q.r⟩] else out ++ [⟨page, page + 1, rights⟩]
  | none => out ++ [⟨page, page + 1, rights⟩]
def buildReg (pg : Nat → Int) : Nat → List Reg
  | 0 => []
  | n + 1 => stepReg (buildReg pg n) n (pg n)

structure BuildOk (pg : Nat → Int) (n : Nat) (l : List Reg) : Prop where
  each : ∀ x ∈ l, (0 ≤ x.f ∧ x.f < x.t) ∧ x.t ≤ n ∧ 0 ≤ x.r ∧ x.r ≤ 7
  pair : ∀ i x y, l[i]? = some x → l[i + 1]? = some y → okPair x y
  is : ∀ p : Nat, p < n → RightsIs l p (if pg p < 0 then -1 else pg p)

theorem rights_snoc {l : List Reg} {x : Reg} {p r : Int} (h : RightsIs l p r) (hx : ¬ has x p) : RightsIs (l ++ [x]) p r := by
  rcases h with ⟨y, hy, h1, h2⟩ | ⟨h1, h2⟩
  · exact .inl ⟨y, by simp [hy], h1, h2⟩
  · refine .inr ⟨fun y hy => ?_, h2⟩
    rcases List.mem_append.1 hy with hy | hy
    · exact h1 y hy
    · rw [List.mem_singleton.1 hy]; exact hx

theorem build_ok {pg : Nat → Int} (n : Nat) (hpg : ∀ p, p < n → pg p ≤ 7) : BuildOk pg n (buildReg pg n) := by
  induction n with
  | zero => exact ⟨by simp [buildReg], by simp [buildReg], fun p hp => by omega⟩
  | succ n ih =>
    have ih := ih (fun p hp => hpg p (by omega))
    have hn7 := hpg n (by omega)
    show BuildOk pg (n + 1) (stepReg (buildReg pg n) n (pg n))
    generalize buildReg pg n = out at ih
    unfold stepReg
    by_cases hneg : pg n < 0
    · rw [if_pos hneg]
      refine ⟨fun x hx => ?_, ih.pair, fun p hp => ?_⟩
      · have := ih.each x hx
        exact ⟨this.1, by have := this.2.1; push_cast; omega, this.2.2⟩
      · by_cases h : p = n
        · subst h
          rw [if_pos hneg]
          refine .inr ⟨fun x hx hh => ?_, rfl⟩
          have := (ih.each x hx).2.1
          unfold has at hh; omega
        · exact ih.is p (by omega)
    · rw [if_neg hneg]
      have hnew : ∀ (hlast : ∀ q, out.getLast? = some q → ¬ (q.t = (n : Int) ∧ q.r = pg n)), BuildOk pg (n + 1) (out ++ [⟨n, n + 1, pg n⟩]) := by
        intro hlast
        refine ⟨fun x hx => ?_, fun i x y hi hj => ?_, fun p hp => ?_⟩
        · rcases List.mem_append.1 hx with hx | hx
          · have := ih.each x hx
            exact ⟨this.1, by have := this.2.1; push_cast; omega, this.2.2⟩
          · rw [List.mem_singleton.1 hx]
            refine ⟨⟨?_, ?_⟩, ?_, ?_, ?_⟩ <;> simp only [] <;> push_cast <;> omega
        · have hjl := (List.getElem?_eq_some_iff.1 hj).1
          simp only [List.length_append, List.length_singleton] at hjl
          by_cases h : i + 1 < out.length
          · rw [List.getElem?_append_left (by omega)] at hi
            rw [List.getElem?_append_left h] at hj
            exact ih.pair i x y hi hj
          · have e : i + 1 = out.length := by omega
            rw [List.getElem?_append_left (by omega)] at hi
            rw [e, List.getElem?_append_right (Nat.le_refl _), Nat.sub_self] at hj
            simp only [List.getElem?_cons_zero, Option.some.injEq] at hj
            subst hj
            have hl : out.getLast? = some x := by rw [List.getLast?_eq_getElem?, ← e, Nat.add_sub_cancel]; exact hi
            have h1 := (ih.each x (List.mem_of_getElem? hi)).2.1
            have h2 := hlast x hl
            unfold okPair
            simp only []
            omega
        · by_cases h : p = n
          · subst h
            rw [if_neg hneg]
            exact .inl ⟨⟨p, p + 1, pg p⟩, by simp, by unfold has; simp only []; omega, rfl⟩
          · exact rights_snoc (ih.is p (by omega)) (by unfold has; simp only []; omega)
      cases hl : out.getLast? with
      | none => exact hnew (fun q hq => by rw [hl] at hq; cases hq)
      | some q =>
        simp only []
        by_cases hq : q.t = (n : Int) ∧ q.r = pg n
        · rw [if_pos hq]
          obtain ⟨out0, rfl⟩ : ∃ o, out = o ++ [q] := by
            obtain ⟨o, ho⟩ := List.getLast?_eq_some_iff.1 hl
            exact ⟨o, ho⟩
          rw [List.dropLast_concat]
          have hqe := ih.each q (by simp)
          refine ⟨fun x hx => ?_, fun i x y hi hj => ?_, fun p hp => ?_⟩
          · rcases List.mem_append.1 hx with hx | hx
            · have := ih.each x (by simp [hx])
              exact ⟨this.1, by have := this.2.1; push_cast; omega, this.2.2⟩
            · rw [List.mem_singleton.1 hx]
              refine ⟨⟨?_, ?_⟩, ?_, ?_, ?_⟩ <;> simp only [] <;> push_cast <;> omega
          · have hjl := (List.getElem?_eq_some_iff.1 hj).1
            simp only [List.length_append, List.length_singleton] at hjl
            by_cases h : i + 1 < out0.length
            · rw [List.getElem?_append_left (by omega)] at hi hj
              exact ih.pair i x y (by rw [List.getElem?_append_left (by omega)]; exact hi) (by rw [List.getElem?_append_left (by omega)]; exact hj)
            · have e : i + 1 = out0.length := by omega
              rw [List.getElem?_append_left (by omega)] at hi
              rw [e, List.getElem?_append_right (Nat.le_refl _), Nat.sub_self] at hj
              simp only [List.getElem?_cons_zero, Option.some.injEq] at hj
              subst hj
              have := ih.pair i x q (by rw [List.getElem?_append_left (by omega)]; exact hi) (by rw [e, List.getElem?_append_right (Nat.le_refl _), Nat.sub_self]; rfl)
              exact this
          · by_cases h : p = n
            · subst h
              rw [if_neg hneg]
              exact .inl ⟨⟨q.f, p + 1, q.r⟩, by simp, by unfold has; simp only []; omega, hq.2.symm⟩
            · have h0 := ih.is p (by omega)
              rcases h0 with ⟨x, hx, h1, h2⟩ | ⟨h1, h2⟩
              · rcases List.mem_append.1 hx with hx | hx
                · exact .inl ⟨x, by simp [hx], h1, h2⟩
                · rw [List.mem_singleton.1 hx] at h1 h2
                  exact .inl ⟨⟨q.f, n + 1, q.r⟩, by simp, by unfold has at h1 ⊢; simp only []; omega, h2⟩
              · refine .inr ⟨fun x hx => ?_, h2⟩
                rcases List.mem_append.1 hx with hx | hx
                · exact h1 x (by simp [hx])
                · rw [List.mem_singleton.1 hx]
                  have := h1 q (by simp)
                  unfold has at this ⊢
                  simp only []
                  omega
        · rw [if_neg hq]
          exact hnew (fun q' hq' => by rw [hl] at hq'; cases hq'; exact hq)

theorem build_valid {pg : Nat → Int} (hpg : ∀ p, p < 64 → pg p ≤ 7) (hl : (buildReg pg 64).length ≤ 8) : RegsOk (buildReg pg 64) := by
  have h := build_ok 64 hpg
  refine ⟨fun k hk x hx => ⟨?_, fun m p hm hp => ?_⟩, hl⟩
  · have := h.each x (List.mem_of_getElem? hx)
    unfold okReg
    omega
  · subst hm
    exact h.pair m p x hp hx

end Go.Proofs.Ythajlaelaebmnaa
