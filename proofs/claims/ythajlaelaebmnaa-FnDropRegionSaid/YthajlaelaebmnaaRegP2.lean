/- Regions, plain law: what setting pages makes is valid and says what was set. No program in sight. -/
import Derived.Test.YthajlaelaebmnaaRegW
namespace Go.Proofs.Ythajlaelaebmnaa

theorem addPage_step (L : List Reg) (p r : Int) : addPage L p r = stepReg L p r := by
  unfold addPage stepReg
  by_cases hr : r < 0
  · rw [if_pos hr, if_pos hr]
  · rw [if_neg hr, if_neg hr]
    cases hl : L.getLast? with
    | none => rfl
    | some y =>
      simp only []
      by_cases hc : y.t = p ∧ y.r = r
      · rw [if_pos hc, if_pos hc]
        obtain ⟨L0, rfl⟩ := List.getLast?_eq_some_iff.1 hl
        rw [List.dropLast_concat]
        simp
      · rw [if_neg hc, if_neg hc]
theorem regsK_build (R : Int → Int) : ∀ k, regsK R k = buildReg (fun n => R n) k
  | 0 => rfl
  | k + 1 => by
    show addPage (regsK R k) k (R k) = stepReg (buildReg _ k) k (R k)
    rw [regsK_build R k, addPage_step]
theorem rightsL_range {l : List Reg} (h : RegsOk l) (p : Int) : -1 ≤ rightsL l p ∧ rightsL l p ≤ 7 := by
  rcases rightsL_is p l with ⟨x, hx, _, e⟩ | ⟨_, e⟩
  · obtain ⟨k, hk⟩ := List.getElem?_of_mem hx
    have := (h.1 k (List.getElem?_eq_some_iff.1 hk).1 x hk).1
    unfold okReg at this
    omega
  · omega
theorem rightsS_range {l : List Reg} (h : RegsOk l) {r : Reg} (hr : -1 ≤ r.r ∧ r.r ≤ 7) (p : Int) : -1 ≤ rightsS l r p ∧ rightsS l r p ≤ 7 := by
  unfold rightsS
  split
  · exact hr
  · exact rightsL_range h p
theorem setRegs_valid {l : List Reg} (h : RegsOk l) {r : Reg} (hr : -1 ≤ r.r ∧ r.r ≤ 7) (hs : (setRegs l r).length ≤ 8) : RegsOk (setRegs l r) := by
  unfold setRegs at hs ⊢
  rw [regsK_build] at hs ⊢
  exact build_valid (fun p _ => (rightsS_range h hr p).2) hs
theorem setRegs_is {l : List Reg} (h : RegsOk l) {r : Reg} (hr : -1 ≤ r.r ∧ r.r ≤ 7) {p : Nat} (hp : p < 64) : RightsIs (setRegs l r) p (rightsS l r p) := by
  unfold setRegs
  rw [regsK_build]
  have := (build_ok 64 (fun p _ => (rightsS_range h hr p).2)).is p hp
  have h1 := (rightsS_range h hr p).1
  by_cases hn : rightsS l r p < 0
  · rw [if_pos hn] at this
    rwa [show rightsS l r p = -1 by omega]
  · rwa [if_neg hn] at this
/-- What the page's rights are behind it. -/
theorem set_page {l X : List Reg} {r : Reg} {p : Nat} {a b : Int} (h : RegsOk l) (hr : -1 ≤ r.r ∧ r.r ≤ 7) (hX : X = setRegs l r) (hs : X.length ≤ 8) (hp : p < 64) (ha : RAtR l p a) (hb : RAtR X p b) :
    ((p : Int) ≥ r.f ∧ (p : Int) < r.t → b = r.r) ∧ (¬ ((p : Int) ≥ r.f ∧ (p : Int) < r.t) → b = a) := by
  subst hX
  have hv := setRegs_valid h hr hs
  have h1 := rights_unique hv (hb.1 hv) (setRegs_is h hr hp)
  have h2 := rights_unique h (ha.1 h) (rightsL_is p l)
  have h3 : rightsS l r p = if inB p r.f (r.t - 1) = true then r.r else rightsL l p := rfl
  refine ⟨fun hin => ?_, fun hn => ?_⟩
  · rw [h1, h3, if_pos (inB_iff.2 (by omega))]
  · rw [h1, h2, h3, if_neg (by rw [inB_iff]; omega)]
theorem setR_false {P : Prop} {l S L : List Reg} (h : SetR P l S L false) : L = l ∨ L = [] := by
  by_cases hP : P
  · by_cases hs : S.length ≤ 8
    · have := ((h.2 hP).1 hs).2; cases this
    · exact .inl ((h.2 hP).2 hs).1
  · exact .inr (h.1 hP).1
theorem setR_true {P : Prop} {l S L : List Reg} (h : SetR P l S L true) : P ∧ L = S ∧ L.length ≤ 8 := by
  by_cases hP : P
  · by_cases hs : S.length ≤ 8
    · exact ⟨hP, ((h.2 hP).1 hs).1, by rw [((h.2 hP).1 hs).1]; exact hs⟩
    · have := ((h.2 hP).2 hs).2; cases this
  · have := (h.1 hP).2; cases this
end Go.Proofs.Ythajlaelaebmnaa
