/- RightsAt: contracts of the program's and the reference's. Condition: lists of at most 2^20. -/
import Derived.Test.YthajlaelaebmnaaRegQ
import Derived.Test.YthajlaelaebmnaaRegP
import Derived.Test.YthajlaelaebmnaaQuiet
namespace Go.Proofs.Ythajlaelaebmnaa
open Go.RowKit

theorem rightsL_last (p : Int) (l : List Reg) : rightsL l p = lastF p l (-1) := by
  have key : ∀ (l : List Reg) (r : Int), l.foldl (fun acc x => if inB p x.f (x.t - 1) = true then x.r else acc) r = lastF p l r := by
    intro l
    induction l with
    | nil => intro r; rfl
    | cons y l ih =>
      intro r
      rw [List.foldl_cons, ih]
      show lastF p l _ = lastF p l _
      congr 1
      by_cases h : y.f ≤ p ∧ p < y.t
      · rw [if_pos h, if_pos (inB_iff.2 (by omega))]
      · rw [if_neg h, if_neg (by rw [inB_iff]; omega)]
  exact key l (-1)
theorem rightsL_is (p : Int) (l : List Reg) : RightsIs l p (rightsL l p) := by rw [rightsL_last]; exact lastF_is p l
def RAtR (l : List Reg) (page n : Int) : Prop := (RegsOk l → RightsIs l page n) ∧ (¬ RegsOk l → n = -1)
theorem rAtR_fun {l : List Reg} {page n m : Int} (h : RAtR l page n) (h' : RAtR l page m) : n = m := by
  by_cases hv : RegsOk l
  · exact rights_unique hv (h.1 hv) (h'.1 hv)
  · rw [h.2 hv, h'.2 hv]
theorem rAt_no {l : List Reg} {page : Int} (h : ¬ RegsOk l) : RAtR l page (-1) := ⟨fun hv => absurd hv h, fun _ => rfl⟩
theorem regs_in {l : List Reg} (h : RegsOk l) : ∀ x ∈ l, 0 ≤ x.f ∧ x.f < x.t ∧ x.t ≤ 64 := fun x hx => by
  obtain ⟨k, hk⟩ := List.getElem?_of_mem hx
  have := (h.1 k (List.getElem?_eq_some_iff.1 hk).1 x hk).1
  exact ⟨this.1.1, this.1.2, this.2.1⟩
theorem rAt_out {l : List Reg} {page : Int} (hp : ¬ (0 ≤ page ∧ page ≤ 63)) : RAtR l page (-1) := ⟨fun hv => .inr ⟨fun x hx hh => by
  have h1 := regs_in hv x hx
  have h2 := hh.1
  have h3 := hh.2
  omega, rfl⟩, fun _ => rfl⟩

set_option maxHeartbeats 4000000 in
theorem implRightsAt (a : Option Addr) (cap : Nat) (l : List Reg) (page : Int) (w : World) (hl : l.length ≤ 1048576) (hc : Rd 3 encReg w a l) :
    Calls Try.prog 19 #[.slice a l.length cap, .int .i64 page] w fun e w' => ∃ n, e = .returned (.int .i64 n) ∧ RAtR l page n ∧ Sep w w' [] := by
  go_enter Try.func19, Try.ntmps19
  have S := Sep.start w
  go_wp2_with fail
  refine (implRegionsValid _ _ l w (by omega) hc).mono ?_
  rintro e w2 ⟨v0, rfl, hv0, hE⟩
  have Hv0 := Lib.hid hv0
  clear hv0
  replace S : Sep w w2 [] := S.step hE
  clear hE
  cases v0 with
  | false =>
    have HR := Lib.hid (rAt_no (page := page) (fun h => Bool.noConfusion (Hv0.out.2 h)))
    go_wp2
    go_ret
    exact ⟨_, rfl, HR.out, S⟩
  | true =>
    have hv := Hv0.out.1 rfl
    have HI := Lib.hid (regs_in hv)
    have HV := Lib.hid hv
    clear hv Hv0
    by_cases hp : 0 ≤ page ∧ page ≤ 63
    · have ein := inB_iff.2 hp
      obtain ⟨p0, rfl⟩ : ∃ p0 : Nat, page = p0 := ⟨page.toNat, by omega⟩
      have HR : Hid (RAtR l p0 (rightsL l p0)) := Lib.hid ⟨fun _ => rightsL_is _ _, fun h => absurd HV.out h⟩
      have hp64 : p0 < 64 := by omega
      clear hp
      go_upto_region 3 with (go_at_call 37; refine ((within_any _ _ _ _).mono (fun e w2 h => by rw [ein] at h; exact h)).mono ?_; rintro e w' ⟨rfl, rfl⟩)
      go_wp2_with fail
      refine (pagesOf_any a cap l w2 hl HI.out (hc.ext S.ext)).mono ?_
      rintro e w3 ⟨g, rfl, T⟩
      replace S : Sep w w3 [plRow 3 1 encInt1 (.slice (some ⟨g, 0, none⟩) 64 64) (pgs (rightsL l))] := S.call T
      clear T
      have c0 : w3.cell? ⟨g, p0, none⟩ = some (.int .i64 (rightsL l p0)) := by
        have h1 : (pgs (rightsL l))[p0]'(by rw [pgs_len]; exact hp64) = rightsL l p0 := by
          have := pgs_at (rightsL l) hp64
          rw [List.getElem?_eq_getElem (by rw [pgs_len]; exact hp64)] at this
          exact Option.some.inj this
        have hr := S.row 0 rfl
        rw [pgs_len] at hr
        have := owns_at encInt1_len hr p0 (by rw [pgs_len]; exact hp64) 0 (.int .i64 (rightsL l p0)) (by rw [h1]; rfl)
        simpa using this
      replace S : Sep w w3 [] := S.drop 0
      go_wp2
      go_ret
      exact ⟨_, rfl, HR.out, S⟩
    · have ein := inB_false hp
      have HR := Lib.hid (rAt_out (l := l) hp)
      clear hp
      go_wp2_with (go_at_call 37; refine ((within_any _ _ _ _).mono (fun e w2 h => by rw [ein] at h; exact h)).mono ?_; rintro e w' ⟨rfl, rfl⟩)
      go_ret
      exact ⟨_, rfl, HR.out, S⟩

set_option maxHeartbeats 4000000 in
theorem specRightsAt (a : Option Addr) (cap : Nat) (l : List Reg) (page : Int) (w : World) (hl : l.length ≤ 1048576) (hc : Rd 3 encReg w a l) :
    Calls Try.prog 18 #[.slice a l.length cap, .int .i64 page] w fun e w' => ∃ n, e = .returned (.int .i64 n) ∧ RAtR l page n ∧ Sep w w' [] := by
  go_enter Try.func18, Try.ntmps18
  go_wp2
  go_loopw [5] (fun i wr => ∃ k : Nat, k ≤ l.length ∧ i = .int .i64 k ∧ (∀ j x, j < k → l[j]? = some x → ¬ has x page) ∧ Ext w wr) (fun i _ => l.length - (intOf i).toNat)
  case atStart => exact ⟨0, Nat.zero_le _, rfl, fun _ _ h => absurd h (Nat.not_lt_zero _), Ext.refl _⟩
  case round =>
    obtain ⟨k, hk, rfl, hpre, hb⟩ := hrel
    have Hpre := Lib.hid hpre
    clear hpre
    by_cases hlt : k < l.length
    · have i1 : (k : Int) < (l.length : Int) := by omega
      have i0 : (0 : Int) ≤ (k : Int) := by omega
      go_wp2_with fail
      refine (specRegionsValid _ _ l wr (by omega) (hc.ext hb)).mono ?_
      rintro e w2 ⟨v0, rfl, hv0, hE⟩
      have Hv0 := Lib.hid hv0
      replace hb := hb.trans hE
      clear hv0 hE
      cases v0 with
      | false =>
        have HR := Lib.hid (rAt_no (page := page) (fun h => Bool.noConfusion (Hv0.out.2 h)))
        go_wp2
        go_ret
        exact ⟨_, rfl, HR.out, Sep.of_ext hb⟩
      | true =>
        have HV := Lib.hid (Hv0.out.1 rfl)
        obtain ⟨x, p, off, hx, hpe, c0, c1, c2⟩ := atReg (hc.ext hb) hlt
        subst hpe
        have hxb := regs_in HV.out x (List.mem_of_getElem? hx)
        obtain ⟨hx1, hx2, hx3⟩ := hxb
        have Hx := Lib.hid hx
        clear Hv0 hx
        by_cases hin : has x page
        · have ein : inB page x.f (x.t - 1) = true := inB_iff.2 ⟨hin.1, by have := hin.2; omega⟩
          have HR : Hid (RAtR l page x.r) := Lib.hid ⟨fun _ => .inl ⟨x, List.mem_of_getElem? Hx.out, hin, rfl⟩, fun h => absurd HV.out h⟩
          have m0 := ExtW.cell c0
          have m1 := ExtW.cell c1
          have m2 := ExtW.lt c0
          clear hin
          go_wp2
          (refine wp_region_quiet_ext (by kernel_rfl) (by kernel_rfl) ?_; (repeat (go_big_quiet_step ((go_at_call 31; exact Calls.at_same ((l1In_any _ _ _ _).mono (fun e w2 h => by rw [ein] at h; exact h)))))); refine wpQuiet_nil ?_; intro _ hw'; obtain ⟨sq, hw''⟩ := hw'; subst hw'')
          obtain ⟨w8, hw8⟩ := sq
          have c2' := cell_ext hw8 c2
          go_wp2
          go_ret
          exact ⟨_, rfl, HR.out, Sep.of_ext (hb.trans hw8)⟩
        · have ein : inB page x.f (x.t - 1) = false := inB_false (fun h => hin ⟨h.1, by have := h.2; omega⟩)
          have HN : Hid (∀ j y, j < k + 1 → l[j]? = some y → ¬ has y page) := Lib.hid (fun j y hj hy => by
            rcases Nat.lt_succ_iff_lt_or_eq.1 hj with h | rfl
            · exact Hpre.out j y h hy
            · rw [Hx.out] at hy; cases hy; exact hin)
          have m0 := ExtW.cell c0
          have m1 := ExtW.cell c1
          have m2 := ExtW.lt c0
          clear hin
          go_wp2
          (refine wp_region_quiet_ext (by kernel_rfl) (by kernel_rfl) ?_; (repeat (go_big_quiet_step ((go_at_call 31; exact Calls.at_same ((l1In_any _ _ _ _).mono (fun e w2 h => by rw [ein] at h; exact h)))))); refine wpQuiet_nil ?_; intro _ hw'; obtain ⟨sq, hw''⟩ := hw'; subst hw'')
          obtain ⟨w8, hw8⟩ := sq
          go_wp2
          go_roundw
          case rel => exact ⟨k + 1, by omega, by go_num, HN.out, hb.trans hw8⟩
          case measure => simp [intOf]; omega
    · obtain rfl : k = l.length := by omega
      have hni : ¬ (l.length : Int) < (l.length : Int) := by omega
      have HR : Hid (RAtR l page (-1)) := Lib.hid ⟨fun _ => .inr ⟨fun x hx => by
        obtain ⟨j, hj⟩ := List.getElem?_of_mem hx
        exact Hpre.out j x (List.getElem?_eq_some_iff.1 hj).1 hj, rfl⟩, fun _ => rfl⟩
      go_wp2
      go_ret
      exact ⟨_, rfl, HR.out, Sep.of_ext hb⟩
end Go.Proofs.Ythajlaelaebmnaa
