/- Regions: when they are valid; contracts of RegionsValid. No condition but that lists are shorter than 2^63. -/
import Derived.Test.YthajlaelaebmnaaRegFam
namespace Go.Proofs.Ythajlaelaebmnaa
open Go.RowKit

def okReg (x : Reg) : Prop := (0 ≤ x.f ∧ x.f < x.t) ∧ x.t ≤ 64 ∧ 0 ≤ x.r ∧ x.r ≤ 7
def okPair (p x : Reg) : Prop := p.t ≤ x.f ∧ ¬ (p.t = x.f ∧ p.r = x.r)
/-- What RegionsValid asks of the place k. -/
def OkAt (l : List Reg) (k : Nat) : Prop := ∀ x, l[k]? = some x → okReg x ∧ ∀ m p, k = m + 1 → l[m]? = some p → okPair p x
def RegsOk (l : List Reg) : Prop := (∀ k, k < l.length → OkAt l k) ∧ l.length ≤ 8


theorem regs_bad {l : List Reg} {k : Nat} {x : Reg} (hlt : k < l.length) (hx : l[k]? = some x) (h : ¬ okReg x) {b : Bool} (hb : b = false) : b = true ↔ RegsOk l := by
  subst hb
  simp only [Bool.false_eq_true, false_iff]
  exact fun hr => h (hr.1 k hlt x hx).1
theorem regs_bad2 {l : List Reg} {m : Nat} {p x : Reg} (hlt : m + 1 < l.length) (hx : l[m + 1]? = some x) (hp : l[m]? = some p) (h : ¬ okPair p x) {b : Bool} (hb : b = false) : b = true ↔ RegsOk l := by
  subst hb
  simp only [Bool.false_eq_true, false_iff]
  exact fun hr => h ((hr.1 _ hlt x hx).2 m p rfl hp)
theorem regs_next {l : List Reg} {k : Nat} (h : ∀ j, j < k → OkAt l j) (hk : OkAt l k) : ∀ j, j < k + 1 → OkAt l j := by
  intro j hj
  rcases Nat.lt_succ_iff_lt_or_eq.1 hj with h' | rfl
  · exact h j h'
  · exact hk
theorem regs_ok0 {l : List Reg} {x : Reg} (hx : l[0]? = some x) (h : okReg x) : OkAt l 0 := by
  intro y hy
  rw [hx] at hy
  cases hy
  exact ⟨h, fun m p hm => by omega⟩
theorem regs_ok1 {l : List Reg} {m : Nat} {p x : Reg} (hx : l[m + 1]? = some x) (hp : l[m]? = some p) (h : okReg x) (h2 : okPair p x) : OkAt l (m + 1) := by
  intro y hy
  rw [hx] at hy
  cases hy
  refine ⟨h, fun m' p' hm hp' => ?_⟩
  obtain rfl : m = m' := by omega
  rw [hp] at hp'
  cases hp'
  exact h2
theorem regs_end {l : List Reg} {k : Nat} (h : ∀ j, j < k → OkAt l j) (hk : k = l.length) {b : Bool} (hb : b = decide (l.length ≤ 8)) : b = true ↔ RegsOk l := by
  subst hb hk
  simp only [decide_eq_true_eq]
  exact ⟨fun h8 => ⟨h, h8⟩, fun hr => hr.2⟩

set_option maxHeartbeats 4000000 in
theorem specRegionsValid (a : Option Addr) (cap : Nat) (l : List Reg) (w : World) (hl : l.length ≤ 9223372036854775807) (hc : Rd 3 encReg w a l) :
    Calls Try.prog 12 #[.slice a l.length cap] w (RetB (RegsOk l) w) := by
  go_enter Try.func12, Try.ntmps12
  go_wp2
  go_loopw [3, 4] (fun i _ wr => ∃ k : Nat, k ≤ l.length ∧ i = .int .i64 k ∧ (∀ j, j < k → OkAt l j) ∧ Ext w wr) (fun i _ _ => l.length - (intOf i).toNat)
  case atStart => exact ⟨0, Nat.zero_le _, rfl, fun _ h => absurd h (Nat.not_lt_zero _), Ext.refl _⟩
  case round =>
    obtain ⟨k, hk, rfl, hpre, hb⟩ := hrel
    have Hpre := Lib.hid hpre
    clear hpre
    by_cases hlt : k < l.length
    · obtain ⟨x, b, off, hx, rfl, c0, c1, c2⟩ := atReg (hc.ext hb) hlt
      have Hx := Lib.hid hx
      by_cases hok : okReg x
      · obtain ⟨h1, h2, h3, h4⟩ := hok
        have e1 : inB x.t 1 64 = true := inB_iff.2 (by omega)
        have e2 : inB x.f 0 (x.t - 1) = true := inB_iff.2 (by omega)
        have e3 : inB x.r 0 7 = true := inB_iff.2 (by omega)
        rcases k with _ | m
        · simp only [Nat.zero_mul, Nat.add_zero] at c0 c1 c2
          clear hx
          go_wp2_with (go_at_call 31; refine (l1In_any _ _ _ _).mono ?_; rintro e w' ⟨rfl, rfl⟩)
          go_quiet (fail)
          go_wp2
          go_roundw
          case rel => exact ⟨1, hlt, rfl, regs_next Hpre.out (regs_ok0 Hx.out ⟨h1, h2, h3, h4⟩), (hb.alloc _).drewN _⟩
          case measure => simp [intOf]; omega
        · obtain ⟨p, b', off', hp, ha, d0, d1, d2⟩ := atReg (hc.ext hb) (show m < l.length by omega)
          obtain ⟨rfl, rfl⟩ : b = b' ∧ off = off' := by simpa using ha
          have Hp := Lib.hid hp
          clear hx hp ha
          have s1 : IntKind.i64.wrap (m : Int) = (m : Int) := IntWalk.i64_in _ (by omega)
          have i0 : (0 : Int) ≤ (m : Int) := by omega
          have hbl : b < wr.heap.size := World.block_lt_of_cell? wr ⟨b, off + m * 3, none⟩ d0
          have i1 : (m : Int) < (l.length : Int) := by omega
          go_wp2_with (go_at_call 31; refine (l1In_any _ _ _ _).mono ?_; rintro e w' ⟨rfl, rfl⟩)
          by_cases h5 : x.f < p.t
          · have hbad : ¬ okPair p x := by unfold okPair; omega
            go_quiet (fail)
            go_wp2
            go_ret
            exact RetB.mk _ rfl (regs_bad2 hlt Hx.out Hp.out hbad rfl) ((hb.alloc _).drewN _)
          · by_cases h6 : x.f = p.t
            · have t6 : (x.f == p.t) = true := by simpa using h6
              by_cases h7 : x.r = p.r
              · have t7 : (x.r == p.r) = true := by simpa using h7
                have hbad : ¬ okPair p x := by unfold okPair; omega
                clear h6 h7
                go_quiet (fail)
                go_wp2
                go_ret
                exact RetB.mk _ rfl (regs_bad2 hlt Hx.out Hp.out hbad rfl) ((hb.alloc _).drewN _)
              · have t7 : (x.r == p.r) = false := by simpa using h7
                have hgood : okPair p x := by unfold okPair; omega
                clear h6 h7
                go_quiet (fail)
                go_wp2
                go_roundw
                case rel => exact ⟨m + 2, by omega, by go_num, regs_next Hpre.out (regs_ok1 Hx.out Hp.out ⟨h1, h2, h3, h4⟩ hgood), (hb.alloc _).drewN _⟩
                case measure => simp [intOf]; omega
            · have t6 : (x.f == p.t) = false := by simpa using h6
              have hgood : okPair p x := by unfold okPair; omega
              clear h6
              go_quiet (fail)
              go_wp2
              go_roundw
              case rel => exact ⟨m + 2, by omega, by go_num, regs_next Hpre.out (regs_ok1 Hx.out Hp.out ⟨h1, h2, h3, h4⟩ hgood), (hb.alloc _).drewN _⟩
              case measure => simp [intOf]; omega
      · clear hx
        by_cases h1 : 1 ≤ x.t ∧ x.t ≤ 64
        · by_cases h2 : 0 ≤ x.f ∧ x.f ≤ x.t - 1
          · have e3 : inB x.r 0 7 = false := inB_false (by unfold okReg at hok; omega)
            have e1 := inB_iff.2 h1
            have e2 := inB_iff.2 h2
            obtain ⟨h1, h1'⟩ := h1
            go_wp2_with (go_at_call 31; refine (l1In_any _ _ _ _).mono ?_; rintro e w' ⟨rfl, rfl⟩)
            go_ret
            exact RetB.mk _ rfl (regs_bad hlt Hx.out hok rfl) (hb.alloc _)
          · have e2 := inB_false h2
            have e1 := inB_iff.2 h1
            obtain ⟨h1, h1'⟩ := h1
            go_wp2_with (go_at_call 31; refine (l1In_any _ _ _ _).mono ?_; rintro e w' ⟨rfl, rfl⟩)
            go_ret
            exact RetB.mk _ rfl (regs_bad hlt Hx.out hok rfl) (hb.alloc _)
        · have e1 := inB_false h1
          go_wp2_with (go_at_call 31; refine (l1In_any _ _ _ _).mono ?_; rintro e w' ⟨rfl, rfl⟩)
          go_ret
          exact RetB.mk _ rfl (regs_bad hlt Hx.out hok rfl) (hb.alloc _)
    · go_wp2
      go_ret
      exact RetB.mk _ rfl (regs_end Hpre.out (by omega) (by simp; omega)) hb

set_option maxHeartbeats 1000000 in
theorem regionValid_any (x : Reg) (w : World) :
    Calls Try.prog 32 #[.agg #[.int .i64 x.f, .int .i64 x.t, .int .i64 x.r]] w (RetB (okReg x) w) := by
  by_cases h1 : 0 ≤ x.f ∧ x.f ≤ 63
  · have e1 : inB x.f 0 63 = true := inB_iff.2 h1
    obtain ⟨h1, h1'⟩ := h1
    by_cases h2 : x.f + 1 ≤ x.t ∧ x.t ≤ 64
    · have e2 : inB x.t (x.f + 1) 64 = true := inB_iff.2 h2
      go_enter Try.func32, Try.ntmps32
      go_wp2_with (first | (go_at_call 37; refine (within_any _ _ _ _).mono ?_; rintro e w' ⟨rfl, rfl⟩) | (go_at_call 43; refine (isRights_any _ _).mono ?_; rintro e w' ⟨rfl, rfl⟩))
      go_ret
      exact RetB.mk (inB x.r 0 7) (by simp) (by rw [inB_iff]; unfold okReg; omega) ((Ext.refl _).alloc _)
    · have e2 : inB x.t (x.f + 1) 64 = false := inB_false h2
      go_enter Try.func32, Try.ntmps32
      go_wp2_with (first | (go_at_call 37; refine (within_any _ _ _ _).mono ?_; rintro e w' ⟨rfl, rfl⟩) | (go_at_call 43; refine (isRights_any _ _).mono ?_; rintro e w' ⟨rfl, rfl⟩))
      go_ret
      exact RetB.mk false rfl (by simp only [Bool.false_eq_true, false_iff]; unfold okReg; omega) ((Ext.refl _).alloc _)
  · have e1 : inB x.f 0 63 = false := inB_false h1
    go_enter Try.func32, Try.ntmps32
    go_wp2_with (first | (go_at_call 37; refine (within_any _ _ _ _).mono ?_; rintro e w' ⟨rfl, rfl⟩) | (go_at_call 43; refine (isRights_any _ _).mono ?_; rintro e w' ⟨rfl, rfl⟩))
    go_ret
    exact RetB.mk false rfl (by simp only [Bool.false_eq_true, false_iff]; unfold okReg; omega) ((Ext.refl _).alloc _)

set_option maxHeartbeats 4000000 in
theorem implRegionsValid (a : Option Addr) (cap : Nat) (l : List Reg) (w : World) (hl : l.length ≤ 9223372036854775807) (hc : Rd 3 encReg w a l) :
    Calls Try.prog 14 #[.slice a l.length cap] w (RetB (RegsOk l) w) := by
  go_enter Try.func14, Try.ntmps14
  go_wp2
  go_loopw [3, 4, 7] (fun _ _ i wr => ∃ k : Nat, k ≤ l.length ∧ i = .int .i64 k ∧ (∀ j, j < k → OkAt l j) ∧ Ext w wr) (fun _ _ i _ => l.length - (intOf i).toNat)
  case atStart => exact ⟨0, Nat.zero_le _, rfl, fun _ h => absurd h (Nat.not_lt_zero _), Ext.refl _⟩
  case round =>
    obtain ⟨k, hk, rfl, hpre, hb⟩ := hrel
    have Hpre := Lib.hid hpre
    clear hpre
    by_cases hlt : k < l.length
    · obtain ⟨x, b, off, hx, rfl, c0, c1, c2⟩ := atReg (hc.ext hb) hlt
      have Hx := Lib.hid hx
      clear hx
      have hbl : b < wr.heap.size := World.block_lt_of_cell? wr ⟨b, off + k * 3, none⟩ c0
      rcases k with _ | m
      · simp only [Nat.zero_mul, Nat.add_zero] at c0 c1 c2
        go_wp2_with (go_at_call 32; refine (regionValid_any x _).mono ?_; rintro e w2 ⟨b0, rfl, he, hb2⟩; have He := Lib.hid he; clear he)
        · have hb0 : (!b0) = true := by assumption
          go_ret
          exact RetB.mk _ rfl (regs_bad hlt Hx.out (fun h => by rw [He.out.2 h] at hb0; cases hb0) rfl) ((hb.alloc _).trans hb2)
        · have hb0 : (!b0) = false := by assumption
          have hok := He.out.1 (by simpa using hb0)
          go_quiet (fail)
          go_wp2
          go_roundw
          case rel => exact ⟨1, hlt, rfl, regs_next Hpre.out (regs_ok0 Hx.out hok), ((hb.alloc _).trans hb2).drewN _⟩
          case measure => simp [intOf]; omega
      · obtain ⟨p, b', off', hp, ha, d0, d1, d2⟩ := atReg (hc.ext hb) (show m < l.length by omega)
        obtain ⟨rfl, rfl⟩ : b = b' ∧ off = off' := by simpa using ha
        have Hp := Lib.hid hp
        clear hp ha
        go_wp2_with (go_at_call 32; refine (regionValid_any x _).mono ?_; rintro e w2 ⟨b0, rfl, he, hb2⟩; have He := Lib.hid he; clear he)
        · have hb0 : (!b0) = true := by assumption
          go_ret
          exact RetB.mk _ rfl (regs_bad hlt Hx.out (fun h => by rw [He.out.2 h] at hb0; cases hb0) rfl) ((hb.alloc _).trans hb2)
        · have hb0 : (!b0) = false := by assumption
          have hok := He.out.1 (by simpa using hb0)
          have s1 : IntKind.i64.wrap (m : Int) = (m : Int) := IntWalk.i64_in _ (by omega)
          have i0 : (0 : Int) ≤ (m : Int) := by omega
          have i1 : (m : Int) < (l.length : Int) := by omega
          have q1 : w2.cell? ⟨b, off + m * 3 + 1, none⟩ = _ := cell_ext (((Ext.refl _).alloc _).trans hb2) d1
          have q2 : w2.cell? ⟨b, off + m * 3 + 2, none⟩ = _ := cell_ext (((Ext.refl _).alloc _).trans hb2) d2
          obtain ⟨n0, n1, n2⟩ : w2.cell? ⟨wr.heap.size, 0, none⟩ = some (.int .i64 x.f) ∧ w2.cell? ⟨wr.heap.size, 1, none⟩ = some (.int .i64 x.t) ∧ w2.cell? ⟨wr.heap.size, 2, none⟩ = some (.int .i64 x.r) := ⟨cell_ext hb2 (by simp), cell_ext hb2 (by simp), cell_ext hb2 (by simp)⟩
          clear d0 d1 d2 c0 c1 c2
          by_cases h5 : p.t > x.f
          · have hbad : ¬ okPair p x := by unfold okPair; omega
            go_quiet (fail)
            go_wp2
            go_ret
            exact RetB.mk _ rfl (regs_bad2 hlt Hx.out Hp.out hbad rfl) (((hb.alloc _).trans hb2).drewN _)
          · by_cases h6 : p.t = x.f
            · have t6 : (p.t == x.f) = true := by simpa using h6
              by_cases h7 : p.r = x.r
              · have t7 : (p.r == x.r) = true := by simpa using h7
                have hbad : ¬ okPair p x := by unfold okPair; omega
                clear h6 h7
                go_quiet (fail)
                go_wp2
                go_ret
                exact RetB.mk _ rfl (regs_bad2 hlt Hx.out Hp.out hbad rfl) (((hb.alloc _).trans hb2).drewN _)
              · have t7 : (p.r == x.r) = false := by simpa using h7
                have hgood : okPair p x := by unfold okPair; omega
                clear h6 h7
                go_quiet (fail)
                go_wp2
                go_roundw
                case rel => exact ⟨m + 2, by omega, by go_num, regs_next Hpre.out (regs_ok1 Hx.out Hp.out hok hgood), ((hb.alloc _).trans hb2).drewN _⟩
                case measure => simp [intOf]; omega
            · have t6 : (p.t == x.f) = false := by simpa using h6
              have hgood : okPair p x := by unfold okPair; omega
              clear h6
              go_quiet (fail)
              go_wp2
              go_roundw
              case rel => exact ⟨m + 2, by omega, by go_num, regs_next Hpre.out (regs_ok1 Hx.out Hp.out hok hgood), ((hb.alloc _).trans hb2).drewN _⟩
              case measure => simp [intOf]; omega
    · go_wp2
      go_ret
      exact RetB.mk _ rfl (regs_end Hpre.out (by omega) (by simp; omega)) hb
end Go.Proofs.Ythajlaelaebmnaa
