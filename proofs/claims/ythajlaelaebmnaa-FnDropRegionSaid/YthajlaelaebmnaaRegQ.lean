/- The program's pagesOf: its contract. Condition: regions within the pages. -/
import Derived.Test.YthajlaelaebmnaaRegS
import Derived.Test.YthajlaelaebmnaaRep
namespace Go.Proofs.Ythajlaelaebmnaa
open Go.RowKit

def pgs (R : Int → Int) : List Int := (List.range 64).map (fun p : Nat => R (p : Int))
theorem pgs_len (R : Int → Int) : (pgs R).length = 64 := by simp [pgs]
theorem pgs_at (R : Int → Int) {p : Nat} (h : p < 64) : (pgs R)[p]? = some (R p) := by simp [pgs, h]
theorem pgs_congr {R R' : Int → Int} (h : ∀ p : Nat, p < 64 → R p = R' p) : pgs R = pgs R' := by
  unfold pgs
  exact List.map_congr_left (fun p hp => h p (List.mem_range.1 hp))
def mixP (R : Int → Int) (f r m : Int) : Int → Int := fun p => if f ≤ p ∧ p < m then r else R p
theorem pgs_set (R : Int → Int) (f r : Int) (m : Nat) (hf : f ≤ m) (hm : m < 64) : (pgs (mixP R f r m)).set m r = pgs (mixP R f r (m + 1)) := by
  apply List.ext_getElem?
  intro i
  by_cases hi : i < 64
  · rw [pgs_at _ hi]
    by_cases h : m = i
    · subst h
      rw [List.getElem?_set_self (by rw [pgs_len]; exact hm)]
      simp only [mixP, Option.some.injEq]
      rw [if_pos (by omega)]
    · rw [List.getElem?_set_ne h, pgs_at _ hi]
      simp only [mixP, Option.some.injEq]
      by_cases h2 : f ≤ (i : Int) ∧ (i : Int) < m
      · rw [if_pos h2, if_pos (by omega)]
      · rw [if_neg h2, if_neg (by omega)]
  · rw [List.getElem?_eq_none (by rw [List.length_set, pgs_len]; omega), List.getElem?_eq_none (by rw [pgs_len]; omega)]
theorem repC_pgs : repC (-1) 64 = (pgs (rightsL [])).flatMap encInt1 := by
  have h : pgs (rightsL []) = List.replicate 64 (-1) := by
    show (List.range 64).map (fun _ => (-1 : Int)) = _
    rw [List.map_const', List.length_range]
  rw [h]
  rfl
theorem pgs_begin (R : Int → Int) (f r : Int) : pgs (mixP R f r f) = pgs R := pgs_congr (fun p _ => by simp only [mixP]; rw [if_neg (by omega)])
theorem pgs_end {l : List Reg} {k : Nat} {x : Reg} (hx : l[k]? = some x) : pgs (mixP (rightsL (l.take k)) x.f x.r x.t) = pgs (rightsL (l.take (k + 1))) := pgs_congr (fun p _ => by
  rw [rightsL_step p hx]
  simp only [mixP]
  by_cases h : x.f ≤ (p : Int) ∧ (p : Int) < x.t
  · rw [if_pos h, if_pos (inB_iff.2 (by omega))]
  · rw [if_neg h, if_neg (by rw [inB_iff]; omega)])

set_option maxHeartbeats 4000000 in
theorem pagesOf_any (a : Option Addr) (cap : Nat) (l : List Reg) (w : World) (hl : l.length ≤ 1048576) (hb : ∀ x ∈ l, 0 ≤ x.f ∧ x.f < x.t ∧ x.t ≤ 64) (hc : Rd 3 encReg w a l) :
    Calls Try.prog 38 #[.slice a l.length cap] w fun e w' => ∃ g, e = .returned (.slice (some ⟨g, 0, none⟩) 64 64) ∧ Sep w w' [plRow 3 1 encInt1 (.slice (some ⟨g, 0, none⟩) 64 64) (pgs (rightsL l))] := by
  have HB := Lib.hid hb
  clear hb
  go_enter Try.func38, Try.ntmps38
  have E1 := (Ext.refl w).alloc (.cells #[.int .i64 (-1)] 3)
  have c0 := cell_new w #[.int .i64 (-1)] 3 0 (.int .i64 (-1)) rfl
  go_wp2_with fail
  generalize (w.alloc (.cells #[.int .i64 (-1)] 3)) = w1 at *
  refine (repeat_any w.heap.size 0 1 (-1) w1 c0).mono ?_
  rintro e w2 ⟨v, rfl, ⟨rfl, hg⟩, hE⟩
  have S0 : Sep w w2 [plRow 3 1 encInt1 (.slice (some ⟨w1.heap.size, 0, none⟩) 64 64) (pgs (rightsL []))] := by
    refine Sep.one (p := plRow 3 1 encInt1 (.slice (some ⟨w1.heap.size, 0, none⟩) 64 64) (pgs (rightsL []))) (E1.trans hE) ?_ (fun b h => ?_)
    · refine ⟨by rw [flatMap_length encInt1_len, pgs_len], .inr ⟨w1.heap.size, 64, (repC (-1) 64).toArray, by rw [pgs_len], Nat.zero_le _, hg, by rw [pgs_len]; exact Nat.le_refl _, by unfold maxLen; omega, by simp [repC], ?_⟩⟩
      rw [← repC_pgs, List.take_of_length_le (by simp [repC, pgs_len])]
    · have h1 := E1.size
      have h2 : w1.heap.size = b := Option.some.inj h
      omega
  generalize w1.heap.size = g at *
  clear hg c0 E1 hE
  go_wp2
  go_loopw [11] (fun i wr => ∃ k : Nat, k ≤ l.length ∧ i = .int .i64 k ∧ Sep w wr [plRow 3 1 encInt1 (.slice (some ⟨g, 0, none⟩) 64 64) (pgs (rightsL (l.take k)))]) (fun i _ => l.length - (intOf i).toNat)
  case atStart => exact ⟨0, Nat.zero_le _, rfl, S0⟩
  case round =>
    obtain ⟨k, hk, rfl, S⟩ := hrel
    by_cases hlt : k < l.length
    · obtain ⟨x, p, off, hx, hpe, c0, c1, c2⟩ := atReg (hc.ext S.ext) hlt
      subst hpe
      obtain ⟨hx1, hx2, hx3⟩ := HB.out x (List.mem_of_getElem? hx)
      obtain ⟨xf, xt, xr⟩ := x
      simp only at hx1 hx2 hx3 c0 c1 c2
      obtain ⟨f0, rfl⟩ : ∃ f0 : Nat, xf = f0 := ⟨xf.toNat, by omega⟩
      obtain ⟨t0, rfl⟩ : ∃ t0 : Nat, xt = t0 := ⟨xt.toNat, by omega⟩
      have Hx := Lib.hid hx
      have i0 : (0 : Int) ≤ (k : Int) := by omega
      have i1 : (k : Int) < (l.length : Int) := by omega
      have hft : f0 < t0 := by omega
      have ht64 : t0 ≤ 64 := by omega
      clear hx hx1 hx2 hx3
      replace S : Sep w (wr.alloc (.cells #[.int .i64 f0, .int .i64 t0, .int .i64 xr] 33)) [plBox wr.heap.size #[.int .i64 f0, .int .i64 t0, .int .i64 xr] 33, plRow 3 1 encInt1 (.slice (some ⟨g, 0, none⟩) 64 64) (pgs (rightsL (l.take k)))] := S.alloc_at (by simp) _ _
      go_upto_region 5 with fail
      clear c0 c1 c2
      generalize (wr.alloc (.cells #[.int .i64 f0, .int .i64 t0, .int .i64 xr] 33)) = w3 at *
      generalize wr.heap.size = B at *
      obtain ⟨rbc0, rbf0⟩ : w3.cell? ⟨B, 0, none⟩ = some (.int .i64 f0) ∧ w3.frozen? ⟨B, 0, none⟩ = false := bx (S.box 0 rfl) 0 rfl
      obtain ⟨rbc1, rbf1⟩ : w3.cell? ⟨B, 1, none⟩ = some (.int .i64 t0) ∧ w3.frozen? ⟨B, 1, none⟩ = false := bx (S.box 0 rfl) 1 rfl
      obtain ⟨rbc2, rbf2⟩ : w3.cell? ⟨B, 2, none⟩ = some (.int .i64 xr) ∧ w3.frozen? ⟨B, 2, none⟩ = false := bx (S.box 0 rfl) 2 rfl
      go_wp2
      clear rbc0 rbf0 rbc1 rbf1 rbc2 rbf2
      go_loopw [6] (fun i wq => ∃ m : Nat, f0 ≤ m ∧ m ≤ t0 ∧ i = .int .i64 m ∧ Sep w wq [plBox B #[.int .i64 f0, .int .i64 t0, .int .i64 xr] 33, plRow 3 1 encInt1 (.slice (some ⟨g, 0, none⟩) 64 64) (pgs (mixP (rightsL (l.take k)) f0 xr m))]) (fun i _ => 64 - (intOf i).toNat)
      case atStart => exact ⟨f0, Nat.le_refl _, by omega, rfl, by rw [pgs_begin]; exact S⟩
      case round =>
        obtain ⟨m, hm1, hm2, rfl, S⟩ := hrel
        obtain ⟨rbc0, rbf0⟩ : wr.cell? ⟨B, 0, none⟩ = some (.int .i64 f0) ∧ wr.frozen? ⟨B, 0, none⟩ = false := bx (S.box 0 rfl) 0 rfl
        obtain ⟨rbc1, rbf1⟩ : wr.cell? ⟨B, 1, none⟩ = some (.int .i64 t0) ∧ wr.frozen? ⟨B, 1, none⟩ = false := bx (S.box 0 rfl) 1 rfl
        obtain ⟨rbc2, rbf2⟩ : wr.cell? ⟨B, 2, none⟩ = some (.int .i64 xr) ∧ wr.frozen? ⟨B, 2, none⟩ = false := bx (S.box 0 rfl) 2 rfl
        by_cases hmt : m < t0
        · have hmi : (m : Int) < (t0 : Int) := by omega
          have hm64 : m < (pgs (mixP (rightsL (l.take k)) f0 xr m)).length := by rw [pgs_len]; omega
          have hrow := S.row 1 rfl
          have g0 : wr.cell? ⟨g, m, none⟩ = some (.int .i64 (pgs (mixP (rightsL (l.take k)) f0 xr m))[m]) := by
            have := owns_at encInt1_len (show wr.ownsRow _ _ 1 (.slice (some ⟨g, 0, none⟩) 64 64) 64 _ by have := hrow; rw [pgs_len] at this; exact this) m hm64 0 _ rfl
            simpa using this
          have fz0 : wr.frozen? ⟨g, m, none⟩ = false := hrow.frozenAt m
          have S2 := S.rowSet 1 encInt1_len rfl (by rw [pgs_len]) m 0 (.int .i64 xr) xr hm64 (by omega) rfl
          rw [pgs_set _ _ _ _ (by omega) (by omega), Nat.mul_one, Nat.add_zero] at S2
          generalize (pgs (mixP (rightsL (l.take k)) f0 xr m))[m] = old at *
          clear hrow
          have j0 : (m : Int) < 64 := by omega
          go_wp2
          go_roundw
          case rel => exact ⟨m + 1, by omega, by omega, by go_num, by push_cast; exact S2⟩
          case measure => simp [intOf]; omega
        · obtain rfl : m = t0 := by omega
          have hni : ¬ (m : Int) < (m : Int) := by omega
          have S2 : Sep w wr [plRow 3 1 encInt1 (.slice (some ⟨g, 0, none⟩) 64 64) (pgs (rightsL (l.take (k + 1))))] := by
            rw [← pgs_end Hx.out]
            exact S.drop 0
          go_wp2
          go_roundw
          case rel => exact ⟨k + 1, by omega, by go_num, S2⟩
          case measure => simp [intOf]; omega
    · obtain rfl : k = l.length := by omega
      have hni : ¬ (l.length : Int) < (l.length : Int) := by omega
      go_wp2
      go_ret
      rw [List.take_length] at S
      exact ⟨g, rfl, S⟩
end Go.Proofs.Ythajlaelaebmnaa
