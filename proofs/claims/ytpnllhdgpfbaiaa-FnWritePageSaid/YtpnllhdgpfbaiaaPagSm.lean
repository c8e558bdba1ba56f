/- sameMemory. Condition: rows shorter than 2^63. -/
import Derived.Test.YtpnllhdgpfbaiaaTabL
import Derived.Test.YtpnllhdgpfbaiaaSameI
namespace Go.Proofs.Ytpnllhdgpfbaiaa
open Go.RowKit

set_option maxHeartbeats 4000000 in
theorem sameMem_any (a1 a2 b1 b2 : Option Addr) (c1 c2 d1 d2 : Nat) (F G : List Int) (T U : List (List Int)) (w : World) (hF : F.length ≤ 9223372036854775807) (hG : G.length ≤ 9223372036854775807) (hT : T.length ≤ 9223372036854775807) (hU : U.length ≤ 9223372036854775807) (hlt : ∀ t ∈ T, t.length ≤ 9223372036854775807) (hlu : ∀ t ∈ U, t.length ≤ 9223372036854775807)
    (hrf : Rd 1 encInt1 w a1 F) (hrt : RdT w a2 T) (hsf : Rd 1 encInt1 w b1 G) (hst : RdT w b2 U) :
    Calls Try.prog 35 #[.agg #[.slice a1 F.length c1, .slice a2 T.length c2], .agg #[.slice b1 G.length d1, .slice b2 U.length d2]] w (RetB (F = G ∧ T = U) w) := by
  have HLT := Lib.hid hlt
  have HLU := Lib.hid hlu
  clear hlt hlu
  go_enter Try.func35, Try.ntmps35
  have S := Sep.start w
  replace S : Sep w (w.alloc (.cells #[.slice a1 F.length c1, .slice a2 T.length c2] 28)) [plBox w.heap.size #[.slice a1 F.length c1, .slice a2 T.length c2] 28] := S.alloc_at (by simp) _ _
  replace S : Sep w ((w.alloc (.cells #[.slice a1 F.length c1, .slice a2 T.length c2] 28)).alloc (.cells #[.slice b1 G.length d1, .slice b2 U.length d2] 28)) [plBox (w.heap.size + 1) #[.slice b1 G.length d1, .slice b2 U.length d2] 28, plBox w.heap.size #[.slice a1 F.length c1, .slice a2 T.length c2] 28] := S.alloc_at (by simp) _ _
  go_wp2_with fail
  generalize ((w.alloc (.cells #[.slice a1 F.length c1, .slice a2 T.length c2] 28)).alloc (.cells #[.slice b1 G.length d1, .slice b2 U.length d2] 28)) = w1 at *
  refine (sameInts_any a1 b1 c1 d1 F G w1 hF hG (hrf.ext S.ext) (hsf.ext S.ext)).mono ?_
  rintro e w2 ⟨v1, rfl, hv1, hE⟩
  have Hv1 := Lib.hid hv1
  clear hv1
  replace S : Sep w w2 [plBox (w.heap.size + 1) #[.slice b1 G.length d1, .slice b2 U.length d2] 28, plBox w.heap.size #[.slice a1 F.length c1, .slice a2 T.length c2] 28] := S.step hE
  clear hE
  cases v1 with
  | false =>
    go_wp2
    go_ret
    exact RetB.mk false rfl (by simp only [Bool.false_eq_true, false_iff]; exact fun h => Bool.noConfusion (Hv1.out.2 h.1)) S.ext
  | true =>
    obtain ⟨qc0, qf0⟩ : w2.cell? ⟨(w.heap.size + 1), 0, none⟩ = some (.slice b1 G.length d1) ∧ w2.frozen? ⟨(w.heap.size + 1), 0, none⟩ = false := bx (S.box 0 rfl) 0 rfl
    obtain ⟨qc1, qf1⟩ : w2.cell? ⟨(w.heap.size + 1), 1, none⟩ = some (.slice b2 U.length d2) ∧ w2.frozen? ⟨(w.heap.size + 1), 1, none⟩ = false := bx (S.box 0 rfl) 1 rfl
    obtain ⟨pc0, pf0⟩ : w2.cell? ⟨w.heap.size, 0, none⟩ = some (.slice a1 F.length c1) ∧ w2.frozen? ⟨w.heap.size, 0, none⟩ = false := bx (S.box 1 rfl) 0 rfl
    obtain ⟨pc1, pf1⟩ : w2.cell? ⟨w.heap.size, 1, none⟩ = some (.slice a2 T.length c2) ∧ w2.frozen? ⟨w.heap.size, 1, none⟩ = false := bx (S.box 1 rfl) 1 rfl
    by_cases hlen : T.length = U.length
    rotate_left
    · have ht : ((T.length : Int) != (U.length : Int)) = true := by simp; omega
      have Hlen := Lib.hid hlen
      clear hlen
      go_wp2
      go_ret
      exact RetB.mk false rfl (by simp only [Bool.false_eq_true, false_iff]; intro h; exact Hlen.out (by rw [h.2])) S.ext
    · have ht : ((T.length : Int) != (U.length : Int)) = false := by simp; omega
      have Hlen := Lib.hid hlen
      clear hlen
      go_wp2
      clear qc0 qf0 qc1 qf1 pc0 pf0 pc1 pf1
      go_loopw [5] (fun i wr => ∃ k : Nat, k ≤ T.length ∧ i = .int .i64 k ∧ (∀ j, j < k → T[j]? = U[j]?) ∧ Ext w2 wr) (fun i _ => T.length - (intOf i).toNat)
      case atStart => exact ⟨0, Nat.zero_le _, rfl, fun _ h => absurd h (Nat.not_lt_zero _), Ext.refl _⟩
      case round =>
        obtain ⟨k, hk, rfl, hpre, hb⟩ := hrel
        have Hpre := Lib.hid hpre
        have hb0 := hb
        clear hpre ht
        replace S : Sep w wr [plBox (w.heap.size + 1) #[.slice b1 G.length d1, .slice b2 U.length d2] 28, plBox w.heap.size #[.slice a1 F.length c1, .slice a2 T.length c2] 28] := S.step hb
        clear hb
        obtain ⟨qc0, qf0⟩ : wr.cell? ⟨(w.heap.size + 1), 0, none⟩ = some (.slice b1 G.length d1) ∧ wr.frozen? ⟨(w.heap.size + 1), 0, none⟩ = false := bx (S.box 0 rfl) 0 rfl
        obtain ⟨qc1, qf1⟩ : wr.cell? ⟨(w.heap.size + 1), 1, none⟩ = some (.slice b2 U.length d2) ∧ wr.frozen? ⟨(w.heap.size + 1), 1, none⟩ = false := bx (S.box 0 rfl) 1 rfl
        obtain ⟨pc0, pf0⟩ : wr.cell? ⟨w.heap.size, 0, none⟩ = some (.slice a1 F.length c1) ∧ wr.frozen? ⟨w.heap.size, 0, none⟩ = false := bx (S.box 1 rfl) 0 rfl
        obtain ⟨pc1, pf1⟩ : wr.cell? ⟨w.heap.size, 1, none⟩ = some (.slice a2 T.length c2) ∧ wr.frozen? ⟨w.heap.size, 1, none⟩ = false := bx (S.box 1 rfl) 1 rfl
        by_cases hlk : k < T.length
        · have hltm : k < U.length := by have := Hlen.out; omega
          have hrt' := hrt.ext S.ext
          have hst' := hst.ext S.ext
          obtain ⟨t, b, off, ai, ci, hx, hpe, c0, _, hrt2⟩ := atTab hrt' hlk
          obtain ⟨t', b', off', ai', ci', hy, hpe', d0, _, hru2⟩ := atTab hst' hltm
          subst hpe hpe'
          have Hx := Lib.hid hx
          have Hy := Lib.hid hy
          have hl1 := HLT.out t (List.mem_of_getElem? hx)
          have hl2 := HLU.out t' (List.mem_of_getElem? hy)
          have i0 : (k : Int) < (T.length : Int) := by omega
          have i1 : (k : Int) < (U.length : Int) := by omega
          have q0 := ExtW.cell c0
          have q1 := ExtW.cell d0
          have q2 := ExtW.cell pc1
          have q3 := ExtW.cell qc1
          have b1 := ExtW.lt c0
          have b2 := ExtW.lt d0
          have b3 := ExtW.lt pc1
          have b4 := ExtW.lt qc1
          clear hx hy hrt' hst'
          by_cases hxy : t = t'
          · have Hxy := Lib.hid hxy
            clear hxy
            go_wp2
            (refine wp_region_quiet_ext (by kernel_rfl) (by kernel_rfl) ?_; (repeat (go_big_quiet_step ((go_at_call 30; exact Calls.at_b (T := t = t') true (by simp [Hxy.out]) (sameInts_any _ _ _ _ t t' _ hl1 hl2 (hrt2.ext (ExtW.h _)) (hru2.ext (ExtW.h _))))))); refine wpQuiet_nil ?_; intro _ hw'; obtain ⟨sq, hw''⟩ := hw'; subst hw'')
            obtain ⟨w5, hw5⟩ := sq
            clear c0 d0 q0 q1 q2 q3
            go_wp2
            go_roundw
            case rel => exact ⟨k + 1, by omega, by go_num, fun j hj => (Nat.lt_succ_iff_lt_or_eq.1 hj).elim (Hpre.out j) (fun e => by rw [e, Hx.out, Hy.out, Hxy.out]), hb0.trans hw5⟩
            case measure => simp [intOf]; omega
          · have Hxy := Lib.hid hxy
            clear hxy
            go_wp2
            (refine wp_region_quiet_ext (by kernel_rfl) (by kernel_rfl) ?_; (repeat (go_big_quiet_step ((go_at_call 30; exact Calls.at_b (T := t = t') false (by simp [Hxy.out]) (sameInts_any _ _ _ _ t t' _ hl1 hl2 (hrt2.ext (ExtW.h _)) (hru2.ext (ExtW.h _))))))); refine wpQuiet_nil ?_; intro _ hw'; obtain ⟨sq, hw''⟩ := hw'; subst hw'')
            obtain ⟨w5, hw5⟩ := sq
            clear c0 d0 q0 q1 q2 q3
            go_wp2
            go_ret
            exact RetB.mk false rfl (by simp only [Bool.false_eq_true, false_iff]; rintro ⟨_, h⟩; subst h; have h1 := Hx.out; rw [Hy.out] at h1; cases h1; exact Hxy.out rfl) (S.ext.trans hw5)
        · have hni : ¬ (k : Int) < (T.length : Int) := by omega
          go_wp2
          go_ret
          exact RetB.mk true rfl (by simp only [true_iff]; exact ⟨Hv1.out.1 (by trivial), extTab Hlen.out (fun j hj => Hpre.out j (by omega))⟩) S.ext
end Go.Proofs.Ytpnllhdgpfbaiaa
