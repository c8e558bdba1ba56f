/- Memories: contracts of the laws' functions that count, copy, compare and mark them. Condition: rows shorter than 2^63. -/
import Derived.Test.YtpnllhdgpfbaiaaTabL
import Derived.Deep.Cut
namespace Go.Proofs.Ytpnllhdgpfbaiaa
open Go.RowKit

set_option maxHeartbeats 2000000 in
theorem szMem_any (af : Option Addr) (cf : Nat) (F : List Int) (at_ : Option Addr) (ct : Nat) (T : List (List Int)) (left : Int) (w : World) (h0 : 0 ≤ left) (h1 : left ≤ 1048576) (hF : F.length ≤ 9223372036854775807) (hT : T.length ≤ 9223372036854775807) (hlt : ∀ t ∈ T, t.length ≤ 9223372036854775807) (hrt : RdT w at_ T) :
    Calls Try.prog 13 #[.agg #[.slice af F.length cf, .slice at_ T.length ct], .int .i64 left] w (RetSz left (fun _ => F.length ≤ 1048576 ∧ T.length ≤ 1048576 ∧ sumL T ≤ 1048576) w) := by
  have HLT := Lib.hid hlt
  clear hlt
  go_enter Try.func13, Try.ntmps13
  have S := Sep.start w
  replace S : Sep w (w.alloc (.cells #[.slice af F.length cf, .slice at_ T.length ct] 25)) [plBox w.heap.size #[.slice af F.length cf, .slice at_ T.length ct] 25] := S.alloc_at (by simp) _ _
  go_wp2_with fail
  generalize (w.alloc (.cells #[.slice af F.length cf, .slice at_ T.length ct] 25)) = w1 at *
  refine (szIntS_any af cf F left w1 h0 h1 hF).mono ?_
  rintro e w2 ⟨r, rfl, hra, hrb, hrc, hE⟩
  have Hrc := Lib.hid hrc
  clear hrc
  replace S : Sep w w2 [plBox w.heap.size #[.slice af F.length cf, .slice at_ T.length ct] 25] := S.step hE
  clear hE
  by_cases hneg : r < 0
  · go_wp2
    go_ret
    exact RetSz.mk rfl (by omega) (by omega) (fun h => absurd h (by omega)) S.ext
  · obtain ⟨bc0, bf0⟩ : w2.cell? ⟨w.heap.size, 0, none⟩ = some (.slice af F.length cf) ∧ w2.frozen? ⟨w.heap.size, 0, none⟩ = false := bx (S.box 0 rfl) 0 rfl
    obtain ⟨bc1, bf1⟩ : w2.cell? ⟨w.heap.size, 1, none⟩ = some (.slice at_ T.length ct) ∧ w2.frozen? ⟨w.heap.size, 1, none⟩ = false := bx (S.box 0 rfl) 1 rfl
    go_wp2_with fail
    refine (szTab_any at_ ct T r w2 (by omega) (by omega) hT HLT.out (hrt.ext S.ext)).mono ?_
    rintro e w3 ⟨q, rfl, hqa, hqb, hqc, hE⟩
    have Hqc := Lib.hid hqc
    clear hqc
    clear bc0 bf0 bc1 bf1
    replace S : Sep w w3 [plBox w.heap.size #[.slice af F.length cf, .slice at_ T.length ct] 25] := S.step hE
    clear hE
    by_cases hneg2 : q < 0
    · go_wp2
      go_ret
      exact RetSz.mk rfl (by omega) (by omega) (fun h => absurd h (by omega)) S.ext
    · go_wp2
      go_ret
      exact RetSz.mk rfl (by omega) (by omega) (fun _ => ⟨Hrc.out (by omega), Hqc.out (by omega)⟩) S.ext

set_option maxHeartbeats 2000000 in
theorem toMem_any (af : Option Addr) (cf : Nat) (F : List Int) (at_ : Option Addr) (ct : Nat) (T : List (List Int)) (w : World) (hF : F.length ≤ 1048576) (hT : T.length ≤ 1048576) (hlt : ∀ t ∈ T, t.length ≤ 1048576) (hrf : Rd 1 encInt1 w af F) (hrt : RdT w at_ T) :
    Calls Try.prog 15 #[.agg #[.slice af F.length cf, .slice at_ T.length ct]] w fun e w' => ∃ a1 c1 a2 c2 vs, e = .returned (.agg #[.slice a1 F.length c1, .slice a2 T.length c2]) ∧ F.length ≤ c1 ∧ T.length ≤ c2 ∧ Sep w w' [plTab (.slice a2 T.length c2) vs T, plRow 3 1 encInt1 (.slice a1 F.length c1) F] := by
  have HLT := Lib.hid hlt
  clear hlt
  go_enter Try.func15, Try.ntmps15
  have S := Sep.start w
  replace S : Sep w (w.alloc (.cells #[.slice af F.length cf, .slice at_ T.length ct] 25)) [plBox w.heap.size #[.slice af F.length cf, .slice at_ T.length ct] 25] := S.alloc_at (by simp) _ _
  replace S : Sep w ((w.alloc (.cells #[.slice af F.length cf, .slice at_ T.length ct] 25)).alloc (.cells #[.slice none 0 0, .slice none 0 0] 28)) [plBox (w.heap.size + 1) #[.slice none 0 0, .slice none 0 0] 28, plBox w.heap.size #[.slice af F.length cf, .slice at_ T.length ct] 25] := S.alloc_at (by simp) _ _
  replace S : Sep w (((w.alloc (.cells #[.slice af F.length cf, .slice at_ T.length ct] 25)).alloc (.cells #[.slice none 0 0, .slice none 0 0] 28)).alloc (.cells #[.slice none 0 0, .slice none 0 0] 28)) [plBox (w.heap.size + 2) #[.slice none 0 0, .slice none 0 0] 28, plBox (w.heap.size + 1) #[.slice none 0 0, .slice none 0 0] 28, plBox w.heap.size #[.slice af F.length cf, .slice at_ T.length ct] 25] := S.alloc_at (by simp) _ _
  go_wp2_with fail
  generalize (((w.alloc (.cells #[.slice af F.length cf, .slice at_ T.length ct] 25)).alloc (.cells #[.slice none 0 0, .slice none 0 0] 28)).alloc (.cells #[.slice none 0 0, .slice none 0 0] 28)) = w1 at *
  refine (toIntS_any af cf F w1 hF (hrf.ext S.ext)).mono ?_
  rintro e w2 ⟨u, rfl, ⟨ho, hv⟩, hE⟩
  obtain ⟨a1, c1, hv2, hk1, _, _⟩ := view_owns encInt1_len ho
  subst hv2
  clear hv
  have U := Sep.of_owns hE ho
  clear hE ho
  replace S : Sep w w2 [plRow 3 1 encInt1 (.slice a1 F.length c1) F, plBox (w.heap.size + 2) #[.slice none 0 0, .slice none 0 0] 28, plBox (w.heap.size + 1) #[.slice none 0 0, .slice none 0 0] 28, plBox w.heap.size #[.slice af F.length cf, .slice at_ T.length ct] 25] := S.call U
  clear U
  obtain ⟨obc0, obf0⟩ : w2.cell? ⟨(w.heap.size + 2), 0, none⟩ = some (.slice none 0 0) ∧ w2.frozen? ⟨(w.heap.size + 2), 0, none⟩ = false := bx (S.box 1 rfl) 0 rfl
  obtain ⟨obc1, obf1⟩ : w2.cell? ⟨(w.heap.size + 2), 1, none⟩ = some (.slice none 0 0) ∧ w2.frozen? ⟨(w.heap.size + 2), 1, none⟩ = false := bx (S.box 1 rfl) 1 rfl
  obtain ⟨rbc0, rbf0⟩ : w2.cell? ⟨(w.heap.size + 1), 0, none⟩ = some (.slice none 0 0) ∧ w2.frozen? ⟨(w.heap.size + 1), 0, none⟩ = false := bx (S.box 2 rfl) 0 rfl
  obtain ⟨rbc1, rbf1⟩ : w2.cell? ⟨(w.heap.size + 1), 1, none⟩ = some (.slice none 0 0) ∧ w2.frozen? ⟨(w.heap.size + 1), 1, none⟩ = false := bx (S.box 2 rfl) 1 rfl
  obtain ⟨a0c0, a0f0⟩ : w2.cell? ⟨w.heap.size, 0, none⟩ = some (.slice af F.length cf) ∧ w2.frozen? ⟨w.heap.size, 0, none⟩ = false := bx (S.box 3 rfl) 0 rfl
  obtain ⟨a0c1, a0f1⟩ : w2.cell? ⟨w.heap.size, 1, none⟩ = some (.slice at_ T.length ct) ∧ w2.frozen? ⟨w.heap.size, 1, none⟩ = false := bx (S.box 3 rfl) 1 rfl
  go_wp2_with fail
  clear obc0 obf0 obc1 obf1 rbc0 rbf0 rbc1 rbf1 a0c0 a0f0 a0c1 a0f1
  replace S : Sep w (w2.setCell ⟨(w.heap.size + 2), 0, none⟩ (.slice a1 F.length c1)) [plRow 3 1 encInt1 (.slice a1 F.length c1) F, plBox (w.heap.size + 2) #[.slice a1 F.length c1, .slice none 0 0] 28, plBox (w.heap.size + 1) #[.slice none 0 0, .slice none 0 0] 28, plBox w.heap.size #[.slice af F.length cf, .slice at_ T.length ct] 25] := S.set 1 rfl 0 _
  generalize (w2.setCell ⟨(w.heap.size + 2), 0, none⟩ (.slice a1 F.length c1)) = w3 at *
  refine (toTab_any at_ ct T w3 hT HLT.out (hrt.ext S.ext)).mono ?_
  rintro e w4 ⟨vs, rfl, U⟩
  generalize w3.heap.size = g at *
  replace S : Sep w w4 [plTab (.slice (some ⟨g, 0, none⟩) T.length T.length) vs T, plRow 3 1 encInt1 (.slice a1 F.length c1) F, plBox (w.heap.size + 2) #[.slice a1 F.length c1, .slice none 0 0] 28, plBox (w.heap.size + 1) #[.slice none 0 0, .slice none 0 0] 28, plBox w.heap.size #[.slice af F.length cf, .slice at_ T.length ct] 25] := S.call U
  clear U
  obtain ⟨obc0, obf0⟩ : w4.cell? ⟨(w.heap.size + 2), 0, none⟩ = some (.slice a1 F.length c1) ∧ w4.frozen? ⟨(w.heap.size + 2), 0, none⟩ = false := bx (S.box 2 rfl) 0 rfl
  obtain ⟨obc1, obf1⟩ : w4.cell? ⟨(w.heap.size + 2), 1, none⟩ = some (.slice none 0 0) ∧ w4.frozen? ⟨(w.heap.size + 2), 1, none⟩ = false := bx (S.box 2 rfl) 1 rfl
  obtain ⟨rbc0, rbf0⟩ : w4.cell? ⟨(w.heap.size + 1), 0, none⟩ = some (.slice none 0 0) ∧ w4.frozen? ⟨(w.heap.size + 1), 0, none⟩ = false := bx (S.box 3 rfl) 0 rfl
  obtain ⟨rbc1, rbf1⟩ : w4.cell? ⟨(w.heap.size + 1), 1, none⟩ = some (.slice none 0 0) ∧ w4.frozen? ⟨(w.heap.size + 1), 1, none⟩ = false := bx (S.box 3 rfl) 1 rfl
  obtain ⟨a0c0, a0f0⟩ : w4.cell? ⟨w.heap.size, 0, none⟩ = some (.slice af F.length cf) ∧ w4.frozen? ⟨w.heap.size, 0, none⟩ = false := bx (S.box 4 rfl) 0 rfl
  obtain ⟨a0c1, a0f1⟩ : w4.cell? ⟨w.heap.size, 1, none⟩ = some (.slice at_ T.length ct) ∧ w4.frozen? ⟨w.heap.size, 1, none⟩ = false := bx (S.box 4 rfl) 1 rfl
  go_wp2
  try simp only [Exit.inBlock, Exit.then]
  refine bodyPost_ret (v := .agg #[.slice a1 F.length c1, .slice (some ⟨g, 0, none⟩) T.length T.length]) (by simp [results, Try.results15, go_sem, rbc0, rbc1, obc0, obc1]) rfl ?_
  replace S : Sep w (w4.setCell ⟨(w.heap.size + 2), 1, none⟩ (.slice (some ⟨g, 0, none⟩) T.length T.length)) [plTab (.slice (some ⟨g, 0, none⟩) T.length T.length) vs T, plRow 3 1 encInt1 (.slice a1 F.length c1) F, plBox (w.heap.size + 2) #[.slice a1 F.length c1, .slice (some ⟨g, 0, none⟩) T.length T.length] 28, plBox (w.heap.size + 1) #[.slice none 0 0, .slice none 0 0] 28, plBox w.heap.size #[.slice af F.length cf, .slice at_ T.length ct] 25] := S.set 2 rfl 1 _
  replace S : Sep w ((w4.setCell ⟨(w.heap.size + 2), 1, none⟩ (.slice (some ⟨g, 0, none⟩) T.length T.length)).setCell ⟨(w.heap.size + 1), 0, none⟩ (.slice a1 F.length c1)) [plTab (.slice (some ⟨g, 0, none⟩) T.length T.length) vs T, plRow 3 1 encInt1 (.slice a1 F.length c1) F, plBox (w.heap.size + 2) #[.slice a1 F.length c1, .slice (some ⟨g, 0, none⟩) T.length T.length] 28, plBox (w.heap.size + 1) #[.slice a1 F.length c1, .slice none 0 0] 28, plBox w.heap.size #[.slice af F.length cf, .slice at_ T.length ct] 25] := S.set 3 rfl 0 _
  replace S : Sep w (((w4.setCell ⟨(w.heap.size + 2), 1, none⟩ (.slice (some ⟨g, 0, none⟩) T.length T.length)).setCell ⟨(w.heap.size + 1), 0, none⟩ (.slice a1 F.length c1)).setCell ⟨(w.heap.size + 1), 1, none⟩ (.slice (some ⟨g, 0, none⟩) T.length T.length)) [plTab (.slice (some ⟨g, 0, none⟩) T.length T.length) vs T, plRow 3 1 encInt1 (.slice a1 F.length c1) F, plBox (w.heap.size + 2) #[.slice a1 F.length c1, .slice (some ⟨g, 0, none⟩) T.length T.length] 28, plBox (w.heap.size + 1) #[.slice a1 F.length c1, .slice (some ⟨g, 0, none⟩) T.length T.length] 28, plBox w.heap.size #[.slice af F.length cf, .slice at_ T.length ct] 25] := S.set 3 rfl 1 _
  replace S : Sep w (((w4.setCell ⟨(w.heap.size + 2), 1, none⟩ (.slice (some ⟨g, 0, none⟩) T.length T.length)).setCell ⟨(w.heap.size + 1), 0, none⟩ (.slice a1 F.length c1)).setCell ⟨(w.heap.size + 1), 1, none⟩ (.slice (some ⟨g, 0, none⟩) T.length T.length)) [plTab (.slice (some ⟨g, 0, none⟩) T.length T.length) vs T, plRow 3 1 encInt1 (.slice a1 F.length c1) F, plBox (w.heap.size + 1) #[.slice a1 F.length c1, .slice (some ⟨g, 0, none⟩) T.length T.length] 28, plBox w.heap.size #[.slice af F.length cf, .slice at_ T.length ct] 25] := S.drop 2
  replace S : Sep w (((w4.setCell ⟨(w.heap.size + 2), 1, none⟩ (.slice (some ⟨g, 0, none⟩) T.length T.length)).setCell ⟨(w.heap.size + 1), 0, none⟩ (.slice a1 F.length c1)).setCell ⟨(w.heap.size + 1), 1, none⟩ (.slice (some ⟨g, 0, none⟩) T.length T.length)) [plTab (.slice (some ⟨g, 0, none⟩) T.length T.length) vs T, plRow 3 1 encInt1 (.slice a1 F.length c1) F, plBox w.heap.size #[.slice af F.length cf, .slice at_ T.length ct] 25] := S.drop 2
  replace S : Sep w (((w4.setCell ⟨(w.heap.size + 2), 1, none⟩ (.slice (some ⟨g, 0, none⟩) T.length T.length)).setCell ⟨(w.heap.size + 1), 0, none⟩ (.slice a1 F.length c1)).setCell ⟨(w.heap.size + 1), 1, none⟩ (.slice (some ⟨g, 0, none⟩) T.length T.length)) [plTab (.slice (some ⟨g, 0, none⟩) T.length T.length) vs T, plRow 3 1 encInt1 (.slice a1 F.length c1) F] := S.drop 2
  exact ⟨a1, c1, _, _, vs, rfl, hk1, Nat.le_refl _, S⟩

set_option maxHeartbeats 2000000 in
theorem eqMem_any (a1 a2 b1 b2 : Option Addr) (c1 c2 d1 d2 : Nat) (F G : List Int) (T U : List (List Int)) (w : World) (hF : F.length ≤ 9223372036854775807) (hG : G.length ≤ 9223372036854775807) (hT : T.length ≤ 9223372036854775807) (hU : U.length ≤ 9223372036854775807) (hlt : ∀ t ∈ T, t.length ≤ 9223372036854775807) (hlu : ∀ t ∈ U, t.length ≤ 9223372036854775807)
    (hrf : Rd 1 encInt1 w a1 F) (hrt : RdT w a2 T) (hsf : Rd 1 encInt1 w b1 G) (hst : RdT w b2 U) :
    Calls Try.prog 17 #[.agg #[.slice a1 F.length c1, .slice a2 T.length c2], .agg #[.slice b1 G.length d1, .slice b2 U.length d2]] w (RetB (F = G ∧ T = U) w) := by
  have HLT := Lib.hid hlt
  have HLU := Lib.hid hlu
  clear hlt hlu
  go_enter Try.func17, Try.ntmps17
  have S := Sep.start w
  replace S : Sep w (w.alloc (.cells #[.slice a1 F.length c1, .slice a2 T.length c2] 28)) [plBox w.heap.size #[.slice a1 F.length c1, .slice a2 T.length c2] 28] := S.alloc_at (by simp) _ _
  replace S : Sep w ((w.alloc (.cells #[.slice a1 F.length c1, .slice a2 T.length c2] 28)).alloc (.cells #[.slice b1 G.length d1, .slice b2 U.length d2] 28)) [plBox (w.heap.size + 1) #[.slice b1 G.length d1, .slice b2 U.length d2] 28, plBox w.heap.size #[.slice a1 F.length c1, .slice a2 T.length c2] 28] := S.alloc_at (by simp) _ _
  go_wp2_with fail
  generalize ((w.alloc (.cells #[.slice a1 F.length c1, .slice a2 T.length c2] 28)).alloc (.cells #[.slice b1 G.length d1, .slice b2 U.length d2] 28)) = w1 at *
  refine (eqIntS_any a1 b1 c1 d1 F G w1 hF hG (hrf.ext S.ext) (hsf.ext S.ext)).mono ?_
  rintro e w2 ⟨v1, rfl, hv1, hE⟩
  have Hv1 := Lib.hid hv1
  clear hv1
  replace S : Sep w w2 [plBox (w.heap.size + 1) #[.slice b1 G.length d1, .slice b2 U.length d2] 28, plBox w.heap.size #[.slice a1 F.length c1, .slice a2 T.length c2] 28] := S.step hE
  clear hE
  cases v1 with
  | false =>
    go_wp2
    go_ret
    exact RetB.mk false rfl (by simp only [Bool.false_eq_true, false_iff]; exact fun h => Bool.noConfusion (Hv1.out.2 h.1)) S.ext
  | true =>
    obtain ⟨qc0, qf0⟩ : w2.cell? ⟨(w.heap.size + 1), 0, none⟩ = some (.slice b1 G.length d1) ∧ w2.frozen? ⟨(w.heap.size + 1), 0, none⟩ = false := bx (S.box 0 rfl) 0 rfl
    obtain ⟨qc1, qf1⟩ : w2.cell? ⟨(w.heap.size + 1), 1, none⟩ = some (.slice b2 U.length d2) ∧ w2.frozen? ⟨(w.heap.size + 1), 1, none⟩ = false := bx (S.box 0 rfl) 1 rfl
    obtain ⟨pc0, pf0⟩ : w2.cell? ⟨w.heap.size, 0, none⟩ = some (.slice a1 F.length c1) ∧ w2.frozen? ⟨w.heap.size, 0, none⟩ = false := bx (S.box 1 rfl) 0 rfl
    obtain ⟨pc1, pf1⟩ : w2.cell? ⟨w.heap.size, 1, none⟩ = some (.slice a2 T.length c2) ∧ w2.frozen? ⟨w.heap.size, 1, none⟩ = false := bx (S.box 1 rfl) 1 rfl
    go_wp2_with fail
    refine (eqTab_any a2 b2 c2 d2 T U w2 hT hU HLT.out HLU.out (hrt.ext S.ext) (hst.ext S.ext)).mono ?_
    rintro e w3 ⟨v2, rfl, hv2, hE⟩
    have Hv2 := Lib.hid hv2
    clear hv2
    clear qc0 qf0 qc1 qf1 pc0 pf0 pc1 pf1
    replace S : Sep w w3 [plBox (w.heap.size + 1) #[.slice b1 G.length d1, .slice b2 U.length d2] 28, plBox w.heap.size #[.slice a1 F.length c1, .slice a2 T.length c2] 28] := S.step hE
    clear hE
    cases v2 with
    | false =>
      go_wp2
      go_ret
      exact RetB.mk false rfl (by simp only [Bool.false_eq_true, false_iff]; exact fun h => Bool.noConfusion (Hv2.out.2 h.2)) S.ext
    | true =>
      go_wp2
      go_ret
      exact RetB.mk true rfl (by simp only [true_iff]; exact ⟨Hv1.out.1 (by trivial), Hv2.out.1 (by trivial)⟩) S.ext

theorem sepB {f : FuncId} {args : Array Value} {w : World} {Q : Prop} (h : Calls Try.prog f args w (RetB Q w)) : Calls Try.prog f args w fun e w' => ∃ b, e = .returned (.bool b) ∧ (b = true ↔ Q) ∧ Sep w w' [] :=
  h.mono (fun e w' ⟨b, he, hb, hE⟩ => ⟨b, he, hb, Sep.of_ext hE⟩)
theorem iff_fun {P : Prop} {a b : Bool} (h : a = true ↔ P) (k : b = true ↔ P) : a = b := Bool.eq_iff_iff.2 (h.trans k.symm)
/-- A copy of a memory, to be read. -/
def MemN (F : List Int) (T : List (List Int)) (v : Value) (w : World) : Prop := ∃ a1 c1 a2 c2, v = .agg #[.slice a1 F.length c1, .slice a2 T.length c2] ∧ Rd 1 encInt1 w a1 F ∧ RdT w a2 T
theorem MemN.ext {F : List Int} {T : List (List Int)} {v : Value} {w w' : World} (h : MemN F T v w) (hE : Ext w w') : MemN F T v w' := by
  obtain ⟨a1, c1, a2, c2, h1, h2, h3⟩ := h
  exact ⟨a1, c1, a2, c2, h1, h2.ext hE, h3.ext hE⟩

set_option maxHeartbeats 2000000 in
theorem markMem_own {w0 w : World} {H : List Pl} (S : Sep w0 w H) (i j : Nat) {af at_ : Option Addr} {cf ct : Nat} {F : List Int} {T : List (List Int)} {vs : List Sl} (c : Int) (hi : H[i]? = some (plTab (.slice at_ T.length ct) vs T)) (hj : H[j]? = some (plRow 3 1 encInt1 (.slice af F.length cf) F)) (hij : i ≠ j)
    (hF : F.length ≤ 1048576) (hT : T.length ≤ 1048576) (hs : sumL T ≤ 1048576) (h0 : 0 ≤ c) (h1 : c ≤ 800000000000) :
    Calls Try.prog 25 #[.agg #[.slice af F.length cf, .slice at_ T.length ct], .int .i64 c] w fun e w' => e = .returned (.int .i64 (c + (F.length : Int) + (sumL T : Int))) ∧
      Sep w0 w' ((H.set j (plRow 3 1 encInt1 (.slice af F.length cf) (marksInt F.length c))).set i (plTab (.slice at_ T.length ct) vs (marksT T (c + (F.length : Int))))) := by
  go_enter Try.func25, Try.ntmps25
  have SA := S.alloc #[.slice af F.length cf, .slice at_ T.length ct] 28
  go_wp2_with fail
  generalize hb : w.heap.size = b at *
  generalize (w.alloc (.cells #[.slice af F.length cf, .slice at_ T.length ct] 28)) = w1 at *
  clear S hb
  refine (markIntS_own _ _ _ F c w1 rfl hF h0 (by omega) (SA.row (j + 1) hj)).mono ?_
  rintro e w2 ⟨rfl, hq, hg⟩
  have hq2 : w2.ownsRow w0.heap.size 3 1 (.slice af F.length cf) (marksInt F.length c).length ((marksInt F.length c).flatMap encInt1) := by rw [marksInt_len]; exact hq
  have S2 : Sep w0 w2 (plBox b #[.slice af F.length cf, .slice at_ T.length ct] 28 :: H.set j (plRow 3 1 encInt1 (.slice af F.length cf) (marksInt F.length c))) := SA.grow (j + 1) hj hg hq2 (fun b h => .inl h)
  obtain ⟨d0, _⟩ : w2.cell? ⟨b, 0, none⟩ = some _ ∧ _ := bx (S2.box 0 rfl) 0 rfl
  obtain ⟨d1, _⟩ : w2.cell? ⟨b, 1, none⟩ = some _ ∧ _ := bx (S2.box 0 rfl) 1 rfl
  have hi2 : (plBox b #[.slice af F.length cf, .slice at_ T.length ct] 28 :: H.set j (plRow 3 1 encInt1 (.slice af F.length cf) (marksInt F.length c)))[i + 1]? = some (plTab (.slice at_ T.length ct) vs T) := by
    rw [List.getElem?_cons_succ, List.getElem?_set_ne (fun e => hij e.symm)]; exact hi
  have Hi2 := Lib.hid hi2
  clear hq hg hq2 hi2 hi hj
  go_wp2_with fail
  refine (markTab_own (.slice at_ T.length ct) vs T (c + (F.length : Int)) w2 hT hs (by omega) (by omega) (S2.at_ (i + 1) Hi2.out)).mono ?_
  rintro e w3 ⟨rfl, hok, hch⟩
  have S3 := (S2.put (i + 1) Hi2.out (q := plTab (.slice at_ T.length ct) vs (marksT T (c + (F.length : Int)))) hch hok (fun b h => .inl h)).drop 0
  clear hok hch
  go_wp2
  go_ret
  exact ⟨rfl, S3⟩

set_option maxHeartbeats 2000000 in
theorem heldMem_any (af at_ : Option Addr) (cf ct : Nat) (n : Nat) (T : List (List Int)) (c : Int) (w : World) (hF : n ≤ 1048576) (hT : T.length ≤ 1048576) (hs : sumL T ≤ 1048576) (h0 : 0 ≤ c) (h1 : c ≤ 800000000000) (hrf : Rd 1 encInt1 w af (marksInt n c)) (hrt : RdT w at_ (marksT T (c + (n : Int)))) :
    Calls Try.prog 33 #[.agg #[.slice af n cf, .slice at_ T.length ct], .int .i64 c] w (RetI (c + (n : Int) + (sumL T : Int)) w) := by
  go_enter Try.func33, Try.ntmps33
  have S := Sep.start w
  replace S : Sep w (w.alloc (.cells #[.slice af n cf, .slice at_ T.length ct] 28)) [plBox w.heap.size #[.slice af n cf, .slice at_ T.length ct] 28] := S.alloc_at (by simp) _ _
  go_wp2_with fail
  generalize (w.alloc (.cells #[.slice af n cf, .slice at_ T.length ct] 28)) = w1 at *
  refine (heldIntS_any af cf n c w1 hF h0 (by omega) (hrf.ext S.ext)).mono ?_
  rintro e w2 ⟨rfl, hE⟩
  replace S : Sep w w2 [plBox w.heap.size #[.slice af n cf, .slice at_ T.length ct] 28] := S.step hE
  clear hE
  have hn1 : ¬ (c + (n : Int) < 0) := by omega
  obtain ⟨bc0, bf0⟩ : w2.cell? ⟨w.heap.size, 0, none⟩ = some (.slice af n cf) ∧ w2.frozen? ⟨w.heap.size, 0, none⟩ = false := bx (S.box 0 rfl) 0 rfl
  obtain ⟨bc1, bf1⟩ : w2.cell? ⟨w.heap.size, 1, none⟩ = some (.slice at_ T.length ct) ∧ w2.frozen? ⟨w.heap.size, 1, none⟩ = false := bx (S.box 0 rfl) 1 rfl
  go_wp2_with fail
  refine (heldTab_any at_ ct T (c + (n : Int)) w2 hT hs (by omega) (by omega) (hrt.ext S.ext)).mono ?_
  rintro e w3 ⟨rfl, hE⟩
  clear bc0 bf0 bc1 bf1
  replace S : Sep w w3 [plBox w.heap.size #[.slice af n cf, .slice at_ T.length ct] 28] := S.step hE
  clear hE
  have hn2 : ¬ (c + (n : Int) + (sumL T : Int) < 0) := by omega
  go_wp2
  go_ret
  exact RetI.mk rfl S.ext
end Go.Proofs.Ytpnllhdgpfbaiaa
