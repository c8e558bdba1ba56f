/- WritePage of the reference: its contract. Condition: rows shorter than 2^63. -/
import Derived.Test.YtpnllhdgpfbaiaaPagW
namespace Go.Proofs.Ytpnllhdgpfbaiaa
open Go.RowKit

set_option maxRecDepth 10000 in
set_option maxHeartbeats 16000000 in
theorem specWritePage (af : Option Addr) (cf : Nat) (F : List Int) (at_ : Option Addr) (ct : Nat) (T : List (List Int)) (who page num : Int) (w : World) (hF : F.length ≤ 9223372036854775807) (hT : T.length ≤ 9223372036854775807) (hrf : Rd 1 encInt1 w af F) (hrt : RdT w at_ T) :
    Calls Try.prog 38 #[.agg #[.slice af F.length cf, .slice at_ T.length ct], .int .i64 who, .int .i64 page, .int .i64 num] w fun e w' => ∃ a1 c1 F2 a2 c2 vs T2 ok, e = .returned (.tuple #[.agg #[.slice a1 F2.length c1, .slice a2 T2.length c2], .bool ok]) ∧ WriteR F T who page num F2 T2 ok ∧ Sep w w' [plTab (.slice a2 T2.length c2) vs T2, plRow 3 1 encInt1 (.slice a1 F2.length c1) F2] := by
  go_enter Try.func38, Try.ntmps38
  have S := Sep.start w
  replace S : Sep w (w.alloc (.cells #[.slice af F.length cf, .slice at_ T.length ct] 28)) [plBox w.heap.size #[.slice af F.length cf, .slice at_ T.length ct] 28] := S.alloc_at (by simp) _ _
  replace S : Sep w ((w.alloc (.cells #[.slice af F.length cf, .slice at_ T.length ct] 28)).alloc (.cells #[.slice none 0 0, .slice none 0 0] 28)) [plBox (w.heap.size + 1) #[.slice none 0 0, .slice none 0 0] 28, plBox w.heap.size #[.slice af F.length cf, .slice at_ T.length ct] 28] := S.alloc_at (by simp) _ _
  go_wp2_with fail
  generalize ((w.alloc (.cells #[.slice af F.length cf, .slice at_ T.length ct] 28)).alloc (.cells #[.slice none 0 0, .slice none 0 0] 28)) = w1 at *
  refine (specMemoryValid af cf F at_ ct T w1 hF hT (hrf.ext S.ext) (hrt.ext S.ext)).mono ?_
  rintro e w2 ⟨v0, rfl, hv0, hE⟩
  have Hv0 := Lib.hid hv0
  clear hv0
  replace S : Sep w w2 [plBox (w.heap.size + 1) #[.slice none 0 0, .slice none 0 0] 28, plBox w.heap.size #[.slice af F.length cf, .slice at_ T.length ct] 28] := S.step hE
  clear hE
  cases v0 with
  | false =>
    have HR : Hid (WriteR F T who page num [] [] false) := Lib.hid (.inl ⟨fun h => Bool.noConfusion (Hv0.out.2 h), rfl, rfl, rfl⟩)
    obtain ⟨rbc0, rbf0⟩ : w2.cell? ⟨(w.heap.size + 1), 0, none⟩ = some (.slice none 0 0) ∧ w2.frozen? ⟨(w.heap.size + 1), 0, none⟩ = false := bx (S.box 0 rfl) 0 rfl
    obtain ⟨rbc1, rbf1⟩ : w2.cell? ⟨(w.heap.size + 1), 1, none⟩ = some (.slice none 0 0) ∧ w2.frozen? ⟨(w.heap.size + 1), 1, none⟩ = false := bx (S.box 0 rfl) 1 rfl
    obtain ⟨bmc0, bmf0⟩ : w2.cell? ⟨w.heap.size, 0, none⟩ = some (.slice af F.length cf) ∧ w2.frozen? ⟨w.heap.size, 0, none⟩ = false := bx (S.box 1 rfl) 0 rfl
    obtain ⟨bmc1, bmf1⟩ : w2.cell? ⟨w.heap.size, 1, none⟩ = some (.slice at_ T.length ct) ∧ w2.frozen? ⟨w.heap.size, 1, none⟩ = false := bx (S.box 1 rfl) 1 rfl
    go_wp2
    try simp only [Exit.inBlock, Exit.then]
    refine bodyPost_ret (v := .tuple #[.agg #[.slice none 0 0, .slice none 0 0], .bool false]) (by simp [results, Try.results38, go_sem, rbc0, rbc1]) rfl ?_
    replace S : Sep w (w2.setCell ⟨(w.heap.size + 1), 0, none⟩ (.slice none 0 0)) [plBox (w.heap.size + 1) #[.slice none 0 0, .slice none 0 0] 28, plBox w.heap.size #[.slice af F.length cf, .slice at_ T.length ct] 28] := S.set 0 rfl 0 _
    replace S : Sep w ((w2.setCell ⟨(w.heap.size + 1), 0, none⟩ (.slice none 0 0)).setCell ⟨(w.heap.size + 1), 1, none⟩ (.slice none 0 0)) [plBox (w.heap.size + 1) #[.slice none 0 0, .slice none 0 0] 28, plBox w.heap.size #[.slice af F.length cf, .slice at_ T.length ct] 28] := S.set 0 rfl 1 _
    replace S : Sep w ((w2.setCell ⟨(w.heap.size + 1), 0, none⟩ (.slice none 0 0)).setCell ⟨(w.heap.size + 1), 1, none⟩ (.slice none 0 0)) [plBox w.heap.size #[.slice af F.length cf, .slice at_ T.length ct] 28] := S.drop 0
    replace S : Sep w ((w2.setCell ⟨(w.heap.size + 1), 0, none⟩ (.slice none 0 0)).setCell ⟨(w.heap.size + 1), 1, none⟩ (.slice none 0 0)) [] := S.drop 0
    exact ⟨none, 0, [], none, 0, [], [], false, rfl, HR.out, (S.nil _ _ _).tabNil⟩
  | true =>
    have HMO := Lib.hid (Hv0.out.1 rfl)
    have HLT := Lib.hid (mem_lens HMO.out).2.2
    have hl12 : F.length ≤ 12 := HMO.out.frames
    have hl4 : T.length ≤ 4 := HMO.out.tables
    have HS := Lib.hid (small_sum (same_small HMO.out))
    clear Hv0
    obtain ⟨bmc0, bmf0⟩ : w2.cell? ⟨w.heap.size, 0, none⟩ = some (.slice af F.length cf) ∧ w2.frozen? ⟨w.heap.size, 0, none⟩ = false := bx (S.box 1 rfl) 0 rfl
    obtain ⟨bmc1, bmf1⟩ : w2.cell? ⟨w.heap.size, 1, none⟩ = some (.slice at_ T.length ct) ∧ w2.frozen? ⟨w.heap.size, 1, none⟩ = false := bx (S.box 1 rfl) 1 rfl
    go_wp2_with fail
    clear bmc0 bmf0 bmc1 bmf1
    refine (specCopy_any af cf F at_ ct T w2 (by omega) (by omega) HLT.out (hrf.ext S.ext) (hrt.ext S.ext)).mono ?_
    rintro e w3 ⟨a1, c1, a2, c2, vs, rfl, hk1, hk2, U⟩
    replace S : Sep w w3 [plTab (.slice a2 T.length c2) vs T, plRow 3 1 encInt1 (.slice a1 F.length c1) F, plBox (w.heap.size + 1) #[.slice none 0 0, .slice none 0 0] 28, plBox w.heap.size #[.slice af F.length cf, .slice at_ T.length ct] 28] := S.call U
    clear U
    obtain ⟨B2, hB2⟩ : ∃ B2, B2 = w3.heap.size := ⟨_, rfl⟩
    replace S : Sep w (w3.alloc (.cells #[.slice a1 F.length c1, .slice a2 T.length c2] 28)) [plBox w3.heap.size #[.slice a1 F.length c1, .slice a2 T.length c2] 28, plTab (.slice a2 T.length c2) vs T, plRow 3 1 encInt1 (.slice a1 F.length c1) F, plBox (w.heap.size + 1) #[.slice none 0 0, .slice none 0 0] 28, plBox w.heap.size #[.slice af F.length cf, .slice at_ T.length ct] 28] := S.alloc_at (by simp) _ _
    have hbad : ¬ ((pageAt T who page).isSome = true ∧ UseOk num) → Hid (WriteR F T who page num F T false) := fun h => Lib.hid (.inr (.inl ⟨HMO.out, h, rfl, rfl, rfl⟩))
    have hwr : IntKind.i64.wrap ((T.length : Int) - 1) = (T.length : Int) - 1 := IntWalk.i64_in _ (by omega)
    by_cases hw : 0 ≤ who ∧ who ≤ (T.length : Int) - 1
    rotate_left
    · have ein := inB_false hw
      have HR := hbad (fun h => by rw [pageAt_who hw] at h; simp at h)
      clear hbad hw
      obtain ⟨bmc0, bmf0⟩ : (w3.alloc (.cells #[.slice a1 F.length c1, .slice a2 T.length c2] 28)).cell? ⟨w.heap.size, 0, none⟩ = some (.slice af F.length cf) ∧ (w3.alloc (.cells #[.slice a1 F.length c1, .slice a2 T.length c2] 28)).frozen? ⟨w.heap.size, 0, none⟩ = false := bx (S.box 4 rfl) 0 rfl
      obtain ⟨bmc1, bmf1⟩ : (w3.alloc (.cells #[.slice a1 F.length c1, .slice a2 T.length c2] 28)).cell? ⟨w.heap.size, 1, none⟩ = some (.slice at_ T.length ct) ∧ (w3.alloc (.cells #[.slice a1 F.length c1, .slice a2 T.length c2] 28)).frozen? ⟨w.heap.size, 1, none⟩ = false := bx (S.box 4 rfl) 1 rfl
      go_upto_region 5 with (go_at_call 41; refine ((l1In_any _ _ _ _).mono (fun e w2 h => by rw [ein] at h; exact h)).mono ?_; rintro e w' ⟨rfl, rfl⟩)
      clear bmc0 bmf0 bmc1 bmf1
      generalize (w3.alloc (.cells #[.slice a1 F.length c1, .slice a2 T.length c2] 28)) = w4 at *
      rw [← hB2] at *
      clear hB2
      obtain ⟨obc0, obf0⟩ : w4.cell? ⟨B2, 0, none⟩ = some (.slice a1 F.length c1) ∧ w4.frozen? ⟨B2, 0, none⟩ = false := bx (S.box 0 rfl) 0 rfl
      obtain ⟨obc1, obf1⟩ : w4.cell? ⟨B2, 1, none⟩ = some (.slice a2 T.length c2) ∧ w4.frozen? ⟨B2, 1, none⟩ = false := bx (S.box 0 rfl) 1 rfl
      obtain ⟨rbc0, rbf0⟩ : w4.cell? ⟨(w.heap.size + 1), 0, none⟩ = some (.slice none 0 0) ∧ w4.frozen? ⟨(w.heap.size + 1), 0, none⟩ = false := bx (S.box 3 rfl) 0 rfl
      obtain ⟨rbc1, rbf1⟩ : w4.cell? ⟨(w.heap.size + 1), 1, none⟩ = some (.slice none 0 0) ∧ w4.frozen? ⟨(w.heap.size + 1), 1, none⟩ = false := bx (S.box 3 rfl) 1 rfl
      obtain ⟨bmc0, bmf0⟩ : w4.cell? ⟨w.heap.size, 0, none⟩ = some (.slice af F.length cf) ∧ w4.frozen? ⟨w.heap.size, 0, none⟩ = false := bx (S.box 4 rfl) 0 rfl
      obtain ⟨bmc1, bmf1⟩ : w4.cell? ⟨w.heap.size, 1, none⟩ = some (.slice at_ T.length ct) ∧ w4.frozen? ⟨w.heap.size, 1, none⟩ = false := bx (S.box 4 rfl) 1 rfl
      go_wp2
      try simp only [Exit.inBlock, Exit.then]
      refine bodyPost_ret (v := .tuple #[.agg #[.slice a1 F.length c1, .slice a2 T.length c2], .bool false]) (by simp [results, Try.results38, go_sem, rbc0, rbc1, obc0, obc1]) rfl ?_
      replace S : Sep w (w4.setCell ⟨(w.heap.size + 1), 0, none⟩ (.slice a1 F.length c1)) [plBox B2 #[.slice a1 F.length c1, .slice a2 T.length c2] 28, plTab (.slice a2 T.length c2) vs T, plRow 3 1 encInt1 (.slice a1 F.length c1) F, plBox (w.heap.size + 1) #[.slice a1 F.length c1, .slice none 0 0] 28, plBox w.heap.size #[.slice af F.length cf, .slice at_ T.length ct] 28] := S.set 3 rfl 0 _
      replace S : Sep w ((w4.setCell ⟨(w.heap.size + 1), 0, none⟩ (.slice a1 F.length c1)).setCell ⟨(w.heap.size + 1), 1, none⟩ (.slice a2 T.length c2)) [plBox B2 #[.slice a1 F.length c1, .slice a2 T.length c2] 28, plTab (.slice a2 T.length c2) vs T, plRow 3 1 encInt1 (.slice a1 F.length c1) F, plBox (w.heap.size + 1) #[.slice a1 F.length c1, .slice a2 T.length c2] 28, plBox w.heap.size #[.slice af F.length cf, .slice at_ T.length ct] 28] := S.set 3 rfl 1 _
      replace S : Sep w ((w4.setCell ⟨(w.heap.size + 1), 0, none⟩ (.slice a1 F.length c1)).setCell ⟨(w.heap.size + 1), 1, none⟩ (.slice a2 T.length c2)) [plTab (.slice a2 T.length c2) vs T, plRow 3 1 encInt1 (.slice a1 F.length c1) F, plBox (w.heap.size + 1) #[.slice a1 F.length c1, .slice a2 T.length c2] 28, plBox w.heap.size #[.slice af F.length cf, .slice at_ T.length ct] 28] := S.drop 0
      replace S : Sep w ((w4.setCell ⟨(w.heap.size + 1), 0, none⟩ (.slice a1 F.length c1)).setCell ⟨(w.heap.size + 1), 1, none⟩ (.slice a2 T.length c2)) [plTab (.slice a2 T.length c2) vs T, plRow 3 1 encInt1 (.slice a1 F.length c1) F, plBox w.heap.size #[.slice af F.length cf, .slice at_ T.length ct] 28] := S.drop 2
      replace S : Sep w ((w4.setCell ⟨(w.heap.size + 1), 0, none⟩ (.slice a1 F.length c1)).setCell ⟨(w.heap.size + 1), 1, none⟩ (.slice a2 T.length c2)) [plTab (.slice a2 T.length c2) vs T, plRow 3 1 encInt1 (.slice a1 F.length c1) F] := S.drop 2
      first | exact ⟨a1, c1, F, a2, c2, vs, T, false, rfl, HR.out, S⟩ | exact ⟨a1, c1, F, a2, c2, vs, T, .inl ⟨rfl, HR.out, S⟩⟩
    have ein := inB_iff.2 hw
    obtain ⟨k, rfl⟩ : ∃ k : Nat, who = k := ⟨who.toNat, by omega⟩
    have hkT : k < T.length := by omega
    obtain ⟨t, p, off, ai, ci, ht, hpe, c0, hci, hrt1⟩ := atTab (hrt.ext S.ext) hkT
    subst hpe
    have Ht := Lib.hid ht
    have hrtk := tab_find (ct := ct) hrt S.ext ht c0
    have Hrtk := Lib.hid hrtk
    have htl := ok_len HMO.out t (List.mem_of_getElem? ht)
    have i0 : (k : Int) < (T.length : Int) := by omega
    have hwr2 : IntKind.i64.wrap ((t.length : Int) - 1) = (t.length : Int) - 1 := IntWalk.i64_in _ (by omega)
    have iz : (0 : Int) < (T.length : Int) := by omega
    clear ht hw hrtk hrt1
    rcases Nat.eq_zero_or_pos k with hk0 | hk0
    · have c0z := zero_cell c0 hk0
      have hnk := Nat.not_lt.2 (Nat.le_of_eq hk0)
      clear hk0
      by_cases hp : 0 ≤ page ∧ page ≤ (t.length : Int) - 1
      rotate_left
      · have ein2 := inB_false hp
        have HR := hbad (fun h => by rw [pageAt_page Ht.out hp] at h; simp at h)
        clear hbad hp
        obtain ⟨bmc0, bmf0⟩ : (w3.alloc (.cells #[.slice a1 F.length c1, .slice a2 T.length c2] 28)).cell? ⟨w.heap.size, 0, none⟩ = some (.slice af F.length cf) ∧ (w3.alloc (.cells #[.slice a1 F.length c1, .slice a2 T.length c2] 28)).frozen? ⟨w.heap.size, 0, none⟩ = false := bx (S.box 4 rfl) 0 rfl
        obtain ⟨bmc1, bmf1⟩ : (w3.alloc (.cells #[.slice a1 F.length c1, .slice a2 T.length c2] 28)).cell? ⟨w.heap.size, 1, none⟩ = some (.slice (some ⟨p, off, none⟩) T.length ct) ∧ (w3.alloc (.cells #[.slice a1 F.length c1, .slice a2 T.length c2] 28)).frozen? ⟨w.heap.size, 1, none⟩ = false := bx (S.box 4 rfl) 1 rfl
        go_upto_region 5 with (go_at_call 41; refine ((l1In_any _ _ _ _).mono (fun e w2 h => by first | (rw [ein] at h; exact h) | (rw [ein2] at h; exact h))).mono ?_; rintro e w' ⟨rfl, rfl⟩)
        clear bmc0 bmf0 bmc1 bmf1
        generalize (w3.alloc (.cells #[.slice a1 F.length c1, .slice a2 T.length c2] 28)) = w4 at *
        rw [← hB2] at *
        clear hB2
        obtain ⟨obc0, obf0⟩ : w4.cell? ⟨B2, 0, none⟩ = some (.slice a1 F.length c1) ∧ w4.frozen? ⟨B2, 0, none⟩ = false := bx (S.box 0 rfl) 0 rfl
        obtain ⟨obc1, obf1⟩ : w4.cell? ⟨B2, 1, none⟩ = some (.slice a2 T.length c2) ∧ w4.frozen? ⟨B2, 1, none⟩ = false := bx (S.box 0 rfl) 1 rfl
        obtain ⟨rbc0, rbf0⟩ : w4.cell? ⟨(w.heap.size + 1), 0, none⟩ = some (.slice none 0 0) ∧ w4.frozen? ⟨(w.heap.size + 1), 0, none⟩ = false := bx (S.box 3 rfl) 0 rfl
        obtain ⟨rbc1, rbf1⟩ : w4.cell? ⟨(w.heap.size + 1), 1, none⟩ = some (.slice none 0 0) ∧ w4.frozen? ⟨(w.heap.size + 1), 1, none⟩ = false := bx (S.box 3 rfl) 1 rfl
        obtain ⟨bmc0, bmf0⟩ : w4.cell? ⟨w.heap.size, 0, none⟩ = some (.slice af F.length cf) ∧ w4.frozen? ⟨w.heap.size, 0, none⟩ = false := bx (S.box 4 rfl) 0 rfl
        obtain ⟨bmc1, bmf1⟩ : w4.cell? ⟨w.heap.size, 1, none⟩ = some (.slice (some ⟨p, off, none⟩) T.length ct) ∧ w4.frozen? ⟨w.heap.size, 1, none⟩ = false := bx (S.box 4 rfl) 1 rfl
        go_wp2
        try simp only [Exit.inBlock, Exit.then]
        refine bodyPost_ret (v := .tuple #[.agg #[.slice a1 F.length c1, .slice a2 T.length c2], .bool false]) (by simp [results, Try.results38, go_sem, rbc0, rbc1, obc0, obc1]) rfl ?_
        replace S : Sep w (w4.setCell ⟨(w.heap.size + 1), 0, none⟩ (.slice a1 F.length c1)) [plBox B2 #[.slice a1 F.length c1, .slice a2 T.length c2] 28, plTab (.slice a2 T.length c2) vs T, plRow 3 1 encInt1 (.slice a1 F.length c1) F, plBox (w.heap.size + 1) #[.slice a1 F.length c1, .slice none 0 0] 28, plBox w.heap.size #[.slice af F.length cf, .slice (some ⟨p, off, none⟩) T.length ct] 28] := S.set 3 rfl 0 _
        replace S : Sep w ((w4.setCell ⟨(w.heap.size + 1), 0, none⟩ (.slice a1 F.length c1)).setCell ⟨(w.heap.size + 1), 1, none⟩ (.slice a2 T.length c2)) [plBox B2 #[.slice a1 F.length c1, .slice a2 T.length c2] 28, plTab (.slice a2 T.length c2) vs T, plRow 3 1 encInt1 (.slice a1 F.length c1) F, plBox (w.heap.size + 1) #[.slice a1 F.length c1, .slice a2 T.length c2] 28, plBox w.heap.size #[.slice af F.length cf, .slice (some ⟨p, off, none⟩) T.length ct] 28] := S.set 3 rfl 1 _
        replace S : Sep w ((w4.setCell ⟨(w.heap.size + 1), 0, none⟩ (.slice a1 F.length c1)).setCell ⟨(w.heap.size + 1), 1, none⟩ (.slice a2 T.length c2)) [plTab (.slice a2 T.length c2) vs T, plRow 3 1 encInt1 (.slice a1 F.length c1) F, plBox (w.heap.size + 1) #[.slice a1 F.length c1, .slice a2 T.length c2] 28, plBox w.heap.size #[.slice af F.length cf, .slice (some ⟨p, off, none⟩) T.length ct] 28] := S.drop 0
        replace S : Sep w ((w4.setCell ⟨(w.heap.size + 1), 0, none⟩ (.slice a1 F.length c1)).setCell ⟨(w.heap.size + 1), 1, none⟩ (.slice a2 T.length c2)) [plTab (.slice a2 T.length c2) vs T, plRow 3 1 encInt1 (.slice a1 F.length c1) F, plBox w.heap.size #[.slice af F.length cf, .slice (some ⟨p, off, none⟩) T.length ct] 28] := S.drop 2
        replace S : Sep w ((w4.setCell ⟨(w.heap.size + 1), 0, none⟩ (.slice a1 F.length c1)).setCell ⟨(w.heap.size + 1), 1, none⟩ (.slice a2 T.length c2)) [plTab (.slice a2 T.length c2) vs T, plRow 3 1 encInt1 (.slice a1 F.length c1) F] := S.drop 2
        first | exact ⟨a1, c1, F, a2, c2, vs, T, false, rfl, HR.out, S⟩ | exact ⟨a1, c1, F, a2, c2, vs, T, .inl ⟨rfl, HR.out, S⟩⟩
      have ein2 := inB_iff.2 hp
      obtain ⟨j, rfl⟩ : ∃ j : Nat, page = j := ⟨page.toNat, by omega⟩
      by_cases hu : 0 ≤ num ∧ num ≤ 10000
      rotate_left
      · have ein3 := inB_false hu
        have HR := hbad (fun h => hu h.2)
        clear hbad hu hp
        obtain ⟨bmc0, bmf0⟩ : (w3.alloc (.cells #[.slice a1 F.length c1, .slice a2 T.length c2] 28)).cell? ⟨w.heap.size, 0, none⟩ = some (.slice af F.length cf) ∧ (w3.alloc (.cells #[.slice a1 F.length c1, .slice a2 T.length c2] 28)).frozen? ⟨w.heap.size, 0, none⟩ = false := bx (S.box 4 rfl) 0 rfl
        obtain ⟨bmc1, bmf1⟩ : (w3.alloc (.cells #[.slice a1 F.length c1, .slice a2 T.length c2] 28)).cell? ⟨w.heap.size, 1, none⟩ = some (.slice (some ⟨p, off, none⟩) T.length ct) ∧ (w3.alloc (.cells #[.slice a1 F.length c1, .slice a2 T.length c2] 28)).frozen? ⟨w.heap.size, 1, none⟩ = false := bx (S.box 4 rfl) 1 rfl
        go_upto_region 5 with (go_at_call 41; refine ((l1In_any _ _ _ _).mono (fun e w2 h => by first | (rw [ein] at h; exact h) | (rw [ein2] at h; exact h) | (rw [ein3] at h; exact h))).mono ?_; rintro e w' ⟨rfl, rfl⟩)
        clear bmc0 bmf0 bmc1 bmf1
        generalize (w3.alloc (.cells #[.slice a1 F.length c1, .slice a2 T.length c2] 28)) = w4 at *
        rw [← hB2] at *
        clear hB2
        obtain ⟨obc0, obf0⟩ : w4.cell? ⟨B2, 0, none⟩ = some (.slice a1 F.length c1) ∧ w4.frozen? ⟨B2, 0, none⟩ = false := bx (S.box 0 rfl) 0 rfl
        obtain ⟨obc1, obf1⟩ : w4.cell? ⟨B2, 1, none⟩ = some (.slice a2 T.length c2) ∧ w4.frozen? ⟨B2, 1, none⟩ = false := bx (S.box 0 rfl) 1 rfl
        obtain ⟨rbc0, rbf0⟩ : w4.cell? ⟨(w.heap.size + 1), 0, none⟩ = some (.slice none 0 0) ∧ w4.frozen? ⟨(w.heap.size + 1), 0, none⟩ = false := bx (S.box 3 rfl) 0 rfl
        obtain ⟨rbc1, rbf1⟩ : w4.cell? ⟨(w.heap.size + 1), 1, none⟩ = some (.slice none 0 0) ∧ w4.frozen? ⟨(w.heap.size + 1), 1, none⟩ = false := bx (S.box 3 rfl) 1 rfl
        obtain ⟨bmc0, bmf0⟩ : w4.cell? ⟨w.heap.size, 0, none⟩ = some (.slice af F.length cf) ∧ w4.frozen? ⟨w.heap.size, 0, none⟩ = false := bx (S.box 4 rfl) 0 rfl
        obtain ⟨bmc1, bmf1⟩ : w4.cell? ⟨w.heap.size, 1, none⟩ = some (.slice (some ⟨p, off, none⟩) T.length ct) ∧ w4.frozen? ⟨w.heap.size, 1, none⟩ = false := bx (S.box 4 rfl) 1 rfl
        go_wp2
        try simp only [Exit.inBlock, Exit.then]
        refine bodyPost_ret (v := .tuple #[.agg #[.slice a1 F.length c1, .slice a2 T.length c2], .bool false]) (by simp [results, Try.results38, go_sem, rbc0, rbc1, obc0, obc1]) rfl ?_
        replace S : Sep w (w4.setCell ⟨(w.heap.size + 1), 0, none⟩ (.slice a1 F.length c1)) [plBox B2 #[.slice a1 F.length c1, .slice a2 T.length c2] 28, plTab (.slice a2 T.length c2) vs T, plRow 3 1 encInt1 (.slice a1 F.length c1) F, plBox (w.heap.size + 1) #[.slice a1 F.length c1, .slice none 0 0] 28, plBox w.heap.size #[.slice af F.length cf, .slice (some ⟨p, off, none⟩) T.length ct] 28] := S.set 3 rfl 0 _
        replace S : Sep w ((w4.setCell ⟨(w.heap.size + 1), 0, none⟩ (.slice a1 F.length c1)).setCell ⟨(w.heap.size + 1), 1, none⟩ (.slice a2 T.length c2)) [plBox B2 #[.slice a1 F.length c1, .slice a2 T.length c2] 28, plTab (.slice a2 T.length c2) vs T, plRow 3 1 encInt1 (.slice a1 F.length c1) F, plBox (w.heap.size + 1) #[.slice a1 F.length c1, .slice a2 T.length c2] 28, plBox w.heap.size #[.slice af F.length cf, .slice (some ⟨p, off, none⟩) T.length ct] 28] := S.set 3 rfl 1 _
        replace S : Sep w ((w4.setCell ⟨(w.heap.size + 1), 0, none⟩ (.slice a1 F.length c1)).setCell ⟨(w.heap.size + 1), 1, none⟩ (.slice a2 T.length c2)) [plTab (.slice a2 T.length c2) vs T, plRow 3 1 encInt1 (.slice a1 F.length c1) F, plBox (w.heap.size + 1) #[.slice a1 F.length c1, .slice a2 T.length c2] 28, plBox w.heap.size #[.slice af F.length cf, .slice (some ⟨p, off, none⟩) T.length ct] 28] := S.drop 0
        replace S : Sep w ((w4.setCell ⟨(w.heap.size + 1), 0, none⟩ (.slice a1 F.length c1)).setCell ⟨(w.heap.size + 1), 1, none⟩ (.slice a2 T.length c2)) [plTab (.slice a2 T.length c2) vs T, plRow 3 1 encInt1 (.slice a1 F.length c1) F, plBox w.heap.size #[.slice af F.length cf, .slice (some ⟨p, off, none⟩) T.length ct] 28] := S.drop 2
        replace S : Sep w ((w4.setCell ⟨(w.heap.size + 1), 0, none⟩ (.slice a1 F.length c1)).setCell ⟨(w.heap.size + 1), 1, none⟩ (.slice a2 T.length c2)) [plTab (.slice a2 T.length c2) vs T, plRow 3 1 encInt1 (.slice a1 F.length c1) F] := S.drop 2
        first | exact ⟨a1, c1, F, a2, c2, vs, T, false, rfl, HR.out, S⟩ | exact ⟨a1, c1, F, a2, c2, vs, T, .inl ⟨rfl, HR.out, S⟩⟩
      have ein3 := inB_iff.2 hu
      have hjt : j < t.length := by omega
      obtain ⟨f0, hf⟩ : ∃ f0, t[j]? = some f0 := ⟨_, List.getElem?_eq_getElem hjt⟩
      obtain ⟨f, rfl, hfl⟩ := frame_of HMO.out Ht.out hf
      have Hf := Lib.hid hf
      obtain ⟨Q, hQ⟩ : ∃ Q, Q = T.flatten := ⟨_, rfl⟩
      have HW0 : Hid (∀ F2 T2 ok, ((Q.count (f : Int) ≤ 1 ∧ F2 = F.set f num ∧ T2 = T ∧ ok = true) ∨ (1 < Q.count (f : Int) ∧ ∃ g, Free F.length Q g ∧ ((g < F.length ∧ F2 = F.set g num ∧ T2 = T.set k (t.set j g) ∧ ok = true) ∨ (g = F.length ∧ F.length = 12 ∧ F2 = F ∧ T2 = T ∧ ok = false) ∨ (g = F.length ∧ F.length ≠ 12 ∧ F2 = F ++ [num] ∧ T2 = T.set k (t.set j g) ∧ ok = true)))) → WriteR F T k j num F2 T2 ok) := Lib.hid (fun F2 T2 ok h => .inr (.inr ⟨HMO.out, hu, k, j, t, f, rfl, rfl, Ht.out, hf, by rw [hQ] at h; exact h⟩))
      have hQl : Q.length ≤ 20 := by rw [hQ, flat_len]; exact HS.out
      have HQ := Lib.hid hQ
      have i1 : (j : Int) < (t.length : Int) := by omega
      clear hbad hu hQ hp hf
      obtain ⟨bmc0, bmf0⟩ : (w3.alloc (.cells #[.slice a1 F.length c1, .slice a2 T.length c2] 28)).cell? ⟨w.heap.size, 0, none⟩ = some (.slice af F.length cf) ∧ (w3.alloc (.cells #[.slice a1 F.length c1, .slice a2 T.length c2] 28)).frozen? ⟨w.heap.size, 0, none⟩ = false := bx (S.box 4 rfl) 0 rfl
      obtain ⟨bmc1, bmf1⟩ : (w3.alloc (.cells #[.slice a1 F.length c1, .slice a2 T.length c2] 28)).cell? ⟨w.heap.size, 1, none⟩ = some (.slice (some ⟨p, off, none⟩) T.length ct) ∧ (w3.alloc (.cells #[.slice a1 F.length c1, .slice a2 T.length c2] 28)).frozen? ⟨w.heap.size, 1, none⟩ = false := bx (S.box 4 rfl) 1 rfl
      go_wp2_with (go_at_call 41; refine ((l1In_any _ _ _ _).mono (fun e w2 h => by first | (rw [ein] at h; exact h) | (rw [ein2] at h; exact h) | (rw [ein3] at h; exact h))).mono ?_; rintro e w' ⟨rfl, rfl⟩)
      clear bmc0 bmf0 bmc1 bmf1
      generalize (w3.alloc (.cells #[.slice a1 F.length c1, .slice a2 T.length c2] 28)) = w4 at *
      rw [← hB2] at *
      clear hB2
      clear ein ein2 ein3 c0 hwr hwr2
      refine (specFrameUses af cf F _ ct T w4 hF hT (hrf.ext S.ext) (hrt.ext S.ext)).mono ?_
      rintro e w6 ⟨u0, L, rfl, hUR, U⟩
      have hL := hUR.2 HMO.out
      rw [← HQ.out] at hL
      subst hL
      obtain ⟨aU, cU, hvU, hkU, _, hsh⟩ := view_owns encInt1_len (U.row 0 rfl)
      rw [usesP_len] at hvU hkU
      subst hvU
      rcases hsh with ⟨_, h0, _⟩ | ⟨g, rfl, _⟩
      · have h1 := congrArg List.length h0
        rw [usesP_len] at h1
        rw [h1] at hfl; simp at hfl
      clear hUR
      replace S : Sep w w6 [plRow 3 1 encInt1 (.slice (some ⟨g, 0, none⟩) F.length cU) (usesP F.length Q), plBox B2 #[.slice a1 F.length c1, .slice a2 T.length c2] 28, plTab (.slice a2 T.length c2) vs T, plRow 3 1 encInt1 (.slice a1 F.length c1) F, plBox (w.heap.size + 1) #[.slice none 0 0, .slice none 0 0] 28, plBox w.heap.size #[.slice af F.length cf, .slice (some ⟨p, off, none⟩) T.length ct] 28] := S.call U
      clear U
      have hrow := S.row 0 rfl
      rw [usesP_len] at hrow
      have hfu : f < (usesP F.length Q).length := by rw [usesP_len]; exact hfl
      have e0 : (usesP F.length Q)[f]'hfu = ((Q.count (f : Int) : Nat) : Int) := by
        have := usesP_at Q hfl
        rw [List.getElem?_eq_getElem hfu] at this
        exact Option.some.inj this
      have g0 : w6.cell? ⟨g, f, none⟩ = some (.int .i64 ((Q.count (f : Int) : Nat) : Int)) := by
        have := owns_at encInt1_len hrow f hfu 0 (.int .i64 ((Q.count (f : Int) : Nat) : Int)) (by rw [e0]; rfl)
        simpa using this
      have i2 : (f : Int) < (F.length : Int) := by omega
      clear hrow e0 hfu
      have c0 := (Hrtk.out w6 S.ext).1
      obtain ⟨f', q, o2, hf', hqe, d0⟩ := atInt (Hrtk.out w6 S.ext).2 hjt
      subst hqe
      obtain rfl : (f : Int) = f' := by have := Hf.out; rw [hf'] at this; exact (Option.some.inj this).symm
      clear hf'
      by_cases hc : 1 < Q.count (f : Int)
      · have hci : (1 : Int) < ((Q.count (f : Int) : Nat) : Int) := by omega
        have HC := Lib.hid hc
        clear hc
        obtain ⟨bmc0, bmf0⟩ : w6.cell? ⟨w.heap.size, 0, none⟩ = some (.slice af F.length cf) ∧ w6.frozen? ⟨w.heap.size, 0, none⟩ = false := bx (S.box 5 rfl) 0 rfl
        obtain ⟨bmc1, bmf1⟩ : w6.cell? ⟨w.heap.size, 1, none⟩ = some (.slice (some ⟨p, off, none⟩) T.length ct) ∧ w6.frozen? ⟨w.heap.size, 1, none⟩ = false := bx (S.box 5 rfl) 1 rfl
        go_wp2
        clear bmc0 bmf0 bmc1 bmf1
        clear g0 hci c0 d0
        go_loopw [12] (fun i wr => ∃ m : Nat, m ≤ F.length ∧ i = .int .i64 m ∧ (∀ i : Nat, i < m → Q.count (i : Int) ≠ 0) ∧ Sep w wr [plRow 3 1 encInt1 (.slice (some ⟨g, 0, none⟩) F.length cU) (usesP F.length Q), plBox B2 #[.slice a1 F.length c1, .slice a2 T.length c2] 28, plTab (.slice a2 T.length c2) vs T, plRow 3 1 encInt1 (.slice a1 F.length c1) F, plBox (w.heap.size + 1) #[.slice none 0 0, .slice none 0 0] 28, plBox w.heap.size #[.slice af F.length cf, .slice (some ⟨p, off, none⟩) T.length ct] 28]) (fun i _ => F.length - (intOf i).toNat)
        case atStart => exact ⟨0, Nat.zero_le _, rfl, fun _ h => absurd h (Nat.not_lt_zero _), S⟩
        case round =>
          clear S
          obtain ⟨m, hm, rfl, hall, S⟩ := hrel
          have Hall := Lib.hid hall
          clear hall
          by_cases hlm : m < F.length
          · have hrow := S.row 0 rfl
            rw [usesP_len] at hrow
            have hfu : m < (usesP F.length Q).length := by rw [usesP_len]; exact hlm
            have e0 : (usesP F.length Q)[m]'hfu = ((Q.count (m : Int) : Nat) : Int) := by
              have := usesP_at Q hlm
              rw [List.getElem?_eq_getElem hfu] at this
              exact Option.some.inj this
            have g0 : wr.cell? ⟨g, m, none⟩ = some (.int .i64 ((Q.count (m : Int) : Nat) : Int)) := by
              have := owns_at encInt1_len hrow m hfu 0 (.int .i64 ((Q.count (m : Int) : Nat) : Int)) (by rw [e0]; rfl)
              simpa using this
            have i3 : (m : Int) < (F.length : Int) := by omega
            clear hrow e0 hfu
            by_cases hz : Q.count (m : Int) = 0
            · have HF : Hid (Free F.length Q m) := Lib.hid ⟨hm, Hall.out, fun _ => hz⟩
              rw [hz] at g0
              have HW : Hid (WriteR F T k j num (F.set m num) (T.set k (t.set j (m : Int))) true) := Lib.hid (HW0.out _ _ _ (.inr ⟨HC.out, _, HF.out, .inl ⟨hlm, rfl, rfl, rfl⟩⟩))
              obtain ⟨old, hold⟩ : ∃ old, F[m]? = some old := ⟨_, List.getElem?_eq_getElem hlm⟩
              have HGI := Lib.hid hold
              have hn12 : ((m : Int) == 12) = false := by simp; omega
              have hnl : ((m : Int) == (F.length : Int)) = false := by simp; omega
              clear hz HF HW0 hold
              go_upto_region 16 with fail
              clear g0
              obtain ⟨gT, cT, gI, cI, hu2, x0, x1, x2, _, S14⟩ := S.tabCell 2 rfl Ht.out Hf.out (m : Int)
              simp only [Value.slice.injEq, true_and] at hu2
              obtain ⟨rfl, rfl⟩ := hu2
              obtain ⟨obc0, obf0⟩ : wr.cell? ⟨B2, 0, none⟩ = some (.slice a1 F.length c1) ∧ wr.frozen? ⟨B2, 0, none⟩ = false := bx (S.box 1 rfl) 0 rfl
              obtain ⟨obc1, obf1⟩ : wr.cell? ⟨B2, 1, none⟩ = some (.slice (some ⟨gT, 0, none⟩) T.length c2) ∧ wr.frozen? ⟨B2, 1, none⟩ = false := bx (S.box 1 rfl) 1 rfl
              go_upto_region 17 with fail
              clear obc0 obf0 obc1 obf1
              clear x0 x1 x2
              have SM := S14
              replace S : Sep w (wr.setCell ⟨gI, j, none⟩ (.int .i64 (m : Int))) [plRow 3 1 encInt1 (.slice (some ⟨g, 0, none⟩) F.length cU) (usesP F.length Q), plBox B2 #[.slice a1 F.length c1, .slice (some ⟨gT, 0, none⟩) T.length c2] 28, plTab (.slice (some ⟨gT, 0, none⟩) T.length c2) vs (T.set k (t.set j (m : Int))), plRow 3 1 encInt1 (.slice a1 F.length c1) F, plBox (w.heap.size + 1) #[.slice none 0 0, .slice none 0 0] 28, plBox w.heap.size #[.slice af F.length cf, .slice (some ⟨p, off, none⟩) T.length ct] 28] := SM
              clear SM
              clear S14
              generalize (wr.setCell ⟨gI, j, none⟩ (.int .i64 (m : Int))) = w9 at *
              obtain ⟨g1, hg1, e1, z1, S2⟩ := S.rowCell 3 rfl HGI.out num
              subst hg1
              have n1 : B2 ≠ g1 := fun e => S.ne (i := 3) (j := 1) rfl rfl (by decide) (b := g1) rfl e.symm
              have n2 : w.heap.size + 1 ≠ g1 := fun e => S.ne (i := 3) (j := 4) rfl rfl (by decide) (b := g1) rfl e.symm
              have n3 : g1 ≠ B2 := fun e => n1 e.symm
              have n4 : g1 ≠ w.heap.size + 1 := fun e => n2 e.symm
              have n5 : B2 ≠ w.heap.size + 1 := S.bne 1 4 rfl rfl (by decide)
              have n6 : w.heap.size + 1 ≠ B2 := fun e => n5 e.symm
              obtain ⟨obc0, obf0⟩ : w9.cell? ⟨B2, 0, none⟩ = some (.slice (some ⟨g1, 0, none⟩) F.length c1) ∧ w9.frozen? ⟨B2, 0, none⟩ = false := bx (S.box 1 rfl) 0 rfl
              obtain ⟨obc1, obf1⟩ : w9.cell? ⟨B2, 1, none⟩ = some (.slice (some ⟨gT, 0, none⟩) T.length c2) ∧ w9.frozen? ⟨B2, 1, none⟩ = false := bx (S.box 1 rfl) 1 rfl
              obtain ⟨rbc0, rbf0⟩ : w9.cell? ⟨(w.heap.size + 1), 0, none⟩ = some (.slice none 0 0) ∧ w9.frozen? ⟨(w.heap.size + 1), 0, none⟩ = false := bx (S.box 4 rfl) 0 rfl
              obtain ⟨rbc1, rbf1⟩ : w9.cell? ⟨(w.heap.size + 1), 1, none⟩ = some (.slice none 0 0) ∧ w9.frozen? ⟨(w.heap.size + 1), 1, none⟩ = false := bx (S.box 4 rfl) 1 rfl
              go_wp2
              try simp only [Exit.inBlock, Exit.then]
              refine bodyPost_ret (v := .tuple #[.agg #[.slice (some ⟨g1, 0, none⟩) F.length c1, .slice (some ⟨gT, 0, none⟩) T.length c2], .bool true]) (by simp [results, Try.results38, go_sem, rbc0, rbc1, obc0, obc1]) rfl ?_
              have SM := S2
              clear obc0 obf0 obc1 obf1 rbc0 rbf0 rbc1 rbf1
              replace S : Sep w (w9.setCell ⟨g1, m, none⟩ (.int .i64 num)) [plRow 3 1 encInt1 (.slice (some ⟨g, 0, none⟩) F.length cU) (usesP F.length Q), plBox B2 #[.slice (some ⟨g1, 0, none⟩) F.length c1, .slice (some ⟨gT, 0, none⟩) T.length c2] 28, plTab (.slice (some ⟨gT, 0, none⟩) T.length c2) vs (T.set k (t.set j (m : Int))), plRow 3 1 encInt1 (.slice (some ⟨g1, 0, none⟩) F.length c1) (F.set m num), plBox (w.heap.size + 1) #[.slice none 0 0, .slice none 0 0] 28, plBox w.heap.size #[.slice af F.length cf, .slice (some ⟨p, off, none⟩) T.length ct] 28] := SM
              clear SM
              replace S : Sep w ((w9.setCell ⟨g1, m, none⟩ (.int .i64 num)).setCell ⟨(w.heap.size + 1), 0, none⟩ (.slice (some ⟨g1, 0, none⟩) F.length c1)) [plRow 3 1 encInt1 (.slice (some ⟨g, 0, none⟩) F.length cU) (usesP F.length Q), plBox B2 #[.slice (some ⟨g1, 0, none⟩) F.length c1, .slice (some ⟨gT, 0, none⟩) T.length c2] 28, plTab (.slice (some ⟨gT, 0, none⟩) T.length c2) vs (T.set k (t.set j (m : Int))), plRow 3 1 encInt1 (.slice (some ⟨g1, 0, none⟩) F.length c1) (F.set m num), plBox (w.heap.size + 1) #[.slice (some ⟨g1, 0, none⟩) F.length c1, .slice none 0 0] 28, plBox w.heap.size #[.slice af F.length cf, .slice (some ⟨p, off, none⟩) T.length ct] 28] := S.set 4 rfl 0 _
              replace S : Sep w (((w9.setCell ⟨g1, m, none⟩ (.int .i64 num)).setCell ⟨(w.heap.size + 1), 0, none⟩ (.slice (some ⟨g1, 0, none⟩) F.length c1)).setCell ⟨(w.heap.size + 1), 1, none⟩ (.slice (some ⟨gT, 0, none⟩) T.length c2)) [plRow 3 1 encInt1 (.slice (some ⟨g, 0, none⟩) F.length cU) (usesP F.length Q), plBox B2 #[.slice (some ⟨g1, 0, none⟩) F.length c1, .slice (some ⟨gT, 0, none⟩) T.length c2] 28, plTab (.slice (some ⟨gT, 0, none⟩) T.length c2) vs (T.set k (t.set j (m : Int))), plRow 3 1 encInt1 (.slice (some ⟨g1, 0, none⟩) F.length c1) (F.set m num), plBox (w.heap.size + 1) #[.slice (some ⟨g1, 0, none⟩) F.length c1, .slice (some ⟨gT, 0, none⟩) T.length c2] 28, plBox w.heap.size #[.slice af F.length cf, .slice (some ⟨p, off, none⟩) T.length ct] 28] := S.set 4 rfl 1 _
              replace S : Sep w (((w9.setCell ⟨g1, m, none⟩ (.int .i64 num)).setCell ⟨(w.heap.size + 1), 0, none⟩ (.slice (some ⟨g1, 0, none⟩) F.length c1)).setCell ⟨(w.heap.size + 1), 1, none⟩ (.slice (some ⟨gT, 0, none⟩) T.length c2)) [plRow 3 1 encInt1 (.slice (some ⟨g, 0, none⟩) F.length cU) (usesP F.length Q), plTab (.slice (some ⟨gT, 0, none⟩) T.length c2) vs (T.set k (t.set j (m : Int))), plRow 3 1 encInt1 (.slice (some ⟨g1, 0, none⟩) F.length c1) (F.set m num), plBox (w.heap.size + 1) #[.slice (some ⟨g1, 0, none⟩) F.length c1, .slice (some ⟨gT, 0, none⟩) T.length c2] 28, plBox w.heap.size #[.slice af F.length cf, .slice (some ⟨p, off, none⟩) T.length ct] 28] := S.drop 1
              replace S : Sep w (((w9.setCell ⟨g1, m, none⟩ (.int .i64 num)).setCell ⟨(w.heap.size + 1), 0, none⟩ (.slice (some ⟨g1, 0, none⟩) F.length c1)).setCell ⟨(w.heap.size + 1), 1, none⟩ (.slice (some ⟨gT, 0, none⟩) T.length c2)) [plRow 3 1 encInt1 (.slice (some ⟨g, 0, none⟩) F.length cU) (usesP F.length Q), plTab (.slice (some ⟨gT, 0, none⟩) T.length c2) vs (T.set k (t.set j (m : Int))), plRow 3 1 encInt1 (.slice (some ⟨g1, 0, none⟩) F.length c1) (F.set m num), plBox w.heap.size #[.slice af F.length cf, .slice (some ⟨p, off, none⟩) T.length ct] 28] := S.drop 3
              replace S : Sep w (((w9.setCell ⟨g1, m, none⟩ (.int .i64 num)).setCell ⟨(w.heap.size + 1), 0, none⟩ (.slice (some ⟨g1, 0, none⟩) F.length c1)).setCell ⟨(w.heap.size + 1), 1, none⟩ (.slice (some ⟨gT, 0, none⟩) T.length c2)) [plRow 3 1 encInt1 (.slice (some ⟨g, 0, none⟩) F.length cU) (usesP F.length Q), plTab (.slice (some ⟨gT, 0, none⟩) T.length c2) vs (T.set k (t.set j (m : Int))), plRow 3 1 encInt1 (.slice (some ⟨g1, 0, none⟩) F.length c1) (F.set m num)] := S.drop 3
              replace S : Sep w (((w9.setCell ⟨g1, m, none⟩ (.int .i64 num)).setCell ⟨(w.heap.size + 1), 0, none⟩ (.slice (some ⟨g1, 0, none⟩) F.length c1)).setCell ⟨(w.heap.size + 1), 1, none⟩ (.slice (some ⟨gT, 0, none⟩) T.length c2)) [plTab (.slice (some ⟨gT, 0, none⟩) T.length c2) vs (T.set k (t.set j (m : Int))), plRow 3 1 encInt1 (.slice (some ⟨g1, 0, none⟩) F.length c1) (F.set m num)] := S.drop 0
              first | refine ⟨some ⟨g1, 0, none⟩, c1, F.set m num, (some ⟨gT, 0, none⟩), c2, vs, T.set k (t.set j (m : Int)), true, by simp, HW.out, ?_⟩ | refine ⟨some ⟨g1, 0, none⟩, c1, F.set m num, (some ⟨gT, 0, none⟩), c2, vs, T.set k (t.set j (m : Int)), .inr ⟨by simp, HW.out, ?_⟩⟩
              have e9 : (F.set m num).length = F.length := List.length_set ..
              have e8 : (T.set k (t.set j (m : Int))).length = T.length := by simp
              rw [e9, e8]
              exact S
            · have HN : Hid (∀ i : Nat, i < m + 1 → Q.count (i : Int) ≠ 0) := Lib.hid (fun i hi => by
                rcases Nat.lt_succ_iff_lt_or_eq.1 hi with h' | rfl
                · exact Hall.out i h'
                · exact hz)
              have hz1 : (0 : Int) < ((Q.count (m : Int) : Nat) : Int) := by omega
              obtain ⟨c, hcd⟩ : ∃ c, c = ((Q.count (m : Int) : Nat) : Int) := ⟨_, rfl⟩
              rw [← hcd] at hz1 g0
              clear hz hcd
              go_wp2
              go_roundw
              case rel => exact ⟨m + 1, by omega, by go_num, HN.out, S⟩
              case measure => simp [intOf]; omega
          · obtain rfl : m = F.length := by omega
            have hni : ¬ (F.length : Int) < (F.length : Int) := by omega
            have HF : Hid (Free F.length Q F.length) := Lib.hid ⟨Nat.le_refl _, Hall.out, fun h => absurd h (Nat.lt_irrefl _)⟩
            by_cases h12 : F.length = 12
            · have t12 : ((F.length : Int) == 12) = true := by simp; omega
              have HR : Hid (WriteR F T k j num F T false) := Lib.hid (HW0.out _ _ _ (.inr ⟨HC.out, _, HF.out, .inr (.inl ⟨rfl, h12, rfl, rfl, rfl⟩)⟩))
              clear h12 HW0
              obtain ⟨obc0, obf0⟩ : wr.cell? ⟨B2, 0, none⟩ = some (.slice a1 F.length c1) ∧ wr.frozen? ⟨B2, 0, none⟩ = false := bx (S.box 1 rfl) 0 rfl
              obtain ⟨obc1, obf1⟩ : wr.cell? ⟨B2, 1, none⟩ = some (.slice a2 T.length c2) ∧ wr.frozen? ⟨B2, 1, none⟩ = false := bx (S.box 1 rfl) 1 rfl
              obtain ⟨rbc0, rbf0⟩ : wr.cell? ⟨(w.heap.size + 1), 0, none⟩ = some (.slice none 0 0) ∧ wr.frozen? ⟨(w.heap.size + 1), 0, none⟩ = false := bx (S.box 4 rfl) 0 rfl
              obtain ⟨rbc1, rbf1⟩ : wr.cell? ⟨(w.heap.size + 1), 1, none⟩ = some (.slice none 0 0) ∧ wr.frozen? ⟨(w.heap.size + 1), 1, none⟩ = false := bx (S.box 4 rfl) 1 rfl
              obtain ⟨bmc0, bmf0⟩ : wr.cell? ⟨w.heap.size, 0, none⟩ = some (.slice af F.length cf) ∧ wr.frozen? ⟨w.heap.size, 0, none⟩ = false := bx (S.box 5 rfl) 0 rfl
              obtain ⟨bmc1, bmf1⟩ : wr.cell? ⟨w.heap.size, 1, none⟩ = some (.slice (some ⟨p, off, none⟩) T.length ct) ∧ wr.frozen? ⟨w.heap.size, 1, none⟩ = false := bx (S.box 5 rfl) 1 rfl
              go_wp2
              try simp only [Exit.inBlock, Exit.then]
              refine bodyPost_ret (v := .tuple #[.agg #[.slice a1 F.length c1, .slice a2 T.length c2], .bool false]) (by simp [results, Try.results38, go_sem, rbc0, rbc1, obc0, obc1]) rfl ?_
              replace S : Sep w (wr.setCell ⟨(w.heap.size + 1), 0, none⟩ (.slice a1 F.length c1)) [plRow 3 1 encInt1 (.slice (some ⟨g, 0, none⟩) F.length cU) (usesP F.length Q), plBox B2 #[.slice a1 F.length c1, .slice a2 T.length c2] 28, plTab (.slice a2 T.length c2) vs T, plRow 3 1 encInt1 (.slice a1 F.length c1) F, plBox (w.heap.size + 1) #[.slice a1 F.length c1, .slice none 0 0] 28, plBox w.heap.size #[.slice af F.length cf, .slice (some ⟨p, off, none⟩) T.length ct] 28] := S.set 4 rfl 0 _
              replace S : Sep w ((wr.setCell ⟨(w.heap.size + 1), 0, none⟩ (.slice a1 F.length c1)).setCell ⟨(w.heap.size + 1), 1, none⟩ (.slice a2 T.length c2)) [plRow 3 1 encInt1 (.slice (some ⟨g, 0, none⟩) F.length cU) (usesP F.length Q), plBox B2 #[.slice a1 F.length c1, .slice a2 T.length c2] 28, plTab (.slice a2 T.length c2) vs T, plRow 3 1 encInt1 (.slice a1 F.length c1) F, plBox (w.heap.size + 1) #[.slice a1 F.length c1, .slice a2 T.length c2] 28, plBox w.heap.size #[.slice af F.length cf, .slice (some ⟨p, off, none⟩) T.length ct] 28] := S.set 4 rfl 1 _
              replace S : Sep w ((wr.setCell ⟨(w.heap.size + 1), 0, none⟩ (.slice a1 F.length c1)).setCell ⟨(w.heap.size + 1), 1, none⟩ (.slice a2 T.length c2)) [plRow 3 1 encInt1 (.slice (some ⟨g, 0, none⟩) F.length cU) (usesP F.length Q), plTab (.slice a2 T.length c2) vs T, plRow 3 1 encInt1 (.slice a1 F.length c1) F, plBox (w.heap.size + 1) #[.slice a1 F.length c1, .slice a2 T.length c2] 28, plBox w.heap.size #[.slice af F.length cf, .slice (some ⟨p, off, none⟩) T.length ct] 28] := S.drop 1
              replace S : Sep w ((wr.setCell ⟨(w.heap.size + 1), 0, none⟩ (.slice a1 F.length c1)).setCell ⟨(w.heap.size + 1), 1, none⟩ (.slice a2 T.length c2)) [plRow 3 1 encInt1 (.slice (some ⟨g, 0, none⟩) F.length cU) (usesP F.length Q), plTab (.slice a2 T.length c2) vs T, plRow 3 1 encInt1 (.slice a1 F.length c1) F, plBox w.heap.size #[.slice af F.length cf, .slice (some ⟨p, off, none⟩) T.length ct] 28] := S.drop 3
              replace S : Sep w ((wr.setCell ⟨(w.heap.size + 1), 0, none⟩ (.slice a1 F.length c1)).setCell ⟨(w.heap.size + 1), 1, none⟩ (.slice a2 T.length c2)) [plRow 3 1 encInt1 (.slice (some ⟨g, 0, none⟩) F.length cU) (usesP F.length Q), plTab (.slice a2 T.length c2) vs T, plRow 3 1 encInt1 (.slice a1 F.length c1) F] := S.drop 3
              replace S : Sep w ((wr.setCell ⟨(w.heap.size + 1), 0, none⟩ (.slice a1 F.length c1)).setCell ⟨(w.heap.size + 1), 1, none⟩ (.slice a2 T.length c2)) [plTab (.slice a2 T.length c2) vs T, plRow 3 1 encInt1 (.slice a1 F.length c1) F] := S.drop 0
              first | exact ⟨a1, c1, F, a2, c2, vs, T, false, rfl, HR.out, S⟩ | exact ⟨a1, c1, F, a2, c2, vs, T, .inl ⟨rfl, HR.out, S⟩⟩
            · have t12 : ((F.length : Int) == 12) = false := by simp; omega
              have tll : ((F.length : Int) == (F.length : Int)) = true := by simp
              have HW : Hid (WriteR F T k j num (F ++ [num]) (T.set k (t.set j (F.length : Int))) true) := Lib.hid (HW0.out _ _ _ (.inr ⟨HC.out, _, HF.out, .inr (.inr ⟨rfl, h12, rfl, rfl, rfl⟩)⟩))
              clear h12 HW0
              obtain ⟨obc0, obf0⟩ : wr.cell? ⟨B2, 0, none⟩ = some (.slice a1 F.length c1) ∧ wr.frozen? ⟨B2, 0, none⟩ = false := bx (S.box 1 rfl) 0 rfl
              obtain ⟨obc1, obf1⟩ : wr.cell? ⟨B2, 1, none⟩ = some (.slice a2 T.length c2) ∧ wr.frozen? ⟨B2, 1, none⟩ = false := bx (S.box 1 rfl) 1 rfl
              have SA := S.alloc #[.int .i64 0] 3
              have rd1 : Rd 1 encInt1 (World.alloc wr (.cells #[.int .i64 0] 3)) (some ⟨wr.heap.size, 0, none⟩) [(0 : Int)] := rd_lit_new [(0 : Int)] encInt1_len rfl
              obtain ⟨hob, hobf⟩ := bx ((SA.box (1 + 1) rfl)) 0 rfl
              go_wp2_with (at_builtin; refine Hid.out (?_ : Hid _))
              unfold Hid
              refine wpList_append_b rfl _ _ 22 rfl w.heap.size 3 _ 1 _ Try.underlying22 infoInt rfl (by decide) encInt1_len encInt1_one _ F.length F rfl (SA.row (3 + 1) rfl) rfl (some ⟨wr.heap.size, 0, none⟩) 1 1 [(0 : Int)] rfl rfl rd1 (by omega) (by omega) SA.chg.size ?_
              intro v7 w7 ho hgr hblk
              obtain ⟨G, hG⟩ : ∃ G, G = F ++ [(0 : Int)] := ⟨_, rfl⟩
              rw [← hG] at ho
              have HG := Lib.hid hG
              have hGl : G.length = F.length + 1 := by rw [hG]; simp
              have HGl := Lib.hid hGl
              clear hG hGl
              obtain ⟨a7, c7, hv7, hk7, _, _⟩ := view_owns encInt1_len ho
              subst hv7
              have SM := (SA.grow (3 + 1) rfl hgr ho hblk).drop 0
              clear obc0 obf0 obc1 obf1
              clear ho hgr hblk SA rd1 S hob hobf
              have S := SM
              clear SM
              have S7 := S
              replace S : Sep w w7 [plRow 3 1 encInt1 (.slice (some ⟨g, 0, none⟩) F.length cU) (usesP F.length Q), plBox B2 #[.slice a1 F.length c1, .slice a2 T.length c2] 28, plTab (.slice a2 T.length c2) vs T, plRow 3 1 encInt1 (.slice a7 G.length c7) G, plBox (w.heap.size + 1) #[.slice none 0 0, .slice none 0 0] 28, plBox w.heap.size #[.slice af F.length cf, .slice (some ⟨p, off, none⟩) T.length ct] 28] := S7
              clear S7
              obtain ⟨obc0, obf0⟩ : w7.cell? ⟨B2, 0, none⟩ = some (.slice a1 F.length c1) ∧ w7.frozen? ⟨B2, 0, none⟩ = false := bx (S.box 1 rfl) 0 rfl
              obtain ⟨obc1, obf1⟩ : w7.cell? ⟨B2, 1, none⟩ = some (.slice a2 T.length c2) ∧ w7.frozen? ⟨B2, 1, none⟩ = false := bx (S.box 1 rfl) 1 rfl
              go_upto_region 16 with fail
              clear obc0 obf0 obc1 obf1
              replace S : Sep w (w7.setCell ⟨B2, 0, none⟩ (.slice a7 G.length c7)) [plRow 3 1 encInt1 (.slice (some ⟨g, 0, none⟩) F.length cU) (usesP F.length Q), plBox B2 #[.slice a7 G.length c7, .slice a2 T.length c2] 28, plTab (.slice a2 T.length c2) vs T, plRow 3 1 encInt1 (.slice a7 G.length c7) G, plBox (w.heap.size + 1) #[.slice none 0 0, .slice none 0 0] 28, plBox w.heap.size #[.slice af F.length cf, .slice (some ⟨p, off, none⟩) T.length ct] 28] := S.set 1 rfl 0 _
              generalize (w7.setCell ⟨B2, 0, none⟩ (.slice a7 G.length c7)) = w8 at *
              obtain ⟨gT, cT, gI, cI, hu2, x0, x1, x2, _, S14⟩ := S.tabCell 2 rfl Ht.out Hf.out (F.length : Int)
              simp only [Value.slice.injEq, true_and] at hu2
              obtain ⟨rfl, rfl⟩ := hu2
              obtain ⟨obc0, obf0⟩ : w8.cell? ⟨B2, 0, none⟩ = some (.slice a7 G.length c7) ∧ w8.frozen? ⟨B2, 0, none⟩ = false := bx (S.box 1 rfl) 0 rfl
              obtain ⟨obc1, obf1⟩ : w8.cell? ⟨B2, 1, none⟩ = some (.slice (some ⟨gT, 0, none⟩) T.length c2) ∧ w8.frozen? ⟨B2, 1, none⟩ = false := bx (S.box 1 rfl) 1 rfl
              go_upto_region 17 with fail
              clear obc0 obf0 obc1 obf1
              clear x0 x1 x2
              have SM := S14
              replace S : Sep w (w8.setCell ⟨gI, j, none⟩ (.int .i64 (F.length : Int))) [plRow 3 1 encInt1 (.slice (some ⟨g, 0, none⟩) F.length cU) (usesP F.length Q), plBox B2 #[.slice a7 G.length c7, .slice (some ⟨gT, 0, none⟩) T.length c2] 28, plTab (.slice (some ⟨gT, 0, none⟩) T.length c2) vs (T.set k (t.set j (F.length : Int))), plRow 3 1 encInt1 (.slice a7 G.length c7) G, plBox (w.heap.size + 1) #[.slice none 0 0, .slice none 0 0] 28, plBox w.heap.size #[.slice af F.length cf, .slice (some ⟨p, off, none⟩) T.length ct] 28] := SM
              clear SM
              clear S14
              generalize (w8.setCell ⟨gI, j, none⟩ (.int .i64 (F.length : Int))) = w9 at *
              have HGI : Hid (G[F.length]? = some 0) := Lib.hid (by rw [HG.out, List.getElem?_append_right (Nat.le_refl _), Nat.sub_self]; rfl)
              replace HW : Hid (WriteR F T k j num (G.set F.length num) (T.set k (t.set j (F.length : Int))) true) := Lib.hid (by
                rw [HG.out, List.set_append_right _ _ (Nat.le_refl _), Nat.sub_self]; exact HW.out)
              have hG1 : (F.length : Int) < (G.length : Int) := by have := HGl.out; omega
              clear HG HGl
              obtain ⟨g1, hg1, e1, z1, S2⟩ := S.rowCell 3 rfl HGI.out num
              subst hg1
              have n1 : B2 ≠ g1 := fun e => S.ne (i := 3) (j := 1) rfl rfl (by decide) (b := g1) rfl e.symm
              have n2 : w.heap.size + 1 ≠ g1 := fun e => S.ne (i := 3) (j := 4) rfl rfl (by decide) (b := g1) rfl e.symm
              have n3 : g1 ≠ B2 := fun e => n1 e.symm
              have n4 : g1 ≠ w.heap.size + 1 := fun e => n2 e.symm
              have n5 : B2 ≠ w.heap.size + 1 := S.bne 1 4 rfl rfl (by decide)
              have n6 : w.heap.size + 1 ≠ B2 := fun e => n5 e.symm
              obtain ⟨obc0, obf0⟩ : w9.cell? ⟨B2, 0, none⟩ = some (.slice (some ⟨g1, 0, none⟩) G.length c7) ∧ w9.frozen? ⟨B2, 0, none⟩ = false := bx (S.box 1 rfl) 0 rfl
              obtain ⟨obc1, obf1⟩ : w9.cell? ⟨B2, 1, none⟩ = some (.slice (some ⟨gT, 0, none⟩) T.length c2) ∧ w9.frozen? ⟨B2, 1, none⟩ = false := bx (S.box 1 rfl) 1 rfl
              obtain ⟨rbc0, rbf0⟩ : w9.cell? ⟨(w.heap.size + 1), 0, none⟩ = some (.slice none 0 0) ∧ w9.frozen? ⟨(w.heap.size + 1), 0, none⟩ = false := bx (S.box 4 rfl) 0 rfl
              obtain ⟨rbc1, rbf1⟩ : w9.cell? ⟨(w.heap.size + 1), 1, none⟩ = some (.slice none 0 0) ∧ w9.frozen? ⟨(w.heap.size + 1), 1, none⟩ = false := bx (S.box 4 rfl) 1 rfl
              go_wp2
              try simp only [Exit.inBlock, Exit.then]
              refine bodyPost_ret (v := .tuple #[.agg #[.slice (some ⟨g1, 0, none⟩) G.length c7, .slice (some ⟨gT, 0, none⟩) T.length c2], .bool true]) (by simp [results, Try.results38, go_sem, rbc0, rbc1, obc0, obc1]) rfl ?_
              have SM := S2
              clear obc0 obf0 obc1 obf1 rbc0 rbf0 rbc1 rbf1
              replace S : Sep w (w9.setCell ⟨g1, F.length, none⟩ (.int .i64 num)) [plRow 3 1 encInt1 (.slice (some ⟨g, 0, none⟩) F.length cU) (usesP F.length Q), plBox B2 #[.slice (some ⟨g1, 0, none⟩) G.length c7, .slice (some ⟨gT, 0, none⟩) T.length c2] 28, plTab (.slice (some ⟨gT, 0, none⟩) T.length c2) vs (T.set k (t.set j (F.length : Int))), plRow 3 1 encInt1 (.slice (some ⟨g1, 0, none⟩) G.length c7) (G.set F.length num), plBox (w.heap.size + 1) #[.slice none 0 0, .slice none 0 0] 28, plBox w.heap.size #[.slice af F.length cf, .slice (some ⟨p, off, none⟩) T.length ct] 28] := SM
              clear SM
              replace S : Sep w ((w9.setCell ⟨g1, F.length, none⟩ (.int .i64 num)).setCell ⟨(w.heap.size + 1), 0, none⟩ (.slice (some ⟨g1, 0, none⟩) G.length c7)) [plRow 3 1 encInt1 (.slice (some ⟨g, 0, none⟩) F.length cU) (usesP F.length Q), plBox B2 #[.slice (some ⟨g1, 0, none⟩) G.length c7, .slice (some ⟨gT, 0, none⟩) T.length c2] 28, plTab (.slice (some ⟨gT, 0, none⟩) T.length c2) vs (T.set k (t.set j (F.length : Int))), plRow 3 1 encInt1 (.slice (some ⟨g1, 0, none⟩) G.length c7) (G.set F.length num), plBox (w.heap.size + 1) #[.slice (some ⟨g1, 0, none⟩) G.length c7, .slice none 0 0] 28, plBox w.heap.size #[.slice af F.length cf, .slice (some ⟨p, off, none⟩) T.length ct] 28] := S.set 4 rfl 0 _
              replace S : Sep w (((w9.setCell ⟨g1, F.length, none⟩ (.int .i64 num)).setCell ⟨(w.heap.size + 1), 0, none⟩ (.slice (some ⟨g1, 0, none⟩) G.length c7)).setCell ⟨(w.heap.size + 1), 1, none⟩ (.slice (some ⟨gT, 0, none⟩) T.length c2)) [plRow 3 1 encInt1 (.slice (some ⟨g, 0, none⟩) F.length cU) (usesP F.length Q), plBox B2 #[.slice (some ⟨g1, 0, none⟩) G.length c7, .slice (some ⟨gT, 0, none⟩) T.length c2] 28, plTab (.slice (some ⟨gT, 0, none⟩) T.length c2) vs (T.set k (t.set j (F.length : Int))), plRow 3 1 encInt1 (.slice (some ⟨g1, 0, none⟩) G.length c7) (G.set F.length num), plBox (w.heap.size + 1) #[.slice (some ⟨g1, 0, none⟩) G.length c7, .slice (some ⟨gT, 0, none⟩) T.length c2] 28, plBox w.heap.size #[.slice af F.length cf, .slice (some ⟨p, off, none⟩) T.length ct] 28] := S.set 4 rfl 1 _
              replace S : Sep w (((w9.setCell ⟨g1, F.length, none⟩ (.int .i64 num)).setCell ⟨(w.heap.size + 1), 0, none⟩ (.slice (some ⟨g1, 0, none⟩) G.length c7)).setCell ⟨(w.heap.size + 1), 1, none⟩ (.slice (some ⟨gT, 0, none⟩) T.length c2)) [plRow 3 1 encInt1 (.slice (some ⟨g, 0, none⟩) F.length cU) (usesP F.length Q), plTab (.slice (some ⟨gT, 0, none⟩) T.length c2) vs (T.set k (t.set j (F.length : Int))), plRow 3 1 encInt1 (.slice (some ⟨g1, 0, none⟩) G.length c7) (G.set F.length num), plBox (w.heap.size + 1) #[.slice (some ⟨g1, 0, none⟩) G.length c7, .slice (some ⟨gT, 0, none⟩) T.length c2] 28, plBox w.heap.size #[.slice af F.length cf, .slice (some ⟨p, off, none⟩) T.length ct] 28] := S.drop 1
              replace S : Sep w (((w9.setCell ⟨g1, F.length, none⟩ (.int .i64 num)).setCell ⟨(w.heap.size + 1), 0, none⟩ (.slice (some ⟨g1, 0, none⟩) G.length c7)).setCell ⟨(w.heap.size + 1), 1, none⟩ (.slice (some ⟨gT, 0, none⟩) T.length c2)) [plRow 3 1 encInt1 (.slice (some ⟨g, 0, none⟩) F.length cU) (usesP F.length Q), plTab (.slice (some ⟨gT, 0, none⟩) T.length c2) vs (T.set k (t.set j (F.length : Int))), plRow 3 1 encInt1 (.slice (some ⟨g1, 0, none⟩) G.length c7) (G.set F.length num), plBox w.heap.size #[.slice af F.length cf, .slice (some ⟨p, off, none⟩) T.length ct] 28] := S.drop 3
              replace S : Sep w (((w9.setCell ⟨g1, F.length, none⟩ (.int .i64 num)).setCell ⟨(w.heap.size + 1), 0, none⟩ (.slice (some ⟨g1, 0, none⟩) G.length c7)).setCell ⟨(w.heap.size + 1), 1, none⟩ (.slice (some ⟨gT, 0, none⟩) T.length c2)) [plRow 3 1 encInt1 (.slice (some ⟨g, 0, none⟩) F.length cU) (usesP F.length Q), plTab (.slice (some ⟨gT, 0, none⟩) T.length c2) vs (T.set k (t.set j (F.length : Int))), plRow 3 1 encInt1 (.slice (some ⟨g1, 0, none⟩) G.length c7) (G.set F.length num)] := S.drop 3
              replace S : Sep w (((w9.setCell ⟨g1, F.length, none⟩ (.int .i64 num)).setCell ⟨(w.heap.size + 1), 0, none⟩ (.slice (some ⟨g1, 0, none⟩) G.length c7)).setCell ⟨(w.heap.size + 1), 1, none⟩ (.slice (some ⟨gT, 0, none⟩) T.length c2)) [plTab (.slice (some ⟨gT, 0, none⟩) T.length c2) vs (T.set k (t.set j (F.length : Int))), plRow 3 1 encInt1 (.slice (some ⟨g1, 0, none⟩) G.length c7) (G.set F.length num)] := S.drop 0
              first | refine ⟨some ⟨g1, 0, none⟩, c7, G.set F.length num, (some ⟨gT, 0, none⟩), c2, vs, T.set k (t.set j (F.length : Int)), true, by simp, HW.out, ?_⟩ | refine ⟨some ⟨g1, 0, none⟩, c7, G.set F.length num, (some ⟨gT, 0, none⟩), c2, vs, T.set k (t.set j (F.length : Int)), .inr ⟨by simp, HW.out, ?_⟩⟩
              have e9 : (G.set F.length num).length = G.length := List.length_set ..
              have e8 : (T.set k (t.set j (F.length : Int))).length = T.length := by simp
              rw [e9, e8]
              exact S
      · have hci : decide ((1 : Int) < ((Q.count (f : Int) : Nat) : Int)) = false := by simp; omega
        have HW : Hid (WriteR F T k j num (F.set f num) T true) := Lib.hid (HW0.out _ _ _ (.inl ⟨by omega, rfl, rfl, rfl⟩))
        obtain ⟨old, hold⟩ : ∃ old, F[f]? = some old := ⟨_, List.getElem?_eq_getElem hfl⟩
        have HGI := Lib.hid hold
        clear hc HW0 hold
        obtain ⟨bmc0, bmf0⟩ : w6.cell? ⟨w.heap.size, 0, none⟩ = some (.slice af F.length cf) ∧ w6.frozen? ⟨w.heap.size, 0, none⟩ = false := bx (S.box 5 rfl) 0 rfl
        obtain ⟨bmc1, bmf1⟩ : w6.cell? ⟨w.heap.size, 1, none⟩ = some (.slice (some ⟨p, off, none⟩) T.length ct) ∧ w6.frozen? ⟨w.heap.size, 1, none⟩ = false := bx (S.box 5 rfl) 1 rfl
        go_upto_region 17 with fail
        clear bmc0 bmf0 bmc1 bmf1
        clear g0 hci c0 d0
        obtain ⟨g1, hg1, e1, z1, S2⟩ := S.rowCell 3 rfl HGI.out num
        subst hg1
        have n1 : B2 ≠ g1 := fun e => S.ne (i := 3) (j := 1) rfl rfl (by decide) (b := g1) rfl e.symm
        have n2 : w.heap.size + 1 ≠ g1 := fun e => S.ne (i := 3) (j := 4) rfl rfl (by decide) (b := g1) rfl e.symm
        have n3 : g1 ≠ B2 := fun e => n1 e.symm
        have n4 : g1 ≠ w.heap.size + 1 := fun e => n2 e.symm
        have n5 : B2 ≠ w.heap.size + 1 := S.bne 1 4 rfl rfl (by decide)
        have n6 : w.heap.size + 1 ≠ B2 := fun e => n5 e.symm
        obtain ⟨obc0, obf0⟩ : w6.cell? ⟨B2, 0, none⟩ = some (.slice (some ⟨g1, 0, none⟩) F.length c1) ∧ w6.frozen? ⟨B2, 0, none⟩ = false := bx (S.box 1 rfl) 0 rfl
        obtain ⟨obc1, obf1⟩ : w6.cell? ⟨B2, 1, none⟩ = some (.slice a2 T.length c2) ∧ w6.frozen? ⟨B2, 1, none⟩ = false := bx (S.box 1 rfl) 1 rfl
        obtain ⟨rbc0, rbf0⟩ : w6.cell? ⟨(w.heap.size + 1), 0, none⟩ = some (.slice none 0 0) ∧ w6.frozen? ⟨(w.heap.size + 1), 0, none⟩ = false := bx (S.box 4 rfl) 0 rfl
        obtain ⟨rbc1, rbf1⟩ : w6.cell? ⟨(w.heap.size + 1), 1, none⟩ = some (.slice none 0 0) ∧ w6.frozen? ⟨(w.heap.size + 1), 1, none⟩ = false := bx (S.box 4 rfl) 1 rfl
        go_wp2
        try simp only [Exit.inBlock, Exit.then]
        refine bodyPost_ret (v := .tuple #[.agg #[.slice (some ⟨g1, 0, none⟩) F.length c1, .slice a2 T.length c2], .bool true]) (by simp [results, Try.results38, go_sem, rbc0, rbc1, obc0, obc1]) rfl ?_
        have SM := S2
        clear obc0 obf0 obc1 obf1 rbc0 rbf0 rbc1 rbf1
        replace S : Sep w (w6.setCell ⟨g1, f, none⟩ (.int .i64 num)) [plRow 3 1 encInt1 (.slice (some ⟨g, 0, none⟩) F.length cU) (usesP F.length Q), plBox B2 #[.slice (some ⟨g1, 0, none⟩) F.length c1, .slice a2 T.length c2] 28, plTab (.slice a2 T.length c2) vs T, plRow 3 1 encInt1 (.slice (some ⟨g1, 0, none⟩) F.length c1) (F.set f num), plBox (w.heap.size + 1) #[.slice none 0 0, .slice none 0 0] 28, plBox w.heap.size #[.slice af F.length cf, .slice (some ⟨p, off, none⟩) T.length ct] 28] := SM
        clear SM
        replace S : Sep w ((w6.setCell ⟨g1, f, none⟩ (.int .i64 num)).setCell ⟨(w.heap.size + 1), 0, none⟩ (.slice (some ⟨g1, 0, none⟩) F.length c1)) [plRow 3 1 encInt1 (.slice (some ⟨g, 0, none⟩) F.length cU) (usesP F.length Q), plBox B2 #[.slice (some ⟨g1, 0, none⟩) F.length c1, .slice a2 T.length c2] 28, plTab (.slice a2 T.length c2) vs T, plRow 3 1 encInt1 (.slice (some ⟨g1, 0, none⟩) F.length c1) (F.set f num), plBox (w.heap.size + 1) #[.slice (some ⟨g1, 0, none⟩) F.length c1, .slice none 0 0] 28, plBox w.heap.size #[.slice af F.length cf, .slice (some ⟨p, off, none⟩) T.length ct] 28] := S.set 4 rfl 0 _
        replace S : Sep w (((w6.setCell ⟨g1, f, none⟩ (.int .i64 num)).setCell ⟨(w.heap.size + 1), 0, none⟩ (.slice (some ⟨g1, 0, none⟩) F.length c1)).setCell ⟨(w.heap.size + 1), 1, none⟩ (.slice a2 T.length c2)) [plRow 3 1 encInt1 (.slice (some ⟨g, 0, none⟩) F.length cU) (usesP F.length Q), plBox B2 #[.slice (some ⟨g1, 0, none⟩) F.length c1, .slice a2 T.length c2] 28, plTab (.slice a2 T.length c2) vs T, plRow 3 1 encInt1 (.slice (some ⟨g1, 0, none⟩) F.length c1) (F.set f num), plBox (w.heap.size + 1) #[.slice (some ⟨g1, 0, none⟩) F.length c1, .slice a2 T.length c2] 28, plBox w.heap.size #[.slice af F.length cf, .slice (some ⟨p, off, none⟩) T.length ct] 28] := S.set 4 rfl 1 _
        replace S : Sep w (((w6.setCell ⟨g1, f, none⟩ (.int .i64 num)).setCell ⟨(w.heap.size + 1), 0, none⟩ (.slice (some ⟨g1, 0, none⟩) F.length c1)).setCell ⟨(w.heap.size + 1), 1, none⟩ (.slice a2 T.length c2)) [plRow 3 1 encInt1 (.slice (some ⟨g, 0, none⟩) F.length cU) (usesP F.length Q), plTab (.slice a2 T.length c2) vs T, plRow 3 1 encInt1 (.slice (some ⟨g1, 0, none⟩) F.length c1) (F.set f num), plBox (w.heap.size + 1) #[.slice (some ⟨g1, 0, none⟩) F.length c1, .slice a2 T.length c2] 28, plBox w.heap.size #[.slice af F.length cf, .slice (some ⟨p, off, none⟩) T.length ct] 28] := S.drop 1
        replace S : Sep w (((w6.setCell ⟨g1, f, none⟩ (.int .i64 num)).setCell ⟨(w.heap.size + 1), 0, none⟩ (.slice (some ⟨g1, 0, none⟩) F.length c1)).setCell ⟨(w.heap.size + 1), 1, none⟩ (.slice a2 T.length c2)) [plRow 3 1 encInt1 (.slice (some ⟨g, 0, none⟩) F.length cU) (usesP F.length Q), plTab (.slice a2 T.length c2) vs T, plRow 3 1 encInt1 (.slice (some ⟨g1, 0, none⟩) F.length c1) (F.set f num), plBox w.heap.size #[.slice af F.length cf, .slice (some ⟨p, off, none⟩) T.length ct] 28] := S.drop 3
        replace S : Sep w (((w6.setCell ⟨g1, f, none⟩ (.int .i64 num)).setCell ⟨(w.heap.size + 1), 0, none⟩ (.slice (some ⟨g1, 0, none⟩) F.length c1)).setCell ⟨(w.heap.size + 1), 1, none⟩ (.slice a2 T.length c2)) [plRow 3 1 encInt1 (.slice (some ⟨g, 0, none⟩) F.length cU) (usesP F.length Q), plTab (.slice a2 T.length c2) vs T, plRow 3 1 encInt1 (.slice (some ⟨g1, 0, none⟩) F.length c1) (F.set f num)] := S.drop 3
        replace S : Sep w (((w6.setCell ⟨g1, f, none⟩ (.int .i64 num)).setCell ⟨(w.heap.size + 1), 0, none⟩ (.slice (some ⟨g1, 0, none⟩) F.length c1)).setCell ⟨(w.heap.size + 1), 1, none⟩ (.slice a2 T.length c2)) [plTab (.slice a2 T.length c2) vs T, plRow 3 1 encInt1 (.slice (some ⟨g1, 0, none⟩) F.length c1) (F.set f num)] := S.drop 0
        first | refine ⟨some ⟨g1, 0, none⟩, c1, F.set f num, a2, c2, vs, T, true, by simp, HW.out, ?_⟩ | refine ⟨some ⟨g1, 0, none⟩, c1, F.set f num, a2, c2, vs, T, .inr ⟨by simp, HW.out, ?_⟩⟩
        have e9 : (F.set f num).length = F.length := List.length_set ..
        have e8 : (T).length = T.length := by simp
        rw [e9, e8]
        exact S
    · skip
      skip
      skip
      by_cases hp : 0 ≤ page ∧ page ≤ (t.length : Int) - 1
      rotate_left
      · have ein2 := inB_false hp
        have HR := hbad (fun h => by rw [pageAt_page Ht.out hp] at h; simp at h)
        clear hbad hp
        obtain ⟨bmc0, bmf0⟩ : (w3.alloc (.cells #[.slice a1 F.length c1, .slice a2 T.length c2] 28)).cell? ⟨w.heap.size, 0, none⟩ = some (.slice af F.length cf) ∧ (w3.alloc (.cells #[.slice a1 F.length c1, .slice a2 T.length c2] 28)).frozen? ⟨w.heap.size, 0, none⟩ = false := bx (S.box 4 rfl) 0 rfl
        obtain ⟨bmc1, bmf1⟩ : (w3.alloc (.cells #[.slice a1 F.length c1, .slice a2 T.length c2] 28)).cell? ⟨w.heap.size, 1, none⟩ = some (.slice (some ⟨p, off, none⟩) T.length ct) ∧ (w3.alloc (.cells #[.slice a1 F.length c1, .slice a2 T.length c2] 28)).frozen? ⟨w.heap.size, 1, none⟩ = false := bx (S.box 4 rfl) 1 rfl
        go_upto_region 5 with (go_at_call 41; refine ((l1In_any _ _ _ _).mono (fun e w2 h => by first | (rw [ein] at h; exact h) | (rw [ein2] at h; exact h))).mono ?_; rintro e w' ⟨rfl, rfl⟩)
        clear bmc0 bmf0 bmc1 bmf1
        generalize (w3.alloc (.cells #[.slice a1 F.length c1, .slice a2 T.length c2] 28)) = w4 at *
        rw [← hB2] at *
        clear hB2
        obtain ⟨obc0, obf0⟩ : w4.cell? ⟨B2, 0, none⟩ = some (.slice a1 F.length c1) ∧ w4.frozen? ⟨B2, 0, none⟩ = false := bx (S.box 0 rfl) 0 rfl
        obtain ⟨obc1, obf1⟩ : w4.cell? ⟨B2, 1, none⟩ = some (.slice a2 T.length c2) ∧ w4.frozen? ⟨B2, 1, none⟩ = false := bx (S.box 0 rfl) 1 rfl
        obtain ⟨rbc0, rbf0⟩ : w4.cell? ⟨(w.heap.size + 1), 0, none⟩ = some (.slice none 0 0) ∧ w4.frozen? ⟨(w.heap.size + 1), 0, none⟩ = false := bx (S.box 3 rfl) 0 rfl
        obtain ⟨rbc1, rbf1⟩ : w4.cell? ⟨(w.heap.size + 1), 1, none⟩ = some (.slice none 0 0) ∧ w4.frozen? ⟨(w.heap.size + 1), 1, none⟩ = false := bx (S.box 3 rfl) 1 rfl
        obtain ⟨bmc0, bmf0⟩ : w4.cell? ⟨w.heap.size, 0, none⟩ = some (.slice af F.length cf) ∧ w4.frozen? ⟨w.heap.size, 0, none⟩ = false := bx (S.box 4 rfl) 0 rfl
        obtain ⟨bmc1, bmf1⟩ : w4.cell? ⟨w.heap.size, 1, none⟩ = some (.slice (some ⟨p, off, none⟩) T.length ct) ∧ w4.frozen? ⟨w.heap.size, 1, none⟩ = false := bx (S.box 4 rfl) 1 rfl
        go_wp2
        try simp only [Exit.inBlock, Exit.then]
        refine bodyPost_ret (v := .tuple #[.agg #[.slice a1 F.length c1, .slice a2 T.length c2], .bool false]) (by simp [results, Try.results38, go_sem, rbc0, rbc1, obc0, obc1]) rfl ?_
        replace S : Sep w (w4.setCell ⟨(w.heap.size + 1), 0, none⟩ (.slice a1 F.length c1)) [plBox B2 #[.slice a1 F.length c1, .slice a2 T.length c2] 28, plTab (.slice a2 T.length c2) vs T, plRow 3 1 encInt1 (.slice a1 F.length c1) F, plBox (w.heap.size + 1) #[.slice a1 F.length c1, .slice none 0 0] 28, plBox w.heap.size #[.slice af F.length cf, .slice (some ⟨p, off, none⟩) T.length ct] 28] := S.set 3 rfl 0 _
        replace S : Sep w ((w4.setCell ⟨(w.heap.size + 1), 0, none⟩ (.slice a1 F.length c1)).setCell ⟨(w.heap.size + 1), 1, none⟩ (.slice a2 T.length c2)) [plBox B2 #[.slice a1 F.length c1, .slice a2 T.length c2] 28, plTab (.slice a2 T.length c2) vs T, plRow 3 1 encInt1 (.slice a1 F.length c1) F, plBox (w.heap.size + 1) #[.slice a1 F.length c1, .slice a2 T.length c2] 28, plBox w.heap.size #[.slice af F.length cf, .slice (some ⟨p, off, none⟩) T.length ct] 28] := S.set 3 rfl 1 _
        replace S : Sep w ((w4.setCell ⟨(w.heap.size + 1), 0, none⟩ (.slice a1 F.length c1)).setCell ⟨(w.heap.size + 1), 1, none⟩ (.slice a2 T.length c2)) [plTab (.slice a2 T.length c2) vs T, plRow 3 1 encInt1 (.slice a1 F.length c1) F, plBox (w.heap.size + 1) #[.slice a1 F.length c1, .slice a2 T.length c2] 28, plBox w.heap.size #[.slice af F.length cf, .slice (some ⟨p, off, none⟩) T.length ct] 28] := S.drop 0
        replace S : Sep w ((w4.setCell ⟨(w.heap.size + 1), 0, none⟩ (.slice a1 F.length c1)).setCell ⟨(w.heap.size + 1), 1, none⟩ (.slice a2 T.length c2)) [plTab (.slice a2 T.length c2) vs T, plRow 3 1 encInt1 (.slice a1 F.length c1) F, plBox w.heap.size #[.slice af F.length cf, .slice (some ⟨p, off, none⟩) T.length ct] 28] := S.drop 2
        replace S : Sep w ((w4.setCell ⟨(w.heap.size + 1), 0, none⟩ (.slice a1 F.length c1)).setCell ⟨(w.heap.size + 1), 1, none⟩ (.slice a2 T.length c2)) [plTab (.slice a2 T.length c2) vs T, plRow 3 1 encInt1 (.slice a1 F.length c1) F] := S.drop 2
        first | exact ⟨a1, c1, F, a2, c2, vs, T, false, rfl, HR.out, S⟩ | exact ⟨a1, c1, F, a2, c2, vs, T, .inl ⟨rfl, HR.out, S⟩⟩
      have ein2 := inB_iff.2 hp
      obtain ⟨j, rfl⟩ : ∃ j : Nat, page = j := ⟨page.toNat, by omega⟩
      by_cases hu : 0 ≤ num ∧ num ≤ 10000
      rotate_left
      · have ein3 := inB_false hu
        have HR := hbad (fun h => hu h.2)
        clear hbad hu hp
        obtain ⟨bmc0, bmf0⟩ : (w3.alloc (.cells #[.slice a1 F.length c1, .slice a2 T.length c2] 28)).cell? ⟨w.heap.size, 0, none⟩ = some (.slice af F.length cf) ∧ (w3.alloc (.cells #[.slice a1 F.length c1, .slice a2 T.length c2] 28)).frozen? ⟨w.heap.size, 0, none⟩ = false := bx (S.box 4 rfl) 0 rfl
        obtain ⟨bmc1, bmf1⟩ : (w3.alloc (.cells #[.slice a1 F.length c1, .slice a2 T.length c2] 28)).cell? ⟨w.heap.size, 1, none⟩ = some (.slice (some ⟨p, off, none⟩) T.length ct) ∧ (w3.alloc (.cells #[.slice a1 F.length c1, .slice a2 T.length c2] 28)).frozen? ⟨w.heap.size, 1, none⟩ = false := bx (S.box 4 rfl) 1 rfl
        go_upto_region 5 with (go_at_call 41; refine ((l1In_any _ _ _ _).mono (fun e w2 h => by first | (rw [ein] at h; exact h) | (rw [ein2] at h; exact h) | (rw [ein3] at h; exact h))).mono ?_; rintro e w' ⟨rfl, rfl⟩)
        clear bmc0 bmf0 bmc1 bmf1
        generalize (w3.alloc (.cells #[.slice a1 F.length c1, .slice a2 T.length c2] 28)) = w4 at *
        rw [← hB2] at *
        clear hB2
        obtain ⟨obc0, obf0⟩ : w4.cell? ⟨B2, 0, none⟩ = some (.slice a1 F.length c1) ∧ w4.frozen? ⟨B2, 0, none⟩ = false := bx (S.box 0 rfl) 0 rfl
        obtain ⟨obc1, obf1⟩ : w4.cell? ⟨B2, 1, none⟩ = some (.slice a2 T.length c2) ∧ w4.frozen? ⟨B2, 1, none⟩ = false := bx (S.box 0 rfl) 1 rfl
        obtain ⟨rbc0, rbf0⟩ : w4.cell? ⟨(w.heap.size + 1), 0, none⟩ = some (.slice none 0 0) ∧ w4.frozen? ⟨(w.heap.size + 1), 0, none⟩ = false := bx (S.box 3 rfl) 0 rfl
        obtain ⟨rbc1, rbf1⟩ : w4.cell? ⟨(w.heap.size + 1), 1, none⟩ = some (.slice none 0 0) ∧ w4.frozen? ⟨(w.heap.size + 1), 1, none⟩ = false := bx (S.box 3 rfl) 1 rfl
        obtain ⟨bmc0, bmf0⟩ : w4.cell? ⟨w.heap.size, 0, none⟩ = some (.slice af F.length cf) ∧ w4.frozen? ⟨w.heap.size, 0, none⟩ = false := bx (S.box 4 rfl) 0 rfl
        obtain ⟨bmc1, bmf1⟩ : w4.cell? ⟨w.heap.size, 1, none⟩ = some (.slice (some ⟨p, off, none⟩) T.length ct) ∧ w4.frozen? ⟨w.heap.size, 1, none⟩ = false := bx (S.box 4 rfl) 1 rfl
        go_wp2
        try simp only [Exit.inBlock, Exit.then]
        refine bodyPost_ret (v := .tuple #[.agg #[.slice a1 F.length c1, .slice a2 T.length c2], .bool false]) (by simp [results, Try.results38, go_sem, rbc0, rbc1, obc0, obc1]) rfl ?_
        replace S : Sep w (w4.setCell ⟨(w.heap.size + 1), 0, none⟩ (.slice a1 F.length c1)) [plBox B2 #[.slice a1 F.length c1, .slice a2 T.length c2] 28, plTab (.slice a2 T.length c2) vs T, plRow 3 1 encInt1 (.slice a1 F.length c1) F, plBox (w.heap.size + 1) #[.slice a1 F.length c1, .slice none 0 0] 28, plBox w.heap.size #[.slice af F.length cf, .slice (some ⟨p, off, none⟩) T.length ct] 28] := S.set 3 rfl 0 _
        replace S : Sep w ((w4.setCell ⟨(w.heap.size + 1), 0, none⟩ (.slice a1 F.length c1)).setCell ⟨(w.heap.size + 1), 1, none⟩ (.slice a2 T.length c2)) [plBox B2 #[.slice a1 F.length c1, .slice a2 T.length c2] 28, plTab (.slice a2 T.length c2) vs T, plRow 3 1 encInt1 (.slice a1 F.length c1) F, plBox (w.heap.size + 1) #[.slice a1 F.length c1, .slice a2 T.length c2] 28, plBox w.heap.size #[.slice af F.length cf, .slice (some ⟨p, off, none⟩) T.length ct] 28] := S.set 3 rfl 1 _
        replace S : Sep w ((w4.setCell ⟨(w.heap.size + 1), 0, none⟩ (.slice a1 F.length c1)).setCell ⟨(w.heap.size + 1), 1, none⟩ (.slice a2 T.length c2)) [plTab (.slice a2 T.length c2) vs T, plRow 3 1 encInt1 (.slice a1 F.length c1) F, plBox (w.heap.size + 1) #[.slice a1 F.length c1, .slice a2 T.length c2] 28, plBox w.heap.size #[.slice af F.length cf, .slice (some ⟨p, off, none⟩) T.length ct] 28] := S.drop 0
        replace S : Sep w ((w4.setCell ⟨(w.heap.size + 1), 0, none⟩ (.slice a1 F.length c1)).setCell ⟨(w.heap.size + 1), 1, none⟩ (.slice a2 T.length c2)) [plTab (.slice a2 T.length c2) vs T, plRow 3 1 encInt1 (.slice a1 F.length c1) F, plBox w.heap.size #[.slice af F.length cf, .slice (some ⟨p, off, none⟩) T.length ct] 28] := S.drop 2
        replace S : Sep w ((w4.setCell ⟨(w.heap.size + 1), 0, none⟩ (.slice a1 F.length c1)).setCell ⟨(w.heap.size + 1), 1, none⟩ (.slice a2 T.length c2)) [plTab (.slice a2 T.length c2) vs T, plRow 3 1 encInt1 (.slice a1 F.length c1) F] := S.drop 2
        first | exact ⟨a1, c1, F, a2, c2, vs, T, false, rfl, HR.out, S⟩ | exact ⟨a1, c1, F, a2, c2, vs, T, .inl ⟨rfl, HR.out, S⟩⟩
      have ein3 := inB_iff.2 hu
      have hjt : j < t.length := by omega
      obtain ⟨f0, hf⟩ : ∃ f0, t[j]? = some f0 := ⟨_, List.getElem?_eq_getElem hjt⟩
      obtain ⟨f, rfl, hfl⟩ := frame_of HMO.out Ht.out hf
      have Hf := Lib.hid hf
      obtain ⟨Q, hQ⟩ : ∃ Q, Q = T.flatten := ⟨_, rfl⟩
      have HW0 : Hid (∀ F2 T2 ok, ((Q.count (f : Int) ≤ 1 ∧ F2 = F.set f num ∧ T2 = T ∧ ok = true) ∨ (1 < Q.count (f : Int) ∧ ∃ g, Free F.length Q g ∧ ((g < F.length ∧ F2 = F.set g num ∧ T2 = T.set k (t.set j g) ∧ ok = true) ∨ (g = F.length ∧ F.length = 12 ∧ F2 = F ∧ T2 = T ∧ ok = false) ∨ (g = F.length ∧ F.length ≠ 12 ∧ F2 = F ++ [num] ∧ T2 = T.set k (t.set j g) ∧ ok = true)))) → WriteR F T k j num F2 T2 ok) := Lib.hid (fun F2 T2 ok h => .inr (.inr ⟨HMO.out, hu, k, j, t, f, rfl, rfl, Ht.out, hf, by rw [hQ] at h; exact h⟩))
      have hQl : Q.length ≤ 20 := by rw [hQ, flat_len]; exact HS.out
      have HQ := Lib.hid hQ
      have i1 : (j : Int) < (t.length : Int) := by omega
      clear hbad hu hQ hp hf
      obtain ⟨bmc0, bmf0⟩ : (w3.alloc (.cells #[.slice a1 F.length c1, .slice a2 T.length c2] 28)).cell? ⟨w.heap.size, 0, none⟩ = some (.slice af F.length cf) ∧ (w3.alloc (.cells #[.slice a1 F.length c1, .slice a2 T.length c2] 28)).frozen? ⟨w.heap.size, 0, none⟩ = false := bx (S.box 4 rfl) 0 rfl
      obtain ⟨bmc1, bmf1⟩ : (w3.alloc (.cells #[.slice a1 F.length c1, .slice a2 T.length c2] 28)).cell? ⟨w.heap.size, 1, none⟩ = some (.slice (some ⟨p, off, none⟩) T.length ct) ∧ (w3.alloc (.cells #[.slice a1 F.length c1, .slice a2 T.length c2] 28)).frozen? ⟨w.heap.size, 1, none⟩ = false := bx (S.box 4 rfl) 1 rfl
      go_wp2_with (go_at_call 41; refine ((l1In_any _ _ _ _).mono (fun e w2 h => by first | (rw [ein] at h; exact h) | (rw [ein2] at h; exact h) | (rw [ein3] at h; exact h))).mono ?_; rintro e w' ⟨rfl, rfl⟩)
      clear bmc0 bmf0 bmc1 bmf1
      generalize (w3.alloc (.cells #[.slice a1 F.length c1, .slice a2 T.length c2] 28)) = w4 at *
      rw [← hB2] at *
      clear hB2
      clear ein ein2 ein3 c0 hwr hwr2
      refine (specFrameUses af cf F _ ct T w4 hF hT (hrf.ext S.ext) (hrt.ext S.ext)).mono ?_
      rintro e w6 ⟨u0, L, rfl, hUR, U⟩
      have hL := hUR.2 HMO.out
      rw [← HQ.out] at hL
      subst hL
      obtain ⟨aU, cU, hvU, hkU, _, hsh⟩ := view_owns encInt1_len (U.row 0 rfl)
      rw [usesP_len] at hvU hkU
      subst hvU
      rcases hsh with ⟨_, h0, _⟩ | ⟨g, rfl, _⟩
      · have h1 := congrArg List.length h0
        rw [usesP_len] at h1
        rw [h1] at hfl; simp at hfl
      clear hUR
      replace S : Sep w w6 [plRow 3 1 encInt1 (.slice (some ⟨g, 0, none⟩) F.length cU) (usesP F.length Q), plBox B2 #[.slice a1 F.length c1, .slice a2 T.length c2] 28, plTab (.slice a2 T.length c2) vs T, plRow 3 1 encInt1 (.slice a1 F.length c1) F, plBox (w.heap.size + 1) #[.slice none 0 0, .slice none 0 0] 28, plBox w.heap.size #[.slice af F.length cf, .slice (some ⟨p, off, none⟩) T.length ct] 28] := S.call U
      clear U
      have hrow := S.row 0 rfl
      rw [usesP_len] at hrow
      have hfu : f < (usesP F.length Q).length := by rw [usesP_len]; exact hfl
      have e0 : (usesP F.length Q)[f]'hfu = ((Q.count (f : Int) : Nat) : Int) := by
        have := usesP_at Q hfl
        rw [List.getElem?_eq_getElem hfu] at this
        exact Option.some.inj this
      have g0 : w6.cell? ⟨g, f, none⟩ = some (.int .i64 ((Q.count (f : Int) : Nat) : Int)) := by
        have := owns_at encInt1_len hrow f hfu 0 (.int .i64 ((Q.count (f : Int) : Nat) : Int)) (by rw [e0]; rfl)
        simpa using this
      have i2 : (f : Int) < (F.length : Int) := by omega
      clear hrow e0 hfu
      have c0 := (Hrtk.out w6 S.ext).1
      obtain ⟨f', q, o2, hf', hqe, d0⟩ := atInt (Hrtk.out w6 S.ext).2 hjt
      subst hqe
      obtain rfl : (f : Int) = f' := by have := Hf.out; rw [hf'] at this; exact (Option.some.inj this).symm
      clear hf'
      by_cases hc : 1 < Q.count (f : Int)
      · have hci : (1 : Int) < ((Q.count (f : Int) : Nat) : Int) := by omega
        have HC := Lib.hid hc
        clear hc
        obtain ⟨bmc0, bmf0⟩ : w6.cell? ⟨w.heap.size, 0, none⟩ = some (.slice af F.length cf) ∧ w6.frozen? ⟨w.heap.size, 0, none⟩ = false := bx (S.box 5 rfl) 0 rfl
        obtain ⟨bmc1, bmf1⟩ : w6.cell? ⟨w.heap.size, 1, none⟩ = some (.slice (some ⟨p, off, none⟩) T.length ct) ∧ w6.frozen? ⟨w.heap.size, 1, none⟩ = false := bx (S.box 5 rfl) 1 rfl
        go_wp2
        clear bmc0 bmf0 bmc1 bmf1
        clear g0 hci c0 d0
        go_loopw [12] (fun i wr => ∃ m : Nat, m ≤ F.length ∧ i = .int .i64 m ∧ (∀ i : Nat, i < m → Q.count (i : Int) ≠ 0) ∧ Sep w wr [plRow 3 1 encInt1 (.slice (some ⟨g, 0, none⟩) F.length cU) (usesP F.length Q), plBox B2 #[.slice a1 F.length c1, .slice a2 T.length c2] 28, plTab (.slice a2 T.length c2) vs T, plRow 3 1 encInt1 (.slice a1 F.length c1) F, plBox (w.heap.size + 1) #[.slice none 0 0, .slice none 0 0] 28, plBox w.heap.size #[.slice af F.length cf, .slice (some ⟨p, off, none⟩) T.length ct] 28]) (fun i _ => F.length - (intOf i).toNat)
        case atStart => exact ⟨0, Nat.zero_le _, rfl, fun _ h => absurd h (Nat.not_lt_zero _), S⟩
        case round =>
          clear S
          obtain ⟨m, hm, rfl, hall, S⟩ := hrel
          have Hall := Lib.hid hall
          clear hall
          by_cases hlm : m < F.length
          · have hrow := S.row 0 rfl
            rw [usesP_len] at hrow
            have hfu : m < (usesP F.length Q).length := by rw [usesP_len]; exact hlm
            have e0 : (usesP F.length Q)[m]'hfu = ((Q.count (m : Int) : Nat) : Int) := by
              have := usesP_at Q hlm
              rw [List.getElem?_eq_getElem hfu] at this
              exact Option.some.inj this
            have g0 : wr.cell? ⟨g, m, none⟩ = some (.int .i64 ((Q.count (m : Int) : Nat) : Int)) := by
              have := owns_at encInt1_len hrow m hfu 0 (.int .i64 ((Q.count (m : Int) : Nat) : Int)) (by rw [e0]; rfl)
              simpa using this
            have i3 : (m : Int) < (F.length : Int) := by omega
            clear hrow e0 hfu
            by_cases hz : Q.count (m : Int) = 0
            · have HF : Hid (Free F.length Q m) := Lib.hid ⟨hm, Hall.out, fun _ => hz⟩
              rw [hz] at g0
              have HW : Hid (WriteR F T k j num (F.set m num) (T.set k (t.set j (m : Int))) true) := Lib.hid (HW0.out _ _ _ (.inr ⟨HC.out, _, HF.out, .inl ⟨hlm, rfl, rfl, rfl⟩⟩))
              obtain ⟨old, hold⟩ : ∃ old, F[m]? = some old := ⟨_, List.getElem?_eq_getElem hlm⟩
              have HGI := Lib.hid hold
              have hn12 : ((m : Int) == 12) = false := by simp; omega
              have hnl : ((m : Int) == (F.length : Int)) = false := by simp; omega
              clear hz HF HW0 hold
              go_upto_region 16 with fail
              clear g0
              obtain ⟨gT, cT, gI, cI, hu2, x0, x1, x2, _, S14⟩ := S.tabCell 2 rfl Ht.out Hf.out (m : Int)
              simp only [Value.slice.injEq, true_and] at hu2
              obtain ⟨rfl, rfl⟩ := hu2
              obtain ⟨obc0, obf0⟩ : wr.cell? ⟨B2, 0, none⟩ = some (.slice a1 F.length c1) ∧ wr.frozen? ⟨B2, 0, none⟩ = false := bx (S.box 1 rfl) 0 rfl
              obtain ⟨obc1, obf1⟩ : wr.cell? ⟨B2, 1, none⟩ = some (.slice (some ⟨gT, 0, none⟩) T.length c2) ∧ wr.frozen? ⟨B2, 1, none⟩ = false := bx (S.box 1 rfl) 1 rfl
              go_upto_region 17 with fail
              clear obc0 obf0 obc1 obf1
              clear x0 x1 x2
              have SM := S14
              replace S : Sep w (wr.setCell ⟨gI, j, none⟩ (.int .i64 (m : Int))) [plRow 3 1 encInt1 (.slice (some ⟨g, 0, none⟩) F.length cU) (usesP F.length Q), plBox B2 #[.slice a1 F.length c1, .slice (some ⟨gT, 0, none⟩) T.length c2] 28, plTab (.slice (some ⟨gT, 0, none⟩) T.length c2) vs (T.set k (t.set j (m : Int))), plRow 3 1 encInt1 (.slice a1 F.length c1) F, plBox (w.heap.size + 1) #[.slice none 0 0, .slice none 0 0] 28, plBox w.heap.size #[.slice af F.length cf, .slice (some ⟨p, off, none⟩) T.length ct] 28] := SM
              clear SM
              clear S14
              generalize (wr.setCell ⟨gI, j, none⟩ (.int .i64 (m : Int))) = w9 at *
              obtain ⟨g1, hg1, e1, z1, S2⟩ := S.rowCell 3 rfl HGI.out num
              subst hg1
              have n1 : B2 ≠ g1 := fun e => S.ne (i := 3) (j := 1) rfl rfl (by decide) (b := g1) rfl e.symm
              have n2 : w.heap.size + 1 ≠ g1 := fun e => S.ne (i := 3) (j := 4) rfl rfl (by decide) (b := g1) rfl e.symm
              have n3 : g1 ≠ B2 := fun e => n1 e.symm
              have n4 : g1 ≠ w.heap.size + 1 := fun e => n2 e.symm
              have n5 : B2 ≠ w.heap.size + 1 := S.bne 1 4 rfl rfl (by decide)
              have n6 : w.heap.size + 1 ≠ B2 := fun e => n5 e.symm
              obtain ⟨obc0, obf0⟩ : w9.cell? ⟨B2, 0, none⟩ = some (.slice (some ⟨g1, 0, none⟩) F.length c1) ∧ w9.frozen? ⟨B2, 0, none⟩ = false := bx (S.box 1 rfl) 0 rfl
              obtain ⟨obc1, obf1⟩ : w9.cell? ⟨B2, 1, none⟩ = some (.slice (some ⟨gT, 0, none⟩) T.length c2) ∧ w9.frozen? ⟨B2, 1, none⟩ = false := bx (S.box 1 rfl) 1 rfl
              obtain ⟨rbc0, rbf0⟩ : w9.cell? ⟨(w.heap.size + 1), 0, none⟩ = some (.slice none 0 0) ∧ w9.frozen? ⟨(w.heap.size + 1), 0, none⟩ = false := bx (S.box 4 rfl) 0 rfl
              obtain ⟨rbc1, rbf1⟩ : w9.cell? ⟨(w.heap.size + 1), 1, none⟩ = some (.slice none 0 0) ∧ w9.frozen? ⟨(w.heap.size + 1), 1, none⟩ = false := bx (S.box 4 rfl) 1 rfl
              go_wp2
              try simp only [Exit.inBlock, Exit.then]
              refine bodyPost_ret (v := .tuple #[.agg #[.slice (some ⟨g1, 0, none⟩) F.length c1, .slice (some ⟨gT, 0, none⟩) T.length c2], .bool true]) (by simp [results, Try.results38, go_sem, rbc0, rbc1, obc0, obc1]) rfl ?_
              have SM := S2
              clear obc0 obf0 obc1 obf1 rbc0 rbf0 rbc1 rbf1
              replace S : Sep w (w9.setCell ⟨g1, m, none⟩ (.int .i64 num)) [plRow 3 1 encInt1 (.slice (some ⟨g, 0, none⟩) F.length cU) (usesP F.length Q), plBox B2 #[.slice (some ⟨g1, 0, none⟩) F.length c1, .slice (some ⟨gT, 0, none⟩) T.length c2] 28, plTab (.slice (some ⟨gT, 0, none⟩) T.length c2) vs (T.set k (t.set j (m : Int))), plRow 3 1 encInt1 (.slice (some ⟨g1, 0, none⟩) F.length c1) (F.set m num), plBox (w.heap.size + 1) #[.slice none 0 0, .slice none 0 0] 28, plBox w.heap.size #[.slice af F.length cf, .slice (some ⟨p, off, none⟩) T.length ct] 28] := SM
              clear SM
              replace S : Sep w ((w9.setCell ⟨g1, m, none⟩ (.int .i64 num)).setCell ⟨(w.heap.size + 1), 0, none⟩ (.slice (some ⟨g1, 0, none⟩) F.length c1)) [plRow 3 1 encInt1 (.slice (some ⟨g, 0, none⟩) F.length cU) (usesP F.length Q), plBox B2 #[.slice (some ⟨g1, 0, none⟩) F.length c1, .slice (some ⟨gT, 0, none⟩) T.length c2] 28, plTab (.slice (some ⟨gT, 0, none⟩) T.length c2) vs (T.set k (t.set j (m : Int))), plRow 3 1 encInt1 (.slice (some ⟨g1, 0, none⟩) F.length c1) (F.set m num), plBox (w.heap.size + 1) #[.slice (some ⟨g1, 0, none⟩) F.length c1, .slice none 0 0] 28, plBox w.heap.size #[.slice af F.length cf, .slice (some ⟨p, off, none⟩) T.length ct] 28] := S.set 4 rfl 0 _
              replace S : Sep w (((w9.setCell ⟨g1, m, none⟩ (.int .i64 num)).setCell ⟨(w.heap.size + 1), 0, none⟩ (.slice (some ⟨g1, 0, none⟩) F.length c1)).setCell ⟨(w.heap.size + 1), 1, none⟩ (.slice (some ⟨gT, 0, none⟩) T.length c2)) [plRow 3 1 encInt1 (.slice (some ⟨g, 0, none⟩) F.length cU) (usesP F.length Q), plBox B2 #[.slice (some ⟨g1, 0, none⟩) F.length c1, .slice (some ⟨gT, 0, none⟩) T.length c2] 28, plTab (.slice (some ⟨gT, 0, none⟩) T.length c2) vs (T.set k (t.set j (m : Int))), plRow 3 1 encInt1 (.slice (some ⟨g1, 0, none⟩) F.length c1) (F.set m num), plBox (w.heap.size + 1) #[.slice (some ⟨g1, 0, none⟩) F.length c1, .slice (some ⟨gT, 0, none⟩) T.length c2] 28, plBox w.heap.size #[.slice af F.length cf, .slice (some ⟨p, off, none⟩) T.length ct] 28] := S.set 4 rfl 1 _
              replace S : Sep w (((w9.setCell ⟨g1, m, none⟩ (.int .i64 num)).setCell ⟨(w.heap.size + 1), 0, none⟩ (.slice (some ⟨g1, 0, none⟩) F.length c1)).setCell ⟨(w.heap.size + 1), 1, none⟩ (.slice (some ⟨gT, 0, none⟩) T.length c2)) [plRow 3 1 encInt1 (.slice (some ⟨g, 0, none⟩) F.length cU) (usesP F.length Q), plTab (.slice (some ⟨gT, 0, none⟩) T.length c2) vs (T.set k (t.set j (m : Int))), plRow 3 1 encInt1 (.slice (some ⟨g1, 0, none⟩) F.length c1) (F.set m num), plBox (w.heap.size + 1) #[.slice (some ⟨g1, 0, none⟩) F.length c1, .slice (some ⟨gT, 0, none⟩) T.length c2] 28, plBox w.heap.size #[.slice af F.length cf, .slice (some ⟨p, off, none⟩) T.length ct] 28] := S.drop 1
              replace S : Sep w (((w9.setCell ⟨g1, m, none⟩ (.int .i64 num)).setCell ⟨(w.heap.size + 1), 0, none⟩ (.slice (some ⟨g1, 0, none⟩) F.length c1)).setCell ⟨(w.heap.size + 1), 1, none⟩ (.slice (some ⟨gT, 0, none⟩) T.length c2)) [plRow 3 1 encInt1 (.slice (some ⟨g, 0, none⟩) F.length cU) (usesP F.length Q), plTab (.slice (some ⟨gT, 0, none⟩) T.length c2) vs (T.set k (t.set j (m : Int))), plRow 3 1 encInt1 (.slice (some ⟨g1, 0, none⟩) F.length c1) (F.set m num), plBox w.heap.size #[.slice af F.length cf, .slice (some ⟨p, off, none⟩) T.length ct] 28] := S.drop 3
              replace S : Sep w (((w9.setCell ⟨g1, m, none⟩ (.int .i64 num)).setCell ⟨(w.heap.size + 1), 0, none⟩ (.slice (some ⟨g1, 0, none⟩) F.length c1)).setCell ⟨(w.heap.size + 1), 1, none⟩ (.slice (some ⟨gT, 0, none⟩) T.length c2)) [plRow 3 1 encInt1 (.slice (some ⟨g, 0, none⟩) F.length cU) (usesP F.length Q), plTab (.slice (some ⟨gT, 0, none⟩) T.length c2) vs (T.set k (t.set j (m : Int))), plRow 3 1 encInt1 (.slice (some ⟨g1, 0, none⟩) F.length c1) (F.set m num)] := S.drop 3
              replace S : Sep w (((w9.setCell ⟨g1, m, none⟩ (.int .i64 num)).setCell ⟨(w.heap.size + 1), 0, none⟩ (.slice (some ⟨g1, 0, none⟩) F.length c1)).setCell ⟨(w.heap.size + 1), 1, none⟩ (.slice (some ⟨gT, 0, none⟩) T.length c2)) [plTab (.slice (some ⟨gT, 0, none⟩) T.length c2) vs (T.set k (t.set j (m : Int))), plRow 3 1 encInt1 (.slice (some ⟨g1, 0, none⟩) F.length c1) (F.set m num)] := S.drop 0
              first | refine ⟨some ⟨g1, 0, none⟩, c1, F.set m num, (some ⟨gT, 0, none⟩), c2, vs, T.set k (t.set j (m : Int)), true, by simp, HW.out, ?_⟩ | refine ⟨some ⟨g1, 0, none⟩, c1, F.set m num, (some ⟨gT, 0, none⟩), c2, vs, T.set k (t.set j (m : Int)), .inr ⟨by simp, HW.out, ?_⟩⟩
              have e9 : (F.set m num).length = F.length := List.length_set ..
              have e8 : (T.set k (t.set j (m : Int))).length = T.length := by simp
              rw [e9, e8]
              exact S
            · have HN : Hid (∀ i : Nat, i < m + 1 → Q.count (i : Int) ≠ 0) := Lib.hid (fun i hi => by
                rcases Nat.lt_succ_iff_lt_or_eq.1 hi with h' | rfl
                · exact Hall.out i h'
                · exact hz)
              have hz1 : (0 : Int) < ((Q.count (m : Int) : Nat) : Int) := by omega
              obtain ⟨c, hcd⟩ : ∃ c, c = ((Q.count (m : Int) : Nat) : Int) := ⟨_, rfl⟩
              rw [← hcd] at hz1 g0
              clear hz hcd
              go_wp2
              go_roundw
              case rel => exact ⟨m + 1, by omega, by go_num, HN.out, S⟩
              case measure => simp [intOf]; omega
          · obtain rfl : m = F.length := by omega
            have hni : ¬ (F.length : Int) < (F.length : Int) := by omega
            have HF : Hid (Free F.length Q F.length) := Lib.hid ⟨Nat.le_refl _, Hall.out, fun h => absurd h (Nat.lt_irrefl _)⟩
            by_cases h12 : F.length = 12
            · have t12 : ((F.length : Int) == 12) = true := by simp; omega
              have HR : Hid (WriteR F T k j num F T false) := Lib.hid (HW0.out _ _ _ (.inr ⟨HC.out, _, HF.out, .inr (.inl ⟨rfl, h12, rfl, rfl, rfl⟩)⟩))
              clear h12 HW0
              obtain ⟨obc0, obf0⟩ : wr.cell? ⟨B2, 0, none⟩ = some (.slice a1 F.length c1) ∧ wr.frozen? ⟨B2, 0, none⟩ = false := bx (S.box 1 rfl) 0 rfl
              obtain ⟨obc1, obf1⟩ : wr.cell? ⟨B2, 1, none⟩ = some (.slice a2 T.length c2) ∧ wr.frozen? ⟨B2, 1, none⟩ = false := bx (S.box 1 rfl) 1 rfl
              obtain ⟨rbc0, rbf0⟩ : wr.cell? ⟨(w.heap.size + 1), 0, none⟩ = some (.slice none 0 0) ∧ wr.frozen? ⟨(w.heap.size + 1), 0, none⟩ = false := bx (S.box 4 rfl) 0 rfl
              obtain ⟨rbc1, rbf1⟩ : wr.cell? ⟨(w.heap.size + 1), 1, none⟩ = some (.slice none 0 0) ∧ wr.frozen? ⟨(w.heap.size + 1), 1, none⟩ = false := bx (S.box 4 rfl) 1 rfl
              obtain ⟨bmc0, bmf0⟩ : wr.cell? ⟨w.heap.size, 0, none⟩ = some (.slice af F.length cf) ∧ wr.frozen? ⟨w.heap.size, 0, none⟩ = false := bx (S.box 5 rfl) 0 rfl
              obtain ⟨bmc1, bmf1⟩ : wr.cell? ⟨w.heap.size, 1, none⟩ = some (.slice (some ⟨p, off, none⟩) T.length ct) ∧ wr.frozen? ⟨w.heap.size, 1, none⟩ = false := bx (S.box 5 rfl) 1 rfl
              go_wp2
              try simp only [Exit.inBlock, Exit.then]
              refine bodyPost_ret (v := .tuple #[.agg #[.slice a1 F.length c1, .slice a2 T.length c2], .bool false]) (by simp [results, Try.results38, go_sem, rbc0, rbc1, obc0, obc1]) rfl ?_
              replace S : Sep w (wr.setCell ⟨(w.heap.size + 1), 0, none⟩ (.slice a1 F.length c1)) [plRow 3 1 encInt1 (.slice (some ⟨g, 0, none⟩) F.length cU) (usesP F.length Q), plBox B2 #[.slice a1 F.length c1, .slice a2 T.length c2] 28, plTab (.slice a2 T.length c2) vs T, plRow 3 1 encInt1 (.slice a1 F.length c1) F, plBox (w.heap.size + 1) #[.slice a1 F.length c1, .slice none 0 0] 28, plBox w.heap.size #[.slice af F.length cf, .slice (some ⟨p, off, none⟩) T.length ct] 28] := S.set 4 rfl 0 _
              replace S : Sep w ((wr.setCell ⟨(w.heap.size + 1), 0, none⟩ (.slice a1 F.length c1)).setCell ⟨(w.heap.size + 1), 1, none⟩ (.slice a2 T.length c2)) [plRow 3 1 encInt1 (.slice (some ⟨g, 0, none⟩) F.length cU) (usesP F.length Q), plBox B2 #[.slice a1 F.length c1, .slice a2 T.length c2] 28, plTab (.slice a2 T.length c2) vs T, plRow 3 1 encInt1 (.slice a1 F.length c1) F, plBox (w.heap.size + 1) #[.slice a1 F.length c1, .slice a2 T.length c2] 28, plBox w.heap.size #[.slice af F.length cf, .slice (some ⟨p, off, none⟩) T.length ct] 28] := S.set 4 rfl 1 _
              replace S : Sep w ((wr.setCell ⟨(w.heap.size + 1), 0, none⟩ (.slice a1 F.length c1)).setCell ⟨(w.heap.size + 1), 1, none⟩ (.slice a2 T.length c2)) [plRow 3 1 encInt1 (.slice (some ⟨g, 0, none⟩) F.length cU) (usesP F.length Q), plTab (.slice a2 T.length c2) vs T, plRow 3 1 encInt1 (.slice a1 F.length c1) F, plBox (w.heap.size + 1) #[.slice a1 F.length c1, .slice a2 T.length c2] 28, plBox w.heap.size #[.slice af F.length cf, .slice (some ⟨p, off, none⟩) T.length ct] 28] := S.drop 1
              replace S : Sep w ((wr.setCell ⟨(w.heap.size + 1), 0, none⟩ (.slice a1 F.length c1)).setCell ⟨(w.heap.size + 1), 1, none⟩ (.slice a2 T.length c2)) [plRow 3 1 encInt1 (.slice (some ⟨g, 0, none⟩) F.length cU) (usesP F.length Q), plTab (.slice a2 T.length c2) vs T, plRow 3 1 encInt1 (.slice a1 F.length c1) F, plBox w.heap.size #[.slice af F.length cf, .slice (some ⟨p, off, none⟩) T.length ct] 28] := S.drop 3
              replace S : Sep w ((wr.setCell ⟨(w.heap.size + 1), 0, none⟩ (.slice a1 F.length c1)).setCell ⟨(w.heap.size + 1), 1, none⟩ (.slice a2 T.length c2)) [plRow 3 1 encInt1 (.slice (some ⟨g, 0, none⟩) F.length cU) (usesP F.length Q), plTab (.slice a2 T.length c2) vs T, plRow 3 1 encInt1 (.slice a1 F.length c1) F] := S.drop 3
              replace S : Sep w ((wr.setCell ⟨(w.heap.size + 1), 0, none⟩ (.slice a1 F.length c1)).setCell ⟨(w.heap.size + 1), 1, none⟩ (.slice a2 T.length c2)) [plTab (.slice a2 T.length c2) vs T, plRow 3 1 encInt1 (.slice a1 F.length c1) F] := S.drop 0
              first | exact ⟨a1, c1, F, a2, c2, vs, T, false, rfl, HR.out, S⟩ | exact ⟨a1, c1, F, a2, c2, vs, T, .inl ⟨rfl, HR.out, S⟩⟩
            · have t12 : ((F.length : Int) == 12) = false := by simp; omega
              have tll : ((F.length : Int) == (F.length : Int)) = true := by simp
              have HW : Hid (WriteR F T k j num (F ++ [num]) (T.set k (t.set j (F.length : Int))) true) := Lib.hid (HW0.out _ _ _ (.inr ⟨HC.out, _, HF.out, .inr (.inr ⟨rfl, h12, rfl, rfl, rfl⟩)⟩))
              clear h12 HW0
              obtain ⟨obc0, obf0⟩ : wr.cell? ⟨B2, 0, none⟩ = some (.slice a1 F.length c1) ∧ wr.frozen? ⟨B2, 0, none⟩ = false := bx (S.box 1 rfl) 0 rfl
              obtain ⟨obc1, obf1⟩ : wr.cell? ⟨B2, 1, none⟩ = some (.slice a2 T.length c2) ∧ wr.frozen? ⟨B2, 1, none⟩ = false := bx (S.box 1 rfl) 1 rfl
              have SA := S.alloc #[.int .i64 0] 3
              have rd1 : Rd 1 encInt1 (World.alloc wr (.cells #[.int .i64 0] 3)) (some ⟨wr.heap.size, 0, none⟩) [(0 : Int)] := rd_lit_new [(0 : Int)] encInt1_len rfl
              obtain ⟨hob, hobf⟩ := bx ((SA.box (1 + 1) rfl)) 0 rfl
              go_wp2_with (at_builtin; refine Hid.out (?_ : Hid _))
              unfold Hid
              refine wpList_append_b rfl _ _ 22 rfl w.heap.size 3 _ 1 _ Try.underlying22 infoInt rfl (by decide) encInt1_len encInt1_one _ F.length F rfl (SA.row (3 + 1) rfl) rfl (some ⟨wr.heap.size, 0, none⟩) 1 1 [(0 : Int)] rfl rfl rd1 (by omega) (by omega) SA.chg.size ?_
              intro v7 w7 ho hgr hblk
              obtain ⟨G, hG⟩ : ∃ G, G = F ++ [(0 : Int)] := ⟨_, rfl⟩
              rw [← hG] at ho
              have HG := Lib.hid hG
              have hGl : G.length = F.length + 1 := by rw [hG]; simp
              have HGl := Lib.hid hGl
              clear hG hGl
              obtain ⟨a7, c7, hv7, hk7, _, _⟩ := view_owns encInt1_len ho
              subst hv7
              have SM := (SA.grow (3 + 1) rfl hgr ho hblk).drop 0
              clear obc0 obf0 obc1 obf1
              clear ho hgr hblk SA rd1 S hob hobf
              have S := SM
              clear SM
              have S7 := S
              replace S : Sep w w7 [plRow 3 1 encInt1 (.slice (some ⟨g, 0, none⟩) F.length cU) (usesP F.length Q), plBox B2 #[.slice a1 F.length c1, .slice a2 T.length c2] 28, plTab (.slice a2 T.length c2) vs T, plRow 3 1 encInt1 (.slice a7 G.length c7) G, plBox (w.heap.size + 1) #[.slice none 0 0, .slice none 0 0] 28, plBox w.heap.size #[.slice af F.length cf, .slice (some ⟨p, off, none⟩) T.length ct] 28] := S7
              clear S7
              obtain ⟨obc0, obf0⟩ : w7.cell? ⟨B2, 0, none⟩ = some (.slice a1 F.length c1) ∧ w7.frozen? ⟨B2, 0, none⟩ = false := bx (S.box 1 rfl) 0 rfl
              obtain ⟨obc1, obf1⟩ : w7.cell? ⟨B2, 1, none⟩ = some (.slice a2 T.length c2) ∧ w7.frozen? ⟨B2, 1, none⟩ = false := bx (S.box 1 rfl) 1 rfl
              go_upto_region 16 with fail
              clear obc0 obf0 obc1 obf1
              replace S : Sep w (w7.setCell ⟨B2, 0, none⟩ (.slice a7 G.length c7)) [plRow 3 1 encInt1 (.slice (some ⟨g, 0, none⟩) F.length cU) (usesP F.length Q), plBox B2 #[.slice a7 G.length c7, .slice a2 T.length c2] 28, plTab (.slice a2 T.length c2) vs T, plRow 3 1 encInt1 (.slice a7 G.length c7) G, plBox (w.heap.size + 1) #[.slice none 0 0, .slice none 0 0] 28, plBox w.heap.size #[.slice af F.length cf, .slice (some ⟨p, off, none⟩) T.length ct] 28] := S.set 1 rfl 0 _
              generalize (w7.setCell ⟨B2, 0, none⟩ (.slice a7 G.length c7)) = w8 at *
              obtain ⟨gT, cT, gI, cI, hu2, x0, x1, x2, _, S14⟩ := S.tabCell 2 rfl Ht.out Hf.out (F.length : Int)
              simp only [Value.slice.injEq, true_and] at hu2
              obtain ⟨rfl, rfl⟩ := hu2
              obtain ⟨obc0, obf0⟩ : w8.cell? ⟨B2, 0, none⟩ = some (.slice a7 G.length c7) ∧ w8.frozen? ⟨B2, 0, none⟩ = false := bx (S.box 1 rfl) 0 rfl
              obtain ⟨obc1, obf1⟩ : w8.cell? ⟨B2, 1, none⟩ = some (.slice (some ⟨gT, 0, none⟩) T.length c2) ∧ w8.frozen? ⟨B2, 1, none⟩ = false := bx (S.box 1 rfl) 1 rfl
              go_upto_region 17 with fail
              clear obc0 obf0 obc1 obf1
              clear x0 x1 x2
              have SM := S14
              replace S : Sep w (w8.setCell ⟨gI, j, none⟩ (.int .i64 (F.length : Int))) [plRow 3 1 encInt1 (.slice (some ⟨g, 0, none⟩) F.length cU) (usesP F.length Q), plBox B2 #[.slice a7 G.length c7, .slice (some ⟨gT, 0, none⟩) T.length c2] 28, plTab (.slice (some ⟨gT, 0, none⟩) T.length c2) vs (T.set k (t.set j (F.length : Int))), plRow 3 1 encInt1 (.slice a7 G.length c7) G, plBox (w.heap.size + 1) #[.slice none 0 0, .slice none 0 0] 28, plBox w.heap.size #[.slice af F.length cf, .slice (some ⟨p, off, none⟩) T.length ct] 28] := SM
              clear SM
              clear S14
              generalize (w8.setCell ⟨gI, j, none⟩ (.int .i64 (F.length : Int))) = w9 at *
              have HGI : Hid (G[F.length]? = some 0) := Lib.hid (by rw [HG.out, List.getElem?_append_right (Nat.le_refl _), Nat.sub_self]; rfl)
              replace HW : Hid (WriteR F T k j num (G.set F.length num) (T.set k (t.set j (F.length : Int))) true) := Lib.hid (by
                rw [HG.out, List.set_append_right _ _ (Nat.le_refl _), Nat.sub_self]; exact HW.out)
              have hG1 : (F.length : Int) < (G.length : Int) := by have := HGl.out; omega
              clear HG HGl
              obtain ⟨g1, hg1, e1, z1, S2⟩ := S.rowCell 3 rfl HGI.out num
              subst hg1
              have n1 : B2 ≠ g1 := fun e => S.ne (i := 3) (j := 1) rfl rfl (by decide) (b := g1) rfl e.symm
              have n2 : w.heap.size + 1 ≠ g1 := fun e => S.ne (i := 3) (j := 4) rfl rfl (by decide) (b := g1) rfl e.symm
              have n3 : g1 ≠ B2 := fun e => n1 e.symm
              have n4 : g1 ≠ w.heap.size + 1 := fun e => n2 e.symm
              have n5 : B2 ≠ w.heap.size + 1 := S.bne 1 4 rfl rfl (by decide)
              have n6 : w.heap.size + 1 ≠ B2 := fun e => n5 e.symm
              obtain ⟨obc0, obf0⟩ : w9.cell? ⟨B2, 0, none⟩ = some (.slice (some ⟨g1, 0, none⟩) G.length c7) ∧ w9.frozen? ⟨B2, 0, none⟩ = false := bx (S.box 1 rfl) 0 rfl
              obtain ⟨obc1, obf1⟩ : w9.cell? ⟨B2, 1, none⟩ = some (.slice (some ⟨gT, 0, none⟩) T.length c2) ∧ w9.frozen? ⟨B2, 1, none⟩ = false := bx (S.box 1 rfl) 1 rfl
              obtain ⟨rbc0, rbf0⟩ : w9.cell? ⟨(w.heap.size + 1), 0, none⟩ = some (.slice none 0 0) ∧ w9.frozen? ⟨(w.heap.size + 1), 0, none⟩ = false := bx (S.box 4 rfl) 0 rfl
              obtain ⟨rbc1, rbf1⟩ : w9.cell? ⟨(w.heap.size + 1), 1, none⟩ = some (.slice none 0 0) ∧ w9.frozen? ⟨(w.heap.size + 1), 1, none⟩ = false := bx (S.box 4 rfl) 1 rfl
              go_wp2
              try simp only [Exit.inBlock, Exit.then]
              refine bodyPost_ret (v := .tuple #[.agg #[.slice (some ⟨g1, 0, none⟩) G.length c7, .slice (some ⟨gT, 0, none⟩) T.length c2], .bool true]) (by simp [results, Try.results38, go_sem, rbc0, rbc1, obc0, obc1]) rfl ?_
              have SM := S2
              clear obc0 obf0 obc1 obf1 rbc0 rbf0 rbc1 rbf1
              replace S : Sep w (w9.setCell ⟨g1, F.length, none⟩ (.int .i64 num)) [plRow 3 1 encInt1 (.slice (some ⟨g, 0, none⟩) F.length cU) (usesP F.length Q), plBox B2 #[.slice (some ⟨g1, 0, none⟩) G.length c7, .slice (some ⟨gT, 0, none⟩) T.length c2] 28, plTab (.slice (some ⟨gT, 0, none⟩) T.length c2) vs (T.set k (t.set j (F.length : Int))), plRow 3 1 encInt1 (.slice (some ⟨g1, 0, none⟩) G.length c7) (G.set F.length num), plBox (w.heap.size + 1) #[.slice none 0 0, .slice none 0 0] 28, plBox w.heap.size #[.slice af F.length cf, .slice (some ⟨p, off, none⟩) T.length ct] 28] := SM
              clear SM
              replace S : Sep w ((w9.setCell ⟨g1, F.length, none⟩ (.int .i64 num)).setCell ⟨(w.heap.size + 1), 0, none⟩ (.slice (some ⟨g1, 0, none⟩) G.length c7)) [plRow 3 1 encInt1 (.slice (some ⟨g, 0, none⟩) F.length cU) (usesP F.length Q), plBox B2 #[.slice (some ⟨g1, 0, none⟩) G.length c7, .slice (some ⟨gT, 0, none⟩) T.length c2] 28, plTab (.slice (some ⟨gT, 0, none⟩) T.length c2) vs (T.set k (t.set j (F.length : Int))), plRow 3 1 encInt1 (.slice (some ⟨g1, 0, none⟩) G.length c7) (G.set F.length num), plBox (w.heap.size + 1) #[.slice (some ⟨g1, 0, none⟩) G.length c7, .slice none 0 0] 28, plBox w.heap.size #[.slice af F.length cf, .slice (some ⟨p, off, none⟩) T.length ct] 28] := S.set 4 rfl 0 _
              replace S : Sep w (((w9.setCell ⟨g1, F.length, none⟩ (.int .i64 num)).setCell ⟨(w.heap.size + 1), 0, none⟩ (.slice (some ⟨g1, 0, none⟩) G.length c7)).setCell ⟨(w.heap.size + 1), 1, none⟩ (.slice (some ⟨gT, 0, none⟩) T.length c2)) [plRow 3 1 encInt1 (.slice (some ⟨g, 0, none⟩) F.length cU) (usesP F.length Q), plBox B2 #[.slice (some ⟨g1, 0, none⟩) G.length c7, .slice (some ⟨gT, 0, none⟩) T.length c2] 28, plTab (.slice (some ⟨gT, 0, none⟩) T.length c2) vs (T.set k (t.set j (F.length : Int))), plRow 3 1 encInt1 (.slice (some ⟨g1, 0, none⟩) G.length c7) (G.set F.length num), plBox (w.heap.size + 1) #[.slice (some ⟨g1, 0, none⟩) G.length c7, .slice (some ⟨gT, 0, none⟩) T.length c2] 28, plBox w.heap.size #[.slice af F.length cf, .slice (some ⟨p, off, none⟩) T.length ct] 28] := S.set 4 rfl 1 _
              replace S : Sep w (((w9.setCell ⟨g1, F.length, none⟩ (.int .i64 num)).setCell ⟨(w.heap.size + 1), 0, none⟩ (.slice (some ⟨g1, 0, none⟩) G.length c7)).setCell ⟨(w.heap.size + 1), 1, none⟩ (.slice (some ⟨gT, 0, none⟩) T.length c2)) [plRow 3 1 encInt1 (.slice (some ⟨g, 0, none⟩) F.length cU) (usesP F.length Q), plTab (.slice (some ⟨gT, 0, none⟩) T.length c2) vs (T.set k (t.set j (F.length : Int))), plRow 3 1 encInt1 (.slice (some ⟨g1, 0, none⟩) G.length c7) (G.set F.length num), plBox (w.heap.size + 1) #[.slice (some ⟨g1, 0, none⟩) G.length c7, .slice (some ⟨gT, 0, none⟩) T.length c2] 28, plBox w.heap.size #[.slice af F.length cf, .slice (some ⟨p, off, none⟩) T.length ct] 28] := S.drop 1
              replace S : Sep w (((w9.setCell ⟨g1, F.length, none⟩ (.int .i64 num)).setCell ⟨(w.heap.size + 1), 0, none⟩ (.slice (some ⟨g1, 0, none⟩) G.length c7)).setCell ⟨(w.heap.size + 1), 1, none⟩ (.slice (some ⟨gT, 0, none⟩) T.length c2)) [plRow 3 1 encInt1 (.slice (some ⟨g, 0, none⟩) F.length cU) (usesP F.length Q), plTab (.slice (some ⟨gT, 0, none⟩) T.length c2) vs (T.set k (t.set j (F.length : Int))), plRow 3 1 encInt1 (.slice (some ⟨g1, 0, none⟩) G.length c7) (G.set F.length num), plBox w.heap.size #[.slice af F.length cf, .slice (some ⟨p, off, none⟩) T.length ct] 28] := S.drop 3
              replace S : Sep w (((w9.setCell ⟨g1, F.length, none⟩ (.int .i64 num)).setCell ⟨(w.heap.size + 1), 0, none⟩ (.slice (some ⟨g1, 0, none⟩) G.length c7)).setCell ⟨(w.heap.size + 1), 1, none⟩ (.slice (some ⟨gT, 0, none⟩) T.length c2)) [plRow 3 1 encInt1 (.slice (some ⟨g, 0, none⟩) F.length cU) (usesP F.length Q), plTab (.slice (some ⟨gT, 0, none⟩) T.length c2) vs (T.set k (t.set j (F.length : Int))), plRow 3 1 encInt1 (.slice (some ⟨g1, 0, none⟩) G.length c7) (G.set F.length num)] := S.drop 3
              replace S : Sep w (((w9.setCell ⟨g1, F.length, none⟩ (.int .i64 num)).setCell ⟨(w.heap.size + 1), 0, none⟩ (.slice (some ⟨g1, 0, none⟩) G.length c7)).setCell ⟨(w.heap.size + 1), 1, none⟩ (.slice (some ⟨gT, 0, none⟩) T.length c2)) [plTab (.slice (some ⟨gT, 0, none⟩) T.length c2) vs (T.set k (t.set j (F.length : Int))), plRow 3 1 encInt1 (.slice (some ⟨g1, 0, none⟩) G.length c7) (G.set F.length num)] := S.drop 0
              first | refine ⟨some ⟨g1, 0, none⟩, c7, G.set F.length num, (some ⟨gT, 0, none⟩), c2, vs, T.set k (t.set j (F.length : Int)), true, by simp, HW.out, ?_⟩ | refine ⟨some ⟨g1, 0, none⟩, c7, G.set F.length num, (some ⟨gT, 0, none⟩), c2, vs, T.set k (t.set j (F.length : Int)), .inr ⟨by simp, HW.out, ?_⟩⟩
              have e9 : (G.set F.length num).length = G.length := List.length_set ..
              have e8 : (T.set k (t.set j (F.length : Int))).length = T.length := by simp
              rw [e9, e8]
              exact S
      · have hci : decide ((1 : Int) < ((Q.count (f : Int) : Nat) : Int)) = false := by simp; omega
        have HW : Hid (WriteR F T k j num (F.set f num) T true) := Lib.hid (HW0.out _ _ _ (.inl ⟨by omega, rfl, rfl, rfl⟩))
        obtain ⟨old, hold⟩ : ∃ old, F[f]? = some old := ⟨_, List.getElem?_eq_getElem hfl⟩
        have HGI := Lib.hid hold
        clear hc HW0 hold
        obtain ⟨bmc0, bmf0⟩ : w6.cell? ⟨w.heap.size, 0, none⟩ = some (.slice af F.length cf) ∧ w6.frozen? ⟨w.heap.size, 0, none⟩ = false := bx (S.box 5 rfl) 0 rfl
        obtain ⟨bmc1, bmf1⟩ : w6.cell? ⟨w.heap.size, 1, none⟩ = some (.slice (some ⟨p, off, none⟩) T.length ct) ∧ w6.frozen? ⟨w.heap.size, 1, none⟩ = false := bx (S.box 5 rfl) 1 rfl
        go_upto_region 17 with fail
        clear bmc0 bmf0 bmc1 bmf1
        clear g0 hci c0 d0
        obtain ⟨g1, hg1, e1, z1, S2⟩ := S.rowCell 3 rfl HGI.out num
        subst hg1
        have n1 : B2 ≠ g1 := fun e => S.ne (i := 3) (j := 1) rfl rfl (by decide) (b := g1) rfl e.symm
        have n2 : w.heap.size + 1 ≠ g1 := fun e => S.ne (i := 3) (j := 4) rfl rfl (by decide) (b := g1) rfl e.symm
        have n3 : g1 ≠ B2 := fun e => n1 e.symm
        have n4 : g1 ≠ w.heap.size + 1 := fun e => n2 e.symm
        have n5 : B2 ≠ w.heap.size + 1 := S.bne 1 4 rfl rfl (by decide)
        have n6 : w.heap.size + 1 ≠ B2 := fun e => n5 e.symm
        obtain ⟨obc0, obf0⟩ : w6.cell? ⟨B2, 0, none⟩ = some (.slice (some ⟨g1, 0, none⟩) F.length c1) ∧ w6.frozen? ⟨B2, 0, none⟩ = false := bx (S.box 1 rfl) 0 rfl
        obtain ⟨obc1, obf1⟩ : w6.cell? ⟨B2, 1, none⟩ = some (.slice a2 T.length c2) ∧ w6.frozen? ⟨B2, 1, none⟩ = false := bx (S.box 1 rfl) 1 rfl
        obtain ⟨rbc0, rbf0⟩ : w6.cell? ⟨(w.heap.size + 1), 0, none⟩ = some (.slice none 0 0) ∧ w6.frozen? ⟨(w.heap.size + 1), 0, none⟩ = false := bx (S.box 4 rfl) 0 rfl
        obtain ⟨rbc1, rbf1⟩ : w6.cell? ⟨(w.heap.size + 1), 1, none⟩ = some (.slice none 0 0) ∧ w6.frozen? ⟨(w.heap.size + 1), 1, none⟩ = false := bx (S.box 4 rfl) 1 rfl
        go_wp2
        try simp only [Exit.inBlock, Exit.then]
        refine bodyPost_ret (v := .tuple #[.agg #[.slice (some ⟨g1, 0, none⟩) F.length c1, .slice a2 T.length c2], .bool true]) (by simp [results, Try.results38, go_sem, rbc0, rbc1, obc0, obc1]) rfl ?_
        have SM := S2
        clear obc0 obf0 obc1 obf1 rbc0 rbf0 rbc1 rbf1
        replace S : Sep w (w6.setCell ⟨g1, f, none⟩ (.int .i64 num)) [plRow 3 1 encInt1 (.slice (some ⟨g, 0, none⟩) F.length cU) (usesP F.length Q), plBox B2 #[.slice (some ⟨g1, 0, none⟩) F.length c1, .slice a2 T.length c2] 28, plTab (.slice a2 T.length c2) vs T, plRow 3 1 encInt1 (.slice (some ⟨g1, 0, none⟩) F.length c1) (F.set f num), plBox (w.heap.size + 1) #[.slice none 0 0, .slice none 0 0] 28, plBox w.heap.size #[.slice af F.length cf, .slice (some ⟨p, off, none⟩) T.length ct] 28] := SM
        clear SM
        replace S : Sep w ((w6.setCell ⟨g1, f, none⟩ (.int .i64 num)).setCell ⟨(w.heap.size + 1), 0, none⟩ (.slice (some ⟨g1, 0, none⟩) F.length c1)) [plRow 3 1 encInt1 (.slice (some ⟨g, 0, none⟩) F.length cU) (usesP F.length Q), plBox B2 #[.slice (some ⟨g1, 0, none⟩) F.length c1, .slice a2 T.length c2] 28, plTab (.slice a2 T.length c2) vs T, plRow 3 1 encInt1 (.slice (some ⟨g1, 0, none⟩) F.length c1) (F.set f num), plBox (w.heap.size + 1) #[.slice (some ⟨g1, 0, none⟩) F.length c1, .slice none 0 0] 28, plBox w.heap.size #[.slice af F.length cf, .slice (some ⟨p, off, none⟩) T.length ct] 28] := S.set 4 rfl 0 _
        replace S : Sep w (((w6.setCell ⟨g1, f, none⟩ (.int .i64 num)).setCell ⟨(w.heap.size + 1), 0, none⟩ (.slice (some ⟨g1, 0, none⟩) F.length c1)).setCell ⟨(w.heap.size + 1), 1, none⟩ (.slice a2 T.length c2)) [plRow 3 1 encInt1 (.slice (some ⟨g, 0, none⟩) F.length cU) (usesP F.length Q), plBox B2 #[.slice (some ⟨g1, 0, none⟩) F.length c1, .slice a2 T.length c2] 28, plTab (.slice a2 T.length c2) vs T, plRow 3 1 encInt1 (.slice (some ⟨g1, 0, none⟩) F.length c1) (F.set f num), plBox (w.heap.size + 1) #[.slice (some ⟨g1, 0, none⟩) F.length c1, .slice a2 T.length c2] 28, plBox w.heap.size #[.slice af F.length cf, .slice (some ⟨p, off, none⟩) T.length ct] 28] := S.set 4 rfl 1 _
        replace S : Sep w (((w6.setCell ⟨g1, f, none⟩ (.int .i64 num)).setCell ⟨(w.heap.size + 1), 0, none⟩ (.slice (some ⟨g1, 0, none⟩) F.length c1)).setCell ⟨(w.heap.size + 1), 1, none⟩ (.slice a2 T.length c2)) [plRow 3 1 encInt1 (.slice (some ⟨g, 0, none⟩) F.length cU) (usesP F.length Q), plTab (.slice a2 T.length c2) vs T, plRow 3 1 encInt1 (.slice (some ⟨g1, 0, none⟩) F.length c1) (F.set f num), plBox (w.heap.size + 1) #[.slice (some ⟨g1, 0, none⟩) F.length c1, .slice a2 T.length c2] 28, plBox w.heap.size #[.slice af F.length cf, .slice (some ⟨p, off, none⟩) T.length ct] 28] := S.drop 1
        replace S : Sep w (((w6.setCell ⟨g1, f, none⟩ (.int .i64 num)).setCell ⟨(w.heap.size + 1), 0, none⟩ (.slice (some ⟨g1, 0, none⟩) F.length c1)).setCell ⟨(w.heap.size + 1), 1, none⟩ (.slice a2 T.length c2)) [plRow 3 1 encInt1 (.slice (some ⟨g, 0, none⟩) F.length cU) (usesP F.length Q), plTab (.slice a2 T.length c2) vs T, plRow 3 1 encInt1 (.slice (some ⟨g1, 0, none⟩) F.length c1) (F.set f num), plBox w.heap.size #[.slice af F.length cf, .slice (some ⟨p, off, none⟩) T.length ct] 28] := S.drop 3
        replace S : Sep w (((w6.setCell ⟨g1, f, none⟩ (.int .i64 num)).setCell ⟨(w.heap.size + 1), 0, none⟩ (.slice (some ⟨g1, 0, none⟩) F.length c1)).setCell ⟨(w.heap.size + 1), 1, none⟩ (.slice a2 T.length c2)) [plRow 3 1 encInt1 (.slice (some ⟨g, 0, none⟩) F.length cU) (usesP F.length Q), plTab (.slice a2 T.length c2) vs T, plRow 3 1 encInt1 (.slice (some ⟨g1, 0, none⟩) F.length c1) (F.set f num)] := S.drop 3
        replace S : Sep w (((w6.setCell ⟨g1, f, none⟩ (.int .i64 num)).setCell ⟨(w.heap.size + 1), 0, none⟩ (.slice (some ⟨g1, 0, none⟩) F.length c1)).setCell ⟨(w.heap.size + 1), 1, none⟩ (.slice a2 T.length c2)) [plTab (.slice a2 T.length c2) vs T, plRow 3 1 encInt1 (.slice (some ⟨g1, 0, none⟩) F.length c1) (F.set f num)] := S.drop 0
        first | refine ⟨some ⟨g1, 0, none⟩, c1, F.set f num, a2, c2, vs, T, true, by simp, HW.out, ?_⟩ | refine ⟨some ⟨g1, 0, none⟩, c1, F.set f num, a2, c2, vs, T, .inr ⟨by simp, HW.out, ?_⟩⟩
        have e9 : (F.set f num).length = F.length := List.length_set ..
        have e8 : (T).length = T.length := by simp
        rw [e9, e8]
        exact S
end Go.Proofs.Ytpnllhdgpfbaiaa
