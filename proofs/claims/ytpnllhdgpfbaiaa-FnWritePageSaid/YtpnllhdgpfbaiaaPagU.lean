/- FrameUses: contracts of the program's and of the reference's. Condition: rows shorter than 2^63. -/
import Derived.Test.YtpnllhdgpfbaiaaPagK
import Derived.Test.YtpnllhdgpfbaiaaPagR
namespace Go.Proofs.Ytpnllhdgpfbaiaa
open Go.RowKit

/-- How often each number below n is in the list. -/
def usesP (n : Nat) (P : List Int) : List Int := (List.range n).map (fun g : Nat => ((P.count (g : Int) : Nat) : Int))
theorem usesP_len (n : Nat) (P : List Int) : (usesP n P).length = n := by simp [usesP]
theorem usesP_at {n : Nat} (P : List Int) {g : Nat} (h : g < n) : (usesP n P)[g]? = some ((P.count (g : Int) : Nat) : Int) := by simp [usesP, h]
theorem usesP_zero (n : Nat) : usesP n [] = List.replicate n 0 := by
  apply List.ext_getElem?
  intro i
  by_cases h : i < n
  · rw [usesP_at _ h]; simp [h]
  · rw [List.getElem?_eq_none (by rw [usesP_len]; omega), List.getElem?_eq_none (by simp; omega)]
theorem count_snoc (P : List Int) (x y : Int) : (P ++ [x]).count y = P.count y + if x = y then 1 else 0 := by
  rw [List.count_append, List.count_singleton]
  by_cases h : x = y
  · simp [h]
  · simp [h]
theorem usesP_step {n : Nat} (P : List Int) {g : Nat} (h : g < n) : (usesP n P).set g (((P.count (g : Int) : Nat) : Int) + 1) = usesP n (P ++ [(g : Int)]) := by
  apply List.ext_getElem?
  intro i
  by_cases hi : i < n
  · rw [usesP_at _ hi, count_snoc]
    by_cases hgi : g = i
    · subst hgi
      rw [List.getElem?_set_self (by rw [usesP_len]; exact h), if_pos rfl]
      push_cast; rfl
    · rw [List.getElem?_set_ne hgi, usesP_at _ hi, if_neg (by omega)]; simp
  · rw [List.getElem?_eq_none (by rw [List.length_set, usesP_len]; omega), List.getElem?_eq_none (by rw [usesP_len]; omega)]
theorem usesP_snoc (k : Nat) (Q : List Int) : usesP k Q ++ [((Q.count (k : Int) : Nat) : Int)] = usesP (k + 1) Q := by simp [usesP, List.range_succ]
/-- The pages of the first j processes, and i of the next. -/
def pre (T : List (List Int)) (j i : Nat) : List Int := (T.take j).flatten ++ ((T[j]?).getD []).take i
theorem pre_zero (T : List (List Int)) : pre T 0 0 = [] := by simp [pre]
theorem pre_step {T : List (List Int)} {j i : Nat} {t : List Int} {x : Int} (ht : T[j]? = some t) (hx : t[i]? = some x) : pre T j (i + 1) = pre T j i ++ [x] := by
  simp only [pre, ht, Option.getD_some, List.append_assoc]
  rw [List.take_add_one, hx]
  rfl
theorem pre_next {T : List (List Int)} {j : Nat} {t : List Int} (ht : T[j]? = some t) : pre T j t.length = pre T (j + 1) 0 := by
  simp only [pre, ht, Option.getD_some, List.take_length, List.take_zero, List.append_nil]
  rw [List.take_add_one, ht]
  simp
theorem pre_end (T : List (List Int)) : pre T T.length 0 = T.flatten := by simp [pre]
theorem flat_len (T : List (List Int)) : T.flatten.length = sumL T := by
  induction T with
  | nil => rfl
  | cons t T ih => simp only [List.flatten_cons, List.length_append, sumL, ih]
theorem pre_len (T : List (List Int)) (j i : Nat) : (pre T j i).length ≤ sumL T := by
  rw [← flat_len]
  by_cases hj : j < T.length
  · have e : T.flatten = (T.take j).flatten ++ (T[j] ++ (T.drop (j + 1)).flatten) := by
      have e0 : T = T.take j ++ (T[j] :: T.drop (j + 1)) := by rw [← List.drop_eq_getElem_cons hj, List.take_append_drop]
      have e1 := congrArg List.flatten e0
      simp only [List.flatten_append, List.flatten_cons] at e1
      exact e1
    rw [e, pre, List.getElem?_eq_getElem hj, Option.getD_some]
    simp
    omega
  · rw [pre, List.getElem?_eq_none (by omega), List.take_of_length_le (by omega)]
    simp
theorem count_le (P : List Int) (x : Int) : P.count x ≤ P.length := List.count_le_length
def UsesR (F : List Int) (T : List (List Int)) (L : List Int) : Prop := (¬ MemOk F T → L = []) ∧ (MemOk F T → L = usesP F.length T.flatten)
theorem usesR_fun {F : List Int} {T : List (List Int)} {L L' : List Int} (h : UsesR F T L) (h' : UsesR F T L') : L = L' := by
  by_cases hv : MemOk F T
  · rw [h.2 hv, h'.2 hv]
  · rw [h.1 hv, h'.1 hv]
theorem usesR_len {F : List Int} {T : List (List Int)} {L : List Int} (h : UsesR F T L) : L.length ≤ 12 := by
  by_cases hv : MemOk F T
  · rw [h.2 hv, usesP_len]; exact hv.frames
  · rw [h.1 hv]; simp

set_option maxHeartbeats 4000000 in
theorem frameUses_any (af : Option Addr) (cf : Nat) (F : List Int) (at_ : Option Addr) (ct : Nat) (T : List (List Int)) (w : World) (hv : MemOk F T) (hrt : RdT w at_ T) :
    Calls Try.prog 54 #[.agg #[.slice af F.length cf, .slice at_ T.length ct]] w fun e w' => ∃ g, e = .returned (.slice (some ⟨g, 0, none⟩) F.length F.length) ∧ Sep w w' [plRow 3 1 encInt1 (.slice (some ⟨g, 0, none⟩) F.length F.length) (usesP F.length T.flatten)] := by
  obtain ⟨i0, hi, hz0, hz1, hz2⟩ := info_parts infoInt
  have HV := Lib.hid hv
  have hlF : F.length ≤ 12 := hv.frames
  have hlT : T.length ≤ 4 := hv.tables
  have HS := Lib.hid (small_sum (same_small hv))
  clear hv
  go_enter Try.func54, Try.ntmps54
  have S := Sep.start w
  replace S : Sep w (w.alloc (.cells #[.slice af F.length cf, .slice at_ T.length ct] 28)) [plBox w.heap.size #[.slice af F.length cf, .slice at_ T.length ct] 28] := S.alloc_at (by simp) _ _
  go_wp2_with (at_make; refine Hid.out (?_ : Hid _))
  unfold Hid
  generalize (w.alloc (.cells #[.slice af F.length cf, .slice at_ T.length ct] 28)) = w1 at *
  refine (wpList_make_full _ rfl _ _ 22 rfl w1.heap.size 3 i0 _ 1 Try.underlying22 hi hz0 hz1 _ _ _ _ F.length rfl rfl rfl rfl ?b1 ?b2 ?b3 ?_)
  case b1 => rw [hz2]; omega
  case b2 => unfold maxLen; omega
  case b3 => exact Nat.le_refl _
  intro w2 hown1 hgr1
  have hE := ext_of_grown hgr1
  have U : Sep w1 w2 [plRow 3 1 encInt1 (.slice (some ⟨w1.heap.size, 0, none⟩) F.length F.length) (usesP F.length (pre T 0 0))] := by
    rw [pre_zero, usesP_zero]
    refine Sep.one (p := plRow 3 1 encInt1 (.slice (some ⟨w1.heap.size, 0, none⟩) F.length F.length) (List.replicate F.length 0)) hE ?_ (fun b hb => ?_)
    · have h2 := ownsRow_base hown1 (Nat.zero_le _)
      show w2.ownsRow 0 _ 1 _ (List.replicate F.length (0 : Int)).length _
      rw [List.length_replicate, ← madeInt]
      rw [Nat.mul_one] at h2
      exact h2
    · have : w1.heap.size = b := Option.some.inj hb
      omega
  clear hgr1 hown1 hE
  replace S : Sep w w2 [plRow 3 1 encInt1 (.slice (some ⟨w1.heap.size, 0, none⟩) F.length F.length) (usesP F.length (pre T 0 0)), plBox w.heap.size #[.slice af F.length cf, .slice at_ T.length ct] 28] := S.call U
  clear U
  generalize w1.heap.size = g at *
  obtain ⟨bmc0, bmf0⟩ : w2.cell? ⟨w.heap.size, 0, none⟩ = some (.slice af F.length cf) ∧ w2.frozen? ⟨w.heap.size, 0, none⟩ = false := bx (S.box 1 rfl) 0 rfl
  obtain ⟨bmc1, bmf1⟩ : w2.cell? ⟨w.heap.size, 1, none⟩ = some (.slice at_ T.length ct) ∧ w2.frozen? ⟨w.heap.size, 1, none⟩ = false := bx (S.box 1 rfl) 1 rfl
  go_wp2
  clear bmc0 bmf0 bmc1 bmf1
  go_loopw [15] (fun i wr => ∃ j : Nat, j ≤ T.length ∧ i = .int .i64 j ∧ Sep w wr [plRow 3 1 encInt1 (.slice (some ⟨g, 0, none⟩) F.length F.length) (usesP F.length (pre T j 0)), plBox w.heap.size #[.slice af F.length cf, .slice at_ T.length ct] 28]) (fun i _ => T.length - (intOf i).toNat)
  case atStart => exact ⟨0, Nat.zero_le _, rfl, S⟩
  case round =>
    clear S
    obtain ⟨j, hj, rfl, S⟩ := hrel
    by_cases hlj : j < T.length
    · obtain ⟨t, p, off, ai, ci, ht, hpe, c0, hci, hrt1⟩ := atTab (hrt.ext S.ext) hlj
      subst hpe
      have Ht := Lib.hid ht
      have hrtk := tab_find (ct := ct) hrt S.ext ht c0
      have Hrtk := Lib.hid hrtk
      have htl := ok_len HV.out t (List.mem_of_getElem? ht)
      have hi0 : (j : Int) < (T.length : Int) := by omega
      clear ht hrtk hrt1
      go_wp2
      clear c0
      go_loopw [21] (fun i wr => ∃ m : Nat, m ≤ t.length ∧ i = .int .i64 m ∧ Sep w wr [plRow 3 1 encInt1 (.slice (some ⟨g, 0, none⟩) F.length F.length) (usesP F.length (pre T j m)), plBox w.heap.size #[.slice af F.length cf, .slice (some ⟨p, off, none⟩) T.length ct] 28]) (fun i _ => t.length - (intOf i).toNat)
      case atStart => exact ⟨0, Nat.zero_le _, rfl, S⟩
      case round =>
        clear S
        obtain ⟨m, hm, rfl, S⟩ := hrel
        by_cases hlm : m < t.length
        · obtain ⟨x, q, o2, hx, hqe, d0⟩ := atInt (Hrtk.out wr S.ext).2 hlm
          subst hqe
          obtain ⟨f, rfl, hf⟩ := frame_of HV.out Ht.out hx
          have Hpre := Lib.hid (pre_step Ht.out hx)
          have hcp : (pre T j m).count (f : Int) ≤ 20 := Nat.le_trans (count_le _ _) (Nat.le_trans (pre_len T j m) HS.out)
          obtain ⟨P, hP⟩ : ∃ P, P = pre T j m := ⟨_, rfl⟩
          rw [← hP] at S Hpre hcp
          clear hP
          have hrow := S.row 0 rfl
          rw [usesP_len] at hrow
          have hfl : f < (usesP F.length P).length := by rw [usesP_len]; exact hf
          have e0 : (usesP F.length P)[f]'hfl = ((P.count (f : Int) : Nat) : Int) := by
            have := usesP_at P hf
            rw [List.getElem?_eq_getElem hfl] at this
            exact Option.some.inj this
          have g0 : wr.cell? ⟨g, f, none⟩ = some (.int .i64 ((P.count (f : Int) : Nat) : Int)) := by
            have := owns_at encInt1_len hrow f hfl 0 (.int .i64 ((P.count (f : Int) : Nat) : Int)) (by rw [e0]; rfl)
            simpa using this
          have fz0 : wr.frozen? ⟨g, f, none⟩ = false := World.ownsRow.frozenAt hrow f
          have S2 := S.rowSet 0 encInt1_len rfl (by rw [usesP_len]) f 0 (.int .i64 (((P.count (f : Int) : Nat) : Int) + 1)) (((P.count (f : Int) : Nat) : Int) + 1) hfl (by omega) (by rw [e0]; rfl)
          rw [usesP_step P hf, Nat.mul_one, Nat.add_zero, ← Hpre.out] at S2
          have S3 : Sep w (wr.setCell ⟨g, f, none⟩ (.int .i64 (((P.count (f : Int) : Nat) : Int) + 1))) [plRow 3 1 encInt1 (.slice (some ⟨g, 0, none⟩) F.length F.length) (usesP F.length (pre T j (m + 1))), plBox w.heap.size #[.slice af F.length cf, .slice (some ⟨p, off, none⟩) T.length ct] 28] := S2
          have hcz : ((P.count (f : Int) : Nat) : Int) ≤ 20 := by omega
          have hcy : 0 ≤ ((P.count (f : Int) : Nat) : Int) := by omega
          generalize ((P.count (f : Int) : Nat) : Int) = c at *
          have hc1 : IntKind.i64.wrap (c + 1) = c + 1 := IntWalk.i64_in _ (by omega)
          have i1 : (m : Int) < (t.length : Int) := by omega
          have i2 : (f : Int) < (F.length : Int) := by omega
          clear hrow e0 S2 S hx hfl
          go_wp2
          go_roundw
          case rel => exact ⟨m + 1, by omega, by go_num, S3⟩
          case measure => simp [intOf]; omega
        · obtain rfl : m = t.length := by omega
          have hni : ¬ (t.length : Int) < (t.length : Int) := by omega
          rw [pre_next Ht.out] at S
          go_wp2
          go_roundw
          case rel => exact ⟨j + 1, by omega, by go_num, S⟩
          case measure => simp [intOf]; omega
    · obtain rfl : j = T.length := by omega
      have hni : ¬ (T.length : Int) < (T.length : Int) := by omega
      rw [pre_end] at S
      go_wp2
      go_ret
      exact ⟨g, rfl, S.drop 1⟩

set_option maxHeartbeats 4000000 in
theorem implFrameUses (af : Option Addr) (cf : Nat) (F : List Int) (at_ : Option Addr) (ct : Nat) (T : List (List Int)) (w : World) (hF : F.length ≤ 9223372036854775807) (hT : T.length ≤ 9223372036854775807) (hrf : Rd 1 encInt1 w af F) (hrt : RdT w at_ T) :
    Calls Try.prog 23 #[.agg #[.slice af F.length cf, .slice at_ T.length ct]] w fun e w' => ∃ u L, e = .returned u ∧ UsesR F T L ∧ Sep w w' [plRow 3 1 encInt1 u L] := by
  go_enter Try.func23, Try.ntmps23
  have S := Sep.start w
  replace S : Sep w (w.alloc (.cells #[.slice af F.length cf, .slice at_ T.length ct] 28)) [plBox w.heap.size #[.slice af F.length cf, .slice at_ T.length ct] 28] := S.alloc_at (by simp) _ _
  go_wp2_with fail
  generalize (w.alloc (.cells #[.slice af F.length cf, .slice at_ T.length ct] 28)) = w1 at *
  refine (implMemoryValid af cf F at_ ct T w1 hF hT (hrf.ext S.ext) (hrt.ext S.ext)).mono ?_
  rintro e w2 ⟨v0, rfl, hv0, hE⟩
  have Hv0 := Lib.hid hv0
  clear hv0
  replace S : Sep w w2 [plBox w.heap.size #[.slice af F.length cf, .slice at_ T.length ct] 28] := S.step hE
  clear hE
  cases v0 with
  | false =>
    have HR : Hid (UsesR F T []) := Lib.hid ⟨fun _ => rfl, fun h => Bool.noConfusion (Hv0.out.2 h)⟩
    replace S : Sep w w2 [] := S.drop 0
    go_wp2
    go_ret
    exact ⟨_, [], rfl, HR.out, S.nil _ _ _⟩
  | true =>
    have HMO := Lib.hid (Hv0.out.1 rfl)
    clear Hv0
    obtain ⟨bmc0, bmf0⟩ : w2.cell? ⟨w.heap.size, 0, none⟩ = some (.slice af F.length cf) ∧ w2.frozen? ⟨w.heap.size, 0, none⟩ = false := bx (S.box 0 rfl) 0 rfl
    obtain ⟨bmc1, bmf1⟩ : w2.cell? ⟨w.heap.size, 1, none⟩ = some (.slice at_ T.length ct) ∧ w2.frozen? ⟨w.heap.size, 1, none⟩ = false := bx (S.box 0 rfl) 1 rfl
    go_wp2_with fail
    clear bmc0 bmf0 bmc1 bmf1
    refine (frameUses_any af cf F at_ ct T w2 HMO.out (hrt.ext S.ext)).mono ?_
    rintro e w3 ⟨g, rfl, U⟩
    have HR : Hid (UsesR F T (usesP F.length T.flatten)) := Lib.hid ⟨fun h => absurd HMO.out h, fun _ => rfl⟩
    replace S : Sep w w3 [plRow 3 1 encInt1 (.slice (some ⟨g, 0, none⟩) F.length F.length) (usesP F.length T.flatten), plBox w.heap.size #[.slice af F.length cf, .slice at_ T.length ct] 28] := S.call U
    clear U
    replace S : Sep w w3 [plRow 3 1 encInt1 (.slice (some ⟨g, 0, none⟩) F.length F.length) (usesP F.length T.flatten)] := S.drop 1
    go_wp2
    go_ret
    exact ⟨_, _, rfl, HR.out, S⟩

set_option maxRecDepth 10000 in
set_option maxHeartbeats 8000000 in
theorem specFrameUses (af : Option Addr) (cf : Nat) (F : List Int) (at_ : Option Addr) (ct : Nat) (T : List (List Int)) (w : World) (hF : F.length ≤ 9223372036854775807) (hT : T.length ≤ 9223372036854775807) (hrf : Rd 1 encInt1 w af F) (hrt : RdT w at_ T) :
    Calls Try.prog 22 #[.agg #[.slice af F.length cf, .slice at_ T.length ct]] w fun e w' => ∃ u L, e = .returned u ∧ UsesR F T L ∧ Sep w w' [plRow 3 1 encInt1 u L] := by
  go_enter Try.func22, Try.ntmps22
  have S := Sep.start w
  replace S : Sep w (w.alloc (.cells #[.slice af F.length cf, .slice at_ T.length ct] 28)) [plBox w.heap.size #[.slice af F.length cf, .slice at_ T.length ct] 28] := S.alloc_at (by simp) _ _
  replace S : Sep w ((w.alloc (.cells #[.slice af F.length cf, .slice at_ T.length ct] 28)).alloc (.cells #[] 3)) [plRow 3 1 encInt1 (.slice (some ⟨(w.heap.size + 1), 0, none⟩) 0 0) [], plBox w.heap.size #[.slice af F.length cf, .slice at_ T.length ct] 28] := S.lit0 (by simp) _ _ _
  go_upto_region 2 with fail
  generalize ((w.alloc (.cells #[.slice af F.length cf, .slice at_ T.length ct] 28)).alloc (.cells #[] 3)) = w1 at *
  obtain ⟨Q, hQ⟩ : ∃ Q, Q = T.flatten := ⟨_, rfl⟩
  have HQ := Lib.hid hQ
  clear hQ
  go_wp2
  go_loopw [3, 4] (fun v i wr => ∃ k : Nat, k ≤ F.length ∧ i = .int .i64 k ∧ (k = 0 ∨ MemOk F T) ∧ Sep w wr [plRow 3 1 encInt1 v (usesP k Q), plBox w.heap.size #[.slice af F.length cf, .slice at_ T.length ct] 28]) (fun _ i _ => F.length - (intOf i).toNat)
  case atStart => exact ⟨0, Nat.zero_le _, rfl, .inl rfl, S⟩
  case round =>
    clear S
    obtain ⟨k, hk, rfl, hk0, S⟩ := hrel
    have Hk0 := Lib.hid hk0
    clear hk0
    obtain ⟨L, hL⟩ : ∃ L, L = usesP k Q := ⟨_, rfl⟩
    rw [← hL] at S
    have HL := Lib.hid hL
    have hLk : L.length = k := by rw [hL]; exact usesP_len _ _
    have HLk := Lib.hid hLk
    clear hL hLk
    obtain ⟨a3, c3, hv3, hk3, _, _⟩ := view_owns encInt1_len (S.row 0 rfl)
    subst hv3
    by_cases hlk : k < F.length
    · have i0 : (k : Int) < (F.length : Int) := by omega
      obtain ⟨bmc0, bmf0⟩ : wr.cell? ⟨w.heap.size, 0, none⟩ = some (.slice af F.length cf) ∧ wr.frozen? ⟨w.heap.size, 0, none⟩ = false := bx (S.box 1 rfl) 0 rfl
      obtain ⟨bmc1, bmf1⟩ : wr.cell? ⟨w.heap.size, 1, none⟩ = some (.slice at_ T.length ct) ∧ wr.frozen? ⟨w.heap.size, 1, none⟩ = false := bx (S.box 1 rfl) 1 rfl
      go_wp2_with fail
      clear bmc0 bmf0 bmc1 bmf1
      refine (specMemoryValid af cf F at_ ct T wr hF hT (hrf.ext S.ext) (hrt.ext S.ext)).mono ?_
      rintro e w2 ⟨v0, rfl, hv0, hE⟩
      have Hv0 := Lib.hid hv0
      clear hv0
      replace S : Sep w w2 [plRow 3 1 encInt1 (.slice a3 L.length c3) L, plBox w.heap.size #[.slice af F.length cf, .slice at_ T.length ct] 28] := S.step hE
      clear hE
      cases v0 with
      | false =>
        have HR : Hid (UsesR F T L) := Lib.hid ⟨fun hn => by
          have hk : k = 0 := Hk0.out.resolve_right hn
          exact List.eq_nil_of_length_eq_zero (HLk.out.trans hk), fun h => Bool.noConfusion (Hv0.out.2 h)⟩
        replace S : Sep w w2 [plRow 3 1 encInt1 (.slice a3 L.length c3) L] := S.drop 1
        go_wp2
        go_ret
        exact ⟨_, L, rfl, HR.out, S⟩
      | true =>
        have HMO := Lib.hid (Hv0.out.1 rfl)
        have HS := Lib.hid (small_sum (same_small HMO.out))
        have h12 := HMO.out.frames
        have hT4 := HMO.out.tables
        clear Hv0
        go_wp2
        go_loopw [5, 6] (fun q i wr => ∃ j : Nat, j ≤ T.length ∧ i = .int .i64 j ∧ q = .int .i64 (((pre T j 0).count (k : Int) : Nat) : Int) ∧ Sep w wr [plRow 3 1 encInt1 (.slice a3 L.length c3) L, plBox w.heap.size #[.slice af F.length cf, .slice at_ T.length ct] 28]) (fun _ i _ => T.length - (intOf i).toNat)
        case atStart => exact ⟨0, Nat.zero_le _, rfl, by rw [pre_zero]; rfl, S⟩
        case round =>
          clear S
          obtain ⟨j, hj, rfl, rfl, S⟩ := hrel
          obtain ⟨bmc0, bmf0⟩ : wr.cell? ⟨w.heap.size, 0, none⟩ = some (.slice af F.length cf) ∧ wr.frozen? ⟨w.heap.size, 0, none⟩ = false := bx (S.box 1 rfl) 0 rfl
          obtain ⟨bmc1, bmf1⟩ : wr.cell? ⟨w.heap.size, 1, none⟩ = some (.slice at_ T.length ct) ∧ wr.frozen? ⟨w.heap.size, 1, none⟩ = false := bx (S.box 1 rfl) 1 rfl
          by_cases hlj : j < T.length
          · obtain ⟨t, p, off, ai, ci, ht, hpe, c0, hci, hrt1⟩ := atTab (hrt.ext S.ext) hlj
            subst hpe
            have Ht := Lib.hid ht
            have hrtk := tab_find (ct := ct) hrt S.ext ht c0
            have Hrtk := Lib.hid hrtk
            have htl := ok_len HMO.out t (List.mem_of_getElem? ht)
            have hi0 : (j : Int) < (T.length : Int) := by omega
            clear ht hrtk hrt1 c0
            go_wp2
            clear bmc0 bmf0 bmc1 bmf1
            go_loopw [5, 7] (fun q i wr => ∃ m : Nat, m ≤ t.length ∧ i = .int .i64 m ∧ q = .int .i64 (((pre T j m).count (k : Int) : Nat) : Int) ∧ Sep w wr [plRow 3 1 encInt1 (.slice a3 L.length c3) L, plBox w.heap.size #[.slice af F.length cf, .slice (some ⟨p, off, none⟩) T.length ct] 28]) (fun _ i _ => t.length - (intOf i).toNat)
            case atStart => exact ⟨0, Nat.zero_le _, rfl, rfl, S⟩
            case round =>
              clear S
              obtain ⟨m, hm, rfl, rfl, S⟩ := hrel
              have c0 := (Hrtk.out wr S.ext).1
              obtain ⟨bmc0, bmf0⟩ : wr.cell? ⟨w.heap.size, 0, none⟩ = some (.slice af F.length cf) ∧ wr.frozen? ⟨w.heap.size, 0, none⟩ = false := bx (S.box 1 rfl) 0 rfl
              obtain ⟨bmc1, bmf1⟩ : wr.cell? ⟨w.heap.size, 1, none⟩ = some (.slice (some ⟨p, off, none⟩) T.length ct) ∧ wr.frozen? ⟨w.heap.size, 1, none⟩ = false := bx (S.box 1 rfl) 1 rfl
              by_cases hlm : m < t.length
              · obtain ⟨x, q, o2, hx, hqe, d0⟩ := atInt (Hrtk.out wr S.ext).2 hlm
                subst hqe
                have Hpre := Lib.hid (pre_step Ht.out hx)
                have hcp : (pre T j m).count (k : Int) ≤ 20 := Nat.le_trans (count_le _ _) (Nat.le_trans (pre_len T j m) HS.out)
                obtain ⟨P, hP⟩ : ∃ P, P = pre T j m := ⟨_, rfl⟩
                rw [← hP] at Hpre hcp ⊢
                have hi1 : (m : Int) < (t.length : Int) := by omega
                clear hx hP
                by_cases hxk : x = (k : Int)
                · have tx : (x == (k : Int)) = true := by simpa using hxk
                  have HN : Hid ((((pre T j (m + 1)).count (k : Int) : Nat) : Int) = ((P.count (k : Int) : Nat) : Int) + 1) := Lib.hid (by rw [Hpre.out, count_snoc, if_pos hxk]; push_cast; rfl)
                  obtain ⟨c, hc⟩ : ∃ c, c = P.count (k : Int) := ⟨_, rfl⟩
                  rw [← hc] at hcp HN ⊢
                  clear hxk hc
                  go_wp2
                  go_roundw
                  case rel => exact ⟨m + 1, by omega, by go_num, by rw [HN.out], S⟩
                  case measure => simp [intOf]; omega
                · have tx : (x == (k : Int)) = false := by simpa using hxk
                  have HN : Hid ((((pre T j (m + 1)).count (k : Int) : Nat) : Int) = ((P.count (k : Int) : Nat) : Int)) := Lib.hid (by rw [Hpre.out, count_snoc, if_neg hxk]; simp)
                  obtain ⟨c, hc⟩ : ∃ c, c = P.count (k : Int) := ⟨_, rfl⟩
                  rw [← hc] at hcp HN ⊢
                  clear hxk hc
                  go_wp2
                  go_roundw
                  case rel => exact ⟨m + 1, by omega, by go_num, by rw [HN.out], S⟩
                  case measure => simp [intOf]; omega
              · obtain rfl : m = t.length := by omega
                have hni : ¬ (t.length : Int) < (t.length : Int) := by omega
                have Hpn := Lib.hid (pre_next Ht.out)
                obtain ⟨c, hc⟩ : ∃ c, c = (pre T j t.length).count (k : Int) := ⟨_, rfl⟩
                rw [← hc]
                have Hc := Lib.hid hc
                clear hc
                go_wp2
                go_roundw
                case rel => exact ⟨j + 1, by omega, by go_num, by rw [Hc.out, Hpn.out], S⟩
                case measure => simp [intOf]; omega
          · obtain rfl : j = T.length := by omega
            have hni : ¬ (T.length : Int) < (T.length : Int) := by omega
            rw [pre_end, ← HQ.out]
            have HN : Hid (L ++ [((Q.count (k : Int) : Nat) : Int)] = usesP (k + 1) Q) := Lib.hid (by rw [HL.out]; exact usesP_snoc k Q)
            obtain ⟨c, hc⟩ : ∃ c : Int, c = ((Q.count (k : Int) : Nat) : Int) := ⟨_, rfl⟩
            rw [← hc] at HN ⊢
            clear hc
            have hL8 : L.length ≤ 12 := by have := HLk.out; omega
            have SA := S.alloc #[.int .i64 c] 3
            have rd1 : Rd 1 encInt1 (wr.alloc (.cells #[.int .i64 c] 3)) (some ⟨wr.heap.size, 0, none⟩) [c] := rd_lit_new [c] encInt1_len rfl
            go_wp2_with (at_builtin; refine Hid.out (?_ : Hid _))
            unfold Hid
            refine wpList_append_b rfl _ _ 22 rfl w.heap.size 3 _ 1 _ Try.underlying22 infoInt rfl (by decide) encInt1_len encInt1_one _ L.length L rfl (SA.row 1 rfl) rfl (some ⟨wr.heap.size, 0, none⟩) 1 1 [c] rfl rfl rd1 (by omega) (by omega) SA.chg.size ?_
            intro v' w5 ho hgr hblk
            have S5 : Sep w w5 [plRow 3 1 encInt1 v' (usesP (k + 1) Q), plBox w.heap.size #[.slice af F.length cf, .slice at_ T.length ct] 28] := by
              rw [← HN.out]
              exact (SA.grow 1 rfl hgr ho hblk).drop 0
            clear bmc0 bmf0 bmc1 bmf1
            clear ho hgr hblk SA rd1 S
            go_wp2
            go_roundw
            case rel => exact ⟨k + 1, by omega, by go_num, .inr HMO.out, S5⟩
            case measure => simp [intOf]; omega
    · obtain rfl : k = F.length := by omega
      have hni : ¬ (F.length : Int) < (F.length : Int) := by omega
      have HR : Hid (UsesR F T L) := Lib.hid ⟨fun hn => List.eq_nil_of_length_eq_zero (HLk.out.trans (Hk0.out.resolve_right hn)), fun _ => by rw [HL.out, HQ.out]⟩
      obtain ⟨bmc0, bmf0⟩ : wr.cell? ⟨w.heap.size, 0, none⟩ = some (.slice af F.length cf) ∧ wr.frozen? ⟨w.heap.size, 0, none⟩ = false := bx (S.box 1 rfl) 0 rfl
      obtain ⟨bmc1, bmf1⟩ : wr.cell? ⟨w.heap.size, 1, none⟩ = some (.slice at_ T.length ct) ∧ wr.frozen? ⟨w.heap.size, 1, none⟩ = false := bx (S.box 1 rfl) 1 rfl
      go_wp2
      go_ret
      first | exact ⟨_, L, rfl, HR.out, S.drop 1⟩ | exact ⟨_, rfl, L, HR.out, S.drop 1⟩
end Go.Proofs.Ytpnllhdgpfbaiaa
