/- ReadPage: contracts of the program's and of the reference's. Condition: rows shorter than 2^63. -/
import Derived.Test.YtpnllhdgpfbaiaaPag2
import Derived.Test.YtpnllhdgpfbaiaaPagC
namespace Go.Proofs.Ytpnllhdgpfbaiaa
open Go.RowKit

/-- The frame of a page. -/
def pageAt (T : List (List Int)) (who page : Int) : Option Int := if 0 ≤ who ∧ 0 ≤ page then (T[who.toNat]?).bind (fun t => t[page.toNat]?) else none
def readP (F : List Int) (T : List (List Int)) (who page : Int) : Int := match pageAt T who page with
  | some f => (F[f.toNat]?).getD (-1)
  | none => -1
def ReadR (F : List Int) (T : List (List Int)) (who page n : Int) : Prop := (MemOk F T → n = readP F T who page) ∧ (¬ MemOk F T → n = -1)
theorem readR_fun {F : List Int} {T : List (List Int)} {who page n m : Int} (h : ReadR F T who page n) (h' : ReadR F T who page m) : n = m := by
  by_cases hv : MemOk F T
  · rw [h.1 hv, h'.1 hv]
  · rw [h.2 hv, h'.2 hv]
theorem pageAt_some {T : List (List Int)} {k j : Nat} {t : List Int} {f : Int} (ht : T[k]? = some t) (hf : t[j]? = some f) : pageAt T k j = some f := by
  unfold pageAt
  rw [if_pos ⟨by omega, by omega⟩]
  simp only [Int.toNat_natCast, ht, Option.bind_some, hf]
theorem pageAt_who {T : List (List Int)} {who page : Int} (h : ¬ (0 ≤ who ∧ who ≤ (T.length : Int) - 1)) : pageAt T who page = none := by
  unfold pageAt
  split
  · rename_i h2
    rw [List.getElem?_eq_none (by omega)]; rfl
  · rfl
theorem pageAt_page {T : List (List Int)} {k : Nat} {t : List Int} {page : Int} (ht : T[k]? = some t) (h : ¬ (0 ≤ page ∧ page ≤ (t.length : Int) - 1)) : pageAt T k page = none := by
  unfold pageAt
  split
  · rename_i h2
    simp only [Int.toNat_natCast, ht, Option.bind_some]
    rw [List.getElem?_eq_none (by omega)]
  · rfl
theorem readR_none {F : List Int} {T : List (List Int)} {who page : Int} (h : pageAt T who page = none) : ReadR F T who page (-1) := ⟨fun _ => by unfold readP; rw [h], fun _ => rfl⟩
theorem readR_some {F : List Int} {T : List (List Int)} {who page : Int} {g : Nat} {x : Int} (hv : MemOk F T) (h : pageAt T who page = some (g : Int)) (hx : F[g]? = some x) : ReadR F T who page x := ⟨fun _ => by unfold readP; rw [h]; simp [hx], fun h => absurd hv h⟩

set_option maxHeartbeats 4000000 in
theorem hasPage_any (af : Option Addr) (cf : Nat) (F : List Int) (at_ : Option Addr) (ct : Nat) (T : List (List Int)) (who page : Int) (w : World) (hT : T.length ≤ 9223372036854775807) (hlt : ∀ t ∈ T, t.length ≤ 9223372036854775807) (hrt : RdT w at_ T) :
    Calls Try.prog 50 #[.agg #[.slice af F.length cf, .slice at_ T.length ct], .int .i64 who, .int .i64 page] w (RetB ((pageAt T who page).isSome = true) w) := by
  have HLT := Lib.hid hlt
  clear hlt
  go_enter Try.func50, Try.ntmps50
  have S := Sep.start w
  replace S : Sep w (w.alloc (.cells #[.slice af F.length cf, .slice at_ T.length ct] 28)) [plBox w.heap.size #[.slice af F.length cf, .slice at_ T.length ct] 28] := S.alloc_at (by simp) _ _
  have hwr : IntKind.i64.wrap ((T.length : Int) - 1) = (T.length : Int) - 1 := IntWalk.i64_in _ (by omega)
  by_cases hw : 0 ≤ who ∧ who ≤ (T.length : Int) - 1
  · have ein := inB_iff.2 hw
    obtain ⟨k, rfl⟩ : ∃ k : Nat, who = k := ⟨who.toNat, by omega⟩
    obtain ⟨t, p, off, ai, ci, ht, hpe, c0, hci, hrt1⟩ := atTab (hrt.ext S.ext) (show k < T.length by omega)
    subst hpe
    have htl := HLT.out t (List.mem_of_getElem? ht)
    have Ht := Lib.hid ht
    have i0 : (k : Int) < (T.length : Int) := by omega
    have hwr2 : IntKind.i64.wrap ((t.length : Int) - 1) = (t.length : Int) - 1 := IntWalk.i64_in _ (by omega)
    clear ht hw
    by_cases hp : 0 ≤ page ∧ page ≤ (t.length : Int) - 1
    · have ein2 := inB_iff.2 hp
      have HP : Hid ((pageAt T k page).isSome = true) := Lib.hid (by
        obtain ⟨j, rfl⟩ : ∃ j : Nat, page = j := ⟨page.toNat, by omega⟩
        rw [pageAt_some Ht.out (List.getElem?_eq_getElem (show j < t.length by omega))]
        rfl)
      clear hp
      go_wp2_with (go_at_call 47; refine ((within_any _ _ _ _).mono (fun e w2 h => by first | (rw [ein] at h; exact h) | (rw [ein2] at h; exact h))).mono ?_; rintro e w' ⟨rfl, rfl⟩)
      go_ret
      exact RetB.mk true rfl (good_iff HP.out rfl) S.ext
    · have ein2 := inB_false hp
      have HP : Hid (¬ (pageAt T k page).isSome = true) := Lib.hid (by rw [pageAt_page Ht.out hp]; simp)
      clear hp
      go_wp2_with (go_at_call 47; refine ((within_any _ _ _ _).mono (fun e w2 h => by first | (rw [ein] at h; exact h) | (rw [ein2] at h; exact h))).mono ?_; rintro e w' ⟨rfl, rfl⟩)
      go_ret
      exact RetB.mk false rfl (bad_iff HP.out rfl) S.ext
  · have ein := inB_false hw
    have HP : Hid (¬ (pageAt T who page).isSome = true) := Lib.hid (by rw [pageAt_who hw]; simp)
    clear hw
    go_wp2_with (go_at_call 47; refine ((within_any _ _ _ _).mono (fun e w2 h => by rw [ein] at h; exact h)).mono ?_; rintro e w' ⟨rfl, rfl⟩)
    go_ret
    exact RetB.mk false rfl (bad_iff HP.out rfl) S.ext

theorem zero_cell {w : World} {p off k : Nat} {v : Value} (h : w.cell? ⟨p, off + k, none⟩ = some v) (hk : k = 0) : w.cell? ⟨p, off, none⟩ = some v := by rw [hk] at h; exact h
theorem page_of {T : List (List Int)} {who page : Int} (h : (pageAt T who page).isSome = true) : ∃ (k j : Nat) (t : List Int) (f : Int), who = k ∧ page = j ∧ T[k]? = some t ∧ t[j]? = some f := by
  unfold pageAt at h
  split at h
  · rename_i hc
    cases ht : T[who.toNat]? with
    | none => rw [ht] at h; simp at h
    | some t =>
      rw [ht] at h
      simp only [Option.bind_some] at h
      cases hf : t[page.toNat]? with
      | none => rw [hf] at h; simp at h
      | some f => exact ⟨who.toNat, page.toNat, t, f, by omega, by omega, ht, hf⟩
  · simp at h
theorem frame_of {F : List Int} {T : List (List Int)} (hv : MemOk F T) {k j : Nat} {t : List Int} {f : Int} (ht : T[k]? = some t) (hf : t[j]? = some f) : ∃ g : Nat, f = g ∧ g < F.length := by
  have h1 := ((hv.pages k t ht).2 j (List.getElem?_eq_some_iff.1 hf).1 f hf).1
  exact ⟨f.toNat, by omega, by omega⟩

set_option maxHeartbeats 4000000 in
theorem implReadPage (af : Option Addr) (cf : Nat) (F : List Int) (at_ : Option Addr) (ct : Nat) (T : List (List Int)) (who page : Int) (w : World) (hF : F.length ≤ 9223372036854775807) (hT : T.length ≤ 9223372036854775807) (hrf : Rd 1 encInt1 w af F) (hrt : RdT w at_ T) :
    Calls Try.prog 19 #[.agg #[.slice af F.length cf, .slice at_ T.length ct], .int .i64 who, .int .i64 page] w fun e w' => ∃ n, e = .returned (.int .i64 n) ∧ ReadR F T who page n ∧ Sep w w' [] := by
  go_enter Try.func19, Try.ntmps19
  have S := Sep.start w
  replace S : Sep w (w.alloc (.cells #[.slice af F.length cf, .slice at_ T.length ct] 28)) [plBox w.heap.size #[.slice af F.length cf, .slice at_ T.length ct] 28] := S.alloc_at (by simp) _ _
  go_wp2_with fail
  generalize (w.alloc (.cells #[.slice af F.length cf, .slice at_ T.length ct] 28)) = w1 at *
  refine (implMemoryValid af cf F at_ ct T w1 hF hT (hrf.ext S.ext) (hrt.ext S.ext)).mono ?_
  rintro e w2 ⟨v0, rfl, hv0, hE⟩
  have Hv0 := Lib.hid hv0
  clear hv0
  replace S : Sep w w2 [plBox w.heap.size #[.slice af F.length cf, .slice at_ T.length ct] 28] := S.step hE
  clear hE
  cases v0 with
  | false =>
    have HR : Hid (ReadR F T who page (-1)) := Lib.hid ⟨fun h => Bool.noConfusion (Hv0.out.2 h), fun _ => rfl⟩
    replace S : Sep w w2 [] := S.drop 0
    go_wp2
    go_ret
    exact ⟨_, rfl, HR.out, S⟩
  | true =>
    have HMO := Lib.hid (Hv0.out.1 rfl)
    clear Hv0
    obtain ⟨bmc0, bmf0⟩ : w2.cell? ⟨w.heap.size, 0, none⟩ = some (.slice af F.length cf) ∧ w2.frozen? ⟨w.heap.size, 0, none⟩ = false := bx (S.box 0 rfl) 0 rfl
    obtain ⟨bmc1, bmf1⟩ : w2.cell? ⟨w.heap.size, 1, none⟩ = some (.slice at_ T.length ct) ∧ w2.frozen? ⟨w.heap.size, 1, none⟩ = false := bx (S.box 0 rfl) 1 rfl
    go_wp2_with fail
    clear bmc0 bmf0 bmc1 bmf1
    refine (hasPage_any af cf F at_ ct T who page w2 hT (fun t ht => by have := (ok_len HMO.out t ht); omega) (hrt.ext S.ext)).mono ?_
    rintro e w3 ⟨v1, rfl, hv1, hE⟩
    have Hv1 := Lib.hid hv1
    clear hv1
    replace S : Sep w w3 [plBox w.heap.size #[.slice af F.length cf, .slice at_ T.length ct] 28] := S.step hE
    clear hE
    cases v1 with
    | false =>
      have HR : Hid (ReadR F T who page (-1)) := Lib.hid (readR_none (by
        cases hp : pageAt T who page with
        | none => rfl
        | some f => exact Bool.noConfusion (Hv1.out.2 (by rw [hp]; rfl))))
      replace S : Sep w w3 [] := S.drop 0
      go_wp2
      go_ret
      exact ⟨_, rfl, HR.out, S⟩
    | true =>
      obtain ⟨k, j, t, f, rfl, rfl, ht, hf⟩ := page_of (Hv1.out.1 rfl)
      obtain ⟨g, rfl, hg⟩ := frame_of HMO.out ht hf
      have hkT := (List.getElem?_eq_some_iff.1 ht).1
      have hjt := (List.getElem?_eq_some_iff.1 hf).1
      obtain ⟨t', p, off, ai, ci, ht', hpe, c0, hci, hrt1⟩ := atTab (hrt.ext S.ext) hkT
      subst hpe
      obtain rfl : t = t' := by rw [ht] at ht'; exact Option.some.inj ht'
      obtain ⟨f', q, o2, hf', hqe, d0⟩ := atInt hrt1 hjt
      subst hqe
      obtain rfl : (g : Int) = f' := by rw [hf] at hf'; exact Option.some.inj hf'
      obtain ⟨x, q3, o3, hx, hqe, d1⟩ := atInt (hrf.ext S.ext) hg
      subst hqe
      have HR : Hid (ReadR F T k j x) := Lib.hid (readR_some HMO.out (pageAt_some ht hf) hx)
      have i0 : (k : Int) < (T.length : Int) := by omega
      have i1 : (j : Int) < (t.length : Int) := by omega
      have i2 : (g : Int) < (F.length : Int) := by omega
      clear Hv1 ht hf ht' hf' hx hrt1
      obtain ⟨bmc0, bmf0⟩ : w3.cell? ⟨w.heap.size, 0, none⟩ = some (.slice (some ⟨q3, o3, none⟩) F.length cf) ∧ w3.frozen? ⟨w.heap.size, 0, none⟩ = false := bx (S.box 0 rfl) 0 rfl
      obtain ⟨bmc1, bmf1⟩ : w3.cell? ⟨w.heap.size, 1, none⟩ = some (.slice (some ⟨p, off, none⟩) T.length ct) ∧ w3.frozen? ⟨w.heap.size, 1, none⟩ = false := bx (S.box 0 rfl) 1 rfl
      go_upto_region 3 with fail
      go_quiet (fail)
      go_wp2
      go_ret
      exact ⟨_, rfl, HR.out, (S.drop 0).drewN _⟩

set_option maxHeartbeats 4000000 in
theorem specReadPage (af : Option Addr) (cf : Nat) (F : List Int) (at_ : Option Addr) (ct : Nat) (T : List (List Int)) (who page : Int) (w : World) (hF : F.length ≤ 9223372036854775807) (hT : T.length ≤ 9223372036854775807) (hrf : Rd 1 encInt1 w af F) (hrt : RdT w at_ T) :
    Calls Try.prog 18 #[.agg #[.slice af F.length cf, .slice at_ T.length ct], .int .i64 who, .int .i64 page] w fun e w' => ∃ n, e = .returned (.int .i64 n) ∧ ReadR F T who page n ∧ Sep w w' [] := by
  go_enter Try.func18, Try.ntmps18
  have S := Sep.start w
  replace S : Sep w (w.alloc (.cells #[.slice af F.length cf, .slice at_ T.length ct] 28)) [plBox w.heap.size #[.slice af F.length cf, .slice at_ T.length ct] 28] := S.alloc_at (by simp) _ _
  have hwr : IntKind.i64.wrap ((T.length : Int) - 1) = (T.length : Int) - 1 := IntWalk.i64_in _ (by omega)
  go_wp2_with fail
  generalize (w.alloc (.cells #[.slice af F.length cf, .slice at_ T.length ct] 28)) = w1 at *
  refine (specMemoryValid af cf F at_ ct T w1 hF hT (hrf.ext S.ext) (hrt.ext S.ext)).mono ?_
  rintro e w2 ⟨v0, rfl, hv0, hE⟩
  have Hv0 := Lib.hid hv0
  clear hv0
  replace S : Sep w w2 [plBox w.heap.size #[.slice af F.length cf, .slice at_ T.length ct] 28] := S.step hE
  clear hE
  cases v0 with
  | false =>
    have HR : Hid (ReadR F T who page (-1)) := Lib.hid ⟨fun h => Bool.noConfusion (Hv0.out.2 h), fun _ => rfl⟩
    replace S : Sep w w2 [] := S.drop 0
    go_wp2
    go_ret
    exact ⟨_, rfl, HR.out, S⟩
  | true =>
    have HMO := Lib.hid (Hv0.out.1 rfl)
    clear Hv0
    by_cases hw : 0 ≤ who ∧ who ≤ (T.length : Int) - 1
    · have ein := inB_iff.2 hw
      obtain ⟨k, rfl⟩ : ∃ k : Nat, who = k := ⟨who.toNat, by omega⟩
      obtain ⟨t, p, off, ai, ci, ht, hpe, c0, hci, hrt1⟩ := atTab (hrt.ext S.ext) (show k < T.length by omega)
      subst hpe
      have Ht := Lib.hid ht
      have htl := ok_len HMO.out t (List.mem_of_getElem? ht)
      have i0 : (k : Int) < (T.length : Int) := by omega
      have hwr2 : IntKind.i64.wrap ((t.length : Int) - 1) = (t.length : Int) - 1 := IntWalk.i64_in _ (by omega)
      have hmx : max (0 : Int) (k : Int) = (k : Int) := by omega
      have iz : (0 : Int) < (T.length : Int) := by omega
      clear ht hw hmx
      rcases Nat.eq_zero_or_pos k with hk0 | hk0
      · have c0z := zero_cell c0 hk0
        have hnk := Nat.not_lt.2 (Nat.le_of_eq hk0)
        clear hk0
        by_cases hp : 0 ≤ page ∧ page ≤ (t.length : Int) - 1
        · have ein2 := inB_iff.2 hp
          obtain ⟨j, rfl⟩ : ∃ j : Nat, page = j := ⟨page.toNat, by omega⟩
          obtain ⟨f, q, o2, hf, hqe, d0⟩ := atInt hrt1 (show j < t.length by omega)
          subst hqe
          obtain ⟨g, rfl, hg⟩ := frame_of HMO.out Ht.out hf
          obtain ⟨x, q3, o3, hx, hqe, d1⟩ := atInt (hrf.ext S.ext) hg
          subst hqe
          have HR : Hid (ReadR F T k j x) := Lib.hid (readR_some HMO.out (pageAt_some Ht.out hf) hx)
          have i1 : (j : Int) < (t.length : Int) := by omega
          have i2 : (g : Int) < (F.length : Int) := by omega
          clear hp hf hx hrt1
          obtain ⟨bmc0, bmf0⟩ : w2.cell? ⟨w.heap.size, 0, none⟩ = some (.slice (some ⟨q3, o3, none⟩) F.length cf) ∧ w2.frozen? ⟨w.heap.size, 0, none⟩ = false := bx (S.box 0 rfl) 0 rfl
          obtain ⟨bmc1, bmf1⟩ : w2.cell? ⟨w.heap.size, 1, none⟩ = some (.slice (some ⟨p, off, none⟩) T.length ct) ∧ w2.frozen? ⟨w.heap.size, 1, none⟩ = false := bx (S.box 0 rfl) 1 rfl
          go_upto_region 3 with (go_at_call 41; refine ((l1In_any _ _ _ _).mono (fun e w2 h => by first | (rw [ein] at h; exact h) | (rw [ein2] at h; exact h))).mono ?_; rintro e w' ⟨rfl, rfl⟩)
          go_quiet (fail)
          go_wp2
          go_ret
          exact ⟨_, rfl, HR.out, (S.drop 0).drewN _⟩
        · have ein2 := inB_false hp
          have HR : Hid (ReadR F T k page (-1)) := Lib.hid (readR_none (pageAt_page Ht.out hp))
          clear hp hrt1
          obtain ⟨bmc0, bmf0⟩ : w2.cell? ⟨w.heap.size, 0, none⟩ = some (.slice af F.length cf) ∧ w2.frozen? ⟨w.heap.size, 0, none⟩ = false := bx (S.box 0 rfl) 0 rfl
          obtain ⟨bmc1, bmf1⟩ : w2.cell? ⟨w.heap.size, 1, none⟩ = some (.slice (some ⟨p, off, none⟩) T.length ct) ∧ w2.frozen? ⟨w.heap.size, 1, none⟩ = false := bx (S.box 0 rfl) 1 rfl
          go_wp2_with (go_at_call 41; refine ((l1In_any _ _ _ _).mono (fun e w2 h => by first | (rw [ein] at h; exact h) | (rw [ein2] at h; exact h))).mono ?_; rintro e w' ⟨rfl, rfl⟩)
          go_ret
          exact ⟨_, rfl, HR.out, S.drop 0⟩
      · skip
        skip
        skip
        by_cases hp : 0 ≤ page ∧ page ≤ (t.length : Int) - 1
        · have ein2 := inB_iff.2 hp
          obtain ⟨j, rfl⟩ : ∃ j : Nat, page = j := ⟨page.toNat, by omega⟩
          obtain ⟨f, q, o2, hf, hqe, d0⟩ := atInt hrt1 (show j < t.length by omega)
          subst hqe
          obtain ⟨g, rfl, hg⟩ := frame_of HMO.out Ht.out hf
          obtain ⟨x, q3, o3, hx, hqe, d1⟩ := atInt (hrf.ext S.ext) hg
          subst hqe
          have HR : Hid (ReadR F T k j x) := Lib.hid (readR_some HMO.out (pageAt_some Ht.out hf) hx)
          have i1 : (j : Int) < (t.length : Int) := by omega
          have i2 : (g : Int) < (F.length : Int) := by omega
          clear hp hf hx hrt1
          obtain ⟨bmc0, bmf0⟩ : w2.cell? ⟨w.heap.size, 0, none⟩ = some (.slice (some ⟨q3, o3, none⟩) F.length cf) ∧ w2.frozen? ⟨w.heap.size, 0, none⟩ = false := bx (S.box 0 rfl) 0 rfl
          obtain ⟨bmc1, bmf1⟩ : w2.cell? ⟨w.heap.size, 1, none⟩ = some (.slice (some ⟨p, off, none⟩) T.length ct) ∧ w2.frozen? ⟨w.heap.size, 1, none⟩ = false := bx (S.box 0 rfl) 1 rfl
          go_upto_region 3 with (go_at_call 41; refine ((l1In_any _ _ _ _).mono (fun e w2 h => by first | (rw [ein] at h; exact h) | (rw [ein2] at h; exact h))).mono ?_; rintro e w' ⟨rfl, rfl⟩)
          go_quiet (fail)
          go_wp2
          go_ret
          exact ⟨_, rfl, HR.out, (S.drop 0).drewN _⟩
        · have ein2 := inB_false hp
          have HR : Hid (ReadR F T k page (-1)) := Lib.hid (readR_none (pageAt_page Ht.out hp))
          clear hp hrt1
          obtain ⟨bmc0, bmf0⟩ : w2.cell? ⟨w.heap.size, 0, none⟩ = some (.slice af F.length cf) ∧ w2.frozen? ⟨w.heap.size, 0, none⟩ = false := bx (S.box 0 rfl) 0 rfl
          obtain ⟨bmc1, bmf1⟩ : w2.cell? ⟨w.heap.size, 1, none⟩ = some (.slice (some ⟨p, off, none⟩) T.length ct) ∧ w2.frozen? ⟨w.heap.size, 1, none⟩ = false := bx (S.box 0 rfl) 1 rfl
          go_wp2_with (go_at_call 41; refine ((l1In_any _ _ _ _).mono (fun e w2 h => by first | (rw [ein] at h; exact h) | (rw [ein2] at h; exact h))).mono ?_; rintro e w' ⟨rfl, rfl⟩)
          go_ret
          exact ⟨_, rfl, HR.out, S.drop 0⟩
    · have ein := inB_false hw
      have HR : Hid (ReadR F T who page (-1)) := Lib.hid (readR_none (pageAt_who hw))
      clear hw
      obtain ⟨bmc0, bmf0⟩ : w2.cell? ⟨w.heap.size, 0, none⟩ = some (.slice af F.length cf) ∧ w2.frozen? ⟨w.heap.size, 0, none⟩ = false := bx (S.box 0 rfl) 0 rfl
      obtain ⟨bmc1, bmf1⟩ : w2.cell? ⟨w.heap.size, 1, none⟩ = some (.slice at_ T.length ct) ∧ w2.frozen? ⟨w.heap.size, 1, none⟩ = false := bx (S.box 0 rfl) 1 rfl
      go_wp2_with (go_at_call 41; refine ((l1In_any _ _ _ _).mono (fun e w2 h => by rw [ein] at h; exact h)).mono ?_; rintro e w' ⟨rfl, rfl⟩)
      go_ret
      exact ⟨_, rfl, HR.out, S.drop 0⟩
end Go.Proofs.Ytpnllhdgpfbaiaa
