/- Memories: when they are valid; contracts of MemoryValid. Condition: rows shorter than 2^63. -/
import Derived.Test.YtpnllhdgpfbaiaaTabL
import Derived.Test.YtpnllhdgpfbaiaaIntAny
import Derived.Deep.Cut
namespace Go.Proofs.Ytpnllhdgpfbaiaa
open Go.RowKit

theorem bad_iff {P : Prop} (h : ¬ P) {b : Bool} (hb : b = false) : b = true ↔ P := by subst hb; simp [h]
theorem good_iff {P : Prop} (h : P) {b : Bool} (hb : b = true) : b = true ↔ P := by subst hb; simp [h]
/-- What is asked of the place j of one process's pages. -/
def PageOk (n : Nat) (t : List Int) (j : Nat) : Prop := ∀ x, t[j]? = some x → (0 ≤ x ∧ x ≤ (n : Int) - 1) ∧ x ∉ t.take j
def TabOk (n : Nat) (t : List Int) : Prop := t.length ≤ 4 ∧ ∀ j, j < t.length → PageOk n t j
def UseOk (x : Int) : Prop := 0 ≤ x ∧ x ≤ 10000
structure MemOk (F : List Int) (T : List (List Int)) : Prop where
  frames : F.length ≤ 12
  tables : T.length ≤ 4
  uses : ∀ (j : Nat) x, F[j]? = some x → UseOk x
  pages : ∀ (j : Nat) t, T[j]? = some t → TabOk F.length t
theorem ok_len {F : List Int} {T : List (List Int)} (h : MemOk F T) : ∀ t ∈ T, t.length ≤ 4 := fun t ht => by
  obtain ⟨k, hk⟩ := List.getElem?_of_mem ht
  exact (h.pages k t hk).1
theorem page_next {n : Nat} {t : List Int} {k : Nat} (h : ∀ j, j < k → PageOk n t j) (hk : PageOk n t k) : ∀ j, j < k + 1 → PageOk n t j := fun j hj => by
  rcases Nat.lt_succ_iff_lt_or_eq.1 hj with h' | rfl
  · exact h j h'
  · exact hk
theorem at_next {α : Type} {P : α → Prop} {l : List α} {k : Nat} {x : α} (h : ∀ (j : Nat) y, j < k → l[j]? = some y → P y) (hx : l[k]? = some x) (hk : P x) : ∀ (j : Nat) y, j < k + 1 → l[j]? = some y → P y := fun j y hj hy => by
  rcases Nat.lt_succ_iff_lt_or_eq.1 hj with h' | rfl
  · exact h j y h' hy
  · rw [hx] at hy; cases hy; exact hk
theorem at_all {α : Type} {P : α → Prop} {l : List α} (h : ∀ (j : Nat) y, j < l.length → l[j]? = some y → P y) : ∀ (j : Nat) y, l[j]? = some y → P y := fun j y hy => h j y (List.getElem?_eq_some_iff.1 hy).1 hy
theorem notin_next {t : List Int} {k : Nat} {x y : Int} (h : x ∉ t.take k) (hy : t[k]? = some y) (hne : y ≠ x) : x ∉ t.take (k + 1) := fun hm => by
  rw [List.take_add_one, hy] at hm
  rcases List.mem_append.1 hm with hm | hm
  · exact h hm
  · simp at hm
    exact hne hm.symm
theorem in_take {t : List Int} {i j : Nat} {x : Int} (hi : t[i]? = some x) (hij : i < j) : x ∈ t.take j := by
  refine List.mem_of_getElem? (i := i) ?_
  rw [List.getElem?_take, if_pos hij]
  exact hi

set_option maxHeartbeats 8000000 in
theorem specMemoryValid (af : Option Addr) (cf : Nat) (F : List Int) (at_ : Option Addr) (ct : Nat) (T : List (List Int)) (w : World) (hF : F.length ≤ 9223372036854775807) (hT : T.length ≤ 9223372036854775807) (hrf : Rd 1 encInt1 w af F) (hrt : RdT w at_ T) :
    Calls Try.prog 14 #[.agg #[.slice af F.length cf, .slice at_ T.length ct]] w (RetB (MemOk F T) w) := by
  go_enter Try.func14, Try.ntmps14
  have S := Sep.start w
  replace S : Sep w (w.alloc (.cells #[.slice af F.length cf, .slice at_ T.length ct] 28)) [plBox w.heap.size #[.slice af F.length cf, .slice at_ T.length ct] 28] := S.alloc_at (by simp) _ _
  go_upto_region 1 with fail
  generalize (w.alloc (.cells #[.slice af F.length cf, .slice at_ T.length ct] 28)) = w1 at *
  go_wp2
  go_loopw [3] (fun i wr => ∃ k : Nat, k ≤ F.length ∧ i = .int .i64 k ∧ (∀ (j : Nat) x, j < k → F[j]? = some x → UseOk x) ∧ Sep w wr [plBox w.heap.size #[.slice af F.length cf, .slice at_ T.length ct] 28]) (fun i _ => F.length - (intOf i).toNat)
  case atStart => exact ⟨0, Nat.zero_le _, rfl, fun _ _ h => absurd h (Nat.not_lt_zero _), S⟩
  case round =>
    clear S
    obtain ⟨k, hk, rfl, hpre, S⟩ := hrel
    have Hpre := Lib.hid hpre
    clear hpre
    obtain ⟨bc0, bf0⟩ : wr.cell? ⟨w.heap.size, 0, none⟩ = some (.slice af F.length cf) ∧ wr.frozen? ⟨w.heap.size, 0, none⟩ = false := bx (S.box 0 rfl) 0 rfl
    obtain ⟨bc1, bf1⟩ : wr.cell? ⟨w.heap.size, 1, none⟩ = some (.slice at_ T.length ct) ∧ wr.frozen? ⟨w.heap.size, 1, none⟩ = false := bx (S.box 0 rfl) 1 rfl
    by_cases hlk : k < F.length
    · obtain ⟨x, p, off, hx, hpe, c0⟩ := atInt (hrf.ext S.ext) hlk
      subst hpe
      have Hx := Lib.hid hx
      have i0 : (k : Int) < (F.length : Int) := by omega
      clear hx
      by_cases hu : 0 ≤ x ∧ x ≤ 10000
      · have ein := inB_iff.2 hu
        have HN := Lib.hid (at_next Hpre.out Hx.out hu)
        clear hu
        go_wp2_with (go_at_call 41; refine ((l1In_any _ _ _ _).mono (fun e w2 h => by rw [ein] at h; exact h)).mono ?_; rintro e w' ⟨rfl, rfl⟩)
        go_roundw
        case rel => exact ⟨k + 1, by omega, by go_num, HN.out, S⟩
        case measure => simp [intOf]; omega
      · have ein := inB_false hu
        have HB : Hid (¬ MemOk F T) := Lib.hid (fun h => hu (h.uses k x Hx.out))
        clear hu
        go_wp2_with (go_at_call 41; refine ((l1In_any _ _ _ _).mono (fun e w2 h => by rw [ein] at h; exact h)).mono ?_; rintro e w' ⟨rfl, rfl⟩)
        go_ret
        exact RetB.mk false rfl (bad_iff HB.out rfl) S.ext
    · obtain rfl : k = F.length := by omega
      have hni : ¬ (F.length : Int) < (F.length : Int) := by omega
      have HU := Lib.hid (at_all Hpre.out)
      clear Hpre
      go_wp2
      clear bc0 bf0 bc1 bf1
      go_loopw [4] (fun i wr => ∃ k : Nat, k ≤ T.length ∧ i = .int .i64 k ∧ (∀ (j : Nat) t, j < k → T[j]? = some t → TabOk F.length t) ∧ Sep w wr [plBox w.heap.size #[.slice af F.length cf, .slice at_ T.length ct] 28]) (fun i _ => T.length - (intOf i).toNat)
      case atStart => exact ⟨0, Nat.zero_le _, rfl, fun _ _ h => absurd h (Nat.not_lt_zero _), S⟩
      case round =>
        clear S
        obtain ⟨k, hk, rfl, hpre, S⟩ := hrel
        have Hpre := Lib.hid hpre
        clear hpre
        obtain ⟨bc0, bf0⟩ : wr.cell? ⟨w.heap.size, 0, none⟩ = some (.slice af F.length cf) ∧ wr.frozen? ⟨w.heap.size, 0, none⟩ = false := bx (S.box 0 rfl) 0 rfl
        obtain ⟨bc1, bf1⟩ : wr.cell? ⟨w.heap.size, 1, none⟩ = some (.slice at_ T.length ct) ∧ wr.frozen? ⟨w.heap.size, 1, none⟩ = false := bx (S.box 0 rfl) 1 rfl
        by_cases hlk : k < T.length
        · obtain ⟨t, p, off, ai, ci, ht, hpe, c0, hci, hrt1⟩ := atTab (hrt.ext S.ext) hlk
          subst hpe
          have Ht := Lib.hid ht
          have i0 : (k : Int) < (T.length : Int) := by omega
          clear ht
          by_cases h4 : t.length ≤ 4
          · have h4i : ¬ (4 : Int) < (t.length : Int) := by omega
            have hrt0 := hrt1
            go_wp2
            clear bc0 bf0 bc1 bf1
            clear c0 hrt1
            go_loopw [5] (fun i wr => ∃ m : Nat, m ≤ t.length ∧ i = .int .i64 m ∧ (∀ j, j < m → PageOk F.length t j) ∧ Sep w wr [plBox w.heap.size #[.slice af F.length cf, .slice (some ⟨p, off, none⟩) T.length ct] 28]) (fun i _ => t.length - (intOf i).toNat)
            case atStart => exact ⟨0, Nat.zero_le _, rfl, fun _ h => absurd h (Nat.not_lt_zero _), S⟩
            case round =>
              clear S hrt0
              obtain ⟨m, hm, rfl, hpre2, S⟩ := hrel
              have Hpre2 := Lib.hid hpre2
              clear hpre2
              obtain ⟨bc0, bf0⟩ : wr.cell? ⟨w.heap.size, 0, none⟩ = some (.slice af F.length cf) ∧ wr.frozen? ⟨w.heap.size, 0, none⟩ = false := bx (S.box 0 rfl) 0 rfl
              obtain ⟨bc1, bf1⟩ : wr.cell? ⟨w.heap.size, 1, none⟩ = some (.slice (some ⟨p, off, none⟩) T.length ct) ∧ wr.frozen? ⟨w.heap.size, 1, none⟩ = false := bx (S.box 0 rfl) 1 rfl
              obtain ⟨t', p', off', ai, ci, ht', hpe', c0, hci, hrt1⟩ := atTab (hrt.ext S.ext) hlk
              obtain ⟨rfl, rfl⟩ : p = p' ∧ off = off' := by simpa using hpe'
              obtain rfl : t = t' := by
                have := Ht.out
                rw [ht'] at this; exact (Option.some.inj this).symm
              clear ht' hpe'
              by_cases hlm : m < t.length
              · obtain ⟨x, q, o2, hx, hqe, d0⟩ := atInt hrt1 hlm
                subst hqe
                have Hx := Lib.hid hx
                have i1 : (m : Int) < (t.length : Int) := by omega
                have hwr : IntKind.i64.wrap ((F.length : Int) - 1) = (F.length : Int) - 1 := IntWalk.i64_in _ (by omega)
                clear hx
                have q0 := ExtW.cell bc0
                have q1 := ExtW.cell bc1
                have q2 := ExtW.cell c0
                have q3 := ExtW.cell d0
                have b1 := ExtW.lt bc0
                have b2 := ExtW.lt c0
                have b3 := ExtW.lt d0
                by_cases hu : 0 ≤ x ∧ x ≤ (F.length : Int) - 1
                · have ein := inB_iff.2 hu
                  have Hu := Lib.hid hu
                  clear hu
                  go_wp2
                  (refine wp_region_quiet_ext (by kernel_rfl) (by kernel_rfl) ?_; (repeat (go_big_quiet_step ((go_at_call 41; exact Calls.at_same ((l1In_any _ _ _ _).mono (fun e w2 h => by rw [ein] at h; exact h)))))); refine wpQuiet_nil ?_; intro _ hw'; obtain ⟨sq, hw''⟩ := hw'; subst hw'')
                  obtain ⟨w5, hw5⟩ := sq
                  clear q0 q1 q2 q3 c0 d0 b1 b2 b3 hrt1
                  clear bc0 bf0 bc1 bf1
                  replace S : Sep w w5 [plBox w.heap.size #[.slice af F.length cf, .slice (some ⟨p, off, none⟩) T.length ct] 28] := S.step (id hw5)
                  go_wp2
                  go_loopw [6] (fun i wr => ∃ i0 : Nat, i0 ≤ m ∧ i = .int .i64 i0 ∧ x ∉ t.take i0 ∧ Sep w wr [plBox w.heap.size #[.slice af F.length cf, .slice (some ⟨p, off, none⟩) T.length ct] 28]) (fun i _ => m - (intOf i).toNat)
                  case atStart => exact ⟨0, Nat.zero_le _, rfl, by simp, S⟩
                  case round =>
                    clear S
                    obtain ⟨n, hn, rfl, hnot, S⟩ := hrel
                    have Hnot := Lib.hid hnot
                    clear hnot
                    obtain ⟨bc0, bf0⟩ : wr.cell? ⟨w.heap.size, 0, none⟩ = some (.slice af F.length cf) ∧ wr.frozen? ⟨w.heap.size, 0, none⟩ = false := bx (S.box 0 rfl) 0 rfl
                    obtain ⟨bc1, bf1⟩ : wr.cell? ⟨w.heap.size, 1, none⟩ = some (.slice (some ⟨p, off, none⟩) T.length ct) ∧ wr.frozen? ⟨w.heap.size, 1, none⟩ = false := bx (S.box 0 rfl) 1 rfl
                    by_cases hnm : n < m
                    · obtain ⟨t', p', off', ai, ci, ht', hpe', c0, hci, hrt1⟩ := atTab (hrt.ext S.ext) hlk
                      obtain ⟨rfl, rfl⟩ : p = p' ∧ off = off' := by simpa using hpe'
                      obtain rfl : t = t' := by
                        have := Ht.out
                        rw [ht'] at this; exact (Option.some.inj this).symm
                      obtain ⟨y, q2, o3, hy, hqe, d0⟩ := atInt hrt1 (show n < t.length by omega)
                      subst hqe
                      obtain ⟨x', q3, o4, hx', hqe, d1⟩ := atInt hrt1 hlm
                      obtain ⟨rfl, rfl⟩ : q2 = q3 ∧ o3 = o4 := by simpa using hqe
                      obtain rfl : x = x' := by
                        have := Hx.out
                        rw [hx'] at this; exact (Option.some.inj this).symm
                      have Hy := Lib.hid hy
                      have i2 : (n : Int) < (m : Int) := by omega
                      have i3 : (n : Int) < (t.length : Int) := by omega
                      clear ht' hpe' hy hx' hqe hrt1
                      by_cases hxy : y = x
                      · have txy : (y == x) = true := by simpa using hxy
                        have HB : Hid (¬ MemOk F T) := Lib.hid (fun h => ((h.pages k t Ht.out).2 m hlm x Hx.out).2 (in_take (hxy ▸ Hy.out) hnm))
                        clear hxy
                        go_wp2
                        go_quiet (fail)
                        go_wp2
                        go_ret
                        exact RetB.mk false rfl (bad_iff HB.out rfl) (S.ext.drewN _)
                      · have txy : (y == x) = false := by simpa using hxy
                        have HN := Lib.hid (notin_next Hnot.out Hy.out hxy)
                        clear hxy
                        go_wp2
                        go_quiet (fail)
                        go_wp2
                        go_roundw
                        case rel => exact ⟨n + 1, by omega, by go_num, HN.out, S.drewN _⟩
                        case measure => simp [intOf]; omega
                    · obtain rfl : n = m := by omega
                      have hni2 : ¬ (n : Int) < (n : Int) := by omega
                      have HN := Lib.hid (page_next Hpre2.out (fun y hy => by
                        rw [Hx.out] at hy; cases hy
                        exact ⟨Hu.out, Hnot.out⟩))
                      go_wp2
                      go_roundw
                      case rel => exact ⟨n + 1, by omega, by go_num, HN.out, S⟩
                      case measure => simp [intOf]; omega
                · have ein := inB_false hu
                  have HB : Hid (¬ MemOk F T) := Lib.hid (fun h => hu ((h.pages k t Ht.out).2 m hlm x Hx.out).1)
                  clear hu
                  go_wp2
                  (refine wp_region_quiet_ext (by kernel_rfl) (by kernel_rfl) ?_; (repeat (go_big_quiet_step ((go_at_call 41; exact Calls.at_same ((l1In_any _ _ _ _).mono (fun e w2 h => by rw [ein] at h; exact h)))))); refine wpQuiet_nil ?_; intro _ hw'; obtain ⟨sq, hw''⟩ := hw'; subst hw'')
                  obtain ⟨w5, hw5⟩ := sq
                  clear q0 q1 q2 q3
                  go_wp2
                  go_ret
                  exact RetB.mk false rfl (bad_iff HB.out rfl) (S.ext.trans hw5)
              · obtain rfl : m = t.length := by omega
                have hni2 : ¬ (t.length : Int) < (t.length : Int) := by omega
                have HN := Lib.hid (at_next Hpre.out Ht.out (show TabOk F.length t from ⟨h4, Hpre2.out⟩))
                go_wp2
                go_roundw
                case rel => exact ⟨k + 1, by omega, by go_num, HN.out, S⟩
                case measure => simp [intOf]; omega
          · have h4i : (4 : Int) < (t.length : Int) := by omega
            have HB : Hid (¬ MemOk F T) := Lib.hid (fun h => h4 (h.pages k t Ht.out).1)
            go_wp2
            go_ret
            exact RetB.mk false rfl (bad_iff HB.out rfl) S.ext
        · obtain rfl : k = T.length := by omega
          have hni : ¬ (T.length : Int) < (T.length : Int) := by omega
          have HP := Lib.hid (at_all Hpre.out)
          clear Hpre
          by_cases h12 : F.length ≤ 12
          · by_cases h4 : T.length ≤ 4
            · have i1 : (F.length : Int) ≤ 12 := by omega
              have i2 : (T.length : Int) ≤ 4 := by omega
              have HG : Hid (MemOk F T) := Lib.hid ⟨h12, h4, HU.out, HP.out⟩
              go_wp2
              go_ret
              exact RetB.mk true rfl (good_iff HG.out rfl) S.ext
            · have i1 : (F.length : Int) ≤ 12 := by omega
              have i2 : decide ((T.length : Int) ≤ 4) = false := by simp; omega
              have HB : Hid (¬ MemOk F T) := Lib.hid (fun h => h4 h.tables)
              go_wp2
              go_ret
              exact RetB.mk false rfl (bad_iff HB.out rfl) S.ext
          · have i1 : decide ((F.length : Int) ≤ 12) = false := by simp; omega
            have HB : Hid (¬ MemOk F T) := Lib.hid (fun h => h12 h.frames)
            go_wp2
            go_ret
            exact RetB.mk false rfl (bad_iff HB.out rfl) S.ext

set_option maxHeartbeats 400000 in
theorem isUse_any (n : Int) (w : World) : Calls Try.prog 46 #[.int .i64 n] w fun e w' => e = .returned (.bool (inB n 0 10000)) ∧ w = w' := by
  go_enter Try.func46, Try.ntmps46
  go_wp2_with (go_at_call 47; refine (within_any _ _ _ _).mono ?_; rintro e w' ⟨rfl, rfl⟩)
  go_ret
  exact ⟨rfl, rfl⟩
set_option maxHeartbeats 400000 in
theorem noUse_any (n : Int) (w : World) : Calls Try.prog 45 (#[.int .i64 n] ++ #[]) w (RetB (¬ UseOk n) w) := by
  show Calls Try.prog 45 #[.int .i64 n] w (RetB (¬ UseOk n) w)
  go_enter Try.func45, Try.ntmps45
  by_cases h : 0 ≤ n ∧ n ≤ 10000
  · have ein := inB_iff.2 h
    have HU := Lib.hid h
    clear h
    go_wp2_with (go_at_call 46; refine ((isUse_any _ _).mono (fun e w2 h => by rw [ein] at h; exact h)).mono ?_; rintro e w' ⟨rfl, rfl⟩)
    go_ret
    exact RetB.mk false rfl (bad_iff (fun h => h HU.out) rfl) (Ext.refl _)
  · have ein := inB_false h
    have HU := Lib.hid h
    clear h
    go_wp2_with (go_at_call 46; refine ((isUse_any _ _).mono (fun e w2 h => by rw [ein] at h; exact h)).mono ?_; rintro e w' ⟨rfl, rfl⟩)
    go_ret
    exact RetB.mk true rfl (good_iff HU.out rfl) (Ext.refl _)
theorem noUse_call : ∀ args w, (callFunc 45 args).run Try.prog w = .ok (.enter 45 args) w := by intro args w; simp [go_sem]

set_option maxHeartbeats 8000000 in
theorem implMemoryValid (af : Option Addr) (cf : Nat) (F : List Int) (at_ : Option Addr) (ct : Nat) (T : List (List Int)) (w : World) (hF : F.length ≤ 9223372036854775807) (hT : T.length ≤ 9223372036854775807) (hrf : Rd 1 encInt1 w af F) (hrt : RdT w at_ T) :
    Calls Try.prog 16 #[.agg #[.slice af F.length cf, .slice at_ T.length ct]] w (RetB (MemOk F T) w) := by
  go_enter Try.func16, Try.ntmps16
  have S := Sep.start w
  replace S : Sep w (w.alloc (.cells #[.slice af F.length cf, .slice at_ T.length ct] 28)) [plBox w.heap.size #[.slice af F.length cf, .slice at_ T.length ct] 28] := S.alloc_at (by simp) _ _
  by_cases h12 : F.length ≤ 12
  rotate_left
  · have i1 : (12 : Int) < (F.length : Int) := by omega
    have HB : Hid (¬ MemOk F T) := Lib.hid (fun h => h12 h.frames)
    go_wp2
    go_ret
    exact RetB.mk false rfl (bad_iff HB.out rfl) S.ext
  have i1 : decide ((12 : Int) < (F.length : Int)) = false := by simp; omega
  by_cases h4 : T.length ≤ 4
  rotate_left
  · have i2 : (4 : Int) < (T.length : Int) := by omega
    have HB : Hid (¬ MemOk F T) := Lib.hid (fun h => h4 h.tables)
    go_wp2
    go_ret
    exact RetB.mk false rfl (bad_iff HB.out rfl) S.ext
  have i2 : decide ((4 : Int) < (T.length : Int)) = false := by simp; omega
  go_wp2_with fail
  generalize (w.alloc (.cells #[.slice af F.length cf, .slice at_ T.length ct] 28)) = w1 at *
  refine (hasInt_fn af cf F.length F w1 45 #[] (fun x => ¬ UseOk x) rfl hF (hrf.ext S.ext) noUse_call (fun x w' _ => noUse_any x w')).mono ?_
  rintro e w2 ⟨v0, rfl, hv0, hE⟩
  have Hv0 := Lib.hid hv0
  clear hv0
  replace S : Sep w w2 [plBox w.heap.size #[.slice af F.length cf, .slice at_ T.length ct] 28] := S.step hE
  clear hE
  cases v0 with
  | true =>
    have HB : Hid (¬ MemOk F T) := Lib.hid (fun h => by
      obtain ⟨j, x, hx, hn⟩ := Hv0.out.1 rfl
      exact hn (h.uses j x hx))
    go_wp2
    go_ret
    exact RetB.mk false rfl (bad_iff HB.out rfl) S.ext
  | false =>
    have HU : Hid (∀ (j : Nat) x, F[j]? = some x → UseOk x) := Lib.hid (fun j x hx => by
      by_cases h : UseOk x
      · exact h
      · exact Bool.noConfusion (Hv0.out.2 ⟨j, x, hx, h⟩))
    clear Hv0
    obtain ⟨bc0, bf0⟩ : w2.cell? ⟨w.heap.size, 0, none⟩ = some (.slice af F.length cf) ∧ w2.frozen? ⟨w.heap.size, 0, none⟩ = false := bx (S.box 0 rfl) 0 rfl
    obtain ⟨bc1, bf1⟩ : w2.cell? ⟨w.heap.size, 1, none⟩ = some (.slice at_ T.length ct) ∧ w2.frozen? ⟨w.heap.size, 1, none⟩ = false := bx (S.box 0 rfl) 1 rfl
    go_wp2
    clear bc0 bf0 bc1 bf1
    go_loopw [25] (fun i wr => ∃ k : Nat, k ≤ T.length ∧ i = .int .i64 k ∧ (∀ (j : Nat) t, j < k → T[j]? = some t → TabOk F.length t) ∧ Sep w wr [plBox w.heap.size #[.slice af F.length cf, .slice at_ T.length ct] 28]) (fun i _ => T.length - (intOf i).toNat)
    case atStart => exact ⟨0, Nat.zero_le _, rfl, fun _ _ h => absurd h (Nat.not_lt_zero _), S⟩
    case round =>
      clear S
      obtain ⟨k, hk, rfl, hpre, S⟩ := hrel
      have Hpre := Lib.hid hpre
      clear hpre
      by_cases hlk : k < T.length
      · obtain ⟨t, p, off, ai, ci, ht, hpe, c0, hci, hrt1⟩ := atTab (hrt.ext S.ext) hlk
        subst hpe
        have Ht := Lib.hid ht
        have i0 : (k : Int) < (T.length : Int) := by omega
        clear ht
        by_cases ht4 : t.length ≤ 4
        · have h4i : ¬ (4 : Int) < (t.length : Int) := by omega
          have HR : Hid (∀ w', Ext wr w' → Rd 1 encInt1 w' ai t) := Lib.hid (fun w' h => hrt1.ext h)
          clear hrt1
          go_wp2
          clear c0
          go_loopw [34] (fun i wq => ∃ m : Nat, m ≤ t.length ∧ i = .int .i64 m ∧ (∀ j, j < m → PageOk F.length t j) ∧ Rd 1 encInt1 wq ai t ∧ Sep w wq [plBox w.heap.size #[.slice af F.length cf, .slice (some ⟨p, off, none⟩) T.length ct] 28]) (fun i _ => t.length - (intOf i).toNat)
          case atStart => exact ⟨0, Nat.zero_le _, rfl, fun _ h => absurd h (Nat.not_lt_zero _), HR.out _ (Ext.refl _), S⟩
          case round =>
            clear S HR
            obtain ⟨m, hm, rfl, hpre2, hrt1, S⟩ := hrel
            have Hpre2 := Lib.hid hpre2
            clear hpre2
            by_cases hlm : m < t.length
            · obtain ⟨x, q, o2, hx, hqe, d0⟩ := atInt hrt1 hlm
              subst hqe
              have Hx := Lib.hid hx
              have i3 : (m : Int) < (t.length : Int) := by omega
              have i4 : (m : Int) ≤ (ci : Int) := by omega
              have hwr : IntKind.i64.wrap ((F.length : Int) - 1) = (F.length : Int) - 1 := IntWalk.i64_in _ (by omega)
              have hrk := hrt1.take m
              have hlk2 : m = (t.take m).length := by rw [List.length_take]; omega
              have Hlk2 := Lib.hid hlk2
              clear hx hlk2
              obtain ⟨bc0, bf0⟩ : wr.cell? ⟨w.heap.size, 0, none⟩ = some (.slice af F.length cf) ∧ wr.frozen? ⟨w.heap.size, 0, none⟩ = false := bx (S.box 0 rfl) 0 rfl
              obtain ⟨bc1, bf1⟩ : wr.cell? ⟨w.heap.size, 1, none⟩ = some (.slice (some ⟨p, off, none⟩) T.length ct) ∧ wr.frozen? ⟨w.heap.size, 1, none⟩ = false := bx (S.box 0 rfl) 1 rfl
              by_cases hu : 0 ≤ x ∧ x ≤ (F.length : Int) - 1
              · have ein := inB_iff.2 hu
                have Hu := Lib.hid hu
                clear hu
                go_wp2_with (first | (go_at_call 47; refine ((within_any _ _ _ _).mono (fun e w2 h => by rw [ein] at h; exact h)).mono ?_; rintro e w' ⟨rfl, rfl⟩) | (go_at_call 48; refine Hid.out (?_ : Hid _)))
                unfold Hid
                refine (hasInt_any (some ⟨q, o2, none⟩) ci m (t.take m) x wr Hlk2.out (by rw [List.length_take]; omega) hrk).mono ?_
                rintro e w3 ⟨v3, rfl, hv3, hE⟩
                have Hv3 := Lib.hid hv3
                clear hv3 hrk d0
                have hrt2 := hrt1.ext hE
                clear bc0 bf0 bc1 bf1
                replace S : Sep w w3 [plBox w.heap.size #[.slice af F.length cf, .slice (some ⟨p, off, none⟩) T.length ct] 28] := S.step hE
                clear hE
                cases v3 with
                | true =>
                  have HB : Hid (¬ MemOk F T) := Lib.hid (fun h => ((h.pages k t Ht.out).2 m hlm x Hx.out).2 (Hv3.out.1 rfl))
                  go_wp2
                  go_ret
                  exact RetB.mk false rfl (bad_iff HB.out rfl) S.ext
                | false =>
                  have HN := Lib.hid (page_next Hpre2.out (fun y hy => by
                    rw [Hx.out] at hy; cases hy
                    exact ⟨Hu.out, fun h => Bool.noConfusion (Hv3.out.2 h)⟩))
                  go_wp2
                  go_roundw
                  case rel => exact ⟨m + 1, by omega, by go_num, HN.out, hrt2, S⟩
                  case measure => simp [intOf]; omega
              · have ein := inB_false hu
                have HB : Hid (¬ MemOk F T) := Lib.hid (fun h => hu ((h.pages k t Ht.out).2 m hlm x Hx.out).1)
                clear hu
                go_wp2_with (go_at_call 47; refine ((within_any _ _ _ _).mono (fun e w2 h => by rw [ein] at h; exact h)).mono ?_; rintro e w' ⟨rfl, rfl⟩)
                go_ret
                exact RetB.mk false rfl (bad_iff HB.out rfl) S.ext
            · obtain rfl : m = t.length := by omega
              have hni2 : ¬ (t.length : Int) < (t.length : Int) := by omega
              have HN := Lib.hid (at_next Hpre.out Ht.out (show TabOk F.length t from ⟨ht4, Hpre2.out⟩))
              go_wp2
              go_roundw
              case rel => exact ⟨k + 1, by omega, by go_num, HN.out, S⟩
              case measure => simp [intOf]; omega
        · have h4i : (4 : Int) < (t.length : Int) := by omega
          have HB : Hid (¬ MemOk F T) := Lib.hid (fun h => ht4 (h.pages k t Ht.out).1)
          go_wp2
          go_ret
          exact RetB.mk false rfl (bad_iff HB.out rfl) S.ext
      · obtain rfl : k = T.length := by omega
        have hni : ¬ (T.length : Int) < (T.length : Int) := by omega
        have HG : Hid (MemOk F T) := Lib.hid ⟨h12, h4, HU.out, at_all Hpre.out⟩
        go_wp2
        go_ret
        exact RetB.mk true rfl (good_iff HG.out rfl) S.ext
end Go.Proofs.Ytpnllhdgpfbaiaa
