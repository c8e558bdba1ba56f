/- FnFrameUses: the walk. Condition: the code is shorter than 2^63. -/
import Derived.Test.YtpnllhdgpfbaiaaDrawPg2
import Derived.Test.YtpnllhdgpfbaiaaPagP
import Derived.Test.YtpnllhdgpfbaiaaPagSm
import Derived.Test.YtpnllhdgpfbaiaaAlive
namespace Go.Proofs.Ytpnllhdgpfbaiaa
open Go.RowKit

set_option maxRecDepth 10000 in
set_option maxHeartbeats 8000000 in
theorem fnFrameUses_any (ac : Option Addr) (capc : Nat) (code : List Int) (w : World) (hlc : code.length ≤ 9223372036854775807) (hcap : code.length ≤ capc) (hu : ∀ x ∈ code, 0 ≤ x ∧ x ≤ 255) (hcc : Rd 1 encU8 w ac code) :
    Calls Try.prog 8 #[.slice ac code.length capc] w (RetB True w) := by
  go_enter Try.func8, Try.ntmps8
  by_cases hbig : 1048576 < code.length
  · have hb : (1048576 : Int) < (code.length : Int) := by omega
    go_wp2
    go_ret
    exact RetB.mk true rfl (by simp) (Ext.refl _)
  have hb : (code.length : Int) ≤ 1048576 := by omega
  have S := Sep.start w
  go_wp2_with fail
  refine (drawFrameUses ac capc code w hlc hcap hu hcc).mono ?_
  rintro e w1 ⟨v, rfl, af, cf, F, at0, ct, vT, T, rfl, hF14, hT6, hT4, hcf, hct, U⟩
  have HT4 : Hid (∀ t ∈ T, t.length ≤ 9223372036854775807) := Lib.hid (fun t ht => by have := hT4 t ht; omega)
  have HT44 := Lib.hid hT4
  clear hT4 hb hbig
  replace S : Sep w w1 [plTab (.slice at0 T.length ct) vT T, plRow 3 1 encInt1 (.slice af F.length cf) F] := S.call U
  clear U
  replace S : Sep w (w1.alloc (.cells #[.slice af F.length cf, .slice at0 T.length ct] 28)) [plBox w1.heap.size #[.slice af F.length cf, .slice at0 T.length ct] 28, plTab (.slice at0 T.length ct) vT T, plRow 3 1 encInt1 (.slice af F.length cf) F] := S.alloc_at (by simp) _ _
  obtain ⟨mbc0, mbf0⟩ : (w1.alloc (.cells #[.slice af F.length cf, .slice at0 T.length ct] 28)).cell? ⟨w1.heap.size, 0, none⟩ = some (.slice af F.length cf) ∧ (w1.alloc (.cells #[.slice af F.length cf, .slice at0 T.length ct] 28)).frozen? ⟨w1.heap.size, 0, none⟩ = false := bx (S.box 0 rfl) 0 rfl
  obtain ⟨mbc1, mbf1⟩ : (w1.alloc (.cells #[.slice af F.length cf, .slice at0 T.length ct] 28)).cell? ⟨w1.heap.size, 1, none⟩ = some (.slice at0 T.length ct) ∧ (w1.alloc (.cells #[.slice af F.length cf, .slice at0 T.length ct] 28)).frozen? ⟨w1.heap.size, 1, none⟩ = false := bx (S.box 0 rfl) 1 rfl
  go_wp2_with fail
  clear mbc0 mbf0 mbc1 mbf1
  generalize (w1.alloc (.cells #[.slice af F.length cf, .slice at0 T.length ct] 28)) = w2 at *
  refine (implFrameUses af cf F at0 ct T _ (by omega) (by omega) (S.rd 2 encInt1_len rfl rfl) (S.rdt 1 rfl)).mono ?_
  rintro e w3 ⟨u3, X, rfl, hR, U⟩
  have HR := Lib.hid hR
  have hX12 := usesR_len hR
  clear hR
  obtain ⟨ax, cx, hv, _, _, _⟩ := view_owns encInt1_len (U.row 0 rfl)
  subst hv
  replace S : Sep w w3 [plRow 3 1 encInt1 (.slice ax X.length cx) X, plBox w1.heap.size #[.slice af F.length cf, .slice at0 T.length ct] 28, plTab (.slice at0 T.length ct) vT T, plRow 3 1 encInt1 (.slice af F.length cf) F] := S.call U
  clear U
  obtain ⟨mbc0, mbf0⟩ : w3.cell? ⟨w1.heap.size, 0, none⟩ = some (.slice af F.length cf) ∧ w3.frozen? ⟨w1.heap.size, 0, none⟩ = false := bx (S.box 1 rfl) 0 rfl
  obtain ⟨mbc1, mbf1⟩ : w3.cell? ⟨w1.heap.size, 1, none⟩ = some (.slice at0 T.length ct) ∧ w3.frozen? ⟨w1.heap.size, 1, none⟩ = false := bx (S.box 1 rfl) 1 rfl
  go_wp2_with fail
  clear mbc0 mbf0 mbc1 mbf1
  refine (specFrameUses af cf F at0 ct T _ (by omega) (by omega) (S.rd 3 encInt1_len rfl rfl) (S.rdt 2 rfl)).mono ?_
  rintro e w4 ⟨u4, Y, rfl, hR, U⟩
  obtain rfl := usesR_fun HR.out hR
  clear hR
  obtain ⟨ay, cy, hv, _, _, _⟩ := view_owns encInt1_len (U.row 0 rfl)
  subst hv
  replace S : Sep w w4 [plRow 3 1 encInt1 (.slice ay X.length cy) X, plRow 3 1 encInt1 (.slice ax X.length cx) X, plBox w1.heap.size #[.slice af F.length cf, .slice at0 T.length ct] 28, plTab (.slice at0 T.length ct) vT T, plRow 3 1 encInt1 (.slice af F.length cf) F] := S.call U
  clear U
  go_wp2_with fail
  refine (sameInts_any _ _ _ _ X X _ (by omega) (by omega) (S.rd 1 encInt1_len rfl rfl) (S.rd 0 encInt1_len rfl rfl)).mono ?_
  rintro e w5 ⟨q5, rfl, hq, hE⟩
  obtain rfl : q5 = true := hq.2 rfl
  clear hq
  replace S : Sep w w5 [plRow 3 1 encInt1 (.slice ay X.length cy) X, plRow 3 1 encInt1 (.slice ax X.length cx) X, plBox w1.heap.size #[.slice af F.length cf, .slice at0 T.length ct] 28, plTab (.slice at0 T.length ct) vT T, plRow 3 1 encInt1 (.slice af F.length cf) F] := S.step hE
  clear hE
  obtain ⟨mbc0, mbf0⟩ : w5.cell? ⟨w1.heap.size, 0, none⟩ = some (.slice af F.length cf) ∧ w5.frozen? ⟨w1.heap.size, 0, none⟩ = false := bx (S.box 2 rfl) 0 rfl
  obtain ⟨mbc1, mbf1⟩ : w5.cell? ⟨w1.heap.size, 1, none⟩ = some (.slice at0 T.length ct) ∧ w5.frozen? ⟨w1.heap.size, 1, none⟩ = false := bx (S.box 2 rfl) 1 rfl
  go_wp2_with fail
  clear mbc0 mbf0 mbc1 mbf1
  refine (implMemoryValid af cf F at0 ct T _ (by omega) (by omega) (S.rd 4 encInt1_len rfl rfl) (S.rdt 3 rfl)).mono ?_
  rintro e w6 ⟨v0, rfl, hv0, hE⟩
  have Hv0 := Lib.hid hv0
  clear hv0
  replace S : Sep w w6 [plRow 3 1 encInt1 (.slice ay X.length cy) X, plRow 3 1 encInt1 (.slice ax X.length cx) X, plBox w1.heap.size #[.slice af F.length cf, .slice at0 T.length ct] 28, plTab (.slice at0 T.length ct) vT T, plRow 3 1 encInt1 (.slice af F.length cf) F] := S.step hE
  clear hE
  cases v0 with
  | false =>
    obtain rfl : X = [] := HR.out.1 (fun h => Bool.noConfusion (Hv0.out.2 h))
    go_wp2_with fail
    refine (alive_any _).mono ?_
    rintro e w8 ⟨b3, rfl, hb3, hE⟩
    obtain rfl : b3 = true := hb3.2 trivial
    clear hb3
    replace S : Sep w w8 [plRow 3 1 encInt1 (.slice ay ([] : List Int).length cy) ([] : List Int), plRow 3 1 encInt1 (.slice ax ([] : List Int).length cx) ([] : List Int), plBox w1.heap.size #[.slice af F.length cf, .slice at0 T.length ct] 28, plTab (.slice at0 T.length ct) vT T, plRow 3 1 encInt1 (.slice af F.length cf) F] := S.step hE
    clear hE
    go_wp2
    go_ret
    exact RetB.mk true rfl (by simp) S.ext
  | true =>
    have HL := Lib.hid (uses_law (Hv0.out.1 rfl) HR.out)
    clear Hv0 HR
    have hsum : (0 : Int) ≤ (X.take 0).sum := by simp
    go_wp2
    go_loopw [5, 6] (fun s i wr => ∃ k : Nat, k ≤ X.length ∧ i = .int .i64 k ∧ s = .int .i64 (X.take k).sum ∧ Ext w6 wr) (fun _ i _ => X.length - (intOf i).toNat)
    case atStart => exact ⟨0, Nat.zero_le _, rfl, by simp, Ext.refl _⟩
    case round =>
      obtain ⟨k, hk, rfl, rfl, hb⟩ := hrel
      have hb0 := hb
      clear hsum
      replace S : Sep w wr [plRow 3 1 encInt1 (.slice ay X.length cy) X, plRow 3 1 encInt1 (.slice ax X.length cx) X, plBox w1.heap.size #[.slice af F.length cf, .slice at0 T.length ct] 28, plTab (.slice at0 T.length ct) vT T, plRow 3 1 encInt1 (.slice af F.length cf) F] := S.step hb
      clear hb
      have hb1 := sum_bound HL.out.2.2 k
      by_cases hlk : k < X.length
      · obtain ⟨y, p, off, hy, hpe, c0⟩ := atInt (S.rd 1 encInt1_len rfl rfl) hlk
        subst hpe
        have HN := Lib.hid (sum_take hy)
        have hyb := HL.out.2.2 y (List.mem_of_getElem? hy)
        clear hy
        have i0 : (0 : Int) ≤ (k : Int) := by omega
        have i1 : (k : Int) < (X.length : Int) := by omega
        have hw : IntKind.i64.wrap ((X.take k).sum + y) = (X.take k).sum + y := IntWalk.i64_in _ (by omega)
        obtain ⟨s0, hs0⟩ : ∃ s0, s0 = (X.take k).sum := ⟨_, rfl⟩
        rw [← hs0] at hw HN ⊢
        clear hs0 hb1
        go_wp2
        go_roundw
        case rel => exact ⟨k + 1, by omega, by go_num, by rw [HN.out], hb0⟩
        case measure => simp [intOf]; omega
      · obtain rfl : k = X.length := by omega
        have hni : ¬ (X.length : Int) < (X.length : Int) := by omega
        have hs0 : (X.take X.length).sum = (sumL T : Int) := by rw [List.take_length]; exact HL.out.2.1
        rw [hs0]
        clear hs0 hb1
        have hsT : sumL T ≤ 24 := sumL_small HT44.out hT6
        go_wp2
        go_loopw [5, 7] (fun s i wx => ∃ k : Nat, k ≤ T.length ∧ i = .int .i64 k ∧ s = .int .i64 ((sumL T : Int) - (sumL (T.take k) : Int)) ∧ Ext wr wx) (fun _ i _ => T.length - (intOf i).toNat)
        case atStart => exact ⟨0, Nat.zero_le _, rfl, by simp [sumL], Ext.refl _⟩
        case round =>
          clear hb0
          obtain ⟨k, hk, rfl, rfl, hb⟩ := hrel
          have hb0 := hb
          replace S : Sep w wr [plRow 3 1 encInt1 (.slice ay X.length cy) X, plRow 3 1 encInt1 (.slice ax X.length cx) X, plBox w1.heap.size #[.slice af F.length cf, .slice at0 T.length ct] 28, plTab (.slice at0 T.length ct) vT T, plRow 3 1 encInt1 (.slice af F.length cf) F] := S.step hb
          clear hb
          obtain ⟨mbc0, mbf0⟩ : wr.cell? ⟨w1.heap.size, 0, none⟩ = some (.slice af F.length cf) ∧ wr.frozen? ⟨w1.heap.size, 0, none⟩ = false := bx (S.box 2 rfl) 0 rfl
          obtain ⟨mbc1, mbf1⟩ : wr.cell? ⟨w1.heap.size, 1, none⟩ = some (.slice at0 T.length ct) ∧ wr.frozen? ⟨w1.heap.size, 1, none⟩ = false := bx (S.box 2 rfl) 1 rfl
          have hsk := sumL_take T k
          by_cases hlk : k < T.length
          · obtain ⟨t, p, off, ai, ci, hx, hpe, c0, _, _⟩ := atTab (S.rdt 3 rfl) hlk
            subst hpe
            have HN := Lib.hid (sumL_step hx)
            have hsk1 := sumL_take T (k + 1)
            rw [HN.out] at hsk1
            clear hx
            have i0 : (0 : Int) ≤ (k : Int) := by omega
            have i1 : (k : Int) < (T.length : Int) := by omega
            have hw : IntKind.i64.wrap ((sumL T : Int) - (sumL (T.take k) : Int) - (t.length : Int)) = (sumL T : Int) - (sumL (T.take k) : Int) - (t.length : Int) := IntWalk.i64_in _ (by omega)
            go_wp2
            go_roundw
            case rel => exact ⟨k + 1, by omega, by go_num, by rw [HN.out]; push_cast; congr 1; omega, hb0⟩
            case measure => simp [intOf]; omega
          · obtain rfl : k = T.length := by omega
            have hni : ¬ (T.length : Int) < (T.length : Int) := by omega
            have hz : (sumL T : Int) - (sumL (T.take T.length) : Int) = 0 := by rw [List.take_length]; omega
            rw [hz]
            have te : ((X.length : Int) == (F.length : Int)) = true := by have := HL.out.1; simp; omega
            clear hz hsk
            go_wp2
            go_ret
            exact RetB.mk true rfl (by simp) S.ext
end Go.Proofs.Ytpnllhdgpfbaiaa
