/- The program's regionsOf: its contract. Condition: 64 pages. -/
import Derived.Test.YthajlaelaebmnaaRegR
namespace Go.Proofs.Ythajlaelaebmnaa
open Go.RowKit

theorem regsK_succ (R : Int → Int) (k : Nat) : regsK R (k + 1) = addPage (regsK R k) k (R k) := rfl

set_option maxHeartbeats 4000000 in
theorem regionsOf_any (b off cap : Nat) (R : Int → Int) (w : World) (hc : Rd 1 encInt1 w (some ⟨b, off, none⟩) (pgs R)) :
    Calls Try.prog 46 #[.slice (some ⟨b, off, none⟩) 64 cap] w fun e w' => ∃ u, e = .returned u ∧ Sep w w' [plRow 33 3 encReg u (regsK R 64)] := by
  go_enter Try.func46, Try.ntmps46
  have S0 := (Sep.start w).lit0 (n := w.heap.size) rfl 33 3 encReg
  go_wp2
  generalize (w.alloc (.cells #[] 33)) = w1 at *
  go_loopw [3, 10] (fun v i wr => ∃ k : Nat, k ≤ 64 ∧ i = .int .i64 k ∧ Sep w wr [plRow 33 3 encReg v (regsK R k)]) (fun _ i _ => 64 - (intOf i).toNat)
  case atStart => exact ⟨0, by omega, rfl, S0⟩
  case round =>
    obtain ⟨k, hk, rfl, S⟩ := hrel
    clear S0
    by_cases hlt : k < 64
    · have i0 : (k : Int) < 64 := by omega
      obtain ⟨x, b', off', hx, hpe, c0⟩ := atInt (hc.ext S.ext) (show k < (pgs R).length by rw [pgs_len]; exact hlt)
      obtain ⟨rfl, rfl⟩ : b = b' ∧ off = off' := by simpa using hpe
      rw [pgs_at R hlt] at hx
      obtain rfl : R k = x := Option.some.inj hx
      clear hx hpe
      obtain ⟨L, hL⟩ : ∃ L, L = regsK R k := ⟨_, rfl⟩
      have hLk : L.length ≤ 64 := by rw [hL]; have := regsK_le R k; omega
      rw [← hL] at S
      have HL := Lib.hid hL
      clear hL
      obtain ⟨r, hr⟩ : ∃ r, r = R k := ⟨_, rfl⟩
      rw [← hr] at c0
      have Hr := Lib.hid hr
      clear hr
      obtain ⟨a3, c3, hv3, hk3, _, hsh⟩ := view_owns encReg_len (S.row 0 rfl)
      subst hv3
      have HS : ∀ L', addPage L k r = L' → regsK R (k + 1) = L' := fun L' h => by rw [regsK_succ, ← HL.out, ← Hr.out]; exact h
      have HSS := Lib.hid HS
      clear HS
      by_cases hneg : r < 0
      · have HN : Hid (regsK R (k + 1) = L) := Lib.hid (HSS.out L (addPage_neg hneg))
        clear hsh
        go_wp2
        go_roundw
        case rel => exact ⟨k + 1, by omega, by go_num, by rw [HN.out]; exact S⟩
        case measure => simp [intOf]; omega
      · have hneg2 : decide (r < 0) = false := by simpa using hneg
        have hwk : IntKind.i64.wrap ((k : Int) + 1) = (k : Int) + 1 := IntWalk.i64_in _ (by omega)
        rcases (show L = [] ∨ ∃ m, L.length = m + 1 by cases L with | nil => exact .inl rfl | cons y l => exact .inr ⟨l.length, rfl⟩) with hLc | ⟨m, hm⟩
        · subst hLc
          clear hsh
          have HN : Hid (regsK R (k + 1) = [] ++ [⟨k, k + 1, r⟩]) := Lib.hid (HSS.out _ (addPage_nil hneg))
          have SA := S.alloc #[.int .i64 k, .int .i64 (k + 1), .int .i64 r] 33
          have rd1 : Rd 3 encReg (wr.alloc (.cells #[.int .i64 k, .int .i64 (k + 1), .int .i64 r] 33)) (some ⟨wr.heap.size, 0, none⟩) [⟨k, k + 1, r⟩] := rd_lit_new [⟨k, k + 1, r⟩] encReg_len rfl
          go_wp2_with (at_builtin; refine Hid.out (?_ : Hid _))
          unfold Hid
          refine wpList_append_b rfl _ _ 25 rfl w.heap.size 33 _ 3 _ Try.underlying25 infoReg rfl (by decide) encReg_len encReg_one _ ([] : List Reg).length ([] : List Reg) rfl (SA.row 1 rfl) rfl (some ⟨wr.heap.size, 0, none⟩) 1 1 [⟨k, k + 1, r⟩] rfl rfl rd1 (by omega) (by omega) SA.chg.size ?_
          intro v' w5 ho hgr hblk
          have S5 := (SA.grow 1 rfl hgr ho hblk).drop 0
          clear ho hgr hblk SA rd1
          go_wp2
          go_roundw
          case rel => exact ⟨k + 1, by omega, by go_num, by rw [HN.out]; exact S5⟩
          case measure => simp [intOf]; omega
        · obtain ⟨y, hy⟩ : ∃ y, L[m]? = some y := ⟨_, List.getElem?_eq_getElem (by omega)⟩
          rcases hsh with ⟨_, h0, _⟩ | ⟨g, rfl, hg⟩
          · rw [h0] at hm; cases hm
          obtain ⟨y', p, o2, hy', hpe, d0, d1, d2⟩ := atReg (S.rd 0 encReg_len rfl rfl) (show m < L.length by omega)
          obtain rfl : y = y' := by rw [hy] at hy'; exact Option.some.inj hy'
          obtain ⟨rfl, rfl⟩ : g = p ∧ 0 = o2 := by simpa using hpe
          clear hy' hpe hg
          have Hy := Lib.hid hy
          have Hm := Lib.hid hm
          have hm64 : m + 1 ≤ 64 := by omega
          have hmk : m + 1 ≤ c3 := by omega
          have fz := (S.row 0 rfl).frozenAt
          rw [Nat.zero_add] at d0 d1 d2
          rw [hm]
          clear hy hm
          have j0 : (0 : Int) ≤ (m : Int) := by omega
          have j1 : (m : Int) < ((m + 1 : Nat) : Int) := by omega
          have j2 : (((m + 1 : Nat) : Int) - 1) = (m : Int) := by omega
          by_cases ht : y.t = (k : Int)
          · have tt : (y.t == (k : Int)) = true := by simpa using ht
            by_cases hr2 : y.r = r
            · have tr : (y.r == r) = true := by simpa using hr2
              have HN : Hid (regsK R (k + 1) = L.set m ⟨y.f, k + 1, y.r⟩) := Lib.hid (HSS.out _ (addPage_hit hneg Hm.out Hy.out ⟨ht, hr2⟩))
              have hyl : L[m]'(by rw [Hm.out]; omega) = y := by
                have := Hy.out
                rw [List.getElem?_eq_getElem (by rw [Hm.out]; omega)] at this
                exact Option.some.inj this
              have S2 := S.rowSet 0 encReg_len rfl rfl m 1 (.int .i64 ((k : Int) + 1)) ⟨y.f, (k : Int) + 1, y.r⟩ (by rw [Hm.out]; omega) (by omega) (by rw [hyl]; rfl)
              rw [Hm.out] at S2
              clear hyl
              obtain ⟨yf, yt, yr⟩ := y
              simp only at ht hr2
              subst ht hr2
              have f1 := fz (m * 3 + 1)
              go_wp2
              go_roundw
              case rel => exact ⟨k + 1, by omega, by go_num, by rw [HN.out]; exact S2⟩
              case measure => simp [intOf]; omega
            · have tr : (y.r == r) = false := by simpa using hr2
              have HN : Hid (regsK R (k + 1) = L ++ [⟨k, k + 1, r⟩]) := Lib.hid (HSS.out _ (addPage_new hneg Hm.out Hy.out (fun h => hr2 h.2)))
              clear ht hr2
              have SA := S.alloc #[.int .i64 k, .int .i64 (k + 1), .int .i64 r] 33
              have rd1 : Rd 3 encReg (wr.alloc (.cells #[.int .i64 k, .int .i64 (k + 1), .int .i64 r] 33)) (some ⟨wr.heap.size, 0, none⟩) [⟨k, k + 1, r⟩] := rd_lit_new [⟨k, k + 1, r⟩] encReg_len rfl
              have hrow : (wr.alloc (.cells #[.int .i64 k, .int .i64 (k + 1), .int .i64 r] 33)).ownsRow w.heap.size 33 3 (.slice (some ⟨g, 0, none⟩) (m + 1) c3) (m + 1) (L.flatMap encReg) := by
                have := SA.row 1 rfl
                rw [Hm.out] at this; exact this
              go_wp2_with (at_builtin; refine Hid.out (?_ : Hid _))
              unfold Hid
              refine wpList_append_b rfl _ _ 25 rfl w.heap.size 33 _ 3 _ Try.underlying25 infoReg rfl (by decide) encReg_len encReg_one _ (m + 1) L rfl hrow Hm.out.symm (some ⟨wr.heap.size, 0, none⟩) 1 1 [⟨k, k + 1, r⟩] rfl rfl rd1 (by omega) (by omega) SA.chg.size ?_
              intro v' w5 ho hgr hblk
              have S5 := (SA.grow 1 rfl hgr ho hblk).drop 0
              clear ho hgr hblk SA rd1 hrow
              go_wp2
              go_roundw
              case rel => exact ⟨k + 1, by omega, by go_num, by rw [HN.out]; exact S5⟩
              case measure => simp [intOf]; omega
          · have tt : (y.t == (k : Int)) = false := by simpa using ht
            have HN : Hid (regsK R (k + 1) = L ++ [⟨k, k + 1, r⟩]) := Lib.hid (HSS.out _ (addPage_new hneg Hm.out Hy.out (fun h => ht h.1)))
            clear ht
            have SA := S.alloc #[.int .i64 k, .int .i64 (k + 1), .int .i64 r] 33
            have rd1 : Rd 3 encReg (wr.alloc (.cells #[.int .i64 k, .int .i64 (k + 1), .int .i64 r] 33)) (some ⟨wr.heap.size, 0, none⟩) [⟨k, k + 1, r⟩] := rd_lit_new [⟨k, k + 1, r⟩] encReg_len rfl
            have hrow : (wr.alloc (.cells #[.int .i64 k, .int .i64 (k + 1), .int .i64 r] 33)).ownsRow w.heap.size 33 3 (.slice (some ⟨g, 0, none⟩) (m + 1) c3) (m + 1) (L.flatMap encReg) := by
              have := SA.row 1 rfl
              rw [Hm.out] at this; exact this
            go_wp2_with (at_builtin; refine Hid.out (?_ : Hid _))
            unfold Hid
            refine wpList_append_b rfl _ _ 25 rfl w.heap.size 33 _ 3 _ Try.underlying25 infoReg rfl (by decide) encReg_len encReg_one _ (m + 1) L rfl hrow Hm.out.symm (some ⟨wr.heap.size, 0, none⟩) 1 1 [⟨k, k + 1, r⟩] rfl rfl rd1 (by omega) (by omega) SA.chg.size ?_
            intro v' w5 ho hgr hblk
            have S5 := (SA.grow 1 rfl hgr ho hblk).drop 0
            clear ho hgr hblk SA rd1 hrow
            go_wp2
            go_roundw
            case rel => exact ⟨k + 1, by omega, by go_num, by rw [HN.out]; exact S5⟩
            case measure => simp [intOf]; omega
    · obtain rfl : k = 64 := by omega
      go_wp2
      go_ret
      exact ⟨_, rfl, S⟩
end Go.Proofs.Ythajlaelaebmnaa
