/- FnLeaveGate: the walk. Condition: the code is shorter than 2^63. -/
import Derived.Test.YtcnghlmndahfpaaGateP
import Derived.Test.YtcnghlmndahfpaaQuiet
namespace Go.Proofs.Ytcnghlmndahfpaa
open Go.RowKit

set_option maxRecDepth 10000 in
set_option maxHeartbeats 8000000 in
theorem fnLeaveGate_any (ac : Option Addr) (capc : Nat) (code : List Int) (w : World) (hlc : code.length ≤ 9223372036854775807) (hcap : code.length ≤ capc) (hu : ∀ x ∈ code, 0 ≤ x ∧ x ≤ 255) (hcc : Rd 1 encU8 w ac code) :
    Calls Try.prog 8 #[.slice ac code.length capc] w (RetB True w) := by
  go_enter Try.func8, Try.ntmps8
  by_cases hbig : 1048576 < code.length
  · have hb : (1048576 : Int) < (code.length : Int) := by omega
    go_wp2
    go_ret
    exact RetB.mk true rfl (by simp) (Ext.refl _)
  have hb : (code.length : Int) ≤ 1048576 := by omega
  have S := Sep.start w
  go_wp2_with fail
  refine (drawLeaveGate ac capc code w hlc hcap hu hcc).mono ?_
  rintro e w1 ⟨f, a, l, cap, rfl, hl12, hlcap, T⟩
  replace S : Sep w w1 [plView 1 encInt1 a l] := S.call T
  clear T
  clear hb hbig
  replace S : Sep w (w1.alloc (.cells #[.int .i64 f, .slice a l.length cap] 27)) [plBox w1.heap.size #[.int .i64 f, .slice a l.length cap] 27, plView 1 encInt1 a l] := S.alloc_at (by simp) _ _
  go_wp2_with fail
  generalize (w1.alloc (.cells #[.int .i64 f, .slice a l.length cap] 27)) = w2 at *
  refine (implLeaveGate f a cap l w2 (by omega) hlcap (S.see 1 rfl)).mono ?_
  rintro e w3 ⟨f3, u3, X, n, rfl, hR, ho, hE⟩
  obtain ⟨ax, cx, hv, hxcap, _, _⟩ := view_owns encInt1_len ho
  subst hv
  have T := Sep.of_owns hE ho
  have HR := Lib.hid hR
  have hX := leaR_le hR
  clear hE ho hR
  replace S : Sep w w3 [plRow 3 1 encInt1 (.slice ax X.length cx) X, plBox w1.heap.size #[.int .i64 f, .slice a l.length cap] 27, plView 1 encInt1 a l] := S.call T
  clear T
  replace S : Sep w (w3.alloc (.cells #[.int .i64 f3, .slice ax X.length cx] 27)) [plBox w3.heap.size #[.int .i64 f3, .slice ax X.length cx] 27, plRow 3 1 encInt1 (.slice ax X.length cx) X, plBox w1.heap.size #[.int .i64 f, .slice a l.length cap] 27, plView 1 encInt1 a l] := S.alloc_at (by simp) _ _
  obtain ⟨gbc0, gbf0⟩ : (w3.alloc (.cells #[.int .i64 f3, .slice ax X.length cx] 27)).cell? ⟨w1.heap.size, 0, none⟩ = some (.int .i64 f) ∧ (w3.alloc (.cells #[.int .i64 f3, .slice ax X.length cx] 27)).frozen? ⟨w1.heap.size, 0, none⟩ = false := bx (S.box 2 rfl) 0 rfl
  obtain ⟨gbc1, gbf1⟩ : (w3.alloc (.cells #[.int .i64 f3, .slice ax X.length cx] 27)).cell? ⟨w1.heap.size, 1, none⟩ = some (.slice a l.length cap) ∧ (w3.alloc (.cells #[.int .i64 f3, .slice ax X.length cx] 27)).frozen? ⟨w1.heap.size, 1, none⟩ = false := bx (S.box 2 rfl) 1 rfl
  go_wp2_with fail
  generalize (w3.alloc (.cells #[.int .i64 f3, .slice ax X.length cx] 27)) = w4 at *
  refine (specLeaveGate f a cap l w4 (by omega) (S.see 3 rfl)).mono ?_
  rintro e w5 ⟨f5, ay, Y, cy, n5, rfl, hR, hry, hby, hyc, hE⟩
  obtain ⟨rfl, rfl, rfl⟩ := leaR_fun HR.out hR
  have T := Sep.of_view hE hry hby
  clear hE hry hby hR
  clear gbc0 gbf0 gbc1 gbf1
  replace S : Sep w w5 [plView 1 encInt1 ay X, plBox w3.heap.size #[.int .i64 f3, .slice ax X.length cx] 27, plRow 3 1 encInt1 (.slice ax X.length cx) X, plBox w1.heap.size #[.int .i64 f, .slice a l.length cap] 27, plView 1 encInt1 a l] := S.call T
  clear T
  replace S : Sep w (w5.alloc (.cells #[.int .i64 f3, .slice ay X.length cy] 27)) [plBox w5.heap.size #[.int .i64 f3, .slice ay X.length cy] 27, plView 1 encInt1 ay X, plBox w3.heap.size #[.int .i64 f3, .slice ax X.length cx] 27, plRow 3 1 encInt1 (.slice ax X.length cx) X, plBox w1.heap.size #[.int .i64 f, .slice a l.length cap] 27, plView 1 encInt1 a l] := S.alloc_at (by simp) _ _
  have tb : (n != n) = false := by simp
  obtain ⟨xbc0, xbf0⟩ : (w5.alloc (.cells #[.int .i64 f3, .slice ay X.length cy] 27)).cell? ⟨w3.heap.size, 0, none⟩ = some (.int .i64 f3) ∧ (w5.alloc (.cells #[.int .i64 f3, .slice ay X.length cy] 27)).frozen? ⟨w3.heap.size, 0, none⟩ = false := bx (S.box 2 rfl) 0 rfl
  obtain ⟨xbc1, xbf1⟩ : (w5.alloc (.cells #[.int .i64 f3, .slice ay X.length cy] 27)).cell? ⟨w3.heap.size, 1, none⟩ = some (.slice ax X.length cx) ∧ (w5.alloc (.cells #[.int .i64 f3, .slice ay X.length cy] 27)).frozen? ⟨w3.heap.size, 1, none⟩ = false := bx (S.box 2 rfl) 1 rfl
  go_wp2_with fail
  generalize (w5.alloc (.cells #[.int .i64 f3, .slice ay X.length cy] 27)) = w6 at *
  refine (sameGate_any f3 f3 _ _ _ _ X X _ (by omega) (by omega) (S.rd 3 encInt1_len rfl rfl) (S.see 1 rfl)).mono ?_
  rintro e w7 ⟨q5, rfl, hq, hE⟩
  obtain rfl : q5 = true := hq.2 ⟨rfl, rfl⟩
  clear hq
  clear xbc0 xbf0 xbc1 xbf1
  replace S : Sep w w7 [plBox w5.heap.size #[.int .i64 f3, .slice ay X.length cy] 27, plView 1 encInt1 ay X, plBox w3.heap.size #[.int .i64 f3, .slice ax X.length cx] 27, plRow 3 1 encInt1 (.slice ax X.length cx) X, plBox w1.heap.size #[.int .i64 f, .slice a l.length cap] 27, plView 1 encInt1 a l] := S.step hE
  clear hE
  rcases leaR_ok HR.out with ⟨hn, hok, hf3, hX0⟩ | ⟨hn, hok, hf3, hX0, hf0, hf9⟩ | ⟨hn, hsame⟩
  · have HO := Lib.hid hok
    have hn1 : l.length = X.length + 1 := by rw [hX0]; simp
    have HX0 := Lib.hid hX0
    have hn0 : decide (n < 0) = false := by simp; omega
    have tn : (n == 0) = false := by simp; omega
    have tnn : (n == n) = true := by simp
    have hX13 : X.length ≤ 12 := by omega
    subst hf3
    have Hn1 := Lib.hid hn1
    have Hd : Hid (l.drop 1 = X) := Lib.hid (by rw [hX0]; simp)
    clear hok hX0 hn1
    have hrv := S.see 5 rfl
    obtain ⟨z, p, off, hz, hpe, c0⟩ := atInt hrv (show 0 < l.length by have := Hn1.out; omega)
    obtain rfl : n = z := by
      have h1 := HX0.out
      rw [h1] at hz
      simpa using hz
    subst hpe
    have hrd := hrv.drop 1
    rw [Hd.out] at hrd
    have hrx := S.rd 3 encInt1_len rfl rfl
    have hcp : l.length ≤ cap := hlcap
    have hc1X : cap = 1 → X = [] := fun h => List.eq_nil_of_length_eq_zero (by have := Hn1.out; omega)
    have Hc1X := Lib.hid hc1X
    simp only [Nat.add_zero] at c0
    obtain ⟨xbc0, xbf0⟩ : w7.cell? ⟨w3.heap.size, 0, none⟩ = some (.int .i64 0) ∧ w7.frozen? ⟨w3.heap.size, 0, none⟩ = false := bx (S.box 2 rfl) 0 rfl
    obtain ⟨xbc1, xbf1⟩ : w7.cell? ⟨w3.heap.size, 1, none⟩ = some (.slice ax X.length cx) ∧ w7.frozen? ⟨w3.heap.size, 1, none⟩ = false := bx (S.box 2 rfl) 1 rfl
    obtain ⟨gbc0, gbf0⟩ : w7.cell? ⟨w1.heap.size, 0, none⟩ = some (.int .i64 f) ∧ w7.frozen? ⟨w1.heap.size, 0, none⟩ = false := bx (S.box 4 rfl) 0 rfl
    obtain ⟨gbc1, gbf1⟩ : w7.cell? ⟨w1.heap.size, 1, none⟩ = some (.slice (some ⟨p, off, none⟩) l.length cap) ∧ w7.frozen? ⟨w1.heap.size, 1, none⟩ = false := bx (S.box 4 rfl) 1 rfl
    rw [Hn1.out] at gbc1 hcp
    try rw [Hn1.out]
    have m0 := ExtW.cell xbc0
    have m1 := ExtW.cell xbc1
    have m2 := ExtW.cell gbc0
    have m3 := ExtW.cell gbc1
    have m4 := ExtW.cell c0
    have b1 := ExtW.lt c0
    have b2 := ExtW.lt gbc0
    have b3 := ExtW.lt xbc0
    have hS := S.ext
    clear xbc0 xbf0 xbc1 xbf1 gbc0 gbf0 gbc1 gbf1
    clear S hz hrv c0 hc1X hn HX0 Hd HR
    have hrd1 : Hid (Rd 1 encInt1 w7 (some ⟨p, off + 1 * 1, none⟩) X) := Lib.hid hrd
    clear hrd
    by_cases hc1 : cap = 1
    · have hrd2 : Rd 1 encInt1 w7 (some ⟨p, off, none⟩) X := by first | exact hrd1.out | (rw [Hc1X.out hc1]; exact Rd.nil)
      clear hrd1 Hc1X
      go_wp2
      (refine wp_region_quiet_ext (by kernel_rfl) (by kernel_rfl) ?_; (repeat (go_big_quiet_step ((first | (go_at_call 12; exact Calls.at_b (T := GateOk 0 X) true (by simp [HO.out]) (implGateValid 0 ax cx X _ (by omega) hxcap (hrx.ext (ExtW.h _)))) | (go_at_call 25; exact Calls.at_b (T := X = X) true (by simp) (sameInts_any _ _ _ _ X X _ (by omega) (by omega) (hrx.ext (ExtW.h _)) (hrd2.ext (ExtW.h _)))))))); refine wpQuiet_nil ?_; intro _ hw'; obtain ⟨sq, hw''⟩ := hw'; subst hw'')
      obtain ⟨w8, hw8⟩ := sq
      go_wp2
      go_ret
      exact RetB.mk true rfl (by simp) (hS.trans hw8)
    · have hrd2 : Rd 1 encInt1 w7 (some ⟨p, (off + 1), none⟩) X := by first | exact hrd1.out | (rw [Hc1X.out hc1]; exact Rd.nil)
      clear hrd1 Hc1X
      go_wp2
      (refine wp_region_quiet_ext (by kernel_rfl) (by kernel_rfl) ?_; (repeat (go_big_quiet_step ((first | (go_at_call 12; exact Calls.at_b (T := GateOk 0 X) true (by simp [HO.out]) (implGateValid 0 ax cx X _ (by omega) hxcap (hrx.ext (ExtW.h _)))) | (go_at_call 25; exact Calls.at_b (T := X = X) true (by simp) (sameInts_any _ _ _ _ X X _ (by omega) (by omega) (hrx.ext (ExtW.h _)) (hrd2.ext (ExtW.h _)))))))); refine wpQuiet_nil ?_; intro _ hw'; obtain ⟨sq, hw''⟩ := hw'; subst hw'')
      obtain ⟨w8, hw8⟩ := sq
      go_wp2
      go_ret
      exact RetB.mk true rfl (by simp) (hS.trans hw8)
  · have HO := Lib.hid hok
    have Hf3 := Lib.hid hf3
    subst hn hX0
    have tf : (f3 == f + 1) = true := by simpa using hf3
    obtain ⟨xbc0, xbf0⟩ : w7.cell? ⟨w3.heap.size, 0, none⟩ = some (.int .i64 f3) ∧ w7.frozen? ⟨w3.heap.size, 0, none⟩ = false := bx (S.box 2 rfl) 0 rfl
    obtain ⟨xbc1, xbf1⟩ : w7.cell? ⟨w3.heap.size, 1, none⟩ = some (.slice ax X.length cx) ∧ w7.frozen? ⟨w3.heap.size, 1, none⟩ = false := bx (S.box 2 rfl) 1 rfl
    obtain ⟨gbc0, gbf0⟩ : w7.cell? ⟨w1.heap.size, 0, none⟩ = some (.int .i64 f) ∧ w7.frozen? ⟨w1.heap.size, 0, none⟩ = false := bx (S.box 4 rfl) 0 rfl
    obtain ⟨gbc1, gbf1⟩ : w7.cell? ⟨w1.heap.size, 1, none⟩ = some (.slice a ([] : List Int).length cap) ∧ w7.frozen? ⟨w1.heap.size, 1, none⟩ = false := bx (S.box 4 rfl) 1 rfl
    clear hok hf3
    go_wp2_with fail
    refine (implGateValid f3 ax cx X w7 (by omega) hxcap (S.rd 3 encInt1_len rfl rfl)).mono ?_
    rintro e w8 ⟨b8, rfl, hb8, hE⟩
    obtain rfl : b8 = true := hb8.2 HO.out
    clear hb8
    clear xbc0 xbf0 xbc1 xbf1 gbc0 gbf0 gbc1 gbf1
    replace S : Sep w w8 [plBox w5.heap.size #[.int .i64 f3, .slice ay X.length cy] 27, plView 1 encInt1 ay X, plBox w3.heap.size #[.int .i64 f3, .slice ax X.length cx] 27, plRow 3 1 encInt1 (.slice ax X.length cx) X, plBox w1.heap.size #[.int .i64 f, .slice a ([] : List Int).length cap] 27, plView 1 encInt1 a ([] : List Int)] := S.step hE
    clear hE
    obtain ⟨xbc0, xbf0⟩ : w8.cell? ⟨w3.heap.size, 0, none⟩ = some (.int .i64 f3) ∧ w8.frozen? ⟨w3.heap.size, 0, none⟩ = false := bx (S.box 2 rfl) 0 rfl
    obtain ⟨xbc1, xbf1⟩ : w8.cell? ⟨w3.heap.size, 1, none⟩ = some (.slice ax X.length cx) ∧ w8.frozen? ⟨w3.heap.size, 1, none⟩ = false := bx (S.box 2 rfl) 1 rfl
    obtain ⟨gbc0, gbf0⟩ : w8.cell? ⟨w1.heap.size, 0, none⟩ = some (.int .i64 f) ∧ w8.frozen? ⟨w1.heap.size, 0, none⟩ = false := bx (S.box 4 rfl) 0 rfl
    obtain ⟨gbc1, gbf1⟩ : w8.cell? ⟨w1.heap.size, 1, none⟩ = some (.slice a ([] : List Int).length cap) ∧ w8.frozen? ⟨w1.heap.size, 1, none⟩ = false := bx (S.box 4 rfl) 1 rfl
    go_wp2
    go_ret
    exact RetB.mk true rfl (by simp) S.ext
  · subst hn
    obtain ⟨xbc0, xbf0⟩ : w7.cell? ⟨w3.heap.size, 0, none⟩ = some (.int .i64 f3) ∧ w7.frozen? ⟨w3.heap.size, 0, none⟩ = false := bx (S.box 2 rfl) 0 rfl
    obtain ⟨xbc1, xbf1⟩ : w7.cell? ⟨w3.heap.size, 1, none⟩ = some (.slice ax X.length cx) ∧ w7.frozen? ⟨w3.heap.size, 1, none⟩ = false := bx (S.box 2 rfl) 1 rfl
    obtain ⟨gbc0, gbf0⟩ : w7.cell? ⟨w1.heap.size, 0, none⟩ = some (.int .i64 f) ∧ w7.frozen? ⟨w1.heap.size, 0, none⟩ = false := bx (S.box 4 rfl) 0 rfl
    obtain ⟨gbc1, gbf1⟩ : w7.cell? ⟨w1.heap.size, 1, none⟩ = some (.slice a l.length cap) ∧ w7.frozen? ⟨w1.heap.size, 1, none⟩ = false := bx (S.box 4 rfl) 1 rfl
    have Hs := Lib.hid hsame
    clear hsame
    go_wp2_with fail
    refine (sameGate_any f3 f _ _ _ _ X l _ (by omega) (by omega) (S.rd 3 encInt1_len rfl rfl) (S.see 5 rfl)).mono ?_
    rintro e w8 ⟨b8, rfl, hb8, hE⟩
    have Hb8 := Lib.hid hb8
    clear hb8
    clear xbc0 xbf0 xbc1 xbf1 gbc0 gbf0 gbc1 gbf1
    replace S : Sep w w8 [plBox w5.heap.size #[.int .i64 f3, .slice ay X.length cy] 27, plView 1 encInt1 ay X, plBox w3.heap.size #[.int .i64 f3, .slice ax X.length cx] 27, plRow 3 1 encInt1 (.slice ax X.length cx) X, plBox w1.heap.size #[.int .i64 f, .slice a l.length cap] 27, plView 1 encInt1 a l] := S.step hE
    clear hE
    cases b8 with
    | true =>
      obtain ⟨xbc0, xbf0⟩ : w8.cell? ⟨w3.heap.size, 0, none⟩ = some (.int .i64 f3) ∧ w8.frozen? ⟨w3.heap.size, 0, none⟩ = false := bx (S.box 2 rfl) 0 rfl
      obtain ⟨xbc1, xbf1⟩ : w8.cell? ⟨w3.heap.size, 1, none⟩ = some (.slice ax X.length cx) ∧ w8.frozen? ⟨w3.heap.size, 1, none⟩ = false := bx (S.box 2 rfl) 1 rfl
      go_wp2_with fail
      refine (alive_any _).mono ?_
      rintro e w9 ⟨b3, rfl, hb3, hE⟩
      obtain rfl : b3 = true := hb3.2 trivial
      clear hb3
      clear xbc0 xbf0 xbc1 xbf1
      replace S : Sep w w9 [plBox w5.heap.size #[.int .i64 f3, .slice ay X.length cy] 27, plView 1 encInt1 ay X, plBox w3.heap.size #[.int .i64 f3, .slice ax X.length cx] 27, plRow 3 1 encInt1 (.slice ax X.length cx) X, plBox w1.heap.size #[.int .i64 f, .slice a l.length cap] 27, plView 1 encInt1 a l] := S.step hE
      clear hE
      go_wp2
      go_ret
      exact RetB.mk true rfl (by simp) S.ext
    | false =>
      obtain ⟨hf3, hX0⟩ : f3 = 0 ∧ X = [] := Hs.out.resolve_left (fun h => Bool.noConfusion (Hb8.out.2 h))
      subst hf3 hX0
      obtain ⟨xbc0, xbf0⟩ : w8.cell? ⟨w3.heap.size, 0, none⟩ = some (.int .i64 0) ∧ w8.frozen? ⟨w3.heap.size, 0, none⟩ = false := bx (S.box 2 rfl) 0 rfl
      obtain ⟨xbc1, xbf1⟩ : w8.cell? ⟨w3.heap.size, 1, none⟩ = some (.slice ax ([] : List Int).length cx) ∧ w8.frozen? ⟨w3.heap.size, 1, none⟩ = false := bx (S.box 2 rfl) 1 rfl
      go_wp2_with fail
      refine (sameGate_any 0 0 ax none cx 0 [] [] _ (by simp) (by simp) Rd.nil Rd.nil).mono ?_
      rintro e w9 ⟨b9, rfl, hb9, hE⟩
      obtain rfl : b9 = true := hb9.2 ⟨rfl, rfl⟩
      clear hb9
      clear xbc0 xbf0 xbc1 xbf1
      replace S : Sep w w9 [plBox w5.heap.size #[.int .i64 0, .slice ay ([] : List Int).length cy] 27, plView 1 encInt1 ay ([] : List Int), plBox w3.heap.size #[.int .i64 0, .slice ax ([] : List Int).length cx] 27, plRow 3 1 encInt1 (.slice ax ([] : List Int).length cx) ([] : List Int), plBox w1.heap.size #[.int .i64 f, .slice a l.length cap] 27, plView 1 encInt1 a l] := S.step hE
      clear hE
      go_wp2_with fail
      refine (alive_any _).mono ?_
      rintro e w10 ⟨b3, rfl, hb3, hE⟩
      obtain rfl : b3 = true := hb3.2 trivial
      clear hb3
      replace S : Sep w w10 [plBox w5.heap.size #[.int .i64 0, .slice ay ([] : List Int).length cy] 27, plView 1 encInt1 ay ([] : List Int), plBox w3.heap.size #[.int .i64 0, .slice ax ([] : List Int).length cx] 27, plRow 3 1 encInt1 (.slice ax ([] : List Int).length cx) ([] : List Int), plBox w1.heap.size #[.int .i64 f, .slice a l.length cap] 27, plView 1 encInt1 a l] := S.step hE
      clear hE
      go_wp2
      go_ret
      exact RetB.mk true rfl (by simp) S.ext
end Go.Proofs.Ytcnghlmndahfpaa
