/- Nodes: contracts of the laws' functions that count and copy them. Condition: rows and texts shorter than 2^63. -/
import Derived.Test.YtnibbldfohbfkaaNod
import Derived.Deep.Cut
namespace Go.Proofs.Ytnibbldfohbfkaa
open Go.RowKit

set_option maxHeartbeats 2000000 in
theorem szNd_any (x : Nd) (an ak : Option Addr) (cn ck : Nat) (left : Int) (w : World) (h0 : 0 ≤ left) (h1 : left ≤ 1048576) (hs : SmN 9223372036854775807 x) (hn : Rd 1 encStr1 w an x.N) :
    Calls Try.prog 24 #[.agg #[.bool x.fold, .int .i64 x.own, .int .i64 x.grp, .int .i64 x.mode, .string x.text, .slice an x.N.length cn, .slice ak x.K.length ck], .int .i64 left] w (RetSz left (fun _ => SmN 1048576 x) w) := by
  obtain ⟨f, o, g, m, s, N, K⟩ := x
  obtain ⟨hs1, hs2, hs3, hs4⟩ := hs
  dsimp only at hs1 hs2 hs3 hs4 hn ⊢
  have HS := Lib.hid hs3
  clear hs3
  by_cases h : left - (s.size : Int) < 0
  · go_enter Try.func24, Try.ntmps24
    go_wp2
    go_ret
    exact RetSz.mk rfl (by omega) (by omega) (by omega) ((Ext.refl _).alloc _)
  · go_enter Try.func24, Try.ntmps24
    have S := Sep.start w
    replace S : Sep w (w.alloc (.cells #[.bool f, .int .i64 o, .int .i64 g, .int .i64 m, .string s, .slice an N.length cn, .slice ak K.length ck] 55)) [plBox w.heap.size #[.bool f, .int .i64 o, .int .i64 g, .int .i64 m, .string s, .slice an N.length cn, .slice ak K.length ck] 55] := S.alloc_at (by simp) _ _
    go_wp2_with fail
    generalize (w.alloc (.cells #[.bool f, .int .i64 o, .int .i64 g, .int .i64 m, .string s, .slice an N.length cn, .slice ak K.length ck] 55)) = w1 at *
    refine (szStr_any an cn N (left - (s.size : Int)) w1 (by omega) (by omega) hs2 HS.out (hn.ext S.ext)).mono ?_
    rintro e w2 ⟨r, rfl, hra, hrb, hrc, hE⟩
    have Hrc := Lib.hid hrc
    clear hrc
    replace S : Sep w w2 [plBox w.heap.size #[.bool f, .int .i64 o, .int .i64 g, .int .i64 m, .string s, .slice an N.length cn, .slice ak K.length ck] 55] := S.step hE
    clear hE
    by_cases hneg : r < 0
    · go_wp2
      go_ret
      exact RetSz.mk rfl (by omega) (by omega) (fun h => absurd h (by omega)) S.ext
    · obtain ⟨bc0, bf0⟩ : w2.cell? ⟨w.heap.size, 0, none⟩ = some (.bool f) ∧ w2.frozen? ⟨w.heap.size, 0, none⟩ = false := bx (S.box 0 rfl) 0 rfl
      obtain ⟨bc1, bf1⟩ : w2.cell? ⟨w.heap.size, 1, none⟩ = some (.int .i64 o) ∧ w2.frozen? ⟨w.heap.size, 1, none⟩ = false := bx (S.box 0 rfl) 1 rfl
      obtain ⟨bc2, bf2⟩ : w2.cell? ⟨w.heap.size, 2, none⟩ = some (.int .i64 g) ∧ w2.frozen? ⟨w.heap.size, 2, none⟩ = false := bx (S.box 0 rfl) 2 rfl
      obtain ⟨bc3, bf3⟩ : w2.cell? ⟨w.heap.size, 3, none⟩ = some (.int .i64 m) ∧ w2.frozen? ⟨w.heap.size, 3, none⟩ = false := bx (S.box 0 rfl) 3 rfl
      obtain ⟨bc4, bf4⟩ : w2.cell? ⟨w.heap.size, 4, none⟩ = some (.string s) ∧ w2.frozen? ⟨w.heap.size, 4, none⟩ = false := bx (S.box 0 rfl) 4 rfl
      obtain ⟨bc5, bf5⟩ : w2.cell? ⟨w.heap.size, 5, none⟩ = some (.slice an N.length cn) ∧ w2.frozen? ⟨w.heap.size, 5, none⟩ = false := bx (S.box 0 rfl) 5 rfl
      obtain ⟨bc6, bf6⟩ : w2.cell? ⟨w.heap.size, 6, none⟩ = some (.slice ak K.length ck) ∧ w2.frozen? ⟨w.heap.size, 6, none⟩ = false := bx (S.box 0 rfl) 6 rfl
      go_wp2_with fail
      refine (szIntS_any ak ck K r w2 (by omega) (by omega) hs4).mono ?_
      rintro e w3 ⟨q, rfl, hqa, hqb, hqc, hE⟩
      have Hqc := Lib.hid hqc
      clear hqc
      clear bc0 bf0 bc1 bf1 bc2 bf2 bc3 bf3 bc4 bf4 bc5 bf5 bc6 bf6
      replace S : Sep w w3 [plBox w.heap.size #[.bool f, .int .i64 o, .int .i64 g, .int .i64 m, .string s, .slice an N.length cn, .slice ak K.length ck] 55] := S.step hE
      clear hE
      by_cases hneg2 : q < 0
      · go_wp2
        go_ret
        exact RetSz.mk rfl (by omega) (by omega) (fun h => absurd h (by omega)) S.ext
      · go_wp2
        go_ret
        exact RetSz.mk rfl (by omega) (by omega) (fun _ => ⟨by show s.size ≤ _; omega, (Hrc.out (by omega)).1, (Hrc.out (by omega)).2, Hqc.out (by omega)⟩) S.ext

set_option maxHeartbeats 2000000 in
theorem szNdS_any (a : Option Addr) (cap : Nat) (T : List Nd) (left : Int) (w : World) (h0 : 0 ≤ left) (h1 : left ≤ 1048576) (hl : T.length ≤ 9223372036854775807) (hs : ∀ x ∈ T, SmN 9223372036854775807 x) (hc : RdN w a T) :
    Calls Try.prog 12 #[.slice a T.length cap, .int .i64 left] w (RetSz left (fun _ => T.length ≤ 1048576 ∧ ∀ x ∈ T, SmN 1048576 x) w) := by
  have HS := Lib.hid hs
  clear hs
  by_cases h : left - T.length < 0
  · go_enter Try.func12, Try.ntmps12
    go_wp2
    go_ret
    exact RetSz.mk rfl (by omega) (by omega) (by omega) (Ext.refl _)
  · go_enter Try.func12, Try.ntmps12
    go_wp2
    go_loopw [1, 5] (fun q i wr => ∃ (k : Nat) (r : Int), k ≤ T.length ∧ i = .int .i64 k ∧ q = .int .i64 r ∧ 0 ≤ r ∧ r ≤ left ∧ (∀ j, j < k → ∀ x, T[j]? = some x → SmN 1048576 x) ∧ Ext w wr) (fun _ i _ => T.length - (intOf i).toNat)
    case atStart => exact ⟨0, left - T.length, Nat.zero_le _, rfl, rfl, by omega, by omega, fun _ h => absurd h (Nat.not_lt_zero _), Ext.refl _⟩
    case round =>
      obtain ⟨k, r, hk, rfl, rfl, hr0, hr1, hpre, hb⟩ := hrel
      have Hpre := Lib.hid hpre
      clear hpre
      by_cases hlt : k < T.length
      · obtain ⟨x, b, off, an, cn, ak, ck, hx, rfl, c0, c1, c2, c3, c4, c5, c6, hcn, hck, hrn, hrk⟩ := atNd (hc.ext hb) hlt
        have Hx := Lib.hid hx
        have i0 : (k : Int) < (T.length : Int) := by omega
        clear hx hcn hck hrk
        go_wp2_with fail
        refine (szNd_any x an ak cn ck r wr (by omega) (by omega) (HS.out x (List.mem_of_getElem? Hx.out)) hrn).mono ?_
        rintro e w2 ⟨r2, rfl, hq1, hq2, hq3, hb2⟩
        have Hq3 := Lib.hid hq3
        clear hq3 c0 c1 c2 c3 c4 c5 c6 hrn
        by_cases hneg : r2 < 0
        · go_wp2
          go_ret
          exact RetSz.mk rfl (by omega) (by omega) (by omega) (hb.trans hb2)
        · have hpos : 0 ≤ r2 := by omega
          go_wp2
          go_roundw
          case rel => exact ⟨k + 1, r2, by omega, by go_num, rfl, by omega, by omega, fun j hj y hy => (Nat.lt_succ_iff_lt_or_eq.1 hj).elim (fun h => Hpre.out j h y hy) (fun e => by subst e; rw [Hx.out] at hy; cases hy; exact Hq3.out hpos), hb.trans hb2⟩
          case measure => simp [intOf]; omega
      · obtain rfl : k = T.length := by omega
        have hni : ¬ (T.length : Int) < (T.length : Int) := by omega
        go_wp2
        go_ret
        exact RetSz.mk rfl (by omega) (by omega) (fun _ => ⟨by omega, fun x hx => by obtain ⟨j, hj⟩ := List.getElem?_of_mem hx; exact Hpre.out j (List.getElem?_eq_some_iff.1 hj).1 x hj⟩) hb

set_option maxHeartbeats 2000000 in
theorem toNd_any (x : Nd) (an ak : Option Addr) (cn ck : Nat) (w : World) (hs2 : x.N.length ≤ 1048576) (hs4 : x.K.length ≤ 1048576) (hn : Rd 1 encStr1 w an x.N) (hk : Rd 1 encInt1 w ak x.K) :
    Calls Try.prog 28 #[.agg #[.bool x.fold, .int .i64 x.own, .int .i64 x.grp, .int .i64 x.mode, .string x.text, .slice an x.N.length cn, .slice ak x.K.length ck]] w fun e w' => ∃ a1 c1 a2 c2, e = .returned (.agg #[.bool x.fold, .int .i64 x.own, .int .i64 x.grp, .int .i64 x.mode, .string x.text, .slice a1 x.N.length c1, .slice a2 x.K.length c2]) ∧ Sep w w' [pinNd.one ⟨x, a1, c1, a2, c2⟩ x] := by
  obtain ⟨f, o, g, m, s, N, K⟩ := x
  dsimp only at hs2 hs4 hn hk ⊢
  go_enter Try.func28, Try.ntmps28
  have S := Sep.start w
  replace S : Sep w (w.alloc (.cells #[.bool f, .int .i64 o, .int .i64 g, .int .i64 m, .string s, .slice an N.length cn, .slice ak K.length ck] 55)) [plBox w.heap.size #[.bool f, .int .i64 o, .int .i64 g, .int .i64 m, .string s, .slice an N.length cn, .slice ak K.length ck] 55] := S.alloc_at (by simp) _ _
  replace S : Sep w ((w.alloc (.cells #[.bool f, .int .i64 o, .int .i64 g, .int .i64 m, .string s, .slice an N.length cn, .slice ak K.length ck] 55)).alloc (.cells #[.bool false, .int .i64 0, .int .i64 0, .int .i64 0, .string ⟨#[]⟩, .slice none 0 0, .slice none 0 0] 57)) [plBox (w.heap.size + 1) #[.bool false, .int .i64 0, .int .i64 0, .int .i64 0, .string ⟨#[]⟩, .slice none 0 0, .slice none 0 0] 57, plBox w.heap.size #[.bool f, .int .i64 o, .int .i64 g, .int .i64 m, .string s, .slice an N.length cn, .slice ak K.length ck] 55] := S.alloc_at (by simp) _ _
  replace S : Sep w (((w.alloc (.cells #[.bool f, .int .i64 o, .int .i64 g, .int .i64 m, .string s, .slice an N.length cn, .slice ak K.length ck] 55)).alloc (.cells #[.bool false, .int .i64 0, .int .i64 0, .int .i64 0, .string ⟨#[]⟩, .slice none 0 0, .slice none 0 0] 57)).alloc (.cells #[.bool f, .int .i64 o, .int .i64 g, .int .i64 m, .string s, .slice none 0 0, .slice none 0 0] 57)) [plBox (w.heap.size + 1 + 1) #[.bool f, .int .i64 o, .int .i64 g, .int .i64 m, .string s, .slice none 0 0, .slice none 0 0] 57, plBox (w.heap.size + 1) #[.bool false, .int .i64 0, .int .i64 0, .int .i64 0, .string ⟨#[]⟩, .slice none 0 0, .slice none 0 0] 57, plBox w.heap.size #[.bool f, .int .i64 o, .int .i64 g, .int .i64 m, .string s, .slice an N.length cn, .slice ak K.length ck] 55] := S.alloc_at (by simp) _ _
  go_wp2_with fail
  generalize (((w.alloc (.cells #[.bool f, .int .i64 o, .int .i64 g, .int .i64 m, .string s, .slice an N.length cn, .slice ak K.length ck] 55)).alloc (.cells #[.bool false, .int .i64 0, .int .i64 0, .int .i64 0, .string ⟨#[]⟩, .slice none 0 0, .slice none 0 0] 57)).alloc (.cells #[.bool f, .int .i64 o, .int .i64 g, .int .i64 m, .string s, .slice none 0 0, .slice none 0 0] 57)) = w1 at *
  refine (toStr_any an cn N w1 hs2 (hn.ext S.ext)).mono ?_
  rintro e w2 ⟨u, rfl, ⟨ho, hv⟩, hE⟩
  obtain ⟨a1, c1, hv2, hk1, _, _⟩ := view_owns encStr1_len ho
  subst hv2
  clear hv
  have U := Sep.of_owns hE ho
  clear hE ho
  replace S : Sep w w2 [plRow 9 1 encStr1 (.slice a1 N.length c1) N, plBox (w.heap.size + 1 + 1) #[.bool f, .int .i64 o, .int .i64 g, .int .i64 m, .string s, .slice none 0 0, .slice none 0 0] 57, plBox (w.heap.size + 1) #[.bool false, .int .i64 0, .int .i64 0, .int .i64 0, .string ⟨#[]⟩, .slice none 0 0, .slice none 0 0] 57, plBox w.heap.size #[.bool f, .int .i64 o, .int .i64 g, .int .i64 m, .string s, .slice an N.length cn, .slice ak K.length ck] 55] := S.call U
  clear U
  obtain ⟨obc0, obf0⟩ : w2.cell? ⟨(w.heap.size + 1 + 1), 0, none⟩ = some (.bool f) ∧ w2.frozen? ⟨(w.heap.size + 1 + 1), 0, none⟩ = false := bx (S.box 1 rfl) 0 rfl
  obtain ⟨obc1, obf1⟩ : w2.cell? ⟨(w.heap.size + 1 + 1), 1, none⟩ = some (.int .i64 o) ∧ w2.frozen? ⟨(w.heap.size + 1 + 1), 1, none⟩ = false := bx (S.box 1 rfl) 1 rfl
  obtain ⟨obc2, obf2⟩ : w2.cell? ⟨(w.heap.size + 1 + 1), 2, none⟩ = some (.int .i64 g) ∧ w2.frozen? ⟨(w.heap.size + 1 + 1), 2, none⟩ = false := bx (S.box 1 rfl) 2 rfl
  obtain ⟨obc3, obf3⟩ : w2.cell? ⟨(w.heap.size + 1 + 1), 3, none⟩ = some (.int .i64 m) ∧ w2.frozen? ⟨(w.heap.size + 1 + 1), 3, none⟩ = false := bx (S.box 1 rfl) 3 rfl
  obtain ⟨obc4, obf4⟩ : w2.cell? ⟨(w.heap.size + 1 + 1), 4, none⟩ = some (.string s) ∧ w2.frozen? ⟨(w.heap.size + 1 + 1), 4, none⟩ = false := bx (S.box 1 rfl) 4 rfl
  obtain ⟨obc5, obf5⟩ : w2.cell? ⟨(w.heap.size + 1 + 1), 5, none⟩ = some (.slice none 0 0) ∧ w2.frozen? ⟨(w.heap.size + 1 + 1), 5, none⟩ = false := bx (S.box 1 rfl) 5 rfl
  obtain ⟨obc6, obf6⟩ : w2.cell? ⟨(w.heap.size + 1 + 1), 6, none⟩ = some (.slice none 0 0) ∧ w2.frozen? ⟨(w.heap.size + 1 + 1), 6, none⟩ = false := bx (S.box 1 rfl) 6 rfl
  obtain ⟨rbc0, rbf0⟩ : w2.cell? ⟨(w.heap.size + 1), 0, none⟩ = some (.bool false) ∧ w2.frozen? ⟨(w.heap.size + 1), 0, none⟩ = false := bx (S.box 2 rfl) 0 rfl
  obtain ⟨rbc1, rbf1⟩ : w2.cell? ⟨(w.heap.size + 1), 1, none⟩ = some (.int .i64 0) ∧ w2.frozen? ⟨(w.heap.size + 1), 1, none⟩ = false := bx (S.box 2 rfl) 1 rfl
  obtain ⟨rbc2, rbf2⟩ : w2.cell? ⟨(w.heap.size + 1), 2, none⟩ = some (.int .i64 0) ∧ w2.frozen? ⟨(w.heap.size + 1), 2, none⟩ = false := bx (S.box 2 rfl) 2 rfl
  obtain ⟨rbc3, rbf3⟩ : w2.cell? ⟨(w.heap.size + 1), 3, none⟩ = some (.int .i64 0) ∧ w2.frozen? ⟨(w.heap.size + 1), 3, none⟩ = false := bx (S.box 2 rfl) 3 rfl
  obtain ⟨rbc4, rbf4⟩ : w2.cell? ⟨(w.heap.size + 1), 4, none⟩ = some (.string ⟨#[]⟩) ∧ w2.frozen? ⟨(w.heap.size + 1), 4, none⟩ = false := bx (S.box 2 rfl) 4 rfl
  obtain ⟨rbc5, rbf5⟩ : w2.cell? ⟨(w.heap.size + 1), 5, none⟩ = some (.slice none 0 0) ∧ w2.frozen? ⟨(w.heap.size + 1), 5, none⟩ = false := bx (S.box 2 rfl) 5 rfl
  obtain ⟨rbc6, rbf6⟩ : w2.cell? ⟨(w.heap.size + 1), 6, none⟩ = some (.slice none 0 0) ∧ w2.frozen? ⟨(w.heap.size + 1), 6, none⟩ = false := bx (S.box 2 rfl) 6 rfl
  obtain ⟨a0c0, a0f0⟩ : w2.cell? ⟨w.heap.size, 0, none⟩ = some (.bool f) ∧ w2.frozen? ⟨w.heap.size, 0, none⟩ = false := bx (S.box 3 rfl) 0 rfl
  obtain ⟨a0c1, a0f1⟩ : w2.cell? ⟨w.heap.size, 1, none⟩ = some (.int .i64 o) ∧ w2.frozen? ⟨w.heap.size, 1, none⟩ = false := bx (S.box 3 rfl) 1 rfl
  obtain ⟨a0c2, a0f2⟩ : w2.cell? ⟨w.heap.size, 2, none⟩ = some (.int .i64 g) ∧ w2.frozen? ⟨w.heap.size, 2, none⟩ = false := bx (S.box 3 rfl) 2 rfl
  obtain ⟨a0c3, a0f3⟩ : w2.cell? ⟨w.heap.size, 3, none⟩ = some (.int .i64 m) ∧ w2.frozen? ⟨w.heap.size, 3, none⟩ = false := bx (S.box 3 rfl) 3 rfl
  obtain ⟨a0c4, a0f4⟩ : w2.cell? ⟨w.heap.size, 4, none⟩ = some (.string s) ∧ w2.frozen? ⟨w.heap.size, 4, none⟩ = false := bx (S.box 3 rfl) 4 rfl
  obtain ⟨a0c5, a0f5⟩ : w2.cell? ⟨w.heap.size, 5, none⟩ = some (.slice an N.length cn) ∧ w2.frozen? ⟨w.heap.size, 5, none⟩ = false := bx (S.box 3 rfl) 5 rfl
  obtain ⟨a0c6, a0f6⟩ : w2.cell? ⟨w.heap.size, 6, none⟩ = some (.slice ak K.length ck) ∧ w2.frozen? ⟨w.heap.size, 6, none⟩ = false := bx (S.box 3 rfl) 6 rfl
  go_wp2_with fail
  clear obc0 obf0 obc1 obf1 obc2 obf2 obc3 obf3 obc4 obf4 obc5 obf5 obc6 obf6 rbc0 rbf0 rbc1 rbf1 rbc2 rbf2 rbc3 rbf3 rbc4 rbf4 rbc5 rbf5 rbc6 rbf6 a0c0 a0f0 a0c1 a0f1 a0c2 a0f2 a0c3 a0f3 a0c4 a0f4 a0c5 a0f5 a0c6 a0f6
  replace S : Sep w (w2.setCell ⟨(w.heap.size + 1 + 1), 5, none⟩ (.slice a1 N.length c1)) [plRow 9 1 encStr1 (.slice a1 N.length c1) N, plBox (w.heap.size + 1 + 1) #[.bool f, .int .i64 o, .int .i64 g, .int .i64 m, .string s, .slice a1 N.length c1, .slice none 0 0] 57, plBox (w.heap.size + 1) #[.bool false, .int .i64 0, .int .i64 0, .int .i64 0, .string ⟨#[]⟩, .slice none 0 0, .slice none 0 0] 57, plBox w.heap.size #[.bool f, .int .i64 o, .int .i64 g, .int .i64 m, .string s, .slice an N.length cn, .slice ak K.length ck] 55] := S.set 1 rfl 5 _
  generalize (w2.setCell ⟨(w.heap.size + 1 + 1), 5, none⟩ (.slice a1 N.length c1)) = w3 at *
  refine (toIntS_any ak ck K w3 hs4 (hk.ext S.ext)).mono ?_
  rintro e w4 ⟨u, rfl, ⟨ho, hv⟩, hE⟩
  obtain ⟨a2, c2, hv2, hk2, _, _⟩ := view_owns encInt1_len ho
  subst hv2
  clear hv
  have U := Sep.of_owns hE ho
  clear hE ho
  replace S : Sep w w4 [plRow 3 1 encInt1 (.slice a2 K.length c2) K, plRow 9 1 encStr1 (.slice a1 N.length c1) N, plBox (w.heap.size + 1 + 1) #[.bool f, .int .i64 o, .int .i64 g, .int .i64 m, .string s, .slice a1 N.length c1, .slice none 0 0] 57, plBox (w.heap.size + 1) #[.bool false, .int .i64 0, .int .i64 0, .int .i64 0, .string ⟨#[]⟩, .slice none 0 0, .slice none 0 0] 57, plBox w.heap.size #[.bool f, .int .i64 o, .int .i64 g, .int .i64 m, .string s, .slice an N.length cn, .slice ak K.length ck] 55] := S.call U
  clear U
  obtain ⟨obc0, obf0⟩ : w4.cell? ⟨(w.heap.size + 1 + 1), 0, none⟩ = some (.bool f) ∧ w4.frozen? ⟨(w.heap.size + 1 + 1), 0, none⟩ = false := bx (S.box 2 rfl) 0 rfl
  obtain ⟨obc1, obf1⟩ : w4.cell? ⟨(w.heap.size + 1 + 1), 1, none⟩ = some (.int .i64 o) ∧ w4.frozen? ⟨(w.heap.size + 1 + 1), 1, none⟩ = false := bx (S.box 2 rfl) 1 rfl
  obtain ⟨obc2, obf2⟩ : w4.cell? ⟨(w.heap.size + 1 + 1), 2, none⟩ = some (.int .i64 g) ∧ w4.frozen? ⟨(w.heap.size + 1 + 1), 2, none⟩ = false := bx (S.box 2 rfl) 2 rfl
  obtain ⟨obc3, obf3⟩ : w4.cell? ⟨(w.heap.size + 1 + 1), 3, none⟩ = some (.int .i64 m) ∧ w4.frozen? ⟨(w.heap.size + 1 + 1), 3, none⟩ = false := bx (S.box 2 rfl) 3 rfl
  obtain ⟨obc4, obf4⟩ : w4.cell? ⟨(w.heap.size + 1 + 1), 4, none⟩ = some (.string s) ∧ w4.frozen? ⟨(w.heap.size + 1 + 1), 4, none⟩ = false := bx (S.box 2 rfl) 4 rfl
  obtain ⟨obc5, obf5⟩ : w4.cell? ⟨(w.heap.size + 1 + 1), 5, none⟩ = some (.slice a1 N.length c1) ∧ w4.frozen? ⟨(w.heap.size + 1 + 1), 5, none⟩ = false := bx (S.box 2 rfl) 5 rfl
  obtain ⟨obc6, obf6⟩ : w4.cell? ⟨(w.heap.size + 1 + 1), 6, none⟩ = some (.slice none 0 0) ∧ w4.frozen? ⟨(w.heap.size + 1 + 1), 6, none⟩ = false := bx (S.box 2 rfl) 6 rfl
  obtain ⟨rbc0, rbf0⟩ : w4.cell? ⟨(w.heap.size + 1), 0, none⟩ = some (.bool false) ∧ w4.frozen? ⟨(w.heap.size + 1), 0, none⟩ = false := bx (S.box 3 rfl) 0 rfl
  obtain ⟨rbc1, rbf1⟩ : w4.cell? ⟨(w.heap.size + 1), 1, none⟩ = some (.int .i64 0) ∧ w4.frozen? ⟨(w.heap.size + 1), 1, none⟩ = false := bx (S.box 3 rfl) 1 rfl
  obtain ⟨rbc2, rbf2⟩ : w4.cell? ⟨(w.heap.size + 1), 2, none⟩ = some (.int .i64 0) ∧ w4.frozen? ⟨(w.heap.size + 1), 2, none⟩ = false := bx (S.box 3 rfl) 2 rfl
  obtain ⟨rbc3, rbf3⟩ : w4.cell? ⟨(w.heap.size + 1), 3, none⟩ = some (.int .i64 0) ∧ w4.frozen? ⟨(w.heap.size + 1), 3, none⟩ = false := bx (S.box 3 rfl) 3 rfl
  obtain ⟨rbc4, rbf4⟩ : w4.cell? ⟨(w.heap.size + 1), 4, none⟩ = some (.string ⟨#[]⟩) ∧ w4.frozen? ⟨(w.heap.size + 1), 4, none⟩ = false := bx (S.box 3 rfl) 4 rfl
  obtain ⟨rbc5, rbf5⟩ : w4.cell? ⟨(w.heap.size + 1), 5, none⟩ = some (.slice none 0 0) ∧ w4.frozen? ⟨(w.heap.size + 1), 5, none⟩ = false := bx (S.box 3 rfl) 5 rfl
  obtain ⟨rbc6, rbf6⟩ : w4.cell? ⟨(w.heap.size + 1), 6, none⟩ = some (.slice none 0 0) ∧ w4.frozen? ⟨(w.heap.size + 1), 6, none⟩ = false := bx (S.box 3 rfl) 6 rfl
  obtain ⟨a0c0, a0f0⟩ : w4.cell? ⟨w.heap.size, 0, none⟩ = some (.bool f) ∧ w4.frozen? ⟨w.heap.size, 0, none⟩ = false := bx (S.box 4 rfl) 0 rfl
  obtain ⟨a0c1, a0f1⟩ : w4.cell? ⟨w.heap.size, 1, none⟩ = some (.int .i64 o) ∧ w4.frozen? ⟨w.heap.size, 1, none⟩ = false := bx (S.box 4 rfl) 1 rfl
  obtain ⟨a0c2, a0f2⟩ : w4.cell? ⟨w.heap.size, 2, none⟩ = some (.int .i64 g) ∧ w4.frozen? ⟨w.heap.size, 2, none⟩ = false := bx (S.box 4 rfl) 2 rfl
  obtain ⟨a0c3, a0f3⟩ : w4.cell? ⟨w.heap.size, 3, none⟩ = some (.int .i64 m) ∧ w4.frozen? ⟨w.heap.size, 3, none⟩ = false := bx (S.box 4 rfl) 3 rfl
  obtain ⟨a0c4, a0f4⟩ : w4.cell? ⟨w.heap.size, 4, none⟩ = some (.string s) ∧ w4.frozen? ⟨w.heap.size, 4, none⟩ = false := bx (S.box 4 rfl) 4 rfl
  obtain ⟨a0c5, a0f5⟩ : w4.cell? ⟨w.heap.size, 5, none⟩ = some (.slice an N.length cn) ∧ w4.frozen? ⟨w.heap.size, 5, none⟩ = false := bx (S.box 4 rfl) 5 rfl
  obtain ⟨a0c6, a0f6⟩ : w4.cell? ⟨w.heap.size, 6, none⟩ = some (.slice ak K.length ck) ∧ w4.frozen? ⟨w.heap.size, 6, none⟩ = false := bx (S.box 4 rfl) 6 rfl
  go_wp2
  try simp only [Exit.inBlock, Exit.then]
  refine bodyPost_ret (v := .agg #[.bool f, .int .i64 o, .int .i64 g, .int .i64 m, .string s, .slice a1 N.length c1, .slice a2 K.length c2]) (by simp [results, Try.results28, go_sem, rbc0, rbc1, rbc2, rbc3, rbc4, rbc5, rbc6, obc0, obc1, obc2, obc3, obc4, obc5, obc6]) rfl ?_
  replace S : Sep w (w4.setCell ⟨(w.heap.size + 1 + 1), 6, none⟩ (.slice a2 K.length c2)) [plRow 3 1 encInt1 (.slice a2 K.length c2) K, plRow 9 1 encStr1 (.slice a1 N.length c1) N, plBox (w.heap.size + 1 + 1) #[.bool f, .int .i64 o, .int .i64 g, .int .i64 m, .string s, .slice a1 N.length c1, .slice a2 K.length c2] 57, plBox (w.heap.size + 1) #[.bool false, .int .i64 0, .int .i64 0, .int .i64 0, .string ⟨#[]⟩, .slice none 0 0, .slice none 0 0] 57, plBox w.heap.size #[.bool f, .int .i64 o, .int .i64 g, .int .i64 m, .string s, .slice an N.length cn, .slice ak K.length ck] 55] := S.set 2 rfl 6 _
  replace S : Sep w ((w4.setCell ⟨(w.heap.size + 1 + 1), 6, none⟩ (.slice a2 K.length c2)).setCell ⟨(w.heap.size + 1), 0, none⟩ (.bool f)) [plRow 3 1 encInt1 (.slice a2 K.length c2) K, plRow 9 1 encStr1 (.slice a1 N.length c1) N, plBox (w.heap.size + 1 + 1) #[.bool f, .int .i64 o, .int .i64 g, .int .i64 m, .string s, .slice a1 N.length c1, .slice a2 K.length c2] 57, plBox (w.heap.size + 1) #[.bool f, .int .i64 0, .int .i64 0, .int .i64 0, .string ⟨#[]⟩, .slice none 0 0, .slice none 0 0] 57, plBox w.heap.size #[.bool f, .int .i64 o, .int .i64 g, .int .i64 m, .string s, .slice an N.length cn, .slice ak K.length ck] 55] := S.set 3 rfl 0 _
  replace S : Sep w (((w4.setCell ⟨(w.heap.size + 1 + 1), 6, none⟩ (.slice a2 K.length c2)).setCell ⟨(w.heap.size + 1), 0, none⟩ (.bool f)).setCell ⟨(w.heap.size + 1), 1, none⟩ (.int .i64 o)) [plRow 3 1 encInt1 (.slice a2 K.length c2) K, plRow 9 1 encStr1 (.slice a1 N.length c1) N, plBox (w.heap.size + 1 + 1) #[.bool f, .int .i64 o, .int .i64 g, .int .i64 m, .string s, .slice a1 N.length c1, .slice a2 K.length c2] 57, plBox (w.heap.size + 1) #[.bool f, .int .i64 o, .int .i64 0, .int .i64 0, .string ⟨#[]⟩, .slice none 0 0, .slice none 0 0] 57, plBox w.heap.size #[.bool f, .int .i64 o, .int .i64 g, .int .i64 m, .string s, .slice an N.length cn, .slice ak K.length ck] 55] := S.set 3 rfl 1 _
  replace S : Sep w ((((w4.setCell ⟨(w.heap.size + 1 + 1), 6, none⟩ (.slice a2 K.length c2)).setCell ⟨(w.heap.size + 1), 0, none⟩ (.bool f)).setCell ⟨(w.heap.size + 1), 1, none⟩ (.int .i64 o)).setCell ⟨(w.heap.size + 1), 2, none⟩ (.int .i64 g)) [plRow 3 1 encInt1 (.slice a2 K.length c2) K, plRow 9 1 encStr1 (.slice a1 N.length c1) N, plBox (w.heap.size + 1 + 1) #[.bool f, .int .i64 o, .int .i64 g, .int .i64 m, .string s, .slice a1 N.length c1, .slice a2 K.length c2] 57, plBox (w.heap.size + 1) #[.bool f, .int .i64 o, .int .i64 g, .int .i64 0, .string ⟨#[]⟩, .slice none 0 0, .slice none 0 0] 57, plBox w.heap.size #[.bool f, .int .i64 o, .int .i64 g, .int .i64 m, .string s, .slice an N.length cn, .slice ak K.length ck] 55] := S.set 3 rfl 2 _
  replace S : Sep w (((((w4.setCell ⟨(w.heap.size + 1 + 1), 6, none⟩ (.slice a2 K.length c2)).setCell ⟨(w.heap.size + 1), 0, none⟩ (.bool f)).setCell ⟨(w.heap.size + 1), 1, none⟩ (.int .i64 o)).setCell ⟨(w.heap.size + 1), 2, none⟩ (.int .i64 g)).setCell ⟨(w.heap.size + 1), 3, none⟩ (.int .i64 m)) [plRow 3 1 encInt1 (.slice a2 K.length c2) K, plRow 9 1 encStr1 (.slice a1 N.length c1) N, plBox (w.heap.size + 1 + 1) #[.bool f, .int .i64 o, .int .i64 g, .int .i64 m, .string s, .slice a1 N.length c1, .slice a2 K.length c2] 57, plBox (w.heap.size + 1) #[.bool f, .int .i64 o, .int .i64 g, .int .i64 m, .string ⟨#[]⟩, .slice none 0 0, .slice none 0 0] 57, plBox w.heap.size #[.bool f, .int .i64 o, .int .i64 g, .int .i64 m, .string s, .slice an N.length cn, .slice ak K.length ck] 55] := S.set 3 rfl 3 _
  replace S : Sep w ((((((w4.setCell ⟨(w.heap.size + 1 + 1), 6, none⟩ (.slice a2 K.length c2)).setCell ⟨(w.heap.size + 1), 0, none⟩ (.bool f)).setCell ⟨(w.heap.size + 1), 1, none⟩ (.int .i64 o)).setCell ⟨(w.heap.size + 1), 2, none⟩ (.int .i64 g)).setCell ⟨(w.heap.size + 1), 3, none⟩ (.int .i64 m)).setCell ⟨(w.heap.size + 1), 4, none⟩ (.string s)) [plRow 3 1 encInt1 (.slice a2 K.length c2) K, plRow 9 1 encStr1 (.slice a1 N.length c1) N, plBox (w.heap.size + 1 + 1) #[.bool f, .int .i64 o, .int .i64 g, .int .i64 m, .string s, .slice a1 N.length c1, .slice a2 K.length c2] 57, plBox (w.heap.size + 1) #[.bool f, .int .i64 o, .int .i64 g, .int .i64 m, .string s, .slice none 0 0, .slice none 0 0] 57, plBox w.heap.size #[.bool f, .int .i64 o, .int .i64 g, .int .i64 m, .string s, .slice an N.length cn, .slice ak K.length ck] 55] := S.set 3 rfl 4 _
  replace S : Sep w (((((((w4.setCell ⟨(w.heap.size + 1 + 1), 6, none⟩ (.slice a2 K.length c2)).setCell ⟨(w.heap.size + 1), 0, none⟩ (.bool f)).setCell ⟨(w.heap.size + 1), 1, none⟩ (.int .i64 o)).setCell ⟨(w.heap.size + 1), 2, none⟩ (.int .i64 g)).setCell ⟨(w.heap.size + 1), 3, none⟩ (.int .i64 m)).setCell ⟨(w.heap.size + 1), 4, none⟩ (.string s)).setCell ⟨(w.heap.size + 1), 5, none⟩ (.slice a1 N.length c1)) [plRow 3 1 encInt1 (.slice a2 K.length c2) K, plRow 9 1 encStr1 (.slice a1 N.length c1) N, plBox (w.heap.size + 1 + 1) #[.bool f, .int .i64 o, .int .i64 g, .int .i64 m, .string s, .slice a1 N.length c1, .slice a2 K.length c2] 57, plBox (w.heap.size + 1) #[.bool f, .int .i64 o, .int .i64 g, .int .i64 m, .string s, .slice a1 N.length c1, .slice none 0 0] 57, plBox w.heap.size #[.bool f, .int .i64 o, .int .i64 g, .int .i64 m, .string s, .slice an N.length cn, .slice ak K.length ck] 55] := S.set 3 rfl 5 _
  replace S : Sep w ((((((((w4.setCell ⟨(w.heap.size + 1 + 1), 6, none⟩ (.slice a2 K.length c2)).setCell ⟨(w.heap.size + 1), 0, none⟩ (.bool f)).setCell ⟨(w.heap.size + 1), 1, none⟩ (.int .i64 o)).setCell ⟨(w.heap.size + 1), 2, none⟩ (.int .i64 g)).setCell ⟨(w.heap.size + 1), 3, none⟩ (.int .i64 m)).setCell ⟨(w.heap.size + 1), 4, none⟩ (.string s)).setCell ⟨(w.heap.size + 1), 5, none⟩ (.slice a1 N.length c1)).setCell ⟨(w.heap.size + 1), 6, none⟩ (.slice a2 K.length c2)) [plRow 3 1 encInt1 (.slice a2 K.length c2) K, plRow 9 1 encStr1 (.slice a1 N.length c1) N, plBox (w.heap.size + 1 + 1) #[.bool f, .int .i64 o, .int .i64 g, .int .i64 m, .string s, .slice a1 N.length c1, .slice a2 K.length c2] 57, plBox (w.heap.size + 1) #[.bool f, .int .i64 o, .int .i64 g, .int .i64 m, .string s, .slice a1 N.length c1, .slice a2 K.length c2] 57, plBox w.heap.size #[.bool f, .int .i64 o, .int .i64 g, .int .i64 m, .string s, .slice an N.length cn, .slice ak K.length ck] 55] := S.set 3 rfl 6 _
  replace S : Sep w ((((((((w4.setCell ⟨(w.heap.size + 1 + 1), 6, none⟩ (.slice a2 K.length c2)).setCell ⟨(w.heap.size + 1), 0, none⟩ (.bool f)).setCell ⟨(w.heap.size + 1), 1, none⟩ (.int .i64 o)).setCell ⟨(w.heap.size + 1), 2, none⟩ (.int .i64 g)).setCell ⟨(w.heap.size + 1), 3, none⟩ (.int .i64 m)).setCell ⟨(w.heap.size + 1), 4, none⟩ (.string s)).setCell ⟨(w.heap.size + 1), 5, none⟩ (.slice a1 N.length c1)).setCell ⟨(w.heap.size + 1), 6, none⟩ (.slice a2 K.length c2)) [plRow 3 1 encInt1 (.slice a2 K.length c2) K, plRow 9 1 encStr1 (.slice a1 N.length c1) N, plBox (w.heap.size + 1) #[.bool f, .int .i64 o, .int .i64 g, .int .i64 m, .string s, .slice a1 N.length c1, .slice a2 K.length c2] 57, plBox w.heap.size #[.bool f, .int .i64 o, .int .i64 g, .int .i64 m, .string s, .slice an N.length cn, .slice ak K.length ck] 55] := S.drop 2
  replace S : Sep w ((((((((w4.setCell ⟨(w.heap.size + 1 + 1), 6, none⟩ (.slice a2 K.length c2)).setCell ⟨(w.heap.size + 1), 0, none⟩ (.bool f)).setCell ⟨(w.heap.size + 1), 1, none⟩ (.int .i64 o)).setCell ⟨(w.heap.size + 1), 2, none⟩ (.int .i64 g)).setCell ⟨(w.heap.size + 1), 3, none⟩ (.int .i64 m)).setCell ⟨(w.heap.size + 1), 4, none⟩ (.string s)).setCell ⟨(w.heap.size + 1), 5, none⟩ (.slice a1 N.length c1)).setCell ⟨(w.heap.size + 1), 6, none⟩ (.slice a2 K.length c2)) [plRow 3 1 encInt1 (.slice a2 K.length c2) K, plRow 9 1 encStr1 (.slice a1 N.length c1) N, plBox w.heap.size #[.bool f, .int .i64 o, .int .i64 g, .int .i64 m, .string s, .slice an N.length cn, .slice ak K.length ck] 55] := S.drop 2
  replace S : Sep w ((((((((w4.setCell ⟨(w.heap.size + 1 + 1), 6, none⟩ (.slice a2 K.length c2)).setCell ⟨(w.heap.size + 1), 0, none⟩ (.bool f)).setCell ⟨(w.heap.size + 1), 1, none⟩ (.int .i64 o)).setCell ⟨(w.heap.size + 1), 2, none⟩ (.int .i64 g)).setCell ⟨(w.heap.size + 1), 3, none⟩ (.int .i64 m)).setCell ⟨(w.heap.size + 1), 4, none⟩ (.string s)).setCell ⟨(w.heap.size + 1), 5, none⟩ (.slice a1 N.length c1)).setCell ⟨(w.heap.size + 1), 6, none⟩ (.slice a2 K.length c2)) [plRow 3 1 encInt1 (.slice a2 K.length c2) K, plRow 9 1 encStr1 (.slice a1 N.length c1) N] := S.drop 2
  exact ⟨a1, c1, a2, c2, rfl, S.ofRows 1 0 ⟨⟨f, o, g, m, s, N, K⟩, a1, c1, a2, c2⟩ rfl rfl (by decide)⟩

set_option maxHeartbeats 2000000 in
theorem toNdS_any (a : Option Addr) (cap : Nat) (T : List Nd) (w : World) (hl : T.length ≤ 1048576) (hs : ∀ x ∈ T, SmN 1048576 x) (hc : RdN w a T) :
    Calls Try.prog 15 #[.slice a T.length cap] w fun e w' => ∃ vs, e = .returned (.slice (some ⟨w.heap.size, 0, none⟩) T.length T.length) ∧ Sep w w' [plNd (.slice (some ⟨w.heap.size, 0, none⟩) T.length T.length) vs T] := by
  obtain ⟨i0, hi, hz0, hz1, hz2⟩ := info_parts infoNd
  have HS := Lib.hid hs
  clear hs
  go_enter Try.func15, Try.ntmps15
  go_wp2_with (at_make; refine wpList_make_full _ rfl _ _ 29 rfl w.heap.size 57 i0 _ 7 Try.underlying29 hi hz0 hz1 _ _ _ _ T.length rfl rfl rfl rfl ?b1 ?b2 ?b3 ?_)
  case b1 => rw [hz2]; omega
  case b2 => unfold maxLen; omega
  case b3 => exact Nat.le_refl _
  intro w1 hown1 hgr1
  have hE := ext_of_grown hgr1
  have S0 : Sep w w1 [plNd (.slice (some ⟨w.heap.size, 0, none⟩) T.length T.length) (List.replicate T.length zNc) (mixNd T 0)] := by
    rw [mixNd_zero]
    refine Sep.one (p := plNd _ _ _) hE (plG_make zNc_ok zNc_own ?_) (fun b hb => ?_)
    · have h2 := ownsRow_base hown1 (Nat.zero_le _)
      rw [← madeNc]; exact h2
    · rcases hb with hb | ⟨s, hs, hb⟩
      · have : w.heap.size = b := Option.some.inj hb
        omega
      · rw [(List.mem_replicate.1 hs).2] at hb
        exact absurd hb (zNc_own b)
  clear hgr1 hown1 hE
  go_wp2
  go_loopw [4] (fun i wr => ∃ (k : Nat) (vs : List Nc), k ≤ T.length ∧ i = .int .i64 k ∧ Sep w wr [plNd (.slice (some ⟨w.heap.size, 0, none⟩) T.length T.length) vs (mixNd T k)]) (fun i _ => T.length - (intOf i).toNat)
  case atStart => exact ⟨0, _, Nat.zero_le _, rfl, S0⟩
  case round =>
    clear S0
    obtain ⟨k, vs, hk, rfl, S⟩ := hrel
    by_cases hlk : k < T.length
    · obtain ⟨x, b, off, an, cn, ak, ck, hx, hpe, c0, c1, c2, c3, c4, c5, c6, hcn, hck, hrn, hrk⟩ := atNd (hc.ext S.ext) hlk
      subst hpe
      have Hx := Lib.hid hx
      have hsx := HS.out x (List.mem_of_getElem? hx)
      have i0 : (k : Int) < (T.length : Int) := by omega
      clear hx hcn hck
      go_wp2_with fail
      refine (toNd_any x an ak cn ck wr hsx.2.1 hsx.2.2.2 hrn hrk).mono ?_
      rintro e w2 ⟨a1, d1, a2, d2, rfl, U⟩
      replace S := S.call U
      clear U c0 c1 c2 c3 c4 c5 c6 hrn hrk
      have hvl := plG_len (S.at_ 1 rfl)
      rw [mixNd_len T k hk] at hvl
      have hrow : w2.ownsRow w.heap.size 57 7 (.slice (some ⟨w.heap.size, 0, none⟩) T.length T.length) T.length (vs.flatMap encNc) := by
        have h := S.gRow 1 rfl
        rw [hvl] at h; exact h
      have hkv : k < vs.length := by omega
      have g0 : w2.cell? ⟨w.heap.size, k * 7, none⟩ = some _ := owns_at encNc_len hrow k hkv 0 _ rfl
      have g1 : w2.cell? ⟨w.heap.size, k * 7 + 1, none⟩ = some _ := owns_at encNc_len hrow k hkv 1 _ rfl
      have g2 : w2.cell? ⟨w.heap.size, k * 7 + 2, none⟩ = some _ := owns_at encNc_len hrow k hkv 2 _ rfl
      have g3 : w2.cell? ⟨w.heap.size, k * 7 + 3, none⟩ = some _ := owns_at encNc_len hrow k hkv 3 _ rfl
      have g4 : w2.cell? ⟨w.heap.size, k * 7 + 4, none⟩ = some _ := owns_at encNc_len hrow k hkv 4 _ rfl
      have g5 : w2.cell? ⟨w.heap.size, k * 7 + 5, none⟩ = some _ := owns_at encNc_len hrow k hkv 5 _ rfl
      have g6 : w2.cell? ⟨w.heap.size, k * 7 + 6, none⟩ = some _ := owns_at encNc_len hrow k hkv 6 _ rfl
      have f0 := hrow.frozenAt
      have S2 := S.gPut 1 0 encNc_len (s := ⟨x, a1, d1, a2, d2⟩) (t := x) (k := k) rfl rfl (by decide) hkv
      rw [mixNd_set T k x Hx.out] at S2
      have S3 : Sep w (setCells w2 w.heap.size (k * 7) (encNc ⟨x, a1, d1, a2, d2⟩)) [plNd (.slice (some ⟨w.heap.size, 0, none⟩) T.length T.length) (vs.set k ⟨x, a1, d1, a2, d2⟩) (mixNd T (k + 1))] := S2
      have HS3 := Lib.hid S3
      clear S2 S3 S hrow hvl hsx
      go_wp2
      go_roundw
      case rel => exact ⟨k + 1, _, by omega, by go_num, by simpa [setCells, encNc] using HS3.out⟩
      case measure => simp [intOf]; omega
    · obtain rfl : k = T.length := by omega
      have hni : ¬ (T.length : Int) < (T.length : Int) := by omega
      rw [mixNd_full] at S
      go_wp2
      go_ret
      exact ⟨rfl, vs, S⟩
end Go.Proofs.Ytnibbldfohbfkaa
