/- Trees: when a node is right; contract of the reference's l6Node. Condition: rows and texts of at most 2^20. -/
import Derived.Test.YtnibbldfohbfkaaKer
import Derived.Test.YtnibbldfohbfkaaNames
namespace Go.Proofs.Ytnibbldfohbfkaa
open Go.RowKit

/-- What is asked of the place k of a node. -/
def NAt (n : Nd) (many k : Nat) : Prop := (∀ s, n.N[k]? = some s → NameOk s ∧ ∀ m p, k = m + 1 → n.N[m]? = some p → Op.bytesLess p.toList s.toList = true) ∧ ∀ x, n.K[k]? = some x → inB x 1 ((many : Int) - 1) = true
structure NodeOk (n : Nd) (many : Nat) : Prop where
  own : inB n.own 0 99 = true
  grp : inB n.grp 0 7 = true
  mode : inB n.mode 0 1023 = true
  len : n.N.length = n.K.length
  file : n.fold = false → n.N.length = 0
  dir : n.fold = true → n.text.toList.isEmpty = true
  short : n.text.size ≤ 40
  at_ : ∀ k, k < n.N.length → NAt n many k
theorem isEmpty_size {s : ByteArray} : s.toList.isEmpty = true ↔ s.size = 0 := by
  rw [ByteArray.toList_eq]
  obtain ⟨⟨x⟩⟩ := s
  cases x <;> simp [ByteArray.size]
theorem head_cases (f : Bool) (o g m : Int) (s : ByteArray) (n k : Nat) : inB o 0 99 = false ∨ (inB o 0 99 = true ∧ inB g 0 7 = false) ∨ (inB o 0 99 = true ∧ inB g 0 7 = true ∧ inB m 0 1023 = false) ∨
    (inB o 0 99 = true ∧ inB g 0 7 = true ∧ inB m 0 1023 = true ∧ n ≠ k) ∨
    (inB o 0 99 = true ∧ inB g 0 7 = true ∧ inB m 0 1023 = true ∧ n = k ∧ f = false ∧ 0 < n) ∨
    (inB o 0 99 = true ∧ inB g 0 7 = true ∧ inB m 0 1023 = true ∧ n = k ∧ f = true ∧ s.toList.isEmpty = false) ∨
    (inB o 0 99 = true ∧ inB g 0 7 = true ∧ inB m 0 1023 = true ∧ n = k ∧ f = false ∧ n = 0 ∧ 40 < s.size) ∨
    (inB o 0 99 = true ∧ inB g 0 7 = true ∧ inB m 0 1023 = true ∧ n = k ∧ f = false ∧ n = 0 ∧ s.size ≤ 40) ∨
    (inB o 0 99 = true ∧ inB g 0 7 = true ∧ inB m 0 1023 = true ∧ n = k ∧ f = true ∧ s.toList.isEmpty = true) := by
  cases inB o 0 99 <;> cases inB g 0 7 <;> cases inB m 0 1023 <;> cases f <;> cases s.toList.isEmpty <;> simp <;> omega
theorem nat_next {n : Nd} {many k : Nat} (h : ∀ j, j < k → NAt n many j) (hk : NAt n many k) : ∀ j, j < k + 1 → NAt n many j := fun j hj => by
  rcases Nat.lt_succ_iff_lt_or_eq.1 hj with h' | rfl
  · exact h j h'
  · exact hk
theorem nat_zero {n : Nd} {many : Nat} {s : ByteArray} {x : Int} (hs : n.N[0]? = some s) (hx : n.K[0]? = some x) (h1 : NameOk s) (h2 : inB x 1 ((many : Int) - 1) = true) : NAt n many 0 :=
  ⟨fun t ht => by rw [hs] at ht; cases ht; exact ⟨h1, fun m p hm => by omega⟩, fun y hy => by rw [hx] at hy; cases hy; exact h2⟩
theorem nat_succ {n : Nd} {many m : Nat} {s p : ByteArray} {x : Int} (hs : n.N[m + 1]? = some s) (hp : n.N[m]? = some p) (hx : n.K[m + 1]? = some x) (h1 : NameOk s) (h2 : inB x 1 ((many : Int) - 1) = true) (h3 : Op.bytesLess p.toList s.toList = true) : NAt n many (m + 1) :=
  ⟨fun t ht => by
    rw [hs] at ht; cases ht
    refine ⟨h1, fun m' q hm hq => ?_⟩
    obtain rfl : m = m' := by omega
    rw [hp] at hq; cases hq
    exact h3, fun y hy => by rw [hx] at hy; cases hy; exact h2⟩
theorem nat_bad1 {n : Nd} {many k : Nat} {s : ByteArray} (hs : n.N[k]? = some s) (h : ¬ NameOk s) : ¬ NodeOk n many := fun hn => h ((hn.at_ k (List.getElem?_eq_some_iff.1 hs).1).1 s hs).1
theorem nat_bad2 {n : Nd} {many k : Nat} {s : ByteArray} {x : Int} (hs : n.N[k]? = some s) (hx : n.K[k]? = some x) (h : inB x 1 ((many : Int) - 1) = false) : ¬ NodeOk n many := fun hn => by
  have := (hn.at_ k (List.getElem?_eq_some_iff.1 hs).1).2 x hx
  rw [h] at this; cases this
theorem nat_bad3 {n : Nd} {many m : Nat} {s p : ByteArray} (hs : n.N[m + 1]? = some s) (hp : n.N[m]? = some p) (h : Op.bytesLess p.toList s.toList = false) : ¬ NodeOk n many := fun hn => by
  have := ((hn.at_ (m + 1) (List.getElem?_eq_some_iff.1 hs).1).1 s hs).2 m p rfl hp
  rw [h] at this; cases this

set_option maxRecDepth 10000 in
set_option maxHeartbeats 8000000 in
theorem specNode (x : Nd) (an ak : Option Addr) (cn ck many : Nat) (w : World) (hmany : many ≤ 1048576) (hs : SmN 1048576 x) (hn : Rd 1 encStr1 w an x.N) (hk : Rd 1 encInt1 w ak x.K) :
    Calls Try.prog 26 #[.agg #[.bool x.fold, .int .i64 x.own, .int .i64 x.grp, .int .i64 x.mode, .string x.text, .slice an x.N.length cn, .slice ak x.K.length ck], .int .i64 many] w (RetB (NodeOk x many) w) := by
  obtain ⟨f, o, g, m, s, N, K⟩ := x
  obtain ⟨hs1, hs2, hs3, hs4⟩ := hs
  dsimp only at hs1 hs2 hs3 hs4 hn hk ⊢
  have HS := Lib.hid hs3
  clear hs3
  rcases head_cases f o g m s N.length K.length with h1 | ⟨h1, h2⟩ | ⟨h1, h2, h3⟩ | ⟨h1, h2, h3, h4⟩ | ⟨h1, h2, h3, h4, rfl, h6⟩ | ⟨h1, h2, h3, h4, rfl, h6⟩ | ⟨h1, h2, h3, h4, rfl, h6, h7⟩ | ⟨h1, h2, h3, h4, rfl, h6, h7⟩ | ⟨h1, h2, h3, h4, rfl, h6⟩
  · have HB : Hid (¬ NodeOk ⟨f, o, g, m, s, N, K⟩ many) := Lib.hid (fun h => Bool.noConfusion (h1.symm.trans h.own))
    go_enter Try.func26, Try.ntmps26
    go_wp2_with (go_at_call 25; refine (l1In_is (by assumption) _).mono ?_; rintro e w' ⟨rfl, rfl⟩)
    go_ret
    exact RetB.mk false rfl (by simp [HB.out]) ((Ext.refl _).alloc _)
  · have HB : Hid (¬ NodeOk ⟨f, o, g, m, s, N, K⟩ many) := Lib.hid (fun h => Bool.noConfusion (h2.symm.trans h.grp))
    go_enter Try.func26, Try.ntmps26
    go_wp2_with (go_at_call 25; refine (l1In_is (by assumption) _).mono ?_; rintro e w' ⟨rfl, rfl⟩)
    go_ret
    exact RetB.mk false rfl (by simp [HB.out]) ((Ext.refl _).alloc _)
  · have HB : Hid (¬ NodeOk ⟨f, o, g, m, s, N, K⟩ many) := Lib.hid (fun h => Bool.noConfusion (h3.symm.trans h.mode))
    go_enter Try.func26, Try.ntmps26
    go_wp2_with (go_at_call 25; refine (l1In_is (by assumption) _).mono ?_; rintro e w' ⟨rfl, rfl⟩)
    go_ret
    exact RetB.mk false rfl (by simp [HB.out]) ((Ext.refl _).alloc _)
  · have HB : Hid (¬ NodeOk ⟨f, o, g, m, s, N, K⟩ many) := Lib.hid (fun h => h4 h.len)
    have t4 : ((N.length : Int) != (K.length : Int)) = true := by simp; omega
    clear h4
    go_enter Try.func26, Try.ntmps26
    go_wp2_with (go_at_call 25; refine (l1In_is (by assumption) _).mono ?_; rintro e w' ⟨rfl, rfl⟩)
    go_ret
    exact RetB.mk false rfl (by simp [HB.out]) ((Ext.refl _).alloc _)
  · have HB : Hid (¬ NodeOk ⟨false, o, g, m, s, N, K⟩ many) := Lib.hid (fun h => by have := h.file rfl; simp only at this; omega)
    have t4 : ((N.length : Int) != (K.length : Int)) = false := by simp; omega
    have hne : ¬ N = [] := fun h => by rw [h] at h6; exact absurd h6 (Nat.lt_irrefl _)
    have t6 : (0 : Int) < (N.length : Int) := by omega
    clear h4 h6
    go_enter Try.func26, Try.ntmps26
    go_wp2_with (go_at_call 25; refine (l1In_is (by assumption) _).mono ?_; rintro e w' ⟨rfl, rfl⟩)
    go_ret
    exact RetB.mk false rfl (by simp [HB.out]) ((Ext.refl _).alloc _)
  · have HB : Hid (¬ NodeOk ⟨true, o, g, m, s, N, K⟩ many) := Lib.hid (fun h => by have := h.dir rfl; simp only at this; rw [h6] at this; cases this)
    have t4 : ((N.length : Int) != (K.length : Int)) = false := by simp; omega
    clear h4
    go_enter Try.func26, Try.ntmps26
    go_wp2_with (go_at_call 25; refine (l1In_is (by assumption) _).mono ?_; rintro e w' ⟨rfl, rfl⟩)
    go_ret
    exact RetB.mk false rfl (by simp [HB.out]) ((Ext.refl _).alloc _)
  · have HB : Hid (¬ NodeOk ⟨false, o, g, m, s, N, K⟩ many) := Lib.hid (fun h => by have := h.short; simp only at this; omega)
    obtain rfl : N = [] := List.eq_nil_of_length_eq_zero h6
    obtain rfl : K = [] := List.eq_nil_of_length_eq_zero (by rw [← h4]; rfl)
    have t7 : (40 : Int) < (s.size : Int) := by omega
    clear h4 h6 h7
    simp only [List.length_nil]
    go_enter Try.func26, Try.ntmps26
    go_wp2_with (go_at_call 25; refine (l1In_is (by assumption) _).mono ?_; rintro e w' ⟨rfl, rfl⟩)
    go_ret
    exact RetB.mk false rfl (by simp [HB.out]) ((Ext.refl _).alloc _)
  · obtain rfl : N = [] := List.eq_nil_of_length_eq_zero h6
    obtain rfl : K = [] := List.eq_nil_of_length_eq_zero (by rw [← h4]; rfl)
    have HG : Hid (NodeOk ⟨false, o, g, m, s, [], []⟩ many) := Lib.hid ⟨h1, h2, h3, rfl, fun _ => rfl, fun h => Bool.noConfusion h, h7, fun k hk => by simp at hk⟩
    have t7 : (s.size : Int) ≤ 40 := by omega
    clear h4 h6 h7
    simp only [List.length_nil]
    go_enter Try.func26, Try.ntmps26
    have S := Sep.start w
    replace S : Sep w (w.alloc (.cells #[.bool false, .int .i64 o, .int .i64 g, .int .i64 m, .string s, .slice an 0 cn, .slice ak 0 ck] 57)) [plBox w.heap.size #[.bool false, .int .i64 o, .int .i64 g, .int .i64 m, .string s, .slice an 0 cn, .slice ak 0 ck] 57] := S.alloc_at (by simp) _ _
    go_upto_region 3 with (go_at_call 25; refine (l1In_is (by assumption) _).mono ?_; rintro e w' ⟨rfl, rfl⟩)
    generalize (w.alloc (.cells #[.bool false, .int .i64 o, .int .i64 g, .int .i64 m, .string s, .slice an 0 cn, .slice ak 0 ck] 57)) = w1 at *
    obtain ⟨bc0, bf0⟩ : w1.cell? ⟨w.heap.size, 0, none⟩ = some (.bool false) ∧ w1.frozen? ⟨w.heap.size, 0, none⟩ = false := bx (S.box 0 rfl) 0 rfl
    obtain ⟨bc1, bf1⟩ : w1.cell? ⟨w.heap.size, 1, none⟩ = some (.int .i64 o) ∧ w1.frozen? ⟨w.heap.size, 1, none⟩ = false := bx (S.box 0 rfl) 1 rfl
    obtain ⟨bc2, bf2⟩ : w1.cell? ⟨w.heap.size, 2, none⟩ = some (.int .i64 g) ∧ w1.frozen? ⟨w.heap.size, 2, none⟩ = false := bx (S.box 0 rfl) 2 rfl
    obtain ⟨bc3, bf3⟩ : w1.cell? ⟨w.heap.size, 3, none⟩ = some (.int .i64 m) ∧ w1.frozen? ⟨w.heap.size, 3, none⟩ = false := bx (S.box 0 rfl) 3 rfl
    obtain ⟨bc4, bf4⟩ : w1.cell? ⟨w.heap.size, 4, none⟩ = some (.string s) ∧ w1.frozen? ⟨w.heap.size, 4, none⟩ = false := bx (S.box 0 rfl) 4 rfl
    obtain ⟨bc5, bf5⟩ : w1.cell? ⟨w.heap.size, 5, none⟩ = some (.slice an 0 cn) ∧ w1.frozen? ⟨w.heap.size, 5, none⟩ = false := bx (S.box 0 rfl) 5 rfl
    obtain ⟨bc6, bf6⟩ : w1.cell? ⟨w.heap.size, 6, none⟩ = some (.slice ak 0 ck) ∧ w1.frozen? ⟨w.heap.size, 6, none⟩ = false := bx (S.box 0 rfl) 6 rfl
    go_wp2
    go_loopw [5] (fun i wr => i = .int .i64 0 ∧ wr = w1) (fun i _ => 0)
    case atStart => exact ⟨rfl, rfl⟩
    case round =>
      obtain ⟨rfl, rfl⟩ := hrel
      go_wp2
      go_ret
      exact RetB.mk true rfl (by simp [HG.out]) S.ext
  · have HG : Hid ((∀ k, k < N.length → NAt ⟨true, o, g, m, s, N, K⟩ many k) → NodeOk ⟨true, o, g, m, s, N, K⟩ many) := Lib.hid (fun h => ⟨h1, h2, h3, h4, fun h => Bool.noConfusion h, fun _ => h6, (by have := isEmpty_size.1 h6; show s.size ≤ 40; omega), h⟩)
    have t4 : ((N.length : Int) != (K.length : Int)) = false := by simp; omega
    have t7 : (s.size : Int) = 0 := by have := isEmpty_size.1 h6; omega
    have Hlen := Lib.hid h4
    clear h4
    go_enter Try.func26, Try.ntmps26
    have S := Sep.start w
    replace S : Sep w (w.alloc (.cells #[.bool true, .int .i64 o, .int .i64 g, .int .i64 m, .string s, .slice an N.length cn, .slice ak K.length ck] 57)) [plBox w.heap.size #[.bool true, .int .i64 o, .int .i64 g, .int .i64 m, .string s, .slice an N.length cn, .slice ak K.length ck] 57] := S.alloc_at (by simp) _ _
    go_upto_region 3 with (go_at_call 25; refine (l1In_is (by assumption) _).mono ?_; rintro e w' ⟨rfl, rfl⟩)
    generalize (w.alloc (.cells #[.bool true, .int .i64 o, .int .i64 g, .int .i64 m, .string s, .slice an N.length cn, .slice ak K.length ck] 57)) = w1 at *
    clear t4 t7 h6
    go_wp2
    go_loopw [5] (fun i wr => ∃ k : Nat, k ≤ N.length ∧ i = .int .i64 k ∧ (∀ j, j < k → NAt ⟨true, o, g, m, s, N, K⟩ many j) ∧ Sep w wr [plBox w.heap.size #[.bool true, .int .i64 o, .int .i64 g, .int .i64 m, .string s, .slice an N.length cn, .slice ak K.length ck] 57]) (fun i _ => N.length - (intOf i).toNat)
    case atStart => exact ⟨0, Nat.zero_le _, rfl, fun _ h => absurd h (Nat.not_lt_zero _), S⟩
    case round =>
      clear S
      obtain ⟨k, hkl, rfl, hpre, S⟩ := hrel
      have Hpre := Lib.hid hpre
      clear hpre
      obtain ⟨bc0, bf0⟩ : wr.cell? ⟨w.heap.size, 0, none⟩ = some (.bool true) ∧ wr.frozen? ⟨w.heap.size, 0, none⟩ = false := bx (S.box 0 rfl) 0 rfl
      obtain ⟨bc1, bf1⟩ : wr.cell? ⟨w.heap.size, 1, none⟩ = some (.int .i64 o) ∧ wr.frozen? ⟨w.heap.size, 1, none⟩ = false := bx (S.box 0 rfl) 1 rfl
      obtain ⟨bc2, bf2⟩ : wr.cell? ⟨w.heap.size, 2, none⟩ = some (.int .i64 g) ∧ wr.frozen? ⟨w.heap.size, 2, none⟩ = false := bx (S.box 0 rfl) 2 rfl
      obtain ⟨bc3, bf3⟩ : wr.cell? ⟨w.heap.size, 3, none⟩ = some (.int .i64 m) ∧ wr.frozen? ⟨w.heap.size, 3, none⟩ = false := bx (S.box 0 rfl) 3 rfl
      obtain ⟨bc4, bf4⟩ : wr.cell? ⟨w.heap.size, 4, none⟩ = some (.string s) ∧ wr.frozen? ⟨w.heap.size, 4, none⟩ = false := bx (S.box 0 rfl) 4 rfl
      obtain ⟨bc5, bf5⟩ : wr.cell? ⟨w.heap.size, 5, none⟩ = some (.slice an N.length cn) ∧ wr.frozen? ⟨w.heap.size, 5, none⟩ = false := bx (S.box 0 rfl) 5 rfl
      obtain ⟨bc6, bf6⟩ : wr.cell? ⟨w.heap.size, 6, none⟩ = some (.slice ak K.length ck) ∧ wr.frozen? ⟨w.heap.size, 6, none⟩ = false := bx (S.box 0 rfl) 6 rfl
      by_cases hlt : k < N.length
      rotate_left
      · obtain rfl : k = N.length := by omega
        have hni : ¬ (N.length : Int) < (N.length : Int) := by omega
        go_wp2
        go_ret
        exact RetB.mk true rfl (by simp [HG.out Hpre.out]) S.ext
      · have hltk : k < K.length := by have := Hlen.out; omega
        obtain ⟨x, b1, off, hx, rfl, c0⟩ := atStr (hn.ext S.ext) hlt
        obtain ⟨y, b2, off2, hy, rfl, d0⟩ := atInt (hk.ext S.ext) hltk
        have Hx := Lib.hid hx
        have Hy := Lib.hid hy
        have Z0 := Lib.hid (HS.out x (List.mem_of_getElem? hx))
        have i0 : (k : Int) < (N.length : Int) := by omega
        have i1 : (k : Int) < (K.length : Int) := by omega
        have q0 := ExtW.cell c0
        have q1 := ExtW.cell d0
        have q5 := ExtW.cell bc5
        have q6 := ExtW.cell bc6
        have l0 := ExtW.lt c0
        have l1 := ExtW.lt d0
        have l5 := ExtW.lt bc5
        have s2 : IntKind.i64.wrap ((many : Int) - 1) = (many : Int) - 1 := IntWalk.i64_in _ (by omega)
        clear hx hy c0 d0
        go_upto_region 6 with fail
        by_cases hN : NameOk x
        rotate_left
        · have HN := Lib.hid hN
          have Hbad := Lib.hid (nat_bad1 (n := ⟨true, o, g, m, s, N, K⟩) (many := many) Hx.out hN)
          clear hN
          (refine wp_region_quiet_ext (by kernel_rfl) (by kernel_rfl) ?_; (repeat (go_big_quiet_step ((go_at_call 38; exact Calls.at_b (T := NameOk x) false (by simp [HN.out]) (specNameValid _ _ (Nat.le_trans Z0.out (by omega))))))); refine wpQuiet_nil ?_; intro _ hw'; obtain ⟨sq, hw''⟩ := hw'; subst hw'')
          obtain ⟨w3, hw3⟩ := sq
          go_wp2
          go_ret
          exact RetB.mk false rfl (by simp [Hbad.out]) (S.ext.trans hw3)
        · have HN := Lib.hid hN
          clear hN
          cases hI : inB y 1 ((many : Int) - 1) with
          | false =>
            have HI := Lib.hid hI
            have Hbad := Lib.hid (nat_bad2 (n := ⟨true, o, g, m, s, N, K⟩) (many := many) Hx.out Hy.out hI)
            clear hI
            (refine wp_region_quiet_ext (by kernel_rfl) (by kernel_rfl) ?_; (repeat (go_big_quiet_step ((first | (go_at_call 38; exact Calls.at_b (T := NameOk x) true (by simp [HN.out]) (specNameValid _ _ (Nat.le_trans Z0.out (by omega)))) | (go_at_call 25; exact Calls.at_same (l1In_is HI.out _)))))); refine wpQuiet_nil ?_; intro _ hw'; obtain ⟨sq, hw''⟩ := hw'; subst hw'')
            obtain ⟨w3, hw3⟩ := sq
            go_wp2
            go_ret
            exact RetB.mk false rfl (by simp [Hbad.out]) (S.ext.trans hw3)
          | true =>
            have HI := Lib.hid hI
            clear hI
            rcases k with _ | j
            · have Hnext := Lib.hid (nat_next Hpre.out (nat_zero (n := ⟨true, o, g, m, s, N, K⟩) (many := many) Hx.out Hy.out HN.out HI.out))
              simp only [Nat.add_zero] at q0 q1
              (refine wp_region_quiet_ext (by kernel_rfl) (by kernel_rfl) ?_; (repeat (go_big_quiet_step ((first | (go_at_call 38; exact Calls.at_b (T := NameOk x) true (by simp [HN.out]) (specNameValid _ _ (Nat.le_trans Z0.out (by omega)))) | (go_at_call 25; exact Calls.at_same (l1In_is HI.out _)))))); refine wpQuiet_nil ?_; intro _ hw'; obtain ⟨sq, hw''⟩ := hw'; subst hw'')
              obtain ⟨w3, hw3⟩ := sq
              have S3 := S.step hw3
              go_wp2
              go_roundw
              case rel => exact ⟨0 + 1, by omega, by first | rfl | go_num, Hnext.out, S3⟩
              case measure => first | omega | (simp [intOf]; omega) | simp [intOf]
            · obtain ⟨p, b', off', hp, ha, e0⟩ := atStr (hn.ext S.ext) (show j < N.length by omega)
              obtain ⟨rfl, rfl⟩ : b1 = b' ∧ off = off' := by simpa using ha
              have Hp := Lib.hid hp
              have p0 := ExtW.cell e0
              have bl := ExtW.lt e0
              have s1 : IntKind.i64.wrap (j : Int) = (j : Int) := IntWalk.i64_in _ (by omega)
              have j0 : (0 : Int) ≤ (j : Int) := by omega
              have j1 : (j : Int) < (N.length : Int) := by omega
              have tk : (0 : Int) < ((j : Int) + 1) := by omega
              clear e0 hp ha
              rcases less_cases p.toList x.toList with ⟨e1, e2, e3⟩ | ⟨e1, e2⟩ | ⟨e1, e2, e3⟩
              · have Hnext := Lib.hid (nat_next Hpre.out (nat_succ (n := ⟨true, o, g, m, s, N, K⟩) (many := many) Hx.out Hp.out Hy.out HN.out HI.out e1))
                clear e1
                (refine wp_region_quiet_ext (by kernel_rfl) (by kernel_rfl) ?_; (repeat (go_big_quiet_step ((first | (go_at_call 38; exact Calls.at_b (T := NameOk x) true (by simp [HN.out]) (specNameValid _ _ (Nat.le_trans Z0.out (by omega)))) | (go_at_call 25; exact Calls.at_same (l1In_is HI.out _)))))); refine wpQuiet_nil ?_; intro _ hw'; obtain ⟨sq, hw''⟩ := hw'; subst hw'')
                obtain ⟨w3, hw3⟩ := sq
                have S3 := S.step hw3
                go_wp2
                go_roundw
                case rel => exact ⟨j + 1 + 1, by omega, by first | rfl | go_num, Hnext.out, S3⟩
                case measure => first | omega | (simp [intOf]; omega) | simp [intOf]
              · have Hbad := Lib.hid (nat_bad3 (n := ⟨true, o, g, m, s, N, K⟩) (many := many) Hx.out Hp.out e1)
                clear e1
                (refine wp_region_quiet_ext (by kernel_rfl) (by kernel_rfl) ?_; (repeat (go_big_quiet_step ((first | (go_at_call 38; exact Calls.at_b (T := NameOk x) true (by simp [HN.out]) (specNameValid _ _ (Nat.le_trans Z0.out (by omega)))) | (go_at_call 25; exact Calls.at_same (l1In_is HI.out _)))))); refine wpQuiet_nil ?_; intro _ hw'; obtain ⟨sq, hw''⟩ := hw'; subst hw'')
                obtain ⟨w3, hw3⟩ := sq
                go_wp2
                go_ret
                exact RetB.mk false rfl (by simp [Hbad.out]) (S.ext.trans hw3)
              · have Hbad := Lib.hid (nat_bad3 (n := ⟨true, o, g, m, s, N, K⟩) (many := many) Hx.out Hp.out e1)
                clear e1
                (refine wp_region_quiet_ext (by kernel_rfl) (by kernel_rfl) ?_; (repeat (go_big_quiet_step ((first | (go_at_call 38; exact Calls.at_b (T := NameOk x) true (by simp [HN.out]) (specNameValid _ _ (Nat.le_trans Z0.out (by omega)))) | (go_at_call 25; exact Calls.at_same (l1In_is HI.out _)))))); refine wpQuiet_nil ?_; intro _ hw'; obtain ⟨sq, hw''⟩ := hw'; subst hw'')
                obtain ⟨w3, hw3⟩ := sq
                go_wp2
                go_ret
                exact RetB.mk false rfl (by simp [Hbad.out]) (S.ext.trans hw3)
end Go.Proofs.Ytnibbldfohbfkaa
