/- Trees: contract of the program's nodeValid. Condition: rows and texts of at most 2^20. -/
import Derived.Test.YtnibbldfohbfkaaTree
import Derived.Test.YtnibbldfohbfkaaAlive
namespace Go.Proofs.Ytnibbldfohbfkaa
open Go.RowKit

def NmAt (N : List ByteArray) (k : Nat) : Prop := ∀ s, N[k]? = some s → NameOk s ∧ ∀ m p, k = m + 1 → N[m]? = some p → Op.bytesLess p.toList s.toList = true
structure NodeI (n : Nd) : Prop where
  own : inB n.own 0 99 = true
  grp : inB n.grp 0 7 = true
  mode : inB n.mode 0 1023 = true
  file : n.fold = false → n.text.size ≤ 40 ∧ n.N = [] ∧ n.K = []
  dir : n.fold = true → n.text.toList.isEmpty = true ∧ n.N.length = n.K.length ∧ ∀ k, k < n.N.length → NmAt n.N k
theorem nodeOk_iff {n : Nd} {many : Nat} : NodeOk n many ↔ NodeI n ∧ ∀ x ∈ n.K, inB x 1 ((many : Int) - 1) = true := by
  constructor
  · intro h
    refine ⟨⟨h.own, h.grp, h.mode, fun hf => ?_, fun hf => ⟨h.dir hf, h.len, fun k hk => (h.at_ k hk).1⟩⟩, fun x hx => ?_⟩
    · have h1 := h.file hf
      exact ⟨h.short, List.eq_nil_of_length_eq_zero h1, List.eq_nil_of_length_eq_zero (by rw [← h.len]; exact h1)⟩
    · obtain ⟨k, hk⟩ := List.getElem?_of_mem hx
      exact (h.at_ k (by rw [h.len]; exact (List.getElem?_eq_some_iff.1 hk).1)).2 x hk
  · rintro ⟨h, hk⟩
    cases hf : n.fold with
    | false =>
      obtain ⟨h1, h2, h3⟩ := h.file hf
      exact ⟨h.own, h.grp, h.mode, (by rw [h2, h3]; rfl), fun _ => (by rw [h2]; rfl), fun h => Bool.noConfusion (hf.symm.trans h), h1, fun k hk => by rw [h2] at hk; simp at hk⟩
    | true =>
      obtain ⟨h1, h2, h3⟩ := h.dir hf
      exact ⟨h.own, h.grp, h.mode, h2, fun h => Bool.noConfusion (hf.symm.trans h), fun _ => h1, (by have := isEmpty_size.1 h1; omega), fun k hk' => ⟨h3 k hk', fun x hx => hk x (List.mem_of_getElem? hx)⟩⟩
theorem nm_next {N : List ByteArray} {k : Nat} (h : ∀ j, j < k → NmAt N j) (hk : NmAt N k) : ∀ j, j < k + 1 → NmAt N j := fun j hj => by
  rcases Nat.lt_succ_iff_lt_or_eq.1 hj with h' | rfl
  · exact h j h'
  · exact hk
theorem nm_zero {N : List ByteArray} {s : ByteArray} (hs : N[0]? = some s) (h1 : NameOk s) : NmAt N 0 := fun t ht => by
  rw [hs] at ht; cases ht; exact ⟨h1, fun m p hm => by omega⟩
theorem nm_succ {N : List ByteArray} {m : Nat} {s p : ByteArray} (hs : N[m + 1]? = some s) (hp : N[m]? = some p) (h1 : NameOk s) (h3 : Op.bytesLess p.toList s.toList = true) : NmAt N (m + 1) := fun t ht => by
  rw [hs] at ht; cases ht
  refine ⟨h1, fun m' q hm hq => ?_⟩
  obtain rfl : m = m' := by omega
  rw [hp] at hq; cases hq
  exact h3
theorem nm_bad1 {o g m : Int} {t : ByteArray} {N : List ByteArray} {K : List Int} {k : Nat} {s : ByteArray} (hs : N[k]? = some s) (h : ¬ NameOk s) : ¬ NodeI ⟨true, o, g, m, t, N, K⟩ := fun hn => h ((((hn.dir rfl).2.2 k (List.getElem?_eq_some_iff.1 hs).1)) s hs).1
theorem nm_bad3 {o g m : Int} {t : ByteArray} {N : List ByteArray} {K : List Int} {j : Nat} {s p : ByteArray} (hs : N[j + 1]? = some s) (hp : N[j]? = some p) (h : Op.bytesLess p.toList s.toList = false) : ¬ NodeI ⟨true, o, g, m, t, N, K⟩ := fun hn => by
  have := ((((hn.dir rfl).2.2 (j + 1) (List.getElem?_eq_some_iff.1 hs).1)) s hs).2 j p rfl hp
  rw [h] at this; cases this

set_option maxHeartbeats 400000 in
theorem isGroup_is {n : Int} {b : Bool} (h : inB n 0 7 = b) (w : World) : Calls Try.prog 41 #[.int .i64 n] w fun e w' => e = .returned (.bool b) ∧ w = w' := by
  go_enter Try.func41, Try.ntmps41
  go_wp2_with (go_at_call 32; refine (within_is h _).mono ?_; rintro e w' ⟨rfl, rfl⟩)
  go_ret
  exact ⟨rfl, rfl⟩
set_option maxHeartbeats 400000 in
theorem isMode_is {n : Int} {b : Bool} (h : inB n 0 1023 = b) (w : World) : Calls Try.prog 42 #[.int .i64 n] w fun e w' => e = .returned (.bool b) ∧ w = w' := by
  go_enter Try.func42, Try.ntmps42
  go_wp2_with (go_at_call 32; refine (within_is h _).mono ?_; rintro e w' ⟨rfl, rfl⟩)
  go_ret
  exact ⟨rfl, rfl⟩

theorem headI_cases (f : Bool) (o g m : Int) (s : ByteArray) (N : List ByteArray) (K : List Int) : inB o 0 99 = false ∨ (inB o 0 99 = true ∧ inB g 0 7 = false) ∨ (inB o 0 99 = true ∧ inB g 0 7 = true ∧ inB m 0 1023 = false) ∨
    (inB o 0 99 = true ∧ inB g 0 7 = true ∧ inB m 0 1023 = true ∧ f = false ∧ 40 < s.size) ∨
    (inB o 0 99 = true ∧ inB g 0 7 = true ∧ inB m 0 1023 = true ∧ f = false ∧ s.size ≤ 40 ∧ ¬ N = []) ∨
    (inB o 0 99 = true ∧ inB g 0 7 = true ∧ inB m 0 1023 = true ∧ f = false ∧ s.size ≤ 40 ∧ N = [] ∧ ¬ K = []) ∨
    (inB o 0 99 = true ∧ inB g 0 7 = true ∧ inB m 0 1023 = true ∧ f = false ∧ s.size ≤ 40 ∧ N = [] ∧ K = []) ∨
    (inB o 0 99 = true ∧ inB g 0 7 = true ∧ inB m 0 1023 = true ∧ f = true) := by
  cases inB o 0 99 <;> cases inB g 0 7 <;> cases inB m 0 1023 <;> cases f <;> by_cases h : N = [] <;> by_cases k : K = [] <;> simp [h, k] <;> omega

set_option maxRecDepth 10000 in
set_option maxHeartbeats 8000000 in
theorem implNode (x : Nd) (an ak : Option Addr) (cn ck : Nat) (w : World) (hs : SmN 1048576 x) (hn : Rd 1 encStr1 w an x.N) :
    Calls Try.prog 30 #[.agg #[.bool x.fold, .int .i64 x.own, .int .i64 x.grp, .int .i64 x.mode, .string x.text, .slice an x.N.length cn, .slice ak x.K.length ck]] w (RetB (NodeI x) w) := by
  obtain ⟨f, o, g, m, s, N, K⟩ := x
  obtain ⟨hs1, hs2, hs3, hs4⟩ := hs
  dsimp only at hs1 hs2 hs3 hs4 hn ⊢
  have HS := Lib.hid hs3
  clear hs3
  rcases headI_cases f o g m s N K with h1 | ⟨h1, h2⟩ | ⟨h1, h2, h3⟩ | ⟨h1, h2, h3, rfl, h4⟩ | ⟨h1, h2, h3, rfl, h4, h5⟩ | ⟨h1, h2, h3, rfl, h4, rfl, h6⟩ | ⟨h1, h2, h3, rfl, h4, rfl, rfl⟩ | ⟨h1, h2, h3, rfl⟩
  · have HB : Hid (¬ NodeI ⟨f, o, g, m, s, N, K⟩) := Lib.hid (fun h => Bool.noConfusion (h1.symm.trans h.own))
    go_enter Try.func30, Try.ntmps30
    go_wp2_with (first | (go_at_call 31; refine (isUser_is (by assumption) _).mono ?_; rintro e w' ⟨rfl, rfl⟩) | (go_at_call 41; refine (isGroup_is (by assumption) _).mono ?_; rintro e w' ⟨rfl, rfl⟩) | (go_at_call 42; refine (isMode_is (by assumption) _).mono ?_; rintro e w' ⟨rfl, rfl⟩))
    go_ret
    exact RetB.mk false rfl (by simp [HB.out]) ((Ext.refl _).alloc _)
  · have HB : Hid (¬ NodeI ⟨f, o, g, m, s, N, K⟩) := Lib.hid (fun h => Bool.noConfusion (h2.symm.trans h.grp))
    go_enter Try.func30, Try.ntmps30
    go_wp2_with (first | (go_at_call 31; refine (isUser_is (by assumption) _).mono ?_; rintro e w' ⟨rfl, rfl⟩) | (go_at_call 41; refine (isGroup_is (by assumption) _).mono ?_; rintro e w' ⟨rfl, rfl⟩) | (go_at_call 42; refine (isMode_is (by assumption) _).mono ?_; rintro e w' ⟨rfl, rfl⟩))
    go_ret
    exact RetB.mk false rfl (by simp [HB.out]) ((Ext.refl _).alloc _)
  · have HB : Hid (¬ NodeI ⟨f, o, g, m, s, N, K⟩) := Lib.hid (fun h => Bool.noConfusion (h3.symm.trans h.mode))
    go_enter Try.func30, Try.ntmps30
    go_wp2_with (first | (go_at_call 31; refine (isUser_is (by assumption) _).mono ?_; rintro e w' ⟨rfl, rfl⟩) | (go_at_call 41; refine (isGroup_is (by assumption) _).mono ?_; rintro e w' ⟨rfl, rfl⟩) | (go_at_call 42; refine (isMode_is (by assumption) _).mono ?_; rintro e w' ⟨rfl, rfl⟩))
    go_ret
    exact RetB.mk false rfl (by simp [HB.out]) ((Ext.refl _).alloc _)
  · have HB : Hid (¬ NodeI ⟨false, o, g, m, s, N, K⟩) := Lib.hid (fun h => by have := (h.file rfl).1; simp only at this; omega)
    have t4 : (40 : Int) < (s.size : Int) := by omega
    clear h4
    go_enter Try.func30, Try.ntmps30
    go_wp2_with (first | (go_at_call 31; refine (isUser_is (by assumption) _).mono ?_; rintro e w' ⟨rfl, rfl⟩) | (go_at_call 41; refine (isGroup_is (by assumption) _).mono ?_; rintro e w' ⟨rfl, rfl⟩) | (go_at_call 42; refine (isMode_is (by assumption) _).mono ?_; rintro e w' ⟨rfl, rfl⟩))
    all_goals go_ret
    all_goals exact RetB.mk false (by first | rfl | (simp; done) | (simp; omega)) (by simp [HB.out]) ((Ext.refl _).alloc _)
  · have HB : Hid (¬ NodeI ⟨false, o, g, m, s, N, K⟩) := Lib.hid (fun h => h5 (h.file rfl).2.1)
    have t4 : (s.size : Int) ≤ 40 := by omega
    have t5 : ((N.length : Int) == 0) = false := by
      have : N.length ≠ 0 := fun h => h5 (List.eq_nil_of_length_eq_zero h)
      simp; exact h5
    clear h4
    go_enter Try.func30, Try.ntmps30
    go_wp2_with (first | (go_at_call 31; refine (isUser_is (by assumption) _).mono ?_; rintro e w' ⟨rfl, rfl⟩) | (go_at_call 41; refine (isGroup_is (by assumption) _).mono ?_; rintro e w' ⟨rfl, rfl⟩) | (go_at_call 42; refine (isMode_is (by assumption) _).mono ?_; rintro e w' ⟨rfl, rfl⟩))
    all_goals go_ret
    all_goals exact RetB.mk false (by first | rfl | (simp; done) | (simp [h5]; done) | (simp; omega)) (by simp [HB.out]) ((Ext.refl _).alloc _)
  · have HB : Hid (¬ NodeI ⟨false, o, g, m, s, [], K⟩) := Lib.hid (fun h => h6 (h.file rfl).2.2)
    have t4 : (s.size : Int) ≤ 40 := by omega
    have t5 : ((K.length : Int) == 0) = false := by
      have : K.length ≠ 0 := fun h => h6 (List.eq_nil_of_length_eq_zero h)
      simp; exact h6
    clear h4
    simp only [List.length_nil]
    go_enter Try.func30, Try.ntmps30
    go_wp2_with (first | (go_at_call 31; refine (isUser_is (by assumption) _).mono ?_; rintro e w' ⟨rfl, rfl⟩) | (go_at_call 41; refine (isGroup_is (by assumption) _).mono ?_; rintro e w' ⟨rfl, rfl⟩) | (go_at_call 42; refine (isMode_is (by assumption) _).mono ?_; rintro e w' ⟨rfl, rfl⟩))
    all_goals go_ret
    all_goals exact RetB.mk false (by first | rfl | (simp; done) | (simp [h6]; done) | (simp; omega)) (by simp [HB.out]) ((Ext.refl _).alloc _)
  · have HG : Hid (NodeI ⟨false, o, g, m, s, [], []⟩) := Lib.hid ⟨h1, h2, h3, fun _ => ⟨h4, rfl, rfl⟩, fun h => Bool.noConfusion h⟩
    have t4 : (s.size : Int) ≤ 40 := by omega
    clear h4
    simp only [List.length_nil]
    go_enter Try.func30, Try.ntmps30
    go_wp2_with (first | (go_at_call 31; refine (isUser_is (by assumption) _).mono ?_; rintro e w' ⟨rfl, rfl⟩) | (go_at_call 41; refine (isGroup_is (by assumption) _).mono ?_; rintro e w' ⟨rfl, rfl⟩) | (go_at_call 42; refine (isMode_is (by assumption) _).mono ?_; rintro e w' ⟨rfl, rfl⟩))
    all_goals go_ret
    all_goals exact RetB.mk true (by first | rfl | (simp; done) | (simp; omega)) (by simp [HG.out]) ((Ext.refl _).alloc _)
  · have HG : Hid (s.toList.isEmpty = true → N.length = K.length → (∀ k, k < N.length → NmAt N k) → NodeI ⟨true, o, g, m, s, N, K⟩) := Lib.hid (fun a b c => ⟨h1, h2, h3, fun h => Bool.noConfusion h, fun _ => ⟨a, b, c⟩⟩)
    go_enter Try.func30, Try.ntmps30
    have S := Sep.start w
    replace S : Sep w (w.alloc (.cells #[.bool true, .int .i64 o, .int .i64 g, .int .i64 m, .string s, .slice an N.length cn, .slice ak K.length ck] 57)) [plBox w.heap.size #[.bool true, .int .i64 o, .int .i64 g, .int .i64 m, .string s, .slice an N.length cn, .slice ak K.length ck] 57] := S.alloc_at (by simp) _ _
    go_upto_region 3 with (first | (go_at_call 31; refine (isUser_is (by assumption) _).mono ?_; rintro e w' ⟨rfl, rfl⟩) | (go_at_call 41; refine (isGroup_is (by assumption) _).mono ?_; rintro e w' ⟨rfl, rfl⟩) | (go_at_call 42; refine (isMode_is (by assumption) _).mono ?_; rintro e w' ⟨rfl, rfl⟩))
    generalize (w.alloc (.cells #[.bool true, .int .i64 o, .int .i64 g, .int .i64 m, .string s, .slice an N.length cn, .slice ak K.length ck] 57)) = w1 at *
    obtain ⟨bc0, bf0⟩ : w1.cell? ⟨w.heap.size, 0, none⟩ = some (.bool true) ∧ w1.frozen? ⟨w.heap.size, 0, none⟩ = false := bx (S.box 0 rfl) 0 rfl
    obtain ⟨bc1, bf1⟩ : w1.cell? ⟨w.heap.size, 1, none⟩ = some (.int .i64 o) ∧ w1.frozen? ⟨w.heap.size, 1, none⟩ = false := bx (S.box 0 rfl) 1 rfl
    obtain ⟨bc2, bf2⟩ : w1.cell? ⟨w.heap.size, 2, none⟩ = some (.int .i64 g) ∧ w1.frozen? ⟨w.heap.size, 2, none⟩ = false := bx (S.box 0 rfl) 2 rfl
    obtain ⟨bc3, bf3⟩ : w1.cell? ⟨w.heap.size, 3, none⟩ = some (.int .i64 m) ∧ w1.frozen? ⟨w.heap.size, 3, none⟩ = false := bx (S.box 0 rfl) 3 rfl
    obtain ⟨bc4, bf4⟩ : w1.cell? ⟨w.heap.size, 4, none⟩ = some (.string s) ∧ w1.frozen? ⟨w.heap.size, 4, none⟩ = false := bx (S.box 0 rfl) 4 rfl
    obtain ⟨bc5, bf5⟩ : w1.cell? ⟨w.heap.size, 5, none⟩ = some (.slice an N.length cn) ∧ w1.frozen? ⟨w.heap.size, 5, none⟩ = false := bx (S.box 0 rfl) 5 rfl
    obtain ⟨bc6, bf6⟩ : w1.cell? ⟨w.heap.size, 6, none⟩ = some (.slice ak K.length ck) ∧ w1.frozen? ⟨w.heap.size, 6, none⟩ = false := bx (S.box 0 rfl) 6 rfl
    go_wp2
    clear bc0 bf0 bc1 bf1 bc2 bf2 bc3 bf3 bc4 bf4 bc5 bf5 bc6 bf6
    go_loopw [3, 4, 43] (fun _ _ i wr => ∃ k : Nat, k ≤ N.length ∧ i = .int .i64 k ∧ (∀ j, j < k → NmAt N j) ∧ Sep w wr [plBox w.heap.size #[.bool true, .int .i64 o, .int .i64 g, .int .i64 m, .string s, .slice an N.length cn, .slice ak K.length ck] 57]) (fun _ _ i _ => N.length - (intOf i).toNat)
    case atStart => exact ⟨0, Nat.zero_le _, rfl, fun _ h => absurd h (Nat.not_lt_zero _), S⟩
    case round =>
      clear S
      obtain ⟨k, hkl, rfl, hpre, S⟩ := hrel
      have Hpre := Lib.hid hpre
      clear hpre
      obtain ⟨bc0, bf0⟩ : wr.cell? ⟨w.heap.size, 0, none⟩ = some (.bool true) ∧ wr.frozen? ⟨w.heap.size, 0, none⟩ = false := bx (S.box 0 rfl) 0 rfl
      obtain ⟨bc1, bf1⟩ : wr.cell? ⟨w.heap.size, 1, none⟩ = some (.int .i64 o) ∧ wr.frozen? ⟨w.heap.size, 1, none⟩ = false := bx (S.box 0 rfl) 1 rfl
      obtain ⟨bc2, bf2⟩ : wr.cell? ⟨w.heap.size, 2, none⟩ = some (.int .i64 g) ∧ wr.frozen? ⟨w.heap.size, 2, none⟩ = false := bx (S.box 0 rfl) 2 rfl
      obtain ⟨bc3, bf3⟩ : wr.cell? ⟨w.heap.size, 3, none⟩ = some (.int .i64 m) ∧ wr.frozen? ⟨w.heap.size, 3, none⟩ = false := bx (S.box 0 rfl) 3 rfl
      obtain ⟨bc4, bf4⟩ : wr.cell? ⟨w.heap.size, 4, none⟩ = some (.string s) ∧ wr.frozen? ⟨w.heap.size, 4, none⟩ = false := bx (S.box 0 rfl) 4 rfl
      obtain ⟨bc5, bf5⟩ : wr.cell? ⟨w.heap.size, 5, none⟩ = some (.slice an N.length cn) ∧ wr.frozen? ⟨w.heap.size, 5, none⟩ = false := bx (S.box 0 rfl) 5 rfl
      obtain ⟨bc6, bf6⟩ : wr.cell? ⟨w.heap.size, 6, none⟩ = some (.slice ak K.length ck) ∧ wr.frozen? ⟨w.heap.size, 6, none⟩ = false := bx (S.box 0 rfl) 6 rfl
      by_cases hlt : k < N.length
      rotate_left
      · obtain rfl : k = N.length := by omega
        have hni : ¬ (N.length : Int) < (N.length : Int) := by omega
        cases he : s.toList.isEmpty with
        | false =>
          have HB : Hid (¬ NodeI ⟨true, o, g, m, s, N, K⟩) := Lib.hid (fun h => by have := (h.dir rfl).1; simp only at this; rw [he] at this; cases this)
          go_wp2
          go_ret
          exact RetB.mk false rfl (by simp [HB.out]) S.ext
        | true =>
          by_cases hl : N.length = K.length
          · have HO := Lib.hid (HG.out he hl Hpre.out)
            have tl : ((N.length : Int) == (K.length : Int)) = true := by simp; omega
            clear hl
            go_wp2
            go_ret
            exact RetB.mk true (by first | rfl | (simp; omega)) (by simp [HO.out]) S.ext
          · have HB : Hid (¬ NodeI ⟨true, o, g, m, s, N, K⟩) := Lib.hid (fun h => hl (h.dir rfl).2.1)
            have tl : ((N.length : Int) == (K.length : Int)) = false := by simp; omega
            clear hl
            go_wp2
            go_ret
            exact RetB.mk false (by first | rfl | (simp; omega)) (by simp [HB.out]) S.ext
      · obtain ⟨x, b1, off, hx, rfl, c0⟩ := atStr (hn.ext S.ext) hlt
        have Hx := Lib.hid hx
        have Z0 := Lib.hid (HS.out x (List.mem_of_getElem? hx))
        have i0 : (k : Int) < (N.length : Int) := by omega
        clear hx
        go_wp2_with fail
        clear bc0 bf0 bc1 bf1 bc2 bf2 bc3 bf3 bc4 bf4 bc5 bf5 bc6 bf6
        refine (implNameValid x _ (Nat.le_trans Z0.out (by omega))).mono ?_
        rintro e w3 ⟨v, rfl, hv, hE⟩
        have Hv := Lib.hid hv
        have E3 := hE
        clear hv
        replace S : Sep w w3 [plBox w.heap.size #[.bool true, .int .i64 o, .int .i64 g, .int .i64 m, .string s, .slice (some ⟨b1, off, none⟩) N.length cn, .slice ak K.length ck] 57] := S.step hE
        clear hE
        obtain ⟨bc0, bf0⟩ : w3.cell? ⟨w.heap.size, 0, none⟩ = some (.bool true) ∧ w3.frozen? ⟨w.heap.size, 0, none⟩ = false := bx (S.box 0 rfl) 0 rfl
        obtain ⟨bc1, bf1⟩ : w3.cell? ⟨w.heap.size, 1, none⟩ = some (.int .i64 o) ∧ w3.frozen? ⟨w.heap.size, 1, none⟩ = false := bx (S.box 0 rfl) 1 rfl
        obtain ⟨bc2, bf2⟩ : w3.cell? ⟨w.heap.size, 2, none⟩ = some (.int .i64 g) ∧ w3.frozen? ⟨w.heap.size, 2, none⟩ = false := bx (S.box 0 rfl) 2 rfl
        obtain ⟨bc3, bf3⟩ : w3.cell? ⟨w.heap.size, 3, none⟩ = some (.int .i64 m) ∧ w3.frozen? ⟨w.heap.size, 3, none⟩ = false := bx (S.box 0 rfl) 3 rfl
        obtain ⟨bc4, bf4⟩ : w3.cell? ⟨w.heap.size, 4, none⟩ = some (.string s) ∧ w3.frozen? ⟨w.heap.size, 4, none⟩ = false := bx (S.box 0 rfl) 4 rfl
        obtain ⟨bc5, bf5⟩ : w3.cell? ⟨w.heap.size, 5, none⟩ = some (.slice (some ⟨b1, off, none⟩) N.length cn) ∧ w3.frozen? ⟨w.heap.size, 5, none⟩ = false := bx (S.box 0 rfl) 5 rfl
        obtain ⟨bc6, bf6⟩ : w3.cell? ⟨w.heap.size, 6, none⟩ = some (.slice ak K.length ck) ∧ w3.frozen? ⟨w.heap.size, 6, none⟩ = false := bx (S.box 0 rfl) 6 rfl
        cases v with
        | false =>
          have HB : Hid (¬ NodeI ⟨true, o, g, m, s, N, K⟩) := Lib.hid (nm_bad1 Hx.out (fun h => Bool.noConfusion (Hv.out.2 h)))
          go_wp2
          go_ret
          exact RetB.mk false rfl (by simp [HB.out]) S.ext
        | true =>
          have HN := Lib.hid (Hv.out.1 rfl)
          clear Hv
          rcases k with _ | j
          · have Hnext := Lib.hid (nm_next Hpre.out (nm_zero Hx.out HN.out))
            go_wp2
            clear bc0 bf0 bc1 bf1 bc2 bf2 bc3 bf3 bc4 bf4 bc5 bf5 bc6 bf6
            go_roundw
            case rel => exact ⟨0 + 1, by omega, by first | rfl | go_num, Hnext.out, S⟩
            case measure => first | omega | (simp [intOf]; omega) | simp [intOf]
          · obtain ⟨p, b', off', hp, ha, e0⟩ := atStr (hn.ext S.ext) (show j < N.length by omega)
            obtain ⟨rfl, rfl⟩ : b1 = b' ∧ off = off' := by simpa using ha
            have Hp := Lib.hid hp
            have j0 : (0 : Int) ≤ (j : Int) := by omega
            have j1 : (j : Int) < (N.length : Int) := by omega
            have tk : (0 : Int) < ((j : Int) + 1) := by omega
            clear hp ha
            cases hlt2 : Op.bytesLess p.toList x.toList with
            | true =>
              have Hnext := Lib.hid (nm_next Hpre.out (nm_succ Hx.out Hp.out HN.out hlt2))
              go_wp2
              clear bc0 bf0 bc1 bf1 bc2 bf2 bc3 bf3 bc4 bf4 bc5 bf5 bc6 bf6
              go_roundw
              case rel => exact ⟨j + 1 + 1, by omega, by first | rfl | go_num, Hnext.out, S⟩
              case measure => first | omega | (simp [intOf]; omega) | simp [intOf]
            | false =>
              have HB : Hid (¬ NodeI ⟨true, o, g, m, s, N, K⟩) := Lib.hid (nm_bad3 Hx.out Hp.out hlt2)
              go_wp2
              go_ret
              exact RetB.mk false rfl (by simp [HB.out]) S.ext
end Go.Proofs.Ytnibbldfohbfkaa
