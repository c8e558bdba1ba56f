/- Kernels: contracts of the laws' functions that count, copy and compare them; credentials. Condition: rows shorter than 2^63. -/
import Derived.Test.YtnibbldfohbfkaaNodL
import Derived.Test.YtnibbldfohbfkaaNodQ
namespace Go.Proofs.Ytnibbldfohbfkaa
open Go.RowKit

def CredOk (r a s g : Int) : Prop := inB r 0 99 = true ∧ inB a 0 99 = true ∧ inB s 0 99 = true ∧ inB g 0 255 = true
theorem l1In_is {n lo hi : Int} {b : Bool} (h : inB n lo hi = b) (w : World) : Calls Try.prog 25 #[.int .i64 n, .int .i64 lo, .int .i64 hi] w fun e w' => e = .returned (.bool b) ∧ w = w' := h ▸ l1In_any n lo hi w
theorem within_is {n lo hi : Int} {b : Bool} (h : inB n lo hi = b) (w : World) : Calls Try.prog 32 #[.int .i64 n, .int .i64 lo, .int .i64 hi] w fun e w' => e = .returned (.bool b) ∧ w = w' := h ▸ within_any n lo hi w
set_option maxHeartbeats 400000 in
theorem isUser_is {n : Int} {b : Bool} (h : inB n 0 99 = b) (w : World) : Calls Try.prog 31 #[.int .i64 n] w fun e w' => e = .returned (.bool b) ∧ w = w' := by
  go_enter Try.func31, Try.ntmps31
  go_wp2_with (go_at_call 32; refine (within_is h _).mono ?_; rintro e w' ⟨rfl, rfl⟩)
  go_ret
  exact ⟨rfl, rfl⟩

theorem cred_cases (r a s g : Int) : inB r 0 99 = false ∨ (inB r 0 99 = true ∧ inB a 0 99 = false) ∨ (inB r 0 99 = true ∧ inB a 0 99 = true ∧ inB s 0 99 = false) ∨ (inB r 0 99 = true ∧ inB a 0 99 = true ∧ inB s 0 99 = true ∧ inB g 0 255 = false) ∨ (inB r 0 99 = true ∧ inB a 0 99 = true ∧ inB s 0 99 = true ∧ inB g 0 255 = true) := by
  cases inB r 0 99 <;> cases inB a 0 99 <;> cases inB s 0 99 <;> cases inB g 0 255 <;> simp

set_option maxHeartbeats 4000000 in
theorem specCredValid (r a s g : Int) (w : World) : Calls Try.prog 14 #[.agg #[.int .i64 r, .int .i64 a, .int .i64 s, .int .i64 g]] w (RetB (CredOk r a s g) w) := by
  unfold CredOk
  rcases cred_cases r a s g with h1 | ⟨h1, h2⟩ | ⟨h1, h2, h3⟩ | ⟨h1, h2, h3, h4⟩ | ⟨h1, h2, h3, h4⟩
  all_goals
    go_enter Try.func14, Try.ntmps14
    go_wp2_with (go_at_call 25; refine (l1In_is (by assumption) _).mono ?_; rintro e w' ⟨rfl, rfl⟩)
    go_ret
    exact RetB.mk _ rfl (by simp [*]) ((Ext.refl _).alloc _)

set_option maxHeartbeats 4000000 in
theorem implCredValid (r a s g : Int) (w : World) : Calls Try.prog 18 #[.agg #[.int .i64 r, .int .i64 a, .int .i64 s, .int .i64 g]] w (RetB (CredOk r a s g) w) := by
  unfold CredOk
  rcases cred_cases r a s g with h1 | ⟨h1, h2⟩ | ⟨h1, h2, h3⟩ | ⟨h1, h2, h3, h4⟩ | ⟨h1, h2, h3, h4⟩
  all_goals
    go_enter Try.func18, Try.ntmps18
    go_wp2_with (first
      | (go_at_call 31; refine (isUser_is (by assumption) _).mono ?_; rintro e w' ⟨rfl, rfl⟩)
      | (go_at_call 32; refine (within_is (by assumption) _).mono ?_; rintro e w' ⟨rfl, rfl⟩))
    go_ret
    exact RetB.mk _ rfl (by simp [*]) ((Ext.refl _).alloc _)

set_option maxHeartbeats 1000000 in
theorem toCred_any (r a s g : Int) (w : World) : Calls Try.prog 16 #[.agg #[.int .i64 r, .int .i64 a, .int .i64 s, .int .i64 g]] w (RetV (fun v _ => v = .agg #[.int .i64 r, .int .i64 a, .int .i64 s, .int .i64 g]) w) := by
  go_enter Try.func16, Try.ntmps16
  go_wp2
  exact bodyPost_ret (v := .agg #[.int .i64 r, .int .i64 a, .int .i64 s, .int .i64 g]) (by simp [results, Try.results16, go_sem]) rfl (RetV.mk rfl ((((Ext.refl _).alloc _).alloc _).alloc _))

set_option maxHeartbeats 1000000 in
theorem eqCred_any (r a s g r' a' s' g' : Int) (w : World) : Calls Try.prog 20 #[.agg #[.int .i64 r, .int .i64 a, .int .i64 s, .int .i64 g], .agg #[.int .i64 r', .int .i64 a', .int .i64 s', .int .i64 g']] w (RetB (r = r' ∧ a = a' ∧ s = s' ∧ g = g') w) := by
  go_enter Try.func20, Try.ntmps20
  go_wp2
  all_goals
    go_ret
    refine RetB.mk _ rfl ?_ (((Ext.refl _).alloc _).alloc _)
    simp_all

set_option maxHeartbeats 1000000 in
theorem szKer_any (at_ : Option Addr) (cap : Nat) (T : List Nd) (r a s g left : Int) (w : World) (h0 : 0 ≤ left) (h1 : left ≤ 1048576) (hl : T.length ≤ 9223372036854775807) (hs : ∀ x ∈ T, SmN 9223372036854775807 x) (hc : RdN w at_ T) :
    Calls Try.prog 5 #[.agg #[.slice at_ T.length cap, .int .i64 r, .int .i64 a, .int .i64 s, .int .i64 g], .int .i64 left] w (RetSz left (fun _ => T.length ≤ 1048576 ∧ ∀ x ∈ T, SmN 1048576 x) w) := by
  have HS := Lib.hid hs
  clear hs
  go_enter Try.func5, Try.ntmps5
  have S := Sep.start w
  replace S : Sep w (w.alloc (.cells #[.slice at_ T.length cap, .int .i64 r, .int .i64 a, .int .i64 s, .int .i64 g] 26)) [plBox w.heap.size #[.slice at_ T.length cap, .int .i64 r, .int .i64 a, .int .i64 s, .int .i64 g] 26] := S.alloc_at (by simp) _ _
  go_wp2_with fail
  generalize (w.alloc (.cells #[.slice at_ T.length cap, .int .i64 r, .int .i64 a, .int .i64 s, .int .i64 g] 26)) = w1 at *
  refine (szNdS_any at_ cap T left w1 h0 h1 hl HS.out (hc.ext S.ext)).mono ?_
  rintro e w2 ⟨q, rfl, hra, hrb, hrc, hE⟩
  have Hrc := Lib.hid hrc
  clear hrc
  replace S : Sep w w2 [plBox w.heap.size #[.slice at_ T.length cap, .int .i64 r, .int .i64 a, .int .i64 s, .int .i64 g] 26] := S.step hE
  clear hE
  by_cases hneg : q < 0
  · go_wp2
    go_ret
    exact RetSz.mk rfl (by omega) (by omega) (fun h => absurd h (by omega)) S.ext
  · go_wp2
    go_ret
    exact RetSz.mk rfl (by omega) (by omega) (fun _ => Hrc.out (by omega)) S.ext

set_option maxHeartbeats 2000000 in
theorem toKer_any (at_ : Option Addr) (cap : Nat) (T : List Nd) (r a s g : Int) (w : World) (hl : T.length ≤ 1048576) (hs : ∀ x ∈ T, SmN 1048576 x) (hc : RdN w at_ T) :
    Calls Try.prog 7 #[.agg #[.slice at_ T.length cap, .int .i64 r, .int .i64 a, .int .i64 s, .int .i64 g]] w fun e w' => ∃ a1 c1 vs, e = .returned (.agg #[.slice a1 T.length c1, .int .i64 r, .int .i64 a, .int .i64 s, .int .i64 g]) ∧ T.length ≤ c1 ∧ Sep w w' [plNd (.slice a1 T.length c1) vs T] := by
  have HS := Lib.hid hs
  clear hs
  go_enter Try.func7, Try.ntmps7
  have S := Sep.start w
  replace S : Sep w (w.alloc (.cells #[.slice at_ T.length cap, .int .i64 r, .int .i64 a, .int .i64 s, .int .i64 g] 26)) [plBox w.heap.size #[.slice at_ T.length cap, .int .i64 r, .int .i64 a, .int .i64 s, .int .i64 g] 26] := S.alloc_at (by simp) _ _
  replace S : Sep w ((w.alloc (.cells #[.slice at_ T.length cap, .int .i64 r, .int .i64 a, .int .i64 s, .int .i64 g] 26)).alloc (.cells #[.slice none 0 0, .int .i64 0, .int .i64 0, .int .i64 0, .int .i64 0] 32)) [plBox (w.heap.size + 1) #[.slice none 0 0, .int .i64 0, .int .i64 0, .int .i64 0, .int .i64 0] 32, plBox w.heap.size #[.slice at_ T.length cap, .int .i64 r, .int .i64 a, .int .i64 s, .int .i64 g] 26] := S.alloc_at (by simp) _ _
  replace S : Sep w (((w.alloc (.cells #[.slice at_ T.length cap, .int .i64 r, .int .i64 a, .int .i64 s, .int .i64 g] 26)).alloc (.cells #[.slice none 0 0, .int .i64 0, .int .i64 0, .int .i64 0, .int .i64 0] 32)).alloc (.cells #[.slice none 0 0, .int .i64 0, .int .i64 0, .int .i64 0, .int .i64 0] 32)) [plBox (w.heap.size + 2) #[.slice none 0 0, .int .i64 0, .int .i64 0, .int .i64 0, .int .i64 0] 32, plBox (w.heap.size + 1) #[.slice none 0 0, .int .i64 0, .int .i64 0, .int .i64 0, .int .i64 0] 32, plBox w.heap.size #[.slice at_ T.length cap, .int .i64 r, .int .i64 a, .int .i64 s, .int .i64 g] 26] := S.alloc_at (by simp) _ _
  go_wp2_with fail
  generalize (((w.alloc (.cells #[.slice at_ T.length cap, .int .i64 r, .int .i64 a, .int .i64 s, .int .i64 g] 26)).alloc (.cells #[.slice none 0 0, .int .i64 0, .int .i64 0, .int .i64 0, .int .i64 0] 32)).alloc (.cells #[.slice none 0 0, .int .i64 0, .int .i64 0, .int .i64 0, .int .i64 0] 32)) = w1 at *
  refine (toNdS_any at_ cap T w1 hl HS.out (hc.ext S.ext)).mono ?_
  rintro e w2 ⟨vs, rfl, U⟩
  generalize w1.heap.size = q at *
  replace S : Sep w w2 [plNd (.slice (some ⟨q, 0, none⟩) T.length T.length) vs T, plBox (w.heap.size + 2) #[.slice none 0 0, .int .i64 0, .int .i64 0, .int .i64 0, .int .i64 0] 32, plBox (w.heap.size + 1) #[.slice none 0 0, .int .i64 0, .int .i64 0, .int .i64 0, .int .i64 0] 32, plBox w.heap.size #[.slice at_ T.length cap, .int .i64 r, .int .i64 a, .int .i64 s, .int .i64 g] 26] := S.call U
  clear U
  obtain ⟨obc0, obf0⟩ : w2.cell? ⟨(w.heap.size + 2), 0, none⟩ = some (.slice none 0 0) ∧ w2.frozen? ⟨(w.heap.size + 2), 0, none⟩ = false := bx (S.box 1 rfl) 0 rfl
  obtain ⟨obc1, obf1⟩ : w2.cell? ⟨(w.heap.size + 2), 1, none⟩ = some (.int .i64 0) ∧ w2.frozen? ⟨(w.heap.size + 2), 1, none⟩ = false := bx (S.box 1 rfl) 1 rfl
  obtain ⟨obc2, obf2⟩ : w2.cell? ⟨(w.heap.size + 2), 2, none⟩ = some (.int .i64 0) ∧ w2.frozen? ⟨(w.heap.size + 2), 2, none⟩ = false := bx (S.box 1 rfl) 2 rfl
  obtain ⟨obc3, obf3⟩ : w2.cell? ⟨(w.heap.size + 2), 3, none⟩ = some (.int .i64 0) ∧ w2.frozen? ⟨(w.heap.size + 2), 3, none⟩ = false := bx (S.box 1 rfl) 3 rfl
  obtain ⟨obc4, obf4⟩ : w2.cell? ⟨(w.heap.size + 2), 4, none⟩ = some (.int .i64 0) ∧ w2.frozen? ⟨(w.heap.size + 2), 4, none⟩ = false := bx (S.box 1 rfl) 4 rfl
  obtain ⟨rbc0, rbf0⟩ : w2.cell? ⟨(w.heap.size + 1), 0, none⟩ = some (.slice none 0 0) ∧ w2.frozen? ⟨(w.heap.size + 1), 0, none⟩ = false := bx (S.box 2 rfl) 0 rfl
  obtain ⟨rbc1, rbf1⟩ : w2.cell? ⟨(w.heap.size + 1), 1, none⟩ = some (.int .i64 0) ∧ w2.frozen? ⟨(w.heap.size + 1), 1, none⟩ = false := bx (S.box 2 rfl) 1 rfl
  obtain ⟨rbc2, rbf2⟩ : w2.cell? ⟨(w.heap.size + 1), 2, none⟩ = some (.int .i64 0) ∧ w2.frozen? ⟨(w.heap.size + 1), 2, none⟩ = false := bx (S.box 2 rfl) 2 rfl
  obtain ⟨rbc3, rbf3⟩ : w2.cell? ⟨(w.heap.size + 1), 3, none⟩ = some (.int .i64 0) ∧ w2.frozen? ⟨(w.heap.size + 1), 3, none⟩ = false := bx (S.box 2 rfl) 3 rfl
  obtain ⟨rbc4, rbf4⟩ : w2.cell? ⟨(w.heap.size + 1), 4, none⟩ = some (.int .i64 0) ∧ w2.frozen? ⟨(w.heap.size + 1), 4, none⟩ = false := bx (S.box 2 rfl) 4 rfl
  obtain ⟨a0c0, a0f0⟩ : w2.cell? ⟨w.heap.size, 0, none⟩ = some (.slice at_ T.length cap) ∧ w2.frozen? ⟨w.heap.size, 0, none⟩ = false := bx (S.box 3 rfl) 0 rfl
  obtain ⟨a0c1, a0f1⟩ : w2.cell? ⟨w.heap.size, 1, none⟩ = some (.int .i64 r) ∧ w2.frozen? ⟨w.heap.size, 1, none⟩ = false := bx (S.box 3 rfl) 1 rfl
  obtain ⟨a0c2, a0f2⟩ : w2.cell? ⟨w.heap.size, 2, none⟩ = some (.int .i64 a) ∧ w2.frozen? ⟨w.heap.size, 2, none⟩ = false := bx (S.box 3 rfl) 2 rfl
  obtain ⟨a0c3, a0f3⟩ : w2.cell? ⟨w.heap.size, 3, none⟩ = some (.int .i64 s) ∧ w2.frozen? ⟨w.heap.size, 3, none⟩ = false := bx (S.box 3 rfl) 3 rfl
  obtain ⟨a0c4, a0f4⟩ : w2.cell? ⟨w.heap.size, 4, none⟩ = some (.int .i64 g) ∧ w2.frozen? ⟨w.heap.size, 4, none⟩ = false := bx (S.box 3 rfl) 4 rfl
  go_wp2_with fail
  clear obc0 obf0 obc1 obf1 obc2 obf2 obc3 obf3 obc4 obf4 rbc0 rbf0 rbc1 rbf1 rbc2 rbf2 rbc3 rbf3 rbc4 rbf4 a0c0 a0f0 a0c1 a0f1 a0c2 a0f2 a0c3 a0f3 a0c4 a0f4
  replace S : Sep w (w2.setCell ⟨(w.heap.size + 2), 0, none⟩ (.slice (some ⟨q, 0, none⟩) T.length T.length)) [plNd (.slice (some ⟨q, 0, none⟩) T.length T.length) vs T, plBox (w.heap.size + 2) #[.slice (some ⟨q, 0, none⟩) T.length T.length, .int .i64 0, .int .i64 0, .int .i64 0, .int .i64 0] 32, plBox (w.heap.size + 1) #[.slice none 0 0, .int .i64 0, .int .i64 0, .int .i64 0, .int .i64 0] 32, plBox w.heap.size #[.slice at_ T.length cap, .int .i64 r, .int .i64 a, .int .i64 s, .int .i64 g] 26] := S.set 1 rfl 0 _
  generalize (w2.setCell ⟨(w.heap.size + 2), 0, none⟩ (.slice (some ⟨q, 0, none⟩) T.length T.length)) = w3 at *
  refine (toCred_any r a s g w3).mono ?_
  rintro e w4 ⟨v, rfl, rfl, hE⟩
  replace S : Sep w w4 [plNd (.slice (some ⟨q, 0, none⟩) T.length T.length) vs T, plBox (w.heap.size + 2) #[.slice (some ⟨q, 0, none⟩) T.length T.length, .int .i64 0, .int .i64 0, .int .i64 0, .int .i64 0] 32, plBox (w.heap.size + 1) #[.slice none 0 0, .int .i64 0, .int .i64 0, .int .i64 0, .int .i64 0] 32, plBox w.heap.size #[.slice at_ T.length cap, .int .i64 r, .int .i64 a, .int .i64 s, .int .i64 g] 26] := S.step hE
  clear hE
  obtain ⟨obc0, obf0⟩ : w4.cell? ⟨(w.heap.size + 2), 0, none⟩ = some (.slice (some ⟨q, 0, none⟩) T.length T.length) ∧ w4.frozen? ⟨(w.heap.size + 2), 0, none⟩ = false := bx (S.box 1 rfl) 0 rfl
  obtain ⟨obc1, obf1⟩ : w4.cell? ⟨(w.heap.size + 2), 1, none⟩ = some (.int .i64 0) ∧ w4.frozen? ⟨(w.heap.size + 2), 1, none⟩ = false := bx (S.box 1 rfl) 1 rfl
  obtain ⟨obc2, obf2⟩ : w4.cell? ⟨(w.heap.size + 2), 2, none⟩ = some (.int .i64 0) ∧ w4.frozen? ⟨(w.heap.size + 2), 2, none⟩ = false := bx (S.box 1 rfl) 2 rfl
  obtain ⟨obc3, obf3⟩ : w4.cell? ⟨(w.heap.size + 2), 3, none⟩ = some (.int .i64 0) ∧ w4.frozen? ⟨(w.heap.size + 2), 3, none⟩ = false := bx (S.box 1 rfl) 3 rfl
  obtain ⟨obc4, obf4⟩ : w4.cell? ⟨(w.heap.size + 2), 4, none⟩ = some (.int .i64 0) ∧ w4.frozen? ⟨(w.heap.size + 2), 4, none⟩ = false := bx (S.box 1 rfl) 4 rfl
  obtain ⟨rbc0, rbf0⟩ : w4.cell? ⟨(w.heap.size + 1), 0, none⟩ = some (.slice none 0 0) ∧ w4.frozen? ⟨(w.heap.size + 1), 0, none⟩ = false := bx (S.box 2 rfl) 0 rfl
  obtain ⟨rbc1, rbf1⟩ : w4.cell? ⟨(w.heap.size + 1), 1, none⟩ = some (.int .i64 0) ∧ w4.frozen? ⟨(w.heap.size + 1), 1, none⟩ = false := bx (S.box 2 rfl) 1 rfl
  obtain ⟨rbc2, rbf2⟩ : w4.cell? ⟨(w.heap.size + 1), 2, none⟩ = some (.int .i64 0) ∧ w4.frozen? ⟨(w.heap.size + 1), 2, none⟩ = false := bx (S.box 2 rfl) 2 rfl
  obtain ⟨rbc3, rbf3⟩ : w4.cell? ⟨(w.heap.size + 1), 3, none⟩ = some (.int .i64 0) ∧ w4.frozen? ⟨(w.heap.size + 1), 3, none⟩ = false := bx (S.box 2 rfl) 3 rfl
  obtain ⟨rbc4, rbf4⟩ : w4.cell? ⟨(w.heap.size + 1), 4, none⟩ = some (.int .i64 0) ∧ w4.frozen? ⟨(w.heap.size + 1), 4, none⟩ = false := bx (S.box 2 rfl) 4 rfl
  obtain ⟨a0c0, a0f0⟩ : w4.cell? ⟨w.heap.size, 0, none⟩ = some (.slice at_ T.length cap) ∧ w4.frozen? ⟨w.heap.size, 0, none⟩ = false := bx (S.box 3 rfl) 0 rfl
  obtain ⟨a0c1, a0f1⟩ : w4.cell? ⟨w.heap.size, 1, none⟩ = some (.int .i64 r) ∧ w4.frozen? ⟨w.heap.size, 1, none⟩ = false := bx (S.box 3 rfl) 1 rfl
  obtain ⟨a0c2, a0f2⟩ : w4.cell? ⟨w.heap.size, 2, none⟩ = some (.int .i64 a) ∧ w4.frozen? ⟨w.heap.size, 2, none⟩ = false := bx (S.box 3 rfl) 2 rfl
  obtain ⟨a0c3, a0f3⟩ : w4.cell? ⟨w.heap.size, 3, none⟩ = some (.int .i64 s) ∧ w4.frozen? ⟨w.heap.size, 3, none⟩ = false := bx (S.box 3 rfl) 3 rfl
  obtain ⟨a0c4, a0f4⟩ : w4.cell? ⟨w.heap.size, 4, none⟩ = some (.int .i64 g) ∧ w4.frozen? ⟨w.heap.size, 4, none⟩ = false := bx (S.box 3 rfl) 4 rfl
  go_wp2
  try simp only [Exit.inBlock, Exit.then]
  refine bodyPost_ret (v := .agg #[.slice (some ⟨q, 0, none⟩) T.length T.length, .int .i64 r, .int .i64 a, .int .i64 s, .int .i64 g]) (by simp [results, Try.results7, go_sem, rbc0, rbc1, rbc2, rbc3, rbc4, obc0, obc1, obc2, obc3, obc4]) rfl ?_
  replace S : Sep w (w4.setCell ⟨(w.heap.size + 2), 1, none⟩ (.int .i64 r)) [plNd (.slice (some ⟨q, 0, none⟩) T.length T.length) vs T, plBox (w.heap.size + 2) #[.slice (some ⟨q, 0, none⟩) T.length T.length, .int .i64 r, .int .i64 0, .int .i64 0, .int .i64 0] 32, plBox (w.heap.size + 1) #[.slice none 0 0, .int .i64 0, .int .i64 0, .int .i64 0, .int .i64 0] 32, plBox w.heap.size #[.slice at_ T.length cap, .int .i64 r, .int .i64 a, .int .i64 s, .int .i64 g] 26] := S.set 1 rfl 1 _
  replace S : Sep w ((w4.setCell ⟨(w.heap.size + 2), 1, none⟩ (.int .i64 r)).setCell ⟨(w.heap.size + 2), 2, none⟩ (.int .i64 a)) [plNd (.slice (some ⟨q, 0, none⟩) T.length T.length) vs T, plBox (w.heap.size + 2) #[.slice (some ⟨q, 0, none⟩) T.length T.length, .int .i64 r, .int .i64 a, .int .i64 0, .int .i64 0] 32, plBox (w.heap.size + 1) #[.slice none 0 0, .int .i64 0, .int .i64 0, .int .i64 0, .int .i64 0] 32, plBox w.heap.size #[.slice at_ T.length cap, .int .i64 r, .int .i64 a, .int .i64 s, .int .i64 g] 26] := S.set 1 rfl 2 _
  replace S : Sep w (((w4.setCell ⟨(w.heap.size + 2), 1, none⟩ (.int .i64 r)).setCell ⟨(w.heap.size + 2), 2, none⟩ (.int .i64 a)).setCell ⟨(w.heap.size + 2), 3, none⟩ (.int .i64 s)) [plNd (.slice (some ⟨q, 0, none⟩) T.length T.length) vs T, plBox (w.heap.size + 2) #[.slice (some ⟨q, 0, none⟩) T.length T.length, .int .i64 r, .int .i64 a, .int .i64 s, .int .i64 0] 32, plBox (w.heap.size + 1) #[.slice none 0 0, .int .i64 0, .int .i64 0, .int .i64 0, .int .i64 0] 32, plBox w.heap.size #[.slice at_ T.length cap, .int .i64 r, .int .i64 a, .int .i64 s, .int .i64 g] 26] := S.set 1 rfl 3 _
  replace S : Sep w ((((w4.setCell ⟨(w.heap.size + 2), 1, none⟩ (.int .i64 r)).setCell ⟨(w.heap.size + 2), 2, none⟩ (.int .i64 a)).setCell ⟨(w.heap.size + 2), 3, none⟩ (.int .i64 s)).setCell ⟨(w.heap.size + 2), 4, none⟩ (.int .i64 g)) [plNd (.slice (some ⟨q, 0, none⟩) T.length T.length) vs T, plBox (w.heap.size + 2) #[.slice (some ⟨q, 0, none⟩) T.length T.length, .int .i64 r, .int .i64 a, .int .i64 s, .int .i64 g] 32, plBox (w.heap.size + 1) #[.slice none 0 0, .int .i64 0, .int .i64 0, .int .i64 0, .int .i64 0] 32, plBox w.heap.size #[.slice at_ T.length cap, .int .i64 r, .int .i64 a, .int .i64 s, .int .i64 g] 26] := S.set 1 rfl 4 _
  replace S : Sep w (((((w4.setCell ⟨(w.heap.size + 2), 1, none⟩ (.int .i64 r)).setCell ⟨(w.heap.size + 2), 2, none⟩ (.int .i64 a)).setCell ⟨(w.heap.size + 2), 3, none⟩ (.int .i64 s)).setCell ⟨(w.heap.size + 2), 4, none⟩ (.int .i64 g)).setCell ⟨(w.heap.size + 1), 0, none⟩ (.slice (some ⟨q, 0, none⟩) T.length T.length)) [plNd (.slice (some ⟨q, 0, none⟩) T.length T.length) vs T, plBox (w.heap.size + 2) #[.slice (some ⟨q, 0, none⟩) T.length T.length, .int .i64 r, .int .i64 a, .int .i64 s, .int .i64 g] 32, plBox (w.heap.size + 1) #[.slice (some ⟨q, 0, none⟩) T.length T.length, .int .i64 0, .int .i64 0, .int .i64 0, .int .i64 0] 32, plBox w.heap.size #[.slice at_ T.length cap, .int .i64 r, .int .i64 a, .int .i64 s, .int .i64 g] 26] := S.set 2 rfl 0 _
  replace S : Sep w ((((((w4.setCell ⟨(w.heap.size + 2), 1, none⟩ (.int .i64 r)).setCell ⟨(w.heap.size + 2), 2, none⟩ (.int .i64 a)).setCell ⟨(w.heap.size + 2), 3, none⟩ (.int .i64 s)).setCell ⟨(w.heap.size + 2), 4, none⟩ (.int .i64 g)).setCell ⟨(w.heap.size + 1), 0, none⟩ (.slice (some ⟨q, 0, none⟩) T.length T.length)).setCell ⟨(w.heap.size + 1), 1, none⟩ (.int .i64 r)) [plNd (.slice (some ⟨q, 0, none⟩) T.length T.length) vs T, plBox (w.heap.size + 2) #[.slice (some ⟨q, 0, none⟩) T.length T.length, .int .i64 r, .int .i64 a, .int .i64 s, .int .i64 g] 32, plBox (w.heap.size + 1) #[.slice (some ⟨q, 0, none⟩) T.length T.length, .int .i64 r, .int .i64 0, .int .i64 0, .int .i64 0] 32, plBox w.heap.size #[.slice at_ T.length cap, .int .i64 r, .int .i64 a, .int .i64 s, .int .i64 g] 26] := S.set 2 rfl 1 _
  replace S : Sep w (((((((w4.setCell ⟨(w.heap.size + 2), 1, none⟩ (.int .i64 r)).setCell ⟨(w.heap.size + 2), 2, none⟩ (.int .i64 a)).setCell ⟨(w.heap.size + 2), 3, none⟩ (.int .i64 s)).setCell ⟨(w.heap.size + 2), 4, none⟩ (.int .i64 g)).setCell ⟨(w.heap.size + 1), 0, none⟩ (.slice (some ⟨q, 0, none⟩) T.length T.length)).setCell ⟨(w.heap.size + 1), 1, none⟩ (.int .i64 r)).setCell ⟨(w.heap.size + 1), 2, none⟩ (.int .i64 a)) [plNd (.slice (some ⟨q, 0, none⟩) T.length T.length) vs T, plBox (w.heap.size + 2) #[.slice (some ⟨q, 0, none⟩) T.length T.length, .int .i64 r, .int .i64 a, .int .i64 s, .int .i64 g] 32, plBox (w.heap.size + 1) #[.slice (some ⟨q, 0, none⟩) T.length T.length, .int .i64 r, .int .i64 a, .int .i64 0, .int .i64 0] 32, plBox w.heap.size #[.slice at_ T.length cap, .int .i64 r, .int .i64 a, .int .i64 s, .int .i64 g] 26] := S.set 2 rfl 2 _
  replace S : Sep w ((((((((w4.setCell ⟨(w.heap.size + 2), 1, none⟩ (.int .i64 r)).setCell ⟨(w.heap.size + 2), 2, none⟩ (.int .i64 a)).setCell ⟨(w.heap.size + 2), 3, none⟩ (.int .i64 s)).setCell ⟨(w.heap.size + 2), 4, none⟩ (.int .i64 g)).setCell ⟨(w.heap.size + 1), 0, none⟩ (.slice (some ⟨q, 0, none⟩) T.length T.length)).setCell ⟨(w.heap.size + 1), 1, none⟩ (.int .i64 r)).setCell ⟨(w.heap.size + 1), 2, none⟩ (.int .i64 a)).setCell ⟨(w.heap.size + 1), 3, none⟩ (.int .i64 s)) [plNd (.slice (some ⟨q, 0, none⟩) T.length T.length) vs T, plBox (w.heap.size + 2) #[.slice (some ⟨q, 0, none⟩) T.length T.length, .int .i64 r, .int .i64 a, .int .i64 s, .int .i64 g] 32, plBox (w.heap.size + 1) #[.slice (some ⟨q, 0, none⟩) T.length T.length, .int .i64 r, .int .i64 a, .int .i64 s, .int .i64 0] 32, plBox w.heap.size #[.slice at_ T.length cap, .int .i64 r, .int .i64 a, .int .i64 s, .int .i64 g] 26] := S.set 2 rfl 3 _
  replace S : Sep w (((((((((w4.setCell ⟨(w.heap.size + 2), 1, none⟩ (.int .i64 r)).setCell ⟨(w.heap.size + 2), 2, none⟩ (.int .i64 a)).setCell ⟨(w.heap.size + 2), 3, none⟩ (.int .i64 s)).setCell ⟨(w.heap.size + 2), 4, none⟩ (.int .i64 g)).setCell ⟨(w.heap.size + 1), 0, none⟩ (.slice (some ⟨q, 0, none⟩) T.length T.length)).setCell ⟨(w.heap.size + 1), 1, none⟩ (.int .i64 r)).setCell ⟨(w.heap.size + 1), 2, none⟩ (.int .i64 a)).setCell ⟨(w.heap.size + 1), 3, none⟩ (.int .i64 s)).setCell ⟨(w.heap.size + 1), 4, none⟩ (.int .i64 g)) [plNd (.slice (some ⟨q, 0, none⟩) T.length T.length) vs T, plBox (w.heap.size + 2) #[.slice (some ⟨q, 0, none⟩) T.length T.length, .int .i64 r, .int .i64 a, .int .i64 s, .int .i64 g] 32, plBox (w.heap.size + 1) #[.slice (some ⟨q, 0, none⟩) T.length T.length, .int .i64 r, .int .i64 a, .int .i64 s, .int .i64 g] 32, plBox w.heap.size #[.slice at_ T.length cap, .int .i64 r, .int .i64 a, .int .i64 s, .int .i64 g] 26] := S.set 2 rfl 4 _
  replace S : Sep w (((((((((w4.setCell ⟨(w.heap.size + 2), 1, none⟩ (.int .i64 r)).setCell ⟨(w.heap.size + 2), 2, none⟩ (.int .i64 a)).setCell ⟨(w.heap.size + 2), 3, none⟩ (.int .i64 s)).setCell ⟨(w.heap.size + 2), 4, none⟩ (.int .i64 g)).setCell ⟨(w.heap.size + 1), 0, none⟩ (.slice (some ⟨q, 0, none⟩) T.length T.length)).setCell ⟨(w.heap.size + 1), 1, none⟩ (.int .i64 r)).setCell ⟨(w.heap.size + 1), 2, none⟩ (.int .i64 a)).setCell ⟨(w.heap.size + 1), 3, none⟩ (.int .i64 s)).setCell ⟨(w.heap.size + 1), 4, none⟩ (.int .i64 g)) [plNd (.slice (some ⟨q, 0, none⟩) T.length T.length) vs T, plBox (w.heap.size + 1) #[.slice (some ⟨q, 0, none⟩) T.length T.length, .int .i64 r, .int .i64 a, .int .i64 s, .int .i64 g] 32, plBox w.heap.size #[.slice at_ T.length cap, .int .i64 r, .int .i64 a, .int .i64 s, .int .i64 g] 26] := S.drop 1
  replace S : Sep w (((((((((w4.setCell ⟨(w.heap.size + 2), 1, none⟩ (.int .i64 r)).setCell ⟨(w.heap.size + 2), 2, none⟩ (.int .i64 a)).setCell ⟨(w.heap.size + 2), 3, none⟩ (.int .i64 s)).setCell ⟨(w.heap.size + 2), 4, none⟩ (.int .i64 g)).setCell ⟨(w.heap.size + 1), 0, none⟩ (.slice (some ⟨q, 0, none⟩) T.length T.length)).setCell ⟨(w.heap.size + 1), 1, none⟩ (.int .i64 r)).setCell ⟨(w.heap.size + 1), 2, none⟩ (.int .i64 a)).setCell ⟨(w.heap.size + 1), 3, none⟩ (.int .i64 s)).setCell ⟨(w.heap.size + 1), 4, none⟩ (.int .i64 g)) [plNd (.slice (some ⟨q, 0, none⟩) T.length T.length) vs T, plBox w.heap.size #[.slice at_ T.length cap, .int .i64 r, .int .i64 a, .int .i64 s, .int .i64 g] 26] := S.drop 1
  replace S : Sep w (((((((((w4.setCell ⟨(w.heap.size + 2), 1, none⟩ (.int .i64 r)).setCell ⟨(w.heap.size + 2), 2, none⟩ (.int .i64 a)).setCell ⟨(w.heap.size + 2), 3, none⟩ (.int .i64 s)).setCell ⟨(w.heap.size + 2), 4, none⟩ (.int .i64 g)).setCell ⟨(w.heap.size + 1), 0, none⟩ (.slice (some ⟨q, 0, none⟩) T.length T.length)).setCell ⟨(w.heap.size + 1), 1, none⟩ (.int .i64 r)).setCell ⟨(w.heap.size + 1), 2, none⟩ (.int .i64 a)).setCell ⟨(w.heap.size + 1), 3, none⟩ (.int .i64 s)).setCell ⟨(w.heap.size + 1), 4, none⟩ (.int .i64 g)) [plNd (.slice (some ⟨q, 0, none⟩) T.length T.length) vs T] := S.drop 1
  exact ⟨_, _, vs, rfl, Nat.le_refl _, S⟩

set_option maxHeartbeats 2000000 in
theorem eqKer_any (a1 b1 : Option Addr) (c1 d1 : Nat) (T U : List Nd) (r a s g r' a' s' g' : Int) (w : World) (hl : T.length ≤ 9223372036854775807) (hm : U.length ≤ 9223372036854775807) (hlt : ∀ t ∈ T, SmN 9223372036854775807 t) (hlu : ∀ t ∈ U, SmN 9223372036854775807 t) (hc : RdN w a1 T) (hd : RdN w b1 U) :
    Calls Try.prog 9 #[.agg #[.slice a1 T.length c1, .int .i64 r, .int .i64 a, .int .i64 s, .int .i64 g], .agg #[.slice b1 U.length d1, .int .i64 r', .int .i64 a', .int .i64 s', .int .i64 g']] w (RetB (T = U ∧ r = r' ∧ a = a' ∧ s = s' ∧ g = g') w) := by
  have HLT := Lib.hid hlt
  have HLU := Lib.hid hlu
  clear hlt hlu
  go_enter Try.func9, Try.ntmps9
  have S := Sep.start w
  replace S : Sep w (w.alloc (.cells #[.slice a1 T.length c1, .int .i64 r, .int .i64 a, .int .i64 s, .int .i64 g] 32)) [plBox w.heap.size #[.slice a1 T.length c1, .int .i64 r, .int .i64 a, .int .i64 s, .int .i64 g] 32] := S.alloc_at (by simp) _ _
  replace S : Sep w ((w.alloc (.cells #[.slice a1 T.length c1, .int .i64 r, .int .i64 a, .int .i64 s, .int .i64 g] 32)).alloc (.cells #[.slice b1 U.length d1, .int .i64 r', .int .i64 a', .int .i64 s', .int .i64 g'] 32)) [plBox (w.heap.size + 1) #[.slice b1 U.length d1, .int .i64 r', .int .i64 a', .int .i64 s', .int .i64 g'] 32, plBox w.heap.size #[.slice a1 T.length c1, .int .i64 r, .int .i64 a, .int .i64 s, .int .i64 g] 32] := S.alloc_at (by simp) _ _
  go_wp2_with fail
  generalize ((w.alloc (.cells #[.slice a1 T.length c1, .int .i64 r, .int .i64 a, .int .i64 s, .int .i64 g] 32)).alloc (.cells #[.slice b1 U.length d1, .int .i64 r', .int .i64 a', .int .i64 s', .int .i64 g'] 32)) = w1 at *
  refine (eqNdS_any a1 b1 c1 d1 T U w1 hl hm HLT.out HLU.out (hc.ext S.ext) (hd.ext S.ext)).mono ?_
  rintro e w2 ⟨v1, rfl, hv1, hE⟩
  have Hv1 := Lib.hid hv1
  clear hv1
  replace S : Sep w w2 [plBox (w.heap.size + 1) #[.slice b1 U.length d1, .int .i64 r', .int .i64 a', .int .i64 s', .int .i64 g'] 32, plBox w.heap.size #[.slice a1 T.length c1, .int .i64 r, .int .i64 a, .int .i64 s, .int .i64 g] 32] := S.step hE
  clear hE
  cases v1 with
  | false =>
    go_wp2
    go_ret
    exact RetB.mk false rfl (by simp only [Bool.false_eq_true, false_iff]; exact fun h => Bool.noConfusion (Hv1.out.2 h.1)) S.ext
  | true =>
    obtain ⟨qc0, qf0⟩ : w2.cell? ⟨(w.heap.size + 1), 0, none⟩ = some (.slice b1 U.length d1) ∧ w2.frozen? ⟨(w.heap.size + 1), 0, none⟩ = false := bx (S.box 0 rfl) 0 rfl
    obtain ⟨qc1, qf1⟩ : w2.cell? ⟨(w.heap.size + 1), 1, none⟩ = some (.int .i64 r') ∧ w2.frozen? ⟨(w.heap.size + 1), 1, none⟩ = false := bx (S.box 0 rfl) 1 rfl
    obtain ⟨qc2, qf2⟩ : w2.cell? ⟨(w.heap.size + 1), 2, none⟩ = some (.int .i64 a') ∧ w2.frozen? ⟨(w.heap.size + 1), 2, none⟩ = false := bx (S.box 0 rfl) 2 rfl
    obtain ⟨qc3, qf3⟩ : w2.cell? ⟨(w.heap.size + 1), 3, none⟩ = some (.int .i64 s') ∧ w2.frozen? ⟨(w.heap.size + 1), 3, none⟩ = false := bx (S.box 0 rfl) 3 rfl
    obtain ⟨qc4, qf4⟩ : w2.cell? ⟨(w.heap.size + 1), 4, none⟩ = some (.int .i64 g') ∧ w2.frozen? ⟨(w.heap.size + 1), 4, none⟩ = false := bx (S.box 0 rfl) 4 rfl
    obtain ⟨pc0, pf0⟩ : w2.cell? ⟨w.heap.size, 0, none⟩ = some (.slice a1 T.length c1) ∧ w2.frozen? ⟨w.heap.size, 0, none⟩ = false := bx (S.box 1 rfl) 0 rfl
    obtain ⟨pc1, pf1⟩ : w2.cell? ⟨w.heap.size, 1, none⟩ = some (.int .i64 r) ∧ w2.frozen? ⟨w.heap.size, 1, none⟩ = false := bx (S.box 1 rfl) 1 rfl
    obtain ⟨pc2, pf2⟩ : w2.cell? ⟨w.heap.size, 2, none⟩ = some (.int .i64 a) ∧ w2.frozen? ⟨w.heap.size, 2, none⟩ = false := bx (S.box 1 rfl) 2 rfl
    obtain ⟨pc3, pf3⟩ : w2.cell? ⟨w.heap.size, 3, none⟩ = some (.int .i64 s) ∧ w2.frozen? ⟨w.heap.size, 3, none⟩ = false := bx (S.box 1 rfl) 3 rfl
    obtain ⟨pc4, pf4⟩ : w2.cell? ⟨w.heap.size, 4, none⟩ = some (.int .i64 g) ∧ w2.frozen? ⟨w.heap.size, 4, none⟩ = false := bx (S.box 1 rfl) 4 rfl
    go_wp2_with fail
    refine (eqCred_any r a s g r' a' s' g' w2).mono ?_
    rintro e w3 ⟨v2, rfl, hv2, hE⟩
    have Hv2 := Lib.hid hv2
    clear hv2
    clear qc0 qf0 qc1 qf1 qc2 qf2 qc3 qf3 qc4 qf4 pc0 pf0 pc1 pf1 pc2 pf2 pc3 pf3 pc4 pf4
    replace S : Sep w w3 [plBox (w.heap.size + 1) #[.slice b1 U.length d1, .int .i64 r', .int .i64 a', .int .i64 s', .int .i64 g'] 32, plBox w.heap.size #[.slice a1 T.length c1, .int .i64 r, .int .i64 a, .int .i64 s, .int .i64 g] 32] := S.step hE
    clear hE
    cases v2 with
    | false =>
      go_wp2
      go_ret
      exact RetB.mk false rfl (by simp only [Bool.false_eq_true, false_iff]; exact fun h => Bool.noConfusion (Hv2.out.2 h.2)) S.ext
    | true =>
      go_wp2
      go_ret
      exact RetB.mk true rfl (by simp only [true_iff]; exact ⟨Hv1.out.1 (by trivial), Hv2.out.1 (by trivial)⟩) S.ext
end Go.Proofs.Ytnibbldfohbfkaa
