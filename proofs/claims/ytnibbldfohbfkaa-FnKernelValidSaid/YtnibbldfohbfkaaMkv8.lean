/- FnKernelValid returns true and leaves its argument alone, for every argument that can be read. No condition. -/
import Derived.Deep.Cut
import Derived.Test.YtnibbldfohbfkaaMkv1
import Derived.Test.YtnibbldfohbfkaaMkv3
import Derived.Test.YtnibbldfohbfkaaMkv4
import Derived.Test.YtnibbldfohbfkaaMkv7
/- The draw of kernels. Condition: the code is shorter than 2^63. -/
namespace Go.Proofs.Ytnibbldfohbfkaa
open Go.RowKit

/-- A kernel whose tree lies in new memory. -/
def KerG (M : Nat → Prop) (w0 : World) (v : Value) (w : World) : Prop := ∃ (a : Option Addr) (cap : Nat) (vs : List Nc) (T : List Nd) (r c s g : Int), v = .agg #[.slice a T.length cap, .int .i64 r, .int .i64 c, .int .i64 s, .int .i64 g] ∧ T.length ≤ 100 ∧ T.length ≤ cap ∧ (∀ x ∈ T, SmN 200000 x) ∧ SepM M w0 w [plNd (.slice a T.length cap) vs T]
theorem SepM.callM {M : Nat → Prop} {w0 w w' : World} {H H' : List Pl} (S : SepM M w0 w H) (T : SepM M w w' H') : SepM M w0 w' (H' ++ H) := S.otherCall H' T.chg T.ok T.base T.apart

set_option maxRecDepth 10000 in
set_option maxHeartbeats 4000000 in
theorem drawKernel (g : Nat) (P n : Int) (w : World) (hs : Src g P w) (hP : P ≤ 700000) (hn : n ≤ 1000000) :
    Calls Try.prog 21 #[.pointer (some ⟨g, 0, none⟩), .int .i64 n] w (fun e w' => ∃ v, e = .returned v ∧ KerG (fun b => b = g) w v w' ∧ Src g (P + 420) w') := by
  have hg := hs.lt
  go_enter Try.func21, Try.ntmps21
  have S := SepM.begin (fun b => b = g) w (fun b h => h ▸ hg)
  replace S : SepM (fun b => b = g) w (w.alloc (.cells #[.slice none 0 0, .int .i64 0, .int .i64 0, .int .i64 0, .int .i64 0] 32)) [plBox w.heap.size #[.slice none 0 0, .int .i64 0, .int .i64 0, .int .i64 0, .int .i64 0] 32] := S.alloc_at (by simp) _ _
  have hs1 : Src g P (w.alloc (.cells #[.slice none 0 0, .int .i64 0, .int .i64 0, .int .i64 0, .int .i64 0] 32)) := hs.ext ((Ext.refl w).alloc _)
  go_wp2_with fail
  generalize (w.alloc (.cells #[.slice none 0 0, .int .i64 0, .int .i64 0, .int .i64 0, .int .i64 0] 32)) = w1 at *
  refine (drawTree g P n w1 hs1 hP hn).mono ?_
  rintro e w2 ⟨u, vs, T, rfl, hT1, hT2, hs2, S2⟩
  obtain ⟨a, cap, rfl, hcap, _⟩ := nd_view (S2.at_ 0 rfl)
  replace S : SepM (fun b => b = g) w w2 [plNd (.slice a T.length cap) vs T, plBox w.heap.size #[.slice none 0 0, .int .i64 0, .int .i64 0, .int .i64 0, .int .i64 0] 32] := (S.callM S2)
  have HT2 := Lib.hid hT2
  clear S2 hT2 hs1 hs
  go_wp2_with fail
  refine (drawCred g (P + 400) n w2 hs2 (by omega) hn).mono ?_
  rintro e w3 ⟨v, rfl, ⟨r, c, s, q, rfl⟩, hs3, hS⟩
  replace S : SepM (fun b => b = g) w w3 [plNd (.slice a T.length cap) vs T, plBox w.heap.size #[.slice none 0 0, .int .i64 0, .int .i64 0, .int .i64 0, .int .i64 0] 32] := (S.other (Chg.of_step hS))
  clear hS hs2
  obtain ⟨rbc0, rbf0⟩ : w3.cell? ⟨w.heap.size, 0, none⟩ = some (.slice none 0 0) ∧ w3.frozen? ⟨w.heap.size, 0, none⟩ = false := bx (S.box 1 rfl) 0 rfl
  obtain ⟨rbc1, rbf1⟩ : w3.cell? ⟨w.heap.size, 1, none⟩ = some (.int .i64 0) ∧ w3.frozen? ⟨w.heap.size, 1, none⟩ = false := bx (S.box 1 rfl) 1 rfl
  obtain ⟨rbc2, rbf2⟩ : w3.cell? ⟨w.heap.size, 2, none⟩ = some (.int .i64 0) ∧ w3.frozen? ⟨w.heap.size, 2, none⟩ = false := bx (S.box 1 rfl) 2 rfl
  obtain ⟨rbc3, rbf3⟩ : w3.cell? ⟨w.heap.size, 3, none⟩ = some (.int .i64 0) ∧ w3.frozen? ⟨w.heap.size, 3, none⟩ = false := bx (S.box 1 rfl) 3 rfl
  obtain ⟨rbc4, rbf4⟩ : w3.cell? ⟨w.heap.size, 4, none⟩ = some (.int .i64 0) ∧ w3.frozen? ⟨w.heap.size, 4, none⟩ = false := bx (S.box 1 rfl) 4 rfl
  go_wp2
  clear rbc0 rbf0 rbc1 rbf1 rbc2 rbf2 rbc3 rbf3 rbc4 rbf4
  replace S : SepM (fun b => b = g) w (w3.setCell ⟨w.heap.size, 0, none⟩ (.slice a T.length cap)) [plNd (.slice a T.length cap) vs T, plBox w.heap.size #[.slice a T.length cap, .int .i64 0, .int .i64 0, .int .i64 0, .int .i64 0] 32] := S.set 1 rfl 0 _
  replace S : SepM (fun b => b = g) w ((w3.setCell ⟨w.heap.size, 0, none⟩ (.slice a T.length cap)).setCell ⟨w.heap.size, 1, none⟩ (.int .i64 r)) [plNd (.slice a T.length cap) vs T, plBox w.heap.size #[.slice a T.length cap, .int .i64 r, .int .i64 0, .int .i64 0, .int .i64 0] 32] := S.set 1 rfl 1 _
  replace S : SepM (fun b => b = g) w (((w3.setCell ⟨w.heap.size, 0, none⟩ (.slice a T.length cap)).setCell ⟨w.heap.size, 1, none⟩ (.int .i64 r)).setCell ⟨w.heap.size, 2, none⟩ (.int .i64 c)) [plNd (.slice a T.length cap) vs T, plBox w.heap.size #[.slice a T.length cap, .int .i64 r, .int .i64 c, .int .i64 0, .int .i64 0] 32] := S.set 1 rfl 2 _
  replace S : SepM (fun b => b = g) w ((((w3.setCell ⟨w.heap.size, 0, none⟩ (.slice a T.length cap)).setCell ⟨w.heap.size, 1, none⟩ (.int .i64 r)).setCell ⟨w.heap.size, 2, none⟩ (.int .i64 c)).setCell ⟨w.heap.size, 3, none⟩ (.int .i64 s)) [plNd (.slice a T.length cap) vs T, plBox w.heap.size #[.slice a T.length cap, .int .i64 r, .int .i64 c, .int .i64 s, .int .i64 0] 32] := S.set 1 rfl 3 _
  replace S : SepM (fun b => b = g) w (((((w3.setCell ⟨w.heap.size, 0, none⟩ (.slice a T.length cap)).setCell ⟨w.heap.size, 1, none⟩ (.int .i64 r)).setCell ⟨w.heap.size, 2, none⟩ (.int .i64 c)).setCell ⟨w.heap.size, 3, none⟩ (.int .i64 s)).setCell ⟨w.heap.size, 4, none⟩ (.int .i64 q)) [plNd (.slice a T.length cap) vs T, plBox w.heap.size #[.slice a T.length cap, .int .i64 r, .int .i64 c, .int .i64 s, .int .i64 q] 32] := S.set 1 rfl 4 _
  have hs4 : Src g (P + 400 + 20) (((((w3.setCell ⟨w.heap.size, 0, none⟩ (.slice a T.length cap)).setCell ⟨w.heap.size, 1, none⟩ (.int .i64 r)).setCell ⟨w.heap.size, 2, none⟩ (.int .i64 c)).setCell ⟨w.heap.size, 3, none⟩ (.int .i64 s)).setCell ⟨w.heap.size, 4, none⟩ (.int .i64 q)) := ((((hs3.setCell hg _).setCell hg _).setCell hg _).setCell hg _).setCell hg _
  generalize (((((w3.setCell ⟨w.heap.size, 0, none⟩ (.slice a T.length cap)).setCell ⟨w.heap.size, 1, none⟩ (.int .i64 r)).setCell ⟨w.heap.size, 2, none⟩ (.int .i64 c)).setCell ⟨w.heap.size, 3, none⟩ (.int .i64 s)).setCell ⟨w.heap.size, 4, none⟩ (.int .i64 q)) = w4 at *
  obtain ⟨rbc0, rbf0⟩ : w4.cell? ⟨w.heap.size, 0, none⟩ = some (.slice a T.length cap) ∧ w4.frozen? ⟨w.heap.size, 0, none⟩ = false := bx (S.box 1 rfl) 0 rfl
  obtain ⟨rbc1, rbf1⟩ : w4.cell? ⟨w.heap.size, 1, none⟩ = some (.int .i64 r) ∧ w4.frozen? ⟨w.heap.size, 1, none⟩ = false := bx (S.box 1 rfl) 1 rfl
  obtain ⟨rbc2, rbf2⟩ : w4.cell? ⟨w.heap.size, 2, none⟩ = some (.int .i64 c) ∧ w4.frozen? ⟨w.heap.size, 2, none⟩ = false := bx (S.box 1 rfl) 2 rfl
  obtain ⟨rbc3, rbf3⟩ : w4.cell? ⟨w.heap.size, 3, none⟩ = some (.int .i64 s) ∧ w4.frozen? ⟨w.heap.size, 3, none⟩ = false := bx (S.box 1 rfl) 3 rfl
  obtain ⟨rbc4, rbf4⟩ : w4.cell? ⟨w.heap.size, 4, none⟩ = some (.int .i64 q) ∧ w4.frozen? ⟨w.heap.size, 4, none⟩ = false := bx (S.box 1 rfl) 4 rfl
  refine bodyPost_ret (v := .agg #[.slice a T.length cap, .int .i64 r, .int .i64 c, .int .i64 s, .int .i64 q]) (by simp [results, Try.results21, go_sem, rbc0, rbc1, rbc2, rbc3, rbc4]) rfl ?_
  replace S : SepM (fun b => b = g) w w4 [plNd (.slice a T.length cap) vs T] := S.drop 1
  exact ⟨_, rfl, ⟨a, cap, vs, T, r, c, s, q, rfl, hT1, hcap, HT2.out, S⟩, hs4.mono (by omega)⟩

set_option maxHeartbeats 4000000 in
theorem drawKernelValid (ac : Option Addr) (capc : Nat) (code : List Int) (w : World) (hl : code.length ≤ 9223372036854775807) (hcap : code.length ≤ capc) (hu : ∀ x ∈ code, 0 ≤ x ∧ x ≤ 255) (hc : Rd 1 encU8 w ac code) :
    Calls Try.prog 10 #[.slice ac code.length capc] w (fun e w' => ∃ v, e = .returned v ∧ KerG (fun _ => False) w v w') := by
  go_enter Try.func10, Try.ntmps10
  have S := Sep.start w
  replace S : Sep w (w.alloc (.cells #[.slice none 0 0, .int .i64 0, .int .i64 0, .int .i64 0, .int .i64 0] 32)) [plBox w.heap.size #[.slice none 0 0, .int .i64 0, .int .i64 0, .int .i64 0, .int .i64 0] 32] := S.alloc_at (by simp) _ _
  go_wp2_with fail
  generalize (w.alloc (.cells #[.slice none 0 0, .int .i64 0, .int .i64 0, .int .i64 0, .int .i64 0] 32)) = w1 at *
  refine (open_any ac capc code w1 hl hcap hu (hc.ext S.ext)).mono ?_
  rintro e w2 ⟨v, rfl, ⟨rfl, hs⟩, hE⟩
  have hg1 := S.ge 0 rfl
  generalize w1.heap.size = g at *
  replace S : Sep w w2 [plBox w.heap.size #[.slice none 0 0, .int .i64 0, .int .i64 0, .int .i64 0, .int .i64 0] 32] := S.step hE
  clear hE
  go_wp2_with fail
  refine (drawKernel g _ 3 w2 hs (by omega) (by omega)).mono ?_
  rintro e w3 ⟨v, rfl, ⟨a, cap, vs, T, r, c, s, q, rfl, hT1, hcapT, hT2, U⟩, hs3⟩
  have HT2 := Lib.hid hT2
  clear hT2
  replace S : Sep w w3 [plNd (.slice a T.length cap) vs T, plBox w.heap.size #[.slice none 0 0, .int .i64 0, .int .i64 0, .int .i64 0, .int .i64 0] 32] := (S.readCall U (by omega) (by simp [plBox]; omega))
  clear U
  obtain ⟨rbc0, rbf0⟩ : w3.cell? ⟨w.heap.size, 0, none⟩ = some (.slice none 0 0) ∧ w3.frozen? ⟨w.heap.size, 0, none⟩ = false := bx (S.box 1 rfl) 0 rfl
  obtain ⟨rbc1, rbf1⟩ : w3.cell? ⟨w.heap.size, 1, none⟩ = some (.int .i64 0) ∧ w3.frozen? ⟨w.heap.size, 1, none⟩ = false := bx (S.box 1 rfl) 1 rfl
  obtain ⟨rbc2, rbf2⟩ : w3.cell? ⟨w.heap.size, 2, none⟩ = some (.int .i64 0) ∧ w3.frozen? ⟨w.heap.size, 2, none⟩ = false := bx (S.box 1 rfl) 2 rfl
  obtain ⟨rbc3, rbf3⟩ : w3.cell? ⟨w.heap.size, 3, none⟩ = some (.int .i64 0) ∧ w3.frozen? ⟨w.heap.size, 3, none⟩ = false := bx (S.box 1 rfl) 3 rfl
  obtain ⟨rbc4, rbf4⟩ : w3.cell? ⟨w.heap.size, 4, none⟩ = some (.int .i64 0) ∧ w3.frozen? ⟨w.heap.size, 4, none⟩ = false := bx (S.box 1 rfl) 4 rfl
  go_wp2
  try simp only [Exit.inBlock, Exit.then]
  refine bodyPost_ret (v := .agg #[.slice a T.length cap, .int .i64 r, .int .i64 c, .int .i64 s, .int .i64 q]) (by simp [results, Try.results10, go_sem, rbc0, rbc1, rbc2, rbc3, rbc4]) rfl ?_
  replace S : Sep w (w3.setCell ⟨w.heap.size, 0, none⟩ (.slice a T.length cap)) [plNd (.slice a T.length cap) vs T, plBox w.heap.size #[.slice a T.length cap, .int .i64 0, .int .i64 0, .int .i64 0, .int .i64 0] 32] := S.set 1 rfl 0 _
  replace S : Sep w ((w3.setCell ⟨w.heap.size, 0, none⟩ (.slice a T.length cap)).setCell ⟨w.heap.size, 1, none⟩ (.int .i64 r)) [plNd (.slice a T.length cap) vs T, plBox w.heap.size #[.slice a T.length cap, .int .i64 r, .int .i64 0, .int .i64 0, .int .i64 0] 32] := S.set 1 rfl 1 _
  replace S : Sep w (((w3.setCell ⟨w.heap.size, 0, none⟩ (.slice a T.length cap)).setCell ⟨w.heap.size, 1, none⟩ (.int .i64 r)).setCell ⟨w.heap.size, 2, none⟩ (.int .i64 c)) [plNd (.slice a T.length cap) vs T, plBox w.heap.size #[.slice a T.length cap, .int .i64 r, .int .i64 c, .int .i64 0, .int .i64 0] 32] := S.set 1 rfl 2 _
  replace S : Sep w ((((w3.setCell ⟨w.heap.size, 0, none⟩ (.slice a T.length cap)).setCell ⟨w.heap.size, 1, none⟩ (.int .i64 r)).setCell ⟨w.heap.size, 2, none⟩ (.int .i64 c)).setCell ⟨w.heap.size, 3, none⟩ (.int .i64 s)) [plNd (.slice a T.length cap) vs T, plBox w.heap.size #[.slice a T.length cap, .int .i64 r, .int .i64 c, .int .i64 s, .int .i64 0] 32] := S.set 1 rfl 3 _
  replace S : Sep w (((((w3.setCell ⟨w.heap.size, 0, none⟩ (.slice a T.length cap)).setCell ⟨w.heap.size, 1, none⟩ (.int .i64 r)).setCell ⟨w.heap.size, 2, none⟩ (.int .i64 c)).setCell ⟨w.heap.size, 3, none⟩ (.int .i64 s)).setCell ⟨w.heap.size, 4, none⟩ (.int .i64 q)) [plNd (.slice a T.length cap) vs T, plBox w.heap.size #[.slice a T.length cap, .int .i64 r, .int .i64 c, .int .i64 s, .int .i64 q] 32] := S.set 1 rfl 4 _
  replace S : Sep w (((((w3.setCell ⟨w.heap.size, 0, none⟩ (.slice a T.length cap)).setCell ⟨w.heap.size, 1, none⟩ (.int .i64 r)).setCell ⟨w.heap.size, 2, none⟩ (.int .i64 c)).setCell ⟨w.heap.size, 3, none⟩ (.int .i64 s)).setCell ⟨w.heap.size, 4, none⟩ (.int .i64 q)) [plNd (.slice a T.length cap) vs T] := S.drop 1
  exact ⟨_, rfl, a, cap, vs, T, r, c, s, q, rfl, hT1, hcapT, HT2.out, S⟩
end Go.Proofs.Ytnibbldfohbfkaa

/- Trees: contract of the program's TreeValid. Condition: rows of at most 2^20. -/
namespace Go.Proofs.Ytnibbldfohbfkaa
open Go.RowKit

set_option maxRecDepth 10000 in
set_option maxHeartbeats 8000000 in
theorem implTreeValid (a : Option Addr) (cap : Nat) (T : List Nd) (w : World) (hl : T.length ≤ 1048576) (hs : ∀ x ∈ T, SmN 1048576 x) (hc : RdN w a T) :
    Calls Try.prog 17 #[.slice a T.length cap] w (RetB (TreeOk T) w) := by
  have HS := Lib.hid hs
  clear hs
  go_enter Try.func17, Try.ntmps17
  go_wp2_with fail
  refine (implLinksOf a cap T w hl HS.out hc).mono ?_
  rintro e w1 ⟨v, rfl, ⟨L, ho, hR⟩, hE⟩
  obtain ⟨al, cl, hv, _, hrl, _⟩ := view_owns encInt1_len ho
  subst hv
  clear ho
  by_cases hM : T.length = 0
  · obtain rfl : T = [] := List.eq_nil_of_length_eq_zero hM
    have HB : Hid (¬ TreeOk []) := Lib.hid (fun h => by have := h.pos; simp at this)
    clear hM hR hrl
    simp only [List.length_nil]
    go_wp2
    go_ret
    exact RetB.mk false rfl (by simp [HB.out]) hE
  have h1 : 1 ≤ T.length := by omega
  have tM : ((T.length : Int) == 0) = false := by simp; exact fun h => hM (by rw [h]; rfl)
  have hne : ¬ T = [] := fun h => hM (by rw [h]; rfl)
  clear hM
  rcases hR with ⟨hL, rfl⟩ | ⟨hL, rfl⟩
  rotate_left
  · have HB : Hid (¬ TreeOk T) := Lib.hid (fun h => hL (tree_link h))
    have t2 : (0 : Int) < (T.length : Int) := by omega
    clear hL hrl
    simp only [List.length_nil]
    go_wp2
    go_ret
    exact RetB.mk false rfl (by simp [HB.out]) hE
  have h16 : T.length ≤ 16 := hL.1
  have HL := Lib.hid hL
  have HRL := Lib.hid hrl
  have HE := Lib.hid hE
  have hni0 : ¬ (T.length : Int) < (T.length : Int) := by omega
  have z0 : (0 : Int) < (T.length : Int) := by omega
  rw [cntL_len]
  obtain ⟨r, b, off, rn, cn, rk, ck, hr, hpe, c0, _⟩ := atNd (hc.ext hE) (show 0 < T.length by omega)
  simp only [Nat.zero_mul, Nat.add_zero] at c0
  subst hpe
  obtain ⟨y, b2, off2, hy, hpl, e0⟩ := atInt hrl (show 0 < (cntL T.length (kids T)).length by rw [cntL_len]; omega)
  rw [cntL_get (show 0 < T.length by omega)] at hy
  obtain rfl := Option.some.inj hy
  simp only [Nat.add_zero] at e0
  subst hpl
  clear hy hL hrl hE
  cases hf : r.fold with
  | false =>
    have HB : Hid (¬ TreeOk T) := Lib.hid (fun h => Bool.noConfusion (hf.symm.trans (h.root r hr)))
    rw [hf] at c0
    clear hf hr
    go_wp2
    go_ret
    exact RetB.mk false rfl (by simp [HB.out]) HE.out
  | true =>
    have HRT : Hid (∀ n, T[0]? = some n → n.fold = true) := Lib.hid (fun n hn => by rw [hr] at hn; cases hn; exact hf)
    rw [hf] at c0
    clear hf hr
    have HZ := Lib.hid (show (kids T).count (0 : Int) = (kids T).count ((0 : Nat) : Int) from rfl)
    by_cases hz : 0 < (kids T).count ((0 : Nat) : Int)
    · have HB : Hid (¬ TreeOk T) := Lib.hid (fun h => by have := tree_zero h; rw [HZ.out] at this; omega)
      generalize (kids T).count ((0 : Nat) : Int) = c at *
      have t3 : (0 : Int) < (c : Int) := by omega
      clear hz
      go_wp2
      go_ret
      exact RetB.mk false rfl (by simp [HB.out]) HE.out
    · have HZ0 : Hid ((kids T).count (0 : Int) = 0) := Lib.hid (by rw [HZ.out]; omega)
      have hz2 : ((kids T).count ((0 : Nat) : Int) : Int) = 0 := by omega
      rw [hz2] at e0
      clear hz hz2
      go_wp2
      go_loopw [4, 5, 7, 35] (fun _ _ _ i wr => ∃ k : Nat, k ≤ T.length ∧ i = .int .i64 k ∧ (∀ (j : Nat) n, j < k → T[j]? = some n → NodeI n ∧ (0 < j → LkOk T j n) ∧ ∀ x ∈ n.K, DownOk T j x) ∧ Ext w1 wr) (fun _ _ _ i _ => T.length - (intOf i).toNat)
      case atStart => exact ⟨0, Nat.zero_le _, rfl, fun _ _ h => absurd h (Nat.not_lt_zero _), Ext.refl _⟩
      case round =>
        clear c0 e0
        obtain ⟨k, hk, rfl, hpre, hb1⟩ := hrel
        have Hpre := Lib.hid hpre
        have hb := HE.out.trans hb1
        clear hpre
        by_cases hlt : k < T.length
        rotate_left
        · obtain rfl : k = T.length := by omega
          have HO := Lib.hid (tree_of HL.out h1 HRT.out HZ0.out Hpre.out)
          go_wp2
          go_ret
          exact RetB.mk true rfl (by simp [HO.out]) hb
        · obtain ⟨x, b', off', an, cn, ak, ck, hx, hpe, c0, c1, c2, c3, c4, c5, c6, hcn, hck, hrn, hrk⟩ := atNd (hc.ext hb) hlt
          obtain ⟨rfl, rfl⟩ : b = b' ∧ off = off' := by simpa using hpe
          have Hx := Lib.hid hx
          have hsx := Lib.hid (HS.out x (List.mem_of_getElem? hx))
          have i0 : (k : Int) < (T.length : Int) := by omega
          have S := Sep.start wr
          clear hx hcn hck hpe
          replace S : Sep wr (wr.alloc (.cells #[.bool x.fold, .int .i64 x.own, .int .i64 x.grp, .int .i64 x.mode, .string x.text, .slice an x.N.length cn, .slice ak x.K.length ck] 57)) [plBox wr.heap.size #[.bool x.fold, .int .i64 x.own, .int .i64 x.grp, .int .i64 x.mode, .string x.text, .slice an x.N.length cn, .slice ak x.K.length ck] 57] := S.alloc_at (by simp) _ _
          go_upto_region 7 with fail
          generalize (wr.alloc (.cells #[.bool x.fold, .int .i64 x.own, .int .i64 x.grp, .int .i64 x.mode, .string x.text, .slice an x.N.length cn, .slice ak x.K.length ck] 57)) = wa at *
          clear c0 c1 c2 c3 c4 c5 c6
          obtain ⟨nbc0, nbf0⟩ : wa.cell? ⟨wr.heap.size, 0, none⟩ = some (.bool x.fold) ∧ wa.frozen? ⟨wr.heap.size, 0, none⟩ = false := bx (S.box 0 rfl) 0 rfl
          obtain ⟨nbc1, nbf1⟩ : wa.cell? ⟨wr.heap.size, 1, none⟩ = some (.int .i64 x.own) ∧ wa.frozen? ⟨wr.heap.size, 1, none⟩ = false := bx (S.box 0 rfl) 1 rfl
          obtain ⟨nbc2, nbf2⟩ : wa.cell? ⟨wr.heap.size, 2, none⟩ = some (.int .i64 x.grp) ∧ wa.frozen? ⟨wr.heap.size, 2, none⟩ = false := bx (S.box 0 rfl) 2 rfl
          obtain ⟨nbc3, nbf3⟩ : wa.cell? ⟨wr.heap.size, 3, none⟩ = some (.int .i64 x.mode) ∧ wa.frozen? ⟨wr.heap.size, 3, none⟩ = false := bx (S.box 0 rfl) 3 rfl
          obtain ⟨nbc4, nbf4⟩ : wa.cell? ⟨wr.heap.size, 4, none⟩ = some (.string x.text) ∧ wa.frozen? ⟨wr.heap.size, 4, none⟩ = false := bx (S.box 0 rfl) 4 rfl
          obtain ⟨nbc5, nbf5⟩ : wa.cell? ⟨wr.heap.size, 5, none⟩ = some (.slice an x.N.length cn) ∧ wa.frozen? ⟨wr.heap.size, 5, none⟩ = false := bx (S.box 0 rfl) 5 rfl
          obtain ⟨nbc6, nbf6⟩ : wa.cell? ⟨wr.heap.size, 6, none⟩ = some (.slice ak x.K.length ck) ∧ wa.frozen? ⟨wr.heap.size, 6, none⟩ = false := bx (S.box 0 rfl) 6 rfl
          go_wp2_with fail
          clear nbc0 nbf0 nbc1 nbf1 nbc2 nbf2 nbc3 nbf3 nbc4 nbf4 nbc5 nbf5 nbc6 nbf6
          refine (implNode x an ak cn ck wa hsx.out (hrn.ext S.ext)).mono ?_
          rintro e w3 ⟨v, rfl, hv, hE⟩
          have Hv := Lib.hid hv
          clear hv
          replace S : Sep wr w3 [plBox wr.heap.size #[.bool x.fold, .int .i64 x.own, .int .i64 x.grp, .int .i64 x.mode, .string x.text, .slice an x.N.length cn, .slice ak x.K.length ck] 57] := S.step hE
          clear hE
          obtain ⟨nbc0, nbf0⟩ : w3.cell? ⟨wr.heap.size, 0, none⟩ = some (.bool x.fold) ∧ w3.frozen? ⟨wr.heap.size, 0, none⟩ = false := bx (S.box 0 rfl) 0 rfl
          obtain ⟨nbc1, nbf1⟩ : w3.cell? ⟨wr.heap.size, 1, none⟩ = some (.int .i64 x.own) ∧ w3.frozen? ⟨wr.heap.size, 1, none⟩ = false := bx (S.box 0 rfl) 1 rfl
          obtain ⟨nbc2, nbf2⟩ : w3.cell? ⟨wr.heap.size, 2, none⟩ = some (.int .i64 x.grp) ∧ w3.frozen? ⟨wr.heap.size, 2, none⟩ = false := bx (S.box 0 rfl) 2 rfl
          obtain ⟨nbc3, nbf3⟩ : w3.cell? ⟨wr.heap.size, 3, none⟩ = some (.int .i64 x.mode) ∧ w3.frozen? ⟨wr.heap.size, 3, none⟩ = false := bx (S.box 0 rfl) 3 rfl
          obtain ⟨nbc4, nbf4⟩ : w3.cell? ⟨wr.heap.size, 4, none⟩ = some (.string x.text) ∧ w3.frozen? ⟨wr.heap.size, 4, none⟩ = false := bx (S.box 0 rfl) 4 rfl
          obtain ⟨nbc5, nbf5⟩ : w3.cell? ⟨wr.heap.size, 5, none⟩ = some (.slice an x.N.length cn) ∧ w3.frozen? ⟨wr.heap.size, 5, none⟩ = false := bx (S.box 0 rfl) 5 rfl
          obtain ⟨nbc6, nbf6⟩ : w3.cell? ⟨wr.heap.size, 6, none⟩ = some (.slice ak x.K.length ck) ∧ w3.frozen? ⟨wr.heap.size, 6, none⟩ = false := bx (S.box 0 rfl) 6 rfl
          cases v with
          | false =>
            have HB : Hid (¬ TreeOk T) := Lib.hid (fun h => Bool.noConfusion (Hv.out.2 (nodeOk_iff.1 (h.nodes k x Hx.out)).1))
            go_wp2
            go_ret
            exact RetB.mk false rfl (by simp [HB.out]) (hb.trans S.ext)
          | true =>
            have HN := Lib.hid (Hv.out.1 rfl)
            have HBL : Hid (0 < k → ¬ LkOk T k x → ¬ TreeOk T) := Lib.hid (fun h0 h ht => h (ht.links k x Hx.out h0))
            have hkl := hsx.out.2.2.2
            clear Hv
            have Hrk : Hid (∀ wz, Ext wr wz → Rd 1 encInt1 wz ak x.K) := Lib.hid (fun wz h => hrk.ext h)
            clear hrk hrn
            obtain ⟨y, b3, off3, hy, hpl, e0⟩ := atInt (HRL.out.ext (hb1.trans S.ext)) (show k < (cntL T.length (kids T)).length by rw [cntL_len]; exact hlt)
            rw [cntL_get hlt] at hy
            obtain rfl := Option.some.inj hy
            obtain ⟨rfl, rfl⟩ : b2 = b3 ∧ off2 = off3 := by simpa using hpl
            have HQ := Lib.hid (show LkOk T k x ↔ 1 ≤ (kids T).count (k : Int) ∧ (x.fold = true → (kids T).count (k : Int) ≤ 1) from Iff.rfl)
            generalize (kids T).count (k : Int) = c at *
            clear hy hpl
            by_cases hk0 : k = 0
            · have Hlk : Hid (0 < k → LkOk T k x) := Lib.hid (fun h0 => absurd h0 (by omega))
              have tk : ¬ (0 : Int) < (k : Int) := by omega
              clear hk0
              have HW := Lib.hid S.ext
              clear e0
              go_wp2
              go_loopw [7, 72] (fun _ i wz => ∃ m : Nat, m ≤ x.K.length ∧ i = .int .i64 m ∧ (∀ (j : Nat) y, j < m → x.K[j]? = some y → DownOk T k y) ∧ Ext w3 wz) (fun _ i _ => x.K.length - (intOf i).toNat)
              case atStart => exact ⟨0, Nat.zero_le _, rfl, fun _ _ h => absurd h (Nat.not_lt_zero _), Ext.refl _⟩
              case round =>
                clear S tk
                obtain ⟨m, hm, rfl, hpre2, hb3⟩ := hrel
                have Hpre2 := Lib.hid hpre2
                have hbw := hb.trans (HW.out.trans hb3)
                clear hpre2
                by_cases hlm : m < x.K.length
                rotate_left
                · obtain rfl : m = x.K.length := by omega
                  have hni : ¬ (x.K.length : Int) < (x.K.length : Int) := by omega
                  have Hnext := Lib.hid (all_next (Q := fun j n => NodeI n ∧ (0 < j → LkOk T j n) ∧ ∀ x ∈ n.K, DownOk T j x) Hpre.out Hx.out ⟨HN.out, Hlk.out, all_mem Hpre2.out⟩)
                  have HF := Lib.hid (hb1.trans (HW.out.trans hb3))
                  go_wp2
                  go_roundw
                  case rel => exact ⟨k + 1, by omega, by go_num, Hnext.out, HF.out⟩
                  case measure => simp [intOf]; omega
                · obtain ⟨y, b4, off4, hy, rfl, e4⟩ := atInt (Hrk.out _ (HW.out.trans hb3)) hlm
                  have Hy := Lib.hid hy
                  have j0 : (m : Int) < (x.K.length : Int) := by omega
                  obtain ⟨i, rfl, hiM⟩ := in_cast (HL.out.2 y (kids_mem Hx.out (List.mem_of_getElem? hy)))
                  have k0 : (i : Int) < (T.length : Int) := by omega
                  obtain ⟨z, b', off', an', cn', ak', ck', hz, hpe, f0, _⟩ := atNd (hc.ext hbw) hiM
                  obtain ⟨rfl, rfl⟩ : b = b' ∧ off = off' := by simpa using hpe
                  have Hz := Lib.hid hz
                  clear hy hz hpe
                  cases hzf : z.fold with
                  | false =>
                    have Hnext := Lib.hid (all_next (Q := fun _ y => DownOk T k y) Hpre2.out Hy.out (down_file Hz.out hzf))
                    rw [hzf] at f0
                    clear hzf
                    go_wp2
                    go_roundw
                    case rel => exact ⟨m + 1, by omega, by go_num, Hnext.out, hb3⟩
                    case measure => simp [intOf]; omega
                  | true =>
                    by_cases hik : i ≤ k
                    · have HB : Hid (¬ TreeOk T) := Lib.hid (fun h => down_bad Hz.out hzf hik (h.down k x Hx.out _ (List.mem_of_getElem? Hy.out)))
                      have t1 : (i : Int) ≤ (k : Int) := by omega
                      rw [hzf] at f0
                      clear hzf
                      go_wp2
                      go_ret
                      exact RetB.mk false rfl (by simp [HB.out]) hbw
                    · have Hnext := Lib.hid (all_next (Q := fun _ y => DownOk T k y) Hpre2.out Hy.out (down_good (T := T) (show k < i by omega)))
                      have t1 : ¬ (i : Int) ≤ (k : Int) := by omega
                      rw [hzf] at f0
                      clear hzf
                      go_wp2
                      go_roundw
                      case rel => exact ⟨m + 1, by omega, by go_num, Hnext.out, hb3⟩
                      case measure => simp [intOf]; omega
            · have tk : (0 : Int) < (k : Int) := by omega
              have hk1 : 0 < k := by omega
              clear hk0
              by_cases hc0 : c = 0
              · have HB := Lib.hid (HBL.out hk1 (fun h => by have := (HQ.out.1 h).1; omega))
                have hz : (c : Int) = 0 := by omega
                rw [hz] at e0
                clear hz hc0
                go_wp2
                go_ret
                exact RetB.mk false rfl (by simp [HB.out]) (hb.trans S.ext)
              · have tc : ((c : Int) == 0) = false := by simp; omega
                cases hxf : x.fold with
                | false =>
                  have Hlk : Hid (0 < k → LkOk T k x) := Lib.hid (fun _ => HQ.out.2 ⟨by omega, fun h => Bool.noConfusion (hxf.symm.trans h)⟩)
                  rw [hxf] at nbc0
                  clear hxf
                  have HW := Lib.hid S.ext
                  go_wp2
                  go_loopw [7, 72] (fun _ i wz => ∃ m : Nat, m ≤ x.K.length ∧ i = .int .i64 m ∧ (∀ (j : Nat) y, j < m → x.K[j]? = some y → DownOk T k y) ∧ Ext w3 wz) (fun _ i _ => x.K.length - (intOf i).toNat)
                  case atStart => exact ⟨0, Nat.zero_le _, rfl, fun _ _ h => absurd h (Nat.not_lt_zero _), Ext.refl _⟩
                  case round =>
                    clear e0
                    clear S tk hk1 hc0 tc
                    obtain ⟨m, hm, rfl, hpre2, hb3⟩ := hrel
                    have Hpre2 := Lib.hid hpre2
                    have hbw := hb.trans (HW.out.trans hb3)
                    clear hpre2
                    by_cases hlm : m < x.K.length
                    rotate_left
                    · obtain rfl : m = x.K.length := by omega
                      have hni : ¬ (x.K.length : Int) < (x.K.length : Int) := by omega
                      have Hnext := Lib.hid (all_next (Q := fun j n => NodeI n ∧ (0 < j → LkOk T j n) ∧ ∀ x ∈ n.K, DownOk T j x) Hpre.out Hx.out ⟨HN.out, Hlk.out, all_mem Hpre2.out⟩)
                      have HF := Lib.hid (hb1.trans (HW.out.trans hb3))
                      go_wp2
                      go_roundw
                      case rel => exact ⟨k + 1, by omega, by go_num, Hnext.out, HF.out⟩
                      case measure => simp [intOf]; omega
                    · obtain ⟨y, b4, off4, hy, rfl, e4⟩ := atInt (Hrk.out _ (HW.out.trans hb3)) hlm
                      have Hy := Lib.hid hy
                      have j0 : (m : Int) < (x.K.length : Int) := by omega
                      obtain ⟨i, rfl, hiM⟩ := in_cast (HL.out.2 y (kids_mem Hx.out (List.mem_of_getElem? hy)))
                      have k0 : (i : Int) < (T.length : Int) := by omega
                      obtain ⟨z, b', off', an', cn', ak', ck', hz, hpe, f0, _⟩ := atNd (hc.ext hbw) hiM
                      obtain ⟨rfl, rfl⟩ : b = b' ∧ off = off' := by simpa using hpe
                      have Hz := Lib.hid hz
                      clear hy hz hpe
                      cases hzf : z.fold with
                      | false =>
                        have Hnext := Lib.hid (all_next (Q := fun _ y => DownOk T k y) Hpre2.out Hy.out (down_file Hz.out hzf))
                        rw [hzf] at f0
                        clear hzf
                        go_wp2
                        go_roundw
                        case rel => exact ⟨m + 1, by omega, by go_num, Hnext.out, hb3⟩
                        case measure => simp [intOf]; omega
                      | true =>
                        by_cases hik : i ≤ k
                        · have HB : Hid (¬ TreeOk T) := Lib.hid (fun h => down_bad Hz.out hzf hik (h.down k x Hx.out _ (List.mem_of_getElem? Hy.out)))
                          have t1 : (i : Int) ≤ (k : Int) := by omega
                          rw [hzf] at f0
                          clear hzf
                          go_wp2
                          go_ret
                          exact RetB.mk false rfl (by simp [HB.out]) hbw
                        · have Hnext := Lib.hid (all_next (Q := fun _ y => DownOk T k y) Hpre2.out Hy.out (down_good (T := T) (show k < i by omega)))
                          have t1 : ¬ (i : Int) ≤ (k : Int) := by omega
                          rw [hzf] at f0
                          clear hzf
                          go_wp2
                          go_roundw
                          case rel => exact ⟨m + 1, by omega, by go_num, Hnext.out, hb3⟩
                          case measure => simp [intOf]; omega
                | true =>
                  by_cases hc1 : 1 < c
                  · have HB := Lib.hid (HBL.out hk1 (fun h => by have := (HQ.out.1 h).2 hxf; omega))
                    have t2 : (1 : Int) < (c : Int) := by omega
                    rw [hxf] at nbc0
                    clear hxf hc1
                    go_wp2
                    go_ret
                    exact RetB.mk false rfl (by simp [HB.out]) (hb.trans S.ext)
                  · have Hlk : Hid (0 < k → LkOk T k x) := Lib.hid (fun _ => HQ.out.2 ⟨by omega, fun _ => by omega⟩)
                    have t2 : ¬ (1 : Int) < (c : Int) := by omega
                    rw [hxf] at nbc0
                    clear hxf hc1
                    have HW := Lib.hid S.ext
                    go_wp2
                    go_loopw [7, 72] (fun _ i wz => ∃ m : Nat, m ≤ x.K.length ∧ i = .int .i64 m ∧ (∀ (j : Nat) y, j < m → x.K[j]? = some y → DownOk T k y) ∧ Ext w3 wz) (fun _ i _ => x.K.length - (intOf i).toNat)
                    case atStart => exact ⟨0, Nat.zero_le _, rfl, fun _ _ h => absurd h (Nat.not_lt_zero _), Ext.refl _⟩
                    case round =>
                      clear e0
                      clear S tk hk1 hc0 tc t2
                      obtain ⟨m, hm, rfl, hpre2, hb3⟩ := hrel
                      have Hpre2 := Lib.hid hpre2
                      have hbw := hb.trans (HW.out.trans hb3)
                      clear hpre2
                      by_cases hlm : m < x.K.length
                      rotate_left
                      · obtain rfl : m = x.K.length := by omega
                        have hni : ¬ (x.K.length : Int) < (x.K.length : Int) := by omega
                        have Hnext := Lib.hid (all_next (Q := fun j n => NodeI n ∧ (0 < j → LkOk T j n) ∧ ∀ x ∈ n.K, DownOk T j x) Hpre.out Hx.out ⟨HN.out, Hlk.out, all_mem Hpre2.out⟩)
                        have HF := Lib.hid (hb1.trans (HW.out.trans hb3))
                        go_wp2
                        go_roundw
                        case rel => exact ⟨k + 1, by omega, by go_num, Hnext.out, HF.out⟩
                        case measure => simp [intOf]; omega
                      · obtain ⟨y, b4, off4, hy, rfl, e4⟩ := atInt (Hrk.out _ (HW.out.trans hb3)) hlm
                        have Hy := Lib.hid hy
                        have j0 : (m : Int) < (x.K.length : Int) := by omega
                        obtain ⟨i, rfl, hiM⟩ := in_cast (HL.out.2 y (kids_mem Hx.out (List.mem_of_getElem? hy)))
                        have k0 : (i : Int) < (T.length : Int) := by omega
                        obtain ⟨z, b', off', an', cn', ak', ck', hz, hpe, f0, _⟩ := atNd (hc.ext hbw) hiM
                        obtain ⟨rfl, rfl⟩ : b = b' ∧ off = off' := by simpa using hpe
                        have Hz := Lib.hid hz
                        clear hy hz hpe
                        cases hzf : z.fold with
                        | false =>
                          have Hnext := Lib.hid (all_next (Q := fun _ y => DownOk T k y) Hpre2.out Hy.out (down_file Hz.out hzf))
                          rw [hzf] at f0
                          clear hzf
                          go_wp2
                          go_roundw
                          case rel => exact ⟨m + 1, by omega, by go_num, Hnext.out, hb3⟩
                          case measure => simp [intOf]; omega
                        | true =>
                          by_cases hik : i ≤ k
                          · have HB : Hid (¬ TreeOk T) := Lib.hid (fun h => down_bad Hz.out hzf hik (h.down k x Hx.out _ (List.mem_of_getElem? Hy.out)))
                            have t1 : (i : Int) ≤ (k : Int) := by omega
                            rw [hzf] at f0
                            clear hzf
                            go_wp2
                            go_ret
                            exact RetB.mk false rfl (by simp [HB.out]) hbw
                          · have Hnext := Lib.hid (all_next (Q := fun _ y => DownOk T k y) Hpre2.out Hy.out (down_good (T := T) (show k < i by omega)))
                            have t1 : ¬ (i : Int) ≤ (k : Int) := by omega
                            rw [hzf] at f0
                            clear hzf
                            go_wp2
                            go_roundw
                            case rel => exact ⟨m + 1, by omega, by go_num, Hnext.out, hb3⟩
                            case measure => simp [intOf]; omega
end Go.Proofs.Ytnibbldfohbfkaa

/- Kernels: contracts of KernelValid. Condition: rows of at most 2^20. -/
namespace Go.Proofs.Ytnibbldfohbfkaa
open Go.RowKit

def KerOk (T : List Nd) (r a s g : Int) : Prop := TreeOk T ∧ CredOk r a s g
set_option maxHeartbeats 2000000 in
theorem specKernelValid (at_ : Option Addr) (cap : Nat) (T : List Nd) (r a s g : Int) (w : World) (hl : T.length ≤ 1048576) (hs : ∀ x ∈ T, SmN 1048576 x) (hc : RdN w at_ T) :
    Calls Try.prog 6 #[.agg #[.slice at_ T.length cap, .int .i64 r, .int .i64 a, .int .i64 s, .int .i64 g]] w (RetB (KerOk T r a s g) w) := by
  have HS := Lib.hid hs
  clear hs
  go_enter Try.func6, Try.ntmps6
  have S := Sep.start w
  replace S : Sep w (w.alloc (.cells #[.slice at_ T.length cap, .int .i64 r, .int .i64 a, .int .i64 s, .int .i64 g] 32)) [plBox w.heap.size #[.slice at_ T.length cap, .int .i64 r, .int .i64 a, .int .i64 s, .int .i64 g] 32] := S.alloc_at (by simp) _ _
  go_wp2_with fail
  generalize (w.alloc (.cells #[.slice at_ T.length cap, .int .i64 r, .int .i64 a, .int .i64 s, .int .i64 g] 32)) = w1 at *
  refine (specTreeValid at_ cap T w1 hl HS.out (hc.ext S.ext)).mono ?_
  rintro e w2 ⟨v1, rfl, hv1, hE⟩
  have Hv1 := Lib.hid hv1
  clear hv1
  replace S : Sep w w2 [plBox w.heap.size #[.slice at_ T.length cap, .int .i64 r, .int .i64 a, .int .i64 s, .int .i64 g] 32] := S.step hE
  clear hE
  cases v1 with
  | false =>
    go_wp2
    go_ret
    exact RetB.mk false rfl (by simp only [Bool.false_eq_true, false_iff]; exact fun h => Bool.noConfusion (Hv1.out.2 h.1)) S.ext
  | true =>
    obtain ⟨bc0, bf0⟩ : w2.cell? ⟨w.heap.size, 0, none⟩ = some (.slice at_ T.length cap) ∧ w2.frozen? ⟨w.heap.size, 0, none⟩ = false := bx (S.box 0 rfl) 0 rfl
    obtain ⟨bc1, bf1⟩ : w2.cell? ⟨w.heap.size, 1, none⟩ = some (.int .i64 r) ∧ w2.frozen? ⟨w.heap.size, 1, none⟩ = false := bx (S.box 0 rfl) 1 rfl
    obtain ⟨bc2, bf2⟩ : w2.cell? ⟨w.heap.size, 2, none⟩ = some (.int .i64 a) ∧ w2.frozen? ⟨w.heap.size, 2, none⟩ = false := bx (S.box 0 rfl) 2 rfl
    obtain ⟨bc3, bf3⟩ : w2.cell? ⟨w.heap.size, 3, none⟩ = some (.int .i64 s) ∧ w2.frozen? ⟨w.heap.size, 3, none⟩ = false := bx (S.box 0 rfl) 3 rfl
    obtain ⟨bc4, bf4⟩ : w2.cell? ⟨w.heap.size, 4, none⟩ = some (.int .i64 g) ∧ w2.frozen? ⟨w.heap.size, 4, none⟩ = false := bx (S.box 0 rfl) 4 rfl
    go_wp2_with fail
    refine (specCredValid r a s g w2).mono ?_
    rintro e w3 ⟨v2, rfl, hv2, hE⟩
    have Hv2 := Lib.hid hv2
    clear hv2
    clear bc0 bf0 bc1 bf1 bc2 bf2 bc3 bf3 bc4 bf4
    replace S : Sep w w3 [plBox w.heap.size #[.slice at_ T.length cap, .int .i64 r, .int .i64 a, .int .i64 s, .int .i64 g] 32] := S.step hE
    clear hE
    go_wp2
    go_ret
    exact RetB.mk v2 rfl ⟨fun h => ⟨Hv1.out.1 trivial, Hv2.out.1 h⟩, fun h => Hv2.out.2 h.2⟩ S.ext
set_option maxHeartbeats 2000000 in
theorem implKernelValid (at_ : Option Addr) (cap : Nat) (T : List Nd) (r a s g : Int) (w : World) (hl : T.length ≤ 1048576) (hs : ∀ x ∈ T, SmN 1048576 x) (hc : RdN w at_ T) :
    Calls Try.prog 8 #[.agg #[.slice at_ T.length cap, .int .i64 r, .int .i64 a, .int .i64 s, .int .i64 g]] w (RetB (KerOk T r a s g) w) := by
  have HS := Lib.hid hs
  clear hs
  go_enter Try.func8, Try.ntmps8
  have S := Sep.start w
  replace S : Sep w (w.alloc (.cells #[.slice at_ T.length cap, .int .i64 r, .int .i64 a, .int .i64 s, .int .i64 g] 32)) [plBox w.heap.size #[.slice at_ T.length cap, .int .i64 r, .int .i64 a, .int .i64 s, .int .i64 g] 32] := S.alloc_at (by simp) _ _
  go_wp2_with fail
  generalize (w.alloc (.cells #[.slice at_ T.length cap, .int .i64 r, .int .i64 a, .int .i64 s, .int .i64 g] 32)) = w1 at *
  refine (implTreeValid at_ cap T w1 hl HS.out (hc.ext S.ext)).mono ?_
  rintro e w2 ⟨v1, rfl, hv1, hE⟩
  have Hv1 := Lib.hid hv1
  clear hv1
  replace S : Sep w w2 [plBox w.heap.size #[.slice at_ T.length cap, .int .i64 r, .int .i64 a, .int .i64 s, .int .i64 g] 32] := S.step hE
  clear hE
  cases v1 with
  | false =>
    go_wp2
    go_ret
    exact RetB.mk false rfl (by simp only [Bool.false_eq_true, false_iff]; exact fun h => Bool.noConfusion (Hv1.out.2 h.1)) S.ext
  | true =>
    obtain ⟨bc0, bf0⟩ : w2.cell? ⟨w.heap.size, 0, none⟩ = some (.slice at_ T.length cap) ∧ w2.frozen? ⟨w.heap.size, 0, none⟩ = false := bx (S.box 0 rfl) 0 rfl
    obtain ⟨bc1, bf1⟩ : w2.cell? ⟨w.heap.size, 1, none⟩ = some (.int .i64 r) ∧ w2.frozen? ⟨w.heap.size, 1, none⟩ = false := bx (S.box 0 rfl) 1 rfl
    obtain ⟨bc2, bf2⟩ : w2.cell? ⟨w.heap.size, 2, none⟩ = some (.int .i64 a) ∧ w2.frozen? ⟨w.heap.size, 2, none⟩ = false := bx (S.box 0 rfl) 2 rfl
    obtain ⟨bc3, bf3⟩ : w2.cell? ⟨w.heap.size, 3, none⟩ = some (.int .i64 s) ∧ w2.frozen? ⟨w.heap.size, 3, none⟩ = false := bx (S.box 0 rfl) 3 rfl
    obtain ⟨bc4, bf4⟩ : w2.cell? ⟨w.heap.size, 4, none⟩ = some (.int .i64 g) ∧ w2.frozen? ⟨w.heap.size, 4, none⟩ = false := bx (S.box 0 rfl) 4 rfl
    go_wp2_with fail
    refine (implCredValid r a s g w2).mono ?_
    rintro e w3 ⟨v2, rfl, hv2, hE⟩
    have Hv2 := Lib.hid hv2
    clear hv2
    clear bc0 bf0 bc1 bf1 bc2 bf2 bc3 bf3 bc4 bf4
    replace S : Sep w w3 [plBox w.heap.size #[.slice at_ T.length cap, .int .i64 r, .int .i64 a, .int .i64 s, .int .i64 g] 32] := S.step hE
    clear hE
    go_wp2
    go_ret
    exact RetB.mk v2 rfl ⟨fun h => ⟨Hv1.out.1 trivial, Hv2.out.1 h⟩, fun h => Hv2.out.2 h.2⟩ S.ext
end Go.Proofs.Ytnibbldfohbfkaa

/- FnKernelValid: the walk. Condition: the code is shorter than 2^63. -/
namespace Go.Proofs.Ytnibbldfohbfkaa
open Go.RowKit

theorem rdN_nil (w : World) : RdN w none [] := ⟨[], rfl, fun i hi => absurd hi (Nat.not_lt_zero _), fun c hc => by cases hc⟩
theorem sm_any {T : List Nd} (h : ∀ x ∈ T, SmN 200000 x) : ∀ x ∈ T, SmN 1048576 x := fun x hx => by
  have := h x hx
  exact ⟨by have := this.1; omega, by have := this.2.1; omega, fun s hs => by have := this.2.2.1 s hs; omega, by have := this.2.2.2; omega⟩
set_option maxRecDepth 10000 in
set_option maxHeartbeats 8000000 in
theorem fnKernelValid_any (ac : Option Addr) (capc : Nat) (code : List Int) (w : World) (hlc : code.length ≤ 9223372036854775807) (hcap : code.length ≤ capc) (hu : ∀ x ∈ code, 0 ≤ x ∧ x ≤ 255) (hcc : Rd 1 encU8 w ac code) :
    Calls Try.prog 4 #[.slice ac code.length capc] w (RetB True w) := by
  go_enter Try.func4, Try.ntmps4
  by_cases hbig : 1048576 < code.length
  · have hb : (1048576 : Int) < (code.length : Int) := by omega
    go_wp2
    go_ret
    exact RetB.mk true rfl (by simp) (Ext.refl _)
  have hb : (code.length : Int) ≤ 1048576 := by omega
  have S := Sep.start w
  go_wp2_with fail
  refine (drawKernelValid ac capc code w hlc hcap hu hcc).mono ?_
  rintro e w1 ⟨v, rfl, a, cap, vs, T, r, c, s, q, rfl, hT1, hcapT, hT2, U⟩
  have HT2 := Lib.hid (sm_any hT2)
  clear hT2 hb hbig
  replace S : Sep w w1 [plNd (.slice a T.length cap) vs T] := S.call U
  clear U
  replace S : Sep w (w1.alloc (.cells #[.slice a T.length cap, .int .i64 r, .int .i64 c, .int .i64 s, .int .i64 q] 32)) [plBox w1.heap.size #[.slice a T.length cap, .int .i64 r, .int .i64 c, .int .i64 s, .int .i64 q] 32, plNd (.slice a T.length cap) vs T] := S.alloc_at (by simp) _ _
  obtain ⟨mbc0, mbf0⟩ : (w1.alloc (.cells #[.slice a T.length cap, .int .i64 r, .int .i64 c, .int .i64 s, .int .i64 q] 32)).cell? ⟨w1.heap.size, 0, none⟩ = some (.slice a T.length cap) ∧ (w1.alloc (.cells #[.slice a T.length cap, .int .i64 r, .int .i64 c, .int .i64 s, .int .i64 q] 32)).frozen? ⟨w1.heap.size, 0, none⟩ = false := bx (S.box 0 rfl) 0 rfl
  obtain ⟨mbc1, mbf1⟩ : (w1.alloc (.cells #[.slice a T.length cap, .int .i64 r, .int .i64 c, .int .i64 s, .int .i64 q] 32)).cell? ⟨w1.heap.size, 1, none⟩ = some (.int .i64 r) ∧ (w1.alloc (.cells #[.slice a T.length cap, .int .i64 r, .int .i64 c, .int .i64 s, .int .i64 q] 32)).frozen? ⟨w1.heap.size, 1, none⟩ = false := bx (S.box 0 rfl) 1 rfl
  obtain ⟨mbc2, mbf2⟩ : (w1.alloc (.cells #[.slice a T.length cap, .int .i64 r, .int .i64 c, .int .i64 s, .int .i64 q] 32)).cell? ⟨w1.heap.size, 2, none⟩ = some (.int .i64 c) ∧ (w1.alloc (.cells #[.slice a T.length cap, .int .i64 r, .int .i64 c, .int .i64 s, .int .i64 q] 32)).frozen? ⟨w1.heap.size, 2, none⟩ = false := bx (S.box 0 rfl) 2 rfl
  obtain ⟨mbc3, mbf3⟩ : (w1.alloc (.cells #[.slice a T.length cap, .int .i64 r, .int .i64 c, .int .i64 s, .int .i64 q] 32)).cell? ⟨w1.heap.size, 3, none⟩ = some (.int .i64 s) ∧ (w1.alloc (.cells #[.slice a T.length cap, .int .i64 r, .int .i64 c, .int .i64 s, .int .i64 q] 32)).frozen? ⟨w1.heap.size, 3, none⟩ = false := bx (S.box 0 rfl) 3 rfl
  obtain ⟨mbc4, mbf4⟩ : (w1.alloc (.cells #[.slice a T.length cap, .int .i64 r, .int .i64 c, .int .i64 s, .int .i64 q] 32)).cell? ⟨w1.heap.size, 4, none⟩ = some (.int .i64 q) ∧ (w1.alloc (.cells #[.slice a T.length cap, .int .i64 r, .int .i64 c, .int .i64 s, .int .i64 q] 32)).frozen? ⟨w1.heap.size, 4, none⟩ = false := bx (S.box 0 rfl) 4 rfl
  go_wp2_with fail
  clear mbc0 mbf0 mbc1 mbf1 mbc2 mbf2 mbc3 mbf3 mbc4 mbf4
  generalize (w1.alloc (.cells #[.slice a T.length cap, .int .i64 r, .int .i64 c, .int .i64 s, .int .i64 q] 32)) = w2 at *
  refine (implKernelValid a cap T r c s q _ (by omega) HT2.out (S.rdN 1 rfl)).mono ?_
  rintro e w3 ⟨v0, rfl, hv0, hE⟩
  have Hv0 := Lib.hid hv0
  clear hv0
  replace S : Sep w w3 [plBox w1.heap.size #[.slice a T.length cap, .int .i64 r, .int .i64 c, .int .i64 s, .int .i64 q] 32, plNd (.slice a T.length cap) vs T] := S.step hE
  clear hE
  obtain ⟨mbc0, mbf0⟩ : w3.cell? ⟨w1.heap.size, 0, none⟩ = some (.slice a T.length cap) ∧ w3.frozen? ⟨w1.heap.size, 0, none⟩ = false := bx (S.box 0 rfl) 0 rfl
  obtain ⟨mbc1, mbf1⟩ : w3.cell? ⟨w1.heap.size, 1, none⟩ = some (.int .i64 r) ∧ w3.frozen? ⟨w1.heap.size, 1, none⟩ = false := bx (S.box 0 rfl) 1 rfl
  obtain ⟨mbc2, mbf2⟩ : w3.cell? ⟨w1.heap.size, 2, none⟩ = some (.int .i64 c) ∧ w3.frozen? ⟨w1.heap.size, 2, none⟩ = false := bx (S.box 0 rfl) 2 rfl
  obtain ⟨mbc3, mbf3⟩ : w3.cell? ⟨w1.heap.size, 3, none⟩ = some (.int .i64 s) ∧ w3.frozen? ⟨w1.heap.size, 3, none⟩ = false := bx (S.box 0 rfl) 3 rfl
  obtain ⟨mbc4, mbf4⟩ : w3.cell? ⟨w1.heap.size, 4, none⟩ = some (.int .i64 q) ∧ w3.frozen? ⟨w1.heap.size, 4, none⟩ = false := bx (S.box 0 rfl) 4 rfl
  go_wp2_with fail
  clear mbc0 mbf0 mbc1 mbf1 mbc2 mbf2 mbc3 mbf3 mbc4 mbf4
  refine (specKernelValid a cap T r c s q _ (by omega) HT2.out (S.rdN 1 rfl)).mono ?_
  rintro e w4 ⟨v1, rfl, hv1, hE⟩
  obtain rfl : v0 = v1 := Bool.eq_iff_iff.2 (Hv0.out.trans hv1.symm)
  clear hv1
  replace S : Sep w w4 [plBox w1.heap.size #[.slice a T.length cap, .int .i64 r, .int .i64 c, .int .i64 s, .int .i64 q] 32, plNd (.slice a T.length cap) vs T] := S.step hE
  clear hE
  have tb : (v0 != v0) = false := by simp
  obtain ⟨mbc0, mbf0⟩ : w4.cell? ⟨w1.heap.size, 0, none⟩ = some (.slice a T.length cap) ∧ w4.frozen? ⟨w1.heap.size, 0, none⟩ = false := bx (S.box 0 rfl) 0 rfl
  obtain ⟨mbc1, mbf1⟩ : w4.cell? ⟨w1.heap.size, 1, none⟩ = some (.int .i64 r) ∧ w4.frozen? ⟨w1.heap.size, 1, none⟩ = false := bx (S.box 0 rfl) 1 rfl
  obtain ⟨mbc2, mbf2⟩ : w4.cell? ⟨w1.heap.size, 2, none⟩ = some (.int .i64 c) ∧ w4.frozen? ⟨w1.heap.size, 2, none⟩ = false := bx (S.box 0 rfl) 2 rfl
  obtain ⟨mbc3, mbf3⟩ : w4.cell? ⟨w1.heap.size, 3, none⟩ = some (.int .i64 s) ∧ w4.frozen? ⟨w1.heap.size, 3, none⟩ = false := bx (S.box 0 rfl) 3 rfl
  obtain ⟨mbc4, mbf4⟩ : w4.cell? ⟨w1.heap.size, 4, none⟩ = some (.int .i64 q) ∧ w4.frozen? ⟨w1.heap.size, 4, none⟩ = false := bx (S.box 0 rfl) 4 rfl
  go_wp2_with fail
  clear mbc0 mbf0 mbc1 mbf1 mbc2 mbf2 mbc3 mbf3 mbc4 mbf4
  refine (implKernelValid none 0 [] r c s q _ (by simp) (fun x hx => by cases hx) (rdN_nil _)).mono ?_
  rintro e w6 ⟨v2, rfl, hv2, hE⟩
  obtain rfl : v2 = false := by
    cases v2 with
    | false => rfl
    | true => exact absurd (hv2.1 rfl).1.pos (by simp)
  clear hv2
  replace S : Sep w w6 [plBox w1.heap.size #[.slice a T.length cap, .int .i64 r, .int .i64 c, .int .i64 s, .int .i64 q] 32, plNd (.slice a T.length cap) vs T] := S.step hE
  clear hE
  cases v0 with
  | false =>
    go_wp2_with fail
    refine (alive_any _).mono ?_
    rintro e w8 ⟨b3, rfl, hb3, hE⟩
    obtain rfl : b3 = true := hb3.2 trivial
    clear hb3
    replace S : Sep w w8 [plBox w1.heap.size #[.slice a T.length cap, .int .i64 r, .int .i64 c, .int .i64 s, .int .i64 q] 32, plNd (.slice a T.length cap) vs T] := S.step hE
    clear hE
    go_wp2
    go_ret
    exact RetB.mk true rfl (by simp) S.ext
  | true =>
    have HV := Lib.hid (Hv0.out.1 rfl)
    clear Hv0
    obtain ⟨mbc0, mbf0⟩ : w6.cell? ⟨w1.heap.size, 0, none⟩ = some (.slice a T.length cap) ∧ w6.frozen? ⟨w1.heap.size, 0, none⟩ = false := bx (S.box 0 rfl) 0 rfl
    obtain ⟨mbc1, mbf1⟩ : w6.cell? ⟨w1.heap.size, 1, none⟩ = some (.int .i64 r) ∧ w6.frozen? ⟨w1.heap.size, 1, none⟩ = false := bx (S.box 0 rfl) 1 rfl
    obtain ⟨mbc2, mbf2⟩ : w6.cell? ⟨w1.heap.size, 2, none⟩ = some (.int .i64 c) ∧ w6.frozen? ⟨w1.heap.size, 2, none⟩ = false := bx (S.box 0 rfl) 2 rfl
    obtain ⟨mbc3, mbf3⟩ : w6.cell? ⟨w1.heap.size, 3, none⟩ = some (.int .i64 s) ∧ w6.frozen? ⟨w1.heap.size, 3, none⟩ = false := bx (S.box 0 rfl) 3 rfl
    obtain ⟨mbc4, mbf4⟩ : w6.cell? ⟨w1.heap.size, 4, none⟩ = some (.int .i64 q) ∧ w6.frozen? ⟨w1.heap.size, 4, none⟩ = false := bx (S.box 0 rfl) 4 rfl
    go_wp2_with fail
    clear mbc0 mbf0 mbc1 mbf1 mbc2 mbf2 mbc3 mbf3 mbc4 mbf4
    refine (implKernelValid a cap T 0 0 0 0 _ (by omega) HT2.out (S.rdN 1 rfl)).mono ?_
    rintro e w7 ⟨v3, rfl, hv3, hE⟩
    obtain rfl : v3 = true := hv3.2 ⟨HV.out.1, by unfold CredOk inB; decide⟩
    clear hv3
    replace S : Sep w w7 [plBox w1.heap.size #[.slice a T.length cap, .int .i64 r, .int .i64 c, .int .i64 s, .int .i64 q] 32, plNd (.slice a T.length cap) vs T] := S.step hE
    clear hE
    go_wp2_with fail
    refine (alive_any _).mono ?_
    rintro e w8 ⟨b3, rfl, hb3, hE⟩
    obtain rfl : b3 = true := hb3.2 trivial
    clear hb3
    replace S : Sep w w8 [plBox w1.heap.size #[.slice a T.length cap, .int .i64 r, .int .i64 c, .int .i64 s, .int .i64 q] 32, plNd (.slice a T.length cap) vs T] := S.step hE
    clear hE
    go_wp2
    go_ret
    exact RetB.mk true rfl (by simp) S.ext
end Go.Proofs.Ytnibbldfohbfkaa

/- FnKernelValid returns true and leaves its argument alone, for every argument that can be read. No condition. -/
namespace Go.Proofs.Ytnibbldfohbfkaa.fnKernelValid
open Go.ChangeShapes Go.WideShapes Go.ChangeAt Go.RowKit Go.Deep

set_option maxRecDepth 100000 in
theorem lifted (os : Os) (started : os.Started) (H : Type) (enc : TypeId × Value → H) :
    ReturnsInHanded {} Try.checked os 4 .any (Rows.fnKernelValidSpec.pre6 enc Try.prog Try.f4 Rows.fnKernelValidRow.domain false) (Rows.fnKernelValidSpec.post enc Try.prog Try.f4 false true false false) := by
  refine returnsInHanded_of_change (C := Try.checked) rowOwn started (by kernel_rfl) Try.func4
    (ChangeSpec.witness6 (enc := enc) (C := Try.checked) false ⟨#[], #[.slice none 0 0], []⟩ 8 (by kernel_rfl) (by kernel_rfl) (by kernel_rfl) (by kernel_rfl)) ?_
  intro W base args ds gs before hval0 hW hcnd _
  have hval : ∀ (j : Nat) t v, Try.f4.params[j]? = some t → args[j]? = some v → Value.okWide Try.prog W .any base t v := hval0
  have hW' := hW
  obtain ⟨p, q, hA0, hV, rfl, hfz, hnd⟩ := hW
  have hA : DataW.TrodAll enc Try.prog W 0 (fun _ => true) true Try.f4.params.toList args.toList ds p := hA0
  rw [Try.params4] at hA hval
  obtain ⟨v0, vs0, d0, ds0, p0, q0, hargs, rfl, rfl, h0, r0⟩ := trodAll_cons hA
  obtain ⟨rfl, rfl, rfl⟩ := trodAll_nil r0
  obtain rfl : args = #[v0] := by cases args; simp_all
  obtain ⟨rfl, rfl⟩ := trodVars_none hV
  obtain ⟨acode, capcode, code, rfl, hlcode, hgcode, hrcode⟩ := open_rd_arg (encA := encU8) (good := fun x => 0 ≤ x ∧ x ≤ 255) Try.underlying36 (by kernel_rfl : Try.prog.cellsOf 5 = 1) (by omega) encU8_len openU8 (hval 0 36 v0 rfl rfl) h0
  have hkcode := trod_cap Try.underlying36 h0
  refine (fnKernelValid_any acode capcode code W hlcode hkcode hgcode hrcode).mono fun e W' ⟨b, he, hb, hE⟩ => ?_
  obtain rfl : b = true := hb.2 trivial
  subst he
  exact ⟨_, rfl, law_post (tb := 4) rowLaid hW' rfl (by kernel_rfl) Try.underlying4 (by rw [Try.params4]; exact (by decide +kernel)) rfl rfl rfl hE⟩

theorem proved : Rows.FnKernelValidSaid :=
  OpenClaim.holds_of_wide 4 Try.f4 rfl rfl rfl rfl rfl rfl rfl ⟨rfl, rfl, rfl, rfl, rfl⟩ rfl rfl rfl rfl rfl (by kernel_rfl) Try.func4 (by kernel_rfl)
    (of_decide_eq_true (by kernel_rfl)) (by unfold Func.isWrapper; first | (rw [if_pos (by decide +kernel)]; kernel_rfl) | (rw [if_neg (by decide +kernel)]; exact ⟨rfl, rfl⟩))
    (fun os started H enc _ => lifted os started H enc)
#print axioms proved
end Go.Proofs.Ytnibbldfohbfkaa.fnKernelValid
