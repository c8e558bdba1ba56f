/- Parts of one proof: each says below what it proves and on what conditions. -/
import Derived.Deep.Cut
import Derived.Test.YtnibbldfohbfkaaGreatDoorMy3
set_option linter.unusedVariables false
set_option linter.unusedSimpArgs false
/- Kernels: contracts of the laws' functions that count, copy and compare them; credentials. Condition: rows shorter than 2^63. -/
namespace Go.Proofs.YtnibbldfohbfkaaGreatDoor
open Go.RowKit
def CredOk (r a s g : Int) : Prop := inB r 0 99 = true ∧ inB a 0 99 = true ∧ inB s 0 99 = true ∧ inB g 0 255 = true
theorem l1In_is {n lo hi : Int} {b : Bool} (h : inB n lo hi = b) (w : World) : Calls Tryz.prog 68 #[.int .i64 n, .int .i64 lo, .int .i64 hi] w fun e w' => e = .returned (.bool b) ∧ w = w' := h ▸ l1In_any n lo hi w
theorem within_is {n lo hi : Int} {b : Bool} (h : inB n lo hi = b) (w : World) : Calls Tryz.prog 91 #[.int .i64 n, .int .i64 lo, .int .i64 hi] w fun e w' => e = .returned (.bool b) ∧ w = w' := h ▸ within_any n lo hi w
set_option maxHeartbeats 400000 in
theorem isUser_is {n : Int} {b : Bool} (h : inB n 0 99 = b) (w : World) : Calls Tryz.prog 102 #[.int .i64 n] w fun e w' => e = .returned (.bool b) ∧ w = w' := by
 go_enter Tryz.func102, Tryz.ntmps102
 go_wp2_with (go_at_call 91; refine (within_is h _).mono ?_; rintro e w' ⟨rfl, rfl⟩)
 go_ret
 exact ⟨rfl, rfl⟩
theorem cred_cases (r a s g : Int) : inB r 0 99 = false ∨ (inB r 0 99 = true ∧ inB a 0 99 = false) ∨ (inB r 0 99 = true ∧ inB a 0 99 = true ∧ inB s 0 99 = false) ∨ (inB r 0 99 = true ∧ inB a 0 99 = true ∧ inB s 0 99 = true ∧ inB g 0 255 = false) ∨ (inB r 0 99 = true ∧ inB a 0 99 = true ∧ inB s 0 99 = true ∧ inB g 0 255 = true) := by
 cases inB r 0 99 <;> cases inB a 0 99 <;> cases inB s 0 99 <;> cases inB g 0 255 <;> simp
set_option maxHeartbeats 4000000 in
theorem specCredValid (r a s g : Int) (w : World) : Calls Tryz.prog 65 #[.agg #[.int .i64 r, .int .i64 a, .int .i64 s, .int .i64 g]] w (RetB (CredOk r a s g) w) := by
 unfold CredOk
 rcases cred_cases r a s g with h1 | ⟨h1, h2⟩ | ⟨h1, h2, h3⟩ | ⟨h1, h2, h3, h4⟩ | ⟨h1, h2, h3, h4⟩
 all_goals
  go_enter Tryz.func65, Tryz.ntmps65
  go_wp2_with (go_at_call 68; refine (l1In_is (by assumption) _).mono ?_; rintro e w' ⟨rfl, rfl⟩)
  go_ret
  exact RetB.mk _ rfl (by simp [*]) ((Ext.refl _).alloc _)
set_option maxHeartbeats 4000000 in
theorem implCredValid (r a s g : Int) (w : World) : Calls Tryz.prog 60 #[.agg #[.int .i64 r, .int .i64 a, .int .i64 s, .int .i64 g]] w (RetB (CredOk r a s g) w) := by
 unfold CredOk
 rcases cred_cases r a s g with h1 | ⟨h1, h2⟩ | ⟨h1, h2, h3⟩ | ⟨h1, h2, h3, h4⟩ | ⟨h1, h2, h3, h4⟩
 all_goals
  go_enter Tryz.func60, Tryz.ntmps60
  go_wp2_with (first
   | (go_at_call 102; refine (isUser_is (by assumption) _).mono ?_; rintro e w' ⟨rfl, rfl⟩)
   | (go_at_call 91; refine (within_is (by assumption) _).mono ?_; rintro e w' ⟨rfl, rfl⟩))
  go_ret
  exact RetB.mk _ rfl (by simp [*]) ((Ext.refl _).alloc _)
set_option maxHeartbeats 1000000 in
theorem toCred_any (r a s g : Int) (w : World) : Calls Tryz.prog 43 #[.agg #[.int .i64 r, .int .i64 a, .int .i64 s, .int .i64 g]] w (RetV (fun v _ => v = .agg #[.int .i64 r, .int .i64 a, .int .i64 s, .int .i64 g]) w) := by
 go_enter Tryz.func43, Tryz.ntmps43
 go_wp2
 exact bodyPost_ret (v := .agg #[.int .i64 r, .int .i64 a, .int .i64 s, .int .i64 g]) (by simp [results, Tryz.results43, go_sem]) rfl (RetV.mk rfl ((((Ext.refl _).alloc _).alloc _).alloc _))
set_option maxHeartbeats 1000000 in
theorem eqCred_any (r a s g r' a' s' g' : Int) (w : World) : Calls Tryz.prog 50 #[.agg #[.int .i64 r, .int .i64 a, .int .i64 s, .int .i64 g], .agg #[.int .i64 r', .int .i64 a', .int .i64 s', .int .i64 g']] w (RetB (r = r' ∧ a = a' ∧ s = s' ∧ g = g') w) := by
 go_enter Tryz.func50, Tryz.ntmps50
 go_wp2
 all_goals
  go_ret
  refine RetB.mk _ rfl ?_ (((Ext.refl _).alloc _).alloc _)
  simp_all
set_option maxHeartbeats 2000000 in
theorem toKer_any (at_ : Option Addr) (cap : Nat) (T : List Nd) (r a s g : Int) (w : World) (hl : T.length ≤ 1048576) (hs : ∀ x ∈ T, SmN 1048576 x) (hc : RdN w at_ T) :
  Calls Tryz.prog 9 #[.agg #[.slice at_ T.length cap, .int .i64 r, .int .i64 a, .int .i64 s, .int .i64 g]] w fun e w' => ∃ a1 c1 vs, e = .returned (.agg #[.slice a1 T.length c1, .int .i64 r, .int .i64 a, .int .i64 s, .int .i64 g]) ∧ T.length ≤ c1 ∧ Sep w w' [plNd (.slice a1 T.length c1) vs T] := by
 have HS := Lib.hid hs
 clear hs
 go_enter Tryz.func9, Tryz.ntmps9
 have S := Sep.start w
 replace S : Sep w (w.alloc (.cells #[.slice at_ T.length cap, .int .i64 r, .int .i64 a, .int .i64 s, .int .i64 g] 26)) [plBox w.heap.size #[.slice at_ T.length cap, .int .i64 r, .int .i64 a, .int .i64 s, .int .i64 g] 26] := S.alloc_at (by simp) _ _
 replace S : Sep w ((w.alloc (.cells #[.slice at_ T.length cap, .int .i64 r, .int .i64 a, .int .i64 s, .int .i64 g] 26)).alloc (.cells #[.slice none 0 0, .int .i64 0, .int .i64 0, .int .i64 0, .int .i64 0] 31)) [plBox (w.heap.size + 1) #[.slice none 0 0, .int .i64 0, .int .i64 0, .int .i64 0, .int .i64 0] 31, plBox w.heap.size #[.slice at_ T.length cap, .int .i64 r, .int .i64 a, .int .i64 s, .int .i64 g] 26] := S.alloc_at (by simp) _ _
 replace S : Sep w (((w.alloc (.cells #[.slice at_ T.length cap, .int .i64 r, .int .i64 a, .int .i64 s, .int .i64 g] 26)).alloc (.cells #[.slice none 0 0, .int .i64 0, .int .i64 0, .int .i64 0, .int .i64 0] 31)).alloc (.cells #[.slice none 0 0, .int .i64 0, .int .i64 0, .int .i64 0, .int .i64 0] 31)) [plBox (w.heap.size + 2) #[.slice none 0 0, .int .i64 0, .int .i64 0, .int .i64 0, .int .i64 0] 31, plBox (w.heap.size + 1) #[.slice none 0 0, .int .i64 0, .int .i64 0, .int .i64 0, .int .i64 0] 31, plBox w.heap.size #[.slice at_ T.length cap, .int .i64 r, .int .i64 a, .int .i64 s, .int .i64 g] 26] := S.alloc_at (by simp) _ _
 go_wp2_with fail
 generalize (((w.alloc (.cells #[.slice at_ T.length cap, .int .i64 r, .int .i64 a, .int .i64 s, .int .i64 g] 26)).alloc (.cells #[.slice none 0 0, .int .i64 0, .int .i64 0, .int .i64 0, .int .i64 0] 31)).alloc (.cells #[.slice none 0 0, .int .i64 0, .int .i64 0, .int .i64 0, .int .i64 0] 31)) = w1 at *
 refine (toNdS_any at_ cap T w1 hl HS.out (hc.ext S.ext)).mono ?_
 rintro e w2 ⟨vs, rfl, U⟩
 generalize w1.heap.size = q at *
 replace S : Sep w w2 [plNd (.slice (some ⟨q, 0, none⟩) T.length T.length) vs T, plBox (w.heap.size + 2) #[.slice none 0 0, .int .i64 0, .int .i64 0, .int .i64 0, .int .i64 0] 31, plBox (w.heap.size + 1) #[.slice none 0 0, .int .i64 0, .int .i64 0, .int .i64 0, .int .i64 0] 31, plBox w.heap.size #[.slice at_ T.length cap, .int .i64 r, .int .i64 a, .int .i64 s, .int .i64 g] 26] := S.call U
 clear U
 obtain ⟨⟨obc0, obf0⟩, ⟨obc1, obf1⟩, ⟨obc2, obf2⟩, ⟨obc3, obf3⟩, ⟨obc4, obf4⟩⟩ := bx5 (S.box 1 rfl)
 obtain ⟨⟨rbc0, rbf0⟩, ⟨rbc1, rbf1⟩, ⟨rbc2, rbf2⟩, ⟨rbc3, rbf3⟩, ⟨rbc4, rbf4⟩⟩ := bx5 (S.box 2 rfl)
 obtain ⟨⟨a0c0, a0f0⟩, ⟨a0c1, a0f1⟩, ⟨a0c2, a0f2⟩, ⟨a0c3, a0f3⟩, ⟨a0c4, a0f4⟩⟩ := bx5 (S.box 3 rfl)
 go_wp2_with fail
 clear obc0 obf0 obc1 obf1 obc2 obf2 obc3 obf3 obc4 obf4 rbc0 rbf0 rbc1 rbf1 rbc2 rbf2 rbc3 rbf3 rbc4 rbf4 a0c0 a0f0 a0c1 a0f1 a0c2 a0f2 a0c3 a0f3 a0c4 a0f4
 replace S : Sep w (w2.setCell ⟨(w.heap.size + 2), 0, none⟩ (.slice (some ⟨q, 0, none⟩) T.length T.length)) [plNd (.slice (some ⟨q, 0, none⟩) T.length T.length) vs T, plBox (w.heap.size + 2) #[.slice (some ⟨q, 0, none⟩) T.length T.length, .int .i64 0, .int .i64 0, .int .i64 0, .int .i64 0] 31, plBox (w.heap.size + 1) #[.slice none 0 0, .int .i64 0, .int .i64 0, .int .i64 0, .int .i64 0] 31, plBox w.heap.size #[.slice at_ T.length cap, .int .i64 r, .int .i64 a, .int .i64 s, .int .i64 g] 26] := S.set 1 rfl 0 _
 generalize (w2.setCell ⟨(w.heap.size + 2), 0, none⟩ (.slice (some ⟨q, 0, none⟩) T.length T.length)) = w3 at *
 refine (toCred_any r a s g w3).mono ?_
 rintro e w4 ⟨v, rfl, rfl, hE⟩
 replace S := S.step hE
 clear hE
 obtain ⟨⟨obc0, obf0⟩, ⟨obc1, obf1⟩, ⟨obc2, obf2⟩, ⟨obc3, obf3⟩, ⟨obc4, obf4⟩⟩ := bx5 (S.box 1 rfl)
 obtain ⟨⟨rbc0, rbf0⟩, ⟨rbc1, rbf1⟩, ⟨rbc2, rbf2⟩, ⟨rbc3, rbf3⟩, ⟨rbc4, rbf4⟩⟩ := bx5 (S.box 2 rfl)
 obtain ⟨⟨a0c0, a0f0⟩, ⟨a0c1, a0f1⟩, ⟨a0c2, a0f2⟩, ⟨a0c3, a0f3⟩, ⟨a0c4, a0f4⟩⟩ := bx5 (S.box 3 rfl)
 go_wp2
 try simp only [Exit.inBlock, Exit.then]
 refine bodyPost_ret (v := .agg #[.slice (some ⟨q, 0, none⟩) T.length T.length, .int .i64 r, .int .i64 a, .int .i64 s, .int .i64 g]) (by simp [results, Tryz.results9, go_sem, rbc0, rbc1, rbc2, rbc3, rbc4, obc0, obc1, obc2, obc3, obc4]) rfl ?_
 replace S : Sep w (((((((((w4.setCell ⟨(w.heap.size + 2), 1, none⟩ (.int .i64 r)).setCell ⟨(w.heap.size + 2), 2, none⟩ (.int .i64 a)).setCell ⟨(w.heap.size + 2), 3, none⟩ (.int .i64 s)).setCell ⟨(w.heap.size + 2), 4, none⟩ (.int .i64 g)).setCell ⟨(w.heap.size + 1), 0, none⟩ (.slice (some ⟨q, 0, none⟩) T.length T.length)).setCell ⟨(w.heap.size + 1), 1, none⟩ (.int .i64 r)).setCell ⟨(w.heap.size + 1), 2, none⟩ (.int .i64 a)).setCell ⟨(w.heap.size + 1), 3, none⟩ (.int .i64 s)).setCell ⟨(w.heap.size + 1), 4, none⟩ (.int .i64 g)) [plNd (.slice (some ⟨q, 0, none⟩) T.length T.length) vs T] := (((((((((((S.set 1 rfl 1 _).set 1 rfl 2 _).set 1 rfl 3 _).set 1 rfl 4 _).set 2 rfl 0 _).set 2 rfl 1 _).set 2 rfl 2 _).set 2 rfl 3 _).set 2 rfl 4 _).drop 1).drop 1).drop 1
 exact ⟨_, _, vs, rfl, Nat.le_refl _, S⟩
set_option maxHeartbeats 2000000 in
theorem eqKer_any (a1 b1 : Option Addr) (c1 d1 : Nat) (T U : List Nd) (r a s g r' a' s' g' : Int) (w : World) (hl : T.length ≤ 9223372036854775807) (hm : U.length ≤ 9223372036854775807) (hlt : ∀ t ∈ T, SmN 9223372036854775807 t) (hlu : ∀ t ∈ U, SmN 9223372036854775807 t) (hc : RdN w a1 T) (hd : RdN w b1 U) :
  Calls Tryz.prog 11 #[.agg #[.slice a1 T.length c1, .int .i64 r, .int .i64 a, .int .i64 s, .int .i64 g], .agg #[.slice b1 U.length d1, .int .i64 r', .int .i64 a', .int .i64 s', .int .i64 g']] w (RetB (T = U ∧ r = r' ∧ a = a' ∧ s = s' ∧ g = g') w) := by
 have HLT := Lib.hid hlt
 have HLU := Lib.hid hlu
 clear hlt hlu
 go_enter Tryz.func11, Tryz.ntmps11
 have S := Sep.start w
 replace S : Sep w (w.alloc (.cells #[.slice a1 T.length c1, .int .i64 r, .int .i64 a, .int .i64 s, .int .i64 g] 31)) [plBox w.heap.size #[.slice a1 T.length c1, .int .i64 r, .int .i64 a, .int .i64 s, .int .i64 g] 31] := S.alloc_at (by simp) _ _
 replace S : Sep w ((w.alloc (.cells #[.slice a1 T.length c1, .int .i64 r, .int .i64 a, .int .i64 s, .int .i64 g] 31)).alloc (.cells #[.slice b1 U.length d1, .int .i64 r', .int .i64 a', .int .i64 s', .int .i64 g'] 31)) [plBox (w.heap.size + 1) #[.slice b1 U.length d1, .int .i64 r', .int .i64 a', .int .i64 s', .int .i64 g'] 31, plBox w.heap.size #[.slice a1 T.length c1, .int .i64 r, .int .i64 a, .int .i64 s, .int .i64 g] 31] := S.alloc_at (by simp) _ _
 go_wp2_with fail
 generalize ((w.alloc (.cells #[.slice a1 T.length c1, .int .i64 r, .int .i64 a, .int .i64 s, .int .i64 g] 31)).alloc (.cells #[.slice b1 U.length d1, .int .i64 r', .int .i64 a', .int .i64 s', .int .i64 g'] 31)) = w1 at *
 refine (eqNdS_any a1 b1 c1 d1 T U w1 hl hm HLT.out HLU.out (hc.ext S.ext) (hd.ext S.ext)).mono ?_
 rintro e w2 ⟨v1, rfl, hv1, hE⟩
 have Hv1 := Lib.hid hv1
 clear hv1
 replace S := S.step hE
 clear hE
 cases v1 with
 | false =>
  go_wp2
  go_ret
  exact RetB.mk false rfl (by simp only [Bool.false_eq_true, false_iff]; exact fun h => Bool.noConfusion (Hv1.out.2 h.1)) S.ext
 | true =>
  obtain ⟨⟨qc0, qf0⟩, ⟨qc1, qf1⟩, ⟨qc2, qf2⟩, ⟨qc3, qf3⟩, ⟨qc4, qf4⟩⟩ := bx5 (S.box 0 rfl)
  obtain ⟨⟨pc0, pf0⟩, ⟨pc1, pf1⟩, ⟨pc2, pf2⟩, ⟨pc3, pf3⟩, ⟨pc4, pf4⟩⟩ := bx5 (S.box 1 rfl)
  go_wp2_with fail
  refine (eqCred_any r a s g r' a' s' g' w2).mono ?_
  rintro e w3 ⟨v2, rfl, hv2, hE⟩
  have Hv2 := Lib.hid hv2
  clear hv2
  clear qc0 qf0 qc1 qf1 qc2 qf2 qc3 qf3 qc4 qf4 pc0 pf0 pc1 pf1 pc2 pf2 pc3 pf3 pc4 pf4
  replace S := S.step hE
  clear hE
  cases v2 with
  | false =>
   go_wp2
   go_ret
   exact RetB.mk false rfl (by simp only [Bool.false_eq_true, false_iff]; exact fun h => Bool.noConfusion (Hv2.out.2 h.2)) S.ext
  | true =>
   go_wp2
   go_ret
   exact RetB.mk true rfl (by simp only [true_iff]; exact ⟨Hv1.out.1 (by trivial), Hv2.out.1 (by trivial)⟩) S.ext
def rightsFor (mode cls : Int) : Int := if inB mode 0 1023 = true ∧ inB cls 0 2 = true then (if cls = 0 then mode / 64 % 8 else if cls = 1 then mode / 8 % 8 else mode % 8) else -1
def hasGroup (gs g : Int) : Bool := inB gs 0 255 && (inB g 0 7 && (gs / 2 ^ g.toNat % 2 == 1))
def classOf (r a s gs owner grp : Int) : Int := if (inB r 0 99 = true ∧ inB a 0 99 = true ∧ inB s 0 99 = true ∧ inB gs 0 255 = true) ∧ inB owner 0 99 = true ∧ inB grp 0 7 = true then (if a = owner then 0 else if hasGroup gs grp = true then 1 else 2) else -1
set_option maxHeartbeats 2000000 in
theorem specRightsFor (mode cls : Int) (w : World) : Calls Tryz.prog 142 #[.int .i64 mode, .int .i64 cls] w fun e w' => e = .returned (.int .i64 (rightsFor mode cls)) ∧ w = w' := by
 cases h1 : inB mode 0 1023 with
 | false =>
  have hr : rightsFor mode cls = -1 := by simp [rightsFor, h1]
  rw [hr]
  go_enter Tryz.func142, Tryz.ntmps142
  go_wp2_with (go_at_call 68; refine (l1In_is (by assumption) _).mono ?_; rintro e w' ⟨rfl, rfl⟩)
  go_ret
  exact ⟨rfl, rfl⟩
 | true =>
  cases h2 : inB cls 0 2 with
  | false =>
   have hr : rightsFor mode cls = -1 := by simp [rightsFor, h2]
   rw [hr]
   go_enter Tryz.func142, Tryz.ntmps142
   go_wp2_with (go_at_call 68; refine (l1In_is (by assumption) _).mono ?_; rintro e w' ⟨rfl, rfl⟩)
   go_ret
   exact ⟨rfl, rfl⟩
  | true =>
   obtain ⟨a1, a2⟩ := inB_iff.1 h2
   obtain ⟨b1, b2⟩ := inB_iff.1 h1
   rcases (show cls = 0 ∨ cls = 1 ∨ cls = 2 by omega) with rfl | rfl | rfl
   ·have HR := Lib.hid (show rightsFor mode 0 = mode / 64 % 8 by simp [rightsFor, h1, h2])
    go_enter Tryz.func142, Tryz.ntmps142
    go_wp2_with (go_at_call 68; refine (l1In_is (by assumption) _).mono ?_; rintro e w' ⟨rfl, rfl⟩)
    go_ret
    exact ⟨by rw [HR.out]; rfl, rfl⟩
   ·have HR := Lib.hid (show rightsFor mode 1 = mode / 8 % 8 by simp [rightsFor, h1, h2])
    go_enter Tryz.func142, Tryz.ntmps142
    go_wp2_with (go_at_call 68; refine (l1In_is (by assumption) _).mono ?_; rintro e w' ⟨rfl, rfl⟩)
    go_ret
    exact ⟨by rw [HR.out]; rfl, rfl⟩
   ·have HR := Lib.hid (show rightsFor mode 2 = mode % 8 by simp [rightsFor, h1, h2])
    go_enter Tryz.func142, Tryz.ntmps142
    go_wp2_with (go_at_call 68; refine (l1In_is (by assumption) _).mono ?_; rintro e w' ⟨rfl, rfl⟩)
    go_ret
    exact ⟨by rw [HR.out]; rfl, rfl⟩
set_option maxHeartbeats 2000000 in
theorem specHasGroup (gs g : Int) (w : World) : Calls Tryz.prog 160 #[.int .i64 gs, .int .i64 g] w fun e w' => e = .returned (.bool (hasGroup gs g)) ∧ w = w' := by
 cases h1 : inB gs 0 255 with
 | false =>
  have hr : hasGroup gs g = false := by simp [hasGroup, h1]
  rw [hr]
  go_enter Tryz.func160, Tryz.ntmps160
  go_wp2_with (go_at_call 68; refine (l1In_is (by assumption) _).mono ?_; rintro e w' ⟨rfl, rfl⟩)
  go_ret
  exact ⟨rfl, rfl⟩
 | true =>
  cases h2 : inB g 0 7 with
  | false =>
   have hr : hasGroup gs g = false := by simp [hasGroup, h2]
   rw [hr]
   go_enter Tryz.func160, Tryz.ntmps160
   go_wp2_with (go_at_call 68; refine (l1In_is (by assumption) _).mono ?_; rintro e w' ⟨rfl, rfl⟩)
   go_ret
   exact ⟨rfl, rfl⟩
  | true =>
   obtain ⟨a1, a2⟩ := inB_iff.1 h2
   obtain ⟨b1, b2⟩ := inB_iff.1 h1
   rcases (show g = 0 ∨ g = 1 ∨ g = 2 ∨ g = 3 ∨ g = 4 ∨ g = 5 ∨ g = 6 ∨ g = 7 by omega) with rfl | rfl | rfl | rfl | rfl | rfl | rfl | rfl
   all_goals
    have HR := Lib.hid h1
    clear h1
    go_enter Tryz.func160, Tryz.ntmps160
    go_wp2_with (go_at_call 68; refine (l1In_is (by first | exact HR.out | assumption) _).mono ?_; rintro e w' ⟨rfl, rfl⟩)
    go_ret
    refine ⟨?_, rfl⟩
    simp [hasGroup, HR.out, h2]
theorem classOf_bad {r a s gs owner grp : Int} (h : ¬ ((inB r 0 99 = true ∧ inB a 0 99 = true ∧ inB s 0 99 = true ∧ inB gs 0 255 = true) ∧ inB owner 0 99 = true ∧ inB grp 0 7 = true)) : classOf r a s gs owner grp = -1 := by rw [classOf, if_neg h]
theorem classOf_good {r a s gs owner grp : Int} (h : (inB r 0 99 = true ∧ inB a 0 99 = true ∧ inB s 0 99 = true ∧ inB gs 0 255 = true) ∧ inB owner 0 99 = true ∧ inB grp 0 7 = true) : classOf r a s gs owner grp = if a = owner then 0 else if hasGroup gs grp = true then 1 else 2 := by rw [classOf, if_pos h]
set_option maxHeartbeats 4000000 in
theorem specClassOf (r a s gs owner grp : Int) (w : World) : Calls Tryz.prog 141 #[.agg #[.int .i64 r, .int .i64 a, .int .i64 s, .int .i64 gs], .int .i64 owner, .int .i64 grp] w (RetI (classOf r a s gs owner grp) w) := by
 go_enter Tryz.func141, Tryz.ntmps141
 have S := Sep.start w
 replace S : Sep w (w.alloc (.cells #[.int .i64 r, .int .i64 a, .int .i64 s, .int .i64 gs] 29)) [plBox w.heap.size #[.int .i64 r, .int .i64 a, .int .i64 s, .int .i64 gs] 29] := S.alloc_at (by simp) _ _
 go_wp2_with fail
 generalize (w.alloc (.cells #[.int .i64 r, .int .i64 a, .int .i64 s, .int .i64 gs] 29)) = w1 at *
 refine (specCredValid r a s gs w1).mono ?_
 rintro e w2 ⟨v, rfl, hv, hE⟩
 have Hv := Lib.hid hv
 clear hv
 replace S := S.step hE
 clear hE
 obtain ⟨⟨bc0, bf0⟩, ⟨bc1, bf1⟩, ⟨bc2, bf2⟩, ⟨bc3, bf3⟩⟩ := bx4 (S.box 0 rfl)
 cases v with
 | false =>
  have HB := Lib.hid (classOf_bad (r := r) (a := a) (s := s) (gs := gs) (owner := owner) (grp := grp) (fun h => Bool.noConfusion (Hv.out.2 h.1)))
  go_wp2
  go_ret
  exact ⟨by rw [HB.out]; rfl, S.ext⟩
 | true =>
  have HC := Lib.hid (Hv.out.1 rfl)
  clear Hv
  cases h1 : inB owner 0 99 with
  | false =>
   have HB := Lib.hid (classOf_bad (r := r) (a := a) (s := s) (gs := gs) (owner := owner) (grp := grp) (fun h => Bool.noConfusion (h1.symm.trans h.2.1)))
   go_wp2_with (go_at_call 68; refine (l1In_is (by assumption) _).mono ?_; rintro e w' ⟨rfl, rfl⟩)
   go_ret
   exact ⟨by rw [HB.out]; rfl, S.ext⟩
  | true =>
   cases h2 : inB grp 0 7 with
   | false =>
    have HB := Lib.hid (classOf_bad (r := r) (a := a) (s := s) (gs := gs) (owner := owner) (grp := grp) (fun h => Bool.noConfusion (h2.symm.trans h.2.2)))
    go_wp2_with (go_at_call 68; refine (l1In_is (by assumption) _).mono ?_; rintro e w' ⟨rfl, rfl⟩)
    go_ret
    exact ⟨by rw [HB.out]; rfl, S.ext⟩
   | true =>
    have HG := Lib.hid (classOf_good (r := r) (a := a) (s := s) (gs := gs) (owner := owner) (grp := grp) ⟨HC.out, h1, h2⟩)
    by_cases h3 : a = owner
    ·have HB := Lib.hid (HG.out.trans (if_pos h3))
     subst h3
     clear HG
     go_wp2_with (go_at_call 68; refine (l1In_is (by assumption) _).mono ?_; rintro e w' ⟨rfl, rfl⟩)
     go_ret
     exact ⟨by rw [HB.out]; rfl, S.ext⟩
    ·have t3 : (a == owner) = false := by simpa using h3
     have HN := Lib.hid (HG.out.trans (if_neg h3))
     clear h3 HG
     cases h4 : hasGroup gs grp with
     | false =>
      have HB := Lib.hid (HN.out.trans (if_neg (by rw [h4]; exact Bool.false_ne_true)))
      have H4 := Lib.hid h4
      clear h4
      go_wp2_with (first
       | (go_at_call 68; refine (l1In_is (by assumption) _).mono ?_; rintro e w' ⟨rfl, rfl⟩)
       | (go_at_call 160; refine (specHasGroup gs grp _).mono ?_; rintro e w' ⟨rfl, rfl⟩; rw [H4.out]))
      go_ret
      exact ⟨by rw [HB.out]; rfl, S.ext⟩
     | true =>
      have HB := Lib.hid (HN.out.trans (if_pos h4))
      have H4 := Lib.hid h4
      clear h4
      go_wp2_with (first
       | (go_at_call 68; refine (l1In_is (by assumption) _).mono ?_; rintro e w' ⟨rfl, rfl⟩)
       | (go_at_call 160; refine (specHasGroup gs grp _).mono ?_; rintro e w' ⟨rfl, rfl⟩; rw [H4.out]))
      go_ret
      exact ⟨by rw [HB.out]; rfl, S.ext⟩
def mayDo (r a s gs owner grp mode want : Int) : Bool :=
 if classOf r a s gs owner grp < 0 ∨ inB mode 0 1023 = false ∨ inB want 0 7 = false then false
 else if a = 0 then (want.tmod 2 == 0 || (bits BinOp.or IntKind.i64 (bits BinOp.or IntKind.i64 (rightsFor mode 0) (rightsFor mode 1)) (rightsFor mode 2)).tmod 2 == 1)
 else (bits BinOp.and IntKind.i64 (rightsFor mode (classOf r a s gs owner grp)) want == want)
set_option maxHeartbeats 4000000 in
theorem specMayDo (r a s gs owner grp mode want : Int) (w : World) : Calls Tryz.prog 108 #[.agg #[.int .i64 r, .int .i64 a, .int .i64 s, .int .i64 gs], .int .i64 owner, .int .i64 grp, .int .i64 mode, .int .i64 want] w (fun e w' => e = .returned (.bool (mayDo r a s gs owner grp mode want)) ∧ Ext w w') := by
 go_enter Tryz.func108, Tryz.ntmps108
 have S := Sep.start w
 replace S : Sep w (w.alloc (.cells #[.int .i64 r, .int .i64 a, .int .i64 s, .int .i64 gs] 29)) [plBox w.heap.size #[.int .i64 r, .int .i64 a, .int .i64 s, .int .i64 gs] 29] := S.alloc_at (by simp) _ _
 go_wp2_with fail
 generalize (w.alloc (.cells #[.int .i64 r, .int .i64 a, .int .i64 s, .int .i64 gs] 29)) = w1 at *
 refine (specClassOf r a s gs owner grp w1).mono ?_
 rintro e w2 ⟨rfl, hE⟩
 replace S := S.step hE
 clear hE
 obtain ⟨⟨bc0, bf0⟩, ⟨bc1, bf1⟩, ⟨bc2, bf2⟩, ⟨bc3, bf3⟩⟩ := bx4 (S.box 0 rfl)
 have HM : Hid (mayDo r a s gs owner grp mode want = if classOf r a s gs owner grp < 0 ∨ inB mode 0 1023 = false ∨ inB want 0 7 = false then false
  else if a = 0 then (want.tmod 2 == 0 || (bits BinOp.or IntKind.i64 (bits BinOp.or IntKind.i64 (rightsFor mode 0) (rightsFor mode 1)) (rightsFor mode 2)).tmod 2 == 1)
  else (bits BinOp.and IntKind.i64 (rightsFor mode (classOf r a s gs owner grp)) want == want)) := Lib.hid rfl
 generalize classOf r a s gs owner grp = cls at *
 by_cases h0 : cls < 0
 ·have HB := Lib.hid (HM.out.trans (if_pos (.inl h0)))
  go_wp2
  go_ret
  exact ⟨by rw [HB.out]; rfl, S.ext⟩
 cases h1 : inB mode 0 1023 with
 | false =>
  have HB := Lib.hid (HM.out.trans (if_pos (.inr (.inl h1))))
  go_wp2_with (go_at_call 68; refine (l1In_is (by assumption) _).mono ?_; rintro e w' ⟨rfl, rfl⟩)
  go_ret
  exact ⟨by rw [HB.out]; rfl, S.ext⟩
 | true =>
  cases h2 : inB want 0 7 with
  | false =>
   have HB := Lib.hid (HM.out.trans (if_pos (.inr (.inr h2))))
   go_wp2_with (go_at_call 68; refine (l1In_is (by assumption) _).mono ?_; rintro e w' ⟨rfl, rfl⟩)
   go_ret
   exact ⟨by rw [HB.out]; rfl, S.ext⟩
  | true =>
   have HN := Lib.hid (HM.out.trans (if_neg (by rintro (h | h | h); exact h0 h; exact Bool.noConfusion (h1.symm.trans h); exact Bool.noConfusion (h2.symm.trans h))))
   clear HM
   by_cases ha : a = 0
   ·have HB := Lib.hid (HN.out.trans (if_pos ha))
    clear HN
    subst ha
    go_wp2_with (first
     | (go_at_call 68; refine (l1In_is (by assumption) _).mono ?_; rintro e w' ⟨rfl, rfl⟩)
     | (go_at_call 142; refine (specRightsFor _ _ _).mono ?_; rintro e w' ⟨rfl, rfl⟩))
    all_goals go_ret
    all_goals exact ⟨by rw [HB.out]; first | rfl | (rename_i hw; simp [hw]) | simp, S.ext⟩
   ·have t3 : (a == 0) = false := by simpa using ha
    have HB := Lib.hid (HN.out.trans (if_neg ha))
    clear ha HN
    go_wp2_with (first
     | (go_at_call 68; refine (l1In_is (by assumption) _).mono ?_; rintro e w' ⟨rfl, rfl⟩)
     | (go_at_call 142; refine (specRightsFor _ _ _).mono ?_; rintro e w' ⟨rfl, rfl⟩))
    all_goals go_ret
    all_goals exact ⟨by rw [HB.out]; first | rfl | (rename_i hw; simp [hw]) | simp, S.ext⟩
def NameChar (k c : Nat) : Prop := (97 ≤ c ∧ c ≤ 122) ∨ (0 < k ∧ 48 ≤ c ∧ c ≤ 57)
def NameOk (s : ByteArray) : Prop := (∀ k, (h : k < s.size) → NameChar k s[k].toNat) ∧ 1 ≤ s.size ∧ s.size ≤ 8
set_option maxHeartbeats 1000000 in
theorem implNameValid (s : ByteArray) (w : World) (hs : s.size ≤ 9223372036854775807) : Calls Tryz.prog 61 #[.string s] w (RetB (NameOk s) w) := by
  go_enter Tryz.func61, Tryz.ntmps61
  go_wp2
  go_loopw [3, 6] (fun _ i wr => ∃ k : Nat, k ≤ s.size ∧ i = .int .i64 k ∧ (∀ j, (h : j < s.size) → j < k → NameChar j s[j].toNat) ∧ Ext w wr) (fun _ i _ => s.size - (intOf i).toNat)
  case atStart => exact ⟨0, Nat.zero_le _, rfl, fun _ _ h => absurd h (Nat.not_lt_zero _), Ext.refl _⟩
  case round =>
    obtain ⟨k, hk, rfl, hpre, hb⟩ := hrel
    have Hpre := Lib.hid hpre
    clear hpre
    by_cases hlt : k < s.size
    · have i0 : (0 : Int) ≤ (k : Int) := by omega
      have i1 : (k : Int) < (s.size : Int) := by omega
      have Hnext : Hid (NameChar k s[k].toNat → ∀ j, (h : j < s.size) → j < k + 1 → NameChar j s[j].toNat) := Lib.hid (fun hc j hj hjk => by
        rcases Nat.lt_succ_iff_lt_or_eq.1 hjk with h' | rfl
        · exact Hpre.out j hj h'
        · exact hc)
      have Hbad : Hid (¬ NameChar k s[k].toNat → ¬ NameOk s) := Lib.hid (fun hc h => hc (h.1 k hlt))
      have Hch : Hid (NameChar k s[k].toNat ↔ ((97 ≤ (s[k].toNat : Int) ∧ (s[k].toNat : Int) ≤ 122) ∨ (0 < k ∧ 48 ≤ (s[k].toNat : Int) ∧ (s[k].toNat : Int) ≤ 57))) := Lib.hid (by unfold NameChar; omega)
      by_cases h1 : 97 ≤ (s[k].toNat : Int) <;> by_cases h2 : (s[k].toNat : Int) ≤ 122 <;> by_cases h3 : 0 < k <;> by_cases h4 : 48 ≤ (s[k].toNat : Int) <;> by_cases h5 : (s[k].toNat : Int) ≤ 57
      all_goals first
        | omega
        | (have Hc := Lib.hid (Hch.out.2 (by omega))
           clear Hch
           go_wp2
           go_roundw
           case rel => exact ⟨k + 1, by omega, by go_num, Hnext.out Hc.out, hb⟩
           case measure => simp [intOf]; omega)
        | (have Hc := Lib.hid (Hbad.out (fun h => absurd (Hch.out.1 h) (by omega)))
           clear Hch
           go_wp2
           go_ret
           exact RetB.mk false rfl (by simp [Hc.out]) hb)
    · have hall : Hid (∀ j, (h : j < s.size) → NameChar j s[j].toNat) := Lib.hid (fun j hj => Hpre.out j hj (by omega))
      go_wp2_with (go_at_call 91; refine (within_any _ _ _ _).mono ?_; rintro e w' ⟨rfl, rfl⟩)
      go_ret
      exact RetB.mk _ rfl ⟨fun h => ⟨hall.out, by have := inB_iff.1 h; omega⟩, fun h => inB_iff.2 (by have := h.2; omega)⟩ hb
theorem less_total : ∀ a b : List UInt8, (Op.bytesLess b a || b == a) = !(Op.bytesLess a b)
  | [], [] => by simp [Op.bytesLess]
  | [], y :: b => by simp [Op.bytesLess]
  | x :: a, [] => by simp [Op.bytesLess]
  | x :: a, y :: b => by
    have ih := less_total a b
    by_cases h1 : x < y
    · have h2 : ¬ y < x := UInt8.not_lt.2 (UInt8.le_of_lt h1)
      have h3 : y ≠ x := fun e => by subst e; exact absurd h1 (UInt8.lt_irrefl _)
      simp [Op.bytesLess, h1, h2, h3]
    · by_cases h2 : y < x
      · have h3 : x ≠ y := fun e => by subst e; exact absurd h2 (UInt8.lt_irrefl _)
        simp [Op.bytesLess, h1, h2, h3]
      · have h3 : x = y := UInt8.le_antisymm (UInt8.not_lt.1 h2) (UInt8.not_lt.1 h1)
        subst h3
        simpa [Op.bytesLess, UInt8.lt_irrefl] using ih
theorem less_cases (a b : List UInt8) : (Op.bytesLess a b = true ∧ Op.bytesLess b a = false ∧ (b == a) = false) ∨ (Op.bytesLess a b = false ∧ Op.bytesLess b a = true) ∨ (Op.bytesLess a b = false ∧ Op.bytesLess b a = false ∧ (b == a) = true) := by
  have h := less_total a b
  cases h1 : Op.bytesLess a b <;> cases h2 : Op.bytesLess b a <;> cases h3 : (b == a) <;> simp_all
set_option maxHeartbeats 1000000 in
theorem specNameValid (s : ByteArray) (w : World) (hs : s.size ≤ 9223372036854775807) : Calls Tryz.prog 140 #[.string s] w (RetB (NameOk s) w) := by
  go_enter Tryz.func140, Tryz.ntmps140
  go_wp2
  go_loopw [3, 4] (fun i _ wr => ∃ k : Nat, k ≤ s.size ∧ i = .int .i64 k ∧ (∀ j, (h : j < s.size) → j < k → NameChar j s[j].toNat) ∧ Ext w wr) (fun i _ _ => s.size - (intOf i).toNat)
  case atStart => exact ⟨0, Nat.zero_le _, rfl, fun _ _ h => absurd h (Nat.not_lt_zero _), Ext.refl _⟩
  case round =>
    obtain ⟨k, hk, rfl, hpre, hb⟩ := hrel
    have Hpre := Lib.hid hpre
    clear hpre
    by_cases hlt : k < s.size
    · have i0 : (0 : Int) ≤ (k : Int) := by omega
      have i1 : (k : Int) < (s.size : Int) := by omega
      have Hnext : Hid (NameChar k s[k].toNat → ∀ j, (h : j < s.size) → j < k + 1 → NameChar j s[j].toNat) := Lib.hid (fun hc j hj hjk => by
        rcases Nat.lt_succ_iff_lt_or_eq.1 hjk with h' | rfl
        · exact Hpre.out j hj h'
        · exact hc)
      have Hbad : Hid (¬ NameChar k s[k].toNat → ¬ NameOk s) := Lib.hid (fun hc h => hc (h.1 k hlt))
      have Hch : Hid (NameChar k s[k].toNat ↔ ((97 ≤ (s[k].toNat : Int) ∧ (s[k].toNat : Int) ≤ 122) ∨ (0 < k ∧ 48 ≤ (s[k].toNat : Int) ∧ (s[k].toNat : Int) ≤ 57))) := Lib.hid (by unfold NameChar; omega)
      rcases k with _ | m
      · by_cases h1 : 97 ≤ (s[0].toNat : Int) <;> by_cases h2 : (s[0].toNat : Int) ≤ 122
        all_goals first
          | (have Hc := Lib.hid (Hch.out.2 (by omega))
             clear Hch
             go_wp2
             all_goals first
               | (rename_i hq; exfalso; simp at hq; omega)
               | (go_roundw
                  case rel => exact ⟨0 + 1, by omega, by first | rfl | go_num, Hnext.out Hc.out, hb⟩
                  case measure => first | omega | (simp [intOf]; omega) | simp [intOf]))
          | (have Hc := Lib.hid (Hbad.out (fun h => absurd (Hch.out.1 h) (by omega)))
             clear Hch
             go_wp2
             all_goals first
               | (rename_i hq; exfalso; simp at hq; omega)
               | (go_ret
                  exact RetB.mk false rfl (by simp [Hc.out]) hb))
      · have tk : (((m : Int) + 1) == 0) = false := by simp; omega
        by_cases h1 : 97 ≤ (s[m + 1].toNat : Int) <;> by_cases h2 : (s[m + 1].toNat : Int) ≤ 122 <;> by_cases h4 : 48 ≤ (s[m + 1].toNat : Int) <;> by_cases h5 : (s[m + 1].toNat : Int) ≤ 57
        all_goals first
          | omega
          | (have Hc := Lib.hid (Hch.out.2 (by omega))
             clear Hch
             go_wp2
             all_goals first
               | (rename_i hq; exfalso; simp at hq; omega)
               | (go_roundw
                  case rel => exact ⟨m + 1 + 1, by omega, by go_num, Hnext.out Hc.out, hb⟩
                  case measure => first | omega | (simp [intOf]; omega) | simp [intOf]))
          | (have Hc := Lib.hid (Hbad.out (fun h => absurd (Hch.out.1 h) (by omega)))
             clear Hch
             go_wp2
             all_goals first
               | (rename_i hq; exfalso; simp at hq; omega)
               | (go_ret
                  exact RetB.mk false rfl (by simp [Hc.out]) hb))
    · have hall : Hid (∀ j, (h : j < s.size) → NameChar j s[j].toNat) := Lib.hid (fun j hj => Hpre.out j hj (by omega))
      go_wp2_with (go_at_call 68; refine (l1In_any _ _ _ _).mono ?_; rintro e w' ⟨rfl, rfl⟩)
      go_ret
      exact RetB.mk _ rfl ⟨fun h => ⟨hall.out, by have := inB_iff.1 h; omega⟩, fun h => inB_iff.2 (by have := h.2; omega)⟩ hb
def NAt (n : Nd) (many k : Nat) : Prop := (∀ s, n.N[k]? = some s → NameOk s ∧ ∀ m p, k = m + 1 → n.N[m]? = some p → Op.bytesLess p.toList s.toList = true) ∧ ∀ x, n.K[k]? = some x → inB x 1 ((many : Int) - 1) = true
structure NodeOk (n : Nd) (many : Nat) : Prop where
 own : inB n.own 0 99 = true
 grp : inB n.grp 0 7 = true
 mode : inB n.mode 0 1023 = true
 len : n.N.length = n.K.length
 file : n.fold = false → n.N.length = 0
 dir : n.fold = true → n.text.toList.isEmpty = true
 short : n.text.size ≤ 40
 at_ : ∀ k, k < n.N.length → NAt n many k
theorem isEmpty_size {s : ByteArray} : s.toList.isEmpty = true ↔ s.size = 0 := by
 rw [ByteArray.toList_eq]
 obtain ⟨⟨x⟩⟩ := s
 cases x <;> simp [ByteArray.size]
theorem head_cases (f : Bool) (o g m : Int) (s : ByteArray) (n k : Nat) : inB o 0 99 = false ∨ (inB o 0 99 = true ∧ inB g 0 7 = false) ∨ (inB o 0 99 = true ∧ inB g 0 7 = true ∧ inB m 0 1023 = false) ∨
  (inB o 0 99 = true ∧ inB g 0 7 = true ∧ inB m 0 1023 = true ∧ n ≠ k) ∨
  (inB o 0 99 = true ∧ inB g 0 7 = true ∧ inB m 0 1023 = true ∧ n = k ∧ f = false ∧ 0 < n) ∨
  (inB o 0 99 = true ∧ inB g 0 7 = true ∧ inB m 0 1023 = true ∧ n = k ∧ f = true ∧ s.toList.isEmpty = false) ∨
  (inB o 0 99 = true ∧ inB g 0 7 = true ∧ inB m 0 1023 = true ∧ n = k ∧ f = false ∧ n = 0 ∧ 40 < s.size) ∨
  (inB o 0 99 = true ∧ inB g 0 7 = true ∧ inB m 0 1023 = true ∧ n = k ∧ f = false ∧ n = 0 ∧ s.size ≤ 40) ∨
  (inB o 0 99 = true ∧ inB g 0 7 = true ∧ inB m 0 1023 = true ∧ n = k ∧ f = true ∧ s.toList.isEmpty = true) := by
 cases inB o 0 99 <;> cases inB g 0 7 <;> cases inB m 0 1023 <;> cases f <;> cases s.toList.isEmpty <;> simp <;> omega
theorem nat_next {n : Nd} {many k : Nat} (h : ∀ j, j < k → NAt n many j) (hk : NAt n many k) : ∀ j, j < k + 1 → NAt n many j := fun j hj => by
 rcases Nat.lt_succ_iff_lt_or_eq.1 hj with h' | rfl
 ·exact h j h'
 ·exact hk
theorem nat_zero {n : Nd} {many : Nat} {s : ByteArray} {x : Int} (hs : n.N[0]? = some s) (hx : n.K[0]? = some x) (h1 : NameOk s) (h2 : inB x 1 ((many : Int) - 1) = true) : NAt n many 0 :=
 ⟨fun t ht => by rw [hs] at ht; cases ht; exact ⟨h1, fun m p hm => by omega⟩, fun y hy => by rw [hx] at hy; cases hy; exact h2⟩
theorem nat_succ {n : Nd} {many m : Nat} {s p : ByteArray} {x : Int} (hs : n.N[m + 1]? = some s) (hp : n.N[m]? = some p) (hx : n.K[m + 1]? = some x) (h1 : NameOk s) (h2 : inB x 1 ((many : Int) - 1) = true) (h3 : Op.bytesLess p.toList s.toList = true) : NAt n many (m + 1) :=
 ⟨fun t ht => by
  rw [hs] at ht; cases ht
  refine ⟨h1, fun m' q hm hq => ?_⟩
  obtain rfl : m = m' := by omega
  rw [hp] at hq; cases hq
  exact h3, fun y hy => by rw [hx] at hy; cases hy; exact h2⟩
theorem nat_bad1 {n : Nd} {many k : Nat} {s : ByteArray} (hs : n.N[k]? = some s) (h : ¬ NameOk s) : ¬ NodeOk n many := fun hn => h ((hn.at_ k (List.getElem?_eq_some_iff.1 hs).1).1 s hs).1
theorem nat_bad2 {n : Nd} {many k : Nat} {s : ByteArray} {x : Int} (hs : n.N[k]? = some s) (hx : n.K[k]? = some x) (h : inB x 1 ((many : Int) - 1) = false) : ¬ NodeOk n many := fun hn => by
 have := (hn.at_ k (List.getElem?_eq_some_iff.1 hs).1).2 x hx
 rw [h] at this; cases this
theorem nat_bad3 {n : Nd} {many m : Nat} {s p : ByteArray} (hs : n.N[m + 1]? = some s) (hp : n.N[m]? = some p) (h : Op.bytesLess p.toList s.toList = false) : ¬ NodeOk n many := fun hn => by
 have := ((hn.at_ (m + 1) (List.getElem?_eq_some_iff.1 hs).1).1 s hs).2 m p rfl hp
 rw [h] at this; cases this
set_option maxRecDepth 10000 in
set_option maxHeartbeats 8000000 in
theorem specNode (x : Nd) (an ak : Option Addr) (cn ck many : Nat) (w : World) (hmany : many ≤ 1048576) (hs : SmN 1048576 x) (hn : Rd 1 encStr1 w an x.N) (hk : Rd 1 encInt1 w ak x.K) :
  Calls Tryz.prog 104 #[.agg #[.bool x.fold, .int .i64 x.own, .int .i64 x.grp, .int .i64 x.mode, .string x.text, .slice an x.N.length cn, .slice ak x.K.length ck], .int .i64 many] w (RetB (NodeOk x many) w) := by
 obtain ⟨f, o, g, m, s, N, K⟩ := x
 obtain ⟨hs1, hs2, hs3, hs4⟩ := hs
 dsimp only at hs1 hs2 hs3 hs4 hn hk ⊢
 have HS := Lib.hid hs3
 clear hs3
 rcases head_cases f o g m s N.length K.length with h1 | ⟨h1, h2⟩ | ⟨h1, h2, h3⟩ | ⟨h1, h2, h3, h4⟩ | ⟨h1, h2, h3, h4, rfl, h6⟩ | ⟨h1, h2, h3, h4, rfl, h6⟩ | ⟨h1, h2, h3, h4, rfl, h6, h7⟩ | ⟨h1, h2, h3, h4, rfl, h6, h7⟩ | ⟨h1, h2, h3, h4, rfl, h6⟩
 ·have HB : Hid (¬ NodeOk ⟨f, o, g, m, s, N, K⟩ many) := Lib.hid (fun h => Bool.noConfusion (h1.symm.trans h.own))
  go_enter Tryz.func104, Tryz.ntmps104
  go_wp2_with (go_at_call 68; refine (l1In_is (by assumption) _).mono ?_; rintro e w' ⟨rfl, rfl⟩)
  go_ret
  exact RetB.mk false rfl (by simp [HB.out]) ((Ext.refl _).alloc _)
 ·have HB : Hid (¬ NodeOk ⟨f, o, g, m, s, N, K⟩ many) := Lib.hid (fun h => Bool.noConfusion (h2.symm.trans h.grp))
  go_enter Tryz.func104, Tryz.ntmps104
  go_wp2_with (go_at_call 68; refine (l1In_is (by assumption) _).mono ?_; rintro e w' ⟨rfl, rfl⟩)
  go_ret
  exact RetB.mk false rfl (by simp [HB.out]) ((Ext.refl _).alloc _)
 ·have HB : Hid (¬ NodeOk ⟨f, o, g, m, s, N, K⟩ many) := Lib.hid (fun h => Bool.noConfusion (h3.symm.trans h.mode))
  go_enter Tryz.func104, Tryz.ntmps104
  go_wp2_with (go_at_call 68; refine (l1In_is (by assumption) _).mono ?_; rintro e w' ⟨rfl, rfl⟩)
  go_ret
  exact RetB.mk false rfl (by simp [HB.out]) ((Ext.refl _).alloc _)
 ·have HB : Hid (¬ NodeOk ⟨f, o, g, m, s, N, K⟩ many) := Lib.hid (fun h => h4 h.len)
  have t4 : ((N.length : Int) != (K.length : Int)) = true := by simp; omega
  clear h4
  go_enter Tryz.func104, Tryz.ntmps104
  go_wp2_with (go_at_call 68; refine (l1In_is (by assumption) _).mono ?_; rintro e w' ⟨rfl, rfl⟩)
  go_ret
  exact RetB.mk false rfl (by simp [HB.out]) ((Ext.refl _).alloc _)
 ·have HB : Hid (¬ NodeOk ⟨false, o, g, m, s, N, K⟩ many) := Lib.hid (fun h => by have := h.file rfl; simp only at this; omega)
  have t4 : ((N.length : Int) != (K.length : Int)) = false := by simp; omega
  have hne : ¬ N = [] := fun h => by rw [h] at h6; exact absurd h6 (Nat.lt_irrefl _)
  have t6 : (0 : Int) < (N.length : Int) := by omega
  clear h4 h6
  go_enter Tryz.func104, Tryz.ntmps104
  go_wp2_with (go_at_call 68; refine (l1In_is (by assumption) _).mono ?_; rintro e w' ⟨rfl, rfl⟩)
  go_ret
  exact RetB.mk false rfl (by simp [HB.out]) ((Ext.refl _).alloc _)
 ·have HB : Hid (¬ NodeOk ⟨true, o, g, m, s, N, K⟩ many) := Lib.hid (fun h => by have := h.dir rfl; simp only at this; rw [h6] at this; cases this)
  have t4 : ((N.length : Int) != (K.length : Int)) = false := by simp; omega
  clear h4
  go_enter Tryz.func104, Tryz.ntmps104
  go_wp2_with (go_at_call 68; refine (l1In_is (by assumption) _).mono ?_; rintro e w' ⟨rfl, rfl⟩)
  go_ret
  exact RetB.mk false rfl (by simp [HB.out]) ((Ext.refl _).alloc _)
 ·have HB : Hid (¬ NodeOk ⟨false, o, g, m, s, N, K⟩ many) := Lib.hid (fun h => by have := h.short; simp only at this; omega)
  obtain rfl : N = [] := List.eq_nil_of_length_eq_zero h6
  obtain rfl : K = [] := List.eq_nil_of_length_eq_zero (by rw [← h4]; rfl)
  have t7 : (40 : Int) < (s.size : Int) := by omega
  clear h4 h6 h7
  simp only [List.length_nil]
  go_enter Tryz.func104, Tryz.ntmps104
  go_wp2_with (go_at_call 68; refine (l1In_is (by assumption) _).mono ?_; rintro e w' ⟨rfl, rfl⟩)
  go_ret
  exact RetB.mk false rfl (by simp [HB.out]) ((Ext.refl _).alloc _)
 ·obtain rfl : N = [] := List.eq_nil_of_length_eq_zero h6
  obtain rfl : K = [] := List.eq_nil_of_length_eq_zero (by rw [← h4]; rfl)
  have HG : Hid (NodeOk ⟨false, o, g, m, s, [], []⟩ many) := Lib.hid ⟨h1, h2, h3, rfl, fun _ => rfl, fun h => Bool.noConfusion h, h7, fun k hk => by simp at hk⟩
  have t7 : (s.size : Int) ≤ 40 := by omega
  clear h4 h6 h7
  simp only [List.length_nil]
  go_enter Tryz.func104, Tryz.ntmps104
  have S := Sep.start w
  replace S : Sep w (w.alloc (.cells #[.bool false, .int .i64 o, .int .i64 g, .int .i64 m, .string s, .slice an 0 cn, .slice ak 0 ck] 89)) [plBox w.heap.size #[.bool false, .int .i64 o, .int .i64 g, .int .i64 m, .string s, .slice an 0 cn, .slice ak 0 ck] 89] := S.alloc_at (by simp) _ _
  go_upto_region 3 with (go_at_call 68; refine (l1In_is (by assumption) _).mono ?_; rintro e w' ⟨rfl, rfl⟩)
  generalize (w.alloc (.cells #[.bool false, .int .i64 o, .int .i64 g, .int .i64 m, .string s, .slice an 0 cn, .slice ak 0 ck] 89)) = w1 at *
  obtain ⟨⟨bc0, bf0⟩, ⟨bc1, bf1⟩, ⟨bc2, bf2⟩, ⟨bc3, bf3⟩, ⟨bc4, bf4⟩, ⟨bc5, bf5⟩, ⟨bc6, bf6⟩⟩ := bx7 (S.box 0 rfl)
  go_wp2
  go_loopw [5] (fun i wr => i = .int .i64 0 ∧ wr = w1) (fun i _ => 0)
  case atStart => exact ⟨rfl, rfl⟩
  case round =>
   obtain ⟨rfl, rfl⟩ := hrel
   go_wp2
   go_ret
   exact RetB.mk true rfl (by simp [HG.out]) S.ext
 ·have HG : Hid ((∀ k, k < N.length → NAt ⟨true, o, g, m, s, N, K⟩ many k) → NodeOk ⟨true, o, g, m, s, N, K⟩ many) := Lib.hid (fun h => ⟨h1, h2, h3, h4, fun h => Bool.noConfusion h, fun _ => h6, (by have := isEmpty_size.1 h6; show s.size ≤ 40; omega), h⟩)
  have t4 : ((N.length : Int) != (K.length : Int)) = false := by simp; omega
  have t7 : (s.size : Int) = 0 := by have := isEmpty_size.1 h6; omega
  have Hlen := Lib.hid h4
  clear h4
  go_enter Tryz.func104, Tryz.ntmps104
  have S := Sep.start w
  replace S : Sep w (w.alloc (.cells #[.bool true, .int .i64 o, .int .i64 g, .int .i64 m, .string s, .slice an N.length cn, .slice ak K.length ck] 89)) [plBox w.heap.size #[.bool true, .int .i64 o, .int .i64 g, .int .i64 m, .string s, .slice an N.length cn, .slice ak K.length ck] 89] := S.alloc_at (by simp) _ _
  go_upto_region 3 with (go_at_call 68; refine (l1In_is (by assumption) _).mono ?_; rintro e w' ⟨rfl, rfl⟩)
  generalize (w.alloc (.cells #[.bool true, .int .i64 o, .int .i64 g, .int .i64 m, .string s, .slice an N.length cn, .slice ak K.length ck] 89)) = w1 at *
  clear t4 t7 h6
  go_wp2
  go_loopw [5] (fun i wr => ∃ k : Nat, k ≤ N.length ∧ i = .int .i64 k ∧ (∀ j, j < k → NAt ⟨true, o, g, m, s, N, K⟩ many j) ∧ Sep w wr [plBox w.heap.size #[.bool true, .int .i64 o, .int .i64 g, .int .i64 m, .string s, .slice an N.length cn, .slice ak K.length ck] 89]) (fun i _ => N.length - (intOf i).toNat)
  case atStart => exact ⟨0, Nat.zero_le _, rfl, fun _ h => absurd h (Nat.not_lt_zero _), S⟩
  case round =>
   clear S
   obtain ⟨k, hkl, rfl, hpre, S⟩ := hrel
   have Hpre := Lib.hid hpre
   clear hpre
   obtain ⟨⟨bc0, bf0⟩, ⟨bc1, bf1⟩, ⟨bc2, bf2⟩, ⟨bc3, bf3⟩, ⟨bc4, bf4⟩, ⟨bc5, bf5⟩, ⟨bc6, bf6⟩⟩ := bx7 (S.box 0 rfl)
   by_cases hlt : k < N.length
   rotate_left
   ·obtain rfl : k = N.length := by omega
    have hni : ¬ (N.length : Int) < (N.length : Int) := by omega
    go_wp2
    go_ret
    exact RetB.mk true rfl (by simp [HG.out Hpre.out]) S.ext
   ·have hltk : k < K.length := by have := Hlen.out; omega
    obtain ⟨x, b1, off, hx, rfl, c0⟩ := atStr (hn.ext S.ext) hlt
    obtain ⟨y, b2, off2, hy, rfl, d0⟩ := atInt (hk.ext S.ext) hltk
    have Hx := Lib.hid hx
    have Hy := Lib.hid hy
    have Z0 := Lib.hid (HS.out x (List.mem_of_getElem? hx))
    have i0 : (k : Int) < (N.length : Int) := by omega
    have i1 : (k : Int) < (K.length : Int) := by omega
    have q0 := ExtW.cell c0
    have q1 := ExtW.cell d0
    have q5 := ExtW.cell bc5
    have q6 := ExtW.cell bc6
    have l0 := ExtW.lt c0
    have l1 := ExtW.lt d0
    have l5 := ExtW.lt bc5
    have s2 : IntKind.i64.wrap ((many : Int) - 1) = (many : Int) - 1 := IntWalk.i64_in _ (by omega)
    clear hx hy c0 d0
    go_upto_region 6 with fail
    by_cases hN : NameOk x
    rotate_left
    ·have HN := Lib.hid hN
     have Hbad := Lib.hid (nat_bad1 (n := ⟨true, o, g, m, s, N, K⟩) (many := many) Hx.out hN)
     clear hN
     (refine wp_region_quiet_ext (by kernel_rfl) (by kernel_rfl) ?_; (repeat (go_big_quiet_step ((go_at_call 140; exact Calls.at_b (T := NameOk x) false (by simp [HN.out]) (specNameValid _ _ (Nat.le_trans Z0.out (by omega))))))); refine wpQuiet_nil ?_; intro _ hw'; obtain ⟨sq, hw''⟩ := hw'; subst hw'')
     obtain ⟨w3, hw3⟩ := sq
     go_wp2
     go_ret
     exact RetB.mk false rfl (by simp [Hbad.out]) (S.ext.trans hw3)
    ·have HN := Lib.hid hN
     clear hN
     cases hI : inB y 1 ((many : Int) - 1) with
     | false =>
      have HI := Lib.hid hI
      have Hbad := Lib.hid (nat_bad2 (n := ⟨true, o, g, m, s, N, K⟩) (many := many) Hx.out Hy.out hI)
      clear hI
      (refine wp_region_quiet_ext (by kernel_rfl) (by kernel_rfl) ?_; (repeat (go_big_quiet_step ((first | (go_at_call 140; exact Calls.at_b (T := NameOk x) true (by simp [HN.out]) (specNameValid _ _ (Nat.le_trans Z0.out (by omega)))) | (go_at_call 68; exact Calls.at_same (l1In_is HI.out _)))))); refine wpQuiet_nil ?_; intro _ hw'; obtain ⟨sq, hw''⟩ := hw'; subst hw'')
      obtain ⟨w3, hw3⟩ := sq
      go_wp2
      go_ret
      exact RetB.mk false rfl (by simp [Hbad.out]) (S.ext.trans hw3)
     | true =>
      have HI := Lib.hid hI
      clear hI
      rcases k with _ | j
      ·have Hnext := Lib.hid (nat_next Hpre.out (nat_zero (n := ⟨true, o, g, m, s, N, K⟩) (many := many) Hx.out Hy.out HN.out HI.out))
       simp only [Nat.add_zero] at q0 q1
       (refine wp_region_quiet_ext (by kernel_rfl) (by kernel_rfl) ?_; (repeat (go_big_quiet_step ((first | (go_at_call 140; exact Calls.at_b (T := NameOk x) true (by simp [HN.out]) (specNameValid _ _ (Nat.le_trans Z0.out (by omega)))) | (go_at_call 68; exact Calls.at_same (l1In_is HI.out _)))))); refine wpQuiet_nil ?_; intro _ hw'; obtain ⟨sq, hw''⟩ := hw'; subst hw'')
       obtain ⟨w3, hw3⟩ := sq
       have S3 := S.step hw3
       go_wp2
       go_roundw
       case rel => exact ⟨0 + 1, by omega, by first | rfl | go_num, Hnext.out, S3⟩
       case measure => first | omega | (simp [intOf]; omega) | simp [intOf]
      ·obtain ⟨p, b', off', hp, ha, e0⟩ := atStr (hn.ext S.ext) (show j < N.length by omega)
       obtain ⟨rfl, rfl⟩ : b1 = b' ∧ off = off' := by simpa using ha
       have Hp := Lib.hid hp
       have p0 := ExtW.cell e0
       have bl := ExtW.lt e0
       have s1 : IntKind.i64.wrap (j : Int) = (j : Int) := IntWalk.i64_in _ (by omega)
       have j0 : (0 : Int) ≤ (j : Int) := by omega
       have j1 : (j : Int) < (N.length : Int) := by omega
       have tk : (0 : Int) < ((j : Int) + 1) := by omega
       clear e0 hp ha
       rcases less_cases p.toList x.toList with ⟨e1, e2, e3⟩ | ⟨e1, e2⟩ | ⟨e1, e2, e3⟩
       ·have Hnext := Lib.hid (nat_next Hpre.out (nat_succ (n := ⟨true, o, g, m, s, N, K⟩) (many := many) Hx.out Hp.out Hy.out HN.out HI.out e1))
        clear e1
        (refine wp_region_quiet_ext (by kernel_rfl) (by kernel_rfl) ?_; (repeat (go_big_quiet_step ((first | (go_at_call 140; exact Calls.at_b (T := NameOk x) true (by simp [HN.out]) (specNameValid _ _ (Nat.le_trans Z0.out (by omega)))) | (go_at_call 68; exact Calls.at_same (l1In_is HI.out _)))))); refine wpQuiet_nil ?_; intro _ hw'; obtain ⟨sq, hw''⟩ := hw'; subst hw'')
        obtain ⟨w3, hw3⟩ := sq
        have S3 := S.step hw3
        go_wp2
        go_roundw
        case rel => exact ⟨j + 1 + 1, by omega, by first | rfl | go_num, Hnext.out, S3⟩
        case measure => first | omega | (simp [intOf]; omega) | simp [intOf]
       ·have Hbad := Lib.hid (nat_bad3 (n := ⟨true, o, g, m, s, N, K⟩) (many := many) Hx.out Hp.out e1)
        clear e1
        (refine wp_region_quiet_ext (by kernel_rfl) (by kernel_rfl) ?_; (repeat (go_big_quiet_step ((first | (go_at_call 140; exact Calls.at_b (T := NameOk x) true (by simp [HN.out]) (specNameValid _ _ (Nat.le_trans Z0.out (by omega)))) | (go_at_call 68; exact Calls.at_same (l1In_is HI.out _)))))); refine wpQuiet_nil ?_; intro _ hw'; obtain ⟨sq, hw''⟩ := hw'; subst hw'')
        obtain ⟨w3, hw3⟩ := sq
        go_wp2
        go_ret
        exact RetB.mk false rfl (by simp [Hbad.out]) (S.ext.trans hw3)
       ·have Hbad := Lib.hid (nat_bad3 (n := ⟨true, o, g, m, s, N, K⟩) (many := many) Hx.out Hp.out e1)
        clear e1
        (refine wp_region_quiet_ext (by kernel_rfl) (by kernel_rfl) ?_; (repeat (go_big_quiet_step ((first | (go_at_call 140; exact Calls.at_b (T := NameOk x) true (by simp [HN.out]) (specNameValid _ _ (Nat.le_trans Z0.out (by omega)))) | (go_at_call 68; exact Calls.at_same (l1In_is HI.out _)))))); refine wpQuiet_nil ?_; intro _ hw'; obtain ⟨sq, hw''⟩ := hw'; subst hw'')
        obtain ⟨w3, hw3⟩ := sq
        go_wp2
        go_ret
        exact RetB.mk false rfl (by simp [Hbad.out]) (S.ext.trans hw3)
end Go.Proofs.YtnibbldfohbfkaaGreatDoor
