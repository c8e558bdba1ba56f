/- Parts of one proof: each says below what it proves and on what conditions. -/
import Derived.Test.YtnibbldfohbfkaaGreatDoorMy11
set_option linter.unusedVariables false
set_option linter.unusedSimpArgs false
/- Trees: contract of the reference's l9Take: a name taken out of a directory. Condition: rows of at most 2^20. -/
namespace Go.Proofs.YtnibbldfohbfkaaGreatDoor
open Go.RowKit
theorem era_push {α : Type} {l : List α} {p k : Nat} {y : α} (hy : l[k]? = some y) (h : k ≠ p) : (l.take k).eraseIdx p ++ [y] = (l.take (k + 1)).eraseIdx p := by
 have hk := (List.getElem?_eq_some_iff.1 hy).1
 have hl : (l.take k).length = k := by rw [List.length_take]; omega
 have e : l.take (k + 1) = l.take k ++ [y] := by rw [List.take_add_one, hy]; rfl
 by_cases h1 : p < k
 ·rw [e, List.eraseIdx_append_of_lt_length (by omega)]
 ·rw [List.eraseIdx_of_length_le (by omega), List.eraseIdx_of_length_le (by rw [List.length_take]; omega), e]
theorem era_skipT {α : Type} {l : List α} {k : Nat} {y : α} (hy : l[k]? = some y) : (l.take k).eraseIdx k = (l.take (k + 1)).eraseIdx k := by
 have hk := (List.getElem?_eq_some_iff.1 hy).1
 have hl : (l.take k).length = k := by rw [List.length_take]; omega
 have e : l.take (k + 1) = l.take k ++ [y] := by rw [List.take_add_one, hy]; rfl
 rw [List.eraseIdx_of_length_le (by omega), e, List.eraseIdx_append_of_length_le (by omega), hl, Nat.sub_self]
 simp
theorem era_lenT {α : Type} {l : List α} {p k : Nat} : ((l.take k).eraseIdx p).length ≤ l.length := Nat.le_trans (List.eraseIdx_sublist ..).length_le (by rw [List.length_take]; omega)
def VTkN (w : World) (B5 B2 : Nat) (u : Value) (b1 off nn cn k : Nat) (y : ByteArray) (L : List ByteArray) (RL : List Pl) (base : Nat) : Nat → Value → World → Prop := fun i v wv => match i with
 | 0 => v = .pointer (some ⟨B5, 5, none⟩)
 | 1 => v = u
 | 2 => v = .pointer (some ⟨B2, 5, none⟩)
 | 3 => v = .slice (some ⟨b1, off, none⟩) nn cn
 | 4 => v = .int .i64 k
 | 5 => v = .pointer (some ⟨b1, off + k, none⟩)
 | 6 => v = .string y
 | 7 => ∃ g, v = .slice (some ⟨g, 0, none⟩) 1 1 ∧ base ≤ g ∧ wv.heap[g]? = some (.cells #[.string y] 9)
 | 8 => Sep w wv (plRow 9 1 encStr1 v (L ++ [y]) :: RL)
 | 9 => v = .pointer (some ⟨B5, 5, none⟩)
 | 10 => Sep w wv (plRow 9 1 encStr1 u L :: RL)
 | _ => True
theorem VTkN.ext {w : World} {B5 B2 : Nat} {u : Value} {b1 off nn cn k : Nat} {y : ByteArray} {L : List ByteArray} {RL : List Pl} {base : Nat} (i : Nat) (v : Value) (w1 w2 : World) (h : VTkN w B5 B2 u b1 off nn cn k y L RL base i v w1) (hE : Ext w1 w2) : VTkN w B5 B2 u b1 off nn cn k y L RL base i v w2 := by
 match i with
 | 0 | 1 | 2 | 3 | 4 | 5 | 6 | 9 => exact h
 | 7 => obtain ⟨g, h1, h2, h3⟩ := h; exact ⟨g, h1, h2, heapx hE h3⟩
 | 8 => exact SepM.step (show Sep w w1 _ from h) hE
 | 10 => exact SepM.step (show Sep w w1 _ from h) hE
 | (n + 11) => trivial
def VTkK (w : World) (B5 B2 : Nat) (u : Value) (b1 off nn cn k : Nat) (y : Int) (L : List Int) (RL : List Pl) (base : Nat) : Nat → Value → World → Prop := fun i v wv => match i with
 | 0 => v = .pointer (some ⟨B5, 6, none⟩)
 | 1 => v = u
 | 2 => v = .pointer (some ⟨B2, 6, none⟩)
 | 3 => v = .slice (some ⟨b1, off, none⟩) nn cn
 | 4 => v = .int .i64 k
 | 5 => v = .pointer (some ⟨b1, off + k, none⟩)
 | 6 => v = .int .i64 y
 | 7 => ∃ g, v = .slice (some ⟨g, 0, none⟩) 1 1 ∧ base ≤ g ∧ wv.heap[g]? = some (.cells #[.int .i64 y] 3)
 | 8 => Sep w wv (plRow 3 1 encInt1 v (L ++ [y]) :: RL)
 | 9 => v = .pointer (some ⟨B5, 6, none⟩)
 | 10 => Sep w wv (plRow 3 1 encInt1 u L :: RL)
 | _ => True
theorem VTkK.ext {w : World} {B5 B2 : Nat} {u : Value} {b1 off nn cn k : Nat} {y : Int} {L : List Int} {RL : List Pl} {base : Nat} (i : Nat) (v : Value) (w1 w2 : World) (h : VTkK w B5 B2 u b1 off nn cn k y L RL base i v w1) (hE : Ext w1 w2) : VTkK w B5 B2 u b1 off nn cn k y L RL base i v w2 := by
 match i with
 | 0 | 1 | 2 | 3 | 4 | 5 | 6 | 9 => exact h
 | 7 => obtain ⟨g, h1, h2, h3⟩ := h; exact ⟨g, h1, h2, heapx hE h3⟩
 | 8 => exact SepM.step (show Sep w w1 _ from h) hE
 | 10 => exact SepM.step (show Sep w w1 _ from h) hE
 | (n + 11) => trivial
set_option maxRecDepth 10000 in
set_option maxHeartbeats 16000000 in
theorem specTake (x : Nd) (an ak : Option Addr) (cn ck : Nat) (s : ByteArray) (w : World) (hA : Asc x.N) (hp : x.N[posOf x.N s]? = some s) (hN : x.N.length ≤ 1048576) (hlen : x.N.length = x.K.length) (hn : Rd 1 encStr1 w an x.N) (hk : Rd 1 encInt1 w ak x.K) :
  Calls Tryz.prog 72 #[ndV x an cn ak ck, .string s] w (RetNd (takeNd x s) w) := by
 obtain ⟨f, o, g, m, t, N, K⟩ := x
 dsimp only at hA hp hN hlen hn hk ⊢
 have HTk : Hid (takeNd ⟨f, o, g, m, t, N, K⟩ s = ⟨f, o, g, m, t, N.eraseIdx (posOf N s), K.eraseIdx (posOf N s)⟩) := Lib.hid rfl
 have HA := Lib.hid hA
 have HP := Lib.hid hp
 have Hlen := Lib.hid hlen
 have Hn := Lib.hid hn
 have Hk := Lib.hid hk
 obtain ⟨p, hpp⟩ : ∃ p, p = posOf N s := ⟨_, rfl⟩
 rw [← hpp] at HP HTk
 clear hA hp hlen hpp
 go_enter Tryz.func72, Tryz.ntmps72
 have S := Sep.start w
 replace S : Sep w (w.alloc (.cells #[.bool f, .int .i64 o, .int .i64 g, .int .i64 m, .string t, .slice an N.length cn, .slice ak K.length ck] 89)) [plBox w.heap.size #[.bool f, .int .i64 o, .int .i64 g, .int .i64 m, .string t, .slice an N.length cn, .slice ak K.length ck] 89] := S.alloc_at (by simp) _ _
 replace S : Sep w ((w.alloc (.cells #[.bool f, .int .i64 o, .int .i64 g, .int .i64 m, .string t, .slice an N.length cn, .slice ak K.length ck] 89)).alloc (.cells #[.bool false, .int .i64 0, .int .i64 0, .int .i64 0, .string ⟨#[]⟩, .slice none 0 0, .slice none 0 0] 89)) [plBox (w.heap.size + 1) #[.bool false, .int .i64 0, .int .i64 0, .int .i64 0, .string ⟨#[]⟩, .slice none 0 0, .slice none 0 0] 89, plBox w.heap.size #[.bool f, .int .i64 o, .int .i64 g, .int .i64 m, .string t, .slice an N.length cn, .slice ak K.length ck] 89] := S.alloc_at (by simp) _ _
 replace S : Sep w (((w.alloc (.cells #[.bool f, .int .i64 o, .int .i64 g, .int .i64 m, .string t, .slice an N.length cn, .slice ak K.length ck] 89)).alloc (.cells #[.bool false, .int .i64 0, .int .i64 0, .int .i64 0, .string ⟨#[]⟩, .slice none 0 0, .slice none 0 0] 89)).alloc (.cells #[.bool f, .int .i64 o, .int .i64 g, .int .i64 m, .string t, .slice an N.length cn, .slice ak K.length ck] 89)) [plBox (w.heap.size + 2) #[.bool f, .int .i64 o, .int .i64 g, .int .i64 m, .string t, .slice an N.length cn, .slice ak K.length ck] 89, plBox (w.heap.size + 1) #[.bool false, .int .i64 0, .int .i64 0, .int .i64 0, .string ⟨#[]⟩, .slice none 0 0, .slice none 0 0] 89, plBox w.heap.size #[.bool f, .int .i64 o, .int .i64 g, .int .i64 m, .string t, .slice an N.length cn, .slice ak K.length ck] 89] := S.alloc_at (by simp) _ _
 go_upto_region 2 with fail
 generalize (((w.alloc (.cells #[.bool f, .int .i64 o, .int .i64 g, .int .i64 m, .string t, .slice an N.length cn, .slice ak K.length ck] 89)).alloc (.cells #[.bool false, .int .i64 0, .int .i64 0, .int .i64 0, .string ⟨#[]⟩, .slice none 0 0, .slice none 0 0] 89)).alloc (.cells #[.bool f, .int .i64 o, .int .i64 g, .int .i64 m, .string t, .slice an N.length cn, .slice ak K.length ck] 89)) = w1 at *
 generalize w.heap.size + 2 = B5 at *
 generalize w.heap.size + 1 = B4 at *
 generalize w.heap.size = B2 at *
 replace S : Sep w (w1.alloc (.cells #[] 9)) [plRow 9 1 encStr1 (.slice (some ⟨w1.heap.size, 0, none⟩) 0 0) [], plBox B5 #[.bool f, .int .i64 o, .int .i64 g, .int .i64 m, .string t, .slice an N.length cn, .slice ak K.length ck] 89, plBox B4 #[.bool false, .int .i64 0, .int .i64 0, .int .i64 0, .string ⟨#[]⟩, .slice none 0 0, .slice none 0 0] 89, plBox B2 #[.bool f, .int .i64 o, .int .i64 g, .int .i64 m, .string t, .slice an N.length cn, .slice ak K.length ck] 89] := S.lit0 (by simp) _ _ _
 obtain ⟨⟨b5c0, b5f0⟩, ⟨b5c1, b5f1⟩, ⟨b5c2, b5f2⟩, ⟨b5c3, b5f3⟩, ⟨b5c4, b5f4⟩, ⟨b5c5, b5f5⟩, ⟨b5c6, b5f6⟩⟩ := bx7 (S.box 1 rfl)
 go_upto_region 3 with fail
 clear b5c0 b5f0 b5c1 b5f1 b5c2 b5f2 b5c3 b5f3 b5c4 b5f4 b5c5 b5f5 b5c6 b5f6
 replace S : Sep w ((w1.alloc (.cells #[] 9)).setCell ⟨B5, 5, none⟩ (.slice (some ⟨w1.heap.size, 0, none⟩) 0 0)) [plRow 9 1 encStr1 (.slice (some ⟨w1.heap.size, 0, none⟩) 0 0) [], plBox B5 #[.bool f, .int .i64 o, .int .i64 g, .int .i64 m, .string t, .slice (some ⟨w1.heap.size, 0, none⟩) 0 0, .slice ak K.length ck] 89, plBox B4 #[.bool false, .int .i64 0, .int .i64 0, .int .i64 0, .string ⟨#[]⟩, .slice none 0 0, .slice none 0 0] 89, plBox B2 #[.bool f, .int .i64 o, .int .i64 g, .int .i64 m, .string t, .slice an N.length cn, .slice ak K.length ck] 89] := S.set 1 rfl 5 _
 obtain ⟨w2, hw2⟩ : ∃ w2, w2 = ((w1.alloc (.cells #[] 9)).setCell ⟨B5, 5, none⟩ (.slice (some ⟨w1.heap.size, 0, none⟩) 0 0)) := ⟨_, rfl⟩
 rw [← hw2] at S ⊢
 clear hw2
 generalize w1.heap.size = gN at *
 have S : Sep w w2 [plRow 9 1 encStr1 (.slice (some ⟨gN, 0, none⟩) 0 0) [], plBox B5 #[.bool f, .int .i64 o, .int .i64 g, .int .i64 m, .string t, .slice (some ⟨gN, 0, none⟩) 0 0, .slice ak K.length ck] 89, plBox B4 #[.bool false, .int .i64 0, .int .i64 0, .int .i64 0, .string ⟨#[]⟩, .slice none 0 0, .slice none 0 0] 89, plBox B2 #[.bool f, .int .i64 o, .int .i64 g, .int .i64 m, .string t, .slice an N.length cn, .slice ak K.length ck] 89] := S
 replace S : Sep w (w2.alloc (.cells #[] 3)) [plRow 3 1 encInt1 (.slice (some ⟨w2.heap.size, 0, none⟩) 0 0) [], plRow 9 1 encStr1 (.slice (some ⟨gN, 0, none⟩) 0 0) [], plBox B5 #[.bool f, .int .i64 o, .int .i64 g, .int .i64 m, .string t, .slice (some ⟨gN, 0, none⟩) 0 0, .slice ak K.length ck] 89, plBox B4 #[.bool false, .int .i64 0, .int .i64 0, .int .i64 0, .string ⟨#[]⟩, .slice none 0 0, .slice none 0 0] 89, plBox B2 #[.bool f, .int .i64 o, .int .i64 g, .int .i64 m, .string t, .slice an N.length cn, .slice ak K.length ck] 89] := S.lit0 (by simp) _ _ _
 obtain ⟨⟨b5c0, b5f0⟩, ⟨b5c1, b5f1⟩, ⟨b5c2, b5f2⟩, ⟨b5c3, b5f3⟩, ⟨b5c4, b5f4⟩, ⟨b5c5, b5f5⟩, ⟨b5c6, b5f6⟩⟩ := bx7 (S.box 2 rfl)
 go_upto_region 4 with fail
 clear b5c0 b5f0 b5c1 b5f1 b5c2 b5f2 b5c3 b5f3 b5c4 b5f4 b5c5 b5f5 b5c6 b5f6
 replace S : Sep w ((w2.alloc (.cells #[] 3)).setCell ⟨B5, 6, none⟩ (.slice (some ⟨w2.heap.size, 0, none⟩) 0 0)) [plRow 3 1 encInt1 (.slice (some ⟨w2.heap.size, 0, none⟩) 0 0) [], plRow 9 1 encStr1 (.slice (some ⟨gN, 0, none⟩) 0 0) [], plBox B5 #[.bool f, .int .i64 o, .int .i64 g, .int .i64 m, .string t, .slice (some ⟨gN, 0, none⟩) 0 0, .slice (some ⟨w2.heap.size, 0, none⟩) 0 0] 89, plBox B4 #[.bool false, .int .i64 0, .int .i64 0, .int .i64 0, .string ⟨#[]⟩, .slice none 0 0, .slice none 0 0] 89, plBox B2 #[.bool f, .int .i64 o, .int .i64 g, .int .i64 m, .string t, .slice an N.length cn, .slice ak K.length ck] 89] := S.set 2 rfl 6 _
 generalize ((w2.alloc (.cells #[] 3)).setCell ⟨B5, 6, none⟩ (.slice (some ⟨w2.heap.size, 0, none⟩) 0 0)) = w3 at *
 generalize w2.heap.size = gK at *
 go_wp2
 go_loopw [6] (fun i wr => ∃ (k : Nat) (uN uK : Value) (LN : List ByteArray) (LK : List Int), k ≤ N.length ∧ i = .int .i64 k ∧ LN = (N.take k).eraseIdx p ∧ LK = (K.take k).eraseIdx p ∧ Sep w wr [plRow 3 1 encInt1 uK LK, plRow 9 1 encStr1 uN LN, plBox B5 #[.bool f, .int .i64 o, .int .i64 g, .int .i64 m, .string t, uN, uK] 89, plBox B4 #[.bool false, .int .i64 0, .int .i64 0, .int .i64 0, .string ⟨#[]⟩, .slice none 0 0, .slice none 0 0] 89, plBox B2 #[.bool f, .int .i64 o, .int .i64 g, .int .i64 m, .string t, .slice an N.length cn, .slice ak K.length ck] 89]) (fun i _ => N.length - (intOf i).toNat)
 case atStart => exact ⟨0, _, _, [], [], Nat.zero_le _, rfl, by simp, by simp, S⟩
 case round =>
  clear S
  obtain ⟨k, uN, uK, LN, LK, hkl, rfl, hLN, hLK, S⟩ := hrel
  have HLN := Lib.hid hLN
  have HLK := Lib.hid hLK
  clear hLN hLK
  by_cases hlt : k < N.length
  rotate_left
  ·obtain rfl : k = N.length := by omega
   have hni : ¬ (N.length : Int) < (N.length : Int) := by omega
   have eN : LN = N.eraseIdx p := by rw [HLN.out, List.take_length]
   have eK : LK = K.eraseIdx p := by rw [HLK.out, Hlen.out, List.take_length]
   have rowN := S.row 1 rfl
   have rowK := S.row 0 rfl
   obtain ⟨aN, cN, rfl, _, _, _⟩ := view_owns encStr1_len rowN
   obtain ⟨aK, cK, rfl, _, _, _⟩ := view_owns encInt1_len rowK
   have SR : Sep w wr [plRow 3 1 encInt1 (.slice aK LK.length cK) LK, plRow 9 1 encStr1 (.slice aN LN.length cN) LN, plBox B5 #[.bool f, .int .i64 o, .int .i64 g, .int .i64 m, .string t, .slice aN LN.length cN, .slice aK LK.length cK] 89, plBox B4 #[.bool false, .int .i64 0, .int .i64 0, .int .i64 0, .string ⟨#[]⟩, .slice none 0 0, .slice none 0 0] 89, plBox B2 #[.bool f, .int .i64 o, .int .i64 g, .int .i64 m, .string t, .slice an N.length cn, .slice ak K.length ck] 89] := S
   have HeN := Lib.hid eN
   have HeK := Lib.hid eK
   clear rowN rowK eN eK
   have S := SR
   clear SR
   obtain ⟨⟨b5c0, b5f0⟩, ⟨b5c1, b5f1⟩, ⟨b5c2, b5f2⟩, ⟨b5c3, b5f3⟩, ⟨b5c4, b5f4⟩, ⟨b5c5, b5f5⟩, ⟨b5c6, b5f6⟩⟩ := bx7 (S.box 2 rfl)
   obtain ⟨⟨b4c0, b4f0⟩, ⟨b4c1, b4f1⟩, ⟨b4c2, b4f2⟩, ⟨b4c3, b4f3⟩, ⟨b4c4, b4f4⟩, ⟨b4c5, b4f5⟩, ⟨b4c6, b4f6⟩⟩ := bx7 (S.box 3 rfl)
   obtain ⟨⟨b2c0, b2f0⟩, ⟨b2c1, b2f1⟩, ⟨b2c2, b2f2⟩, ⟨b2c3, b2f3⟩, ⟨b2c4, b2f4⟩, ⟨b2c5, b2f5⟩, ⟨b2c6, b2f6⟩⟩ := bx7 (S.box 4 rfl)
   go_wp2
   clear b5c0 b5f0 b5c1 b5f1 b5c2 b5f2 b5c3 b5f3 b5c4 b5f4 b5c5 b5f5 b5c6 b5f6 b4c0 b4f0 b4c1 b4f1 b4c2 b4f2 b4c3 b4f3 b4c4 b4f4 b4c5 b4f5 b4c6 b4f6 b2c0 b2f0 b2c1 b2f1 b2c2 b2f2 b2c3 b2f3 b2c4 b2f4 b2c5 b2f5 b2c6 b2f6
   replace S : Sep w (((((((wr.setCell ⟨B4, 0, none⟩ (.bool f)).setCell ⟨B4, 1, none⟩ (.int .i64 o)).setCell ⟨B4, 2, none⟩ (.int .i64 g)).setCell ⟨B4, 3, none⟩ (.int .i64 m)).setCell ⟨B4, 4, none⟩ (.string t)).setCell ⟨B4, 5, none⟩ (.slice aN LN.length cN)).setCell ⟨B4, 6, none⟩ (.slice aK LK.length cK)) [plRow 3 1 encInt1 (.slice aK LK.length cK) LK, plRow 9 1 encStr1 (.slice aN LN.length cN) LN, plBox B5 #[.bool f, .int .i64 o, .int .i64 g, .int .i64 m, .string t, .slice aN LN.length cN, .slice aK LK.length cK] 89, plBox B4 #[.bool f, .int .i64 o, .int .i64 g, .int .i64 m, .string t, .slice aN LN.length cN, .slice aK LK.length cK] 89, plBox B2 #[.bool f, .int .i64 o, .int .i64 g, .int .i64 m, .string t, .slice an N.length cn, .slice ak K.length ck] 89] := ((((((S.set 3 rfl 0 _).set 3 rfl 1 _).set 3 rfl 2 _).set 3 rfl 3 _).set 3 rfl 4 _).set 3 rfl 5 _).set 3 rfl 6 _
   generalize (((((((wr.setCell ⟨B4, 0, none⟩ (.bool f)).setCell ⟨B4, 1, none⟩ (.int .i64 o)).setCell ⟨B4, 2, none⟩ (.int .i64 g)).setCell ⟨B4, 3, none⟩ (.int .i64 m)).setCell ⟨B4, 4, none⟩ (.string t)).setCell ⟨B4, 5, none⟩ (.slice aN LN.length cN)).setCell ⟨B4, 6, none⟩ (.slice aK LK.length cK)) = wD at *
   obtain ⟨⟨b4c0, b4f0⟩, ⟨b4c1, b4f1⟩, ⟨b4c2, b4f2⟩, ⟨b4c3, b4f3⟩, ⟨b4c4, b4f4⟩, ⟨b4c5, b4f5⟩, ⟨b4c6, b4f6⟩⟩ := bx7 (S.box 3 rfl)
   refine bodyPost_ret (v := ndV ⟨f, o, g, m, t, LN, LK⟩ aN cN aK cK) (by simp [results, Tryz.results72, go_sem, b4c0, b4c1, b4c2, b4c3, b4c4, b4c5, b4c6]) rfl ?_
   rw [HTk.out, ← HeN.out, ← HeK.out]
   replace S : Sep w wD [plRow 3 1 encInt1 (.slice aK LK.length cK) LK, plRow 9 1 encStr1 (.slice aN LN.length cN) LN] := ((S.drop 2).drop 2).drop 2
   exact ⟨aN, cN, aK, cK, rfl, S⟩
  ·have hltk : k < K.length := by have := Hlen.out; omega
   obtain ⟨y, b1, off, hy, rfl, c0⟩ := atStr hn hlt
   have d0 := cell_ext S.ext c0
   have Hy := Lib.hid hy
   have i0 : (k : Int) < (N.length : Int) := by omega
   clear hy
   obtain ⟨⟨b5c0, b5f0⟩, ⟨b5c1, b5f1⟩, ⟨b5c2, b5f2⟩, ⟨b5c3, b5f3⟩, ⟨b5c4, b5f4⟩, ⟨b5c5, b5f5⟩, ⟨b5c6, b5f6⟩⟩ := bx7 (S.box 2 rfl)
   obtain ⟨⟨b4c0, b4f0⟩, ⟨b4c1, b4f1⟩, ⟨b4c2, b4f2⟩, ⟨b4c3, b4f3⟩, ⟨b4c4, b4f4⟩, ⟨b4c5, b4f5⟩, ⟨b4c6, b4f6⟩⟩ := bx7 (S.box 3 rfl)
   obtain ⟨⟨b2c0, b2f0⟩, ⟨b2c1, b2f1⟩, ⟨b2c2, b2f2⟩, ⟨b2c3, b2f3⟩, ⟨b2c4, b2f4⟩, ⟨b2c5, b2f5⟩, ⟨b2c6, b2f6⟩⟩ := bx7 (S.box 4 rfl)
   by_cases hkp : k = p
   ·subst hkp
    obtain rfl : y = s := Option.some.inj (Hy.out.symm.trans HP.out)
    have hltk2 := hltk
    obtain ⟨yk, hyk⟩ : ∃ yk, K[k]? = some yk := ⟨_, List.getElem?_eq_getElem hltk⟩
    have HNn : Hid (LN = (N.take (k + 1)).eraseIdx k) := Lib.hid (HLN.out.trans (era_skipT Hy.out))
    have HNk : Hid (LK = (K.take (k + 1)).eraseIdx k) := Lib.hid (HLK.out.trans (era_skipT hyk))
    clear hyk
    go_wp2
    clear b5c0 b5f0 b5c1 b5f1 b5c2 b5f2 b5c3 b5f3 b5c4 b5f4 b5c5 b5f5 b5c6 b5f6 b4c0 b4f0 b4c1 b4f1 b4c2 b4f2 b4c3 b4f3 b4c4 b4f4 b4c5 b4f5 b4c6 b4f6 b2c0 b2f0 b2c1 b2f1 b2c2 b2f2 b2c3 b2f3 b2c4 b2f4 b2c5 b2f5 b2c6 b2f6
    go_roundw
    case rel => exact ⟨k + 1, uN, uK, LN, LK, by omega, by go_num, HNn.out, HNk.out, S⟩
    case measure => simp [intOf]; omega
   ·have hys : y ≠ s := fun e => hkp (asc_ne HA.out (by rw [← e]; exact Hy.out) HP.out)
    have tys : (y.toList == s.toList) = false := by simpa [bytes_eq] using hys
    have HNn : Hid (LN ++ [y] = (N.take (k + 1)).eraseIdx p) := Lib.hid (by rw [HLN.out]; exact era_push Hy.out hkp)
    have hLl : LN.length ≤ 1048576 := by rw [HLN.out]; exact Nat.le_trans era_lenT hN
    have hLl2 : LK.length ≤ 1048576 := by rw [HLK.out]; exact Nat.le_trans era_lenT (by have := Hlen.out; omega)
    clear hys
    go_upto_region 8 with fail
    clear d0
    clear b5c0 b5f0 b5c1 b5f1 b5c2 b5f2 b5c3 b5f3 b5c4 b5f4 b5c5 b5f5 b5c6 b5f6 b4c0 b4f0 b4c1 b4f1 b4c2 b4f2 b4c3 b4f3 b4c4 b4f4 b4c5 b4f5 b4c6 b4f6 b2c0 b2f0 b2c1 b2f1 b2c2 b2f2 b2c3 b2f3 b2c4 b2f4 b2c5 b2f5 b2c6 b2f6
    have hy0 := c0
    replace S : Sep w wr [plRow 9 1 encStr1 uN LN, plRow 3 1 encInt1 uK LK, plBox B5 #[.bool f, .int .i64 o, .int .i64 g, .int .i64 m, .string t, uN, uK] 89, plBox B4 #[.bool false, .int .i64 0, .int .i64 0, .int .i64 0, .string ⟨#[]⟩, .slice none 0 0, .slice none 0 0] 89, plBox B2 #[.bool f, .int .i64 o, .int .i64 g, .int .i64 m, .string t, .slice (some ⟨b1, off, none⟩) N.length cn, .slice ak K.length ck] 89] := S.perm (List.Perm.swap ..)
    obtain ⟨RLx, hRLx⟩ : ∃ RLx, RLx = [plRow 3 1 encInt1 uK LK, plBox B5 #[.bool f, .int .i64 o, .int .i64 g, .int .i64 m, .string t, uN, uK] 89, plBox B4 #[.bool false, .int .i64 0, .int .i64 0, .int .i64 0, .string ⟨#[]⟩, .slice none 0 0, .slice none 0 0] 89, plBox B2 #[.bool f, .int .i64 o, .int .i64 g, .int .i64 m, .string t, .slice (some ⟨b1, off, none⟩) N.length cn, .slice ak K.length ck] 89] := ⟨_, rfl⟩
    have Sd : Sep w (World.drew wr) (plRow 9 1 encStr1 uN LN :: [plRow 3 1 encInt1 uK LK, plBox B5 #[.bool f, .int .i64 o, .int .i64 g, .int .i64 m, .string t, uN, uK] 89, plBox B4 #[.bool false, .int .i64 0, .int .i64 0, .int .i64 0, .string ⟨#[]⟩, .slice none 0 0, .slice none 0 0] 89, plBox B2 #[.bool f, .int .i64 o, .int .i64 g, .int .i64 m, .string t, .slice (some ⟨b1, off, none⟩) N.length cn, .slice ak K.length ck] 89]) := S.drew
    have hI0 : ∀ wv, (Chg (fun b => (uN : Value).ownBlock = some b) (World.drew wr)) wv → Ext w wv := fun wv hI => Chg.ext (S.ext.drew) hI (fun b hb => (S.lt (List.mem_cons_self ..) (show (plRow 9 1 encStr1 uN LN).own b from hb)).1)
    have hb5 : ∀ wv, (Chg (fun b => (uN : Value).ownBlock = some b) (World.drew wr)) wv → wv.cell? ⟨B5, 5, none⟩ = some uN := fun wv hI => cell_chg (bx (Sd.box 2 rfl) 5 rfl).1 hI (fun hb => Sd.ne (i := 0) (j := 2) rfl rfl (by decide) (show (plRow 9 1 encStr1 uN LN).own B5 from hb) rfl)
    have hb2 : ∀ wv, (Chg (fun b => (uN : Value).ownBlock = some b) (World.drew wr)) wv → wv.cell? ⟨B2, 5, none⟩ = some (.slice (some ⟨b1, off, none⟩) N.length cn) := fun wv hI => cell_chg (bx (Sd.box 4 rfl) 5 rfl).1 hI (fun hb => Sd.ne (i := 0) (j := 4) rfl rfl (by decide) (show (plRow 9 1 encStr1 uN LN).own B2 from hb) rfl)
    have hel : ∀ wv, (Chg (fun b => (uN : Value).ownBlock = some b) (World.drew wr)) wv → wv.cell? ⟨b1, off + k, none⟩ = some (.string y) := fun wv hI => cell_ext (hI0 wv hI) hy0
    rw [← hRLx] at Sd
    have HRL := Lib.hid hRLx
    clear S hRLx
    refine wp_region_t (V := VTkN w B5 B2 uN b1 off N.length cn k y LN RLx wr.heap.size) (Chg (fun b => (uN : Value).ownBlock = some b) (World.drew wr)) (fun i => if i = 7 then some 8 else if i = 10 then some 8 else none) [] 10 1 rfl (by decide) (by kernel_rfl) (by kernel_rfl) (by kernel_rfl) (by kernel_rfl) (Chg.refl _ _) (fun r hr => match r, hr with | 0, _ => Sd) ?_ ?_
    ·intro i o hi ho vz w4 hvl hE hd hrest
     have hsz : wr.heap.size ≤ w4.heap.size := hE.size
     have hE4 := hI0 w4 hE
     match vz, hvl with
     | [y0, y1, y2, y3, y4, y5, y6, y7, y8, y9], _ =>
     rcases (show i = 0 ∨ i = 1 ∨ i = 2 ∨ i = 3 ∨ i = 4 ∨ i = 5 ∨ i = 6 ∨ i = 7 ∨ i = 8 ∨ i = 9 by omega) with rfl | rfl | rfl | rfl | rfl | rfl | rfl | rfl | rfl | rfl
     all_goals
      simp only [List.getElem?_cons_zero, List.getElem?_cons_succ, Option.some.injEq] at ho
      subst ho
     ·clear hd hrest
      simp [putAll, Act.put]
      go_wp2
      exact OneC.mk (VTkN.ext) rfl rfl hE (Ext.refl _)
     ·have q0 : y0 = .pointer (some ⟨B5, 5, none⟩) := hd ⟨0, .data⟩ (by simp) rfl (by decide)
      have c0 := hb5 w4 hE
      subst q0
      clear hd hrest
      simp [putAll, Act.put]
      go_wp2
      exact OneC.mk (VTkN.ext) rfl rfl hE (Ext.refl _)
     ·clear hd hrest
      simp [putAll, Act.put]
      go_wp2
      exact OneC.mk (VTkN.ext) rfl rfl hE (Ext.refl _)
     ·have q2 : y2 = .pointer (some ⟨B2, 5, none⟩) := hd ⟨2, .data⟩ (by simp) rfl (by decide)
      have c0 := hb2 w4 hE
      subst q2
      clear hd hrest
      simp [putAll, Act.put]
      go_wp2
      exact OneC.mk (VTkN.ext) rfl rfl hE (Ext.refl _)
     ·clear hd hrest
      simp [putAll, Act.put]
      go_wp2
      exact OneC.mk (VTkN.ext) rfl rfl hE (Ext.refl _)
     ·have q3 : y3 = .slice (some ⟨b1, off, none⟩) N.length cn := hd ⟨3, .data⟩ (by simp) rfl (by decide)
      have q4 : y4 = .int .i64 k := hd ⟨4, .data⟩ (by simp) rfl (by decide)
      subst q3 q4
      clear hd hrest
      simp [putAll, Act.put]
      go_wp2
      exact OneC.mk (VTkN.ext) rfl rfl hE (Ext.refl _)
     ·have q5 : y5 = .pointer (some ⟨b1, off + k, none⟩) := hd ⟨5, .data⟩ (by simp) rfl (by decide)
      have c0 := hel w4 hE
      subst q5
      clear hd hrest
      simp [putAll, Act.put]
      go_wp2
      exact OneC.mk (VTkN.ext) rfl rfl hE (Ext.refl _)
     ·have q6 : y6 = .string y := hd ⟨6, .data⟩ (by simp) rfl (by decide)
      subst q6
      clear hd hrest
      simp [putAll, Act.put]
      go_wp2
      exact OneC.mk (VTkN.ext) rfl ⟨_, rfl, hsz, heap_alloc_new w4 _⟩ (hE.trans (Chg.of_ext ((Ext.refl w4).alloc _))) ((Ext.refl _).alloc _)
     ·have q1 : y1 = uN := hd ⟨1, .data⟩ (by simp) rfl (by decide)
      obtain ⟨g7, q7, hb7, hg7⟩ : ∃ g, y7 = .slice (some ⟨g, 0, none⟩) 1 1 ∧ wr.heap.size ≤ g ∧ w4.heap[g]? = some (.cells #[.string y] 9) := hd ⟨7, .data⟩ (by simp) rfl (by decide)
      have S4 : Sep w w4 (plRow 9 1 encStr1 uN LN :: RLx) := hrest 0 (by omega) (.inr rfl)
      have hrow := S4.row 0 rfl
      have hrd1 : Rd 1 encStr1 w4 (some ⟨g7, 0, none⟩) [y] := rd_lit [y] encStr1_len hg7 rfl
      subst q1 q7
      clear hd hrest
      simp [putAll, Act.put]
      refine wpList_append_b rfl _ _ 39 rfl w.heap.size 9 _ 1 _ Tryz.underlying39 infoStr1 rfl (by decide) encStr1_len encStr1_one _ (LN).length LN rfl hrow rfl (some ⟨g7, 0, none⟩) 1 1 [y] rfl rfl hrd1 (by omega) (by omega) hE4.size ?_
      intro v9 w9 ho9 hgr hblk
      have S6 : Sep w w9 (plRow 9 1 encStr1 v9 (LN ++ [y]) :: RLx) := S4.grow 0 rfl hgr ho9 hblk
      have hch := Chg.of_grown hgr
      clear ho9 hblk hrow hrd1 S4 hgr
      go_wp2
      refine ⟨rfl, _, rfl, S6, hE.trans hch, fun j u hj hne hcon hnd hnc hv => ?_⟩
      match j with
      | 0 | 1 | 2 | 3 | 4 | 5 | 6 | 9 => exact hv
      | 7 => exact absurd rfl hcon
      | 8 => exact absurd rfl hne
      | 10 => exact absurd rfl hcon
      | (zz + 11) => trivial
     ·clear hd hrest
      simp [putAll, Act.put]
      go_wp2
      exact OneC.mk (VTkN.ext) rfl rfl hE (Ext.refl _)
    ·intro vz wE hvl hE hV _
     match vz, hvl with
     | [y0, y1, y2, y3, y4, y5, y6, y7, y8, y9], _ =>
     have q9 : y9 = .pointer (some ⟨B5, 5, none⟩) := hV 9 (by omega) rfl
     have S11 : Sep w wE (plRow 9 1 encStr1 y8 (LN ++ [y]) :: RLx) := hV 8 (by omega) rfl
     rw [HRL.out] at S11
     have S := S11
     clear hV hI0 hb5 hb2 hel Sd hE S11 HRL hy0
     subst q9
     simp only [putAll, Act.put, List.take_succ_cons, List.take_zero, List.drop_succ_cons, List.drop_zero]
     simp
     have rowN := S.row 0 rfl
     obtain ⟨aN, cN, hv, _, _, _⟩ := view_owns encStr1_len rowN
     clear rowN
     subst hv
     obtain ⟨LN2, hLN2⟩ : ∃ LN2, LN2 = LN ++ [y] := ⟨_, rfl⟩
     rw [← hLN2] at S HNn ⊢
     clear hLN2
     obtain ⟨⟨b5c0, b5f0⟩, ⟨b5c1, b5f1⟩, ⟨b5c2, b5f2⟩, ⟨b5c3, b5f3⟩, ⟨b5c4, b5f4⟩, ⟨b5c5, b5f5⟩, ⟨b5c6, b5f6⟩⟩ := bx7 (S.box 2 rfl)
     go_upto_region 9 with fail
     clear b5c0 b5f0 b5c1 b5f1 b5c2 b5f2 b5c3 b5f3 b5c4 b5f4 b5c5 b5f5 b5c6 b5f6
     replace S : Sep w (wE.setCell ⟨B5, 5, none⟩ (.slice aN LN2.length cN)) [plRow 9 1 encStr1 (.slice aN LN2.length cN) LN2, plRow 3 1 encInt1 uK LK, plBox B5 #[.bool f, .int .i64 o, .int .i64 g, .int .i64 m, .string t, .slice aN LN2.length cN, uK] 89, plBox B4 #[.bool false, .int .i64 0, .int .i64 0, .int .i64 0, .string ⟨#[]⟩, .slice none 0 0, .slice none 0 0] 89, plBox B2 #[.bool f, .int .i64 o, .int .i64 g, .int .i64 m, .string t, .slice (some ⟨b1, off, none⟩) N.length cn, .slice ak K.length ck] 89] := S.set 2 rfl 5 _
     generalize (wE.setCell ⟨B5, 5, none⟩ (.slice aN LN2.length cN)) = wF at *
     obtain ⟨uN2, huN2⟩ : ∃ v : Value, v = .slice aN LN2.length cN := ⟨_, rfl⟩
     rw [← huN2] at S ⊢
     clear huN2
     obtain ⟨y, b3, off3, hy, rfl, c3⟩ := atInt hk hltk
     have HNk : Hid (LK ++ [y] = (K.take (k + 1)).eraseIdx p) := Lib.hid (by rw [HLK.out]; exact era_push hy hkp)
     have hy0 := c3
     have i3 : (k : Int) < (K.length : Int) := by omega
     clear hy
     replace S : Sep w wF [plRow 3 1 encInt1 uK LK, plRow 9 1 encStr1 uN2 LN2, plBox B5 #[.bool f, .int .i64 o, .int .i64 g, .int .i64 m, .string t, uN2, uK] 89, plBox B4 #[.bool false, .int .i64 0, .int .i64 0, .int .i64 0, .string ⟨#[]⟩, .slice none 0 0, .slice none 0 0] 89, plBox B2 #[.bool f, .int .i64 o, .int .i64 g, .int .i64 m, .string t, .slice (some ⟨b1, off, none⟩) N.length cn, .slice (some ⟨b3, off3, none⟩) K.length ck] 89] := S.perm (List.Perm.swap ..)
     obtain ⟨RLx, hRLx⟩ : ∃ RLx, RLx = [plRow 9 1 encStr1 uN2 LN2, plBox B5 #[.bool f, .int .i64 o, .int .i64 g, .int .i64 m, .string t, uN2, uK] 89, plBox B4 #[.bool false, .int .i64 0, .int .i64 0, .int .i64 0, .string ⟨#[]⟩, .slice none 0 0, .slice none 0 0] 89, plBox B2 #[.bool f, .int .i64 o, .int .i64 g, .int .i64 m, .string t, .slice (some ⟨b1, off, none⟩) N.length cn, .slice (some ⟨b3, off3, none⟩) K.length ck] 89] := ⟨_, rfl⟩
     have Sd : Sep w (World.drew wF) (plRow 3 1 encInt1 uK LK :: [plRow 9 1 encStr1 uN2 LN2, plBox B5 #[.bool f, .int .i64 o, .int .i64 g, .int .i64 m, .string t, uN2, uK] 89, plBox B4 #[.bool false, .int .i64 0, .int .i64 0, .int .i64 0, .string ⟨#[]⟩, .slice none 0 0, .slice none 0 0] 89, plBox B2 #[.bool f, .int .i64 o, .int .i64 g, .int .i64 m, .string t, .slice (some ⟨b1, off, none⟩) N.length cn, .slice (some ⟨b3, off3, none⟩) K.length ck] 89]) := S.drew
     have hI0 : ∀ wv, (Chg (fun b => (uK : Value).ownBlock = some b) (World.drew wF)) wv → Ext w wv := fun wv hI => Chg.ext (S.ext.drew) hI (fun b hb => (S.lt (List.mem_cons_self ..) (show (plRow 3 1 encInt1 uK LK).own b from hb)).1)
     have hb5 : ∀ wv, (Chg (fun b => (uK : Value).ownBlock = some b) (World.drew wF)) wv → wv.cell? ⟨B5, 6, none⟩ = some uK := fun wv hI => cell_chg (bx (Sd.box 2 rfl) 6 rfl).1 hI (fun hb => Sd.ne (i := 0) (j := 2) rfl rfl (by decide) (show (plRow 3 1 encInt1 uK LK).own B5 from hb) rfl)
     have hb2 : ∀ wv, (Chg (fun b => (uK : Value).ownBlock = some b) (World.drew wF)) wv → wv.cell? ⟨B2, 6, none⟩ = some (.slice (some ⟨b3, off3, none⟩) K.length ck) := fun wv hI => cell_chg (bx (Sd.box 4 rfl) 6 rfl).1 hI (fun hb => Sd.ne (i := 0) (j := 4) rfl rfl (by decide) (show (plRow 3 1 encInt1 uK LK).own B2 from hb) rfl)
     have hel : ∀ wv, (Chg (fun b => (uK : Value).ownBlock = some b) (World.drew wF)) wv → wv.cell? ⟨b3, off3 + k, none⟩ = some (.int .i64 y) := fun wv hI => cell_ext (hI0 wv hI) hy0
     rw [← hRLx] at Sd
     have HRL := Lib.hid hRLx
     clear S hRLx
     refine wp_region_t (V := VTkK w B5 B2 uK b3 off3 K.length ck k y LK RLx wF.heap.size) (Chg (fun b => (uK : Value).ownBlock = some b) (World.drew wF)) (fun i => if i = 7 then some 8 else if i = 10 then some 8 else none) [] 10 1 rfl (by decide) (by kernel_rfl) (by kernel_rfl) (by kernel_rfl) (by kernel_rfl) (Chg.refl _ _) (fun r hr => match r, hr with | 0, _ => Sd) ?_ ?_
     ·intro i o hi ho vz w4 hvl hE hd hrest
      have hsz : wF.heap.size ≤ w4.heap.size := hE.size
      have hE4 := hI0 w4 hE
      match vz, hvl with
      | [y0, y1, y2, y3, y4, y5, y6, y7, y8, y9], _ =>
      rcases (show i = 0 ∨ i = 1 ∨ i = 2 ∨ i = 3 ∨ i = 4 ∨ i = 5 ∨ i = 6 ∨ i = 7 ∨ i = 8 ∨ i = 9 by omega) with rfl | rfl | rfl | rfl | rfl | rfl | rfl | rfl | rfl | rfl
      all_goals
       simp only [List.getElem?_cons_zero, List.getElem?_cons_succ, Option.some.injEq] at ho
       subst ho
      ·clear hd hrest
       simp [putAll, Act.put]
       go_wp2
       exact OneC.mk (VTkK.ext) rfl rfl hE (Ext.refl _)
      ·have q0 : y0 = .pointer (some ⟨B5, 6, none⟩) := hd ⟨0, .data⟩ (by simp) rfl (by decide)
       have c0 := hb5 w4 hE
       subst q0
       clear hd hrest
       simp [putAll, Act.put]
       go_wp2
       exact OneC.mk (VTkK.ext) rfl rfl hE (Ext.refl _)
      ·clear hd hrest
       simp [putAll, Act.put]
       go_wp2
       exact OneC.mk (VTkK.ext) rfl rfl hE (Ext.refl _)
      ·have q2 : y2 = .pointer (some ⟨B2, 6, none⟩) := hd ⟨2, .data⟩ (by simp) rfl (by decide)
       have c0 := hb2 w4 hE
       subst q2
       clear hd hrest
       simp [putAll, Act.put]
       go_wp2
       exact OneC.mk (VTkK.ext) rfl rfl hE (Ext.refl _)
      ·clear hd hrest
       simp [putAll, Act.put]
       go_wp2
       exact OneC.mk (VTkK.ext) rfl rfl hE (Ext.refl _)
      ·have q3 : y3 = .slice (some ⟨b3, off3, none⟩) K.length ck := hd ⟨3, .data⟩ (by simp) rfl (by decide)
       have q4 : y4 = .int .i64 k := hd ⟨4, .data⟩ (by simp) rfl (by decide)
       subst q3 q4
       clear hd hrest
       simp [putAll, Act.put]
       go_wp2
       exact OneC.mk (VTkK.ext) rfl rfl hE (Ext.refl _)
      ·have q5 : y5 = .pointer (some ⟨b3, off3 + k, none⟩) := hd ⟨5, .data⟩ (by simp) rfl (by decide)
       have c0 := hel w4 hE
       subst q5
       clear hd hrest
       simp [putAll, Act.put]
       go_wp2
       exact OneC.mk (VTkK.ext) rfl rfl hE (Ext.refl _)
      ·have q6 : y6 = .int .i64 y := hd ⟨6, .data⟩ (by simp) rfl (by decide)
       subst q6
       clear hd hrest
       simp [putAll, Act.put]
       go_wp2
       exact OneC.mk (VTkK.ext) rfl ⟨_, rfl, hsz, heap_alloc_new w4 _⟩ (hE.trans (Chg.of_ext ((Ext.refl w4).alloc _))) ((Ext.refl _).alloc _)
      ·have q1 : y1 = uK := hd ⟨1, .data⟩ (by simp) rfl (by decide)
       obtain ⟨g7, q7, hb7, hg7⟩ : ∃ g, y7 = .slice (some ⟨g, 0, none⟩) 1 1 ∧ wF.heap.size ≤ g ∧ w4.heap[g]? = some (.cells #[.int .i64 y] 3) := hd ⟨7, .data⟩ (by simp) rfl (by decide)
       have S4 : Sep w w4 (plRow 3 1 encInt1 uK LK :: RLx) := hrest 0 (by omega) (.inr rfl)
       have hrow := S4.row 0 rfl
       have hrd1 : Rd 1 encInt1 w4 (some ⟨g7, 0, none⟩) [y] := rd_lit [y] encInt1_len hg7 rfl
       subst q1 q7
       clear hd hrest
       simp [putAll, Act.put]
       refine wpList_append_b rfl _ _ 86 rfl w.heap.size 3 _ 1 _ Tryz.underlying86 infoInt rfl (by decide) encInt1_len encInt1_one _ (LK).length LK rfl hrow rfl (some ⟨g7, 0, none⟩) 1 1 [y] rfl rfl hrd1 (by omega) (by omega) hE4.size ?_
       intro v9 w9 ho9 hgr hblk
       have S6 : Sep w w9 (plRow 3 1 encInt1 v9 (LK ++ [y]) :: RLx) := S4.grow 0 rfl hgr ho9 hblk
       have hch := Chg.of_grown hgr
       clear ho9 hblk hrow hrd1 S4 hgr
       go_wp2
       refine ⟨rfl, _, rfl, S6, hE.trans hch, fun j u hj hne hcon hnd hnc hv => ?_⟩
       match j with
       | 0 | 1 | 2 | 3 | 4 | 5 | 6 | 9 => exact hv
       | 7 => exact absurd rfl hcon
       | 8 => exact absurd rfl hne
       | 10 => exact absurd rfl hcon
       | (zz + 11) => trivial
      ·clear hd hrest
       simp [putAll, Act.put]
       go_wp2
       exact OneC.mk (VTkK.ext) rfl rfl hE (Ext.refl _)
     ·intro vz wE hvl hE hV _
      match vz, hvl with
      | [y0, y1, y2, y3, y4, y5, y6, y7, y8, y9], _ =>
      have q9 : y9 = .pointer (some ⟨B5, 6, none⟩) := hV 9 (by omega) rfl
      have S11 : Sep w wE (plRow 3 1 encInt1 y8 (LK ++ [y]) :: RLx) := hV 8 (by omega) rfl
      rw [HRL.out] at S11
      have S := S11
      clear hV hI0 hb5 hb2 hel Sd hE S11 HRL hy0
      subst q9
      simp only [putAll, Act.put, List.take_succ_cons, List.take_zero, List.drop_succ_cons, List.drop_zero]
      simp
      have rowK := S.row 0 rfl
      obtain ⟨aK, cK, hv, _, _, _⟩ := view_owns encInt1_len rowK
      clear rowK
      subst hv
      obtain ⟨LK2, hLK2⟩ : ∃ LK2, LK2 = LK ++ [y] := ⟨_, rfl⟩
      rw [← hLK2] at S HNk ⊢
      clear hLK2
      obtain ⟨⟨b5c0, b5f0⟩, ⟨b5c1, b5f1⟩, ⟨b5c2, b5f2⟩, ⟨b5c3, b5f3⟩, ⟨b5c4, b5f4⟩, ⟨b5c5, b5f5⟩, ⟨b5c6, b5f6⟩⟩ := bx7 (S.box 2 rfl)
      go_wp2
      clear b5c0 b5f0 b5c1 b5f1 b5c2 b5f2 b5c3 b5f3 b5c4 b5f4 b5c5 b5f5 b5c6 b5f6
      replace S : Sep w (wE.setCell ⟨B5, 6, none⟩ (.slice aK LK2.length cK)) [plRow 3 1 encInt1 (.slice aK LK2.length cK) LK2, plRow 9 1 encStr1 uN2 LN2, plBox B5 #[.bool f, .int .i64 o, .int .i64 g, .int .i64 m, .string t, uN2, .slice aK LK2.length cK] 89, plBox B4 #[.bool false, .int .i64 0, .int .i64 0, .int .i64 0, .string ⟨#[]⟩, .slice none 0 0, .slice none 0 0] 89, plBox B2 #[.bool f, .int .i64 o, .int .i64 g, .int .i64 m, .string t, .slice (some ⟨b1, off, none⟩) N.length cn, .slice (some ⟨b3, off3, none⟩) K.length ck] 89] := S.set 2 rfl 6 _
      go_roundw
      case rel => exact ⟨k + 1, _, _, LN2, LK2, by omega, by go_num, HNn.out, HNk.out, S⟩
      case measure => simp [intOf]; omega
end Go.Proofs.YtnibbldfohbfkaaGreatDoor
