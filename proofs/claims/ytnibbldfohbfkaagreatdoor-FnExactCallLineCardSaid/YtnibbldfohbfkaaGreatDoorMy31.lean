/- Parts of one proof: each says below what it proves and on what conditions. -/
import Derived.Test.YtnibbldfohbfkaaGreatDoorMy30
set_option linter.unusedVariables false
set_option linter.unusedSimpArgs false
/- Nodes: contracts of the functions that mark, and of those that look whether marks still stand. Condition: rows of at most 2^20, marks of at most 10^12. -/
namespace Go.Proofs.YtnibbldfohbfkaaGreatDoor
open Go.RowKit
def marksStr (n : Nat) (c : Int) : List ByteArray := (List.range n).map fun i : Nat => markStr (c + (i : Int))
theorem marksStr_len (n : Nat) (c : Int) : (marksStr n c).length = n := by simp [marksStr]
theorem marksStr_at (n : Nat) (c : Int) (i : Nat) (h : i < n) : (marksStr n c)[i]? = some (markStr (c + (i : Int))) := by simp [marksStr, h]
def mmixStr (L : List ByteArray) (c : Int) (i : Nat) : List ByteArray := marksStr i c ++ L.drop i
theorem mmixStr_len (L : List ByteArray) (c : Int) (i : Nat) (h : i ≤ L.length) : (mmixStr L c i).length = L.length := by simp [mmixStr, marksStr_len]; omega
theorem mmixStr_zero (L : List ByteArray) (c : Int) : mmixStr L c 0 = L := by simp [mmixStr, marksStr]
theorem mmixStr_full (L : List ByteArray) (c : Int) : mmixStr L c L.length = marksStr L.length c := by simp [mmixStr]
theorem mmixStr_set (L : List ByteArray) (c : Int) (i : Nat) (h : i < L.length) : (mmixStr L c i).set i (markStr (c + (i : Int))) = mmixStr L c (i + 1) := by
 unfold mmixStr
 rw [List.set_append, if_neg (by simp [marksStr_len]), marksStr_len, Nat.sub_self, List.drop_eq_getElem_cons h, List.set_cons_zero]
 simp [marksStr, List.range_succ]
set_option maxHeartbeats 2000000 in
theorem markStrS_any (base g cap : Nat) (L : List ByteArray) (c : Int) (w : World) (hl : L.length ≤ 1048576) (h0 : 0 ≤ c) (h1 : c ≤ 1000000000000)
  (hown : w.ownsRow base 9 1 (.slice (some ⟨g, 0, none⟩) L.length cap) L.length (L.flatMap encStr1)) :
  Calls Tryz.prog 24 #[.slice (some ⟨g, 0, none⟩) L.length cap, .int .i64 c] w (RetMark (c + (L.length : Int)) (fun w' => w'.ownsRow base 9 1 (.slice (some ⟨g, 0, none⟩) L.length cap) L.length ((marksStr L.length c).flatMap encStr1)) (some g) w) := by
 go_enter Tryz.func24, Tryz.ntmps24
 go_wp2
 go_loopw [1, 5] (fun q i wr => ∃ k : Nat, k ≤ L.length ∧ i = .int .i64 k ∧ q = .int .i64 (c + (k : Int)) ∧ wr.ownsRow base 9 1 (.slice (some ⟨g, 0, none⟩) L.length cap) L.length ((mmixStr L c k).flatMap encStr1) ∧ w.grownBy wr (some g)) (fun _ i _ => L.length - (intOf i).toNat)
 case atStart => exact ⟨0, Nat.zero_le _, rfl, by simp, by rw [mmixStr_zero]; exact hown, World.grownBy.refl _ _⟩
 case round =>
  obtain ⟨k, hk, rfl, rfl, hownr, hg⟩ := hrel
  by_cases hlt : k < L.length
  ·have hkm : k < (mmixStr L c k).length := by rw [mmixStr_len _ _ _ hk]; exact hlt
   have g0 : wr.cell? ⟨g, k, none⟩ = some (.string (mmixStr L c k)[k]) := by have := owns_at encStr1_len hownr k hkm 0 _ rfl; rw [Nat.mul_one, Nat.add_zero] at this; exact this
   have f0 := hownr.frozenAt
   go_wp2_with fail
   refine (markText_any _ _ (by omega) (by omega)).mono ?_
   rintro e w0 ⟨v0, rfl, rfl, hb0⟩
   have e0 := ownsRow_ext hownr hb0
   clear f0 g0
   have g0 : w0.cell? ⟨g, k, none⟩ = some (.string (mmixStr L c k)[k]) := by have := owns_at encStr1_len e0 k hkm 0 _ rfl; rw [Nat.mul_one, Nat.add_zero] at this; exact this
   have f0 := e0.frozenAt
   go_wp2
   go_roundw
   case rel =>
    have o0 := owns_set encStr1_len e0 k 0 (.string (markStr (c + (k : Int)))) (markStr (c + (k : Int))) hkm (by omega) rfl
    rw [mmixStr_set L c k hlt, Nat.mul_one, Nat.add_zero] at o0
    exact ⟨k + 1, by omega, by go_num, by go_num, o0, grown_setCell (grown_ext hg hb0) _⟩
   case measure => simp [intOf]; omega
  ·obtain rfl : k = L.length := by omega
   go_wp2
   go_ret
   rw [mmixStr_full] at hownr
   exact RetMark.mk rfl hownr hg
set_option maxHeartbeats 1000000 in
theorem markStrS_own (base : Nat) (v : Value) (n : Nat) (L : List ByteArray) (c : Int) (w : World) (hn : n = L.length) (hl : n ≤ 1048576) (h0 : 0 ≤ c) (h1 : c ≤ 1000000000000)
  (hown : w.ownsRow base 9 1 v n (L.flatMap encStr1)) :
  Calls Tryz.prog 24 #[v, .int .i64 c] w (RetMark (c + (n : Int)) (fun w' => w'.ownsRow base 9 1 v n ((marksStr n c).flatMap encStr1)) v.ownBlock w) := by
 subst hn
 rcases hown.2 with ⟨rfl, hz⟩ | ⟨g, cap, cur, rfl, _⟩
 ·have hL : L = [] := List.eq_nil_of_length_eq_zero hz
  subst hL
  go_enter Tryz.func24, Tryz.ntmps24
  go_wp2
  refine wp_loop_rounds 1 ?_
  rw [rounds_succ]
  go_wp2
  go_ret
  exact RetMark.mk rfl hown (World.grownBy.refl _ _) (by simp)
 ·exact markStrS_any base g cap L c w hl h0 h1 hown
set_option maxHeartbeats 2000000 in
theorem heldStrS_any (a : Option Addr) (cap n : Nat) (c : Int) (w : World) (hl : n ≤ 1048576) (h0 : 0 ≤ c) (h1 : c ≤ 1000000000000) (hc : Rd 1 encStr1 w a (marksStr n c)) :
  Calls Tryz.prog 25 #[.slice a n cap, .int .i64 c] w (RetI (c + (n : Int)) w) := by
 go_enter Tryz.func25, Tryz.ntmps25
 go_wp2
 go_loopw [1, 5] (fun q i wr => ∃ k : Nat, k ≤ n ∧ i = .int .i64 k ∧ q = .int .i64 (c + (k : Int)) ∧ Ext w wr) (fun _ i _ => n - (intOf i).toNat)
 case atStart => exact ⟨0, Nat.zero_le _, rfl, by simp, Ext.refl _⟩
 case round =>
  obtain ⟨k, hk, rfl, rfl, hb⟩ := hrel
  by_cases hlt : k < n
  ·obtain ⟨x, b, off, hx, rfl, c0⟩ := atStr (hc.ext hb) (show k < (marksStr n c).length by rw [marksStr_len]; exact hlt)
   rw [marksStr_at n c k hlt] at hx
   cases hx
   go_wp2
   refine wp_region_v 6 (V := fun i v _ => match i with | 0 => v = .slice (some ⟨b, off, none⟩) n cap | 1 => v = .int .i64 k | 2 => v = .pointer (some ⟨b, off + k, none⟩) | 3 => v = .string (markStr (c + (k : Int))) | 4 => v = .int .i64 (c + (k : Int)) | 5 => v = .string (markStr (c + (k : Int))) | _ => True) rfl (by decide) (by kernel_rfl) (by kernel_rfl) (by kernel_rfl) ?_ ?_ ?_
   ·intro i v w1 w2 h _; exact h
   ·intro i o hi ho vs w2 hvl hE hd
    have cj := cell_ext hE (show (wr).drew.cell? _ = _ from c0)
    match vs, hvl with
    | [x0, x1, x2, x3, x4, x5], _ =>
    rcases (show i = 0 ∨ i = 1 ∨ i = 2 ∨ i = 3 ∨ i = 4 ∨ i = 5 by omega) with rfl | rfl | rfl | rfl | rfl | rfl
    all_goals
     simp only [List.getElem?_cons_zero, List.getElem?_cons_succ, Option.some.injEq] at ho
     subst ho
     simp [Waits, Region.binds] at hd
     simp [putAll, Act.put, hd]
     go_wp2_with (go_at_call 62; refine (markText_any _ _ (by omega) (by omega)).mono ?_; rintro e w3 ⟨v3, rfl, rfl, hb3⟩)
     first | exact ⟨rfl, _, rfl, rfl, Ext.refl _⟩ | exact ⟨rfl, _, rfl, rfl, hb3⟩
   intro vs w0 hvl hb0 hV
   match vs, hvl with
   | [x0, x1, x2, x3, x4, x5], _ =>
   have h00 := hV 0 (by omega)
   have h10 := hV 1 (by omega)
   have h20 := hV 2 (by omega)
   have h30 := hV 3 (by omega)
   have h40 := hV 4 (by omega)
   have h50 := hV 5 (by omega)
   simp at h00 h10 h20 h30 h40 h50
   subst h00 h10 h20 h30 h40 h50
   clear hV
   simp only [putAll, Act.put, List.take_succ_cons, List.take_zero, List.drop_succ_cons, List.drop_zero]
   simp
   replace hb0 : Ext wr w0 := ((Ext.refl wr).drew).trans hb0
   replace hb := hb.trans hb0
   go_wp2
   go_roundw
   case rel => exact ⟨k + 1, by omega, by go_num, by go_num, hb⟩
   case measure => simp [intOf]; omega
  ·obtain rfl : k = n := by omega
   go_wp2
   go_ret
   exact RetI.mk rfl hb
def headNd (x : Nd) (c : Int) : Nd := ⟨c % 3 == 0, c + 1, c + 2, c + 3, markStr (c + 4), x.N, x.K⟩
def markNd (x : Nd) (c : Int) : Nd := ⟨c % 3 == 0, c + 1, c + 2, c + 3, markStr (c + 4), marksStr x.N.length (c + 5), marksInt x.K.length (c + 5 + (x.N.length : Int))⟩
def marksNd : List Nd → Int → List Nd
 | [], _ => []
 | x :: r, c => markNd x c :: marksNd r (c + (cntNd x : Int))
theorem marksNd_len : ∀ (T : List Nd) (c : Int), (marksNd T c).length = T.length
 | [], _ => rfl
 | x :: r, c => by simp [marksNd, marksNd_len r]
theorem marksNd_at : ∀ (T : List Nd) (c : Int) (k : Nat) (x : Nd), T[k]? = some x → (marksNd T c)[k]? = some (markNd x (c + (sumNd (T.take k) : Int)))
 | y :: r, c, 0, x, h => by
  simp only [List.getElem?_cons_zero, Option.some.injEq] at h
  subst h
  simp [marksNd, sumNd]
 | y :: r, c, k + 1, x, h => by
  simp only [List.getElem?_cons_succ] at h
  have := marksNd_at r (c + (cntNd y : Int)) k x h
  simp only [marksNd, List.getElem?_cons_succ, this, List.take_succ_cons, sumNd]
  congr 2
  push_cast
  omega
theorem marksNd_append : ∀ (A B : List Nd) (c : Int), marksNd (A ++ B) c = marksNd A c ++ marksNd B (c + (sumNd A : Int))
 | [], B, c => by simp [marksNd, sumNd]
 | x :: A, B, c => by
  simp only [List.cons_append, marksNd, marksNd_append A, sumNd]
  congr 3
  push_cast
  omega
def mmNd (T : List Nd) (c : Int) (k : Nat) : List Nd := marksNd (T.take k) c ++ T.drop k
theorem mmNd_zero (T : List Nd) (c : Int) : mmNd T c 0 = T := by simp [mmNd, marksNd]
theorem mmNd_full (T : List Nd) (c : Int) : mmNd T c T.length = marksNd T c := by simp [mmNd]
theorem mmNd_len (T : List Nd) (c : Int) (k : Nat) (hk : k ≤ T.length) : (mmNd T c k).length = T.length := by simp [mmNd, marksNd_len]; omega
theorem mmNd_at {T : List Nd} {c : Int} {k : Nat} {x : Nd} (h : T[k]? = some x) : (mmNd T c k)[k]? = some x := by
 have hk := (List.getElem?_eq_some_iff.1 h).1
 unfold mmNd
 rw [List.getElem?_append_right (by rw [marksNd_len, List.length_take]; omega), marksNd_len, List.length_take, Nat.min_eq_left (by omega), Nat.sub_self, List.getElem?_drop, Nat.add_zero]
 exact h
theorem mmNd_set {T : List Nd} {c : Int} {k : Nat} {x : Nd} (h : T[k]? = some x) : (mmNd T c k).set k (markNd x (c + (sumNd (T.take k) : Int))) = mmNd T c (k + 1) := by
 obtain ⟨hk, rfl⟩ := List.getElem?_eq_some_iff.1 h
 unfold mmNd
 rw [List.set_append, if_neg (by rw [marksNd_len, List.length_take]; omega), marksNd_len, List.length_take, Nat.min_eq_left (by omega), Nat.sub_self, List.drop_eq_getElem_cons hk, List.set_cons_zero, List.take_succ_eq_append_getElem hk, marksNd_append, List.append_assoc]
 rfl
theorem g_set {β α : Type} {e nf : Nat} {enc : β → List Value} {P : Pin β α} {w w' : World} {u : Value} {vs : List β} {T : List α} (h : (plG e nf enc P u vs T).ok w) {k : Nat} {s s' : β} {t' : α} (hs : vs[k]? = some s)
  (hg : Chg (fun b => u.ownBlock = some b ∨ P.own s b) w w') (ho : w'.ownsRow 0 e nf u vs.length ((vs.set k s').flatMap enc)) (hok : P.ok s' t' w') (hown : ∀ b, P.own s' b → P.own s b) : (plG e nf enc P u (vs.set k s') (T.set k t')).ok w' := by
 obtain ⟨h1, h2, h3, h4, h5⟩ := h
 have hkv := (List.getElem?_eq_some_iff.1 hs).1
 have hsm := List.mem_of_getElem? hs
 refine ⟨by rw [List.length_set]; exact ho, by simp [h2], fun j s2 t2 hs2 ht2 => ?_, fun s2 hs2 b hb => ?_, fun i j s2 s3 hij hs2 hs3 b hb hb3 => ?_⟩
 ·by_cases hjk : k = j
  ·subst hjk
   rw [List.getElem?_set_self hkv] at hs2
   rw [List.getElem?_set_self (by omega)] at ht2
   cases hs2; cases ht2
   exact hok
  ·rw [List.getElem?_set_ne hjk] at hs2 ht2
   have h6 := h3 j s2 t2 hs2 ht2
   exact P.frame s2 t2 w w' h6 (fun b hb => hg.block b (P.lt s2 t2 w b h6 hb) (fun e => e.elim (fun e => h4 s2 (List.mem_of_getElem? hs2) b hb e) (fun e => h5 k j s s2 hjk hs hs2 b e hb)))
 ·rcases List.mem_or_eq_of_mem_set hs2 with hs2 | rfl
  ·exact h4 s2 hs2 b hb
  ·exact h4 s hsm b (hown b hb)
 ·by_cases hik : k = i
  ·subst hik
   rw [List.getElem?_set_self hkv] at hs2
   rw [List.getElem?_set_ne hij] at hs3
   cases hs2
   exact h5 k j s s3 hij hs hs3 b (hown b hb) hb3
  ·rw [List.getElem?_set_ne hik] at hs2
   by_cases hjk : k = j
   ·subst hjk
    rw [List.getElem?_set_self hkv] at hs3
    cases hs3
    exact h5 k i s s2 (fun e => hik e) hs hs2 b (hown b hb3) hb
   ·rw [List.getElem?_set_ne hjk] at hs3
    exact h5 i j s2 s3 hij hs2 hs3 b hb hb3
def headNc (s : Nc) (c : Int) : Nc := ⟨headNd s.n c, s.an, s.cn, s.ak, s.ck⟩
def markNc (s : Nc) (c : Int) : Nc := ⟨markNd s.n c, s.an, s.cn, s.ak, s.ck⟩
theorem markNc_enc (s : Nc) (c : Int) : encNc (markNc s c) = encNc (headNc s c) := by
 unfold encNc markNc headNc markNd headNd
 simp only [marksStr_len, marksInt_len]
theorem markNc_own {s : Nc} {c : Int} {b : Nat} (h : pinNd.own (markNc s c) b) : pinNd.own s b := by
 have e1 : (Value.slice (markNc s c).an (markNc s c).n.N.length (markNc s c).cn) = Value.slice s.an s.n.N.length s.cn := by unfold markNc markNd; simp only [marksStr_len]
 have e2 : (Value.slice (markNc s c).ak (markNc s c).n.K.length (markNc s c).ck) = Value.slice s.ak s.n.K.length s.ck := by unfold markNc markNd; simp only [marksInt_len]
 unfold pinNd at h ⊢
 dsimp only at h ⊢
 rw [e1, e2] at h
 exact h
theorem flat_set {α : Type} {enc : α → List Value} {vs : List α} {k : Nat} {s s' : α} (h : enc s' = enc s) : (vs.set k s').flatMap enc = (vs.set k s).flatMap enc := by
 induction vs generalizing k with
 | nil => rfl
 | cons v r ih =>
  cases k with
  | zero => simp [h]
  | succ k => simp [ih]
theorem mark_rows {w wA wB wC : World} {u : Value} {vs : List Nc} {T : List Nd} (h : (plNd u vs T).ok w) {k : Nat} {s : Nc} {c : Int} (hs : vs[k]? = some s)
  (hA : Chg (fun b => u.ownBlock = some b) w wA) (hoA : wA.ownsRow 0 89 7 u vs.length ((vs.set k (headNc s c)).flatMap encNc))
  (hB : wA.grownBy wB (Value.slice s.an s.n.N.length s.cn).ownBlock) (hoB : wB.ownsRow 0 9 1 (.slice s.an s.n.N.length s.cn) s.n.N.length ((marksStr s.n.N.length (c + 5)).flatMap encStr1))
  (hC : wB.grownBy wC (Value.slice s.ak s.n.K.length s.ck).ownBlock) (hoC : wC.ownsRow 0 3 1 (.slice s.ak s.n.K.length s.ck) s.n.K.length ((marksInt s.n.K.length (c + 5 + (s.n.N.length : Int))).flatMap encInt1)) :
  (plNd u (vs.set k (markNc s c)) (T.set k (markNd s.n c))).ok wC ∧ Chg (plNd u vs T).own w wC ∧ ∀ b, (plNd u (vs.set k (markNc s c)) T).own b → (plNd u vs T).own b := by
 have hk := (List.getElem?_eq_some_iff.1 hs).1
 have hsm := List.mem_of_getElem? hs
 have h4 := h.2.2.2.1 s hsm
 have hkT : k < T.length := by have := h.2.1; omega
 have h3 := h.2.2.1 k s T[k] hs (List.getElem?_eq_getElem hkT)
 have cB : Chg (fun b => pinNd.own s b) wA wB := (Chg.of_grown hB).mono (fun b hb _ => .inl hb)
 have cC : Chg (fun b => pinNd.own s b) wB wC := (Chg.of_grown hC).mono (fun b hb _ => .inr hb)
 have hall : Chg (fun b => u.ownBlock = some b ∨ pinNd.own s b) w wC := ((hA.mono (fun b hb _ => .inl hb)).trans (cB.mono (fun b hb _ => .inr hb))).trans (cC.mono (fun b hb _ => .inr hb))
 have hoU : wC.ownsRow 0 89 7 u vs.length ((vs.set k (markNc s c)).flatMap encNc) := by
  rw [flat_set (markNc_enc s c)]
  have hl : (vs.set k (headNc s c)).length = vs.length := List.length_set
  rw [← hl] at hoA ⊢
  exact (plRow 89 7 encNc u (vs.set k (headNc s c))).frame wA wC hoA (fun b hb => (cB.trans cC).block b ((plRow 89 7 encNc u (vs.set k (headNc s c))).lt wA b hoA hb) (fun e => h4 b e hb))
 have hN : wC.ownsRow 0 9 1 (.slice s.an s.n.N.length s.cn) s.n.N.length ((marksStr s.n.N.length (c + 5)).flatMap encStr1) := by
  have hl := marksStr_len s.n.N.length (c + 5)
  have hoB' : (plRow 9 1 encStr1 (.slice s.an s.n.N.length s.cn) (marksStr s.n.N.length (c + 5))).ok wB := by show wB.ownsRow 0 _ 1 _ (marksStr _ _).length _; rw [hl]; exact hoB
  have := (plRow 9 1 encStr1 (.slice s.an s.n.N.length s.cn) (marksStr s.n.N.length (c + 5))).frame wB wC hoB' (fun b hb => (Chg.of_grown hC).block b ((plRow 9 1 encStr1 (.slice s.an s.n.N.length s.cn) (marksStr s.n.N.length (c + 5))).lt wB b hoB' hb) (fun e => h3.2.2.2 b hb e))
  have h' : wC.ownsRow 0 9 1 (.slice s.an s.n.N.length s.cn) (marksStr s.n.N.length (c + 5)).length ((marksStr s.n.N.length (c + 5)).flatMap encStr1) := this
  rw [hl] at h'; exact h'
 refine ⟨g_set h hs hall hoU ?_ (fun b hb => markNc_own hb), hall.mono (fun b hb _ => hb.elim .inl (fun hb => .inr ⟨s, hsm, hb⟩)), fun b hb => hb.elim .inl (fun hb => by
  obtain ⟨s2, hs2, hb⟩ := hb
  rcases List.mem_or_eq_of_mem_set hs2 with hs2 | rfl
  ·exact .inr ⟨s2, hs2, hb⟩
  ·exact .inr ⟨s, hsm, markNc_own hb⟩)⟩
 refine ⟨rfl, ?_, ?_, ?_⟩
 ·show wC.ownsRow 0 _ 1 (.slice s.an (marksStr s.n.N.length (c + 5)).length s.cn) (marksStr s.n.N.length (c + 5)).length _
  rw [marksStr_len]; exact hN
 ·show wC.ownsRow 0 _ 1 (.slice s.ak (marksInt s.n.K.length _).length s.ck) (marksInt s.n.K.length _).length _
  rw [marksInt_len]; exact hoC
 ·intro b hb hb2
  have hb' : (Value.slice s.an (marksStr s.n.N.length (c + 5)).length s.cn).ownBlock = some b := hb
  have hb2' : (Value.slice s.ak (marksInt s.n.K.length (c + 5 + (s.n.N.length : Int))).length s.ck).ownBlock = some b := hb2
  rw [marksStr_len] at hb'
  rw [marksInt_len] at hb2'
  exact h3.2.2.2 b hb' hb2'
set_option maxRecDepth 10000 in
set_option maxHeartbeats 8000000 in
theorem markNdS_own (a : Option Addr) (cap : Nat) (vs : List Nc) (T : List Nd) (c : Int) (w : World) (hl : T.length ≤ 1048576) (hNK : ∀ x ∈ T, x.N.length ≤ 1048576 ∧ x.K.length ≤ 1048576) (hs : sumNd T ≤ 100000000) (h0 : 0 ≤ c) (h1 : c ≤ 900000000000) (hok : (plNd (.slice a T.length cap) vs T).ok w) :
  Calls Tryz.prog 51 #[.slice a T.length cap, .int .i64 c] w fun e w' => ∃ vs', e = .returned (.int .i64 (c + (sumNd T : Int))) ∧ (plNd (.slice a T.length cap) vs' (marksNd T c)).ok w' ∧ Chg (plNd (.slice a T.length cap) vs T).own w w' ∧ ∀ b, (plNd (.slice a T.length cap) vs' T).own b → (plNd (.slice a T.length cap) vs T).own b := by
 have HNK := Lib.hid hNK
 clear hNK
 go_enter Tryz.func51, Tryz.ntmps51
 go_wp2
 go_loopw [1, 5] (fun q i wr => ∃ (k : Nat) (vs' : List Nc), k ≤ T.length ∧ i = .int .i64 k ∧ q = .int .i64 (c + (sumNd (T.take k) : Int)) ∧ (plNd (.slice a T.length cap) vs' (mmNd T c k)).ok wr ∧ Chg (plNd (.slice a T.length cap) vs T).own w wr ∧ ∀ b, (plNd (.slice a T.length cap) vs' T).own b → (plNd (.slice a T.length cap) vs T).own b) (fun _ i _ => T.length - (intOf i).toNat)
 case atStart => exact ⟨0, vs, Nat.zero_le _, rfl, by simp [sumNd], by rw [mmNd_zero]; exact hok, Chg.refl _ _, fun _ h => h⟩
 case round =>
  clear hok
  obtain ⟨k, vs', hk, rfl, rfl, hok, hb, hsub⟩ := hrel
  by_cases hlk : k < T.length
  ·obtain ⟨x, hx⟩ : ∃ x, T[k]? = some x := ⟨_, List.getElem?_eq_getElem hlk⟩
   have hvl : vs'.length = T.length := by rw [plG_len hok, mmNd_len T c k hk]
   have hmap := nd_map hok
   obtain ⟨s, hsv⟩ : ∃ s, vs'[k]? = some s := ⟨_, List.getElem?_eq_getElem (by omega)⟩
   have hsn : s.n = x := by
    have h2 := mmNd_at (c := c) hx
    rw [← hmap, List.getElem?_map, hsv] at h2
    exact Option.some.inj h2
   have hrow : wr.ownsRow 0 89 7 (.slice a T.length cap) vs'.length (vs'.flatMap encNc) := hok.1
   obtain ⟨g, rfl⟩ := row_blk encNc_len hrow (by omega)
   have hcx : cntNd x ≤ sumNd T := by
    have e1 := sumNd_step hx
    have e2 := sumNd_take T (k + 1)
    omega
   have hck : sumNd (T.take k) ≤ sumNd T := sumNd_take T k
   have HSt := Lib.hid (sumNd_step hx)
   have HSet := Lib.hid (mmNd_set (c := c) hx)
   generalize sumNd (T.take k) = m at *
   have hnk := HNK.out x (List.mem_of_getElem? hx)
   have HOK := Lib.hid hok
   have HSV := Lib.hid hsv
   have HSN := Lib.hid hsn
   have HSUB := Lib.hid hsub
   obtain ⟨sn, an, cn, ak, ck⟩ := s
   dsimp only at hsn
   subst hsn
   obtain ⟨fo, ow, gr, mo, tx, N, K⟩ := sn
   unfold cntNd at hcx
   dsimp only at hcx hnk
   have hpin := hok.2.2.1 k _ _ hsv (mmNd_at (c := c) hx)
   have hoN : wr.ownsRow 0 9 1 (.slice an N.length cn) N.length (N.flatMap encStr1) := hpin.2.1
   have hoK : wr.ownsRow 0 3 1 (.slice ak K.length ck) K.length (K.flatMap encInt1) := hpin.2.2.1
   have hkv : k < vs'.length := by omega
   have i0 : (k : Int) < (T.length : Int) := by omega
   have hget : vs'[k] = ⟨⟨fo, ow, gr, mo, tx, N, K⟩, an, cn, ak, ck⟩ := by
    have := List.getElem?_eq_getElem hkv
    rw [hsv] at this
    exact (Option.some.inj this).symm
   rw [hvl] at hrow
   have g0 : wr.cell? ⟨g, k * 7, none⟩ = some (.bool fo) := by have := owns_at encNc_len hrow k hkv 0 _ rfl; rw [hget] at this; exact this
   have g1 : wr.cell? ⟨g, k * 7 + 1, none⟩ = some (.int .i64 ow) := by have := owns_at encNc_len hrow k hkv 1 _ rfl; rw [hget] at this; exact this
   have g2 : wr.cell? ⟨g, k * 7 + 2, none⟩ = some (.int .i64 gr) := by have := owns_at encNc_len hrow k hkv 2 _ rfl; rw [hget] at this; exact this
   have g3 : wr.cell? ⟨g, k * 7 + 3, none⟩ = some (.int .i64 mo) := by have := owns_at encNc_len hrow k hkv 3 _ rfl; rw [hget] at this; exact this
   have g4w : wr.cell? ⟨g, k * 7 + 4, none⟩ = some (.string tx) := by have := owns_at encNc_len hrow k hkv 4 _ rfl; rw [hget] at this; exact this
   clear g4w
   have f0 := hrow.frozenAt
   have Hrow := Lib.hid hrow
   have HoN := Lib.hid hoN
   have HoK := Lib.hid hoK
   have Hget := Lib.hid hget
   clear hx hvl hmap hsv hrow hpin hoN hoK hget hok hsub
   go_wp2_with fail
   refine (markText_any _ _ (by omega) (by omega)).mono ?_
   rintro e w1 ⟨v1, rfl, rfl, hb1⟩
   have h5 : c + (m : Int) + 1 + 1 + 1 + 1 = c + (m : Int) + 4 := by omega
   have h4 : c + (m : Int) + 1 + 1 + 1 = c + (m : Int) + 3 := by omega
   have h3 : c + (m : Int) + 1 + 1 = c + (m : Int) + 2 := by omega
   have o0 := owns_set encNc_len Hrow.out k 0 (.bool ((c + (m : Int)) % 3 == 0)) ⟨⟨(c + (m : Int)) % 3 == 0, ow, gr, mo, tx, N, K⟩, an, cn, ak, ck⟩ hkv (by omega) (by rw [Hget.out]; rfl)
   have o1 := owns_set encNc_len o0 k 1 (.int .i64 (c + (m : Int) + 1)) ⟨⟨(c + (m : Int)) % 3 == 0, c + (m : Int) + 1, gr, mo, tx, N, K⟩, an, cn, ak, ck⟩ (by rw [List.length_set]; exact hkv) (by omega) (by rw [List.getElem_set_self]; rfl)
   have o2 := owns_set encNc_len o1 k 2 (.int .i64 (c + (m : Int) + 1 + 1)) ⟨⟨(c + (m : Int)) % 3 == 0, c + (m : Int) + 1, c + (m : Int) + 2, mo, tx, N, K⟩, an, cn, ak, ck⟩ (by simp only [List.length_set]; exact hkv) (by omega) (by rw [List.getElem_set_self, h3]; rfl)
   have o3 := owns_set encNc_len o2 k 3 (.int .i64 (c + (m : Int) + 1 + 1 + 1)) ⟨⟨(c + (m : Int)) % 3 == 0, c + (m : Int) + 1, c + (m : Int) + 2, c + (m : Int) + 3, tx, N, K⟩, an, cn, ak, ck⟩ (by simp only [List.length_set]; exact hkv) (by omega) (by rw [List.getElem_set_self, h4]; rfl)
   have e3 := ownsRow_ext o3 hb1
   have o4 := owns_set encNc_len e3 k 4 (.string (markStr (c + (m : Int) + 1 + 1 + 1 + 1))) ⟨⟨(c + (m : Int)) % 3 == 0, c + (m : Int) + 1, c + (m : Int) + 2, c + (m : Int) + 3, markStr (c + (m : Int) + 4), N, K⟩, an, cn, ak, ck⟩ (by simp only [List.length_set]; exact hkv) (by omega) (by rw [List.getElem_set_self, h5]; rfl)
   simp only [List.set_set] at o4 e3
   have hgA : wr.grownBy (w1.setCell ⟨g, k * 7 + 4, none⟩ (.string (markStr (c + (m : Int) + 1 + 1 + 1 + 1)))) (some g) := by
    refine grown_setCell (grown_ext ?_ hb1) _
    exact grown_setCell (grown_setCell (grown_setCell (grown_setCell (World.grownBy.refl _ _) _) _) _) _
   have hkv1 : ∀ z : Nc, k < (vs'.set k z).length := fun z => by rw [List.length_set]; exact hkv
   have g4 : w1.cell? ⟨g, k * 7 + 4, none⟩ = some (.string tx) := by have := owns_at encNc_len e3 k (hkv1 _) 4 _ rfl; rw [List.getElem_set_self] at this; exact this
   have g5 : w1.cell? ⟨g, k * 7 + 5, none⟩ = some (.slice an N.length cn) := by have := owns_at encNc_len e3 k (hkv1 _) 5 _ rfl; rw [List.getElem_set_self] at this; exact this
   have f1 := e3.frozenAt
   have O4 := Lib.hid o4
   have HGA := Lib.hid hgA
   clear f0 g0 g1 g2 g3 o0 o1 o2 o3 e3 o4 hgA h3 h4 h5 hb1
   go_wp2_with fail
   have hpA : ∀ b, (Value.slice (some ⟨g, 0, none⟩) T.length cap).ownBlock = some b → b = g := fun b hb => (Option.some.inj hb).symm
   have hcA : Chg (fun b => (Value.slice (some ⟨g, 0, none⟩) T.length cap).ownBlock = some b) wr (w1.setCell ⟨g, k * 7 + 4, none⟩ (.string (markStr (c + (m : Int) + 1 + 1 + 1 + 1)))) := (Chg.of_row HGA.out).mono (fun b hb _ => hb)
   have hpin := HOK.out.2.2.1 k _ _ HSV.out (List.getElem?_eq_getElem (by have h1 := HOK.out.2.1; omega))
   have h4 := HOK.out.2.2.2.1 _ (List.mem_of_getElem? HSV.out)
   have hoNA := (plRow 9 1 encStr1 (.slice an N.length cn) N).frame wr _ HoN.out (fun b hb => hcA.block b ((plRow 9 1 encStr1 (.slice an N.length cn) N).lt wr b HoN.out hb) (fun e => h4 b (.inl hb) e))
   have hoKA := (plRow 3 1 encInt1 (.slice ak K.length ck) K).frame wr _ HoK.out (fun b hb => hcA.block b ((plRow 3 1 encInt1 (.slice ak K.length ck) K).lt wr b HoK.out hb) (fun e => h4 b (.inr hb) e))
   have O4' := O4.out
   generalize hWA : w1.setCell ⟨g, k * 7 + 4, none⟩ (.string (markStr (c + (m : Int) + 1 + 1 + 1 + 1))) = wA at *
   clear hWA O4 HGA g4 g5 f1 HoN HoK
   have ha5 : c + (m : Int) + 1 + 1 + 1 + 1 + 1 = c + (m : Int) + 5 := by omega
   refine (markStrS_own 0 (.slice an N.length cn) N.length N (c + (m : Int) + 1 + 1 + 1 + 1 + 1) wA rfl (by omega) (by omega) (by omega) hoNA).mono ?_
   rintro e wB ⟨rfl, hqB, hgB⟩
   rw [ha5] at hqB ⊢
   clear ha5
   have hcB : Chg (fun b => pinNd.own (⟨⟨fo, ow, gr, mo, tx, N, K⟩, an, cn, ak, ck⟩ : Nc) b) wA wB := (Chg.of_grown hgB).mono (fun b hb _ => .inl hb)
   have hlA : (vs'.set k (⟨⟨(c + (m : Int)) % 3 == 0, c + (m : Int) + 1, c + (m : Int) + 2, c + (m : Int) + 3, markStr (c + (m : Int) + 4), N, K⟩, an, cn, ak, ck⟩ : Nc)).length = vs'.length := List.length_set
   have hvl' : vs'.length = T.length := by rw [plG_len HOK.out, mmNd_len T c k hk]
   have O4r : (plRow 89 7 encNc (.slice (some ⟨g, 0, none⟩) T.length cap) (vs'.set k (⟨⟨(c + (m : Int)) % 3 == 0, c + (m : Int) + 1, c + (m : Int) + 2, c + (m : Int) + 3, markStr (c + (m : Int) + 4), N, K⟩, an, cn, ak, ck⟩ : Nc))).ok wA := by
    show wA.ownsRow 0 _ 7 _ (vs'.set k _).length _
    rw [hlA, hvl']; exact O4'
   have O5 := (plRow 89 7 encNc (.slice (some ⟨g, 0, none⟩) T.length cap) (vs'.set k (⟨⟨(c + (m : Int)) % 3 == 0, c + (m : Int) + 1, c + (m : Int) + 2, c + (m : Int) + 3, markStr (c + (m : Int) + 4), N, K⟩, an, cn, ak, ck⟩ : Nc))).frame wA wB O4r (fun b hb => hcB.block b ((plRow 89 7 encNc _ _).lt wA b O4r hb) (fun e => h4 b e hb))
   have hoKB := (plRow 3 1 encInt1 (.slice ak K.length ck) K).frame wA wB hoKA (fun b hb => (Chg.of_grown hgB).block b ((plRow 3 1 encInt1 (.slice ak K.length ck) K).lt wA b hoKA hb) (fun e => hpin.2.2.2 b e hb))
   have g6 : wB.cell? ⟨g, k * 7 + 6, none⟩ = some (.slice ak K.length ck) := by
    have h9 : wB.ownsRow 0 89 7 (.slice (some ⟨g, 0, none⟩) T.length cap) (vs'.set k (⟨⟨(c + (m : Int)) % 3 == 0, c + (m : Int) + 1, c + (m : Int) + 2, c + (m : Int) + 3, markStr (c + (m : Int) + 4), N, K⟩, an, cn, ak, ck⟩ : Nc)).length _ := O5
    rw [hlA, hvl'] at h9
    have := owns_at encNc_len h9 k (by rw [hlA]; exact hkv) 6 _ rfl
    rw [List.getElem_set_self] at this; exact this
   have H4 := Lib.hid O4r
   have HB := Lib.hid hgB
   have HQB := Lib.hid hqB
   have HCA := Lib.hid hcA
   have HPin := Lib.hid hpin
   clear hpA hcA hpin h4 hoNA hoKA O4' hqB hgB hcB hlA hvl' O4r O5
   go_wp2_with fail
   refine (markIntS_own 0 (.slice ak K.length ck) K.length K (c + (m : Int) + 5 + (N.length : Int)) wB rfl (by omega) (by omega) (by omega) hoKB).mono ?_
   rintro e wC ⟨rfl, hqC, hgC⟩
   have hres := mark_rows (c := c + (m : Int)) HOK.out HSV.out HCA.out (by
    have := H4.out
    show wA.ownsRow 0 _ 7 _ vs'.length _
    have h9 : wA.ownsRow 0 89 7 (.slice (some ⟨g, 0, none⟩) T.length cap) (vs'.set k (⟨⟨(c + (m : Int)) % 3 == 0, c + (m : Int) + 1, c + (m : Int) + 2, c + (m : Int) + 3, markStr (c + (m : Int) + 4), N, K⟩, an, cn, ak, ck⟩ : Nc)).length _ := this
    rw [List.length_set] at h9
    exact h9) HB.out HQB.out hgC hqC
   rw [HSet.out] at hres
   have HRes := Lib.hid hres
   clear hres hqC hgC hoKB g6
   go_wp2
   go_roundw
   case rel =>
    refine ⟨k + 1, _, by omega, by go_num, ?_, HRes.out.1, hb.trans (HRes.out.2.1.mono (fun b hb _ => HSUB.out b hb)), fun b hb => HSUB.out b (HRes.out.2.2 b hb)⟩
    rw [HSt.out]
    unfold cntNd
    dsimp only
    congr 1
    push_cast
    omega
   case measure => simp [intOf]; omega
  ·obtain rfl : k = T.length := by omega
   have hni : ¬ (T.length : Int) < (T.length : Int) := by omega
   rw [mmNd_full] at hok
   rw [List.take_length]
   go_wp2
   go_ret
   exact ⟨rfl, vs', hok, hb, hsub⟩
set_option maxRecDepth 10000 in
set_option maxHeartbeats 8000000 in
theorem heldNdS_any (a : Option Addr) (cap : Nat) (T : List Nd) (c : Int) (w : World) (hl : T.length ≤ 1048576) (hNK : ∀ x ∈ T, x.N.length ≤ 1048576 ∧ x.K.length ≤ 1048576) (hs : sumNd T ≤ 100000000) (h0 : 0 ≤ c) (h1 : c ≤ 900000000000) (hc : RdN w a (marksNd T c)) :
  Calls Tryz.prog 52 #[.slice a T.length cap, .int .i64 c] w (RetI (c + (sumNd T : Int)) w) := by
 have HNK := Lib.hid hNK
 clear hNK
 go_enter Tryz.func52, Tryz.ntmps52
 go_wp2
 go_loopw [1, 5] (fun q i wr => ∃ k : Nat, k ≤ T.length ∧ i = .int .i64 k ∧ q = .int .i64 (c + (sumNd (T.take k) : Int)) ∧ Ext w wr) (fun _ i _ => T.length - (intOf i).toNat)
 case atStart => exact ⟨0, Nat.zero_le _, rfl, by simp [sumNd], Ext.refl _⟩
 case round =>
  obtain ⟨k, hk, rfl, rfl, hb⟩ := hrel
  by_cases hlk : k < T.length
  ·obtain ⟨x, hx⟩ : ∃ x, T[k]? = some x := ⟨_, List.getElem?_eq_getElem hlk⟩
   obtain ⟨x', b, off, an, cn, ak, ck, hx', rfl, c0, c1, c2, c3, c4, c5, c6, hcn, hck, hrn, hrk⟩ := atNd (hc.ext hb) (show k < (marksNd T c).length by rw [marksNd_len]; exact hlk)
   rw [marksNd_at T c k x hx] at hx'
   obtain rfl := Option.some.inj hx'
   have hnk := HNK.out x (List.mem_of_getElem? hx)
   have hcx : cntNd x ≤ sumNd T := by
    have e1 := sumNd_step hx
    have e2 := sumNd_take T (k + 1)
    omega
   have hck2 : sumNd (T.take k) ≤ sumNd T := sumNd_take T k
   have HSt := Lib.hid (sumNd_step hx)
   have i0 : (k : Int) < (T.length : Int) := by omega
   generalize sumNd (T.take k) = m at *
   unfold cntNd at hcx
   simp only [markNd, marksStr_len, marksInt_len] at c0 c1 c2 c3 c4 c5 c6 hrn hrk
   rw [show c + (m : Int) + 2 = c + (m : Int) + 1 + 1 by omega] at c2
   rw [show c + (m : Int) + 3 = c + (m : Int) + 1 + 1 + 1 by omega] at c3
   rw [show c + (m : Int) + 4 = c + (m : Int) + 1 + 1 + 1 + 1 by omega] at c4
   rw [show c + (m : Int) + 5 = c + (m : Int) + 1 + 1 + 1 + 1 + 1 by omega] at hrn hrk
   have Hrn := Lib.hid hrn
   have Hrk := Lib.hid hrk
   have t0 : (((c + (m : Int)) % 3 == 0) != ((c + (m : Int)) % 3 == 0)) = false := by simp
   clear hx hx' hcn hck hrn hrk
   go_upto_region 16 with fail
   refine wp_region_v 7 (V := fun i v _ => match i with | 0 => v = .slice (some ⟨b, off, none⟩) T.length cap | 1 => v = .int .i64 k | 2 => v = .pointer (some ⟨b, off + k * 7, none⟩) | 3 => v = .pointer (some ⟨b, off + k * 7 + 4, none⟩) | 4 => v = .string (markStr (c + (m : Int) + 1 + 1 + 1 + 1)) | 5 => v = .int .i64 (c + (m : Int) + 1 + 1 + 1 + 1) | 6 => v = .string (markStr (c + (m : Int) + 1 + 1 + 1 + 1)) | _ => True) rfl (by decide) (by kernel_rfl) (by kernel_rfl) (by kernel_rfl) ?_ ?_ ?_
   ·intro i v w1 w2 h _; exact h
   ·intro i o hi ho vs w2 hvl hE hd
    have cj := cell_ext hE (show (wr).drew.cell? _ = _ from c4)
    match vs, hvl with
    | [x0, x1, x2, x3, x4, x5, x6], _ =>
    rcases (show i = 0 ∨ i = 1 ∨ i = 2 ∨ i = 3 ∨ i = 4 ∨ i = 5 ∨ i = 6 by omega) with rfl | rfl | rfl | rfl | rfl | rfl | rfl
    all_goals
     simp only [List.getElem?_cons_zero, List.getElem?_cons_succ, Option.some.injEq] at ho
     subst ho
     simp [Waits, Region.binds] at hd
     simp [putAll, Act.put, hd]
     go_wp2_with (go_at_call 62; refine (markText_any _ _ (by omega) (by omega)).mono ?_; rintro e w3 ⟨v3, rfl, rfl, hb3⟩)
     first | exact ⟨rfl, _, rfl, rfl, Ext.refl _⟩ | exact ⟨rfl, _, rfl, rfl, hb3⟩
   intro vs w0 hvl hb0 hV
   match vs, hvl with
   | [x0, x1, x2, x3, x4, x5, x6], _ =>
   have h00 := hV 0 (by omega)
   have h10 := hV 1 (by omega)
   have h20 := hV 2 (by omega)
   have h30 := hV 3 (by omega)
   have h40 := hV 4 (by omega)
   have h50 := hV 5 (by omega)
   have h60 := hV 6 (by omega)
   simp at h00 h10 h20 h30 h40 h50 h60
   subst h00 h10 h20 h30 h40 h50 h60
   clear hV
   simp only [putAll, Act.put, List.take_succ_cons, List.take_zero, List.drop_succ_cons, List.drop_zero]
   simp
   replace hb0 : Ext wr w0 := ((Ext.refl wr).drew).trans hb0
   replace c5 := cell_ext hb0 c5
   replace c6 := cell_ext hb0 c6
   replace hb := hb.trans hb0
   clear c0 c1 c2 c3 c4 t0
   go_wp2_with fail
   refine (heldStrS_any an cn x.N.length (c + (m : Int) + 1 + 1 + 1 + 1 + 1) w0 (by omega) (by omega) (by omega) (Hrn.out.ext hb0)).mono ?_
   rintro e w1 ⟨rfl, hE1⟩
   have hn1 : ¬ (c + (m : Int) + 1 + 1 + 1 + 1 + 1 + (x.N.length : Int) < 0) := by omega
   replace c6 := cell_ext hE1 c6
   go_wp2_with fail
   refine (heldIntS_any ak ck x.K.length (c + (m : Int) + 1 + 1 + 1 + 1 + 1 + (x.N.length : Int)) w1 (by omega) (by omega) (by omega) (Hrk.out.ext (hb0.trans hE1))).mono ?_
   rintro e w2 ⟨rfl, hE2⟩
   have hn2 : ¬ (c + (m : Int) + 1 + 1 + 1 + 1 + 1 + (x.N.length : Int) + (x.K.length : Int) < 0) := by omega
   clear c5 c6 hn1
   go_wp2
   go_roundw
   case rel =>
    refine ⟨k + 1, by omega, by go_num, ?_, (hb.trans hE1).trans hE2⟩
    rw [HSt.out]
    unfold cntNd
    congr 1
    push_cast
    omega
   case measure => simp [intOf]; omega
  ·obtain rfl : k = T.length := by omega
   have hni : ¬ (T.length : Int) < (T.length : Int) := by omega
   rw [List.take_length]
   go_wp2
   go_ret
   exact RetI.mk rfl hb
set_option maxHeartbeats 2000000 in
theorem markKer_own {w0 w : World} {H : List Pl} (S : Sep w0 w H) (i : Nat) {a : Option Addr} {cap : Nat} {T : List Nd} {vs : List Nc} (r u s g : Int) (c : Int) (hi : H[i]? = some (plNd (.slice a T.length cap) vs T))
  (hl : T.length ≤ 1048576) (hNK : ∀ x ∈ T, x.N.length ≤ 1048576 ∧ x.K.length ≤ 1048576) (hs : sumNd T ≤ 100000000) (h0 : 0 ≤ c) (h1 : c ≤ 900000000000) :
  Calls Tryz.prog 12 #[.agg #[.slice a T.length cap, .int .i64 r, .int .i64 u, .int .i64 s, .int .i64 g], .int .i64 c] w fun e w' => ∃ vs', e = .returned (.int .i64 (c + (sumNd T : Int))) ∧ Sep w0 w' (H.set i (plNd (.slice a T.length cap) vs' (marksNd T c))) := by
 have HNK := Lib.hid hNK
 clear hNK
 go_enter Tryz.func12, Tryz.ntmps12
 have SA := S.alloc #[.slice a T.length cap, .int .i64 r, .int .i64 u, .int .i64 s, .int .i64 g] 31
 go_wp2_with fail
 generalize hb : w.heap.size = b at *
 generalize (w.alloc (.cells #[.slice a T.length cap, .int .i64 r, .int .i64 u, .int .i64 s, .int .i64 g] 31)) = w1 at *
 clear S hb
 refine (markNdS_own a cap vs T c w1 hl HNK.out hs h0 h1 (SA.at_ (i + 1) hi)).mono ?_
 rintro e w2 ⟨vs', rfl, hok, hch, hsub⟩
 have S3 := (SA.put (i + 1) hi (q := plNd (.slice a T.length cap) vs' (marksNd T c)) hch hok (fun b h => .inl (hsub b h))).drop 0
 clear hok hch
 go_wp2
 go_ret
 exact ⟨vs', rfl, S3⟩
set_option maxHeartbeats 2000000 in
theorem heldKer_any (a : Option Addr) (cap : Nat) (T : List Nd) (r u s g : Int) (c : Int) (w : World) (hl : T.length ≤ 1048576) (hNK : ∀ x ∈ T, x.N.length ≤ 1048576 ∧ x.K.length ≤ 1048576) (hs : sumNd T ≤ 100000000) (h0 : 0 ≤ c) (h1 : c ≤ 900000000000) (hc : RdN w a (marksNd T c)) :
  Calls Tryz.prog 13 #[.agg #[.slice a T.length cap, .int .i64 r, .int .i64 u, .int .i64 s, .int .i64 g], .int .i64 c] w (RetI (c + (sumNd T : Int)) w) := by
 have HNK := Lib.hid hNK
 clear hNK
 go_enter Tryz.func13, Tryz.ntmps13
 have SA := (Ext.refl w).alloc (.cells #[.slice a T.length cap, .int .i64 r, .int .i64 u, .int .i64 s, .int .i64 g] 31)
 go_wp2_with fail
 generalize (w.alloc (.cells #[.slice a T.length cap, .int .i64 r, .int .i64 u, .int .i64 s, .int .i64 g] 31)) = w1 at *
 refine (heldNdS_any a cap T c w1 hl HNK.out hs h0 h1 (hc.ext SA)).mono ?_
 rintro e w2 ⟨rfl, hE⟩
 have hn : ¬ (c + (sumNd T : Int) < 0) := by omega
 go_wp2
 go_ret
 exact RetI.mk rfl (SA.trans hE)
def RetSM (left : Int) (P : Int → Prop) (w : World) (e : Ending) (w' : World) : Prop := ∃ r : Int, e = .returned (.int .i64 r) ∧ -1 ≤ r ∧ r ≤ left ∧ (0 ≤ r → P r) ∧ Ext w w'
theorem RetSM.mk {left : Int} {P : Int → Prop} {w w' : World} {v : Value} {r : Int} (hv : v = .int .i64 r) (h1 : -1 ≤ r) (h2 : r ≤ left) (h3 : 0 ≤ r → P r) (hw : Ext w w') : RetSM left P w (.returned v) w' := ⟨r, by rw [hv], h1, h2, h3, hw⟩
set_option maxHeartbeats 2000000 in
theorem szStr_more (a : Option Addr) (cap : Nat) (l : List ByteArray) (left : Int) (w : World) (h0 : 0 ≤ left) (h1 : left ≤ 1048576) (hl : l.length ≤ 9223372036854775807) (hs : ∀ x ∈ l, x.size ≤ 9223372036854775807) (hc : Rd 1 encStr1 w a l) :
  Calls Tryz.prog 21 #[.slice a l.length cap, .int .i64 left] w (RetSM left (fun q => q + l.length ≤ left ∧ (l.length ≤ 1048576 ∧ ∀ x ∈ l, x.size ≤ 1048576)) w) := by
 by_cases h : left - l.length < 0
 ·go_enter Tryz.func21, Tryz.ntmps21
  go_wp2
  go_ret
  exact RetSM.mk rfl (by omega) (by omega) (by omega) (Ext.refl _)
 ·go_enter Tryz.func21, Tryz.ntmps21
  go_wp2
  go_loopw [1, 5] (fun q i wr => ∃ (k : Nat) (r : Int), k ≤ l.length ∧ i = .int .i64 k ∧ q = .int .i64 r ∧ 0 ≤ r ∧ r ≤ left ∧ r + l.length ≤ left ∧ (∀ j, j < k → ∀ x, l[j]? = some x → x.size ≤ 1048576) ∧ Ext w wr) (fun _ i _ => l.length - (intOf i).toNat)
  case atStart => exact ⟨0, left - l.length, Nat.zero_le _, rfl, rfl, by omega, by omega, by omega, fun _ h => absurd h (Nat.not_lt_zero _), Ext.refl _⟩
  case round =>
   obtain ⟨k, r, hk, rfl, rfl, hr0, hr1, hr2, hpre, hb⟩ := hrel
   have Hpre := Lib.hid hpre
   clear hpre
   have Hs := Lib.hid hs
   clear hs
   by_cases hlt : k < l.length
   ·obtain ⟨x, b, off, hx, rfl, c0⟩ := atStr (hc.ext hb) hlt
    have hsx := Hs.out x (List.mem_of_getElem? hx)
    have Hx := Lib.hid hx
    have i0 : (k : Int) < (l.length : Int) := by omega
    clear hx
    by_cases hneg : r - (x.size : Int) < 0
    ·go_wp2
     go_ret
     exact RetSM.mk rfl (by omega) (by omega) (by omega) hb
    ·go_wp2
     go_roundw
     case rel => exact ⟨k + 1, r - (x.size : Int), by omega, by go_num, rfl, by omega, by omega, by omega, fun j hj y hy => (Nat.lt_succ_iff_lt_or_eq.1 hj).elim (fun h => Hpre.out j h y hy) (fun e => by subst e; rw [Hx.out] at hy; cases hy; omega), hb⟩
     case measure => simp [intOf]; omega
   ·go_wp2
    go_ret
    exact RetSM.mk rfl (by omega) (by omega) (fun _ => ⟨by omega, by omega, fun x hx => by obtain ⟨j, hj⟩ := List.getElem?_of_mem hx; exact Hpre.out j (by have := (List.getElem?_eq_some_iff.1 hj).1; omega) x hj⟩) hb
set_option maxHeartbeats 2000000 in
theorem szInt_more (a : Option Addr) (cap : Nat) (l : List Int) (left : Int) (w : World) (h0 : 0 ≤ left) (h1 : left ≤ 1048576) (hl : l.length ≤ 9223372036854775807) :
  Calls Tryz.prog 103 #[.slice a l.length cap, .int .i64 left] w (RetSM left (fun q => q + l.length ≤ left ∧ (l.length ≤ 1048576)) w) := by
 by_cases h : left - l.length < 0
 ·go_enter Tryz.func103, Tryz.ntmps103
  go_wp2
  go_ret
  exact RetSM.mk rfl (by omega) (by omega) (fun _ => by omega) (Ext.refl _)
 ·go_enter Tryz.func103, Tryz.ntmps103
  go_wp2
  go_ret
  exact RetSM.mk rfl (by omega) (by omega) (fun _ => by omega) (Ext.refl _)
set_option maxHeartbeats 2000000 in
theorem szNd_more (x : Nd) (an ak : Option Addr) (cn ck : Nat) (left : Int) (w : World) (h0 : 0 ≤ left) (h1 : left ≤ 1048576) (hs : SmN 9223372036854775807 x) (hn : Rd 1 encStr1 w an x.N) :
  Calls Tryz.prog 63 #[.agg #[.bool x.fold, .int .i64 x.own, .int .i64 x.grp, .int .i64 x.mode, .string x.text, .slice an x.N.length cn, .slice ak x.K.length ck], .int .i64 left] w (RetSM left (fun q => q + x.N.length + x.K.length ≤ left ∧ SmN 1048576 x) w) := by
 obtain ⟨f, o, g, m, s, N, K⟩ := x
 obtain ⟨hs1, hs2, hs3, hs4⟩ := hs
 dsimp only at hs1 hs2 hs3 hs4 hn ⊢
 have HS := Lib.hid hs3
 clear hs3
 by_cases h : left - (s.size : Int) < 0
 ·go_enter Tryz.func63, Tryz.ntmps63
  go_wp2
  go_ret
  exact RetSM.mk rfl (by omega) (by omega) (by omega) ((Ext.refl _).alloc _)
 ·go_enter Tryz.func63, Tryz.ntmps63
  have S := Sep.start w
  replace S : Sep w (w.alloc (.cells #[.bool f, .int .i64 o, .int .i64 g, .int .i64 m, .string s, .slice an N.length cn, .slice ak K.length ck] 88)) [plBox w.heap.size #[.bool f, .int .i64 o, .int .i64 g, .int .i64 m, .string s, .slice an N.length cn, .slice ak K.length ck] 88] := S.alloc_at (by simp) _ _
  go_wp2_with fail
  generalize (w.alloc (.cells #[.bool f, .int .i64 o, .int .i64 g, .int .i64 m, .string s, .slice an N.length cn, .slice ak K.length ck] 88)) = w1 at *
  refine (szStr_more an cn N (left - (s.size : Int)) w1 (by omega) (by omega) hs2 HS.out (hn.ext S.ext)).mono ?_
  rintro e w2 ⟨r, rfl, hra, hrb, hrc, hE⟩
  have Hrc := Lib.hid hrc
  clear hrc
  replace S := S.step hE
  clear hE
  by_cases hneg : r < 0
  ·go_wp2
   go_ret
   exact RetSM.mk rfl (by omega) (by omega) (fun h => absurd h (by omega)) S.ext
  ·obtain ⟨⟨bc0, bf0⟩, ⟨bc1, bf1⟩, ⟨bc2, bf2⟩, ⟨bc3, bf3⟩, ⟨bc4, bf4⟩, ⟨bc5, bf5⟩, ⟨bc6, bf6⟩⟩ := bx7 (S.box 0 rfl)
   go_wp2_with fail
   refine (szInt_more ak ck K r w2 (by omega) (by omega) hs4).mono ?_
   rintro e w3 ⟨q, rfl, hqa, hqb, hqc, hE⟩
   have Hqc := Lib.hid hqc
   clear hqc
   clear bc0 bf0 bc1 bf1 bc2 bf2 bc3 bf3 bc4 bf4 bc5 bf5 bc6 bf6
   replace S := S.step hE
   clear hE
   by_cases hneg2 : q < 0
   ·go_wp2
    go_ret
    exact RetSM.mk rfl (by omega) (by omega) (fun h => absurd h (by omega)) S.ext
   ·go_wp2
    go_ret
    exact RetSM.mk rfl (by omega) (by omega) (fun _ => by
     have k1 := Hrc.out (by omega)
     have k2 := Hqc.out (by omega)
     exact ⟨by show q + (N.length : Int) + (K.length : Int) ≤ _; omega, by show s.size ≤ _; omega, k1.2.1, k1.2.2, k2.2⟩) S.ext
set_option maxHeartbeats 2000000 in
theorem szNdS_more (a : Option Addr) (cap : Nat) (T : List Nd) (left : Int) (w : World) (h0 : 0 ≤ left) (h1 : left ≤ 1048576) (hl : T.length ≤ 9223372036854775807) (hs : ∀ x ∈ T, SmN 9223372036854775807 x) (hc : RdN w a T) :
  Calls Tryz.prog 27 #[.slice a T.length cap, .int .i64 left] w (RetSM left (fun q => ((T.length ≤ 1048576 ∧ ∀ x ∈ T, SmN 1048576 x) ∧ ∀ x ∈ T, x.N.length + x.K.length ≤ 1048576) ∧ sumNd T ≤ 6291456) w) := by
 have HS := Lib.hid hs
 clear hs
 by_cases h : left - T.length < 0
 ·go_enter Tryz.func27, Tryz.ntmps27
  go_wp2
  go_ret
  exact RetSM.mk rfl (by omega) (by omega) (by omega) (Ext.refl _)
 ·go_enter Tryz.func27, Tryz.ntmps27
  go_wp2
  go_loopw [1, 5] (fun q i wr => ∃ (k : Nat) (r : Int), k ≤ T.length ∧ i = .int .i64 k ∧ q = .int .i64 r ∧ 0 ≤ r ∧ r ≤ left ∧ r + (sumNd (T.take k) : Int) ≤ left + 5 * (k : Int) ∧ (∀ j, j < k → ∀ x, T[j]? = some x → SmN 1048576 x ∧ x.N.length + x.K.length ≤ 1048576) ∧ Ext w wr) (fun _ i _ => T.length - (intOf i).toNat)
  case atStart => exact ⟨0, left - T.length, Nat.zero_le _, rfl, rfl, by omega, by omega, by rw [List.take_zero, sumNd]; omega, fun _ h => absurd h (Nat.not_lt_zero _), Ext.refl _⟩
  case round =>
   obtain ⟨k, r, hk, rfl, rfl, hr0, hr1, hsum, hpre, hb⟩ := hrel
   have Hpre := Lib.hid hpre
   clear hpre
   by_cases hlt : k < T.length
   ·obtain ⟨x, b, off, an, cn, ak, ck, hx, rfl, c0, c1, c2, c3, c4, c5, c6, hcn, hck, hrn, hrk⟩ := atNd (hc.ext hb) hlt
    have Hx := Lib.hid hx
    have i0 : (k : Int) < (T.length : Int) := by omega
    clear hx hcn hck hrk
    go_wp2_with fail
    refine (szNd_more x an ak cn ck r wr (by omega) (by omega) (HS.out x (List.mem_of_getElem? Hx.out)) hrn).mono ?_
    rintro e w2 ⟨r2, rfl, hq1, hq2, hq3, hb2⟩
    have Hq3 := Lib.hid hq3
    clear hq3 c0 c1 c2 c3 c4 c5 c6 hrn
    by_cases hneg : r2 < 0
    ·go_wp2
     go_ret
     exact RetSM.mk rfl (by omega) (by omega) (by omega) (hb.trans hb2)
    ·have hpos : 0 ≤ r2 := by omega
     go_wp2
     go_roundw
     case rel => exact ⟨k + 1, r2, by omega, by go_num, rfl, by omega, by omega, by rw [sumNd_step Hx.out]; have := (Hq3.out hpos).1; unfold cntNd; omega, fun j hj y hy => (Nat.lt_succ_iff_lt_or_eq.1 hj).elim (fun h => Hpre.out j h y hy) (fun e => by subst e; rw [Hx.out] at hy; cases hy; exact ⟨(Hq3.out hpos).2, by have := (Hq3.out hpos).1; omega⟩), hb.trans hb2⟩
     case measure => simp [intOf]; omega
   ·obtain rfl : k = T.length := by omega
    have hni : ¬ (T.length : Int) < (T.length : Int) := by omega
    go_wp2
    go_ret
    exact RetSM.mk rfl (by omega) (by omega) (fun _ => by
     have key : ∀ x ∈ T, SmN 1048576 x ∧ x.N.length + x.K.length ≤ 1048576 := fun x hx => by obtain ⟨j, hj⟩ := List.getElem?_of_mem hx; exact Hpre.out j (List.getElem?_eq_some_iff.1 hj).1 x hj
     rw [List.take_length] at hsum
     exact ⟨⟨⟨by omega, fun x hx => (key x hx).1⟩, fun x hx => (key x hx).2⟩, by omega⟩) hb
set_option maxHeartbeats 2000000 in
theorem szKer_more (at_ : Option Addr) (cap : Nat) (T : List Nd) (r a s g left : Int) (w : World) (h0 : 0 ≤ left) (h1 : left ≤ 1048576) (hl : T.length ≤ 9223372036854775807) (hs : ∀ x ∈ T, SmN 9223372036854775807 x) (hc : RdN w at_ T) :
  Calls Tryz.prog 7 #[.agg #[.slice at_ T.length cap, .int .i64 r, .int .i64 a, .int .i64 s, .int .i64 g], .int .i64 left] w (RetSM left (fun q => ((T.length ≤ 1048576 ∧ ∀ x ∈ T, SmN 1048576 x) ∧ ∀ x ∈ T, x.N.length + x.K.length ≤ 1048576) ∧ sumNd T ≤ 6291456) w) := by
 have HS := Lib.hid hs
 clear hs
 go_enter Tryz.func7, Tryz.ntmps7
 have S := Sep.start w
 replace S : Sep w (w.alloc (.cells #[.slice at_ T.length cap, .int .i64 r, .int .i64 a, .int .i64 s, .int .i64 g] 26)) [plBox w.heap.size #[.slice at_ T.length cap, .int .i64 r, .int .i64 a, .int .i64 s, .int .i64 g] 26] := S.alloc_at (by simp) _ _
 go_wp2_with fail
 generalize (w.alloc (.cells #[.slice at_ T.length cap, .int .i64 r, .int .i64 a, .int .i64 s, .int .i64 g] 26)) = w1 at *
 refine (szNdS_more at_ cap T left w1 h0 h1 hl HS.out (hc.ext S.ext)).mono ?_
 rintro e w2 ⟨q, rfl, hra, hrb, hrc, hE⟩
 have Hrc := Lib.hid hrc
 clear hrc
 replace S := S.step hE
 clear hE
 by_cases hneg : q < 0
 ·go_wp2
  go_ret
  exact RetSM.mk rfl (by omega) (by omega) (fun h => absurd h (by omega)) S.ext
 ·go_wp2
  go_ret
  exact RetSM.mk rfl (by omega) (by omega) (fun _ => Hrc.out (by omega)) S.ext
theorem nb_sz {T : List Nd} (h : ∀ x ∈ T, x.N.length + x.K.length ≤ 1048576) (hT : TreeOk T) : NB 524288 T := fun x hx => by
 obtain ⟨k, hk⟩ := List.getElem?_of_mem hx
 have h1 := h x hx
 have h2 := (hT.nodes k x hk).len
 omega
def KerQ (T : List Nd) (r a s g : Int) (v : Value) (w : World) : Prop := ∃ a1 c1, v = .agg #[.slice a1 T.length c1, .int .i64 r, .int .i64 a, .int .i64 s, .int .i64 g] ∧ RdN w a1 T
theorem KerQ.ext {T : List Nd} {r a s g : Int} {v : Value} {w w' : World} (h : KerQ T r a s g v w) (hE : Ext w w') : KerQ T r a s g v w' := by
 obtain ⟨a1, c1, h1, h2⟩ := h
 exact ⟨a1, c1, h1, h2.ext hE⟩
theorem sumNd_bd {T : List Nd} {B : Nat} (h : ∀ x ∈ T, cntNd x ≤ B) : sumNd T ≤ T.length * B := by
 induction T with
 | nil => exact Nat.zero_le _
 | cons x r ih =>
  have h1 := ih (fun y hy => h y (List.mem_cons_of_mem _ hy))
  have h2 := h x (by simp)
  rw [sumNd, List.length_cons, Nat.succ_mul]
  omega
def Small (R : List Nd) : Prop := R.length ≤ 1048576 ∧ (∀ x ∈ R, SmN 1048576 x) ∧ sumNd R ≤ 100000000
theorem Small.nk {R : List Nd} (h : Small R) : ∀ x ∈ R, x.N.length ≤ 1048576 ∧ x.K.length ≤ 1048576 := fun x hx => ⟨(h.2.1 x hx).2.1, (h.2.1 x hx).2.2.2⟩
theorem SmN.big {x : Nd} (h : SmN 1048576 x) : SmN 9223372036854775807 x := ⟨by have := h.1; omega, by have := h.2.1; omega, fun s hs => by have := h.2.2.1 s hs; omega, by have := h.2.2.2; omega⟩
theorem small_nil : Small [] := ⟨Nat.zero_le _, fun x hx => by simp at hx, Nat.zero_le _⟩
theorem small_tree {R : List Nd} {b : Nat} (h : TreeOk R) (hb : NB b R) (h1 : b ≤ 600000) : Small R := by
 refine ⟨by have := h.max; omega, tree_sm20 h hb (by omega), ?_⟩
 have h2 := sumNd_bd (T := R) (B := 1200005) (fun x hx => by
  obtain ⟨k, hk⟩ := List.getElem?_of_mem hx
  have h3 := (h.nodes k x hk).len
  have h4 := hb x hx
  unfold cntNd
  omega)
 have h5 : R.length * 1200005 ≤ 16 * 1200005 := Nat.mul_le_mul_right _ h.max
 omega
theorem line_small {T : List Nd} {c : Cr} (h : TreeOk T → NB 524288 T) (s : ByteArray) : Small (callLine T c s).1 := by
 by_cases hT : TreeOk T ∧ c.ok
 ·have h1 := callF_ok hT.1 (h hT.1) c (wordsB s)
  rw [callLine_ok hT]
  exact small_tree h1.1 h1.2 (by omega)
 ·have e : callLine T c s = ([], ⟨#[]⟩) := by unfold callLine; rw [if_neg hT]
  rw [e]
  exact small_nil
end Go.Proofs.YtnibbldfohbfkaaGreatDoor
