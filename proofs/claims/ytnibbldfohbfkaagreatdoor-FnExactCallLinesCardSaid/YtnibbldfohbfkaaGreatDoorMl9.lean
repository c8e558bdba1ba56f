/- Parts of one proof: what each theorem proves, and its conditions, stand in its own statement. -/
import Derived.Test.YtnibbldfohbfkaaGreatDoorMl8
set_option linter.all false
set_option maxRecDepth 100000
set_option maxHeartbeats 32000000
namespace Go.Proofs.YtnibbldfohbfkaaGreatDoor
open Go.RowKit
theorem search_asc {N : List ByteArray} (h : Asc N) (x : ByteArray) : Lib.bsGo (fun t => Op.bytesLess ((fun t : Nat => (N[t]?).getD x) t).toList x.toList) N.length 0 N.length = posOf N x := by
 refine Lib.bsGo_spec _ (posOf N x) (fun t ht => ?_) (fun t ht => ?_) _ _ _ (by omega) (Nat.zero_le _) (posOf_le N x)
 ·have hl : t < N.length := by have := posOf_le N x; omega
  have h1 : N[t]? = some N[t] := List.getElem?_eq_getElem hl; dsimp only; rw [h1]; exact posOf_lt N x t N[t] ht h1
 ·dsimp only
  cases hx : N[t]? with
  | none => exact bl_irr _
  | some y =>
   have hl := (List.getElem?_eq_some_iff.1 hx).1; have h0 : N[posOf N x]? = some N[posOf N x] := List.getElem?_eq_getElem (by omega); have h1 := posOf_at N x _ h0
   show Op.bytesLess y.toList x.toList = false
   rcases Nat.lt_or_eq_of_le ht with h2 | h2
   ·cases hb : Op.bytesLess y.toList x.toList with
    | false => rfl
    | true => rw [bl_tr _ _ _ (h _ _ _ _ h2 h0 hx) hb] at h1; cases h1
   ·rw [← h2, h0] at hx
    cases hx
    exact h1
theorem search_any (a : Option Addr) (c n : Nat) (N : List ByteArray) (x : ByteArray) (w : World) (hn : n = N.length) (h : Asc N) (hl : N.length ≤ 1048576) (hc : Rd 1 encStr1 w a N) :
  Calls Tryz.prog 149 #[.slice a n c, .string x] w fun e w' => ∃ b : Bool, e = .returned (.tuple #[.int .i64 (posOf N x : Nat), .bool b]) ∧ (b = true ↔ x ∈ N) ∧ Ext w w' := by
 subst hn
 by_cases h0 : N = []
 ·subst h0; refine (search_none a c x w).mono ?_; rintro e w' ⟨rfl, rfl⟩; exact ⟨false, rfl, by simp, Ext.refl _⟩
 ·obtain ⟨_, b, off, _, rfl, _⟩ := atStr hc (List.length_pos_iff.2 h0); refine (search_raw b off N.length c (fun t => (N[t]?).getD x) x w (by omega) (fun j hj => ?_)).mono ?_
  ·obtain ⟨y, b', off', hy, hb, hcell⟩ := atStr hc hj
   cases hb
   rw [hy]; exact hcell
  ·rintro e w' ⟨rfl, q, rfl⟩; rw [search_asc h]; refine ⟨_, rfl, ?_, (Ext.refl w).drewN q⟩; rw [decide_eq_true_eq]
   constructor
   ·rintro ⟨h1, h2⟩; have h3 : N[posOf N x]? = some N[posOf N x] := List.getElem?_eq_getElem h1; rw [h3] at h2; have h4 : N[posOf N x] = x := h2; rw [← h4]; exact List.getElem_mem h1
   ·intro hm; obtain ⟨k, hk⟩ := List.getElem?_of_mem hm; have e := posOf_mem h hk; rw [e, hk]; exact ⟨(List.getElem?_eq_some_iff.1 hk).1, rfl⟩
theorem node_asc {x : Nd} {many : Nat} (h : NodeOk x many) : Asc x.N := by
 cases hf : x.fold with
 | true => exact asc_of ((nodeOk_iff.1 h).1.dir hf).2.2
 | false =>
  have h0 : x.N = [] := List.eq_nil_of_length_eq_zero (h.file hf); rw [h0]; intro i j p q _ hp; simp at hp
theorem kidOf_found {x : Nd} {many : Nat} {s : ByteArray} (h : NodeOk x many) (hm : s ∈ x.N) : posOf x.N s < x.K.length ∧ x.K[posOf x.N s]? = some (kidOf x.N x.K s) := by
 obtain ⟨k, hk⟩ := List.getElem?_of_mem hm; have hA := node_asc h; have e := posOf_mem hA hk; have hkl := (List.getElem?_eq_some_iff.1 hk).1; have hlen := h.len; have hK : x.K[k]? = some x.K[k] := List.getElem?_eq_getElem (by omega); rw [e, kidOf_at x.N x.K s k _ hk hK (fun j hj hj2 => by have := asc_ne hA hj2 hk; omega)]; exact ⟨by omega, hK⟩
theorem implKid (x : Nd) (many : Nat) (an ak : Option Addr) (cn ck : Nat) (s : ByteArray) (w : World) (hN : NodeOk x many) (hl : x.N.length ≤ 1048576) (hn : Rd 1 encStr1 w an x.N) (hk : Rd 1 encInt1 w ak x.K) :
  Calls Tryz.prog 124 #[.agg #[.bool x.fold, .int .i64 x.own, .int .i64 x.grp, .int .i64 x.mode, .string x.text, .slice an x.N.length cn, .slice ak x.K.length ck], .string s] w (RetI (kidOf x.N x.K s) w) := by
 have HA := hd0 (node_asc hN); have HF := hd0 (fun hm => kidOf_found (s := s) hN hm); have HNo : Hid (s ∉ x.N → kidOf x.N x.K s = -1) := hd0 kidOf_not; clear hN; obtain ⟨f, o, g, m, t, N, K⟩ := x; dsimp only at hl hn hk HA HF HNo ⊢
 go_enter Tryz.func124, Tryz.ntmps124
 have S := Sep.start w; replace S := S.alloc_at (n := w.heap.size) (by simp) #[.bool f, .int .i64 o, .int .i64 g, .int .i64 m, .string t, .slice an N.length cn, .slice ak K.length ck] 89
 go_upto_region 1 with fail
 generalize (w.alloc (.cells #[.bool f, .int .i64 o, .int .i64 g, .int .i64 m, .string t, .slice an N.length cn, .slice ak K.length ck] 89)) = w1 at *; obtain ⟨⟨bc0, bf0⟩, ⟨bc1, bf1⟩, ⟨bc2, bf2⟩, ⟨bc3, bf3⟩, ⟨bc4, bf4⟩, ⟨bc5, bf5⟩, ⟨bc6, bf6⟩⟩ := bx7 (S.box 0 rfl)
 go_wp2_with fail
 refine (search_any an cn _ N s w1 rfl HA.out hl (hn.ext S.ext)).mono ?_; rintro e w2 ⟨fd, rfl, hfd, hE⟩; have Hfd := hd0 hfd; clear hfd; clear bc0 bf0 bc1 bf1 bc2 bf2 bc3 bf3 bc4 bf4 bc5 bf5 bc6 bf6; replace S := S.step hE; clear hE
 cases fd with
 | false =>
  have HX := hd0 (HNo.out (fun hm => Bool.noConfusion (Hfd.out.2 hm))); go_wp2; go_ret; exact ⟨by rw [HX.out]; rfl, S.ext⟩
 | true =>
  obtain ⟨h1, h2⟩ := HF.out (Hfd.out.1 rfl); obtain ⟨y, b2, off2, hy, rfl, d0⟩ := atInt (hk.ext S.ext) h1; rw [hy] at h2; have HX := hd0 (Option.some.inj h2)
  have hp : ((posOf N s : Nat) : Int) < (K.length : Int) := by omega
  clear h1 h2 hy; generalize posOf N s = p at *; obtain ⟨⟨bc0, bf0⟩, ⟨bc1, bf1⟩, ⟨bc2, bf2⟩, ⟨bc3, bf3⟩, ⟨bc4, bf4⟩, ⟨bc5, bf5⟩, ⟨bc6, bf6⟩⟩ := bx7 (S.box 0 rfl); go_wp2; go_ret; exact ⟨by rw [← HX.out]; rfl, S.ext⟩
theorem implAllows (c : Cr) (want : Int) (x : Nd) (many : Nat) (an ak : Option Addr) (cn ck : Nat) (w : World) (hN : NodeOk x many) (hc : c.ok) (hw : 1 ≤ want ∧ want ≤ 4) :
  Calls Tryz.prog 128 #[.agg #[.bool x.fold, .int .i64 x.own, .int .i64 x.grp, .int .i64 x.mode, .string x.text, .slice an x.N.length cn, .slice ak x.K.length ck], .agg #[.int .i64 c.r, .int .i64 c.a, .int .i64 c.s, .int .i64 c.g], .int .i64 want] w (fun e w' => e = .returned (.bool (c.may x want)) ∧ Ext w w') := by
 obtain ⟨r, a, s, gs⟩ := c; have HM := hd0 (fun (w : World) => implMayDo r a s gs x.own x.grp x.mode want w hc hN.own hN.grp hN.mode hw); clear hN hc hw; dsimp only
 go_enter Tryz.func128, Tryz.ntmps128
 have S := Sep.start w; replace S := S.alloc_at (n := w.heap.size) (by simp) #[.bool x.fold, .int .i64 x.own, .int .i64 x.grp, .int .i64 x.mode, .string x.text, .slice an x.N.length cn, .slice ak x.K.length ck] 89; replace S := S.alloc_at (n := (w.heap.size + 1)) (by simp) #[.int .i64 r, .int .i64 a, .int .i64 s, .int .i64 gs] 29
 go_upto_region 1 with fail
 generalize ((w.alloc (.cells #[.bool x.fold, .int .i64 x.own, .int .i64 x.grp, .int .i64 x.mode, .string x.text, .slice an x.N.length cn, .slice ak x.K.length ck] 89)).alloc (.cells #[.int .i64 r, .int .i64 a, .int .i64 s, .int .i64 gs] 29)) = w1 at *; obtain ⟨⟨cc0, cf0⟩, ⟨cc1, cf1⟩, ⟨cc2, cf2⟩, ⟨cc3, cf3⟩⟩ := bx4 (S.box 0 rfl); obtain ⟨⟨nc0, nf0⟩, ⟨nc1, nf1⟩, ⟨nc2, nf2⟩, ⟨nc3, nf3⟩, ⟨nc4, nf4⟩, ⟨nc5, nf5⟩, ⟨nc6, nf6⟩⟩ := bx7 (S.box 1 rfl)
 go_wp2_with fail
 refine (HM.out w1).mono ?_; rintro e w2 ⟨rfl, hE⟩; clear cc0 cf0 cc1 cf1 cc2 cf2 cc3 cf3 nc0 nf0 nc1 nf1 nc2 nf2 nc3 nf3 nc4 nf4 nc5 nf5 nc6 nf6; replace S := S.step hE; clear hE; go_wp2; go_ret; exact ⟨rfl, S.ext⟩
theorem idxStr_fn (a : Option Addr) (cap n : Nat) (l : List ByteArray) (w : World) (fn : FuncId) (caps : Array Value) (T : ByteArray → Prop) (hn : n = l.length) (hl : l.length ≤ 9223372036854775807) (hc : Rd 1 encStr1 w a l)
  (hcf : ∀ args w, (callFunc fn args).run Tryz.prog w = .ok (.enter fn args) w) (hfn : ∀ x ∈ l, ∀ w', Ext w w' → Calls Tryz.prog fn (#[.string x] ++ caps) w' (RetB (T x) w')) :
  Calls Tryz.prog 184 #[.slice a n cap, .func (.func fn) #[] caps] w (RetV (fun v _ => ∃ r : Int, v = .int .i64 r ∧ -1 ≤ r ∧ r < n ∧ (∀ (j : Nat) x, (j : Int) < r → l[j]? = some x → ¬ T x) ∧ (0 ≤ r → ∃ x, l[r.toNat]? = some x ∧ T x) ∧ (r < 0 → ∀ (j : Nat) x, l[j]? = some x → ¬ T x)) w) := by
 subst hn
 go_enter Tryz.func184, Tryz.ntmps184
 go_wp2
 go_loopw [5, 8] (fun _ i wr => ∃ k : Nat, k ≤ l.length ∧ i = .int .i64 k ∧ (∀ (j : Nat) x, j < k → l[j]? = some x → ¬ T x) ∧ Ext w wr) (fun _ i _ => l.length - (intOf i).toNat)
 case atStart => exact ⟨0, Nat.zero_le _, rfl, fun _ _ h => absurd h (Nat.not_lt_zero _), Ext.refl _⟩
 case round =>
  obtain ⟨k, hk, rfl, hpre, hb⟩ := hrel; have Hpre := hd0 hpre; clear hpre
  by_cases hlt : k < l.length
  ·obtain ⟨x, b, off, hx, rfl, c0⟩ := atStr (hc.ext hb) hlt; have Hx := hd0 hx; clear hx
   go_wp2_with (refine (hfn x (List.mem_of_getElem? Hx.out) _ hb).mono ?_; rintro e w2 ⟨b0, rfl, he, hb2⟩; have He := hd0 he; clear he)
   ·have hb0 : b0 = true := by assumption
    go_ret; exact RetV.mk ⟨_, rfl, by omega, by omega, fun j y hj hy => Hpre.out j y (by omega) hy, fun _ => ⟨x, Hx.out, He.out.1 hb0⟩, fun h => absurd h (by omega)⟩ (hb.trans hb2)
   ·have hb0 : b0 = false := by assumption
    go_roundw
    case rel =>
     refine ⟨k + 1, by omega, by go_num, fun j y hj hy hT => ?_, hb.trans hb2⟩
     rcases Nat.lt_succ_iff_lt_or_eq.1 hj with h' | rfl
     ·exact Hpre.out j y h' hy hT
     ·have h1 := Hx.out; rw [hy] at h1; cases h1; rw [He.out.2 hT] at hb0; cases hb0
    case measure => simp [intOf]; omega
  ·go_wp2; go_ret
   have hlen : ∀ j y, l[j]? = some y → j < k := fun j y hy => by have := (List.getElem?_eq_some_iff.1 hy).1; omega
   exact RetV.mk ⟨_, rfl, by omega, by omega, fun j y hj hy => absurd hj (by omega), fun h => absurd h (by omega), fun _ j y hy => Hpre.out j y (hlen j y hy) hy⟩ hb
theorem hasStr_fn (a : Option Addr) (cap n : Nat) (l : List ByteArray) (w : World) (fn : FuncId) (caps : Array Value) (T : ByteArray → Prop) (hn : n = l.length) (hl : l.length ≤ 9223372036854775807) (hc : Rd 1 encStr1 w a l)
  (hcf : ∀ args w, (callFunc fn args).run Tryz.prog w = .ok (.enter fn args) w) (hfn : ∀ x ∈ l, ∀ w', Ext w w' → Calls Tryz.prog fn (#[.string x] ++ caps) w' (RetB (T x) w')) :
  Calls Tryz.prog 168 #[.slice a n cap, .func (.func fn) #[] caps] w (RetB (∃ (j : Nat) (x : ByteArray), l[j]? = some x ∧ T x) w) := by
 subst hn
 go_enter Tryz.func168, Tryz.ntmps168
 go_wp2_with (go_at_call 184; refine (idxStr_fn a cap _ l _ fn caps T rfl hl hc hcf hfn).mono ?_; rintro e w2 ⟨v, rfl, ⟨r, rfl, hr⟩, hb2⟩; have Hr := hd0 hr; clear hr)
 go_ret; refine RetB.mk (decide (0 ≤ r)) rfl ?_ hb2; obtain ⟨h1, h2, h3, h4, h5⟩ := Hr.out; rw [decide_eq_true_eq]
 constructor
 ·intro h; obtain ⟨x, hx, ht⟩ := h4 h; exact ⟨_, x, hx, ht⟩
 ·rintro ⟨j, x, hx, ht⟩
  rcases Int.lt_or_le r 0 with h | h
  ·exact absurd ht (h5 h j x hx)
  ·exact h
def IsPre (s : ByteArray) : Prop := ∃ h : 0 < s.size, s[0] = 47
theorem hasPre_any (s : ByteArray) (b : Bool) (hb : b = true ↔ IsPre s) (w : World) (hs : s.size ≤ 9223372036854775807) : Calls Tryz.prog 189 #[.string s, .string ⟨#[47]⟩] w fun e w' => e = .returned (.bool b) ∧ w = w' := by
 have h1 : (⟨#[47]⟩ : ByteArray).size = 1 := rfl
 by_cases h0 : 0 < s.size
 ·have hi : (1 : Int) ≤ (s.size : Int) := by omega
  by_cases hc : s[0] = 47
  ·obtain rfl : b = true := hb.2 ⟨h0, hc⟩
   have e : s.extract 0 1 = ⟨#[47]⟩ := by rw [ext_one h0, hc]
   clear hc hb
   go_enter Tryz.func189, Tryz.ntmps189
   go_wp2; go_ret; exact ⟨by simp [e, h0], rfl⟩
  ·obtain rfl : b = false := by
    cases b with
    | false => rfl
    | true => exact absurd (hb.1 rfl).2 hc
   have e : s.extract 0 1 = ⟨#[s[0]]⟩ := ext_one h0
   have e2 : ((⟨#[s[0]]⟩ : ByteArray).toList == [47]) = false := by
    rw [ByteArray.toList_eq]
    simpa using hc
   have HC := hd0 hc; clear hc hb
   go_enter Tryz.func189, Tryz.ntmps189
   go_wp2; go_ret; refine ⟨?_, rfl⟩; have hc := HC.out; simp [e, e2, hc]
 ·obtain rfl : b = false := by
   cases b with
   | false => rfl
   | true => exact absurd (hb.1 rfl).1 h0
  have hi : ¬ (1 : Int) ≤ (s.size : Int) := by omega
  clear hb
  go_enter Tryz.func189, Tryz.ntmps189
  go_wp2; go_ret; exact ⟨rfl, rfl⟩
theorem cutPre_yes {s : ByteArray} (h0 : 0 < s.size) (hc : s[0] = 47) : s = ⟨#[47]⟩ ++ s.extract 1 s.size := by
 apply ByteArray.ext; have : s.data.size = s.size := rfl; rw [ByteArray.data_append, ByteArray.data_extract]; apply Array.ext
 ·simp; omega
 ·intro i h1 h2
  by_cases hi : i = 0
  ·subst hi; have hc' : s.data[0] = 47 := hc
   simpa using hc'
  ·rw [Array.getElem_append_right (by simp; omega)]; simp only [Array.getElem_extract, List.size_toArray, List.length_cons, List.length_nil]
   congr 1
   omega
theorem cutPre_any (s : ByteArray) (w : World) (hs : s.size ≤ 9223372036854775807) : Calls Tryz.prog 166 #[.string s, .string ⟨#[47]⟩] w fun e w' => ((∃ t, s = ⟨#[47]⟩ ++ t ∧ e = .returned (.tuple #[.string t, .bool true])) ∨ ((∀ t, s ≠ ⟨#[47]⟩ ++ t) ∧ e = .returned (.tuple #[.string s, .bool false]))) ∧ w = w' := by
 have h1 : (⟨#[47]⟩ : ByteArray).size = 1 := rfl
 have key : Calls Tryz.prog 183 #[.string s, .string ⟨#[47]⟩] w fun e w' => ((∃ t, s = ⟨#[47]⟩ ++ t ∧ e = .returned (.tuple #[.string t, .bool true])) ∨ ((∀ t, s ≠ ⟨#[47]⟩ ++ t) ∧ e = .returned (.tuple #[.string s, .bool false]))) ∧ w = w' := by
  by_cases hp : IsPre s
  ·have HX : Hid (true = true ↔ IsPre s) := hd0 ⟨fun _ => hp, fun _ => rfl⟩; obtain ⟨h0, hc⟩ := hp; have HE := hd0 (cutPre_yes h0 hc)
   have hi : (1 : Int) ≤ (s.size : Int) := by omega
   clear hc
   go_enter Tryz.func183, Tryz.ntmps183
   go_wp2_with (go_at_call 189; refine (hasPre_any s _ HX.out _ hs).mono ?_; rintro e w' ⟨rfl, rfl⟩)
   try simp only [Exit.inBlock, Exit.then]
   refine bodyPost_ret (v := .tuple #[.string (s.extract 1 s.size), .bool true]) (by simp [results, Tryz.results183, go_sem]) rfl ?_; exact ⟨.inl ⟨_, HE.out, rfl⟩, rfl⟩
  ·have HX : Hid (false = true ↔ IsPre s) := hd0 ⟨fun h => (by cases h), fun h => absurd h hp⟩
   have HN : Hid (∀ t, s ≠ ⟨#[47]⟩ ++ t) := hd0 (fun t e => hp (by
    subst e; refine ⟨by rw [ByteArray.size_append]; omega, ?_⟩; rw [ByteArray.getElem_append_left (by omega)]
    rfl))
   clear hp
   go_enter Tryz.func183, Tryz.ntmps183
   go_wp2_with (go_at_call 189; refine (hasPre_any s _ HX.out _ hs).mono ?_; rintro e w' ⟨rfl, rfl⟩)
   try simp only [Exit.inBlock, Exit.then]
   refine bodyPost_ret (v := .tuple #[.string s, .bool false]) (by simp [results, Tryz.results183, go_sem]) rfl ?_; exact ⟨.inr ⟨HN.out, rfl⟩, rfl⟩
 have Key := hd0 key; clear key
 go_enter Tryz.func166, Tryz.ntmps166
 go_wp2_with fail
 refine Key.out.mono ?_; rintro e w' ⟨(⟨t, ht, rfl⟩ | ⟨hn, rfl⟩), rfl⟩
 ·have HT := hd0 ht; clear ht; go_wp2
  try simp only [Exit.inBlock, Exit.then]
  refine bodyPost_ret (v := .tuple #[.string t, .bool true]) (by simp [results, Tryz.results166, go_sem]) rfl ?_; exact ⟨.inl ⟨t, HT.out, rfl⟩, rfl⟩
 ·have HN := hd0 hn; clear hn; go_wp2
  try simp only [Exit.inBlock, Exit.then]
  refine bodyPost_ret (v := .tuple #[.string s, .bool false]) (by simp [results, Tryz.results166, go_sem]) rfl ?_; exact ⟨.inr ⟨HN.out, rfl⟩, rfl⟩
theorem join1_call (args : Array Value) (w : World) : (callFunc 169 args).run Tryz.prog w = .ok (.enter 169 args) w := by simp [go_sem]
theorem join1_any (s : ByteArray) (w : World) (hs : s.size ≤ 9223372036854775807) : Calls Tryz.prog 169 (#[.string s] ++ #[]) w (RetB (¬ NameOk s) w) := by
 go_enter Tryz.func169, Tryz.ntmps169
 go_wp2_with (go_at_call 61; refine (implNameValid s _ hs).mono ?_; rintro e w' ⟨b, rfl, hb, hE⟩; have Hb := hd0 hb; have HE := hd0 hE; clear hb hE)
 go_ret; refine RetB.mk (!b) rfl ?_ HE.out; have := Hb.out
 cases b <;> simp_all
theorem implJoinPath (a : Option Addr) (cap : Nat) (P : List ByteArray) (w : World) (hl : P.length ≤ 1048576) (hcap : P.length ≤ cap) (hs : ∀ p ∈ P, p.size ≤ 1048576) (hc : Rd 1 encStr1 w a P) :
  Calls Tryz.prog 148 #[.slice a P.length cap] w (RetV (fun v _ => v = .string (joinPath P)) w) := by
 have HS := hd0 hs; clear hs
 go_enter Tryz.func148, Tryz.ntmps148
 by_cases h6 : 6 < P.length
 ·have HX : Hid (joinPath P = ⟨#[]⟩) := hd0 (by rw [joinPath, if_neg (fun e => by rw [e] at h6; simp at h6), if_neg (fun h => by have := h.2; omega)])
  have h6i : (6 : Int) < (P.length : Int) := by omega
  go_wp2; go_ret; exact ⟨_, rfl, by rw [HX.out]; rfl, Ext.refl _⟩
 have h6i : ¬ (6 : Int) < (P.length : Int) := by omega
 go_wp2_with (go_at_call 168; refine (hasStr_fn a cap _ P _ 169 #[] (fun s => ¬ NameOk s) rfl (by omega) hc join1_call (fun x hx w' _ => join1_any x w' (by have := HS.out x hx; omega))).mono ?_; rintro e w1 ⟨b, rfl, hb, hE⟩; have Hb := hd0 hb; have HE := hd0 hE; clear hb hE)
 ·have hbt : b = true := by assumption
  have HX : Hid (joinPath P = ⟨#[]⟩) := hd0 (by
   obtain ⟨j, x, hx, hn⟩ := Hb.out.1 hbt
   rw [joinPath, if_neg (fun e => by rw [e] at hx; simp at hx), if_neg (fun h => hn (h.1 x (List.mem_of_getElem? hx)))])
  go_ret; exact ⟨_, rfl, by rw [HX.out]; rfl, HE.out⟩
 ·have hbf : b = false := by assumption
  have hok : PartsOk P := by
   refine ⟨fun p hp => ?_, by omega⟩; obtain ⟨j, hj⟩ := List.getElem?_of_mem hp
   by_cases hn : NameOk p
   ·exact hn
   ·have := Hb.out.2 ⟨j, p, hj, hn⟩; rw [hbf] at this; cases this
  by_cases hP : P = []
  ·subst hP; have HX : Hid (joinPath [] = ⟨#[47]⟩) := hd0 (by simp [joinPath]); refine (join_none a cap ⟨#[47]⟩ w1).mono ?_; rintro e w2 ⟨rfl, rfl⟩; go_wp2; go_ret; exact ⟨_, rfl, by rw [HX.out]; rfl, HE.out⟩
  ·have hpos : 0 < P.length := List.length_pos_iff.2 hP; obtain ⟨_, bk, o, _, rfl, _⟩ := atStr hc hpos; have HX : Hid (joinPath P = ⟨#[47]⟩ ++ joinS P ⟨#[47]⟩) := hd0 (by rw [joinPath_ok hok hP, joinB_lib hP]; rfl)
   have hlen : (Lib.join (P.map (·.data.toList)) [47]).length ≤ 6 * 9 := by
    have h1 : (joinPath P).size = (⟨#[47]⟩ ++ joinS P ⟨#[47]⟩ : ByteArray).size := by rw [HX.out]
    have h2 := joinPath_size P; rw [h1, ByteArray.size_append] at h2
    have h3 : (joinS P ⟨#[47]⟩).size = (Lib.join (P.map (·.data.toList)) [47]).length := by unfold joinS; rw [ByteArray.size]; simp
    have h4 : (⟨#[47]⟩ : ByteArray).size = 1 := rfl; omega
   have hjs : (joinS P ⟨#[47]⟩).size ≤ 54 := by
    have h3 : (joinS P ⟨#[47]⟩).size = (Lib.join (P.map (·.data.toList)) [47]).length := by unfold joinS; rw [ByteArray.size]; simp
    omega
   have HJ := hd0 (join_any bk o cap P ⟨#[47]⟩ w1 (fun j x hx => by
    obtain ⟨y, b', off', hy, hb', hcy⟩ := atStr (hc.ext HE.out) (List.getElem?_eq_some_iff.1 hx).1; rw [hx] at hy; cases hy
    cases hb'
    exact hcy) hpos (by omega) hcap (show (Lib.join (P.map (·.data.toList)) [47]).length ≤ _ by omega))
   clear hlen hok hP hpos; refine HJ.out.mono ?_; rintro e w2 ⟨rfl, hE2⟩; generalize joinS P ⟨#[47]⟩ = J at *
   have hj1 : ¬ 9223372036854775807 < 1 + J.size := by omega
   go_wp2; go_ret; exact ⟨_, rfl, by rw [HX.out]; rfl, HE.out.trans hE2⟩
theorem owns_cells {w : World} {D : List ByteArray} {N : Nat} (hN : D.length ≤ N) (h63 : N ≤ 1000000000) : (w.alloc (.cells (Lib.cellsOf D N) 9)).ownsRow w.heap.size 9 1 (.slice (some ⟨w.heap.size, 0, none⟩) D.length N) D.length (D.flatMap encStr1) := by
 refine ⟨by rw [flatMap_length encStr1_len, Nat.mul_one], .inr ⟨w.heap.size, N, Lib.cellsOf D N, rfl, Nat.le_refl _, heap_alloc_new w _, hN, by unfold maxLen; omega, by rw [Lib.cellsOf_size hN, Nat.mul_one], ?_⟩⟩
 have e : D.flatMap encStr1 = D.map Value.string := by
  induction D with
  | nil => rfl
  | cons d D ih => rw [List.flatMap_cons, ih (by simp only [List.length_cons] at hN; omega)]; rfl
 rw [e, Nat.mul_one]; unfold Lib.cellsOf
 have hl : D.length = (D.map Value.string).length := by rw [List.length_map]
 rw [List.take_append_of_le_length (by rw [← hl]; exact Nat.le_refl _), hl, List.take_length]
theorem sep_cells {w0 w : World} {D : List ByteArray} {N : Nat} (hE : Ext w0 w) (hN : D.length ≤ N) (h63 : N ≤ 1000000000) : Sep w0 (w.alloc (.cells (Lib.cellsOf D N) 9)) [plRow 9 1 encStr1 (.slice (some ⟨w.heap.size, 0, none⟩) D.length N) D] :=
 (Sep.of_ext hE).cons ((Ext.refl w).alloc _) (ownsRow_base (owns_cells hN h63) (Nat.zero_le _)) (fun b hb => by
  have h : (Value.slice (some ⟨w.heap.size, 0, none⟩) D.length N).ownBlock = some b := hb; have : w.heap.size = b := Option.some.inj h
  omega)
theorem RetParts.nil {s : ByteArray} {w w' : World} (h : PartsR s [] false) (hE : Ext w w') : RetParts s w (.returned (.tuple #[.slice none 0 0, .bool false])) w' := RetParts.mk false h ((Sep.of_ext hE).nil _ _ _)
theorem implPathParts (s : ByteArray) (w : World) (hs : s.size ≤ 1048576) (hm : MaxG w) :
  Calls Tryz.prog 147 #[.string s] w (RetParts s w) := by
 have HM := hd0 hm; clear hm
 go_enter Tryz.func147, Tryz.ntmps147
 go_wp2_with fail
 refine (cutPre_any s w (by omega)).mono ?_; rintro e w1 ⟨(⟨t, ht, rfl⟩ | ⟨hn, rfl⟩), rfl⟩
 ·have hsz : s.size = 1 + t.size := by rw [ht, ByteArray.size_append]; rfl
  by_cases h0 : t.size = 0
  ·have te : t.toList.isEmpty = true := isEmpty_size.2 h0
   have e47 : s = ⟨#[47]⟩ := by
    rw [ht]; apply ByteArray.ext
    have : t.data = #[] := by
     have : t.data.size = 0 := h0; exact Array.eq_empty_of_size_eq_zero this
    rw [ByteArray.data_append, this]; rfl
   subst e47
   have hrd : Rd 1 encStr1 (w.alloc (.cells #[] 9)) (some ⟨w.heap.size, 0, none⟩) [] := fun i hi => absurd hi (Nat.not_lt_zero _)
   have S := (Sep.start w).lit0 (n := w.heap.size) rfl 9 1 encStr1; have HJ : Hid (joinPath [] = ⟨#[47]⟩) := hd0 (by simp [joinPath]); clear ht hsz h0
   go_wp2_with fail
   refine (implJoinPath (some ⟨w.heap.size, 0, none⟩) 0 [] _ (Nat.zero_le _) (Nat.le_refl _) (fun p hp => by cases hp) hrd).mono ?_; rintro e w2 ⟨v, rfl, rfl, hE⟩; rw [HJ.out]; have HS2 := hd0 (S.step hE); clear S hE hrd; go_wp2; go_ret2; exact RetParts.mk true (parts_root rfl) HS2.out
  ·have hp : 0 < t.size := by omega
   have te : t.toList.isEmpty = false := isEmpty_pos hp; have HT := hd0 ht; have HR := hd0 hp; obtain ⟨D, hD⟩ : ∃ D, D = Lib.splitB ⟨#[47]⟩ 0 (min 7 (t.size + 1) - 1) t := ⟨_, rfl⟩; obtain ⟨N, hN⟩ : ∃ N, N = min 7 (t.size + 1) := ⟨_, rfl⟩
   have hDN : D.length ≤ N := by
    have := Lib.splitB_length_le ⟨#[47]⟩ 0 (min 7 (t.size + 1) - 1) t; rw [← hD] at this; omega
   have hN7 : N ≤ 7 := by omega
   have HDs : Hid (∀ p ∈ D, p.size ≤ 1048576) := hd0 (fun p hp => by
    rw [hD] at hp; have := split_small t _ p hp
    omega)
   have E1 := (Ext.refl w).alloc (.cells #[] 9); have HSp := hd0 (splitN_any t (w.alloc (.cells #[] 9)) (by omega) (HM.out.ext E1)); rw [← hD, ← hN] at HSp; have HD := hd0 hD; have HE1 := hd0 E1; clear ht hsz h0 hp hD hN E1
   go_wp2_with fail
   refine HSp.out.mono ?_; rintro e w2 ⟨rfl, rfl⟩; have S := sep_cells (D := D) (N := N) HE1.out hDN (by omega); generalize (w.alloc (.cells #[] 9)) = w1 at *; generalize (w1.alloc (.cells (Lib.cellsOf D N) 9)) = w2 at *; generalize w1.heap.size = B at *; clear HSp HE1
   go_wp2_with fail
   refine (implJoinPath (some ⟨B, 0, none⟩) N D _ (by omega) hDN HDs.out (S.rd 0 encStr1_len rfl rfl)).mono ?_; rintro e w3 ⟨v, rfl, rfl, hE⟩; have HS3 := hd0 (S.step hE); clear S hE
   by_cases hj : joinPath D = s
   ·have HY : Hid (PartsR s D true) := hd0 (by
     rw [HT.out] at hj ⊢
     exact parts_split_yes HR.out hj)
    rw [hj]; clear hj; go_wp2; go_ret2; exact RetParts.mk true HY.out HS3.out
   ·have HY : Hid (PartsR s [] false) := hd0 (by
     rw [HT.out] at hj ⊢; rw [HD.out] at hj
     exact parts_split_no HR.out hj)
    have tj : ((joinPath D).toList == s.toList) = false := by simpa [bytes_eq] using hj
    clear hj; generalize joinPath D = J at *; go_wp2; go_ret2; exact RetParts.nil HY.out HS3.out.ext
 ·have HY := hd0 (parts_head hn); clear hn
  by_cases h0 : s.size = 0
  ·have te : s.toList.isEmpty = true := isEmpty_size.2 h0; go_wp2; go_ret2; exact RetParts.nil HY.out ((Ext.refl w).alloc _)
  ·have te : s.toList.isEmpty = false := isEmpty_pos (by omega); have E1 := (Ext.refl w).alloc (.cells #[] 9); have HSp := hd0 (splitN_any s (w.alloc (.cells #[] 9)) (by omega) (HM.out.ext E1)); have HE1 := hd0 E1; clear E1 h0
   go_wp2_with fail
   refine HSp.out.mono ?_; rintro e w2 ⟨rfl, rfl⟩; go_wp2; go_ret2; exact RetParts.nil HY.out (HE1.out.alloc _)
theorem implAboveOf (s : ByteArray) (w : World) (hs : s.size ≤ 1048576) (hm : MaxG w) :
  Calls Tryz.prog 115 #[.string s] w fun e w' => e = .returned (.tuple #[.string (abOf s), .string (lastOf s), .bool (aboveOf s).isSome]) ∧ Ext w w' := by
 have HM := hd0 hm; clear hm
 go_enter Tryz.func115, Tryz.ntmps115
 go_wp2_with fail
 refine (implPathParts s w hs HM.out).mono ?_; rintro e w1 ⟨u, P, ok, rfl, hR, S⟩; have HR := hd0 hR; obtain ⟨hP6, hP8⟩ := parts_len hR; have hrow := S.row 0 rfl; obtain ⟨a, c, rfl, hPc, hrd, _⟩ := view_owns encStr1_len hrow; clear hrow
 cases ok with
 | false =>
  obtain rfl := parts_false hR; obtain ⟨e1, e2, e3⟩ := above_no hR; have HE := hd0 (And.intro e1 (And.intro e2 e3)); clear hR e1 e2 e3; go_wp2
  try simp only [Exit.inBlock, Exit.then]
  refine bodyPost_ret (v := .tuple #[.string ⟨#[]⟩, .string ⟨#[]⟩, .bool false]) (by simp [results, Tryz.results115, go_sem]) rfl ?_; exact ⟨by rw [HE.out.1, HE.out.2.1, HE.out.2.2], S.ext⟩
 | true =>
  by_cases hP : P = []
  ·subst hP; obtain ⟨e1, e2, e3⟩ := above_nil hR; have HE := hd0 (And.intro e1 (And.intro e2 e3)); clear hR e1 e2 e3; go_wp2
   try simp only [Exit.inBlock, Exit.then]
   refine bodyPost_ret (v := .tuple #[.string ⟨#[]⟩, .string ⟨#[]⟩, .bool false]) (by simp [results, Tryz.results115, go_sem]) rfl ?_; exact ⟨by rw [HE.out.1, HE.out.2.1, HE.out.2.2], S.ext⟩
  ·obtain ⟨m, hm⟩ : ∃ m, P.length = m + 1 := ⟨P.length - 1, by have := List.length_pos_iff.2 hP; omega⟩; obtain ⟨l, b, off, hl, rfl, c0⟩ := atStr hrd (show m < P.length by omega); obtain ⟨e1, e2, e3⟩ := above_some hR hm hl; have HE := hd0 (And.intro e1 (And.intro e2 e3))
   have hwm : IntKind.i64.wrap ((P.length : Int) - 1) = (m : Int) := by rw [show (P.length : Int) - 1 = m by omega]; exact IntWalk.i64_in _ (by omega)
   have hmi : (m : Int) < (P.length : Int) := by omega
   have hmc : (m : Int) ≤ (c : Int) := by omega
   have hmn : ¬ (m : Int) < 0 := by omega
   have hml : (P.take m).length = m := by rw [List.length_take]; omega
   have Hml := hd0 hml; have hrt := hrd.take m; have Hrt := hd0 hrt; have HX := hd0 S.ext; clear hR e1 e2 e3 hl hm hml hrt hrd S hP; have HP8 := hd0 hP8; clear hP8
   go_wp2_with fail
   have q0 := ExtW.cell c0; have bl := ExtW.lt c0
   have HJ : Hid (∀ s : ExtW w1, Calls Tryz.prog 148 #[.slice (some ⟨b, off, none⟩) m c] s.x fun e w'' => e = .returned (.string (joinPath (P.take m))) ∧ ∃ s' : ExtW w1, w'' = s'.x) := hd0 (fun s => by
    have hC := implJoinPath (some ⟨b, off, none⟩) c (P.take m) s.x (by have := Hml.out; omega) (by have := Hml.out; omega) (fun x hx => by have := HP8.out x (List.mem_of_mem_take hx); omega) (Hrt.out.ext s.h); rw [Hml.out] at hC
    exact Calls.at_v hC)
   clear c0
   (refine wp_region_quiet_ext (by kernel_rfl) (by kernel_rfl) ?_; (repeat (go_big_quiet_step ((go_at_call 148; exact HJ.out _)))); refine wpQuiet_nil ?_; intro _ hw'; obtain ⟨sq, hw''⟩ := hw'; subst hw'')
   obtain ⟨w3, hw3⟩ := sq; go_wp2
   try simp only [Exit.inBlock, Exit.then]
   refine bodyPost_ret (v := .tuple #[.string (joinPath (P.take m)), .string l, .bool true]) (by simp [results, Tryz.results115, go_sem]) rfl ?_; exact ⟨by rw [HE.out.1, HE.out.2.1, HE.out.2.2], HX.out.trans hw3⟩
theorem implTreeValid (a : Option Addr) (cap : Nat) (T : List Nd) (w : World) (hl : T.length ≤ 1048576) (hs : ∀ x ∈ T, SmN 1048576 x) (hc : RdN w a T) :
  Calls Tryz.prog 59 #[.slice a T.length cap] w (RetB (TreeOk T) w) := by
 have HS := hd0 hs; clear hs
 go_enter Tryz.func59, Tryz.ntmps59
 go_wp2_with fail
 refine (implLinksOf a cap T w hl HS.out hc).mono ?_; rintro e w1 ⟨v, rfl, ⟨L, ho, hR⟩, hE⟩; obtain ⟨al, cl, hv, _, hrl, _⟩ := view_owns encInt1_len ho; subst hv; clear ho
 by_cases hM : T.length = 0
 ·obtain rfl : T = [] := List.eq_nil_of_length_eq_zero hM; have HB : Hid (¬ TreeOk []) := hd0 (fun h => by have := h.pos; simp at this); clear hM hR hrl; simp only [List.length_nil]; go_wp2; go_ret; exact RetB.mk false rfl (by simp [HB.out]) hE
 have h1 : 1 ≤ T.length := by omega
 have tM : ((T.length : Int) == 0) = false := by simp; exact fun h => hM (by rw [h]; rfl)
 have hne : ¬ T = [] := fun h => hM (by rw [h]; rfl)
 clear hM
 rcases hR with ⟨hL, rfl⟩ | ⟨hL, rfl⟩
 rotate_left
 ·have HB : Hid (¬ TreeOk T) := hd0 (fun h => hL (tree_link h))
  have t2 : (0 : Int) < (T.length : Int) := by omega
  clear hL hrl; simp only [List.length_nil]; go_wp2; go_ret; exact RetB.mk false rfl (by simp [HB.out]) hE
 have h16 : T.length ≤ 16 := hL.1; have HL := hd0 hL; have HRL := hd0 hrl; have HE := hd0 hE
 have hni0 : ¬ (T.length : Int) < (T.length : Int) := by omega
 have z0 : (0 : Int) < (T.length : Int) := by omega
 rw [cntL_len]; obtain ⟨r, b, off, rn, cn, rk, ck, hr, hpe, c0, _⟩ := atNd (hc.ext hE) (show 0 < T.length by omega); simp only [Nat.zero_mul, Nat.add_zero] at c0; subst hpe; obtain ⟨y, b2, off2, hy, hpl, e0⟩ := atInt hrl (show 0 < (cntL T.length (kids T)).length by rw [cntL_len]; omega); rw [cntL_get (show 0 < T.length by omega)] at hy; obtain rfl := Option.some.inj hy; simp only [Nat.add_zero] at e0; subst hpl; clear hy hL hrl hE
 cases hf : r.fold with
 | false =>
  have HB : Hid (¬ TreeOk T) := hd0 (fun h => Bool.noConfusion (hf.symm.trans (h.root r hr))); rw [hf] at c0; clear hf hr; go_wp2; go_ret; exact RetB.mk false rfl (by simp [HB.out]) HE.out
 | true =>
  have HRT : Hid (∀ n, T[0]? = some n → n.fold = true) := hd0 (fun n hn => by rw [hr] at hn; cases hn; exact hf); rw [hf] at c0; clear hf hr; have HZ := hd0 (show (kids T).count (0 : Int) = (kids T).count ((0 : Nat) : Int) from rfl)
  by_cases hz : 0 < (kids T).count ((0 : Nat) : Int)
  ·have HB : Hid (¬ TreeOk T) := hd0 (fun h => by have := tree_zero h; rw [HZ.out] at this; omega); generalize (kids T).count ((0 : Nat) : Int) = c at *
   have t3 : (0 : Int) < (c : Int) := by omega
   clear hz; go_wp2; go_ret; exact RetB.mk false rfl (by simp [HB.out]) HE.out
  ·have HZ0 : Hid ((kids T).count (0 : Int) = 0) := hd0 (by rw [HZ.out]; omega)
   have hz2 : ((kids T).count ((0 : Nat) : Int) : Int) = 0 := by omega
   rw [hz2] at e0; clear hz hz2; go_wp2
   go_loopw [4, 5, 7, 35] (fun _ _ _ i wr => ∃ k : Nat, k ≤ T.length ∧ i = .int .i64 k ∧ (∀ (j : Nat) n, j < k → T[j]? = some n → NodeI n ∧ (0 < j → LkOk T j n) ∧ ∀ x ∈ n.K, DownOk T j x) ∧ Ext w1 wr) (fun _ _ _ i _ => T.length - (intOf i).toNat)
   case atStart => exact ⟨0, Nat.zero_le _, rfl, fun _ _ h => absurd h (Nat.not_lt_zero _), Ext.refl _⟩
   case round =>
    clear c0 e0; obtain ⟨k, hk, rfl, hpre, hb1⟩ := hrel; have Hpre := hd0 hpre; have hb := HE.out.trans hb1; clear hpre
    by_cases hlt : k < T.length
    rotate_left
    ·obtain rfl : k = T.length := by omega
     have HO := hd0 (tree_of HL.out h1 HRT.out HZ0.out Hpre.out); go_wp2; go_ret; exact RetB.mk true rfl (by simp [HO.out]) hb
    ·obtain ⟨x, b', off', an, cn, ak, ck, hx, hpe, c0, c1, c2, c3, c4, c5, c6, hcn, hck, hrn, hrk⟩ := atNd (hc.ext hb) hlt
     obtain ⟨rfl, rfl⟩ : b = b' ∧ off = off' := by simpa using hpe
     have Hx := hd0 hx; have hsx := hd0 (HS.out x (List.mem_of_getElem? hx))
     have i0 : (k : Int) < (T.length : Int) := by omega
     have S := Sep.start wr; clear hx hcn hck hpe; replace S := S.alloc_at (n := wr.heap.size) (by simp) #[.bool x.fold, .int .i64 x.own, .int .i64 x.grp, .int .i64 x.mode, .string x.text, .slice an x.N.length cn, .slice ak x.K.length ck] 89
     go_upto_region 7 with fail
     generalize (wr.alloc (.cells #[.bool x.fold, .int .i64 x.own, .int .i64 x.grp, .int .i64 x.mode, .string x.text, .slice an x.N.length cn, .slice ak x.K.length ck] 89)) = wa at *; clear c0 c1 c2 c3 c4 c5 c6; obtain ⟨⟨nbc0, nbf0⟩, ⟨nbc1, nbf1⟩, ⟨nbc2, nbf2⟩, ⟨nbc3, nbf3⟩, ⟨nbc4, nbf4⟩, ⟨nbc5, nbf5⟩, ⟨nbc6, nbf6⟩⟩ := bx7 (S.box 0 rfl)
     go_wp2_with fail
     clear nbc0 nbf0 nbc1 nbf1 nbc2 nbf2 nbc3 nbf3 nbc4 nbf4 nbc5 nbf5 nbc6 nbf6; refine (implNode x an ak cn ck wa hsx.out (hrn.ext S.ext)).mono ?_; rintro e w3 ⟨v, rfl, hv, hE⟩; have Hv := hd0 hv; clear hv; replace S := S.step hE; clear hE; obtain ⟨⟨nbc0, nbf0⟩, ⟨nbc1, nbf1⟩, ⟨nbc2, nbf2⟩, ⟨nbc3, nbf3⟩, ⟨nbc4, nbf4⟩, ⟨nbc5, nbf5⟩, ⟨nbc6, nbf6⟩⟩ := bx7 (S.box 0 rfl)
     cases v with
     | false =>
      have HB : Hid (¬ TreeOk T) := hd0 (fun h => Bool.noConfusion (Hv.out.2 (nodeOk_iff.1 (h.nodes k x Hx.out)).1)); go_wp2; go_ret; exact RetB.mk false rfl (by simp [HB.out]) (hb.trans S.ext)
     | true =>
      have HN := hd0 (Hv.out.1 rfl); have HBL : Hid (0 < k → ¬ LkOk T k x → ¬ TreeOk T) := hd0 (fun h0 h ht => h (ht.links k x Hx.out h0)); have hkl := hsx.out.2.2.2; clear Hv; have Hrk : Hid (∀ wz, Ext wr wz → Rd 1 encInt1 wz ak x.K) := hd0 (fun wz h => hrk.ext h); clear hrk hrn; obtain ⟨y, b3, off3, hy, hpl, e0⟩ := atInt (HRL.out.ext (hb1.trans S.ext)) (show k < (cntL T.length (kids T)).length by rw [cntL_len]; exact hlt); rw [cntL_get hlt] at hy; obtain rfl := Option.some.inj hy
      obtain ⟨rfl, rfl⟩ : b2 = b3 ∧ off2 = off3 := by simpa using hpl
      have HQ := hd0 (show LkOk T k x ↔ 1 ≤ (kids T).count (k : Int) ∧ (x.fold = true → (kids T).count (k : Int) ≤ 1) from Iff.rfl); generalize (kids T).count (k : Int) = c at *; clear hy hpl
      by_cases hk0 : k = 0
      ·have Hlk : Hid (0 < k → LkOk T k x) := hd0 (fun h0 => absurd h0 (by omega))
       have tk : ¬ (0 : Int) < (k : Int) := by omega
       clear hk0; have HW := hd0 S.ext; clear e0; go_wp2
       go_loopw [7, 72] (fun _ i wz => ∃ m : Nat, m ≤ x.K.length ∧ i = .int .i64 m ∧ (∀ (j : Nat) y, j < m → x.K[j]? = some y → DownOk T k y) ∧ Ext w3 wz) (fun _ i _ => x.K.length - (intOf i).toNat)
       case atStart => exact ⟨0, Nat.zero_le _, rfl, fun _ _ h => absurd h (Nat.not_lt_zero _), Ext.refl _⟩
       case round =>
        clear S tk; obtain ⟨m, hm, rfl, hpre2, hb3⟩ := hrel; have Hpre2 := hd0 hpre2; have hbw := hb.trans (HW.out.trans hb3); clear hpre2
        by_cases hlm : m < x.K.length
        rotate_left
        ·obtain rfl : m = x.K.length := by omega
         have hni : ¬ (x.K.length : Int) < (x.K.length : Int) := by omega
         have Hnext := hd0 (all_next (Q := fun j n => NodeI n ∧ (0 < j → LkOk T j n) ∧ ∀ x ∈ n.K, DownOk T j x) Hpre.out Hx.out ⟨HN.out, Hlk.out, all_mem Hpre2.out⟩); have HF := hd0 (hb1.trans (HW.out.trans hb3)); go_wp2; go_roundw
         case rel => exact ⟨k + 1, by omega, by go_num, Hnext.out, HF.out⟩
         case measure => simp [intOf]; omega
        ·obtain ⟨y, b4, off4, hy, rfl, e4⟩ := atInt (Hrk.out _ (HW.out.trans hb3)) hlm; have Hy := hd0 hy
         have j0 : (m : Int) < (x.K.length : Int) := by omega
         obtain ⟨i, rfl, hiM⟩ := in_cast (HL.out.2 y (kids_mem Hx.out (List.mem_of_getElem? hy)))
         have k0 : (i : Int) < (T.length : Int) := by omega
         obtain ⟨z, b', off', an', cn', ak', ck', hz, hpe, f0, _⟩ := atNd (hc.ext hbw) hiM
         obtain ⟨rfl, rfl⟩ : b = b' ∧ off = off' := by simpa using hpe
         have Hz := hd0 hz; clear hy hz hpe
         cases hzf : z.fold with
         | false =>
          have Hnext := hd0 (all_next (Q := fun _ y => DownOk T k y) Hpre2.out Hy.out (down_file Hz.out hzf)); rw [hzf] at f0; clear hzf; go_wp2; go_roundw
          case rel => exact ⟨m + 1, by omega, by go_num, Hnext.out, hb3⟩
          case measure => simp [intOf]; omega
         | true =>
          by_cases hik : i ≤ k
          ·have HB : Hid (¬ TreeOk T) := hd0 (fun h => down_bad Hz.out hzf hik (h.down k x Hx.out _ (List.mem_of_getElem? Hy.out)))
           have t1 : (i : Int) ≤ (k : Int) := by omega
           rw [hzf] at f0; clear hzf; go_wp2; go_ret; exact RetB.mk false rfl (by simp [HB.out]) hbw
          ·have Hnext := hd0 (all_next (Q := fun _ y => DownOk T k y) Hpre2.out Hy.out (down_good (T := T) (show k < i by omega)))
           have t1 : ¬ (i : Int) ≤ (k : Int) := by omega
           rw [hzf] at f0; clear hzf; go_wp2; go_roundw
           case rel => exact ⟨m + 1, by omega, by go_num, Hnext.out, hb3⟩
           case measure => simp [intOf]; omega
      ·have tk : (0 : Int) < (k : Int) := by omega
       have hk1 : 0 < k := by omega
       clear hk0
       by_cases hc0 : c = 0
       ·have HB := hd0 (HBL.out hk1 (fun h => by have := (HQ.out.1 h).1; omega))
        have hz : (c : Int) = 0 := by omega
        rw [hz] at e0; clear hz hc0; go_wp2; go_ret; exact RetB.mk false rfl (by simp [HB.out]) (hb.trans S.ext)
       ·have tc : ((c : Int) == 0) = false := by simp; omega
        cases hxf : x.fold with
        | false =>
         have Hlk : Hid (0 < k → LkOk T k x) := hd0 (fun _ => HQ.out.2 ⟨by omega, fun h => Bool.noConfusion (hxf.symm.trans h)⟩); rw [hxf] at nbc0; clear hxf; have HW := hd0 S.ext; go_wp2
         go_loopw [7, 72] (fun _ i wz => ∃ m : Nat, m ≤ x.K.length ∧ i = .int .i64 m ∧ (∀ (j : Nat) y, j < m → x.K[j]? = some y → DownOk T k y) ∧ Ext w3 wz) (fun _ i _ => x.K.length - (intOf i).toNat)
         case atStart => exact ⟨0, Nat.zero_le _, rfl, fun _ _ h => absurd h (Nat.not_lt_zero _), Ext.refl _⟩
         case round =>
          clear e0; clear S tk hk1 hc0 tc; obtain ⟨m, hm, rfl, hpre2, hb3⟩ := hrel; have Hpre2 := hd0 hpre2; have hbw := hb.trans (HW.out.trans hb3); clear hpre2
          by_cases hlm : m < x.K.length
          rotate_left
          ·obtain rfl : m = x.K.length := by omega
           have hni : ¬ (x.K.length : Int) < (x.K.length : Int) := by omega
           have Hnext := hd0 (all_next (Q := fun j n => NodeI n ∧ (0 < j → LkOk T j n) ∧ ∀ x ∈ n.K, DownOk T j x) Hpre.out Hx.out ⟨HN.out, Hlk.out, all_mem Hpre2.out⟩); have HF := hd0 (hb1.trans (HW.out.trans hb3)); go_wp2; go_roundw
           case rel => exact ⟨k + 1, by omega, by go_num, Hnext.out, HF.out⟩
           case measure => simp [intOf]; omega
          ·obtain ⟨y, b4, off4, hy, rfl, e4⟩ := atInt (Hrk.out _ (HW.out.trans hb3)) hlm; have Hy := hd0 hy
           have j0 : (m : Int) < (x.K.length : Int) := by omega
           obtain ⟨i, rfl, hiM⟩ := in_cast (HL.out.2 y (kids_mem Hx.out (List.mem_of_getElem? hy)))
           have k0 : (i : Int) < (T.length : Int) := by omega
           obtain ⟨z, b', off', an', cn', ak', ck', hz, hpe, f0, _⟩ := atNd (hc.ext hbw) hiM
           obtain ⟨rfl, rfl⟩ : b = b' ∧ off = off' := by simpa using hpe
           have Hz := hd0 hz; clear hy hz hpe
           cases hzf : z.fold with
           | false =>
            have Hnext := hd0 (all_next (Q := fun _ y => DownOk T k y) Hpre2.out Hy.out (down_file Hz.out hzf)); rw [hzf] at f0; clear hzf; go_wp2; go_roundw
            case rel => exact ⟨m + 1, by omega, by go_num, Hnext.out, hb3⟩
            case measure => simp [intOf]; omega
           | true =>
            by_cases hik : i ≤ k
            ·have HB : Hid (¬ TreeOk T) := hd0 (fun h => down_bad Hz.out hzf hik (h.down k x Hx.out _ (List.mem_of_getElem? Hy.out)))
             have t1 : (i : Int) ≤ (k : Int) := by omega
             rw [hzf] at f0; clear hzf; go_wp2; go_ret; exact RetB.mk false rfl (by simp [HB.out]) hbw
            ·have Hnext := hd0 (all_next (Q := fun _ y => DownOk T k y) Hpre2.out Hy.out (down_good (T := T) (show k < i by omega)))
             have t1 : ¬ (i : Int) ≤ (k : Int) := by omega
             rw [hzf] at f0; clear hzf; go_wp2; go_roundw
             case rel => exact ⟨m + 1, by omega, by go_num, Hnext.out, hb3⟩
             case measure => simp [intOf]; omega
        | true =>
         by_cases hc1 : 1 < c
         ·have HB := hd0 (HBL.out hk1 (fun h => by have := (HQ.out.1 h).2 hxf; omega))
          have t2 : (1 : Int) < (c : Int) := by omega
          rw [hxf] at nbc0; clear hxf hc1; go_wp2; go_ret; exact RetB.mk false rfl (by simp [HB.out]) (hb.trans S.ext)
         ·have Hlk : Hid (0 < k → LkOk T k x) := hd0 (fun _ => HQ.out.2 ⟨by omega, fun _ => by omega⟩)
          have t2 : ¬ (1 : Int) < (c : Int) := by omega
          rw [hxf] at nbc0; clear hxf hc1; have HW := hd0 S.ext; go_wp2
          go_loopw [7, 72] (fun _ i wz => ∃ m : Nat, m ≤ x.K.length ∧ i = .int .i64 m ∧ (∀ (j : Nat) y, j < m → x.K[j]? = some y → DownOk T k y) ∧ Ext w3 wz) (fun _ i _ => x.K.length - (intOf i).toNat)
          case atStart => exact ⟨0, Nat.zero_le _, rfl, fun _ _ h => absurd h (Nat.not_lt_zero _), Ext.refl _⟩
          case round =>
           clear e0; clear S tk hk1 hc0 tc t2; obtain ⟨m, hm, rfl, hpre2, hb3⟩ := hrel; have Hpre2 := hd0 hpre2; have hbw := hb.trans (HW.out.trans hb3); clear hpre2
           by_cases hlm : m < x.K.length
           rotate_left
           ·obtain rfl : m = x.K.length := by omega
            have hni : ¬ (x.K.length : Int) < (x.K.length : Int) := by omega
            have Hnext := hd0 (all_next (Q := fun j n => NodeI n ∧ (0 < j → LkOk T j n) ∧ ∀ x ∈ n.K, DownOk T j x) Hpre.out Hx.out ⟨HN.out, Hlk.out, all_mem Hpre2.out⟩); have HF := hd0 (hb1.trans (HW.out.trans hb3)); go_wp2; go_roundw
            case rel => exact ⟨k + 1, by omega, by go_num, Hnext.out, HF.out⟩
            case measure => simp [intOf]; omega
           ·obtain ⟨y, b4, off4, hy, rfl, e4⟩ := atInt (Hrk.out _ (HW.out.trans hb3)) hlm; have Hy := hd0 hy
            have j0 : (m : Int) < (x.K.length : Int) := by omega
            obtain ⟨i, rfl, hiM⟩ := in_cast (HL.out.2 y (kids_mem Hx.out (List.mem_of_getElem? hy)))
            have k0 : (i : Int) < (T.length : Int) := by omega
            obtain ⟨z, b', off', an', cn', ak', ck', hz, hpe, f0, _⟩ := atNd (hc.ext hbw) hiM
            obtain ⟨rfl, rfl⟩ : b = b' ∧ off = off' := by simpa using hpe
            have Hz := hd0 hz; clear hy hz hpe
            cases hzf : z.fold with
            | false =>
             have Hnext := hd0 (all_next (Q := fun _ y => DownOk T k y) Hpre2.out Hy.out (down_file Hz.out hzf)); rw [hzf] at f0; clear hzf; go_wp2; go_roundw
             case rel => exact ⟨m + 1, by omega, by go_num, Hnext.out, hb3⟩
             case measure => simp [intOf]; omega
            | true =>
             by_cases hik : i ≤ k
             ·have HB : Hid (¬ TreeOk T) := hd0 (fun h => down_bad Hz.out hzf hik (h.down k x Hx.out _ (List.mem_of_getElem? Hy.out)))
              have t1 : (i : Int) ≤ (k : Int) := by omega
              rw [hzf] at f0; clear hzf; go_wp2; go_ret; exact RetB.mk false rfl (by simp [HB.out]) hbw
             ·have Hnext := hd0 (all_next (Q := fun _ y => DownOk T k y) Hpre2.out Hy.out (down_good (T := T) (show k < i by omega)))
              have t1 : ¬ (i : Int) ≤ (k : Int) := by omega
              rw [hzf] at f0; clear hzf; go_wp2; go_roundw
              case rel => exact ⟨m + 1, by omega, by go_num, Hnext.out, hb3⟩
              case measure => simp [intOf]; omega
def KerOk (T : List Nd) (r a s g : Int) : Prop := TreeOk T ∧ CredOk r a s g
theorem specKernelValid (at_ : Option Addr) (cap : Nat) (T : List Nd) (r a s g : Int) (w : World) (hl : T.length ≤ 1048576) (hs : ∀ x ∈ T, SmN 1048576 x) (hc : RdN w at_ T) :
  Calls Tryz.prog 28 #[.agg #[.slice at_ T.length cap, .int .i64 r, .int .i64 a, .int .i64 s, .int .i64 g]] w (RetB (KerOk T r a s g) w) := by
 have HS := hd0 hs; clear hs
 go_enter Tryz.func28, Tryz.ntmps28
 have S := Sep.start w; replace S := S.alloc_at (n := w.heap.size) (by simp) #[.slice at_ T.length cap, .int .i64 r, .int .i64 a, .int .i64 s, .int .i64 g] 31
 go_wp2_with fail
 generalize (w.alloc (.cells #[.slice at_ T.length cap, .int .i64 r, .int .i64 a, .int .i64 s, .int .i64 g] 31)) = w1 at *; refine (specTreeValid at_ cap T w1 hl HS.out (hc.ext S.ext)).mono ?_; rintro e w2 ⟨v1, rfl, hv1, hE⟩; have Hv1 := hd0 hv1; clear hv1; replace S := S.step hE; clear hE
 cases v1 with
 | false =>
  go_wp2; go_ret; exact RetB.mk false rfl (by simp only [Bool.false_eq_true, false_iff]; exact fun h => Bool.noConfusion (Hv1.out.2 h.1)) S.ext
 | true =>
  obtain ⟨⟨bc0, bf0⟩, ⟨bc1, bf1⟩, ⟨bc2, bf2⟩, ⟨bc3, bf3⟩, ⟨bc4, bf4⟩⟩ := bx5 (S.box 0 rfl)
  go_wp2_with fail
  refine (specCredValid r a s g w2).mono ?_; rintro e w3 ⟨v2, rfl, hv2, hE⟩; have Hv2 := hd0 hv2; clear hv2; clear bc0 bf0 bc1 bf1 bc2 bf2 bc3 bf3 bc4 bf4; replace S := S.step hE; clear hE; go_wp2; go_ret; exact RetB.mk v2 rfl ⟨fun h => ⟨Hv1.out.1 trivial, Hv2.out.1 h⟩, fun h => Hv2.out.2 h.2⟩ S.ext
theorem implKernelValid (at_ : Option Addr) (cap : Nat) (T : List Nd) (r a s g : Int) (w : World) (hl : T.length ≤ 1048576) (hs : ∀ x ∈ T, SmN 1048576 x) (hc : RdN w at_ T) :
  Calls Tryz.prog 19 #[.agg #[.slice at_ T.length cap, .int .i64 r, .int .i64 a, .int .i64 s, .int .i64 g]] w (RetB (KerOk T r a s g) w) := by
 have HS := hd0 hs; clear hs
 go_enter Tryz.func19, Tryz.ntmps19
 have S := Sep.start w; replace S := S.alloc_at (n := w.heap.size) (by simp) #[.slice at_ T.length cap, .int .i64 r, .int .i64 a, .int .i64 s, .int .i64 g] 31
 go_wp2_with fail
 generalize (w.alloc (.cells #[.slice at_ T.length cap, .int .i64 r, .int .i64 a, .int .i64 s, .int .i64 g] 31)) = w1 at *; refine (implTreeValid at_ cap T w1 hl HS.out (hc.ext S.ext)).mono ?_; rintro e w2 ⟨v1, rfl, hv1, hE⟩; have Hv1 := hd0 hv1; clear hv1; replace S := S.step hE; clear hE
 cases v1 with
 | false =>
  go_wp2; go_ret; exact RetB.mk false rfl (by simp only [Bool.false_eq_true, false_iff]; exact fun h => Bool.noConfusion (Hv1.out.2 h.1)) S.ext
 | true =>
  obtain ⟨⟨bc0, bf0⟩, ⟨bc1, bf1⟩, ⟨bc2, bf2⟩, ⟨bc3, bf3⟩, ⟨bc4, bf4⟩⟩ := bx5 (S.box 0 rfl)
  go_wp2_with fail
  refine (implCredValid r a s g w2).mono ?_; rintro e w3 ⟨v2, rfl, hv2, hE⟩; have Hv2 := hd0 hv2; clear hv2; clear bc0 bf0 bc1 bf1 bc2 bf2 bc3 bf3 bc4 bf4; replace S := S.step hE; clear hE; go_wp2; go_ret; exact RetB.mk v2 rfl ⟨fun h => ⟨Hv1.out.1 trivial, Hv2.out.1 h⟩, fun h => Hv2.out.2 h.2⟩ S.ext
theorem implFindNode (a : Option Addr) (cap : Nat) (T : List Nd) (c : Cr) (s : ByteArray) (w : World) (hs : s.size ≤ 1048576) (hl : T.length ≤ 1048576) (hT : ∀ x ∈ T, SmN 1048576 x) (hc : RdN w a T) (hm : MaxG w) :
  Calls Tryz.prog 122 #[.slice a T.length cap, .agg #[.int .i64 c.r, .int .i64 c.a, .int .i64 c.s, .int .i64 c.g], .string s] w fun e w' => e = .returned (.tuple #[.int .i64 (findNode T c s).1, .int .i64 (findNode T c s).2]) ∧ Ext w w' := by
 obtain ⟨cr, ca, cs, cg⟩ := c; have HT := hd0 hT; have HM := hd0 hm; clear hT hm; dsimp only
 go_enter Tryz.func122, Tryz.ntmps122
 have S := Sep.start w; replace S := S.alloc_at (n := w.heap.size) (by simp) #[.int .i64 cr, .int .i64 ca, .int .i64 cs, .int .i64 cg] 29
 go_wp2_with fail
 generalize (w.alloc (.cells #[.int .i64 cr, .int .i64 ca, .int .i64 cs, .int .i64 cg] 29)) = w1 at *; refine (implPathParts s w1 hs (HM.out.ext S.ext)).mono ?_; rintro e w2 ⟨u, P, ok, rfl, hR, S2⟩; replace S : Sep w w2 [plRow 9 1 encStr1 u P, plBox w.heap.size #[.int .i64 cr, .int .i64 ca, .int .i64 cs, .int .i64 cg] 29] := S.call S2; clear S2; have HR := hd0 hR; obtain ⟨hP6, hP8⟩ := parts_len hR; clear hP8 hR
 cases ok with
 | false =>
  have HE := hd0 (find_no (T := T) (c := ⟨cr, ca, cs, cg⟩) HR.out); go_wp2; go_ret2; exact ⟨by rw [HE.out]; rfl, S.ext⟩
 | true =>
  go_wp2_with fail
  refine (implTreeValid a cap T w2 hl HT.out (hc.ext S.ext)).mono ?_; rintro e w3 ⟨v, rfl, hv, hE⟩; have Hv := hd0 hv; clear hv; replace S := S.step hE; clear hE
  cases v with
  | false =>
   have HE := hd0 (find_bad (T := T) (c := ⟨cr, ca, cs, cg⟩) HR.out (fun h => Bool.noConfusion (Hv.out.2 h.1))); go_wp2; go_ret2; exact ⟨by rw [HE.out]; rfl, S.ext⟩
  | true =>
   have HTr := hd0 (Hv.out.1 rfl); clear Hv; obtain ⟨⟨bc0, bf0⟩, ⟨bc1, bf1⟩, ⟨bc2, bf2⟩, ⟨bc3, bf3⟩⟩ := bx4 (S.box 1 rfl)
   go_wp2_with fail
   refine (implCredValid cr ca cs cg w3).mono ?_; rintro e w4 ⟨v, rfl, hv, hE⟩; have Hv := hd0 hv; clear hv; clear bc0 bf0 bc1 bf1 bc2 bf2 bc3 bf3; replace S := S.step hE; clear hE
   cases v with
   | false =>
    have HE := hd0 (find_bad (T := T) (c := ⟨cr, ca, cs, cg⟩) HR.out (fun h => Bool.noConfusion (Hv.out.2 h.2))); go_wp2; go_ret2; exact ⟨by rw [HE.out]; rfl, S.ext⟩
   | true =>
    have HE := hd0 (find_go (T := T) (c := ⟨cr, ca, cs, cg⟩) HR.out ⟨HTr.out, Hv.out.1 rfl⟩); have HCo : Hid (Cr.ok ⟨cr, ca, cs, cg⟩) := hd0 (Hv.out.1 rfl); clear Hv HR; have hrow := S.row 0 rfl; obtain ⟨pa, pc, rfl, hPc, _, _⟩ := view_owns encStr1_len hrow; clear hrow; have hpos := HTr.out.pos; go_wp2
    go_loopw [10, 12, 13, 33, 43, 50, 58] (fun at_ _ _ i _ _ _ wr => ∃ k m : Nat, k ≤ P.length ∧ m < T.length ∧ at_ = .int .i64 m ∧ i = .int .i64 k ∧ findFrom T ⟨cr, ca, cs, cg⟩ P 0 = findFrom T ⟨cr, ca, cs, cg⟩ (P.drop k) (m : Int) ∧ Sep w wr [plRow 9 1 encStr1 (.slice pa P.length pc) P, plBox w.heap.size #[.int .i64 cr, .int .i64 ca, .int .i64 cs, .int .i64 cg] 29]) (fun _ _ _ i _ _ _ _ => P.length - (intOf i).toNat)
    case atStart => exact ⟨0, 0, Nat.zero_le _, by omega, rfl, rfl, by rw [List.drop_zero]; rfl, S⟩
    case round =>
     clear S; obtain ⟨k, m, hk, hm, rfl, rfl, hpre, S⟩ := hrel; have Hpre := hd0 hpre; clear hpre
     by_cases hlt : k < P.length
     rotate_left
     ·obtain rfl : k = P.length := by omega
      have hni : ¬ (P.length : Int) < (P.length : Int) := by omega
      have HX := hd0 (HE.out.trans (Hpre.out.trans (by rw [List.drop_length]; rfl : _ = ((m : Int), (0 : Int))))); go_wp2; go_ret2; exact ⟨by rw [HX.out]; rfl, S.ext⟩
     ·obtain ⟨x, b', off, an, cn, ak, ck, hx, rfl, c0, c1, c2, c3, c4, c5, c6, hcn, hck, hrn, hrk⟩ := atNd hc hm; have hrP : Rd 1 encStr1 wr pa P := S.rd 0 encStr1_len rfl rfl; obtain ⟨p, b2, off2, hp, rfl, e0⟩ := atStr hrP hlt; have Hx := hd0 hx; have hN := HTr.out.nodes m x hx; have HN := hd0 hN; have hsx := HT.out x (List.mem_of_getElem? hx); have hNl : x.N.length ≤ 1048576 := hsx.2.1; have Hd := hd0 (HE.out.trans (Hpre.out.trans (ff_drop hp (m : Int))))
      have i0 : (k : Int) < (P.length : Int) := by omega
      have i1 : (m : Int) < (T.length : Int) := by omega
      have hE := S.ext; have d0 := cell_ext hE c0; have d1 := cell_ext hE c1; have d2 := cell_ext hE c2; have d3 := cell_ext hE c3; have d4 := cell_ext hE c4; have d5 := cell_ext hE c5; have d6 := cell_ext hE c6; have HKd := hd0 (implKid x T.length an ak cn ck p wr hN hNl (hrn.ext hE) (hrk.ext hE)); clear hx hp hN hsx c0 c1 c2 c3 c4 c5 c6 hcn hck hrn hrk hrP hE Hpre
      go_wp2_with fail
      refine HKd.out.mono ?_; rintro e w5 ⟨rfl, hw5⟩; replace d0 := cell_ext hw5 d0; replace d1 := cell_ext hw5 d1; replace d2 := cell_ext hw5 d2; replace d3 := cell_ext hw5 d3; replace d4 := cell_ext hw5 d4; replace d5 := cell_ext hw5 d5; replace d6 := cell_ext hw5 d6; replace S := S.step hw5; clear hw5; clear e0 HKd
      cases hf : x.fold with
      | false =>
       have HX := hd0 (Hd.out.trans (ff_file Hx.out hf)); rw [hf] at d0; clear hf; go_wp2; go_ret2; exact ⟨by rw [HX.out]; rfl, S.ext⟩
      | true =>
       have Hf := hd0 hf; obtain ⟨⟨bc0, bf0⟩, ⟨bc1, bf1⟩, ⟨bc2, bf2⟩, ⟨bc3, bf3⟩⟩ := bx4 (S.box 1 rfl)
       have HMy : Hid (∀ s : ExtW w5, Calls Tryz.prog 128 #[.agg #[.bool true, .int .i64 x.own, .int .i64 x.grp, .int .i64 x.mode, .string x.text, .slice an x.N.length cn, .slice ak x.K.length ck], .agg #[.int .i64 cr, .int .i64 ca, .int .i64 cs, .int .i64 cg], .int .i64 1] s.x fun e w'' => e = .returned (.bool (Cr.may ⟨cr, ca, cs, cg⟩ x 1)) ∧ ∃ s' : ExtW w5, w'' = s'.x) := hd0 (fun s => by
        have hC := implAllows ⟨cr, ca, cs, cg⟩ 1 x T.length an ak cn ck s.x HN.out HCo.out (by omega); rw [hf] at hC
        exact Calls.at_e hC)
       rw [hf] at d0; clear hf
       go_wp2_with fail
       have q0 := ExtW.cell d0; have q1 := ExtW.cell d1; have q2 := ExtW.cell d2; have q3 := ExtW.cell d3; have q4 := ExtW.cell d4; have q5 := ExtW.cell d5; have q6 := ExtW.cell d6; have bl := ExtW.lt d0; have r0 := ExtW.cell bc0; have r1 := ExtW.cell bc1; have r2 := ExtW.cell bc2; have r3 := ExtW.cell bc3; have br := ExtW.lt bc0; have S9 := hd0 S; clear d0 d1 d2 d3 d4 d5 d6 bc0 bc1 bc2 bc3 bf0 bf1 bf2 bf3 S
       cases hmay : Cr.may ⟨cr, ca, cs, cg⟩ x 1 with
       | false =>
        have HX := hd0 (Hd.out.trans (ff_may Hx.out Hf.out hmay)); rw [hmay] at HMy; clear hmay
        (refine wp_region_quiet_ext (by kernel_rfl) (by kernel_rfl) ?_; (repeat (go_big_quiet_step ((go_at_call 128; exact HMy.out _)))); refine wpQuiet_nil ?_; intro _ hw'; obtain ⟨sq, hw''⟩ := hw'; subst hw'')
        obtain ⟨w6, hw6⟩ := sq; go_wp2; go_ret2; exact ⟨by rw [HX.out]; rfl, S9.out.ext.trans hw6⟩
       | true =>
        have Hmay := hd0 hmay; rw [hmay] at HMy; clear hmay
        (refine wp_region_quiet_ext (by kernel_rfl) (by kernel_rfl) ?_; (repeat (go_big_quiet_step ((go_at_call 128; exact HMy.out _)))); refine wpQuiet_nil ?_; intro _ hw'; obtain ⟨sq, hw''⟩ := hw'; subst hw'')
        obtain ⟨w6, hw6⟩ := sq; have HS10 := hd0 (S9.out.step hw6); clear q0 q1 q2 q3 q4 q5 q6 bl r0 r1 r2 r3 br S9 HMy
        by_cases hkid : kidOf x.N x.K p < 0
        ·have HX := hd0 (Hd.out.trans (ff_miss Hx.out Hf.out Hmay.out hkid)); go_wp2; go_ret2; exact ⟨by rw [HX.out]; rfl, HS10.out.ext⟩
        ·have hin := kidOf_in HTr.out Hx.out (p := p) (by omega); have HX := hd0 (Hd.out.trans (ff_next Hx.out Hf.out Hmay.out hkid)); obtain ⟨j, hj⟩ : ∃ j : Nat, kidOf x.N x.K p = (j : Int) := ⟨(kidOf x.N x.K p).toNat, by omega⟩; rw [hj] at HX hin ⊢; clear hj hkid; go_wp2; go_roundw
         case rel => exact ⟨k + 1, j, by omega, by omega, rfl, by go_num, HE.out.symm.trans HX.out, HS10.out⟩
         case measure => simp [intOf]; omega
theorem implFolderAbove (a : Option Addr) (cap : Nat) (T : List Nd) (c : Cr) (s : ByteArray) (w : World) (hs : s.size ≤ 1048576) (hl : T.length ≤ 1048576) (hT : ∀ x ∈ T, SmN 1048576 x) (hc : RdN w a T) (hm : MaxG w) :
  Calls Tryz.prog 118 #[.slice a T.length cap, .agg #[.int .i64 c.r, .int .i64 c.a, .int .i64 c.s, .int .i64 c.g], .string s] w fun e w' => e = .returned (.tuple #[.int .i64 (folderAbove T c s).1, .string (folderAbove T c s).2.1, .int .i64 (folderAbove T c s).2.2]) ∧ Ext w w' := by
 obtain ⟨cr, ca, cs, cg⟩ := c; have HT := hd0 hT; have HM := hd0 hm; clear hT hm; dsimp only
 go_enter Tryz.func118, Tryz.ntmps118
 have S := Sep.start w; replace S := S.alloc_at (n := w.heap.size) (by simp) #[.int .i64 cr, .int .i64 ca, .int .i64 cs, .int .i64 cg] 29
 go_wp2_with fail
 generalize (w.alloc (.cells #[.int .i64 cr, .int .i64 ca, .int .i64 cs, .int .i64 cg] 29)) = w1 at *; refine (implAboveOf s w1 hs (HM.out.ext S.ext)).mono ?_; rintro e w2 ⟨rfl, hE⟩; replace S := S.step hE; clear hE
 cases hso : (aboveOf s).isSome with
 | false =>
  have HX := hd0 (fa_no (T := T) (c := ⟨cr, ca, cs, cg⟩) hso); clear hso; go_wp2
  try simp only [Exit.inBlock, Exit.then]
  refine bodyPost_ret (v := .tuple #[.int .i64 (-1), .string ⟨#[]⟩, .int .i64 1]) (by simp [results, Tryz.results118, go_sem]) rfl ?_; exact ⟨by rw [HX.out], S.ext⟩
 | true =>
  obtain ⟨⟨bc0, bf0⟩, ⟨bc1, bf1⟩, ⟨bc2, bf2⟩, ⟨bc3, bf3⟩⟩ := bx4 (S.box 0 rfl); have hab := abOf_size s
  go_wp2_with fail
  refine (implFindNode a cap T ⟨cr, ca, cs, cg⟩ (abOf s) w2 (by omega) hl HT.out (hc.ext S.ext) (HM.out.ext S.ext)).mono ?_; rintro e w3 ⟨rfl, hE⟩; clear bc0 bf0 bc1 bf1 bc2 bf2 bc3 bf3; replace S := S.step hE; clear hE
  rcases find_cases T ⟨cr, ca, cs, cg⟩ (abOf s) with ⟨m, hF, hm, hTr, hCo⟩ | ⟨f, hf, hF⟩
  rotate_left
  ·have HX := hd0 (fa_fault (T := T) (c := ⟨cr, ca, cs, cg⟩) hso (by rw [hF]; exact hf)); rw [hF] at HX ⊢
   have tf : (f == 0) = false := by simpa using hf
   clear hso hF hf; dsimp only at HX ⊢; go_wp2
   try simp only [Exit.inBlock, Exit.then]
   refine bodyPost_ret (v := .tuple #[.int .i64 (-1), .string ⟨#[]⟩, .int .i64 f]) (by simp [results, Tryz.results118, go_sem]) rfl ?_; exact ⟨by rw [HX.out], S.ext⟩
  ·obtain ⟨x, b', off, an, cn, ak, ck, hx, rfl, c0, c1, c2, c3, c4, c5, c6, hcn, hck, hrn, hrk⟩ := atNd hc hm; have Hx := hd0 hx; have HN := hd0 (hTr.nodes m x hx); have HCo := hd0 hCo; have HP := hd0 (fa_at (T := T) (c := ⟨cr, ca, cs, cg⟩) hso hF hx); rw [hF]
   have i1 : (m : Int) < (T.length : Int) := by omega
   have hE := S.ext; have d0 := cell_ext hE c0; have d1 := cell_ext hE c1; have d2 := cell_ext hE c2; have d3 := cell_ext hE c3; have d4 := cell_ext hE c4; have d5 := cell_ext hE c5; have d6 := cell_ext hE c6; clear hx c0 c1 c2 c3 c4 c5 c6 hcn hck hrn hrk hE hF hTr hso hCo; dsimp only
   cases hf : x.fold with
   | false =>
    have HX := hd0 (HP.out.trans (if_pos hf)); rw [hf] at d0; clear hf; go_wp2
    try simp only [Exit.inBlock, Exit.then]
    refine bodyPost_ret (v := .tuple #[.int .i64 (-1), .string ⟨#[]⟩, .int .i64 4]) (by simp [results, Tryz.results118, go_sem]) rfl ?_; exact ⟨by rw [HX.out], S.ext⟩
   | true =>
    have HQ := hd0 (HP.out.trans (if_neg (by simp [hf]))); clear HP; obtain ⟨⟨bc0, bf0⟩, ⟨bc1, bf1⟩, ⟨bc2, bf2⟩, ⟨bc3, bf3⟩⟩ := bx4 (S.box 0 rfl)
    have HMy : Hid (∀ s : ExtW w3, Calls Tryz.prog 128 #[.agg #[.bool true, .int .i64 x.own, .int .i64 x.grp, .int .i64 x.mode, .string x.text, .slice an x.N.length cn, .slice ak x.K.length ck], .agg #[.int .i64 cr, .int .i64 ca, .int .i64 cs, .int .i64 cg], .int .i64 3] s.x fun e w'' => e = .returned (.bool (Cr.may ⟨cr, ca, cs, cg⟩ x 3)) ∧ ∃ s' : ExtW w3, w'' = s'.x) := hd0 (fun s => by
     have hC := implAllows ⟨cr, ca, cs, cg⟩ 3 x T.length an ak cn ck s.x HN.out HCo.out (by omega); rw [hf] at hC
     exact Calls.at_e hC)
    rw [hf] at d0; clear hf
    go_wp2_with fail
    have q0 := ExtW.cell d0; have q1 := ExtW.cell d1; have q2 := ExtW.cell d2; have q3 := ExtW.cell d3; have q4 := ExtW.cell d4; have q5 := ExtW.cell d5; have q6 := ExtW.cell d6; have bl := ExtW.lt d0; have r0 := ExtW.cell bc0; have r1 := ExtW.cell bc1; have r2 := ExtW.cell bc2; have r3 := ExtW.cell bc3; have br := ExtW.lt bc0; have S9 := hd0 S; clear d0 d1 d2 d3 d4 d5 d6 bc0 bc1 bc2 bc3 bf0 bf1 bf2 bf3 S
    cases hmay : Cr.may ⟨cr, ca, cs, cg⟩ x 3 with
    | false =>
     have HX := hd0 (HQ.out.trans (if_pos hmay)); rw [hmay] at HMy; clear hmay
     (refine wp_region_quiet_ext (by kernel_rfl) (by kernel_rfl) ?_; (repeat (go_big_quiet_step ((go_at_call 128; exact HMy.out _)))); refine wpQuiet_nil ?_; intro _ hw'; obtain ⟨sq, hw''⟩ := hw'; subst hw'')
     obtain ⟨w5, hw5⟩ := sq; go_wp2
     try simp only [Exit.inBlock, Exit.then]
     refine bodyPost_ret (v := .tuple #[.int .i64 (-1), .string ⟨#[]⟩, .int .i64 3]) (by simp [results, Tryz.results118, go_sem]) rfl ?_; exact ⟨by rw [HX.out], S9.out.ext.trans hw5⟩
    | true =>
     have HX := hd0 (HQ.out.trans (if_neg (by simp [hmay]))); rw [hmay] at HMy; clear hmay
     (refine wp_region_quiet_ext (by kernel_rfl) (by kernel_rfl) ?_; (repeat (go_big_quiet_step ((go_at_call 128; exact HMy.out _)))); refine wpQuiet_nil ?_; intro _ hw'; obtain ⟨sq, hw''⟩ := hw'; subst hw'')
     obtain ⟨w5, hw5⟩ := sq; go_wp2
     try simp only [Exit.inBlock, Exit.then]
     refine bodyPost_ret (v := .tuple #[.int .i64 (m : Int), .string (lastOf s), .int .i64 0]) (by simp [results, Tryz.results118, go_sem]) rfl ?_; exact ⟨by rw [HX.out], S9.out.ext.trans hw5⟩
theorem implPlaceFor (a : Option Addr) (cap : Nat) (T : List Nd) (c : Cr) (s : ByteArray) (w : World) (hs : s.size ≤ 1048576) (hl : T.length ≤ 1048576) (hT : ∀ x ∈ T, SmN 1048576 x) (hc : RdN w a T) (hm : MaxG w) :
  Calls Tryz.prog 113 #[.slice a T.length cap, .agg #[.int .i64 c.r, .int .i64 c.a, .int .i64 c.s, .int .i64 c.g], .string s] w fun e w' => e = .returned (.tuple #[.int .i64 (placeFor T c s).1, .int .i64 (placeFor T c s).2]) ∧ Ext w w' := by
 obtain ⟨cr, ca, cs, cg⟩ := c; have HT := hd0 hT; have HM := hd0 hm; clear hT hm; dsimp only
 go_enter Tryz.func113, Tryz.ntmps113
 have S := Sep.start w; replace S := S.alloc_at (n := w.heap.size) (by simp) #[.int .i64 cr, .int .i64 ca, .int .i64 cs, .int .i64 cg] 29
 go_wp2_with fail
 generalize (w.alloc (.cells #[.int .i64 cr, .int .i64 ca, .int .i64 cs, .int .i64 cg] 29)) = w1 at *; refine (implFolderAbove a cap T ⟨cr, ca, cs, cg⟩ s w1 hs hl HT.out (hc.ext S.ext) (HM.out.ext S.ext)).mono ?_; rintro e w2 ⟨rfl, hE⟩; replace S := S.step hE; clear hE
 rcases fa_cases T ⟨cr, ca, cs, cg⟩ s with ⟨n, x, hF⟩ | ⟨f, hf, hF⟩
 rotate_left
 ·have HX := hd0 (pf_bad hf hF); rw [hF]
  have tf : (f == 0) = false := by simpa using hf
  clear hf hF; dsimp only; go_wp2; go_ret2; exact ⟨by rw [HX.out]; rfl, S.ext⟩
 ·have HF := hd0 hF; rw [hF.eq]; obtain ⟨x', b', off, an, cn, ak, ck, hx, rfl, c0, c1, c2, c3, c4, c5, c6, hcn, hck, hrn, hrk⟩ := atNd hc (List.getElem?_eq_some_iff.1 hF.hx).1; obtain rfl : x = x' := Option.some.inj (hF.hx.symm.trans hx); have HX := hd0 (pf_good hF); have hN := hF.tree.nodes n x hx; have hNl : x.N.length ≤ 1048576 := (HT.out x (List.mem_of_getElem? hx)).2.1
  have i1 : (n : Int) < (T.length : Int) := by have := (List.getElem?_eq_some_iff.1 hx).1; omega
  have hE := S.ext; have d0 := cell_ext hE c0; have d1 := cell_ext hE c1; have d2 := cell_ext hE c2; have d3 := cell_ext hE c3; have d4 := cell_ext hE c4; have d5 := cell_ext hE c5; have d6 := cell_ext hE c6; have HKd := hd0 (implKid x T.length an ak cn ck (lastOf s) w2 hN hNl (hrn.ext hE) (hrk.ext hE)); clear hx hN c0 c1 c2 c3 c4 c5 c6 hcn hck hrn hrk hE hF; dsimp only
  go_wp2_with fail
  refine HKd.out.mono ?_; rintro e w3 ⟨rfl, hw3⟩; clear d0 d1 d2 d3 d4 d5 d6 HKd; replace S := S.step hw3; clear hw3
  by_cases hkid : 0 ≤ kidOf x.N x.K (lastOf s)
  ·have HY := hd0 (HX.out.trans (if_pos hkid)); go_wp2; go_ret2; exact ⟨by rw [HY.out]; rfl, S.ext⟩
  ·have HY := hd0 (HX.out.trans (if_neg hkid)); go_wp2; go_ret2; exact ⟨by rw [HY.out]; rfl, S.ext⟩
theorem cloneInt_any (a : Option Addr) (cap n : Nat) (l : List Int) (w : World) (hn : n = l.length) (hl : l.length ≤ 1048576) (hc : Rd 1 encInt1 w a l) :
  Calls Tryz.prog 87 #[.slice a n cap] w (RetV (fun v w' => w'.ownsRow w.heap.size 3 1 v l.length (l.flatMap encInt1)) w) := by
 subst hn
 have hq := fun w a n c => Lib.run_eql_slice_nil (P := Tryz.prog) w 86 3 a n c 0 0 Tryz.underlying86
 cases a with
 | none =>
  have hnil : l = [] := by
   cases l with
   | nil => rfl
   | cons y l => obtain ⟨b, off, h0, _⟩ := hc 0 (by simp); cases h0
  subst hnil
  go_enter Tryz.func87, Tryz.ntmps87
  go_wp2; go_ret; exact RetV.mk (World.ownsRow_nil _ _ _ _) (Ext.refl _)
 | some a =>
  go_enter Tryz.func87, Tryz.ntmps87
  go_wp2_with (at_builtin; refine wpList_append_rd rfl _ _ 86 rfl w.heap.size 3 _ 1 _ Tryz.underlying86 infoInt rfl (by decide) encInt1_len encInt1_one _ 0 [] rfl (owns_lit_new [] encInt1_len rfl rfl (by omega) (Nat.le_refl _)) rfl (some a) l.length cap l rfl rfl (hc.ext ((Ext.refl _).alloc _)) (by omega) (by omega) (by simp) ?_)
  intro v' w' hown hg; go_wp2; go_ret; exact RetV.mk hown (((Ext.refl _).alloc _).grown hg (by intro k h; simp [Value.ownBlock] at h; omega))
def marksInt (n : Nat) (c : Int) : List Int := (List.range n).map fun i : Nat => c + (i : Int)
theorem marksInt_len (n : Nat) (c : Int) : (marksInt n c).length = n := by simp [marksInt]
theorem marksInt_at (n : Nat) (c : Int) (i : Nat) (h : i < n) : (marksInt n c)[i]? = some (c + (i : Int)) := by simp [marksInt, h]
def mmixInt (L : List Int) (c : Int) (i : Nat) : List Int := marksInt i c ++ L.drop i
theorem mmixInt_len (L : List Int) (c : Int) (i : Nat) (h : i ≤ L.length) : (mmixInt L c i).length = L.length := by simp [mmixInt, marksInt_len]; omega
theorem mmixInt_zero (L : List Int) (c : Int) : mmixInt L c 0 = L := by simp [mmixInt, marksInt]
theorem mmixInt_full (L : List Int) (c : Int) : mmixInt L c L.length = marksInt L.length c := by simp [mmixInt]
theorem mmixInt_set (L : List Int) (c : Int) (i : Nat) (h : i < L.length) : (mmixInt L c i).set i (c + (i : Int)) = mmixInt L c (i + 1) := by
 unfold mmixInt; rw [List.set_append, if_neg (by simp [marksInt_len]), marksInt_len, Nat.sub_self, List.drop_eq_getElem_cons h, List.set_cons_zero]; simp [marksInt, List.range_succ]
theorem markIntS_any (base g cap : Nat) (L : List Int) (c : Int) (w : World) (hl : L.length ≤ 1048576) (h0 : 0 ≤ c) (h1 : c ≤ 1000000000000)
  (hown : w.ownsRow base 3 1 (.slice (some ⟨g, 0, none⟩) L.length cap) L.length (L.flatMap encInt1)) :
  Calls Tryz.prog 93 #[.slice (some ⟨g, 0, none⟩) L.length cap, .int .i64 c] w (RetMark (c + (L.length : Int)) (fun w' => w'.ownsRow base 3 1 (.slice (some ⟨g, 0, none⟩) L.length cap) L.length ((marksInt L.length c).flatMap encInt1)) (some g) w) := by
 go_enter Tryz.func93, Tryz.ntmps93
 go_wp2
 go_loopw [1, 5] (fun q i wr => ∃ k : Nat, k ≤ L.length ∧ i = .int .i64 k ∧ q = .int .i64 (c + (k : Int)) ∧ wr.ownsRow base 3 1 (.slice (some ⟨g, 0, none⟩) L.length cap) L.length ((mmixInt L c k).flatMap encInt1) ∧ w.grownBy wr (some g)) (fun _ i _ => L.length - (intOf i).toNat)
 case atStart => exact ⟨0, Nat.zero_le _, rfl, by simp, by rw [mmixInt_zero]; exact hown, World.grownBy.refl _ _⟩
 case round =>
  obtain ⟨k, hk, rfl, rfl, hownr, hg⟩ := hrel
  by_cases hlt : k < L.length
  ·have hkm : k < (mmixInt L c k).length := by rw [mmixInt_len _ _ _ hk]; exact hlt
   have g0 : wr.cell? ⟨g, k, none⟩ = some (.int .i64 (mmixInt L c k)[k]) := by have := owns_at encInt1_len hownr k hkm 0 _ rfl; simpa using this
   have f0 := hownr.frozenAt; go_wp2; go_roundw
   case rel =>
    have o0 := owns_set encInt1_len hownr k 0 (.int .i64 (c + (k : Int))) (c + (k : Int)) hkm (by omega) rfl; rw [mmixInt_set L c k hlt, Nat.mul_one, Nat.add_zero] at o0; exact ⟨k + 1, by omega, by go_num, by go_num, o0, grown_setCell hg _⟩
   case measure => simp [intOf]; omega
  ·obtain rfl : k = L.length := by omega
   go_wp2; go_ret; rw [mmixInt_full] at hownr; exact RetMark.mk rfl hownr hg
theorem markIntS_own (base : Nat) (v : Value) (n : Nat) (L : List Int) (c : Int) (w : World) (hn : n = L.length) (hl : n ≤ 1048576) (h0 : 0 ≤ c) (h1 : c ≤ 1000000000000)
  (hown : w.ownsRow base 3 1 v n (L.flatMap encInt1)) :
  Calls Tryz.prog 93 #[v, .int .i64 c] w (RetMark (c + (n : Int)) (fun w' => w'.ownsRow base 3 1 v n ((marksInt n c).flatMap encInt1)) v.ownBlock w) := by
 subst hn
 rcases hown.2 with ⟨rfl, hz⟩ | ⟨g, cap, cur, rfl, _⟩
 ·have hL : L = [] := List.eq_nil_of_length_eq_zero hz; subst hL
  go_enter Tryz.func93, Tryz.ntmps93
  go_wp2; refine wp_loop_rounds 1 ?_; rw [rounds_succ]; go_wp2; go_ret; exact RetMark.mk rfl hown (World.grownBy.refl _ _) (by simp)
 ·exact markIntS_any base g cap L c w hl h0 h1 hown
theorem heldIntS_any (a : Option Addr) (cap n : Nat) (c : Int) (w : World) (hl : n ≤ 1048576) (h0 : 0 ≤ c) (h1 : c ≤ 1000000000000) (hc : Rd 1 encInt1 w a (marksInt n c)) :
  Calls Tryz.prog 94 #[.slice a n cap, .int .i64 c] w (RetI (c + (n : Int)) w) := by
 go_enter Tryz.func94, Tryz.ntmps94
 go_wp2
 go_loopw [1, 5] (fun q i wr => ∃ k : Nat, k ≤ n ∧ i = .int .i64 k ∧ q = .int .i64 (c + (k : Int)) ∧ Ext w wr) (fun _ i _ => n - (intOf i).toNat)
 case atStart => exact ⟨0, Nat.zero_le _, rfl, by simp, Ext.refl _⟩
 case round =>
  obtain ⟨k, hk, rfl, rfl, hb⟩ := hrel
  by_cases hlt : k < n
  ·obtain ⟨x, b, off, hx, rfl, c0⟩ := atInt (hc.ext hb) (show k < (marksInt n c).length by rw [marksInt_len]; exact hlt); rw [marksInt_at n c k hlt] at hx
   cases hx
   go_wp2; go_roundw
   case rel => exact ⟨k + 1, by omega, by go_num, by go_num, hb⟩
   case measure => simp [intOf]; omega
  ·obtain rfl : k = n := by omega
   go_wp2; go_ret; exact RetI.mk rfl hb
theorem cloneStr_any (a : Option Addr) (cap n : Nat) (l : List ByteArray) (w : World) (hn : n = l.length) (hl : l.length ≤ 1048576) (hc : Rd 1 encStr1 w a l) :
  Calls Tryz.prog 86 #[.slice a n cap] w (RetV (fun v w' => w'.ownsRow w.heap.size 9 1 v l.length (l.flatMap encStr1)) w) := by
 subst hn
 have hq := fun w a n c => Lib.run_eql_slice_nil (P := Tryz.prog) w 39 9 a n c 0 0 Tryz.underlying39
 cases a with
 | none =>
  have hnil : l = [] := by
   cases l with
   | nil => rfl
   | cons y l => obtain ⟨b, off, h0, _⟩ := hc 0 (by simp); cases h0
  subst hnil
  go_enter Tryz.func86, Tryz.ntmps86
  go_wp2; go_ret; exact RetV.mk (World.ownsRow_nil _ _ _ _) (Ext.refl _)
 | some a =>
  go_enter Tryz.func86, Tryz.ntmps86
  go_wp2_with (at_builtin; refine wpList_append_rd rfl _ _ 39 rfl w.heap.size 9 _ 1 _ Tryz.underlying39 infoStr1 rfl (by decide) encStr1_len encStr1_one _ 0 [] rfl (owns_lit_new [] encStr1_len rfl rfl (by omega) (Nat.le_refl _)) rfl (some a) l.length cap l rfl rfl (hc.ext ((Ext.refl _).alloc _)) (by omega) (by omega) (by simp) ?_)
  intro v' w' hown hg; go_wp2; go_ret; exact RetV.mk hown (((Ext.refl _).alloc _).grown hg (by intro k h; simp [Value.ownBlock] at h; omega))
end Go.Proofs.YtnibbldfohbfkaaGreatDoor
