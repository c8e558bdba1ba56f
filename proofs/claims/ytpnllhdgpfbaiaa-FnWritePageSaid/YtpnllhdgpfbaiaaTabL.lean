/- Rows of rows of numbers: contracts of the laws' functions that count, copy, compare and mark them. Condition: rows shorter than 2^63. -/
import Derived.Test.YtpnllhdgpfbaiaaTab
import Derived.Test.YtpnllhdgpfbaiaaIntM
import Derived.Test.YtpnllhdgpfbaiaaQuiet
namespace Go.Proofs.Ytpnllhdgpfbaiaa
open Go.RowKit

def sumL : List (List Int) → Nat
  | [] => 0
  | t :: ts => t.length + sumL ts
theorem sumL_append (A B : List (List Int)) : sumL (A ++ B) = sumL A + sumL B := by
  induction A with
  | nil => simp [sumL]
  | cons t A ih => simp only [List.cons_append, sumL, ih]; omega
theorem sumL_step {T : List (List Int)} {k : Nat} {t : List Int} (h : T[k]? = some t) : sumL (T.take (k + 1)) = sumL (T.take k) + t.length := by
  rw [List.take_add_one, h, sumL_append]
  simp [sumL]
theorem sumL_take (T : List (List Int)) (k : Nat) : sumL (T.take k) ≤ sumL T := by
  have h := sumL_append (T.take k) (T.drop k)
  rw [List.take_append_drop] at h
  omega
theorem sumL_mem {T : List (List Int)} {k : Nat} {t : List Int} (h : T[k]? = some t) : t.length ≤ sumL T := by
  have h1 := sumL_step h
  have h2 := sumL_take T (k + 1)
  omega

set_option maxHeartbeats 400000 in
theorem szIntS_eq (a : Option Addr) (cap : Nat) (l : List Int) (left : Int) (w : World) (h0 : 0 ≤ left) (h1 : left ≤ 1048576) (hl : l.length ≤ 9223372036854775807) :
    Calls Try.prog 39 #[.slice a l.length cap, .int .i64 left] w fun e w' => ∃ r : Int, e = .returned (.int .i64 r) ∧ (left - l.length < 0 → r = -1) ∧ (0 ≤ left - l.length → r = left - l.length) ∧ Ext w w' := by
  by_cases h : left - l.length < 0
  · go_enter Try.func39, Try.ntmps39
    go_wp2
    go_ret
    exact ⟨-1, rfl, fun _ => rfl, fun h2 => by omega, Ext.refl _⟩
  · go_enter Try.func39, Try.ntmps39
    go_wp2
    go_ret
    exact ⟨_, rfl, fun h2 => absurd h2 (by omega), fun _ => rfl, Ext.refl _⟩

set_option maxHeartbeats 2000000 in
theorem szTab_any (a : Option Addr) (cap : Nat) (T : List (List Int)) (left : Int) (w : World) (h0 : 0 ≤ left) (h1 : left ≤ 1048576) (hl : T.length ≤ 9223372036854775807) (hlt : ∀ t ∈ T, t.length ≤ 9223372036854775807) (hc : RdT w a T) :
    Calls Try.prog 40 #[.slice a T.length cap, .int .i64 left] w (RetSz left (fun _ => T.length ≤ 1048576 ∧ sumL T ≤ 1048576) w) := by
  have HLT := Lib.hid hlt
  clear hlt
  by_cases h : left - T.length < 0
  · go_enter Try.func40, Try.ntmps40
    go_wp2
    go_ret
    exact RetSz.mk rfl (by omega) (by omega) (by omega) (Ext.refl _)
  · go_enter Try.func40, Try.ntmps40
    go_wp2
    go_loopw [1, 5] (fun q i wr => ∃ k : Nat, k ≤ T.length ∧ i = .int .i64 k ∧ q = .int .i64 (left - T.length - (sumL (T.take k) : Int)) ∧ 0 ≤ left - T.length - (sumL (T.take k) : Int) ∧ Ext w wr) (fun _ i _ => T.length - (intOf i).toNat)
    case atStart => exact ⟨0, Nat.zero_le _, rfl, by simp [sumL], by simp [sumL]; omega, Ext.refl _⟩
    case round =>
      obtain ⟨k, hk, rfl, rfl, hq, hb⟩ := hrel
      by_cases hlk : k < T.length
      · obtain ⟨t, b, off, ai, ci, ht, hpe, c0, hci, hrt⟩ := atTab (hc.ext hb) hlk
        subst hpe
        have Ht := Lib.hid ht
        have Hst := Lib.hid (sumL_step ht)
        have htl := HLT.out t (List.mem_of_getElem? ht)
        have i0 : (k : Int) < (T.length : Int) := by omega
        obtain ⟨s, hs⟩ : ∃ s : Int, s = left - T.length - (sumL (T.take k) : Int) := ⟨_, rfl⟩
        have Hs := Lib.hid hs
        have hs1 : 0 ≤ s := by omega
        have hs2 : s ≤ 1048576 := by omega
        rw [← hs]
        clear hs ht hq hrt
        go_wp2_with fail
        refine (szIntS_eq ai ci t s wr hs1 hs2 htl).mono ?_
        rintro e w2 ⟨r, rfl, hr1, hr2, hE⟩
        have hb2 := hb.trans hE
        by_cases hn : s - t.length < 0
        · obtain rfl := hr1 hn
          clear hr1 hr2
          go_wp2
          go_ret
          exact RetSz.mk rfl (by omega) (by omega) (by omega) hb2
        · obtain rfl := hr2 (by omega)
          clear hr1 hr2
          have hn2 : 0 ≤ s - (t.length : Int) := by omega
          go_wp2
          go_roundw
          case rel =>
            have h1 := Hs.out
            have h2 := Hst.out
            exact ⟨k + 1, by omega, by go_num, by rw [h1, h2]; congr 1; push_cast; omega, by rw [h2]; push_cast; omega, hb2⟩
          case measure => simp [intOf]; omega
      · obtain rfl : k = T.length := by omega
        have hni : ¬ (T.length : Int) < (T.length : Int) := by omega
        rw [List.take_length] at hq ⊢
        go_wp2
        go_ret
        exact RetSz.mk rfl (by omega) (by omega) (fun _ => ⟨by omega, by omega⟩) hb

theorem extTab {T U : List (List Int)} (hl : T.length = U.length) (h : ∀ j, j < T.length → T[j]? = U[j]?) : T = U := by
  apply List.ext_getElem?
  intro j
  by_cases hj : j < T.length
  · exact h j hj
  · rw [List.getElem?_eq_none (by omega), List.getElem?_eq_none (by omega)]
set_option maxHeartbeats 2000000 in
theorem eqTab_any (a a' : Option Addr) (cap cap' : Nat) (T U : List (List Int)) (w : World) (hl : T.length ≤ 9223372036854775807) (hm : U.length ≤ 9223372036854775807) (hlt : ∀ t ∈ T, t.length ≤ 9223372036854775807) (hlu : ∀ t ∈ U, t.length ≤ 9223372036854775807) (hc : RdT w a T) (hd : RdT w a' U) :
    Calls Try.prog 49 #[.slice a T.length cap, .slice a' U.length cap'] w (RetB (T = U) w) := by
  have HLT := Lib.hid hlt
  have HLU := Lib.hid hlu
  clear hlt hlu
  by_cases hlen : T.length = U.length
  · have ht : ((T.length : Int) != (U.length : Int)) = false := by simp; omega
    have Hlen := Lib.hid hlen
    clear hlen
    go_enter Try.func49, Try.ntmps49
    go_wp2
    go_loopw [5] (fun i wr => ∃ k : Nat, k ≤ T.length ∧ i = .int .i64 k ∧ (∀ j, j < k → T[j]? = U[j]?) ∧ Ext w wr) (fun i _ => T.length - (intOf i).toNat)
    case atStart => exact ⟨0, Nat.zero_le _, rfl, fun _ h => absurd h (Nat.not_lt_zero _), Ext.refl _⟩
    case round =>
      obtain ⟨k, hk, rfl, hpre, hb⟩ := hrel
      have Hpre := Lib.hid hpre
      clear hpre ht
      by_cases hlk : k < T.length
      · have hltm : k < U.length := by have := Hlen.out; omega
        obtain ⟨t, b, off, ai, ci, hx, hpe, c0, _, hrt⟩ := atTab (hc.ext hb) hlk
        obtain ⟨t', b', off', ai', ci', hy, hpe', d0, _, hru⟩ := atTab (hd.ext hb) hltm
        subst hpe hpe'
        have Hx := Lib.hid hx
        have Hy := Lib.hid hy
        have hl1 := HLT.out t (List.mem_of_getElem? hx)
        have hl2 := HLU.out t' (List.mem_of_getElem? hy)
        have i0 : (k : Int) < (T.length : Int) := by omega
        have i1 : (k : Int) < (U.length : Int) := by omega
        have q0 := ExtW.cell c0
        have q1 := ExtW.cell d0
        have b1 := ExtW.lt c0
        have b2 := ExtW.lt d0
        clear hx hy
        by_cases hxy : t = t'
        · have Hxy := Lib.hid hxy
          clear hxy
          go_wp2
          (refine wp_region_quiet_ext (by kernel_rfl) (by kernel_rfl) ?_; (repeat (go_big_quiet_step ((go_at_call 24; exact Calls.at_b (T := t = t') true (by simp [Hxy.out]) (eqIntS_any _ _ _ _ t t' _ hl1 hl2 (hrt.ext (ExtW.h _)) (hru.ext (ExtW.h _))))))); refine wpQuiet_nil ?_; intro _ hw'; obtain ⟨sq, hw''⟩ := hw'; subst hw'')
          obtain ⟨w5, hw5⟩ := sq
          clear c0 d0 q0 q1
          go_wp2
          go_roundw
          case rel => exact ⟨k + 1, by omega, by go_num, fun j hj => (Nat.lt_succ_iff_lt_or_eq.1 hj).elim (Hpre.out j) (fun e => by rw [e, Hx.out, Hy.out, Hxy.out]), hb.trans hw5⟩
          case measure => simp [intOf]; omega
        · have Hxy := Lib.hid hxy
          clear hxy
          go_wp2
          (refine wp_region_quiet_ext (by kernel_rfl) (by kernel_rfl) ?_; (repeat (go_big_quiet_step ((go_at_call 24; exact Calls.at_b (T := t = t') false (by simp [Hxy.out]) (eqIntS_any _ _ _ _ t t' _ hl1 hl2 (hrt.ext (ExtW.h _)) (hru.ext (ExtW.h _))))))); refine wpQuiet_nil ?_; intro _ hw'; obtain ⟨sq, hw''⟩ := hw'; subst hw'')
          obtain ⟨w5, hw5⟩ := sq
          clear c0 d0 q0 q1
          go_wp2
          go_ret
          exact RetB.mk false rfl (by simp only [Bool.false_eq_true, false_iff]; intro h; subst h; have h1 := Hx.out; rw [Hy.out] at h1; cases h1; exact Hxy.out rfl) (hb.trans hw5)
      · go_wp2
        go_ret
        exact RetB.mk true rfl (by simp only [true_iff]; exact extTab Hlen.out (fun j hj => Hpre.out j (by omega))) hb
  · have ht : ((T.length : Int) != (U.length : Int)) = true := by simp; omega
    have Hlen := Lib.hid hlen
    clear hlen
    go_enter Try.func49, Try.ntmps49
    go_wp2
    go_ret
    exact RetB.mk false rfl (by simp only [Bool.false_eq_true, false_iff]; intro h; exact Hlen.out (by rw [h])) (Ext.refl _)

theorem madeSl (n : Nat) : (madeCells #[Value.slice none 0 0] n).toList = (List.replicate n (⟨none, 0, 0⟩ : Sl)).flatMap encSl := by
  apply List.ext_getElem?
  intro j
  by_cases hj : j < n
  · have h := flatMap_at encSl_len (List.replicate n (⟨none, 0, 0⟩ : Sl)) j 0 (by omega)
    rw [Nat.mul_one, Nat.add_zero] at h
    rw [h]
    simp [madeCells, hj, encSl, Nat.mod_one]
  · rw [List.getElem?_eq_none (by simp [madeCells]; omega), List.getElem?_eq_none (by rw [flatMap_length encSl_len]; simp; omega)]
def mixT (T : List (List Int)) (k : Nat) : List (List Int) := T.take k ++ List.replicate (T.length - k) []
theorem mixT_len (T : List (List Int)) (k : Nat) (hk : k ≤ T.length) : (mixT T k).length = T.length := by simp [mixT]; omega
theorem mixT_zero (T : List (List Int)) : mixT T 0 = List.replicate T.length [] := by simp [mixT]
theorem mixT_full (T : List (List Int)) : mixT T T.length = T := by simp [mixT]
theorem mixT_set (T : List (List Int)) (k : Nat) (x : List Int) (hx : T[k]? = some x) : (mixT T k).set k x = mixT T (k + 1) := by
  obtain ⟨hk, rfl⟩ := List.getElem?_eq_some_iff.1 hx
  unfold mixT
  obtain ⟨r, hr⟩ : ∃ r, T.length - k = r + 1 := ⟨T.length - k - 1, by omega⟩
  rw [hr, List.replicate_succ, show T.length - (k + 1) = r by omega, List.set_append, if_neg (by simp; omega), List.take_succ_eq_append_getElem hk, List.length_take, Nat.min_eq_left (Nat.le_of_lt hk), Nat.sub_self, List.set_cons_zero, List.append_assoc]
  rfl

set_option maxHeartbeats 2000000 in
theorem toTab_any (a : Option Addr) (cap : Nat) (T : List (List Int)) (w : World) (hl : T.length ≤ 1048576) (hlt : ∀ t ∈ T, t.length ≤ 1048576) (hc : RdT w a T) :
    Calls Try.prog 43 #[.slice a T.length cap] w fun e w' => ∃ vs, e = .returned (.slice (some ⟨w.heap.size, 0, none⟩) T.length T.length) ∧ Sep w w' [plTab (.slice (some ⟨w.heap.size, 0, none⟩) T.length T.length) vs T] := by
  obtain ⟨i0, hi, hz0, hz1, hz2⟩ := info_parts infoSl
  have HLT := Lib.hid hlt
  clear hlt
  go_enter Try.func43, Try.ntmps43
  go_wp2_with (at_make; refine wpList_make_full _ rfl _ _ 23 rfl w.heap.size 22 i0 _ 1 Try.underlying23 hi hz0 hz1 _ _ _ _ T.length rfl rfl rfl rfl ?b1 ?b2 ?b3 ?_)
  case b1 => rw [hz2]; omega
  case b2 => unfold maxLen; omega
  case b3 => exact Nat.le_refl _
  intro w1 hown1 hgr1
  have hE := ext_of_grown hgr1
  have S0 : Sep w w1 [plTab (.slice (some ⟨w.heap.size, 0, none⟩) T.length T.length) (List.replicate T.length ⟨none, 0, 0⟩) (mixT T 0)] := by
    rw [mixT_zero]
    refine Sep.one (p := plTab _ _ _) hE (tab_make ?_) (fun b hb => ?_)
    · have h2 := ownsRow_base hown1 (Nat.zero_le _)
      rw [← madeSl]; exact h2
    · rcases hb with hb | ⟨s, hs, hb⟩
      · have : w.heap.size = b := Option.some.inj hb
        omega
      · rw [(List.mem_replicate.1 hs).2] at hb; cases hb
  clear hgr1 hown1 hE
  go_wp2
  go_loopw [4] (fun i wr => ∃ (k : Nat) (vs : List Sl), k ≤ T.length ∧ i = .int .i64 k ∧ Sep w wr [plTab (.slice (some ⟨w.heap.size, 0, none⟩) T.length T.length) vs (mixT T k)]) (fun i _ => T.length - (intOf i).toNat)
  case atStart => exact ⟨0, _, Nat.zero_le _, rfl, S0⟩
  case round =>
    clear S0
    obtain ⟨k, vs, hk, rfl, S⟩ := hrel
    by_cases hlk : k < T.length
    · obtain ⟨t, b, off, ai, ci, ht, hpe, c0, hci, hrt⟩ := atTab (hc.ext S.ext) hlk
      subst hpe
      have Ht := Lib.hid ht
      have htl := HLT.out t (List.mem_of_getElem? ht)
      have i0 : (k : Int) < (T.length : Int) := by omega
      clear ht
      go_wp2_with fail
      refine (toIntS_any ai ci t wr htl hrt).mono ?_
      rintro e w2 ⟨v2, rfl, ⟨ho, hv2⟩, hE⟩
      have U := Sep.of_owns hE ho
      clear ho hE
      replace S := S.call U
      generalize wr.heap.size = g2 at *
      subst hv2
      have hvl := tab_len (S.at_ 1 rfl)
      rw [mixT_len T k hk] at hvl
      have hrow := S.tabRow 1 rfl
      have hcell : ∃ u, w2.cell? ⟨w.heap.size, k, none⟩ = some u := by
        have := owns_at encSl_len (show w2.ownsRow _ _ 1 (.slice (some ⟨w.heap.size, 0, none⟩) T.length T.length) T.length _ by have := hrow; rw [hvl] at this; exact this) k (by omega) 0 _ rfl
        exact ⟨_, by simpa using this⟩
      obtain ⟨u0, hu0⟩ := hcell
      have fz : w2.frozen? ⟨w.heap.size, k, none⟩ = false := World.ownsRow.frozenAt (show w2.ownsRow _ _ 1 (.slice (some ⟨w.heap.size, 0, none⟩) T.length T.length) T.length _ by have := hrow; rw [hvl] at this; exact this) k
      have S2 := S.tabPut 1 0 (s := ⟨some ⟨g2, 0, none⟩, t.length, t.length⟩) (t := t) (k := k) rfl rfl (by decide) (by omega)
      rw [mixT_set T k t Ht.out] at S2
      have S3 : Sep w (w2.setCell ⟨w.heap.size, k, none⟩ (.slice (some ⟨g2, 0, none⟩) t.length t.length)) [plTab (.slice (some ⟨w.heap.size, 0, none⟩) T.length T.length) (vs.set k ⟨some ⟨g2, 0, none⟩, t.length, t.length⟩) (mixT T (k + 1))] := S2
      clear S2 S hrow U hvl
      go_wp2
      go_roundw
      case rel => exact ⟨k + 1, _, by omega, by go_num, S3⟩
      case measure => simp [intOf]; omega
    · obtain rfl : k = T.length := by omega
      have hni : ¬ (T.length : Int) < (T.length : Int) := by omega
      rw [mixT_full] at S
      go_wp2
      go_ret
      exact ⟨rfl, vs, S⟩

theorem tab_at {w : World} {u : Value} {vs : List Sl} {T : List (List Int)} (h : (plTab u vs T).ok w) {k : Nat} {t : List Int} (hk : T[k]? = some t) :
    ∃ g cap s, u = .slice (some ⟨g, 0, none⟩) T.length cap ∧ vs[k]? = some s ∧ s.n = t.length ∧ t.length ≤ s.c ∧ w.cell? ⟨g, k, none⟩ = some (.slice s.a t.length s.c) ∧ w.frozen? ⟨g, k, none⟩ = false ∧ w.ownsRow 0 3 1 s.v t.length (t.flatMap encInt1) := by
  obtain ⟨h1, h2, h3, h4, h5⟩ := h
  have hkl := (List.getElem?_eq_some_iff.1 hk).1
  have hkv : k < vs.length := by omega
  obtain ⟨a, cap, hu, hcl, hr, hsh⟩ := view_owns encSl_len h1
  rcases hsh with ⟨_, e2, _⟩ | ⟨g, rfl, _⟩
  · rw [e2] at hkv; simp at hkv
  have h6 := h3 k vs[k] t (List.getElem?_eq_getElem hkv) hk
  obtain ⟨ai, ci, hv, hl, _, _⟩ := view_owns encInt1_len h6
  simp only [Sl.v, Value.slice.injEq] at hv
  refine ⟨g, cap, vs[k], by rw [hu, h2], List.getElem?_eq_getElem hkv, hv.2.1, by rw [hv.2.2]; exact hl, ?_, ?_, h6⟩
  · obtain ⟨b, off, ha, hcell⟩ := hr k hkv
    simp only [Option.some.injEq, Addr.mk.injEq, and_true] at ha
    obtain ⟨rfl, rfl⟩ := ha
    have := hcell 0 _ rfl
    rw [← hv.2.1]
    simpa using this
  · subst hu
    exact h1.frozenAt k
theorem tab_set {w w' : World} {u : Value} {vs : List Sl} {T : List (List Int)} (h : (plTab u vs T).ok w) {k base : Nat} {s : Sl} {t' : List Int} (hs : vs[k]? = some s)
    (hg : Chg (fun b => s.v.ownBlock = some b) w w') (ho : w'.ownsRow base 3 1 s.v t'.length (t'.flatMap encInt1)) : (plTab u vs (T.set k t')).ok w' := by
  obtain ⟨h1, h2, h3, h4, h5⟩ := h
  have hkv := (List.getElem?_eq_some_iff.1 hs).1
  have hsm := List.mem_of_getElem? hs
  refine ⟨?_, by rw [List.length_set]; exact h2, fun j s2 t2 hs2 ht2 => ?_, h4, h5⟩
  · exact (plRow 22 1 encSl u vs).frame w w' h1 (fun b hb => hg.block b ((plRow 22 1 encSl u vs).lt w b h1 hb) (fun e => h4 s hsm b e hb))
  · by_cases hjk : k = j
    · subst hjk
      rw [hs] at hs2; cases hs2
      rw [List.getElem?_set_self (by omega)] at ht2
      cases ht2
      exact ownsRow_base ho (Nat.zero_le _)
    · rw [List.getElem?_set_ne hjk] at ht2
      have h6 := h3 j s2 t2 hs2 ht2
      exact (plRow 3 1 encInt1 s2.v t2).frame w w' h6 (fun b hb => hg.block b ((plRow 3 1 encInt1 s2.v t2).lt w b h6 hb) (fun e => h5 k j s s2 hjk hs hs2 b e hb))

/-- Rows of the same lengths, numbered through. -/
def marksT : List (List Int) → Int → List (List Int)
  | [], _ => []
  | t :: ts, c => marksInt t.length c :: marksT ts (c + (t.length : Int))
theorem marksT_len : ∀ (T : List (List Int)) (c : Int), (marksT T c).length = T.length
  | [], _ => rfl
  | t :: ts, c => by simp [marksT, marksT_len ts]
theorem marksT_at : ∀ (T : List (List Int)) (c : Int) (k : Nat) (t : List Int), T[k]? = some t → (marksT T c)[k]? = some (marksInt t.length (c + (sumL (T.take k) : Int)))
  | t0 :: ts, c, 0, t, h => by
    simp only [List.getElem?_cons_zero, Option.some.injEq] at h
    subst h
    simp [marksT, sumL]
  | t0 :: ts, c, k + 1, t, h => by
    simp only [List.getElem?_cons_succ] at h
    have := marksT_at ts (c + (t0.length : Int)) k t h
    simp only [marksT, List.getElem?_cons_succ, this, List.take_succ_cons, sumL]
    congr 2
    push_cast
    omega
theorem marksT_append : ∀ (A B : List (List Int)) (c : Int), marksT (A ++ B) c = marksT A c ++ marksT B (c + (sumL A : Int))
  | [], B, c => by simp [marksT, sumL]
  | t :: A, B, c => by
    simp only [List.cons_append, marksT, marksT_append A, sumL]
    congr 3
    push_cast
    omega
def mmT (T : List (List Int)) (c : Int) (k : Nat) : List (List Int) := marksT (T.take k) c ++ T.drop k
theorem mmT_zero (T : List (List Int)) (c : Int) : mmT T c 0 = T := by simp [mmT, marksT]
theorem mmT_full (T : List (List Int)) (c : Int) : mmT T c T.length = marksT T c := by simp [mmT]
theorem mmT_len (T : List (List Int)) (c : Int) (k : Nat) (hk : k ≤ T.length) : (mmT T c k).length = T.length := by simp [mmT, marksT_len]; omega
theorem mmT_at {T : List (List Int)} {c : Int} {k : Nat} {t : List Int} (h : T[k]? = some t) : (mmT T c k)[k]? = some t := by
  have hk := (List.getElem?_eq_some_iff.1 h).1
  unfold mmT
  rw [List.getElem?_append_right (by rw [marksT_len, List.length_take]; omega), marksT_len, List.length_take, Nat.min_eq_left (by omega), Nat.sub_self, List.getElem?_drop, Nat.add_zero]
  exact h
theorem mmT_set {T : List (List Int)} {c : Int} {k : Nat} {t : List Int} (h : T[k]? = some t) : (mmT T c k).set k (marksInt t.length (c + (sumL (T.take k) : Int))) = mmT T c (k + 1) := by
  obtain ⟨hk, rfl⟩ := List.getElem?_eq_some_iff.1 h
  unfold mmT
  rw [List.set_append, if_neg (by rw [marksT_len, List.length_take]; omega), marksT_len, List.length_take, Nat.min_eq_left (by omega), Nat.sub_self, List.drop_eq_getElem_cons hk, List.set_cons_zero, List.take_succ_eq_append_getElem hk, marksT_append, List.append_assoc]
  rfl

set_option maxHeartbeats 2000000 in
theorem markTab_own (u : Value) (vs : List Sl) (T : List (List Int)) (c : Int) (w : World) (hl : T.length ≤ 1048576) (hs : sumL T ≤ 1048576) (h0 : 0 ≤ c) (h1 : c ≤ 900000000000) (hok : (plTab u vs T).ok w) :
    Calls Try.prog 55 #[u, .int .i64 c] w fun e w' => e = .returned (.int .i64 (c + (sumL T : Int))) ∧ (plTab u vs (marksT T c)).ok w' ∧ Chg (plTab u vs T).own w w' := by
  obtain ⟨a, cap, hu, _, _, _⟩ := tab_view hok
  subst hu
  go_enter Try.func55, Try.ntmps55
  go_wp2
  go_loopw [1, 5] (fun q i wr => ∃ k : Nat, k ≤ T.length ∧ i = .int .i64 k ∧ q = .int .i64 (c + (sumL (T.take k) : Int)) ∧ (plTab (.slice a T.length cap) vs (mmT T c k)).ok wr ∧ Chg (plTab (.slice a T.length cap) vs T).own w wr) (fun _ i _ => T.length - (intOf i).toNat)
  case atStart => exact ⟨0, Nat.zero_le _, rfl, by simp [sumL], by rw [mmT_zero]; exact hok, Chg.refl _ _⟩
  case round =>
    clear hok
    obtain ⟨k, hk, rfl, rfl, hok, hb⟩ := hrel
    by_cases hlk : k < T.length
    · obtain ⟨t, ht⟩ : ∃ t, T[k]? = some t := ⟨_, List.getElem?_eq_getElem hlk⟩
      obtain ⟨g, cap', s, hu, hs1, hs2, hs3, c0, _, ho⟩ := tab_at hok (mmT_at (c := c) ht)
      rw [mmT_len T c k hk] at hu
      simp only [Value.slice.injEq, true_and] at hu
      obtain ⟨rfl, rfl⟩ := hu
      have Ht := Lib.hid ht
      have htl := sumL_mem ht
      have hsk := sumL_take T k
      have Hst := Lib.hid (sumL_step ht)
      have Hset := Lib.hid (mmT_set (c := c) ht)
      have i0 : (k : Int) < (T.length : Int) := by omega
      obtain ⟨sa, sn, sc⟩ := s
      simp only at hs2 hs3 c0
      subst hs2
      generalize sumL (T.take k) = m at *
      have Hs1 := Lib.hid hs1
      have Hok := Lib.hid hok
      clear ht hs1 hok
      go_wp2_with fail
      refine (markIntS_own 0 (.slice sa t.length sc) t.length t (c + (m : Int)) wr rfl (by omega) (by omega) (by omega) ho).mono ?_
      rintro e w2 ⟨rfl, hq, hg⟩
      have hq2 : w2.ownsRow 0 3 1 (Sl.v ⟨sa, t.length, sc⟩) (marksInt t.length (c + (m : Int))).length ((marksInt t.length (c + (m : Int))).flatMap encInt1) := by rw [marksInt_len]; exact hq
      have hch : Chg (fun b => (Sl.v ⟨sa, t.length, sc⟩).ownBlock = some b) wr w2 := Chg.of_grown hg
      have h9 := tab_set Hok.out Hs1.out hch hq2
      have hb2 := hb.trans (hch.mono (S' := (plTab (.slice (some ⟨g, 0, none⟩) T.length cap) vs T).own) (fun b hb' _ => .inr ⟨_, List.mem_of_getElem? Hs1.out, hb'⟩))
      have H9 := Lib.hid h9
      clear hq hg hq2 h9 ho
      go_wp2
      go_roundw
      case rel =>
        exact ⟨k + 1, by omega, by go_num, by rw [Hst.out]; congr 1; push_cast; omega, by rw [← Hset.out]; exact H9.out, hb2⟩
      case measure => simp [intOf]; omega
    · obtain rfl : k = T.length := by omega
      have hni : ¬ (T.length : Int) < (T.length : Int) := by omega
      rw [mmT_full] at hok
      rw [List.take_length]
      go_wp2
      go_ret
      exact ⟨rfl, hok, hb⟩

set_option maxHeartbeats 2000000 in
theorem heldTab_any (a : Option Addr) (cap : Nat) (T : List (List Int)) (c : Int) (w : World) (hl : T.length ≤ 1048576) (hs : sumL T ≤ 1048576) (h0 : 0 ≤ c) (h1 : c ≤ 900000000000) (hc : RdT w a (marksT T c)) :
    Calls Try.prog 59 #[.slice a T.length cap, .int .i64 c] w (RetI (c + (sumL T : Int)) w) := by
  go_enter Try.func59, Try.ntmps59
  go_wp2
  go_loopw [1, 5] (fun q i wr => ∃ k : Nat, k ≤ T.length ∧ i = .int .i64 k ∧ q = .int .i64 (c + (sumL (T.take k) : Int)) ∧ Ext w wr) (fun _ i _ => T.length - (intOf i).toNat)
  case atStart => exact ⟨0, Nat.zero_le _, rfl, by simp [sumL], Ext.refl _⟩
  case round =>
    obtain ⟨k, hk, rfl, rfl, hb⟩ := hrel
    by_cases hlk : k < T.length
    · obtain ⟨t, ht⟩ : ∃ t, T[k]? = some t := ⟨_, List.getElem?_eq_getElem hlk⟩
      obtain ⟨t', b, off, ai, ci, ht', hpe, c0, hci, hrt⟩ := atTab (hc.ext hb) (show k < (marksT T c).length by rw [marksT_len]; exact hlk)
      subst hpe
      rw [marksT_at T c k t ht] at ht'
      obtain rfl := Option.some.inj ht'
      rw [marksInt_len] at c0
      have htl := sumL_mem ht
      have hsk := sumL_take T k
      have Hst := Lib.hid (sumL_step ht)
      have i0 : (k : Int) < (T.length : Int) := by omega
      generalize sumL (T.take k) = m at *
      clear ht ht'
      go_wp2_with fail
      refine (heldIntS_any ai ci t.length (c + (m : Int)) wr (by omega) (by omega) (by omega) hrt).mono ?_
      rintro e w2 ⟨rfl, hE⟩
      have hnn : ¬ (c + (m : Int) + (t.length : Int) < 0) := by omega
      go_wp2
      go_roundw
      case rel => exact ⟨k + 1, by omega, by go_num, by rw [Hst.out]; congr 1; push_cast; omega, hb.trans hE⟩
      case measure => simp [intOf]; omega
    · obtain rfl : k = T.length := by omega
      have hni : ¬ (T.length : Int) < (T.length : Int) := by omega
      rw [List.take_length]
      go_wp2
      go_ret
      exact RetI.mk rfl hb
end Go.Proofs.Ytpnllhdgpfbaiaa
