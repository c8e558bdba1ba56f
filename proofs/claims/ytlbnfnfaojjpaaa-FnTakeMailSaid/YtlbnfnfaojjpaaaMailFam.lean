/- Mail: the cells of slices of it; contracts of the functions that read, copy, compare and mark them. No condition but that lists are shorter than 2^63. -/
import Derived.Test.YtlbnfnfaojjpaaaInts
import Derived.Test.YtlbnfnfaojjpaaaApp
import Derived.Test.YtlbnfnfaojjpaaaText
import Derived.Test.YtlbnfnfaojjpaaaOrd
namespace Go.Proofs.Ytlbnfnfaojjpaaa
open Go.RowKit

structure Mail where
  kind : Int
  text : ByteArray
def encMail (x : Mail) : List Value := [.int .i64 x.kind, .string x.text]
theorem encMail_len (x : Mail) : (encMail x).length = 2 := rfl
theorem encMail_one (x : Mail) : ∀ u ∈ encMail x, u.oneCell' = true := by simp [encMail, Value.oneCell']

theorem atMail {w : World} {a : Option Addr} {l : List Mail} (h : Rd 2 encMail w a l) {k : Nat} (hk : k < l.length) :
    ∃ x b off, l[k]? = some x ∧ a = some ⟨b, off, none⟩ ∧ w.cell? ⟨b, off + k * 2, none⟩ = some (.int .i64 x.kind) ∧ w.cell? ⟨b, off + k * 2 + 1, none⟩ = some (.string x.text) := by
  obtain ⟨b, off, ha, hc⟩ := h k hk
  exact ⟨l[k], b, off, List.getElem?_eq_getElem hk, ha, hc 0 _ rfl, hc 1 _ rfl⟩

set_option maxHeartbeats 400000 in
theorem szMail_any (x : Mail) (left : Int) (w : World) (h0 : 0 ≤ left) (h1 : left ≤ 1048576) (hstext : x.text.size ≤ 9223372036854775807) :
    Calls Try.prog 16 #[.agg #[.int .i64 x.kind, .string x.text], .int .i64 left] w (RetSz left (fun _ => x.text.size ≤ 1048576) w) := by
  go_enter Try.func16, Try.ntmps16
  go_wp2
  all_goals
    go_ret
    exact RetSz.mk rfl (by omega) (by omega) (by omega) ((Ext.refl _).alloc _)

set_option maxHeartbeats 1000000 in
theorem szMailS_any (a : Option Addr) (cap : Nat) (l : List Mail) (left : Int) (w : World) (h0 : 0 ≤ left) (h1 : left ≤ 1048576) (hl : l.length ≤ 9223372036854775807) (hs : ∀ x ∈ l, x.text.size ≤ 9223372036854775807) (hc : Rd 2 encMail w a l) :
    Calls Try.prog 13 #[.slice a l.length cap, .int .i64 left] w (RetSz left (fun _ => l.length ≤ 1048576 ∧ ∀ x ∈ l, x.text.size ≤ 1048576) w) := by
  by_cases h : left - l.length < 0
  · go_enter Try.func13, Try.ntmps13
    go_wp2
    go_ret
    exact RetSz.mk rfl (by omega) (by omega) (by omega) (Ext.refl _)
  · go_enter Try.func13, Try.ntmps13
    go_wp2
    go_loopw [1, 5] (fun q i wr => ∃ (k : Nat) (r : Int), k ≤ l.length ∧ i = .int .i64 k ∧ q = .int .i64 r ∧ 0 ≤ r ∧ r ≤ left ∧ (∀ j, j < k → ∀ x, l[j]? = some x → x.text.size ≤ 1048576) ∧ Ext w wr) (fun _ i _ => l.length - (intOf i).toNat)
    case atStart => exact ⟨0, left - l.length, Nat.zero_le _, rfl, rfl, by omega, by omega, fun _ h => absurd h (Nat.not_lt_zero _), Ext.refl _⟩
    case round =>
      obtain ⟨k, r, hk, rfl, rfl, hr0, hr1, hpre, hb⟩ := hrel
      have Hpre := Lib.hid hpre
      clear hpre
      have Hs := Lib.hid hs
      clear hs
      by_cases hlt : k < l.length
      · obtain ⟨x, b, off, hx, rfl, c0, c1⟩ := atMail (hc.ext hb) hlt
        have hstext := Hs.out x (List.mem_of_getElem? hx)
        have Hx := Lib.hid hx
        clear hx
        go_wp2_with (go_at_call 16; refine (szMail_any x _ _ (by omega) (by omega) hstext).mono ?_; rintro e w2 ⟨r2, rfl, hq1, hq2, hq3, hb2⟩; have Hq3 := Lib.hid hq3; clear hq3)
        · have hneg : r2 < 0 := by assumption
          go_ret
          exact RetSz.mk rfl (by omega) (by omega) (by omega) (hb.trans hb2)
        · have hpos : 0 ≤ r2 := by omega
          go_roundw
          case rel => exact ⟨k + 1, r2, by omega, by go_num, rfl, by omega, by omega, fun j hj y hy => (Nat.lt_succ_iff_lt_or_eq.1 hj).elim (fun h => Hpre.out j h y hy) (fun e => by subst e; rw [Hx.out] at hy; cases hy; exact Hq3.out hpos), hb.trans hb2⟩
          case measure => simp [intOf]; omega
      · go_wp2
        go_ret
        exact RetSz.mk rfl (by omega) (by omega) (fun _ => ⟨by omega, fun x hx => by obtain ⟨j, hj⟩ := List.getElem?_of_mem hx; exact Hpre.out j (by have := (List.getElem?_eq_some_iff.1 hj).1; omega) x hj⟩) hb

theorem infoMail : (Try.prog.info? 27).map (fun i => (i.zero, i.size, i.bytes)) = some (some (.agg #[.int .i64 0, .string ByteArray.empty]), 2, 24) := by kernel_rfl

set_option maxHeartbeats 400000 in
theorem toMail_any (x : Mail) (w : World) :
    Calls Try.prog 18 #[.agg #[.int .i64 x.kind, .string x.text]] w (RetV (fun v _ => v = .agg #[.int .i64 x.kind, .string x.text]) w) := by
  go_enter Try.func18, Try.ntmps18
  go_wp2
  exact bodyPost_ret (v := .agg #[.int .i64 x.kind, .string x.text]) (by simp [results, Try.results18, go_sem]) rfl (RetV.mk rfl ((((Ext.refl _).alloc _).alloc _).alloc _))

theorem madeMail (n : Nat) : (madeCells (Value.agg #[.int .i64 0, .string ByteArray.empty]).cells (n * 2)).toList = (List.replicate n (⟨0, ByteArray.empty⟩ : Mail)).flatMap encMail := by
  apply List.ext_getElem?
  intro j
  by_cases hj : j < n * 2
  · have e : j = j / 2 * 2 + j % 2 := by omega
    have h3 : j % 2 < 2 := Nat.mod_lt _ (by omega)
    have hd : j / 2 < n := by omega
    rw [show ((List.replicate n (⟨0, ByteArray.empty⟩ : Mail)).flatMap encMail)[j]? = ((List.replicate n (⟨0, ByteArray.empty⟩ : Mail)).flatMap encMail)[j / 2 * 2 + j % 2]? by rw [← e], flatMap_at encMail_len _ _ _ h3]
    simp [madeCells, Value.cells, hj, hd]
    rcases (show j % 2 = 0 ∨ j % 2 = 1 by omega) with h | h <;> simp [h, encMail]
  · rw [List.getElem?_eq_none (by simp [madeCells]; omega), List.getElem?_eq_none (by rw [flatMap_length encMail_len]; simp; omega)]

/-- What lies in the new slice when k elements were copied. -/
def mixMail (l : List Mail) (k : Nat) : List Mail := l.take k ++ List.replicate (l.length - k) ⟨0, ByteArray.empty⟩
theorem mixMail_len (l : List Mail) (k : Nat) (hk : k ≤ l.length) : (mixMail l k).length = l.length := by simp [mixMail]; omega
theorem mixMail_zero (l : List Mail) : mixMail l 0 = List.replicate l.length ⟨0, ByteArray.empty⟩ := by simp [mixMail]
theorem mixMail_full (l : List Mail) : mixMail l l.length = l := by simp [mixMail]
theorem mixMail_set (l : List Mail) (k : Nat) (x : Mail) (hx : l[k]? = some x) : (mixMail l k).set k x = mixMail l (k + 1) := by
  obtain ⟨hk, rfl⟩ := List.getElem?_eq_some_iff.1 hx
  unfold mixMail
  obtain ⟨r, hr⟩ : ∃ r, l.length - k = r + 1 := ⟨l.length - k - 1, by omega⟩
  rw [hr, List.replicate_succ, show l.length - (k + 1) = r by omega, List.set_append, if_neg (by simp; omega), List.take_succ_eq_append_getElem hk, List.length_take, Nat.min_eq_left (Nat.le_of_lt hk), Nat.sub_self, List.set_cons_zero, List.append_assoc]
  rfl

set_option maxHeartbeats 1000000 in
theorem toMailS_any (a : Option Addr) (cap : Nat) (l : List Mail) (w : World) (hl : l.length ≤ 1048576) (hc : Rd 2 encMail w a l) :
    Calls Try.prog 14 #[.slice a l.length cap] w (RetV (fun v w' => w'.ownsRow w.heap.size 27 2 v l.length (l.flatMap encMail) ∧ v = .slice (some ⟨w.heap.size, 0, none⟩) l.length l.length) w) := by
  obtain ⟨i0, hi, hz0, hz1, hz2⟩ := info_parts infoMail
  go_enter Try.func14, Try.ntmps14
  go_wp2_with (at_make; refine wpList_make_full _ rfl _ _ 23 rfl w.heap.size 27 i0 _ 2 Try.underlying23 hi hz0 hz1 _ _ _ _ l.length rfl rfl rfl rfl ?b1 ?b2 ?b3 ?_)
  case b1 => rw [hz2]; omega
  case b2 => unfold maxLen; omega
  case b3 => exact Nat.le_refl _
  intro w1 hown1 hgr1
  have hE := ext_of_grown hgr1
  clear hgr1
  go_wp2
  go_loopw [4] (fun i wr => ∃ k : Nat, k ≤ l.length ∧ i = .int .i64 k ∧ wr.ownsRow w.heap.size 27 2 (.slice (some ⟨w.heap.size, 0, none⟩) l.length l.length) l.length ((mixMail l k).flatMap encMail) ∧ Ext w wr) (fun i _ => l.length - (intOf i).toNat)
  case atStart => exact ⟨0, Nat.zero_le _, rfl, by rw [mixMail_zero, ← madeMail]; exact hown1, hE⟩
  case round =>
    obtain ⟨k, hk, rfl, hown, hb⟩ := hrel
    clear hown1 hE
    by_cases hlt : k < l.length
    · obtain ⟨x, b, off, hx, rfl, c0, c1⟩ := atMail (hc.ext hb) hlt
      have Hx := Lib.hid hx
      clear hx
      have hkm : k < (mixMail l k).length := by rw [mixMail_len _ _ hk]; exact hlt
      go_wp2_with (go_at_call 18; refine (toMail_any x _).mono ?_; rintro e w2 ⟨v, rfl, rfl, hb2⟩; have g0 : w2.cell? ⟨w.heap.size, k * 2, none⟩ = some _ := owns_at encMail_len (ownsRow_ext hown hb2) k hkm 0 _ rfl; have g1 : w2.cell? ⟨w.heap.size, k * 2 + 1, none⟩ = some _ := owns_at encMail_len (ownsRow_ext hown hb2) k hkm 1 _ rfl; have f0 := (ownsRow_ext hown hb2).frozenAt)
      go_roundw
      case rel =>
        have h3 := owns_put encMail_len (ownsRow_ext hown hb2) k x hkm
        rw [mixMail_set l k x Hx.out] at h3
        exact ⟨k + 1, by omega, by go_num, h3, Ext.setCells (Nat.le_refl _) (encMail x) (k * 2) (hb.trans hb2)⟩
      case measure => simp [intOf]; omega
    · obtain rfl : k = l.length := by omega
      rw [mixMail_full] at hown
      go_wp2
      go_ret
      exact RetV.mk ⟨hown, rfl⟩ hb

theorem extMail {l m : List Mail} (hl : l.length = m.length) (h : ∀ j, j < l.length → l[j]? = m[j]?) : l = m := by
  apply List.ext_getElem?
  intro j
  by_cases hj : j < l.length
  · exact h j hj
  · rw [List.getElem?_eq_none (by omega), List.getElem?_eq_none (by omega)]

set_option maxHeartbeats 1000000 in
theorem eqMail_any (x y : Mail) (w : World) :
    Calls Try.prog 27 #[.agg #[.int .i64 x.kind, .string x.text], .agg #[.int .i64 y.kind, .string y.text]] w (RetB (x = y) w) := by
  obtain ⟨x0, x1⟩ := x
  obtain ⟨y0, y1⟩ := y
  go_enter Try.func27, Try.ntmps27
  go_wp2
  all_goals
    go_ret
    refine RetB.mk _ rfl ?_ (((Ext.refl _).alloc _).alloc _)
    simp_all [bytes_eq]

set_option maxHeartbeats 2000000 in
theorem eqMailS_any (a a' : Option Addr) (cap cap' : Nat) (l m : List Mail) (w : World) (hl : l.length ≤ 9223372036854775807) (hm : m.length ≤ 9223372036854775807) (hc : Rd 2 encMail w a l) (hd : Rd 2 encMail w a' m) :
    Calls Try.prog 15 #[.slice a l.length cap, .slice a' m.length cap'] w (RetB (l = m) w) := by
  by_cases hlen : l.length = m.length
  · have ht : ((l.length : Int) != (m.length : Int)) = false := by simp; omega
    have Hlen := Lib.hid hlen
    clear hlen
    go_enter Try.func15, Try.ntmps15
    go_wp2
    go_loopw [5] (fun i wr => ∃ k : Nat, k ≤ l.length ∧ i = .int .i64 k ∧ (∀ j, j < k → l[j]? = m[j]?) ∧ Ext w wr) (fun i _ => l.length - (intOf i).toNat)
    case atStart => exact ⟨0, Nat.zero_le _, rfl, fun _ h => absurd h (Nat.not_lt_zero _), Ext.refl _⟩
    case round =>
      obtain ⟨k, hk, rfl, hpre, hb⟩ := hrel
      have Hpre := Lib.hid hpre
      clear hpre
      by_cases hlt : k < l.length
      · have hltm : k < m.length := by have := Hlen.out; omega
        obtain ⟨x, b, off, hx, rfl, c0, c1⟩ := atMail (hc.ext hb) hlt
        obtain ⟨y, b', off', hy, rfl, d0, d1⟩ := atMail (hd.ext hb) hltm
        have Hx := Lib.hid hx
        have Hy := Lib.hid hy
        clear hx hy ht
        go_wp2
        go_still_tail 8, (by kernel_rfl)
        change wpList _ _ _ _ _ wr.drew
        generalize hw2 : wr.drew = w2
        have hb2 : Ext w w2 := by rw [← hw2]; exact hb.drew
        clear hw2 hb c0 d0 c1 d1
        go_wp2_with (go_at_call 27; refine (eqMail_any x y _).mono ?_; rintro e w3 ⟨b0, rfl, he, hb3⟩; have He := Lib.hid he; clear he)
        · have hb0 : (!b0) = true := by assumption
          go_ret
          exact RetB.mk false rfl (by simp only [Bool.false_eq_true, false_iff]; intro h; subst h; have h1 := Hx.out; rw [Hy.out] at h1; cases h1; rw [He.out.2 rfl] at hb0; cases hb0) (hb2.trans hb3)
        · have hb0 : (!b0) = false := by assumption
          have hxy : x = y := He.out.1 (by simpa using hb0)
          go_roundw
          case rel => exact ⟨k + 1, by omega, by go_num, fun j hj => (Nat.lt_succ_iff_lt_or_eq.1 hj).elim (Hpre.out j) (fun e => by rw [e, Hx.out, Hy.out, hxy]), hb2.trans hb3⟩
          case measure => simp [intOf]; omega
      · go_wp2
        go_ret
        exact RetB.mk true rfl (by simp only [true_iff]; exact extMail Hlen.out (fun j hj => Hpre.out j (by omega))) hb
  · have ht : ((l.length : Int) != (m.length : Int)) = true := by simp; omega
    have Hlen := Lib.hid hlen
    clear hlen
    go_enter Try.func15, Try.ntmps15
    go_wp2
    go_ret
    exact RetB.mk false rfl (by simp only [Bool.false_eq_true, false_iff]; intro h; exact Hlen.out (by rw [h])) (Ext.refl _)

theorem guardMail (op : BinOp) (p q : Operand) (x y : Array Value) (w : World) : (eqGuard op 27 p q (.agg x) (.agg y)).run Try.prog w = .ok () w := run_eqGuard_agg w op 27 p q _ _ (by kernel_rfl)
theorem neqMail_same (x : Mail) (w : World) : (binOp .neq 27 (.agg #[.int .i64 x.kind, .string x.text]) (.agg #[.int .i64 x.kind, .string x.text])).run Try.prog w = .ok (.bool false) w := by
  simp [go_sem]
theorem neqMail_other {x y : Mail} (h : x ≠ y) (w : World) : (binOp .neq 27 (.agg #[.int .i64 x.kind, .string x.text]) (.agg #[.int .i64 y.kind, .string y.text])).run Try.prog w = .ok (.bool true) w := by
  obtain ⟨x0, x1⟩ := x
  obtain ⟨y0, y1⟩ := y
  by_cases h0 : x0 = y0 <;> by_cases h1 : x1 = y1 <;> simp [go_sem, h0, h1] <;> simp_all [bytes_eq]
theorem eqlMail_same (x : Mail) (w : World) : (binOp .eql 27 (.agg #[.int .i64 x.kind, .string x.text]) (.agg #[.int .i64 x.kind, .string x.text])).run Try.prog w = .ok (.bool true) w := by
  simp [go_sem]
theorem eqlMail_other {x y : Mail} (h : x ≠ y) (w : World) : (binOp .eql 27 (.agg #[.int .i64 x.kind, .string x.text]) (.agg #[.int .i64 y.kind, .string y.text])).run Try.prog w = .ok (.bool false) w := by
  obtain ⟨x0, x1⟩ := x
  obtain ⟨y0, y1⟩ := y
  by_cases h0 : x0 = y0 <;> by_cases h1 : x1 = y1 <;> simp [go_sem, h0, h1] <;> simp_all [bytes_eq]

set_option maxHeartbeats 2000000 in
theorem sameMails_any (a a' : Option Addr) (cap cap' : Nat) (l m : List Mail) (w : World) (hl : l.length ≤ 9223372036854775807) (hm : m.length ≤ 9223372036854775807) (hc : Rd 2 encMail w a l) (hd : Rd 2 encMail w a' m) :
    Calls Try.prog 25 #[.slice a l.length cap, .slice a' m.length cap'] w (RetB (l = m) w) := by
  by_cases hlen : l.length = m.length
  · have ht : ((l.length : Int) != (m.length : Int)) = false := by simp; omega
    have Hlen := Lib.hid hlen
    clear hlen
    go_enter Try.func25, Try.ntmps25
    go_wp2
    go_loopw [5] (fun i wr => ∃ k : Nat, k ≤ l.length ∧ i = .int .i64 k ∧ (∀ j, j < k → l[j]? = m[j]?) ∧ Ext w wr) (fun i _ => l.length - (intOf i).toNat)
    case atStart => exact ⟨0, Nat.zero_le _, rfl, fun _ h => absurd h (Nat.not_lt_zero _), Ext.refl _⟩
    case round =>
      obtain ⟨k, hk, rfl, hpre, hb⟩ := hrel
      have Hpre := Lib.hid hpre
      clear hpre
      by_cases hlt : k < l.length
      · have hltm : k < m.length := by have := Hlen.out; omega
        obtain ⟨x, b, off, hx, rfl, c0, c1⟩ := atMail (hc.ext hb) hlt
        obtain ⟨y, b', off', hy, rfl, d0, d1⟩ := atMail (hd.ext hb) hltm
        have Hx := Lib.hid hx
        have Hy := Lib.hid hy
        clear hx hy ht
        by_cases hxy : x = y
        · subst hxy
          have e1 := neqMail_same x
          have e2 := fun w => guardMail .neq (.tmp 20) (.tmp 24) #[.int .i64 x.kind, .string x.text] #[.int .i64 x.kind, .string x.text] w
          go_wp2
          go_quiet (fail)
          clear e1 e2
          go_wp2
          go_roundw
          case rel => exact ⟨k + 1, by omega, by go_num, fun j hj => (Nat.lt_succ_iff_lt_or_eq.1 hj).elim (Hpre.out j) (fun e => by rw [e, Hx.out, Hy.out]), hb.drewN _⟩
          case measure => simp [intOf]; omega
        · have e1 := neqMail_other hxy
          have e2 := fun w => guardMail .neq (.tmp 20) (.tmp 24) #[.int .i64 x.kind, .string x.text] #[.int .i64 y.kind, .string y.text] w
          go_wp2
          go_quiet (fail)
          clear e1 e2
          go_wp2
          go_ret
          exact RetB.mk false rfl (by simp only [Bool.false_eq_true, false_iff]; intro h; subst h; have h1 := Hx.out; rw [Hy.out] at h1; cases h1; exact hxy rfl) (hb.drewN _)
      · go_wp2
        go_ret
        exact RetB.mk true rfl (by simp only [true_iff]; exact extMail Hlen.out (fun j hj => Hpre.out j (by omega))) hb
  · have ht : ((l.length : Int) != (m.length : Int)) = true := by simp; omega
    have Hlen := Lib.hid hlen
    clear hlen
    go_enter Try.func25, Try.ntmps25
    go_wp2
    go_ret
    exact RetB.mk false rfl (by simp only [Bool.false_eq_true, false_iff]; intro h; exact Hlen.out (by rw [h])) (Ext.refl _)

set_option maxHeartbeats 1000000 in
theorem cloneMail_any (a : Option Addr) (cap : Nat) (l : List Mail) (w : World) (hl : l.length ≤ 1048576) (hc : Rd 2 encMail w a l) :
    Calls Try.prog 35 #[.slice a l.length cap] w (RetV (fun v w' => w'.ownsRow w.heap.size 27 2 v l.length (l.flatMap encMail)) w) := by
  have hq := fun w a n c => Lib.run_eql_slice_nil (P := Try.prog) w 23 27 a n c 0 0 Try.underlying23
  cases a with
  | none =>
    have hnil : l = [] := by
      cases l with
      | nil => rfl
      | cons y l => obtain ⟨b, off, h0, _⟩ := hc 0 (by simp); cases h0
    subst hnil
    go_enter Try.func35, Try.ntmps35
    go_wp2
    go_ret
    exact RetV.mk (World.ownsRow_nil _ _ _ _) (Ext.refl _)
  | some a =>
    go_enter Try.func35, Try.ntmps35
    go_wp2_with (at_builtin; refine wpList_append_rd rfl _ _ 23 rfl w.heap.size 27 _ 2 _ Try.underlying23 infoMail rfl (by decide) encMail_len encMail_one _ 0 [] rfl (owns_lit_new [] encMail_len rfl rfl (by omega) (Nat.le_refl _)) rfl (some a) l.length cap l rfl rfl (hc.ext ((Ext.refl _).alloc _)) (by omega) (by omega) (by simp) ?_)
    intro v' w' hown hg
    go_wp2
    go_ret
    exact RetV.mk hown (((Ext.refl _).alloc _).grown hg (by intro k h; simp [Value.ownBlock] at h; omega))

def markMail (c : Int) : Mail := ⟨c, markStr (c + 1)⟩
def marksMail (n : Nat) (c : Int) : List Mail := (List.range n).map fun i : Nat => markMail (c + 2 * (i : Int))
theorem marksMail_len (n : Nat) (c : Int) : (marksMail n c).length = n := by simp [marksMail]
theorem marksMail_at (n : Nat) (c : Int) (i : Nat) (h : i < n) : (marksMail n c)[i]? = some (markMail (c + 2 * (i : Int))) := by simp [marksMail, h]
def mmixMail (L : List Mail) (c : Int) (i : Nat) : List Mail := marksMail i c ++ L.drop i
theorem mmixMail_len (L : List Mail) (c : Int) (i : Nat) (h : i ≤ L.length) : (mmixMail L c i).length = L.length := by simp [mmixMail, marksMail_len]; omega
theorem mmixMail_zero (L : List Mail) (c : Int) : mmixMail L c 0 = L := by simp [mmixMail, marksMail]
theorem mmixMail_full (L : List Mail) (c : Int) : mmixMail L c L.length = marksMail L.length c := by simp [mmixMail]
theorem mmixMail_set (L : List Mail) (c : Int) (i : Nat) (h : i < L.length) : (mmixMail L c i).set i (markMail (c + 2 * (i : Int))) = mmixMail L c (i + 1) := by
  unfold mmixMail
  rw [List.set_append, if_neg (by simp [marksMail_len]), marksMail_len, Nat.sub_self, List.drop_eq_getElem_cons h, List.set_cons_zero]
  simp [marksMail, List.range_succ]

set_option maxHeartbeats 2000000 in
theorem markMailS_any (base g cap : Nat) (L : List Mail) (c : Int) (w : World) (hl : L.length ≤ 1048576) (h0 : 0 ≤ c) (h1 : c ≤ 1000000000000)
    (hown : w.ownsRow base 27 2 (.slice (some ⟨g, 0, none⟩) L.length cap) L.length (L.flatMap encMail)) :
    Calls Try.prog 20 #[.slice (some ⟨g, 0, none⟩) L.length cap, .int .i64 c] w (RetMark (c + 2 * (L.length : Int)) (fun w' => w'.ownsRow base 27 2 (.slice (some ⟨g, 0, none⟩) L.length cap) L.length ((marksMail L.length c).flatMap encMail)) (some g) w) := by
  go_enter Try.func20, Try.ntmps20
  go_wp2
  go_loopw [1, 5] (fun q i wr => ∃ k : Nat, k ≤ L.length ∧ i = .int .i64 k ∧ q = .int .i64 (c + 2 * (k : Int)) ∧ wr.ownsRow base 27 2 (.slice (some ⟨g, 0, none⟩) L.length cap) L.length ((mmixMail L c k).flatMap encMail) ∧ w.grownBy wr (some g)) (fun _ i _ => L.length - (intOf i).toNat)
  case atStart => exact ⟨0, Nat.zero_le _, rfl, by simp, by rw [mmixMail_zero]; exact hown, World.grownBy.refl _ _⟩
  case round =>
    obtain ⟨k, hk, rfl, rfl, hownr, hg⟩ := hrel
    by_cases hlt : k < L.length
    · have hkm : k < (mmixMail L c k).length := by rw [mmixMail_len _ _ _ hk]; exact hlt
      have g0 : wr.cell? ⟨g, k * 2, none⟩ = some _ := owns_at encMail_len hownr k hkm 0 _ rfl
      have g1 : wr.cell? ⟨g, k * 2 + 1, none⟩ = some _ := owns_at encMail_len hownr k hkm 1 _ rfl
      have f0 := hownr.frozenAt
      go_wp2_with fail
      refine (markText_any _ _ (by omega) (by omega)).mono ?_
      rintro e w1 ⟨v1, rfl, rfl, hb1⟩
      have o0 := owns_set encMail_len hownr k 0 (.int .i64 ((c + 2 * (k : Int)))) ⟨(c + 2 * (k : Int)), (mmixMail L c k)[k].text⟩ hkm (by omega) rfl
      have e1 := ownsRow_ext o0 hb1
      clear f0
      skip
      have g1 : w1.cell? ⟨g, k * 2 + 1, none⟩ = some _ := owns_at encMail_len e1 k (by simp only [List.length_set]; exact hkm) 1 _ rfl
      have f0 := e1.frozenAt
      go_wp2
      go_roundw
      case rel =>
        have o1 := owns_set encMail_len e1 k 1 (.string (markStr ((c + 2 * (k : Int)) + 1))) ⟨(c + 2 * (k : Int)), (markStr ((c + 2 * (k : Int)) + 1))⟩ (by simp only [List.length_set]; exact hkm) (by omega) (by rw [List.getElem_set_self]; rfl)
        simp only [List.set_set] at o1
        have h3 : _ := o1
        rw [show (⟨(c + 2 * (k : Int)), (markStr ((c + 2 * (k : Int)) + 1))⟩ : Mail) = markMail (c + 2 * (k : Int)) from rfl, mmixMail_set L c k hlt] at h3
        refine ⟨k + 1, by omega, by go_num, by go_num, h3, ?_⟩
        repeat (first | exact hg | (refine grown_setCell ?_ _) | (refine grown_ext ?_ (by assumption)))
      case measure => simp [intOf]; omega
    · obtain rfl : k = L.length := by omega
      go_wp2
      go_ret
      rw [mmixMail_full] at hownr
      exact RetMark.mk rfl hownr hg

set_option maxHeartbeats 1000000 in
theorem markMailS_own (base : Nat) (v : Value) (n : Nat) (L : List Mail) (c : Int) (w : World) (hn : n = L.length) (hl : n ≤ 1048576) (h0 : 0 ≤ c) (h1 : c ≤ 1000000000000)
    (hown : w.ownsRow base 27 2 v n (L.flatMap encMail)) :
    Calls Try.prog 20 #[v, .int .i64 c] w (RetMark (c + 2 * (n : Int)) (fun w' => w'.ownsRow base 27 2 v n ((marksMail n c).flatMap encMail)) v.ownBlock w) := by
  subst hn
  rcases hown.2 with ⟨rfl, hz⟩ | ⟨g, cap, cur, rfl, _⟩
  · have hL : L = [] := List.eq_nil_of_length_eq_zero hz
    subst hL
    go_enter Try.func20, Try.ntmps20
    go_wp2
    refine wp_loop_rounds 1 ?_
    rw [rounds_succ]
    go_wp2
    go_ret
    exact RetMark.mk rfl hown (World.grownBy.refl _ _) (by simp)
  · exact markMailS_any base g cap L c w hl h0 h1 hown

set_option maxHeartbeats 2000000 in
theorem heldMailS_any (a : Option Addr) (cap n : Nat) (c : Int) (w : World) (hl : n ≤ 1048576) (h0 : 0 ≤ c) (h1 : c ≤ 1000000000000) (hc : Rd 2 encMail w a (marksMail n c)) :
    Calls Try.prog 21 #[.slice a n cap, .int .i64 c] w (RetI (c + 2 * (n : Int)) w) := by
  go_enter Try.func21, Try.ntmps21
  go_wp2
  go_loopw [1, 5] (fun q i wr => ∃ k : Nat, k ≤ n ∧ i = .int .i64 k ∧ q = .int .i64 (c + 2 * (k : Int)) ∧ Ext w wr) (fun _ i _ => n - (intOf i).toNat)
  case atStart => exact ⟨0, Nat.zero_le _, rfl, by simp, Ext.refl _⟩
  case round =>
    obtain ⟨k, hk, rfl, rfl, hb⟩ := hrel
    by_cases hlt : k < n
    · skip
      obtain ⟨x, b, off, hx, rfl, c0, c1⟩ := atMail (hc.ext hb) (show k < (marksMail n c).length by rw [marksMail_len]; exact hlt)
      rw [marksMail_at n c k hlt] at hx
      cases hx
      simp only [markMail] at c0 c1
      go_wp2
      refine wp_region_v 7 (V := fun i v _ => match i with | 0 => v = .slice (some ⟨b, off, none⟩) n cap | 1 => v = .int .i64 k | 2 => v = .pointer (some ⟨b, off + k * 2, none⟩) | 3 => v = .pointer (some ⟨b, off + k * 2 + 1, none⟩) | 4 => v = .string (markStr ((c + 2 * (k : Int)) + 1)) | 5 => v = .int .i64 ((c + 2 * (k : Int)) + 1) | 6 => v = .string (markStr ((c + 2 * (k : Int)) + 1)) | _ => True) rfl (by decide) (by kernel_rfl) (by kernel_rfl) (by kernel_rfl) ?_ ?_ ?_
      · intro i v w1 w2 h _; exact h
      · intro i o hi ho vs w2 hvl hE hd
        have cj := cell_ext hE (show (wr).drew.cell? _ = _ from c1)
        match vs, hvl with
        | [x0, x1, x2, x3, x4, x5, x6], _ =>
        rcases (show i = 0 ∨ i = 1 ∨ i = 2 ∨ i = 3 ∨ i = 4 ∨ i = 5 ∨ i = 6 by omega) with rfl | rfl | rfl | rfl | rfl | rfl | rfl
        all_goals
          simp only [List.getElem?_cons_zero, List.getElem?_cons_succ, Option.some.injEq] at ho
          subst ho
          simp [Waits, Region.binds] at hd
          simp [putAll, Act.put, hd]
          go_wp2_with (go_at_call 36; refine (markText_any _ _ (by omega) (by omega)).mono ?_; rintro e w3 ⟨v3, rfl, rfl, hb3⟩)
          first | exact ⟨rfl, _, rfl, rfl, Ext.refl _⟩ | exact ⟨rfl, _, rfl, rfl, hb3⟩
      intro vs w1 hvl hb1 hV
      match vs, hvl with
      | [x0, x1, x2, x3, x4, x5, x6], _ =>
      have h01 := hV 0 (by omega)
      have h11 := hV 1 (by omega)
      have h21 := hV 2 (by omega)
      have h31 := hV 3 (by omega)
      have h41 := hV 4 (by omega)
      have h51 := hV 5 (by omega)
      have h61 := hV 6 (by omega)
      simp at h01 h11 h21 h31 h41 h51 h61
      subst h01 h11 h21 h31 h41 h51 h61
      clear hV
      simp only [putAll, Act.put, List.take_succ_cons, List.take_zero, List.drop_succ_cons, List.drop_zero]
      simp
      replace hb1 : Ext wr w1 := ((Ext.refl wr).drew).trans hb1
      replace c1 := cell_ext hb1 c1
      replace hb := hb.trans hb1
      go_wp2
      go_roundw
      case rel => exact ⟨k + 1, by omega, by go_num, by go_num, hb⟩
      case measure => simp [intOf]; omega
    · obtain rfl : k = n := by omega
      go_wp2
      go_ret
      exact RetI.mk rfl hb

end Go.Proofs.Ytlbnfnfaojjpaaa
