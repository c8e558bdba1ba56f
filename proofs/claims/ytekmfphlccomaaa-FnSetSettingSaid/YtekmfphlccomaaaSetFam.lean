/- Setting: the cells of slices of it; contracts of the functions that read, copy, compare and mark them. No condition but that lists are shorter than 2^63. -/
import Derived.Test.YtekmfphlccomaaaInts
import Derived.Test.YtekmfphlccomaaaApp
import Derived.Test.YtekmfphlccomaaaText
import Derived.Test.YtekmfphlccomaaaOrd
namespace Go.Proofs.Ytekmfphlccomaaa
open Go.RowKit

structure Set where
  name : ByteArray
  text : ByteArray
def encSet (x : Set) : List Value := [.string x.name, .string x.text]
theorem encSet_len (x : Set) : (encSet x).length = 2 := rfl
theorem encSet_one (x : Set) : ∀ u ∈ encSet x, u.oneCell' = true := by simp [encSet, Value.oneCell']

theorem atSet {w : World} {a : Option Addr} {l : List Set} (h : Rd 2 encSet w a l) {k : Nat} (hk : k < l.length) :
    ∃ x b off, l[k]? = some x ∧ a = some ⟨b, off, none⟩ ∧ w.cell? ⟨b, off + k * 2, none⟩ = some (.string x.name) ∧ w.cell? ⟨b, off + k * 2 + 1, none⟩ = some (.string x.text) := by
  obtain ⟨b, off, ha, hc⟩ := h k hk
  exact ⟨l[k], b, off, List.getElem?_eq_getElem hk, ha, hc 0 _ rfl, hc 1 _ rfl⟩

set_option maxHeartbeats 400000 in
theorem szSet_any (x : Set) (left : Int) (w : World) (h0 : 0 ≤ left) (h1 : left ≤ 1048576) (hsname : x.name.size ≤ 9223372036854775807) (hstext : x.text.size ≤ 9223372036854775807) :
    Calls Try.prog 23 #[.agg #[.string x.name, .string x.text], .int .i64 left] w (RetSz left (fun _ => x.name.size ≤ 1048576 ∧ x.text.size ≤ 1048576) w) := by
  go_enter Try.func23, Try.ntmps23
  go_wp2
  all_goals
    go_ret
    exact RetSz.mk rfl (by omega) (by omega) (by omega) ((Ext.refl _).alloc _)

set_option maxHeartbeats 1000000 in
theorem szSetS_any (a : Option Addr) (cap : Nat) (l : List Set) (left : Int) (w : World) (h0 : 0 ≤ left) (h1 : left ≤ 1048576) (hl : l.length ≤ 9223372036854775807) (hs : ∀ x ∈ l, x.name.size ≤ 9223372036854775807 ∧ x.text.size ≤ 9223372036854775807) (hc : Rd 2 encSet w a l) :
    Calls Try.prog 8 #[.slice a l.length cap, .int .i64 left] w (RetSz left (fun _ => l.length ≤ 1048576 ∧ ∀ x ∈ l, x.name.size ≤ 1048576 ∧ x.text.size ≤ 1048576) w) := by
  by_cases h : left - l.length < 0
  · go_enter Try.func8, Try.ntmps8
    go_wp2
    go_ret
    exact RetSz.mk rfl (by omega) (by omega) (by omega) (Ext.refl _)
  · go_enter Try.func8, Try.ntmps8
    go_wp2
    go_loopw [1, 5] (fun q i wr => ∃ (k : Nat) (r : Int), k ≤ l.length ∧ i = .int .i64 k ∧ q = .int .i64 r ∧ 0 ≤ r ∧ r ≤ left ∧ (∀ j, j < k → ∀ x, l[j]? = some x → x.name.size ≤ 1048576 ∧ x.text.size ≤ 1048576) ∧ Ext w wr) (fun _ i _ => l.length - (intOf i).toNat)
    case atStart => exact ⟨0, left - l.length, Nat.zero_le _, rfl, rfl, by omega, by omega, fun _ h => absurd h (Nat.not_lt_zero _), Ext.refl _⟩
    case round =>
      obtain ⟨k, r, hk, rfl, rfl, hr0, hr1, hpre, hb⟩ := hrel
      have Hpre := Lib.hid hpre
      clear hpre
      have Hs := Lib.hid hs
      clear hs
      by_cases hlt : k < l.length
      · obtain ⟨x, b, off, hx, rfl, c0, c1⟩ := atSet (hc.ext hb) hlt
        obtain ⟨hsname, hstext⟩ := Hs.out x (List.mem_of_getElem? hx)
        have Hx := Lib.hid hx
        clear hx
        go_wp2_with (go_at_call 23; refine (szSet_any x _ _ (by omega) (by omega) hsname hstext).mono ?_; rintro e w2 ⟨r2, rfl, hq1, hq2, hq3, hb2⟩; have Hq3 := Lib.hid hq3; clear hq3)
        · have hneg : r2 < 0 := by assumption
          go_ret
          exact RetSz.mk rfl (by omega) (by omega) (by omega) (hb.trans hb2)
        · have hpos : 0 ≤ r2 := by omega
          go_roundw
          case rel => exact ⟨k + 1, r2, by omega, by go_num, rfl, by omega, by omega, fun j hj y hy => (Nat.lt_succ_iff_lt_or_eq.1 hj).elim (fun h => Hpre.out j h y hy) (fun e => by subst e; rw [Hx.out] at hy; cases hy; exact Hq3.out hpos), hb.trans hb2⟩
          case measure => simp [intOf]; omega
      · go_wp2
        go_ret
        exact RetSz.mk rfl (by omega) (by omega) (fun _ => ⟨by omega, fun x hx => by obtain ⟨j, hj⟩ := List.getElem?_of_mem hx; exact Hpre.out j (by have := (List.getElem?_eq_some_iff.1 hj).1; omega) x hj⟩) hb

theorem infoSet : (Try.prog.info? 33).map (fun i => (i.zero, i.size, i.bytes)) = some (some (.agg #[.string ByteArray.empty, .string ByteArray.empty]), 2, 32) := by kernel_rfl

set_option maxHeartbeats 400000 in
theorem toSet_any (x : Set) (w : World) :
    Calls Try.prog 26 #[.agg #[.string x.name, .string x.text]] w (RetV (fun v _ => v = .agg #[.string x.name, .string x.text]) w) := by
  go_enter Try.func26, Try.ntmps26
  go_wp2
  exact bodyPost_ret (v := .agg #[.string x.name, .string x.text]) (by simp [results, Try.results26, go_sem]) rfl (RetV.mk rfl ((((Ext.refl _).alloc _).alloc _).alloc _))

theorem madeSet (n : Nat) : (madeCells (Value.agg #[.string ByteArray.empty, .string ByteArray.empty]).cells (n * 2)).toList = (List.replicate n (⟨ByteArray.empty, ByteArray.empty⟩ : Set)).flatMap encSet := by
  apply List.ext_getElem?
  intro j
  by_cases hj : j < n * 2
  · have e : j = j / 2 * 2 + j % 2 := by omega
    have h3 : j % 2 < 2 := Nat.mod_lt _ (by omega)
    have hd : j / 2 < n := by omega
    rw [show ((List.replicate n (⟨ByteArray.empty, ByteArray.empty⟩ : Set)).flatMap encSet)[j]? = ((List.replicate n (⟨ByteArray.empty, ByteArray.empty⟩ : Set)).flatMap encSet)[j / 2 * 2 + j % 2]? by rw [← e], flatMap_at encSet_len _ _ _ h3]
    simp [madeCells, Value.cells, hj, hd]
    rcases (show j % 2 = 0 ∨ j % 2 = 1 by omega) with h | h <;> simp [h, encSet]
  · rw [List.getElem?_eq_none (by simp [madeCells]; omega), List.getElem?_eq_none (by rw [flatMap_length encSet_len]; simp; omega)]

/-- What lies in the new slice when k elements were copied. -/
def mixSet (l : List Set) (k : Nat) : List Set := l.take k ++ List.replicate (l.length - k) ⟨ByteArray.empty, ByteArray.empty⟩
theorem mixSet_len (l : List Set) (k : Nat) (hk : k ≤ l.length) : (mixSet l k).length = l.length := by simp [mixSet]; omega
theorem mixSet_zero (l : List Set) : mixSet l 0 = List.replicate l.length ⟨ByteArray.empty, ByteArray.empty⟩ := by simp [mixSet]
theorem mixSet_full (l : List Set) : mixSet l l.length = l := by simp [mixSet]
theorem mixSet_set (l : List Set) (k : Nat) (x : Set) (hx : l[k]? = some x) : (mixSet l k).set k x = mixSet l (k + 1) := by
  obtain ⟨hk, rfl⟩ := List.getElem?_eq_some_iff.1 hx
  unfold mixSet
  obtain ⟨r, hr⟩ : ∃ r, l.length - k = r + 1 := ⟨l.length - k - 1, by omega⟩
  rw [hr, List.replicate_succ, show l.length - (k + 1) = r by omega, List.set_append, if_neg (by simp; omega), List.take_succ_eq_append_getElem hk, List.length_take, Nat.min_eq_left (Nat.le_of_lt hk), Nat.sub_self, List.set_cons_zero, List.append_assoc]
  rfl

set_option maxHeartbeats 1000000 in
theorem toSetS_any (a : Option Addr) (cap : Nat) (l : List Set) (w : World) (hl : l.length ≤ 1048576) (hc : Rd 2 encSet w a l) :
    Calls Try.prog 10 #[.slice a l.length cap] w (RetV (fun v w' => w'.ownsRow w.heap.size 33 2 v l.length (l.flatMap encSet) ∧ v = .slice (some ⟨w.heap.size, 0, none⟩) l.length l.length) w) := by
  obtain ⟨i0, hi, hz0, hz1, hz2⟩ := info_parts infoSet
  go_enter Try.func10, Try.ntmps10
  go_wp2_with (at_make; refine wpList_make_full _ rfl _ _ 25 rfl w.heap.size 33 i0 _ 2 Try.underlying25 hi hz0 hz1 _ _ _ _ l.length rfl rfl rfl rfl ?b1 ?b2 ?b3 ?_)
  case b1 => rw [hz2]; omega
  case b2 => unfold maxLen; omega
  case b3 => exact Nat.le_refl _
  intro w1 hown1 hgr1
  have hE := ext_of_grown hgr1
  clear hgr1
  go_wp2
  go_loopw [4] (fun i wr => ∃ k : Nat, k ≤ l.length ∧ i = .int .i64 k ∧ wr.ownsRow w.heap.size 33 2 (.slice (some ⟨w.heap.size, 0, none⟩) l.length l.length) l.length ((mixSet l k).flatMap encSet) ∧ Ext w wr) (fun i _ => l.length - (intOf i).toNat)
  case atStart => exact ⟨0, Nat.zero_le _, rfl, by rw [mixSet_zero, ← madeSet]; exact hown1, hE⟩
  case round =>
    obtain ⟨k, hk, rfl, hown, hb⟩ := hrel
    clear hown1 hE
    by_cases hlt : k < l.length
    · obtain ⟨x, b, off, hx, rfl, c0, c1⟩ := atSet (hc.ext hb) hlt
      have Hx := Lib.hid hx
      clear hx
      have hkm : k < (mixSet l k).length := by rw [mixSet_len _ _ hk]; exact hlt
      go_wp2_with (go_at_call 26; refine (toSet_any x _).mono ?_; rintro e w2 ⟨v, rfl, rfl, hb2⟩; have g0 : w2.cell? ⟨w.heap.size, k * 2, none⟩ = some _ := owns_at encSet_len (ownsRow_ext hown hb2) k hkm 0 _ rfl; have g1 : w2.cell? ⟨w.heap.size, k * 2 + 1, none⟩ = some _ := owns_at encSet_len (ownsRow_ext hown hb2) k hkm 1 _ rfl; have f0 := (ownsRow_ext hown hb2).frozenAt)
      go_roundw
      case rel =>
        have h3 := owns_put encSet_len (ownsRow_ext hown hb2) k x hkm
        rw [mixSet_set l k x Hx.out] at h3
        exact ⟨k + 1, by omega, by go_num, h3, Ext.setCells (Nat.le_refl _) (encSet x) (k * 2) (hb.trans hb2)⟩
      case measure => simp [intOf]; omega
    · obtain rfl : k = l.length := by omega
      rw [mixSet_full] at hown
      go_wp2
      go_ret
      exact RetV.mk ⟨hown, rfl⟩ hb

theorem extSet {l m : List Set} (hl : l.length = m.length) (h : ∀ j, j < l.length → l[j]? = m[j]?) : l = m := by
  apply List.ext_getElem?
  intro j
  by_cases hj : j < l.length
  · exact h j hj
  · rw [List.getElem?_eq_none (by omega), List.getElem?_eq_none (by omega)]

set_option maxHeartbeats 1000000 in
theorem eqSet_any (x y : Set) (w : World) :
    Calls Try.prog 28 #[.agg #[.string x.name, .string x.text], .agg #[.string y.name, .string y.text]] w (RetB (x = y) w) := by
  obtain ⟨x0, x1⟩ := x
  obtain ⟨y0, y1⟩ := y
  go_enter Try.func28, Try.ntmps28
  go_wp2
  all_goals
    go_ret
    refine RetB.mk _ rfl ?_ (((Ext.refl _).alloc _).alloc _)
    simp_all [bytes_eq]

set_option maxHeartbeats 2000000 in
theorem eqSetS_any (a a' : Option Addr) (cap cap' : Nat) (l m : List Set) (w : World) (hl : l.length ≤ 9223372036854775807) (hm : m.length ≤ 9223372036854775807) (hc : Rd 2 encSet w a l) (hd : Rd 2 encSet w a' m) :
    Calls Try.prog 12 #[.slice a l.length cap, .slice a' m.length cap'] w (RetB (l = m) w) := by
  by_cases hlen : l.length = m.length
  · have ht : ((l.length : Int) != (m.length : Int)) = false := by simp; omega
    have Hlen := Lib.hid hlen
    clear hlen
    go_enter Try.func12, Try.ntmps12
    go_wp2
    go_loopw [5] (fun i wr => ∃ k : Nat, k ≤ l.length ∧ i = .int .i64 k ∧ (∀ j, j < k → l[j]? = m[j]?) ∧ Ext w wr) (fun i _ => l.length - (intOf i).toNat)
    case atStart => exact ⟨0, Nat.zero_le _, rfl, fun _ h => absurd h (Nat.not_lt_zero _), Ext.refl _⟩
    case round =>
      obtain ⟨k, hk, rfl, hpre, hb⟩ := hrel
      have Hpre := Lib.hid hpre
      clear hpre
      by_cases hlt : k < l.length
      · have hltm : k < m.length := by have := Hlen.out; omega
        obtain ⟨x, b, off, hx, rfl, c0, c1⟩ := atSet (hc.ext hb) hlt
        obtain ⟨y, b', off', hy, rfl, d0, d1⟩ := atSet (hd.ext hb) hltm
        have Hx := Lib.hid hx
        have Hy := Lib.hid hy
        clear hx hy ht
        go_wp2
        go_still_tail 8, (by kernel_rfl)
        change wpList _ _ _ _ _ wr.drew
        generalize hw2 : wr.drew = w2
        have hb2 : Ext w w2 := by rw [← hw2]; exact hb.drew
        clear hw2 hb c0 d0 c1 d1
        go_wp2_with (go_at_call 28; refine (eqSet_any x y _).mono ?_; rintro e w3 ⟨b0, rfl, he, hb3⟩; have He := Lib.hid he; clear he)
        · have hb0 : (!b0) = true := by assumption
          go_ret
          exact RetB.mk false rfl (by simp only [Bool.false_eq_true, false_iff]; intro h; subst h; have h1 := Hx.out; rw [Hy.out] at h1; cases h1; rw [He.out.2 rfl] at hb0; cases hb0) (hb2.trans hb3)
        · have hb0 : (!b0) = false := by assumption
          have hxy : x = y := He.out.1 (by simpa using hb0)
          go_roundw
          case rel => exact ⟨k + 1, by omega, by go_num, fun j hj => (Nat.lt_succ_iff_lt_or_eq.1 hj).elim (Hpre.out j) (fun e => by rw [e, Hx.out, Hy.out, hxy]), hb2.trans hb3⟩
          case measure => simp [intOf]; omega
      · go_wp2
        go_ret
        exact RetB.mk true rfl (by simp only [true_iff]; exact extSet Hlen.out (fun j hj => Hpre.out j (by omega))) hb
  · have ht : ((l.length : Int) != (m.length : Int)) = true := by simp; omega
    have Hlen := Lib.hid hlen
    clear hlen
    go_enter Try.func12, Try.ntmps12
    go_wp2
    go_ret
    exact RetB.mk false rfl (by simp only [Bool.false_eq_true, false_iff]; intro h; exact Hlen.out (by rw [h])) (Ext.refl _)

theorem guardSet (op : BinOp) (p q : Operand) (x y : Array Value) (w : World) : (eqGuard op 33 p q (.agg x) (.agg y)).run Try.prog w = .ok () w := run_eqGuard_agg w op 33 p q _ _ (by kernel_rfl)
theorem neqSet_same (x : Set) (w : World) : (binOp .neq 33 (.agg #[.string x.name, .string x.text]) (.agg #[.string x.name, .string x.text])).run Try.prog w = .ok (.bool false) w := by
  simp [go_sem]
theorem neqSet_other {x y : Set} (h : x ≠ y) (w : World) : (binOp .neq 33 (.agg #[.string x.name, .string x.text]) (.agg #[.string y.name, .string y.text])).run Try.prog w = .ok (.bool true) w := by
  obtain ⟨x0, x1⟩ := x
  obtain ⟨y0, y1⟩ := y
  by_cases h0 : x0 = y0 <;> by_cases h1 : x1 = y1 <;> simp [go_sem, h0, h1] <;> simp_all [bytes_eq]
theorem eqlSet_same (x : Set) (w : World) : (binOp .eql 33 (.agg #[.string x.name, .string x.text]) (.agg #[.string x.name, .string x.text])).run Try.prog w = .ok (.bool true) w := by
  simp [go_sem]
theorem eqlSet_other {x y : Set} (h : x ≠ y) (w : World) : (binOp .eql 33 (.agg #[.string x.name, .string x.text]) (.agg #[.string y.name, .string y.text])).run Try.prog w = .ok (.bool false) w := by
  obtain ⟨x0, x1⟩ := x
  obtain ⟨y0, y1⟩ := y
  by_cases h0 : x0 = y0 <;> by_cases h1 : x1 = y1 <;> simp [go_sem, h0, h1] <;> simp_all [bytes_eq]

set_option maxHeartbeats 2000000 in
theorem sameSets_any (a a' : Option Addr) (cap cap' : Nat) (l m : List Set) (w : World) (hl : l.length ≤ 9223372036854775807) (hm : m.length ≤ 9223372036854775807) (hc : Rd 2 encSet w a l) (hd : Rd 2 encSet w a' m) :
    Calls Try.prog 20 #[.slice a l.length cap, .slice a' m.length cap'] w (RetB (l = m) w) := by
  by_cases hlen : l.length = m.length
  · have ht : ((l.length : Int) != (m.length : Int)) = false := by simp; omega
    have Hlen := Lib.hid hlen
    clear hlen
    go_enter Try.func20, Try.ntmps20
    go_wp2
    go_loopw [5] (fun i wr => ∃ k : Nat, k ≤ l.length ∧ i = .int .i64 k ∧ (∀ j, j < k → l[j]? = m[j]?) ∧ Ext w wr) (fun i _ => l.length - (intOf i).toNat)
    case atStart => exact ⟨0, Nat.zero_le _, rfl, fun _ h => absurd h (Nat.not_lt_zero _), Ext.refl _⟩
    case round =>
      obtain ⟨k, hk, rfl, hpre, hb⟩ := hrel
      have Hpre := Lib.hid hpre
      clear hpre
      by_cases hlt : k < l.length
      · have hltm : k < m.length := by have := Hlen.out; omega
        obtain ⟨x, b, off, hx, rfl, c0, c1⟩ := atSet (hc.ext hb) hlt
        obtain ⟨y, b', off', hy, rfl, d0, d1⟩ := atSet (hd.ext hb) hltm
        have Hx := Lib.hid hx
        have Hy := Lib.hid hy
        clear hx hy ht
        by_cases hxy : x = y
        · subst hxy
          have e1 := neqSet_same x
          have e2 := fun w => guardSet .neq (.tmp 20) (.tmp 24) #[.string x.name, .string x.text] #[.string x.name, .string x.text] w
          go_wp2
          go_quiet (fail)
          clear e1 e2
          go_wp2
          go_roundw
          case rel => exact ⟨k + 1, by omega, by go_num, fun j hj => (Nat.lt_succ_iff_lt_or_eq.1 hj).elim (Hpre.out j) (fun e => by rw [e, Hx.out, Hy.out]), hb.drewN _⟩
          case measure => simp [intOf]; omega
        · have e1 := neqSet_other hxy
          have e2 := fun w => guardSet .neq (.tmp 20) (.tmp 24) #[.string x.name, .string x.text] #[.string y.name, .string y.text] w
          go_wp2
          go_quiet (fail)
          clear e1 e2
          go_wp2
          go_ret
          exact RetB.mk false rfl (by simp only [Bool.false_eq_true, false_iff]; intro h; subst h; have h1 := Hx.out; rw [Hy.out] at h1; cases h1; exact hxy rfl) (hb.drewN _)
      · go_wp2
        go_ret
        exact RetB.mk true rfl (by simp only [true_iff]; exact extSet Hlen.out (fun j hj => Hpre.out j (by omega))) hb
  · have ht : ((l.length : Int) != (m.length : Int)) = true := by simp; omega
    have Hlen := Lib.hid hlen
    clear hlen
    go_enter Try.func20, Try.ntmps20
    go_wp2
    go_ret
    exact RetB.mk false rfl (by simp only [Bool.false_eq_true, false_iff]; intro h; exact Hlen.out (by rw [h])) (Ext.refl _)

set_option maxHeartbeats 1000000 in
theorem cloneSet_any (a : Option Addr) (cap : Nat) (l : List Set) (w : World) (hl : l.length ≤ 1048576) (hc : Rd 2 encSet w a l) :
    Calls Try.prog 34 #[.slice a l.length cap] w (RetV (fun v w' => w'.ownsRow w.heap.size 33 2 v l.length (l.flatMap encSet)) w) := by
  have hq := fun w a n c => Lib.run_eql_slice_nil (P := Try.prog) w 25 33 a n c 0 0 Try.underlying25
  cases a with
  | none =>
    have hnil : l = [] := by
      cases l with
      | nil => rfl
      | cons y l => obtain ⟨b, off, h0, _⟩ := hc 0 (by simp); cases h0
    subst hnil
    go_enter Try.func34, Try.ntmps34
    go_wp2
    go_ret
    exact RetV.mk (World.ownsRow_nil _ _ _ _) (Ext.refl _)
  | some a =>
    go_enter Try.func34, Try.ntmps34
    go_wp2_with (at_builtin; refine wpList_append_rd rfl _ _ 25 rfl w.heap.size 33 _ 2 _ Try.underlying25 infoSet rfl (by decide) encSet_len encSet_one _ 0 [] rfl (owns_lit_new [] encSet_len rfl rfl (by omega) (Nat.le_refl _)) rfl (some a) l.length cap l rfl rfl (hc.ext ((Ext.refl _).alloc _)) (by omega) (by omega) (by simp) ?_)
    intro v' w' hown hg
    go_wp2
    go_ret
    exact RetV.mk hown (((Ext.refl _).alloc _).grown hg (by intro k h; simp [Value.ownBlock] at h; omega))

end Go.Proofs.Ytekmfphlccomaaa
