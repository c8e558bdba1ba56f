/- Timer: the cells of slices of it; contracts of the functions that read, copy, compare and mark them. No condition but that lists are shorter than 2^63. -/
import Derived.Test.YtgjadebohneioaaInts
import Derived.Test.YtgjadebohneioaaApp
namespace Go.Proofs.Ytgjadebohneioaa
open Go.RowKit

structure Tim where
  tm : Int
  who : Int
  ag : Int
def encTim (x : Tim) : List Value := [.int .i64 x.tm, .int .i64 x.who, .int .i64 x.ag]
theorem encTim_len (x : Tim) : (encTim x).length = 3 := rfl
theorem encTim_one (x : Tim) : ∀ u ∈ encTim x, u.oneCell' = true := by simp [encTim, Value.oneCell']

theorem atTim {w : World} {a : Option Addr} {l : List Tim} (h : Rd 3 encTim w a l) {k : Nat} (hk : k < l.length) :
    ∃ x b off, l[k]? = some x ∧ a = some ⟨b, off, none⟩ ∧ w.cell? ⟨b, off + k * 3, none⟩ = some (.int .i64 x.tm) ∧ w.cell? ⟨b, off + k * 3 + 1, none⟩ = some (.int .i64 x.who) ∧ w.cell? ⟨b, off + k * 3 + 2, none⟩ = some (.int .i64 x.ag) := by
  obtain ⟨b, off, ha, hc⟩ := h k hk
  exact ⟨l[k], b, off, List.getElem?_eq_getElem hk, ha, hc 0 _ rfl, hc 1 _ rfl, hc 2 _ rfl⟩

set_option maxHeartbeats 400000 in
theorem szTimS_any (a : Option Addr) (cap : Nat) (l : List Tim) (left : Int) (w : World) (h0 : 0 ≤ left) (h1 : left ≤ 1048576) (hl : l.length ≤ 9223372036854775807) (hc : Rd 3 encTim w a l) :
    Calls Try.prog 7 #[.slice a l.length cap, .int .i64 left] w (RetSz left (fun _ => l.length ≤ 1048576) w) := by
  by_cases h : left - l.length < 0
  · go_enter Try.func7, Try.ntmps7
    go_wp2
    go_ret
    exact RetSz.mk rfl (by omega) (by omega) (by omega) (Ext.refl _)
  · go_enter Try.func7, Try.ntmps7
    go_wp2
    go_ret
    exact RetSz.mk rfl (by omega) (by omega) (by omega) (Ext.refl _)

theorem infoTim : (Try.prog.info? 30).map (fun i => (i.zero, i.size, i.bytes)) = some (some (.agg #[.int .i64 0, .int .i64 0, .int .i64 0]), 3, 24) := by kernel_rfl

set_option maxHeartbeats 400000 in
theorem toTim_any (x : Tim) (w : World) :
    Calls Try.prog 10 #[.agg #[.int .i64 x.tm, .int .i64 x.who, .int .i64 x.ag]] w (RetV (fun v _ => v = .agg #[.int .i64 x.tm, .int .i64 x.who, .int .i64 x.ag]) w) := by
  go_enter Try.func10, Try.ntmps10
  go_wp2
  exact bodyPost_ret (v := .agg #[.int .i64 x.tm, .int .i64 x.who, .int .i64 x.ag]) (by simp [results, Try.results10, go_sem]) rfl (RetV.mk rfl ((((Ext.refl _).alloc _).alloc _).alloc _))

theorem madeTim (n : Nat) : (madeCells (Value.agg #[.int .i64 0, .int .i64 0, .int .i64 0]).cells (n * 3)).toList = (List.replicate n (⟨0, 0, 0⟩ : Tim)).flatMap encTim := by
  apply List.ext_getElem?
  intro j
  by_cases hj : j < n * 3
  · have e : j = j / 3 * 3 + j % 3 := by omega
    have h3 : j % 3 < 3 := Nat.mod_lt _ (by omega)
    have hd : j / 3 < n := by omega
    rw [show ((List.replicate n (⟨0, 0, 0⟩ : Tim)).flatMap encTim)[j]? = ((List.replicate n (⟨0, 0, 0⟩ : Tim)).flatMap encTim)[j / 3 * 3 + j % 3]? by rw [← e], flatMap_at encTim_len _ _ _ h3]
    simp [madeCells, Value.cells, hj, hd]
    rcases (show j % 3 = 0 ∨ j % 3 = 1 ∨ j % 3 = 2 by omega) with h | h | h <;> simp [h, encTim]
  · rw [List.getElem?_eq_none (by simp [madeCells]; omega), List.getElem?_eq_none (by rw [flatMap_length encTim_len]; simp; omega)]

/-- What lies in the new slice when k elements were copied. -/
def mixTim (l : List Tim) (k : Nat) : List Tim := l.take k ++ List.replicate (l.length - k) ⟨0, 0, 0⟩
theorem mixTim_len (l : List Tim) (k : Nat) (hk : k ≤ l.length) : (mixTim l k).length = l.length := by simp [mixTim]; omega
theorem mixTim_zero (l : List Tim) : mixTim l 0 = List.replicate l.length ⟨0, 0, 0⟩ := by simp [mixTim]
theorem mixTim_full (l : List Tim) : mixTim l l.length = l := by simp [mixTim]
theorem mixTim_set (l : List Tim) (k : Nat) (x : Tim) (hx : l[k]? = some x) : (mixTim l k).set k x = mixTim l (k + 1) := by
  obtain ⟨hk, rfl⟩ := List.getElem?_eq_some_iff.1 hx
  unfold mixTim
  obtain ⟨r, hr⟩ : ∃ r, l.length - k = r + 1 := ⟨l.length - k - 1, by omega⟩
  rw [hr, List.replicate_succ, show l.length - (k + 1) = r by omega, List.set_append, if_neg (by simp; omega), List.take_succ_eq_append_getElem hk, List.length_take, Nat.min_eq_left (Nat.le_of_lt hk), Nat.sub_self, List.set_cons_zero, List.append_assoc]
  rfl

set_option maxHeartbeats 1000000 in
theorem toTimS_any (a : Option Addr) (cap : Nat) (l : List Tim) (w : World) (hl : l.length ≤ 1048576) (hc : Rd 3 encTim w a l) :
    Calls Try.prog 9 #[.slice a l.length cap] w (RetV (fun v w' => w'.ownsRow w.heap.size 30 3 v l.length (l.flatMap encTim) ∧ v = .slice (some ⟨w.heap.size, 0, none⟩) l.length l.length) w) := by
  obtain ⟨i0, hi, hz0, hz1, hz2⟩ := info_parts infoTim
  go_enter Try.func9, Try.ntmps9
  go_wp2_with (at_make; refine wpList_make_full _ rfl _ _ 26 rfl w.heap.size 30 i0 _ 3 Try.underlying26 hi hz0 hz1 _ _ _ _ l.length rfl rfl rfl rfl ?b1 ?b2 ?b3 ?_)
  case b1 => rw [hz2]; omega
  case b2 => unfold maxLen; omega
  case b3 => exact Nat.le_refl _
  intro w1 hown1 hgr1
  have hE := ext_of_grown hgr1
  clear hgr1
  go_wp2
  go_loopw [4] (fun i wr => ∃ k : Nat, k ≤ l.length ∧ i = .int .i64 k ∧ wr.ownsRow w.heap.size 30 3 (.slice (some ⟨w.heap.size, 0, none⟩) l.length l.length) l.length ((mixTim l k).flatMap encTim) ∧ Ext w wr) (fun i _ => l.length - (intOf i).toNat)
  case atStart => exact ⟨0, Nat.zero_le _, rfl, by rw [mixTim_zero, ← madeTim]; exact hown1, hE⟩
  case round =>
    obtain ⟨k, hk, rfl, hown, hb⟩ := hrel
    clear hown1 hE
    by_cases hlt : k < l.length
    · obtain ⟨x, b, off, hx, rfl, c0, c1, c2⟩ := atTim (hc.ext hb) hlt
      have Hx := Lib.hid hx
      clear hx
      have hkm : k < (mixTim l k).length := by rw [mixTim_len _ _ hk]; exact hlt
      go_wp2_with (go_at_call 10; refine (toTim_any x _).mono ?_; rintro e w2 ⟨v, rfl, rfl, hb2⟩; have g0 : w2.cell? ⟨w.heap.size, k * 3, none⟩ = some _ := owns_at encTim_len (ownsRow_ext hown hb2) k hkm 0 _ rfl; have g1 : w2.cell? ⟨w.heap.size, k * 3 + 1, none⟩ = some _ := owns_at encTim_len (ownsRow_ext hown hb2) k hkm 1 _ rfl; have g2 : w2.cell? ⟨w.heap.size, k * 3 + 2, none⟩ = some _ := owns_at encTim_len (ownsRow_ext hown hb2) k hkm 2 _ rfl; have f0 := (ownsRow_ext hown hb2).frozenAt)
      go_roundw
      case rel =>
        have h3 := owns_put encTim_len (ownsRow_ext hown hb2) k x hkm
        rw [mixTim_set l k x Hx.out] at h3
        exact ⟨k + 1, by omega, by go_num, h3, Ext.setCells (Nat.le_refl _) (encTim x) (k * 3) (hb.trans hb2)⟩
      case measure => simp [intOf]; omega
    · obtain rfl : k = l.length := by omega
      rw [mixTim_full] at hown
      go_wp2
      go_ret
      exact RetV.mk ⟨hown, rfl⟩ hb

theorem extTim {l m : List Tim} (hl : l.length = m.length) (h : ∀ j, j < l.length → l[j]? = m[j]?) : l = m := by
  apply List.ext_getElem?
  intro j
  by_cases hj : j < l.length
  · exact h j hj
  · rw [List.getElem?_eq_none (by omega), List.getElem?_eq_none (by omega)]

set_option maxHeartbeats 1000000 in
theorem eqTim_any (x y : Tim) (w : World) :
    Calls Try.prog 29 #[.agg #[.int .i64 x.tm, .int .i64 x.who, .int .i64 x.ag], .agg #[.int .i64 y.tm, .int .i64 y.who, .int .i64 y.ag]] w (RetB (x = y) w) := by
  obtain ⟨x0, x1, x2⟩ := x
  obtain ⟨y0, y1, y2⟩ := y
  go_enter Try.func29, Try.ntmps29
  go_wp2
  all_goals
    go_ret
    refine RetB.mk _ rfl ?_ (((Ext.refl _).alloc _).alloc _)
    simp_all [bytes_eq]

set_option maxHeartbeats 2000000 in
theorem eqTimS_any (a a' : Option Addr) (cap cap' : Nat) (l m : List Tim) (w : World) (hl : l.length ≤ 9223372036854775807) (hm : m.length ≤ 9223372036854775807) (hc : Rd 3 encTim w a l) (hd : Rd 3 encTim w a' m) :
    Calls Try.prog 12 #[.slice a l.length cap, .slice a' m.length cap'] w (RetB (l = m) w) := by
  by_cases hlen : l.length = m.length
  · have ht : ((l.length : Int) != (m.length : Int)) = false := by simp; omega
    have Hlen := Lib.hid hlen
    clear hlen
    go_enter Try.func12, Try.ntmps12
    go_wp2
    go_loopw [5] (fun i wr => ∃ k : Nat, k ≤ l.length ∧ i = .int .i64 k ∧ (∀ j, j < k → l[j]? = m[j]?) ∧ Ext w wr) (fun i _ => l.length - (intOf i).toNat)
    case atStart => exact ⟨0, Nat.zero_le _, rfl, fun _ h => absurd h (Nat.not_lt_zero _), Ext.refl _⟩
    case round =>
      obtain ⟨k, hk, rfl, hpre, hb⟩ := hrel
      have Hpre := Lib.hid hpre
      clear hpre
      by_cases hlt : k < l.length
      · have hltm : k < m.length := by have := Hlen.out; omega
        obtain ⟨x, b, off, hx, rfl, c0, c1, c2⟩ := atTim (hc.ext hb) hlt
        obtain ⟨y, b', off', hy, rfl, d0, d1, d2⟩ := atTim (hd.ext hb) hltm
        have Hx := Lib.hid hx
        have Hy := Lib.hid hy
        clear hx hy ht
        go_wp2
        go_still_tail 8, (by kernel_rfl)
        change wpList _ _ _ _ _ wr.drew
        generalize hw2 : wr.drew = w2
        have hb2 : Ext w w2 := by rw [← hw2]; exact hb.drew
        clear hw2 hb c0 d0 c1 d1 c2 d2
        go_wp2_with (go_at_call 29; refine (eqTim_any x y _).mono ?_; rintro e w3 ⟨b0, rfl, he, hb3⟩; have He := Lib.hid he; clear he)
        · have hb0 : (!b0) = true := by assumption
          go_ret
          exact RetB.mk false rfl (by simp only [Bool.false_eq_true, false_iff]; intro h; subst h; have h1 := Hx.out; rw [Hy.out] at h1; cases h1; rw [He.out.2 rfl] at hb0; cases hb0) (hb2.trans hb3)
        · have hb0 : (!b0) = false := by assumption
          have hxy : x = y := He.out.1 (by simpa using hb0)
          go_roundw
          case rel => exact ⟨k + 1, by omega, by go_num, fun j hj => (Nat.lt_succ_iff_lt_or_eq.1 hj).elim (Hpre.out j) (fun e => by rw [e, Hx.out, Hy.out, hxy]), hb2.trans hb3⟩
          case measure => simp [intOf]; omega
      · go_wp2
        go_ret
        exact RetB.mk true rfl (by simp only [true_iff]; exact extTim Hlen.out (fun j hj => Hpre.out j (by omega))) hb
  · have ht : ((l.length : Int) != (m.length : Int)) = true := by simp; omega
    have Hlen := Lib.hid hlen
    clear hlen
    go_enter Try.func12, Try.ntmps12
    go_wp2
    go_ret
    exact RetB.mk false rfl (by simp only [Bool.false_eq_true, false_iff]; intro h; exact Hlen.out (by rw [h])) (Ext.refl _)

theorem guardTim (op : BinOp) (p q : Operand) (x y : Array Value) (w : World) : (eqGuard op 30 p q (.agg x) (.agg y)).run Try.prog w = .ok () w := run_eqGuard_agg w op 30 p q _ _ (by kernel_rfl)
theorem neqTim_same (x : Tim) (w : World) : (binOp .neq 30 (.agg #[.int .i64 x.tm, .int .i64 x.who, .int .i64 x.ag]) (.agg #[.int .i64 x.tm, .int .i64 x.who, .int .i64 x.ag])).run Try.prog w = .ok (.bool false) w := by
  simp [go_sem]
theorem neqTim_other {x y : Tim} (h : x ≠ y) (w : World) : (binOp .neq 30 (.agg #[.int .i64 x.tm, .int .i64 x.who, .int .i64 x.ag]) (.agg #[.int .i64 y.tm, .int .i64 y.who, .int .i64 y.ag])).run Try.prog w = .ok (.bool true) w := by
  obtain ⟨x0, x1, x2⟩ := x
  obtain ⟨y0, y1, y2⟩ := y
  by_cases h0 : x0 = y0 <;> by_cases h1 : x1 = y1 <;> by_cases h2 : x2 = y2 <;> simp [go_sem, h0, h1, h2] <;> simp_all [bytes_eq]
theorem eqlTim_same (x : Tim) (w : World) : (binOp .eql 30 (.agg #[.int .i64 x.tm, .int .i64 x.who, .int .i64 x.ag]) (.agg #[.int .i64 x.tm, .int .i64 x.who, .int .i64 x.ag])).run Try.prog w = .ok (.bool true) w := by
  simp [go_sem]
theorem eqlTim_other {x y : Tim} (h : x ≠ y) (w : World) : (binOp .eql 30 (.agg #[.int .i64 x.tm, .int .i64 x.who, .int .i64 x.ag]) (.agg #[.int .i64 y.tm, .int .i64 y.who, .int .i64 y.ag])).run Try.prog w = .ok (.bool false) w := by
  obtain ⟨x0, x1, x2⟩ := x
  obtain ⟨y0, y1, y2⟩ := y
  by_cases h0 : x0 = y0 <;> by_cases h1 : x1 = y1 <;> by_cases h2 : x2 = y2 <;> simp [go_sem, h0, h1, h2] <;> simp_all [bytes_eq]

set_option maxHeartbeats 2000000 in
theorem sameTims_any (a a' : Option Addr) (cap cap' : Nat) (l m : List Tim) (w : World) (hl : l.length ≤ 9223372036854775807) (hm : m.length ≤ 9223372036854775807) (hc : Rd 3 encTim w a l) (hd : Rd 3 encTim w a' m) :
    Calls Try.prog 16 #[.slice a l.length cap, .slice a' m.length cap'] w (RetB (l = m) w) := by
  by_cases hlen : l.length = m.length
  · have ht : ((l.length : Int) != (m.length : Int)) = false := by simp; omega
    have Hlen := Lib.hid hlen
    clear hlen
    go_enter Try.func16, Try.ntmps16
    go_wp2
    go_loopw [5] (fun i wr => ∃ k : Nat, k ≤ l.length ∧ i = .int .i64 k ∧ (∀ j, j < k → l[j]? = m[j]?) ∧ Ext w wr) (fun i _ => l.length - (intOf i).toNat)
    case atStart => exact ⟨0, Nat.zero_le _, rfl, fun _ h => absurd h (Nat.not_lt_zero _), Ext.refl _⟩
    case round =>
      obtain ⟨k, hk, rfl, hpre, hb⟩ := hrel
      have Hpre := Lib.hid hpre
      clear hpre
      by_cases hlt : k < l.length
      · have hltm : k < m.length := by have := Hlen.out; omega
        obtain ⟨x, b, off, hx, rfl, c0, c1, c2⟩ := atTim (hc.ext hb) hlt
        obtain ⟨y, b', off', hy, rfl, d0, d1, d2⟩ := atTim (hd.ext hb) hltm
        have Hx := Lib.hid hx
        have Hy := Lib.hid hy
        clear hx hy ht
        by_cases hxy : x = y
        · subst hxy
          have e1 := neqTim_same x
          have e2 := fun w => guardTim .neq (.tmp 20) (.tmp 24) #[.int .i64 x.tm, .int .i64 x.who, .int .i64 x.ag] #[.int .i64 x.tm, .int .i64 x.who, .int .i64 x.ag] w
          go_wp2
          go_quiet (fail)
          clear e1 e2
          go_wp2
          go_roundw
          case rel => exact ⟨k + 1, by omega, by go_num, fun j hj => (Nat.lt_succ_iff_lt_or_eq.1 hj).elim (Hpre.out j) (fun e => by rw [e, Hx.out, Hy.out]), hb.drewN _⟩
          case measure => simp [intOf]; omega
        · have e1 := neqTim_other hxy
          have e2 := fun w => guardTim .neq (.tmp 20) (.tmp 24) #[.int .i64 x.tm, .int .i64 x.who, .int .i64 x.ag] #[.int .i64 y.tm, .int .i64 y.who, .int .i64 y.ag] w
          go_wp2
          go_quiet (fail)
          clear e1 e2
          go_wp2
          go_ret
          exact RetB.mk false rfl (by simp only [Bool.false_eq_true, false_iff]; intro h; subst h; have h1 := Hx.out; rw [Hy.out] at h1; cases h1; exact hxy rfl) (hb.drewN _)
      · go_wp2
        go_ret
        exact RetB.mk true rfl (by simp only [true_iff]; exact extTim Hlen.out (fun j hj => Hpre.out j (by omega))) hb
  · have ht : ((l.length : Int) != (m.length : Int)) = true := by simp; omega
    have Hlen := Lib.hid hlen
    clear hlen
    go_enter Try.func16, Try.ntmps16
    go_wp2
    go_ret
    exact RetB.mk false rfl (by simp only [Bool.false_eq_true, false_iff]; intro h; exact Hlen.out (by rw [h])) (Ext.refl _)

set_option maxHeartbeats 1000000 in
theorem cloneTim_any (a : Option Addr) (cap : Nat) (l : List Tim) (w : World) (hl : l.length ≤ 1048576) (hc : Rd 3 encTim w a l) :
    Calls Try.prog 28 #[.slice a l.length cap] w (RetV (fun v w' => w'.ownsRow w.heap.size 30 3 v l.length (l.flatMap encTim)) w) := by
  have hq := fun w a n c => Lib.run_eql_slice_nil (P := Try.prog) w 26 30 a n c 0 0 Try.underlying26
  cases a with
  | none =>
    have hnil : l = [] := by
      cases l with
      | nil => rfl
      | cons y l => obtain ⟨b, off, h0, _⟩ := hc 0 (by simp); cases h0
    subst hnil
    go_enter Try.func28, Try.ntmps28
    go_wp2
    go_ret
    exact RetV.mk (World.ownsRow_nil _ _ _ _) (Ext.refl _)
  | some a =>
    go_enter Try.func28, Try.ntmps28
    go_wp2_with (at_builtin; refine wpList_append_rd rfl _ _ 26 rfl w.heap.size 30 _ 3 _ Try.underlying26 infoTim rfl (by decide) encTim_len encTim_one _ 0 [] rfl (owns_lit_new [] encTim_len rfl rfl (by omega) (Nat.le_refl _)) rfl (some a) l.length cap l rfl rfl (hc.ext ((Ext.refl _).alloc _)) (by omega) (by omega) (by simp) ?_)
    intro v' w' hown hg
    go_wp2
    go_ret
    exact RetV.mk hown (((Ext.refl _).alloc _).grown hg (by intro k h; simp [Value.ownBlock] at h; omega))

def markTim (c : Int) : Tim := ⟨c, c + 1, c + 1 + 1⟩
def marksTim (n : Nat) (c : Int) : List Tim := (List.range n).map fun i : Nat => markTim (c + 3 * (i : Int))
theorem marksTim_len (n : Nat) (c : Int) : (marksTim n c).length = n := by simp [marksTim]
theorem marksTim_at (n : Nat) (c : Int) (i : Nat) (h : i < n) : (marksTim n c)[i]? = some (markTim (c + 3 * (i : Int))) := by simp [marksTim, h]
def mmixTim (L : List Tim) (c : Int) (i : Nat) : List Tim := marksTim i c ++ L.drop i
theorem mmixTim_len (L : List Tim) (c : Int) (i : Nat) (h : i ≤ L.length) : (mmixTim L c i).length = L.length := by simp [mmixTim, marksTim_len]; omega
theorem mmixTim_zero (L : List Tim) (c : Int) : mmixTim L c 0 = L := by simp [mmixTim, marksTim]
theorem mmixTim_full (L : List Tim) (c : Int) : mmixTim L c L.length = marksTim L.length c := by simp [mmixTim]
theorem mmixTim_set (L : List Tim) (c : Int) (i : Nat) (h : i < L.length) : (mmixTim L c i).set i (markTim (c + 3 * (i : Int))) = mmixTim L c (i + 1) := by
  unfold mmixTim
  rw [List.set_append, if_neg (by simp [marksTim_len]), marksTim_len, Nat.sub_self, List.drop_eq_getElem_cons h, List.set_cons_zero]
  simp [marksTim, List.range_succ]

set_option maxHeartbeats 1000000 in
theorem markTimS_any (base g cap : Nat) (L : List Tim) (c : Int) (w : World) (hl : L.length ≤ 1048576) (h0 : 0 ≤ c) (h1 : c ≤ 1000000000000)
    (hown : w.ownsRow base 30 3 (.slice (some ⟨g, 0, none⟩) L.length cap) L.length (L.flatMap encTim)) :
    Calls Try.prog 13 #[.slice (some ⟨g, 0, none⟩) L.length cap, .int .i64 c] w (RetMark (c + 3 * (L.length : Int)) (fun w' => w'.ownsRow base 30 3 (.slice (some ⟨g, 0, none⟩) L.length cap) L.length ((marksTim L.length c).flatMap encTim)) (some g) w) := by
  go_enter Try.func13, Try.ntmps13
  go_wp2
  go_loopw [1, 5] (fun q i wr => ∃ k : Nat, k ≤ L.length ∧ i = .int .i64 k ∧ q = .int .i64 (c + 3 * (k : Int)) ∧ wr.ownsRow base 30 3 (.slice (some ⟨g, 0, none⟩) L.length cap) L.length ((mmixTim L c k).flatMap encTim) ∧ w.grownBy wr (some g)) (fun _ i _ => L.length - (intOf i).toNat)
  case atStart => exact ⟨0, Nat.zero_le _, rfl, by simp, by rw [mmixTim_zero]; exact hown, World.grownBy.refl _ _⟩
  case round =>
    obtain ⟨k, hk, rfl, rfl, hownr, hg⟩ := hrel
    by_cases hlt : k < L.length
    · have hkm : k < (mmixTim L c k).length := by rw [mmixTim_len _ _ _ hk]; exact hlt
      have g0 : wr.cell? ⟨g, k * 3, none⟩ = some _ := owns_at encTim_len hownr k hkm 0 _ rfl
      have g1 : wr.cell? ⟨g, k * 3 + 1, none⟩ = some _ := owns_at encTim_len hownr k hkm 1 _ rfl
      have g2 : wr.cell? ⟨g, k * 3 + 2, none⟩ = some _ := owns_at encTim_len hownr k hkm 2 _ rfl
      have f0 := hownr.frozenAt
      go_wp2
      go_roundw
      case rel =>
        have h3 := owns_put encTim_len hownr k (markTim (c + 3 * (k : Int))) hkm
        rw [mmixTim_set L c k hlt] at h3
        exact ⟨k + 1, by omega, by go_num, by go_num, h3, grown_setCells (encTim (markTim (c + 3 * (k : Int)))) (k * 3) hg⟩
      case measure => simp [intOf]; omega
    · obtain rfl : k = L.length := by omega
      go_wp2
      go_ret
      rw [mmixTim_full] at hownr
      exact RetMark.mk rfl hownr hg

set_option maxHeartbeats 1000000 in
theorem markTimS_own (base : Nat) (v : Value) (n : Nat) (L : List Tim) (c : Int) (w : World) (hn : n = L.length) (hl : n ≤ 1048576) (h0 : 0 ≤ c) (h1 : c ≤ 1000000000000)
    (hown : w.ownsRow base 30 3 v n (L.flatMap encTim)) :
    Calls Try.prog 13 #[v, .int .i64 c] w (RetMark (c + 3 * (n : Int)) (fun w' => w'.ownsRow base 30 3 v n ((marksTim n c).flatMap encTim)) v.ownBlock w) := by
  subst hn
  rcases hown.2 with ⟨rfl, hz⟩ | ⟨g, cap, cur, rfl, _⟩
  · have hL : L = [] := List.eq_nil_of_length_eq_zero hz
    subst hL
    go_enter Try.func13, Try.ntmps13
    go_wp2
    refine wp_loop_rounds 1 ?_
    rw [rounds_succ]
    go_wp2
    go_ret
    exact RetMark.mk rfl hown (World.grownBy.refl _ _) (by simp)
  · exact markTimS_any base g cap L c w hl h0 h1 hown

set_option maxHeartbeats 1000000 in
theorem heldTimS_any (a : Option Addr) (cap n : Nat) (c : Int) (w : World) (hl : n ≤ 1048576) (h0 : 0 ≤ c) (h1 : c ≤ 1000000000000) (hc : Rd 3 encTim w a (marksTim n c)) :
    Calls Try.prog 14 #[.slice a n cap, .int .i64 c] w (RetI (c + 3 * (n : Int)) w) := by
  go_enter Try.func14, Try.ntmps14
  go_wp2
  go_loopw [1, 5] (fun q i wr => ∃ k : Nat, k ≤ n ∧ i = .int .i64 k ∧ q = .int .i64 (c + 3 * (k : Int)) ∧ Ext w wr) (fun _ i _ => n - (intOf i).toNat)
  case atStart => exact ⟨0, Nat.zero_le _, rfl, by simp, Ext.refl _⟩
  case round =>
    obtain ⟨k, hk, rfl, rfl, hb⟩ := hrel
    by_cases hlt : k < n
    · obtain ⟨x, b, off, hx, rfl, c0, c1, c2⟩ := atTim (hc.ext hb) (show k < (marksTim n c).length by rw [marksTim_len]; exact hlt)
      rw [marksTim_at n c k hlt] at hx
      cases hx
      simp only [markTim] at c0 c1 c2
      go_wp2
      go_roundw
      case rel => exact ⟨k + 1, by omega, by go_num, by go_num, hb⟩
      case measure => simp [intOf]; omega
    · obtain rfl : k = n := by omega
      go_wp2
      go_ret
      exact RetI.mk rfl hb

end Go.Proofs.Ytgjadebohneioaa
