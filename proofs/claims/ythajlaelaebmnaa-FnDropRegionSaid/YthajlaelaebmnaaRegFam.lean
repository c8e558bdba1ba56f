/- Region: the cells of slices of it; contracts of the functions that read, copy, compare and mark them. No condition but that lists are shorter than 2^63. -/
import Derived.Test.YthajlaelaebmnaaInts
import Derived.Test.YthajlaelaebmnaaApp
namespace Go.Proofs.Ythajlaelaebmnaa
open Go.RowKit

structure Reg where
  f : Int
  t : Int
  r : Int
def encReg (x : Reg) : List Value := [.int .i64 x.f, .int .i64 x.t, .int .i64 x.r]
theorem encReg_len (x : Reg) : (encReg x).length = 3 := rfl
theorem encReg_one (x : Reg) : ∀ u ∈ encReg x, u.oneCell' = true := by simp [encReg, Value.oneCell']

theorem atReg {w : World} {a : Option Addr} {l : List Reg} (h : Rd 3 encReg w a l) {k : Nat} (hk : k < l.length) :
    ∃ x b off, l[k]? = some x ∧ a = some ⟨b, off, none⟩ ∧ w.cell? ⟨b, off + k * 3, none⟩ = some (.int .i64 x.f) ∧ w.cell? ⟨b, off + k * 3 + 1, none⟩ = some (.int .i64 x.t) ∧ w.cell? ⟨b, off + k * 3 + 2, none⟩ = some (.int .i64 x.r) := by
  obtain ⟨b, off, ha, hc⟩ := h k hk
  exact ⟨l[k], b, off, List.getElem?_eq_getElem hk, ha, hc 0 _ rfl, hc 1 _ rfl, hc 2 _ rfl⟩

set_option maxHeartbeats 400000 in
theorem szRegS_any (a : Option Addr) (cap : Nat) (l : List Reg) (left : Int) (w : World) (h0 : 0 ≤ left) (h1 : left ≤ 1048576) (hl : l.length ≤ 9223372036854775807) (hc : Rd 3 encReg w a l) :
    Calls Try.prog 11 #[.slice a l.length cap, .int .i64 left] w (RetSz left (fun _ => l.length ≤ 1048576) w) := by
  by_cases h : left - l.length < 0
  · go_enter Try.func11, Try.ntmps11
    go_wp2
    go_ret
    exact RetSz.mk rfl (by omega) (by omega) (by omega) (Ext.refl _)
  · go_enter Try.func11, Try.ntmps11
    go_wp2
    go_ret
    exact RetSz.mk rfl (by omega) (by omega) (by omega) (Ext.refl _)

theorem infoReg : (Try.prog.info? 33).map (fun i => (i.zero, i.size, i.bytes)) = some (some (.agg #[.int .i64 0, .int .i64 0, .int .i64 0]), 3, 24) := by kernel_rfl

set_option maxHeartbeats 400000 in
theorem toReg_any (x : Reg) (w : World) :
    Calls Try.prog 26 #[.agg #[.int .i64 x.f, .int .i64 x.t, .int .i64 x.r]] w (RetV (fun v _ => v = .agg #[.int .i64 x.f, .int .i64 x.t, .int .i64 x.r]) w) := by
  go_enter Try.func26, Try.ntmps26
  go_wp2
  exact bodyPost_ret (v := .agg #[.int .i64 x.f, .int .i64 x.t, .int .i64 x.r]) (by simp [results, Try.results26, go_sem]) rfl (RetV.mk rfl ((((Ext.refl _).alloc _).alloc _).alloc _))

theorem madeReg (n : Nat) : (madeCells (Value.agg #[.int .i64 0, .int .i64 0, .int .i64 0]).cells (n * 3)).toList = (List.replicate n (⟨0, 0, 0⟩ : Reg)).flatMap encReg := by
  apply List.ext_getElem?
  intro j
  by_cases hj : j < n * 3
  · have e : j = j / 3 * 3 + j % 3 := by omega
    have h3 : j % 3 < 3 := Nat.mod_lt _ (by omega)
    have hd : j / 3 < n := by omega
    rw [show ((List.replicate n (⟨0, 0, 0⟩ : Reg)).flatMap encReg)[j]? = ((List.replicate n (⟨0, 0, 0⟩ : Reg)).flatMap encReg)[j / 3 * 3 + j % 3]? by rw [← e], flatMap_at encReg_len _ _ _ h3]
    simp [madeCells, Value.cells, hj, hd]
    rcases (show j % 3 = 0 ∨ j % 3 = 1 ∨ j % 3 = 2 by omega) with h | h | h <;> simp [h, encReg]
  · rw [List.getElem?_eq_none (by simp [madeCells]; omega), List.getElem?_eq_none (by rw [flatMap_length encReg_len]; simp; omega)]

/-- What lies in the new slice when k elements were copied. -/
def mixReg (l : List Reg) (k : Nat) : List Reg := l.take k ++ List.replicate (l.length - k) ⟨0, 0, 0⟩
theorem mixReg_len (l : List Reg) (k : Nat) (hk : k ≤ l.length) : (mixReg l k).length = l.length := by simp [mixReg]; omega
theorem mixReg_zero (l : List Reg) : mixReg l 0 = List.replicate l.length ⟨0, 0, 0⟩ := by simp [mixReg]
theorem mixReg_full (l : List Reg) : mixReg l l.length = l := by simp [mixReg]
theorem mixReg_set (l : List Reg) (k : Nat) (x : Reg) (hx : l[k]? = some x) : (mixReg l k).set k x = mixReg l (k + 1) := by
  obtain ⟨hk, rfl⟩ := List.getElem?_eq_some_iff.1 hx
  unfold mixReg
  obtain ⟨r, hr⟩ : ∃ r, l.length - k = r + 1 := ⟨l.length - k - 1, by omega⟩
  rw [hr, List.replicate_succ, show l.length - (k + 1) = r by omega, List.set_append, if_neg (by simp; omega), List.take_succ_eq_append_getElem hk, List.length_take, Nat.min_eq_left (Nat.le_of_lt hk), Nat.sub_self, List.set_cons_zero, List.append_assoc]
  rfl

set_option maxHeartbeats 1000000 in
theorem toRegS_any (a : Option Addr) (cap : Nat) (l : List Reg) (w : World) (hl : l.length ≤ 1048576) (hc : Rd 3 encReg w a l) :
    Calls Try.prog 13 #[.slice a l.length cap] w (RetV (fun v w' => w'.ownsRow w.heap.size 33 3 v l.length (l.flatMap encReg) ∧ v = .slice (some ⟨w.heap.size, 0, none⟩) l.length l.length) w) := by
  obtain ⟨i0, hi, hz0, hz1, hz2⟩ := info_parts infoReg
  go_enter Try.func13, Try.ntmps13
  go_wp2_with (at_make; refine wpList_make_full _ rfl _ _ 25 rfl w.heap.size 33 i0 _ 3 Try.underlying25 hi hz0 hz1 _ _ _ _ l.length rfl rfl rfl rfl ?b1 ?b2 ?b3 ?_)
  case b1 => rw [hz2]; omega
  case b2 => unfold maxLen; omega
  case b3 => exact Nat.le_refl _
  intro w1 hown1 hgr1
  have hE := ext_of_grown hgr1
  clear hgr1
  go_wp2
  go_loopw [4] (fun i wr => ∃ k : Nat, k ≤ l.length ∧ i = .int .i64 k ∧ wr.ownsRow w.heap.size 33 3 (.slice (some ⟨w.heap.size, 0, none⟩) l.length l.length) l.length ((mixReg l k).flatMap encReg) ∧ Ext w wr) (fun i _ => l.length - (intOf i).toNat)
  case atStart => exact ⟨0, Nat.zero_le _, rfl, by rw [mixReg_zero, ← madeReg]; exact hown1, hE⟩
  case round =>
    obtain ⟨k, hk, rfl, hown, hb⟩ := hrel
    clear hown1 hE
    by_cases hlt : k < l.length
    · obtain ⟨x, b, off, hx, rfl, c0, c1, c2⟩ := atReg (hc.ext hb) hlt
      have Hx := Lib.hid hx
      clear hx
      have hkm : k < (mixReg l k).length := by rw [mixReg_len _ _ hk]; exact hlt
      go_wp2_with (go_at_call 26; refine (toReg_any x _).mono ?_; rintro e w2 ⟨v, rfl, rfl, hb2⟩; have g0 : w2.cell? ⟨w.heap.size, k * 3, none⟩ = some _ := owns_at encReg_len (ownsRow_ext hown hb2) k hkm 0 _ rfl; have g1 : w2.cell? ⟨w.heap.size, k * 3 + 1, none⟩ = some _ := owns_at encReg_len (ownsRow_ext hown hb2) k hkm 1 _ rfl; have g2 : w2.cell? ⟨w.heap.size, k * 3 + 2, none⟩ = some _ := owns_at encReg_len (ownsRow_ext hown hb2) k hkm 2 _ rfl; have f0 := (ownsRow_ext hown hb2).frozenAt)
      go_roundw
      case rel =>
        have h3 := owns_put encReg_len (ownsRow_ext hown hb2) k x hkm
        rw [mixReg_set l k x Hx.out] at h3
        exact ⟨k + 1, by omega, by go_num, h3, Ext.setCells (Nat.le_refl _) (encReg x) (k * 3) (hb.trans hb2)⟩
      case measure => simp [intOf]; omega
    · obtain rfl : k = l.length := by omega
      rw [mixReg_full] at hown
      go_wp2
      go_ret
      exact RetV.mk ⟨hown, rfl⟩ hb

theorem extReg {l m : List Reg} (hl : l.length = m.length) (h : ∀ j, j < l.length → l[j]? = m[j]?) : l = m := by
  apply List.ext_getElem?
  intro j
  by_cases hj : j < l.length
  · exact h j hj
  · rw [List.getElem?_eq_none (by omega), List.getElem?_eq_none (by omega)]

set_option maxHeartbeats 1000000 in
theorem eqReg_any (x y : Reg) (w : World) :
    Calls Try.prog 33 #[.agg #[.int .i64 x.f, .int .i64 x.t, .int .i64 x.r], .agg #[.int .i64 y.f, .int .i64 y.t, .int .i64 y.r]] w (RetB (x = y) w) := by
  obtain ⟨x0, x1, x2⟩ := x
  obtain ⟨y0, y1, y2⟩ := y
  go_enter Try.func33, Try.ntmps33
  go_wp2
  all_goals
    go_ret
    refine RetB.mk _ rfl ?_ (((Ext.refl _).alloc _).alloc _)
    simp_all [bytes_eq]

set_option maxHeartbeats 2000000 in
theorem eqRegS_any (a a' : Option Addr) (cap cap' : Nat) (l m : List Reg) (w : World) (hl : l.length ≤ 9223372036854775807) (hm : m.length ≤ 9223372036854775807) (hc : Rd 3 encReg w a l) (hd : Rd 3 encReg w a' m) :
    Calls Try.prog 15 #[.slice a l.length cap, .slice a' m.length cap'] w (RetB (l = m) w) := by
  by_cases hlen : l.length = m.length
  · have ht : ((l.length : Int) != (m.length : Int)) = false := by simp; omega
    have Hlen := Lib.hid hlen
    clear hlen
    go_enter Try.func15, Try.ntmps15
    go_wp2
    go_loopw [5] (fun i wr => ∃ k : Nat, k ≤ l.length ∧ i = .int .i64 k ∧ (∀ j, j < k → l[j]? = m[j]?) ∧ Ext w wr) (fun i _ => l.length - (intOf i).toNat)
    case atStart => exact ⟨0, Nat.zero_le _, rfl, fun _ h => absurd h (Nat.not_lt_zero _), Ext.refl _⟩
    case round =>
      obtain ⟨k, hk, rfl, hpre, hb⟩ := hrel
      have Hpre := Lib.hid hpre
      clear hpre
      by_cases hlt : k < l.length
      · have hltm : k < m.length := by have := Hlen.out; omega
        obtain ⟨x, b, off, hx, rfl, c0, c1, c2⟩ := atReg (hc.ext hb) hlt
        obtain ⟨y, b', off', hy, rfl, d0, d1, d2⟩ := atReg (hd.ext hb) hltm
        have Hx := Lib.hid hx
        have Hy := Lib.hid hy
        clear hx hy ht
        go_wp2
        go_still_tail 8, (by kernel_rfl)
        change wpList _ _ _ _ _ wr.drew
        generalize hw2 : wr.drew = w2
        have hb2 : Ext w w2 := by rw [← hw2]; exact hb.drew
        clear hw2 hb c0 d0 c1 d1 c2 d2
        go_wp2_with (go_at_call 33; refine (eqReg_any x y _).mono ?_; rintro e w3 ⟨b0, rfl, he, hb3⟩; have He := Lib.hid he; clear he)
        · have hb0 : (!b0) = true := by assumption
          go_ret
          exact RetB.mk false rfl (by simp only [Bool.false_eq_true, false_iff]; intro h; subst h; have h1 := Hx.out; rw [Hy.out] at h1; cases h1; rw [He.out.2 rfl] at hb0; cases hb0) (hb2.trans hb3)
        · have hb0 : (!b0) = false := by assumption
          have hxy : x = y := He.out.1 (by simpa using hb0)
          go_roundw
          case rel => exact ⟨k + 1, by omega, by go_num, fun j hj => (Nat.lt_succ_iff_lt_or_eq.1 hj).elim (Hpre.out j) (fun e => by rw [e, Hx.out, Hy.out, hxy]), hb2.trans hb3⟩
          case measure => simp [intOf]; omega
      · go_wp2
        go_ret
        exact RetB.mk true rfl (by simp only [true_iff]; exact extReg Hlen.out (fun j hj => Hpre.out j (by omega))) hb
  · have ht : ((l.length : Int) != (m.length : Int)) = true := by simp; omega
    have Hlen := Lib.hid hlen
    clear hlen
    go_enter Try.func15, Try.ntmps15
    go_wp2
    go_ret
    exact RetB.mk false rfl (by simp only [Bool.false_eq_true, false_iff]; intro h; exact Hlen.out (by rw [h])) (Ext.refl _)

theorem guardReg (op : BinOp) (p q : Operand) (x y : Array Value) (w : World) : (eqGuard op 33 p q (.agg x) (.agg y)).run Try.prog w = .ok () w := run_eqGuard_agg w op 33 p q _ _ (by kernel_rfl)
theorem neqReg_same (x : Reg) (w : World) : (binOp .neq 33 (.agg #[.int .i64 x.f, .int .i64 x.t, .int .i64 x.r]) (.agg #[.int .i64 x.f, .int .i64 x.t, .int .i64 x.r])).run Try.prog w = .ok (.bool false) w := by
  simp [go_sem]
theorem neqReg_other {x y : Reg} (h : x ≠ y) (w : World) : (binOp .neq 33 (.agg #[.int .i64 x.f, .int .i64 x.t, .int .i64 x.r]) (.agg #[.int .i64 y.f, .int .i64 y.t, .int .i64 y.r])).run Try.prog w = .ok (.bool true) w := by
  obtain ⟨x0, x1, x2⟩ := x
  obtain ⟨y0, y1, y2⟩ := y
  by_cases h0 : x0 = y0 <;> by_cases h1 : x1 = y1 <;> by_cases h2 : x2 = y2 <;> simp [go_sem, h0, h1, h2] <;> simp_all [bytes_eq]
theorem eqlReg_same (x : Reg) (w : World) : (binOp .eql 33 (.agg #[.int .i64 x.f, .int .i64 x.t, .int .i64 x.r]) (.agg #[.int .i64 x.f, .int .i64 x.t, .int .i64 x.r])).run Try.prog w = .ok (.bool true) w := by
  simp [go_sem]
theorem eqlReg_other {x y : Reg} (h : x ≠ y) (w : World) : (binOp .eql 33 (.agg #[.int .i64 x.f, .int .i64 x.t, .int .i64 x.r]) (.agg #[.int .i64 y.f, .int .i64 y.t, .int .i64 y.r])).run Try.prog w = .ok (.bool false) w := by
  obtain ⟨x0, x1, x2⟩ := x
  obtain ⟨y0, y1, y2⟩ := y
  by_cases h0 : x0 = y0 <;> by_cases h1 : x1 = y1 <;> by_cases h2 : x2 = y2 <;> simp [go_sem, h0, h1, h2] <;> simp_all [bytes_eq]

set_option maxHeartbeats 2000000 in
theorem sameRegs_any (a a' : Option Addr) (cap cap' : Nat) (l m : List Reg) (w : World) (hl : l.length ≤ 9223372036854775807) (hm : m.length ≤ 9223372036854775807) (hc : Rd 3 encReg w a l) (hd : Rd 3 encReg w a' m) :
    Calls Try.prog 29 #[.slice a l.length cap, .slice a' m.length cap'] w (RetB (l = m) w) := by
  by_cases hlen : l.length = m.length
  · have ht : ((l.length : Int) != (m.length : Int)) = false := by simp; omega
    have Hlen := Lib.hid hlen
    clear hlen
    go_enter Try.func29, Try.ntmps29
    go_wp2
    go_loopw [5] (fun i wr => ∃ k : Nat, k ≤ l.length ∧ i = .int .i64 k ∧ (∀ j, j < k → l[j]? = m[j]?) ∧ Ext w wr) (fun i _ => l.length - (intOf i).toNat)
    case atStart => exact ⟨0, Nat.zero_le _, rfl, fun _ h => absurd h (Nat.not_lt_zero _), Ext.refl _⟩
    case round =>
      obtain ⟨k, hk, rfl, hpre, hb⟩ := hrel
      have Hpre := Lib.hid hpre
      clear hpre
      by_cases hlt : k < l.length
      · have hltm : k < m.length := by have := Hlen.out; omega
        obtain ⟨x, b, off, hx, rfl, c0, c1, c2⟩ := atReg (hc.ext hb) hlt
        obtain ⟨y, b', off', hy, rfl, d0, d1, d2⟩ := atReg (hd.ext hb) hltm
        have Hx := Lib.hid hx
        have Hy := Lib.hid hy
        clear hx hy ht
        by_cases hxy : x = y
        · subst hxy
          have e1 := neqReg_same x
          have e2 := fun w => guardReg .neq (.tmp 20) (.tmp 24) #[.int .i64 x.f, .int .i64 x.t, .int .i64 x.r] #[.int .i64 x.f, .int .i64 x.t, .int .i64 x.r] w
          go_wp2
          go_quiet (fail)
          clear e1 e2
          go_wp2
          go_roundw
          case rel => exact ⟨k + 1, by omega, by go_num, fun j hj => (Nat.lt_succ_iff_lt_or_eq.1 hj).elim (Hpre.out j) (fun e => by rw [e, Hx.out, Hy.out]), hb.drewN _⟩
          case measure => simp [intOf]; omega
        · have e1 := neqReg_other hxy
          have e2 := fun w => guardReg .neq (.tmp 20) (.tmp 24) #[.int .i64 x.f, .int .i64 x.t, .int .i64 x.r] #[.int .i64 y.f, .int .i64 y.t, .int .i64 y.r] w
          go_wp2
          go_quiet (fail)
          clear e1 e2
          go_wp2
          go_ret
          exact RetB.mk false rfl (by simp only [Bool.false_eq_true, false_iff]; intro h; subst h; have h1 := Hx.out; rw [Hy.out] at h1; cases h1; exact hxy rfl) (hb.drewN _)
      · go_wp2
        go_ret
        exact RetB.mk true rfl (by simp only [true_iff]; exact extReg Hlen.out (fun j hj => Hpre.out j (by omega))) hb
  · have ht : ((l.length : Int) != (m.length : Int)) = true := by simp; omega
    have Hlen := Lib.hid hlen
    clear hlen
    go_enter Try.func29, Try.ntmps29
    go_wp2
    go_ret
    exact RetB.mk false rfl (by simp only [Bool.false_eq_true, false_iff]; intro h; exact Hlen.out (by rw [h])) (Ext.refl _)

set_option maxHeartbeats 1000000 in
theorem cloneReg_any (a : Option Addr) (cap : Nat) (l : List Reg) (w : World) (hl : l.length ≤ 1048576) (hc : Rd 3 encReg w a l) :
    Calls Try.prog 47 #[.slice a l.length cap] w (RetV (fun v w' => w'.ownsRow w.heap.size 33 3 v l.length (l.flatMap encReg)) w) := by
  have hq := fun w a n c => Lib.run_eql_slice_nil (P := Try.prog) w 25 33 a n c 0 0 Try.underlying25
  cases a with
  | none =>
    have hnil : l = [] := by
      cases l with
      | nil => rfl
      | cons y l => obtain ⟨b, off, h0, _⟩ := hc 0 (by simp); cases h0
    subst hnil
    go_enter Try.func47, Try.ntmps47
    go_wp2
    go_ret
    exact RetV.mk (World.ownsRow_nil _ _ _ _) (Ext.refl _)
  | some a =>
    go_enter Try.func47, Try.ntmps47
    go_wp2_with (at_builtin; refine wpList_append_rd rfl _ _ 25 rfl w.heap.size 33 _ 3 _ Try.underlying25 infoReg rfl (by decide) encReg_len encReg_one _ 0 [] rfl (owns_lit_new [] encReg_len rfl rfl (by omega) (Nat.le_refl _)) rfl (some a) l.length cap l rfl rfl (hc.ext ((Ext.refl _).alloc _)) (by omega) (by omega) (by simp) ?_)
    intro v' w' hown hg
    go_wp2
    go_ret
    exact RetV.mk hown (((Ext.refl _).alloc _).grown hg (by intro k h; simp [Value.ownBlock] at h; omega))

def markReg (c : Int) : Reg := ⟨c, c + 1, c + 1 + 1⟩
def marksReg (n : Nat) (c : Int) : List Reg := (List.range n).map fun i : Nat => markReg (c + 3 * (i : Int))
theorem marksReg_len (n : Nat) (c : Int) : (marksReg n c).length = n := by simp [marksReg]
theorem marksReg_at (n : Nat) (c : Int) (i : Nat) (h : i < n) : (marksReg n c)[i]? = some (markReg (c + 3 * (i : Int))) := by simp [marksReg, h]
def mmixReg (L : List Reg) (c : Int) (i : Nat) : List Reg := marksReg i c ++ L.drop i
theorem mmixReg_len (L : List Reg) (c : Int) (i : Nat) (h : i ≤ L.length) : (mmixReg L c i).length = L.length := by simp [mmixReg, marksReg_len]; omega
theorem mmixReg_zero (L : List Reg) (c : Int) : mmixReg L c 0 = L := by simp [mmixReg, marksReg]
theorem mmixReg_full (L : List Reg) (c : Int) : mmixReg L c L.length = marksReg L.length c := by simp [mmixReg]
theorem mmixReg_set (L : List Reg) (c : Int) (i : Nat) (h : i < L.length) : (mmixReg L c i).set i (markReg (c + 3 * (i : Int))) = mmixReg L c (i + 1) := by
  unfold mmixReg
  rw [List.set_append, if_neg (by simp [marksReg_len]), marksReg_len, Nat.sub_self, List.drop_eq_getElem_cons h, List.set_cons_zero]
  simp [marksReg, List.range_succ]

set_option maxHeartbeats 1000000 in
theorem markRegS_any (base g cap : Nat) (L : List Reg) (c : Int) (w : World) (hl : L.length ≤ 1048576) (h0 : 0 ≤ c) (h1 : c ≤ 1000000000000)
    (hown : w.ownsRow base 33 3 (.slice (some ⟨g, 0, none⟩) L.length cap) L.length (L.flatMap encReg)) :
    Calls Try.prog 23 #[.slice (some ⟨g, 0, none⟩) L.length cap, .int .i64 c] w (RetMark (c + 3 * (L.length : Int)) (fun w' => w'.ownsRow base 33 3 (.slice (some ⟨g, 0, none⟩) L.length cap) L.length ((marksReg L.length c).flatMap encReg)) (some g) w) := by
  go_enter Try.func23, Try.ntmps23
  go_wp2
  go_loopw [1, 5] (fun q i wr => ∃ k : Nat, k ≤ L.length ∧ i = .int .i64 k ∧ q = .int .i64 (c + 3 * (k : Int)) ∧ wr.ownsRow base 33 3 (.slice (some ⟨g, 0, none⟩) L.length cap) L.length ((mmixReg L c k).flatMap encReg) ∧ w.grownBy wr (some g)) (fun _ i _ => L.length - (intOf i).toNat)
  case atStart => exact ⟨0, Nat.zero_le _, rfl, by simp, by rw [mmixReg_zero]; exact hown, World.grownBy.refl _ _⟩
  case round =>
    obtain ⟨k, hk, rfl, rfl, hownr, hg⟩ := hrel
    by_cases hlt : k < L.length
    · have hkm : k < (mmixReg L c k).length := by rw [mmixReg_len _ _ _ hk]; exact hlt
      have g0 : wr.cell? ⟨g, k * 3, none⟩ = some _ := owns_at encReg_len hownr k hkm 0 _ rfl
      have g1 : wr.cell? ⟨g, k * 3 + 1, none⟩ = some _ := owns_at encReg_len hownr k hkm 1 _ rfl
      have g2 : wr.cell? ⟨g, k * 3 + 2, none⟩ = some _ := owns_at encReg_len hownr k hkm 2 _ rfl
      have f0 := hownr.frozenAt
      go_wp2
      go_roundw
      case rel =>
        have h3 := owns_put encReg_len hownr k (markReg (c + 3 * (k : Int))) hkm
        rw [mmixReg_set L c k hlt] at h3
        exact ⟨k + 1, by omega, by go_num, by go_num, h3, grown_setCells (encReg (markReg (c + 3 * (k : Int)))) (k * 3) hg⟩
      case measure => simp [intOf]; omega
    · obtain rfl : k = L.length := by omega
      go_wp2
      go_ret
      rw [mmixReg_full] at hownr
      exact RetMark.mk rfl hownr hg

set_option maxHeartbeats 1000000 in
theorem markRegS_own (base : Nat) (v : Value) (n : Nat) (L : List Reg) (c : Int) (w : World) (hn : n = L.length) (hl : n ≤ 1048576) (h0 : 0 ≤ c) (h1 : c ≤ 1000000000000)
    (hown : w.ownsRow base 33 3 v n (L.flatMap encReg)) :
    Calls Try.prog 23 #[v, .int .i64 c] w (RetMark (c + 3 * (n : Int)) (fun w' => w'.ownsRow base 33 3 v n ((marksReg n c).flatMap encReg)) v.ownBlock w) := by
  subst hn
  rcases hown.2 with ⟨rfl, hz⟩ | ⟨g, cap, cur, rfl, _⟩
  · have hL : L = [] := List.eq_nil_of_length_eq_zero hz
    subst hL
    go_enter Try.func23, Try.ntmps23
    go_wp2
    refine wp_loop_rounds 1 ?_
    rw [rounds_succ]
    go_wp2
    go_ret
    exact RetMark.mk rfl hown (World.grownBy.refl _ _) (by simp)
  · exact markRegS_any base g cap L c w hl h0 h1 hown

set_option maxHeartbeats 1000000 in
theorem heldRegS_any (a : Option Addr) (cap n : Nat) (c : Int) (w : World) (hl : n ≤ 1048576) (h0 : 0 ≤ c) (h1 : c ≤ 1000000000000) (hc : Rd 3 encReg w a (marksReg n c)) :
    Calls Try.prog 24 #[.slice a n cap, .int .i64 c] w (RetI (c + 3 * (n : Int)) w) := by
  go_enter Try.func24, Try.ntmps24
  go_wp2
  go_loopw [1, 5] (fun q i wr => ∃ k : Nat, k ≤ n ∧ i = .int .i64 k ∧ q = .int .i64 (c + 3 * (k : Int)) ∧ Ext w wr) (fun _ i _ => n - (intOf i).toNat)
  case atStart => exact ⟨0, Nat.zero_le _, rfl, by simp, Ext.refl _⟩
  case round =>
    obtain ⟨k, hk, rfl, rfl, hb⟩ := hrel
    by_cases hlt : k < n
    · obtain ⟨x, b, off, hx, rfl, c0, c1, c2⟩ := atReg (hc.ext hb) (show k < (marksReg n c).length by rw [marksReg_len]; exact hlt)
      rw [marksReg_at n c k hlt] at hx
      cases hx
      simp only [markReg] at c0 c1 c2
      go_wp2
      go_roundw
      case rel => exact ⟨k + 1, by omega, by go_num, by go_num, hb⟩
      case measure => simp [intOf]; omega
    · obtain rfl : k = n := by omega
      go_wp2
      go_ret
      exact RetI.mk rfl hb

end Go.Proofs.Ythajlaelaebmnaa
