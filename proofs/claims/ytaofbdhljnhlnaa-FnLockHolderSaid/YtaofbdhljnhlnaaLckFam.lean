/- Lock: the cells of slices of it; contracts of the functions that read, copy, compare and mark them. No condition but that lists are shorter than 2^63. -/
import Derived.Test.YtaofbdhljnhlnaaInts
import Derived.Test.YtaofbdhljnhlnaaApp
namespace Go.Proofs.Ytaofbdhljnhlnaa
open Go.RowKit

structure Lck where
  who : Int
  f : Int
  t : Int
  alone : Bool
def encLck (x : Lck) : List Value := [.int .i64 x.who, .int .i64 x.f, .int .i64 x.t, .bool x.alone]
theorem encLck_len (x : Lck) : (encLck x).length = 4 := rfl
theorem encLck_one (x : Lck) : ∀ u ∈ encLck x, u.oneCell' = true := by simp [encLck, Value.oneCell']

theorem atLck {w : World} {a : Option Addr} {l : List Lck} (h : Rd 4 encLck w a l) {k : Nat} (hk : k < l.length) :
    ∃ x b off, l[k]? = some x ∧ a = some ⟨b, off, none⟩ ∧ w.cell? ⟨b, off + k * 4, none⟩ = some (.int .i64 x.who) ∧ w.cell? ⟨b, off + k * 4 + 1, none⟩ = some (.int .i64 x.f) ∧ w.cell? ⟨b, off + k * 4 + 2, none⟩ = some (.int .i64 x.t) ∧ w.cell? ⟨b, off + k * 4 + 3, none⟩ = some (.bool x.alone) := by
  obtain ⟨b, off, ha, hc⟩ := h k hk
  exact ⟨l[k], b, off, List.getElem?_eq_getElem hk, ha, hc 0 _ rfl, hc 1 _ rfl, hc 2 _ rfl, hc 3 _ rfl⟩

set_option maxHeartbeats 400000 in
theorem szLckS_any (a : Option Addr) (cap : Nat) (l : List Lck) (left : Int) (w : World) (h0 : 0 ≤ left) (h1 : left ≤ 1048576) (hl : l.length ≤ 9223372036854775807) (hc : Rd 4 encLck w a l) :
    Calls Try.prog 11 #[.slice a l.length cap, .int .i64 left] w (RetSz left (fun _ => l.length ≤ 1048576) w) := by
  by_cases h : left - l.length < 0
  · go_enter Try.func11, Try.ntmps11
    go_wp2
    go_ret
    exact RetSz.mk rfl (by omega) (by omega) (by omega) (Ext.refl _)
  · go_enter Try.func11, Try.ntmps11
    go_wp2
    go_ret
    exact RetSz.mk rfl (by omega) (by omega) (by omega) (Ext.refl _)

theorem infoLck : (Try.prog.info? 32).map (fun i => (i.zero, i.size, i.bytes)) = some (some (.agg #[.int .i64 0, .int .i64 0, .int .i64 0, .bool false]), 4, 32) := by kernel_rfl

set_option maxHeartbeats 400000 in
theorem toLck_any (x : Lck) (w : World) :
    Calls Try.prog 17 #[.agg #[.int .i64 x.who, .int .i64 x.f, .int .i64 x.t, .bool x.alone]] w (RetV (fun v _ => v = .agg #[.int .i64 x.who, .int .i64 x.f, .int .i64 x.t, .bool x.alone]) w) := by
  go_enter Try.func17, Try.ntmps17
  go_wp2
  exact bodyPost_ret (v := .agg #[.int .i64 x.who, .int .i64 x.f, .int .i64 x.t, .bool x.alone]) (by simp [results, Try.results17, go_sem]) rfl (RetV.mk rfl ((((Ext.refl _).alloc _).alloc _).alloc _))

theorem madeLck (n : Nat) : (madeCells (Value.agg #[.int .i64 0, .int .i64 0, .int .i64 0, .bool false]).cells (n * 4)).toList = (List.replicate n (⟨0, 0, 0, false⟩ : Lck)).flatMap encLck := by
  apply List.ext_getElem?
  intro j
  by_cases hj : j < n * 4
  · have e : j = j / 4 * 4 + j % 4 := by omega
    have h3 : j % 4 < 4 := Nat.mod_lt _ (by omega)
    have hd : j / 4 < n := by omega
    rw [show ((List.replicate n (⟨0, 0, 0, false⟩ : Lck)).flatMap encLck)[j]? = ((List.replicate n (⟨0, 0, 0, false⟩ : Lck)).flatMap encLck)[j / 4 * 4 + j % 4]? by rw [← e], flatMap_at encLck_len _ _ _ h3]
    simp [madeCells, Value.cells, hj, hd]
    rcases (show j % 4 = 0 ∨ j % 4 = 1 ∨ j % 4 = 2 ∨ j % 4 = 3 by omega) with h | h | h | h <;> simp [h, encLck]
  · rw [List.getElem?_eq_none (by simp [madeCells]; omega), List.getElem?_eq_none (by rw [flatMap_length encLck_len]; simp; omega)]

/-- What lies in the new slice when k elements were copied. -/
def mixLck (l : List Lck) (k : Nat) : List Lck := l.take k ++ List.replicate (l.length - k) ⟨0, 0, 0, false⟩
theorem mixLck_len (l : List Lck) (k : Nat) (hk : k ≤ l.length) : (mixLck l k).length = l.length := by simp [mixLck]; omega
theorem mixLck_zero (l : List Lck) : mixLck l 0 = List.replicate l.length ⟨0, 0, 0, false⟩ := by simp [mixLck]
theorem mixLck_full (l : List Lck) : mixLck l l.length = l := by simp [mixLck]
theorem mixLck_set (l : List Lck) (k : Nat) (x : Lck) (hx : l[k]? = some x) : (mixLck l k).set k x = mixLck l (k + 1) := by
  obtain ⟨hk, rfl⟩ := List.getElem?_eq_some_iff.1 hx
  unfold mixLck
  obtain ⟨r, hr⟩ : ∃ r, l.length - k = r + 1 := ⟨l.length - k - 1, by omega⟩
  rw [hr, List.replicate_succ, show l.length - (k + 1) = r by omega, List.set_append, if_neg (by simp; omega), List.take_succ_eq_append_getElem hk, List.length_take, Nat.min_eq_left (Nat.le_of_lt hk), Nat.sub_self, List.set_cons_zero, List.append_assoc]
  rfl

set_option maxHeartbeats 1000000 in
theorem toLckS_any (a : Option Addr) (cap : Nat) (l : List Lck) (w : World) (hl : l.length ≤ 1048576) (hc : Rd 4 encLck w a l) :
    Calls Try.prog 13 #[.slice a l.length cap] w (RetV (fun v w' => w'.ownsRow w.heap.size 32 4 v l.length (l.flatMap encLck) ∧ v = .slice (some ⟨w.heap.size, 0, none⟩) l.length l.length) w) := by
  obtain ⟨i0, hi, hz0, hz1, hz2⟩ := info_parts infoLck
  go_enter Try.func13, Try.ntmps13
  go_wp2_with (at_make; refine wpList_make_full _ rfl _ _ 25 rfl w.heap.size 32 i0 _ 4 Try.underlying25 hi hz0 hz1 _ _ _ _ l.length rfl rfl rfl rfl ?b1 ?b2 ?b3 ?_)
  case b1 => rw [hz2]; omega
  case b2 => unfold maxLen; omega
  case b3 => exact Nat.le_refl _
  intro w1 hown1 hgr1
  have hE := ext_of_grown hgr1
  clear hgr1
  go_wp2
  go_loopw [4] (fun i wr => ∃ k : Nat, k ≤ l.length ∧ i = .int .i64 k ∧ wr.ownsRow w.heap.size 32 4 (.slice (some ⟨w.heap.size, 0, none⟩) l.length l.length) l.length ((mixLck l k).flatMap encLck) ∧ Ext w wr) (fun i _ => l.length - (intOf i).toNat)
  case atStart => exact ⟨0, Nat.zero_le _, rfl, by rw [mixLck_zero, ← madeLck]; exact hown1, hE⟩
  case round =>
    obtain ⟨k, hk, rfl, hown, hb⟩ := hrel
    clear hown1 hE
    by_cases hlt : k < l.length
    · obtain ⟨x, b, off, hx, rfl, c0, c1, c2, c3⟩ := atLck (hc.ext hb) hlt
      have Hx := Lib.hid hx
      clear hx
      have hkm : k < (mixLck l k).length := by rw [mixLck_len _ _ hk]; exact hlt
      go_wp2_with (go_at_call 17; refine (toLck_any x _).mono ?_; rintro e w2 ⟨v, rfl, rfl, hb2⟩; have g0 : w2.cell? ⟨w.heap.size, k * 4, none⟩ = some _ := owns_at encLck_len (ownsRow_ext hown hb2) k hkm 0 _ rfl; have g1 : w2.cell? ⟨w.heap.size, k * 4 + 1, none⟩ = some _ := owns_at encLck_len (ownsRow_ext hown hb2) k hkm 1 _ rfl; have g2 : w2.cell? ⟨w.heap.size, k * 4 + 2, none⟩ = some _ := owns_at encLck_len (ownsRow_ext hown hb2) k hkm 2 _ rfl; have g3 : w2.cell? ⟨w.heap.size, k * 4 + 3, none⟩ = some _ := owns_at encLck_len (ownsRow_ext hown hb2) k hkm 3 _ rfl; have f0 := (ownsRow_ext hown hb2).frozenAt)
      go_roundw
      case rel =>
        have h3 := owns_put encLck_len (ownsRow_ext hown hb2) k x hkm
        rw [mixLck_set l k x Hx.out] at h3
        exact ⟨k + 1, by omega, by go_num, h3, Ext.setCells (Nat.le_refl _) (encLck x) (k * 4) (hb.trans hb2)⟩
      case measure => simp [intOf]; omega
    · obtain rfl : k = l.length := by omega
      rw [mixLck_full] at hown
      go_wp2
      go_ret
      exact RetV.mk ⟨hown, rfl⟩ hb

theorem extLck {l m : List Lck} (hl : l.length = m.length) (h : ∀ j, j < l.length → l[j]? = m[j]?) : l = m := by
  apply List.ext_getElem?
  intro j
  by_cases hj : j < l.length
  · exact h j hj
  · rw [List.getElem?_eq_none (by omega), List.getElem?_eq_none (by omega)]

set_option maxHeartbeats 1000000 in
theorem eqLck_any (x y : Lck) (w : World) :
    Calls Try.prog 37 #[.agg #[.int .i64 x.who, .int .i64 x.f, .int .i64 x.t, .bool x.alone], .agg #[.int .i64 y.who, .int .i64 y.f, .int .i64 y.t, .bool y.alone]] w (RetB (x = y) w) := by
  obtain ⟨x0, x1, x2, x3⟩ := x
  obtain ⟨y0, y1, y2, y3⟩ := y
  go_enter Try.func37, Try.ntmps37
  go_wp2
  all_goals
    go_ret
    refine RetB.mk _ rfl ?_ (((Ext.refl _).alloc _).alloc _)
    simp_all [bytes_eq]

set_option maxHeartbeats 2000000 in
theorem eqLckS_any (a a' : Option Addr) (cap cap' : Nat) (l m : List Lck) (w : World) (hl : l.length ≤ 9223372036854775807) (hm : m.length ≤ 9223372036854775807) (hc : Rd 4 encLck w a l) (hd : Rd 4 encLck w a' m) :
    Calls Try.prog 15 #[.slice a l.length cap, .slice a' m.length cap'] w (RetB (l = m) w) := by
  by_cases hlen : l.length = m.length
  · have ht : ((l.length : Int) != (m.length : Int)) = false := by simp; omega
    have Hlen := Lib.hid hlen
    clear hlen
    go_enter Try.func15, Try.ntmps15
    go_wp2
    go_loopw [5] (fun i wr => ∃ k : Nat, k ≤ l.length ∧ i = .int .i64 k ∧ (∀ j, j < k → l[j]? = m[j]?) ∧ Ext w wr) (fun i _ => l.length - (intOf i).toNat)
    case atStart => exact ⟨0, Nat.zero_le _, rfl, fun _ h => absurd h (Nat.not_lt_zero _), Ext.refl _⟩
    case round =>
      obtain ⟨k, hk, rfl, hpre, hb⟩ := hrel
      have Hpre := Lib.hid hpre
      clear hpre
      by_cases hlt : k < l.length
      · have hltm : k < m.length := by have := Hlen.out; omega
        obtain ⟨x, b, off, hx, rfl, c0, c1, c2, c3⟩ := atLck (hc.ext hb) hlt
        obtain ⟨y, b', off', hy, rfl, d0, d1, d2, d3⟩ := atLck (hd.ext hb) hltm
        have Hx := Lib.hid hx
        have Hy := Lib.hid hy
        clear hx hy ht
        go_wp2
        go_still_tail 8, (by kernel_rfl)
        change wpList _ _ _ _ _ wr.drew
        generalize hw2 : wr.drew = w2
        have hb2 : Ext w w2 := by rw [← hw2]; exact hb.drew
        clear hw2 hb c0 d0 c1 d1 c2 d2 c3 d3
        go_wp2_with (go_at_call 37; refine (eqLck_any x y _).mono ?_; rintro e w3 ⟨b0, rfl, he, hb3⟩; have He := Lib.hid he; clear he)
        · have hb0 : (!b0) = true := by assumption
          go_ret
          exact RetB.mk false rfl (by simp only [Bool.false_eq_true, false_iff]; intro h; subst h; have h1 := Hx.out; rw [Hy.out] at h1; cases h1; rw [He.out.2 rfl] at hb0; cases hb0) (hb2.trans hb3)
        · have hb0 : (!b0) = false := by assumption
          have hxy : x = y := He.out.1 (by simpa using hb0)
          go_roundw
          case rel => exact ⟨k + 1, by omega, by go_num, fun j hj => (Nat.lt_succ_iff_lt_or_eq.1 hj).elim (Hpre.out j) (fun e => by rw [e, Hx.out, Hy.out, hxy]), hb2.trans hb3⟩
          case measure => simp [intOf]; omega
      · go_wp2
        go_ret
        exact RetB.mk true rfl (by simp only [true_iff]; exact extLck Hlen.out (fun j hj => Hpre.out j (by omega))) hb
  · have ht : ((l.length : Int) != (m.length : Int)) = true := by simp; omega
    have Hlen := Lib.hid hlen
    clear hlen
    go_enter Try.func15, Try.ntmps15
    go_wp2
    go_ret
    exact RetB.mk false rfl (by simp only [Bool.false_eq_true, false_iff]; intro h; exact Hlen.out (by rw [h])) (Ext.refl _)

theorem guardLck (op : BinOp) (p q : Operand) (x y : Array Value) (w : World) : (eqGuard op 32 p q (.agg x) (.agg y)).run Try.prog w = .ok () w := run_eqGuard_agg w op 32 p q _ _ (by kernel_rfl)
theorem neqLck_same (x : Lck) (w : World) : (binOp .neq 32 (.agg #[.int .i64 x.who, .int .i64 x.f, .int .i64 x.t, .bool x.alone]) (.agg #[.int .i64 x.who, .int .i64 x.f, .int .i64 x.t, .bool x.alone])).run Try.prog w = .ok (.bool false) w := by
  simp [go_sem]
theorem neqLck_other {x y : Lck} (h : x ≠ y) (w : World) : (binOp .neq 32 (.agg #[.int .i64 x.who, .int .i64 x.f, .int .i64 x.t, .bool x.alone]) (.agg #[.int .i64 y.who, .int .i64 y.f, .int .i64 y.t, .bool y.alone])).run Try.prog w = .ok (.bool true) w := by
  obtain ⟨x0, x1, x2, x3⟩ := x
  obtain ⟨y0, y1, y2, y3⟩ := y
  by_cases h0 : x0 = y0 <;> by_cases h1 : x1 = y1 <;> by_cases h2 : x2 = y2 <;> by_cases h3 : x3 = y3 <;> simp [go_sem, h0, h1, h2, h3] <;> simp_all [bytes_eq]
theorem eqlLck_same (x : Lck) (w : World) : (binOp .eql 32 (.agg #[.int .i64 x.who, .int .i64 x.f, .int .i64 x.t, .bool x.alone]) (.agg #[.int .i64 x.who, .int .i64 x.f, .int .i64 x.t, .bool x.alone])).run Try.prog w = .ok (.bool true) w := by
  simp [go_sem]
theorem eqlLck_other {x y : Lck} (h : x ≠ y) (w : World) : (binOp .eql 32 (.agg #[.int .i64 x.who, .int .i64 x.f, .int .i64 x.t, .bool x.alone]) (.agg #[.int .i64 y.who, .int .i64 y.f, .int .i64 y.t, .bool y.alone])).run Try.prog w = .ok (.bool false) w := by
  obtain ⟨x0, x1, x2, x3⟩ := x
  obtain ⟨y0, y1, y2, y3⟩ := y
  by_cases h0 : x0 = y0 <;> by_cases h1 : x1 = y1 <;> by_cases h2 : x2 = y2 <;> by_cases h3 : x3 = y3 <;> simp [go_sem, h0, h1, h2, h3] <;> simp_all [bytes_eq]

set_option maxHeartbeats 2000000 in
theorem sameLcks_any (a a' : Option Addr) (cap cap' : Nat) (l m : List Lck) (w : World) (hl : l.length ≤ 9223372036854775807) (hm : m.length ≤ 9223372036854775807) (hc : Rd 4 encLck w a l) (hd : Rd 4 encLck w a' m) :
    Calls Try.prog 27 #[.slice a l.length cap, .slice a' m.length cap'] w (RetB (l = m) w) := by
  by_cases hlen : l.length = m.length
  · have ht : ((l.length : Int) != (m.length : Int)) = false := by simp; omega
    have Hlen := Lib.hid hlen
    clear hlen
    go_enter Try.func27, Try.ntmps27
    go_wp2
    go_loopw [5] (fun i wr => ∃ k : Nat, k ≤ l.length ∧ i = .int .i64 k ∧ (∀ j, j < k → l[j]? = m[j]?) ∧ Ext w wr) (fun i _ => l.length - (intOf i).toNat)
    case atStart => exact ⟨0, Nat.zero_le _, rfl, fun _ h => absurd h (Nat.not_lt_zero _), Ext.refl _⟩
    case round =>
      obtain ⟨k, hk, rfl, hpre, hb⟩ := hrel
      have Hpre := Lib.hid hpre
      clear hpre
      by_cases hlt : k < l.length
      · have hltm : k < m.length := by have := Hlen.out; omega
        obtain ⟨x, b, off, hx, rfl, c0, c1, c2, c3⟩ := atLck (hc.ext hb) hlt
        obtain ⟨y, b', off', hy, rfl, d0, d1, d2, d3⟩ := atLck (hd.ext hb) hltm
        have Hx := Lib.hid hx
        have Hy := Lib.hid hy
        clear hx hy ht
        by_cases hxy : x = y
        · subst hxy
          have e1 := neqLck_same x
          have e2 := fun w => guardLck .neq (.tmp 20) (.tmp 24) #[.int .i64 x.who, .int .i64 x.f, .int .i64 x.t, .bool x.alone] #[.int .i64 x.who, .int .i64 x.f, .int .i64 x.t, .bool x.alone] w
          go_wp2
          go_quiet (fail)
          clear e1 e2
          go_wp2
          go_roundw
          case rel => exact ⟨k + 1, by omega, by go_num, fun j hj => (Nat.lt_succ_iff_lt_or_eq.1 hj).elim (Hpre.out j) (fun e => by rw [e, Hx.out, Hy.out]), hb.drewN _⟩
          case measure => simp [intOf]; omega
        · have e1 := neqLck_other hxy
          have e2 := fun w => guardLck .neq (.tmp 20) (.tmp 24) #[.int .i64 x.who, .int .i64 x.f, .int .i64 x.t, .bool x.alone] #[.int .i64 y.who, .int .i64 y.f, .int .i64 y.t, .bool y.alone] w
          go_wp2
          go_quiet (fail)
          clear e1 e2
          go_wp2
          go_ret
          exact RetB.mk false rfl (by simp only [Bool.false_eq_true, false_iff]; intro h; subst h; have h1 := Hx.out; rw [Hy.out] at h1; cases h1; exact hxy rfl) (hb.drewN _)
      · go_wp2
        go_ret
        exact RetB.mk true rfl (by simp only [true_iff]; exact extLck Hlen.out (fun j hj => Hpre.out j (by omega))) hb
  · have ht : ((l.length : Int) != (m.length : Int)) = true := by simp; omega
    have Hlen := Lib.hid hlen
    clear hlen
    go_enter Try.func27, Try.ntmps27
    go_wp2
    go_ret
    exact RetB.mk false rfl (by simp only [Bool.false_eq_true, false_iff]; intro h; exact Hlen.out (by rw [h])) (Ext.refl _)

set_option maxHeartbeats 1000000 in
theorem cloneLck_any (a : Option Addr) (cap : Nat) (l : List Lck) (w : World) (hl : l.length ≤ 1048576) (hc : Rd 4 encLck w a l) :
    Calls Try.prog 46 #[.slice a l.length cap] w (RetV (fun v w' => w'.ownsRow w.heap.size 32 4 v l.length (l.flatMap encLck)) w) := by
  have hq := fun w a n c => Lib.run_eql_slice_nil (P := Try.prog) w 25 32 a n c 0 0 Try.underlying25
  cases a with
  | none =>
    have hnil : l = [] := by
      cases l with
      | nil => rfl
      | cons y l => obtain ⟨b, off, h0, _⟩ := hc 0 (by simp); cases h0
    subst hnil
    go_enter Try.func46, Try.ntmps46
    go_wp2
    go_ret
    exact RetV.mk (World.ownsRow_nil _ _ _ _) (Ext.refl _)
  | some a =>
    go_enter Try.func46, Try.ntmps46
    go_wp2_with (at_builtin; refine wpList_append_rd rfl _ _ 25 rfl w.heap.size 32 _ 4 _ Try.underlying25 infoLck rfl (by decide) encLck_len encLck_one _ 0 [] rfl (owns_lit_new [] encLck_len rfl rfl (by omega) (Nat.le_refl _)) rfl (some a) l.length cap l rfl rfl (hc.ext ((Ext.refl _).alloc _)) (by omega) (by omega) (by simp) ?_)
    intro v' w' hown hg
    go_wp2
    go_ret
    exact RetV.mk hown (((Ext.refl _).alloc _).grown hg (by intro k h; simp [Value.ownBlock] at h; omega))

def markLck (c : Int) : Lck := ⟨c, c + 1, c + 1 + 1, ((c + 1 + 1 + 1) % 3 == 0)⟩
def marksLck (n : Nat) (c : Int) : List Lck := (List.range n).map fun i : Nat => markLck (c + 4 * (i : Int))
theorem marksLck_len (n : Nat) (c : Int) : (marksLck n c).length = n := by simp [marksLck]
theorem marksLck_at (n : Nat) (c : Int) (i : Nat) (h : i < n) : (marksLck n c)[i]? = some (markLck (c + 4 * (i : Int))) := by simp [marksLck, h]
def mmixLck (L : List Lck) (c : Int) (i : Nat) : List Lck := marksLck i c ++ L.drop i
theorem mmixLck_len (L : List Lck) (c : Int) (i : Nat) (h : i ≤ L.length) : (mmixLck L c i).length = L.length := by simp [mmixLck, marksLck_len]; omega
theorem mmixLck_zero (L : List Lck) (c : Int) : mmixLck L c 0 = L := by simp [mmixLck, marksLck]
theorem mmixLck_full (L : List Lck) (c : Int) : mmixLck L c L.length = marksLck L.length c := by simp [mmixLck]
theorem mmixLck_set (L : List Lck) (c : Int) (i : Nat) (h : i < L.length) : (mmixLck L c i).set i (markLck (c + 4 * (i : Int))) = mmixLck L c (i + 1) := by
  unfold mmixLck
  rw [List.set_append, if_neg (by simp [marksLck_len]), marksLck_len, Nat.sub_self, List.drop_eq_getElem_cons h, List.set_cons_zero]
  simp [marksLck, List.range_succ]

set_option maxHeartbeats 2000000 in
theorem markLckS_any (base g cap : Nat) (L : List Lck) (c : Int) (w : World) (hl : L.length ≤ 1048576) (h0 : 0 ≤ c) (h1 : c ≤ 1000000000000)
    (hown : w.ownsRow base 32 4 (.slice (some ⟨g, 0, none⟩) L.length cap) L.length (L.flatMap encLck)) :
    Calls Try.prog 24 #[.slice (some ⟨g, 0, none⟩) L.length cap, .int .i64 c] w (RetMark (c + 4 * (L.length : Int)) (fun w' => w'.ownsRow base 32 4 (.slice (some ⟨g, 0, none⟩) L.length cap) L.length ((marksLck L.length c).flatMap encLck)) (some g) w) := by
  go_enter Try.func24, Try.ntmps24
  go_wp2
  go_loopw [1, 5] (fun q i wr => ∃ k : Nat, k ≤ L.length ∧ i = .int .i64 k ∧ q = .int .i64 (c + 4 * (k : Int)) ∧ wr.ownsRow base 32 4 (.slice (some ⟨g, 0, none⟩) L.length cap) L.length ((mmixLck L c k).flatMap encLck) ∧ w.grownBy wr (some g)) (fun _ i _ => L.length - (intOf i).toNat)
  case atStart => exact ⟨0, Nat.zero_le _, rfl, by simp, by rw [mmixLck_zero]; exact hown, World.grownBy.refl _ _⟩
  case round =>
    obtain ⟨k, hk, rfl, rfl, hownr, hg⟩ := hrel
    by_cases hlt : k < L.length
    · have hkm : k < (mmixLck L c k).length := by rw [mmixLck_len _ _ _ hk]; exact hlt
      have g0 : wr.cell? ⟨g, k * 4, none⟩ = some _ := owns_at encLck_len hownr k hkm 0 _ rfl
      have g1 : wr.cell? ⟨g, k * 4 + 1, none⟩ = some _ := owns_at encLck_len hownr k hkm 1 _ rfl
      have g2 : wr.cell? ⟨g, k * 4 + 2, none⟩ = some _ := owns_at encLck_len hownr k hkm 2 _ rfl
      have g3 : wr.cell? ⟨g, k * 4 + 3, none⟩ = some _ := owns_at encLck_len hownr k hkm 3 _ rfl
      have f0 := hownr.frozenAt
      go_wp2
      go_roundw
      case rel =>
        have o0 := owns_set encLck_len hownr k 0 (.int .i64 ((c + 4 * (k : Int)))) ⟨(c + 4 * (k : Int)), (mmixLck L c k)[k].f, (mmixLck L c k)[k].t, (mmixLck L c k)[k].alone⟩ hkm (by omega) rfl
        have o1 := owns_set encLck_len o0 k 1 (.int .i64 ((c + 4 * (k : Int)) + 1)) ⟨(c + 4 * (k : Int)), (c + 4 * (k : Int)) + 1, (mmixLck L c k)[k].t, (mmixLck L c k)[k].alone⟩ (by simp only [List.length_set]; exact hkm) (by omega) (by rw [List.getElem_set_self]; rfl)
        have o2 := owns_set encLck_len o1 k 2 (.int .i64 ((c + 4 * (k : Int)) + 1 + 1)) ⟨(c + 4 * (k : Int)), (c + 4 * (k : Int)) + 1, (c + 4 * (k : Int)) + 1 + 1, (mmixLck L c k)[k].alone⟩ (by simp only [List.length_set]; exact hkm) (by omega) (by rw [List.getElem_set_self]; rfl)
        have o3 := owns_set encLck_len o2 k 3 (.bool (((c + 4 * (k : Int)) + 1 + 1 + 1) % 3 == 0)) ⟨(c + 4 * (k : Int)), (c + 4 * (k : Int)) + 1, (c + 4 * (k : Int)) + 1 + 1, (((c + 4 * (k : Int)) + 1 + 1 + 1) % 3 == 0)⟩ (by simp only [List.length_set]; exact hkm) (by omega) (by rw [List.getElem_set_self]; rfl)
        simp only [List.set_set] at o3
        have h3 : _ := o3
        rw [show (⟨(c + 4 * (k : Int)), (c + 4 * (k : Int)) + 1, (c + 4 * (k : Int)) + 1 + 1, (((c + 4 * (k : Int)) + 1 + 1 + 1) % 3 == 0)⟩ : Lck) = markLck (c + 4 * (k : Int)) from rfl, mmixLck_set L c k hlt] at h3
        refine ⟨k + 1, by omega, by go_num, by go_num, h3, ?_⟩
        repeat (first | exact hg | (refine grown_setCell ?_ _) | (refine grown_ext ?_ (by assumption)))
      case measure => simp [intOf]; omega
    · obtain rfl : k = L.length := by omega
      go_wp2
      go_ret
      rw [mmixLck_full] at hownr
      exact RetMark.mk rfl hownr hg

set_option maxHeartbeats 1000000 in
theorem markLckS_own (base : Nat) (v : Value) (n : Nat) (L : List Lck) (c : Int) (w : World) (hn : n = L.length) (hl : n ≤ 1048576) (h0 : 0 ≤ c) (h1 : c ≤ 1000000000000)
    (hown : w.ownsRow base 32 4 v n (L.flatMap encLck)) :
    Calls Try.prog 24 #[v, .int .i64 c] w (RetMark (c + 4 * (n : Int)) (fun w' => w'.ownsRow base 32 4 v n ((marksLck n c).flatMap encLck)) v.ownBlock w) := by
  subst hn
  rcases hown.2 with ⟨rfl, hz⟩ | ⟨g, cap, cur, rfl, _⟩
  · have hL : L = [] := List.eq_nil_of_length_eq_zero hz
    subst hL
    go_enter Try.func24, Try.ntmps24
    go_wp2
    refine wp_loop_rounds 1 ?_
    rw [rounds_succ]
    go_wp2
    go_ret
    exact RetMark.mk rfl hown (World.grownBy.refl _ _) (by simp)
  · exact markLckS_any base g cap L c w hl h0 h1 hown

set_option maxHeartbeats 2000000 in
theorem heldLckS_any (a : Option Addr) (cap n : Nat) (c : Int) (w : World) (hl : n ≤ 1048576) (h0 : 0 ≤ c) (h1 : c ≤ 1000000000000) (hc : Rd 4 encLck w a (marksLck n c)) :
    Calls Try.prog 25 #[.slice a n cap, .int .i64 c] w (RetI (c + 4 * (n : Int)) w) := by
  go_enter Try.func25, Try.ntmps25
  go_wp2
  go_loopw [1, 5] (fun q i wr => ∃ k : Nat, k ≤ n ∧ i = .int .i64 k ∧ q = .int .i64 (c + 4 * (k : Int)) ∧ Ext w wr) (fun _ i _ => n - (intOf i).toNat)
  case atStart => exact ⟨0, Nat.zero_le _, rfl, by simp, Ext.refl _⟩
  case round =>
    obtain ⟨k, hk, rfl, rfl, hb⟩ := hrel
    by_cases hlt : k < n
    · skip
      obtain ⟨x, b, off, hx, rfl, c0, c1, c2, c3⟩ := atLck (hc.ext hb) (show k < (marksLck n c).length by rw [marksLck_len]; exact hlt)
      rw [marksLck_at n c k hlt] at hx
      cases hx
      simp only [markLck] at c0 c1 c2 c3
      go_wp2
      go_roundw
      case rel => exact ⟨k + 1, by omega, by go_num, by go_num, hb⟩
      case measure => simp [intOf]; omega
    · obtain rfl : k = n := by omega
      go_wp2
      go_ret
      exact RetI.mk rfl hb

end Go.Proofs.Ytaofbdhljnhlnaa
