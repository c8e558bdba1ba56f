/- Member: the cells of slices of it; contracts of the functions that read, copy, compare and mark them. No condition but that lists are shorter than 2^63. -/
import Derived.Test.YtlmelknadappbaaInts
import Derived.Test.YtlmelknadappbaaApp
namespace Go.Proofs.Ytlmelknadappbaa
open Go.RowKit

structure Mem where
  num : Int
  grp : Int
  ses : Int
def encMem (x : Mem) : List Value := [.int .i64 x.num, .int .i64 x.grp, .int .i64 x.ses]
theorem encMem_len (x : Mem) : (encMem x).length = 3 := rfl
theorem encMem_one (x : Mem) : ∀ u ∈ encMem x, u.oneCell' = true := by simp [encMem, Value.oneCell']

theorem atMem {w : World} {a : Option Addr} {l : List Mem} (h : Rd 3 encMem w a l) {k : Nat} (hk : k < l.length) :
    ∃ x b off, l[k]? = some x ∧ a = some ⟨b, off, none⟩ ∧ w.cell? ⟨b, off + k * 3, none⟩ = some (.int .i64 x.num) ∧ w.cell? ⟨b, off + k * 3 + 1, none⟩ = some (.int .i64 x.grp) ∧ w.cell? ⟨b, off + k * 3 + 2, none⟩ = some (.int .i64 x.ses) := by
  obtain ⟨b, off, ha, hc⟩ := h k hk
  exact ⟨l[k], b, off, List.getElem?_eq_getElem hk, ha, hc 0 _ rfl, hc 1 _ rfl, hc 2 _ rfl⟩

set_option maxHeartbeats 400000 in
theorem szMemS_any (a : Option Addr) (cap : Nat) (l : List Mem) (left : Int) (w : World) (h0 : 0 ≤ left) (h1 : left ≤ 1048576) (hl : l.length ≤ 9223372036854775807) (hc : Rd 3 encMem w a l) :
    Calls Try.prog 11 #[.slice a l.length cap, .int .i64 left] w (RetSz left (fun _ => l.length ≤ 1048576) w) := by
  by_cases h : left - l.length < 0
  · go_enter Try.func11, Try.ntmps11
    go_wp2
    go_ret
    exact RetSz.mk rfl (by omega) (by omega) (by omega) (Ext.refl _)
  · go_enter Try.func11, Try.ntmps11
    go_wp2
    go_ret
    exact RetSz.mk rfl (by omega) (by omega) (by omega) (Ext.refl _)

theorem infoMem : (Try.prog.info? 33).map (fun i => (i.zero, i.size, i.bytes)) = some (some (.agg #[.int .i64 0, .int .i64 0, .int .i64 0]), 3, 24) := by kernel_rfl

set_option maxHeartbeats 400000 in
theorem toMem_any (x : Mem) (w : World) :
    Calls Try.prog 35 #[.agg #[.int .i64 x.num, .int .i64 x.grp, .int .i64 x.ses]] w (RetV (fun v _ => v = .agg #[.int .i64 x.num, .int .i64 x.grp, .int .i64 x.ses]) w) := by
  go_enter Try.func35, Try.ntmps35
  go_wp2
  exact bodyPost_ret (v := .agg #[.int .i64 x.num, .int .i64 x.grp, .int .i64 x.ses]) (by simp [results, Try.results35, go_sem]) rfl (RetV.mk rfl ((((Ext.refl _).alloc _).alloc _).alloc _))

theorem madeMem (n : Nat) : (madeCells (Value.agg #[.int .i64 0, .int .i64 0, .int .i64 0]).cells (n * 3)).toList = (List.replicate n (⟨0, 0, 0⟩ : Mem)).flatMap encMem := by
  apply List.ext_getElem?
  intro j
  by_cases hj : j < n * 3
  · have e : j = j / 3 * 3 + j % 3 := by omega
    have h3 : j % 3 < 3 := Nat.mod_lt _ (by omega)
    have hd : j / 3 < n := by omega
    rw [show ((List.replicate n (⟨0, 0, 0⟩ : Mem)).flatMap encMem)[j]? = ((List.replicate n (⟨0, 0, 0⟩ : Mem)).flatMap encMem)[j / 3 * 3 + j % 3]? by rw [← e], flatMap_at encMem_len _ _ _ h3]
    simp [madeCells, Value.cells, hj, hd]
    rcases (show j % 3 = 0 ∨ j % 3 = 1 ∨ j % 3 = 2 by omega) with h | h | h <;> simp [h, encMem]
  · rw [List.getElem?_eq_none (by simp [madeCells]; omega), List.getElem?_eq_none (by rw [flatMap_length encMem_len]; simp; omega)]

/-- What lies in the new slice when k elements were copied. -/
def mixMem (l : List Mem) (k : Nat) : List Mem := l.take k ++ List.replicate (l.length - k) ⟨0, 0, 0⟩
theorem mixMem_len (l : List Mem) (k : Nat) (hk : k ≤ l.length) : (mixMem l k).length = l.length := by simp [mixMem]; omega
theorem mixMem_zero (l : List Mem) : mixMem l 0 = List.replicate l.length ⟨0, 0, 0⟩ := by simp [mixMem]
theorem mixMem_full (l : List Mem) : mixMem l l.length = l := by simp [mixMem]
theorem mixMem_set (l : List Mem) (k : Nat) (x : Mem) (hx : l[k]? = some x) : (mixMem l k).set k x = mixMem l (k + 1) := by
  obtain ⟨hk, rfl⟩ := List.getElem?_eq_some_iff.1 hx
  unfold mixMem
  obtain ⟨r, hr⟩ : ∃ r, l.length - k = r + 1 := ⟨l.length - k - 1, by omega⟩
  rw [hr, List.replicate_succ, show l.length - (k + 1) = r by omega, List.set_append, if_neg (by simp; omega), List.take_succ_eq_append_getElem hk, List.length_take, Nat.min_eq_left (Nat.le_of_lt hk), Nat.sub_self, List.set_cons_zero, List.append_assoc]
  rfl

set_option maxHeartbeats 1000000 in
theorem toMemS_any (a : Option Addr) (cap : Nat) (l : List Mem) (w : World) (hl : l.length ≤ 1048576) (hc : Rd 3 encMem w a l) :
    Calls Try.prog 13 #[.slice a l.length cap] w (RetV (fun v w' => w'.ownsRow w.heap.size 33 3 v l.length (l.flatMap encMem) ∧ v = .slice (some ⟨w.heap.size, 0, none⟩) l.length l.length) w) := by
  obtain ⟨i0, hi, hz0, hz1, hz2⟩ := info_parts infoMem
  go_enter Try.func13, Try.ntmps13
  go_wp2_with (at_make; refine wpList_make_full _ rfl _ _ 25 rfl w.heap.size 33 i0 _ 3 Try.underlying25 hi hz0 hz1 _ _ _ _ l.length rfl rfl rfl rfl ?b1 ?b2 ?b3 ?_)
  case b1 => rw [hz2]; omega
  case b2 => unfold maxLen; omega
  case b3 => exact Nat.le_refl _
  intro w1 hown1 hgr1
  have hE := ext_of_grown hgr1
  clear hgr1
  go_wp2
  go_loopw [4] (fun i wr => ∃ k : Nat, k ≤ l.length ∧ i = .int .i64 k ∧ wr.ownsRow w.heap.size 33 3 (.slice (some ⟨w.heap.size, 0, none⟩) l.length l.length) l.length ((mixMem l k).flatMap encMem) ∧ Ext w wr) (fun i _ => l.length - (intOf i).toNat)
  case atStart => exact ⟨0, Nat.zero_le _, rfl, by rw [mixMem_zero, ← madeMem]; exact hown1, hE⟩
  case round =>
    obtain ⟨k, hk, rfl, hown, hb⟩ := hrel
    clear hown1 hE
    by_cases hlt : k < l.length
    · obtain ⟨x, b, off, hx, rfl, c0, c1, c2⟩ := atMem (hc.ext hb) hlt
      have Hx := Lib.hid hx
      clear hx
      have hkm : k < (mixMem l k).length := by rw [mixMem_len _ _ hk]; exact hlt
      go_wp2_with (go_at_call 35; refine (toMem_any x _).mono ?_; rintro e w2 ⟨v, rfl, rfl, hb2⟩; have g0 : w2.cell? ⟨w.heap.size, k * 3, none⟩ = some _ := owns_at encMem_len (ownsRow_ext hown hb2) k hkm 0 _ rfl; have g1 : w2.cell? ⟨w.heap.size, k * 3 + 1, none⟩ = some _ := owns_at encMem_len (ownsRow_ext hown hb2) k hkm 1 _ rfl; have g2 : w2.cell? ⟨w.heap.size, k * 3 + 2, none⟩ = some _ := owns_at encMem_len (ownsRow_ext hown hb2) k hkm 2 _ rfl; have f0 := (ownsRow_ext hown hb2).frozenAt)
      go_roundw
      case rel =>
        have h3 := owns_put encMem_len (ownsRow_ext hown hb2) k x hkm
        rw [mixMem_set l k x Hx.out] at h3
        exact ⟨k + 1, by omega, by go_num, h3, Ext.setCells (Nat.le_refl _) (encMem x) (k * 3) (hb.trans hb2)⟩
      case measure => simp [intOf]; omega
    · obtain rfl : k = l.length := by omega
      rw [mixMem_full] at hown
      go_wp2
      go_ret
      exact RetV.mk ⟨hown, rfl⟩ hb

theorem extMem {l m : List Mem} (hl : l.length = m.length) (h : ∀ j, j < l.length → l[j]? = m[j]?) : l = m := by
  apply List.ext_getElem?
  intro j
  by_cases hj : j < l.length
  · exact h j hj
  · rw [List.getElem?_eq_none (by omega), List.getElem?_eq_none (by omega)]

set_option maxHeartbeats 1000000 in
theorem eqMem_any (x y : Mem) (w : World) :
    Calls Try.prog 39 #[.agg #[.int .i64 x.num, .int .i64 x.grp, .int .i64 x.ses], .agg #[.int .i64 y.num, .int .i64 y.grp, .int .i64 y.ses]] w (RetB (x = y) w) := by
  obtain ⟨x0, x1, x2⟩ := x
  obtain ⟨y0, y1, y2⟩ := y
  go_enter Try.func39, Try.ntmps39
  go_wp2
  all_goals
    go_ret
    refine RetB.mk _ rfl ?_ (((Ext.refl _).alloc _).alloc _)
    simp_all [bytes_eq]

set_option maxHeartbeats 2000000 in
theorem eqMemS_any (a a' : Option Addr) (cap cap' : Nat) (l m : List Mem) (w : World) (hl : l.length ≤ 9223372036854775807) (hm : m.length ≤ 9223372036854775807) (hc : Rd 3 encMem w a l) (hd : Rd 3 encMem w a' m) :
    Calls Try.prog 15 #[.slice a l.length cap, .slice a' m.length cap'] w (RetB (l = m) w) := by
  by_cases hlen : l.length = m.length
  · have ht : ((l.length : Int) != (m.length : Int)) = false := by simp; omega
    have Hlen := Lib.hid hlen
    clear hlen
    go_enter Try.func15, Try.ntmps15
    go_wp2
    go_loopw [5] (fun i wr => ∃ k : Nat, k ≤ l.length ∧ i = .int .i64 k ∧ (∀ j, j < k → l[j]? = m[j]?) ∧ Ext w wr) (fun i _ => l.length - (intOf i).toNat)
    case atStart => exact ⟨0, Nat.zero_le _, rfl, fun _ h => absurd h (Nat.not_lt_zero _), Ext.refl _⟩
    case round =>
      obtain ⟨k, hk, rfl, hpre, hb⟩ := hrel
      have Hpre := Lib.hid hpre
      clear hpre
      by_cases hlt : k < l.length
      · have hltm : k < m.length := by have := Hlen.out; omega
        obtain ⟨x, b, off, hx, rfl, c0, c1, c2⟩ := atMem (hc.ext hb) hlt
        obtain ⟨y, b', off', hy, rfl, d0, d1, d2⟩ := atMem (hd.ext hb) hltm
        have Hx := Lib.hid hx
        have Hy := Lib.hid hy
        clear hx hy ht
        go_wp2
        go_still_tail 8, (by kernel_rfl)
        change wpList _ _ _ _ _ wr.drew
        generalize hw2 : wr.drew = w2
        have hb2 : Ext w w2 := by rw [← hw2]; exact hb.drew
        clear hw2 hb c0 d0 c1 d1 c2 d2
        go_wp2_with (go_at_call 39; refine (eqMem_any x y _).mono ?_; rintro e w3 ⟨b0, rfl, he, hb3⟩; have He := Lib.hid he; clear he)
        · have hb0 : (!b0) = true := by assumption
          go_ret
          exact RetB.mk false rfl (by simp only [Bool.false_eq_true, false_iff]; intro h; subst h; have h1 := Hx.out; rw [Hy.out] at h1; cases h1; rw [He.out.2 rfl] at hb0; cases hb0) (hb2.trans hb3)
        · have hb0 : (!b0) = false := by assumption
          have hxy : x = y := He.out.1 (by simpa using hb0)
          go_roundw
          case rel => exact ⟨k + 1, by omega, by go_num, fun j hj => (Nat.lt_succ_iff_lt_or_eq.1 hj).elim (Hpre.out j) (fun e => by rw [e, Hx.out, Hy.out, hxy]), hb2.trans hb3⟩
          case measure => simp [intOf]; omega
      · go_wp2
        go_ret
        exact RetB.mk true rfl (by simp only [true_iff]; exact extMem Hlen.out (fun j hj => Hpre.out j (by omega))) hb
  · have ht : ((l.length : Int) != (m.length : Int)) = true := by simp; omega
    have Hlen := Lib.hid hlen
    clear hlen
    go_enter Try.func15, Try.ntmps15
    go_wp2
    go_ret
    exact RetB.mk false rfl (by simp only [Bool.false_eq_true, false_iff]; intro h; exact Hlen.out (by rw [h])) (Ext.refl _)

theorem guardMem (op : BinOp) (p q : Operand) (x y : Array Value) (w : World) : (eqGuard op 33 p q (.agg x) (.agg y)).run Try.prog w = .ok () w := run_eqGuard_agg w op 33 p q _ _ (by kernel_rfl)
theorem neqMem_same (x : Mem) (w : World) : (binOp .neq 33 (.agg #[.int .i64 x.num, .int .i64 x.grp, .int .i64 x.ses]) (.agg #[.int .i64 x.num, .int .i64 x.grp, .int .i64 x.ses])).run Try.prog w = .ok (.bool false) w := by
  simp [go_sem]
theorem neqMem_other {x y : Mem} (h : x ≠ y) (w : World) : (binOp .neq 33 (.agg #[.int .i64 x.num, .int .i64 x.grp, .int .i64 x.ses]) (.agg #[.int .i64 y.num, .int .i64 y.grp, .int .i64 y.ses])).run Try.prog w = .ok (.bool true) w := by
  obtain ⟨x0, x1, x2⟩ := x
  obtain ⟨y0, y1, y2⟩ := y
  by_cases h0 : x0 = y0 <;> by_cases h1 : x1 = y1 <;> by_cases h2 : x2 = y2 <;> simp [go_sem, h0, h1, h2] <;> simp_all [bytes_eq]
theorem eqlMem_same (x : Mem) (w : World) : (binOp .eql 33 (.agg #[.int .i64 x.num, .int .i64 x.grp, .int .i64 x.ses]) (.agg #[.int .i64 x.num, .int .i64 x.grp, .int .i64 x.ses])).run Try.prog w = .ok (.bool true) w := by
  simp [go_sem]
theorem eqlMem_other {x y : Mem} (h : x ≠ y) (w : World) : (binOp .eql 33 (.agg #[.int .i64 x.num, .int .i64 x.grp, .int .i64 x.ses]) (.agg #[.int .i64 y.num, .int .i64 y.grp, .int .i64 y.ses])).run Try.prog w = .ok (.bool false) w := by
  obtain ⟨x0, x1, x2⟩ := x
  obtain ⟨y0, y1, y2⟩ := y
  by_cases h0 : x0 = y0 <;> by_cases h1 : x1 = y1 <;> by_cases h2 : x2 = y2 <;> simp [go_sem, h0, h1, h2] <;> simp_all [bytes_eq]

set_option maxHeartbeats 2000000 in
theorem sameMems_any (a a' : Option Addr) (cap cap' : Nat) (l m : List Mem) (w : World) (hl : l.length ≤ 9223372036854775807) (hm : m.length ≤ 9223372036854775807) (hc : Rd 3 encMem w a l) (hd : Rd 3 encMem w a' m) :
    Calls Try.prog 25 #[.slice a l.length cap, .slice a' m.length cap'] w (RetB (l = m) w) := by
  by_cases hlen : l.length = m.length
  · have ht : ((l.length : Int) != (m.length : Int)) = false := by simp; omega
    have Hlen := Lib.hid hlen
    clear hlen
    go_enter Try.func25, Try.ntmps25
    go_wp2
    go_loopw [5] (fun i wr => ∃ k : Nat, k ≤ l.length ∧ i = .int .i64 k ∧ (∀ j, j < k → l[j]? = m[j]?) ∧ Ext w wr) (fun i _ => l.length - (intOf i).toNat)
    case atStart => exact ⟨0, Nat.zero_le _, rfl, fun _ h => absurd h (Nat.not_lt_zero _), Ext.refl _⟩
    case round =>
      obtain ⟨k, hk, rfl, hpre, hb⟩ := hrel
      have Hpre := Lib.hid hpre
      clear hpre
      by_cases hlt : k < l.length
      · have hltm : k < m.length := by have := Hlen.out; omega
        obtain ⟨x, b, off, hx, rfl, c0, c1, c2⟩ := atMem (hc.ext hb) hlt
        obtain ⟨y, b', off', hy, rfl, d0, d1, d2⟩ := atMem (hd.ext hb) hltm
        have Hx := Lib.hid hx
        have Hy := Lib.hid hy
        clear hx hy ht
        by_cases hxy : x = y
        · subst hxy
          have e1 := neqMem_same x
          have e2 := fun w => guardMem .neq (.tmp 20) (.tmp 24) #[.int .i64 x.num, .int .i64 x.grp, .int .i64 x.ses] #[.int .i64 x.num, .int .i64 x.grp, .int .i64 x.ses] w
          go_wp2
          go_quiet (fail)
          clear e1 e2
          go_wp2
          go_roundw
          case rel => exact ⟨k + 1, by omega, by go_num, fun j hj => (Nat.lt_succ_iff_lt_or_eq.1 hj).elim (Hpre.out j) (fun e => by rw [e, Hx.out, Hy.out]), hb.drewN _⟩
          case measure => simp [intOf]; omega
        · have e1 := neqMem_other hxy
          have e2 := fun w => guardMem .neq (.tmp 20) (.tmp 24) #[.int .i64 x.num, .int .i64 x.grp, .int .i64 x.ses] #[.int .i64 y.num, .int .i64 y.grp, .int .i64 y.ses] w
          go_wp2
          go_quiet (fail)
          clear e1 e2
          go_wp2
          go_ret
          exact RetB.mk false rfl (by simp only [Bool.false_eq_true, false_iff]; intro h; subst h; have h1 := Hx.out; rw [Hy.out] at h1; cases h1; exact hxy rfl) (hb.drewN _)
      · go_wp2
        go_ret
        exact RetB.mk true rfl (by simp only [true_iff]; exact extMem Hlen.out (fun j hj => Hpre.out j (by omega))) hb
  · have ht : ((l.length : Int) != (m.length : Int)) = true := by simp; omega
    have Hlen := Lib.hid hlen
    clear hlen
    go_enter Try.func25, Try.ntmps25
    go_wp2
    go_ret
    exact RetB.mk false rfl (by simp only [Bool.false_eq_true, false_iff]; intro h; exact Hlen.out (by rw [h])) (Ext.refl _)

set_option maxHeartbeats 1000000 in
theorem cloneMem_any (a : Option Addr) (cap : Nat) (l : List Mem) (w : World) (hl : l.length ≤ 1048576) (hc : Rd 3 encMem w a l) :
    Calls Try.prog 44 #[.slice a l.length cap] w (RetV (fun v w' => w'.ownsRow w.heap.size 33 3 v l.length (l.flatMap encMem)) w) := by
  have hq := fun w a n c => Lib.run_eql_slice_nil (P := Try.prog) w 25 33 a n c 0 0 Try.underlying25
  cases a with
  | none =>
    have hnil : l = [] := by
      cases l with
      | nil => rfl
      | cons y l => obtain ⟨b, off, h0, _⟩ := hc 0 (by simp); cases h0
    subst hnil
    go_enter Try.func44, Try.ntmps44
    go_wp2
    go_ret
    exact RetV.mk (World.ownsRow_nil _ _ _ _) (Ext.refl _)
  | some a =>
    go_enter Try.func44, Try.ntmps44
    go_wp2_with (at_builtin; refine wpList_append_rd rfl _ _ 25 rfl w.heap.size 33 _ 3 _ Try.underlying25 infoMem rfl (by decide) encMem_len encMem_one _ 0 [] rfl (owns_lit_new [] encMem_len rfl rfl (by omega) (Nat.le_refl _)) rfl (some a) l.length cap l rfl rfl (hc.ext ((Ext.refl _).alloc _)) (by omega) (by omega) (by simp) ?_)
    intro v' w' hown hg
    go_wp2
    go_ret
    exact RetV.mk hown (((Ext.refl _).alloc _).grown hg (by intro k h; simp [Value.ownBlock] at h; omega))

def markMem (c : Int) : Mem := ⟨c, c + 1, c + 1 + 1⟩
def marksMem (n : Nat) (c : Int) : List Mem := (List.range n).map fun i : Nat => markMem (c + 3 * (i : Int))
theorem marksMem_len (n : Nat) (c : Int) : (marksMem n c).length = n := by simp [marksMem]
theorem marksMem_at (n : Nat) (c : Int) (i : Nat) (h : i < n) : (marksMem n c)[i]? = some (markMem (c + 3 * (i : Int))) := by simp [marksMem, h]
def mmixMem (L : List Mem) (c : Int) (i : Nat) : List Mem := marksMem i c ++ L.drop i
theorem mmixMem_len (L : List Mem) (c : Int) (i : Nat) (h : i ≤ L.length) : (mmixMem L c i).length = L.length := by simp [mmixMem, marksMem_len]; omega
theorem mmixMem_zero (L : List Mem) (c : Int) : mmixMem L c 0 = L := by simp [mmixMem, marksMem]
theorem mmixMem_full (L : List Mem) (c : Int) : mmixMem L c L.length = marksMem L.length c := by simp [mmixMem]
theorem mmixMem_set (L : List Mem) (c : Int) (i : Nat) (h : i < L.length) : (mmixMem L c i).set i (markMem (c + 3 * (i : Int))) = mmixMem L c (i + 1) := by
  unfold mmixMem
  rw [List.set_append, if_neg (by simp [marksMem_len]), marksMem_len, Nat.sub_self, List.drop_eq_getElem_cons h, List.set_cons_zero]
  simp [marksMem, List.range_succ]

set_option maxHeartbeats 1000000 in
theorem markMemS_any (base g cap : Nat) (L : List Mem) (c : Int) (w : World) (hl : L.length ≤ 1048576) (h0 : 0 ≤ c) (h1 : c ≤ 1000000000000)
    (hown : w.ownsRow base 33 3 (.slice (some ⟨g, 0, none⟩) L.length cap) L.length (L.flatMap encMem)) :
    Calls Try.prog 20 #[.slice (some ⟨g, 0, none⟩) L.length cap, .int .i64 c] w (RetMark (c + 3 * (L.length : Int)) (fun w' => w'.ownsRow base 33 3 (.slice (some ⟨g, 0, none⟩) L.length cap) L.length ((marksMem L.length c).flatMap encMem)) (some g) w) := by
  go_enter Try.func20, Try.ntmps20
  go_wp2
  go_loopw [1, 5] (fun q i wr => ∃ k : Nat, k ≤ L.length ∧ i = .int .i64 k ∧ q = .int .i64 (c + 3 * (k : Int)) ∧ wr.ownsRow base 33 3 (.slice (some ⟨g, 0, none⟩) L.length cap) L.length ((mmixMem L c k).flatMap encMem) ∧ w.grownBy wr (some g)) (fun _ i _ => L.length - (intOf i).toNat)
  case atStart => exact ⟨0, Nat.zero_le _, rfl, by simp, by rw [mmixMem_zero]; exact hown, World.grownBy.refl _ _⟩
  case round =>
    obtain ⟨k, hk, rfl, rfl, hownr, hg⟩ := hrel
    by_cases hlt : k < L.length
    · have hkm : k < (mmixMem L c k).length := by rw [mmixMem_len _ _ _ hk]; exact hlt
      have g0 : wr.cell? ⟨g, k * 3, none⟩ = some _ := owns_at encMem_len hownr k hkm 0 _ rfl
      have g1 : wr.cell? ⟨g, k * 3 + 1, none⟩ = some _ := owns_at encMem_len hownr k hkm 1 _ rfl
      have g2 : wr.cell? ⟨g, k * 3 + 2, none⟩ = some _ := owns_at encMem_len hownr k hkm 2 _ rfl
      have f0 := hownr.frozenAt
      go_wp2
      go_roundw
      case rel =>
        have h3 := owns_put encMem_len hownr k (markMem (c + 3 * (k : Int))) hkm
        rw [mmixMem_set L c k hlt] at h3
        exact ⟨k + 1, by omega, by go_num, by go_num, h3, grown_setCells (encMem (markMem (c + 3 * (k : Int)))) (k * 3) hg⟩
      case measure => simp [intOf]; omega
    · obtain rfl : k = L.length := by omega
      go_wp2
      go_ret
      rw [mmixMem_full] at hownr
      exact RetMark.mk rfl hownr hg

set_option maxHeartbeats 1000000 in
theorem markMemS_own (base : Nat) (v : Value) (n : Nat) (L : List Mem) (c : Int) (w : World) (hn : n = L.length) (hl : n ≤ 1048576) (h0 : 0 ≤ c) (h1 : c ≤ 1000000000000)
    (hown : w.ownsRow base 33 3 v n (L.flatMap encMem)) :
    Calls Try.prog 20 #[v, .int .i64 c] w (RetMark (c + 3 * (n : Int)) (fun w' => w'.ownsRow base 33 3 v n ((marksMem n c).flatMap encMem)) v.ownBlock w) := by
  subst hn
  rcases hown.2 with ⟨rfl, hz⟩ | ⟨g, cap, cur, rfl, _⟩
  · have hL : L = [] := List.eq_nil_of_length_eq_zero hz
    subst hL
    go_enter Try.func20, Try.ntmps20
    go_wp2
    refine wp_loop_rounds 1 ?_
    rw [rounds_succ]
    go_wp2
    go_ret
    exact RetMark.mk rfl hown (World.grownBy.refl _ _) (by simp)
  · exact markMemS_any base g cap L c w hl h0 h1 hown

set_option maxHeartbeats 1000000 in
theorem heldMemS_any (a : Option Addr) (cap n : Nat) (c : Int) (w : World) (hl : n ≤ 1048576) (h0 : 0 ≤ c) (h1 : c ≤ 1000000000000) (hc : Rd 3 encMem w a (marksMem n c)) :
    Calls Try.prog 21 #[.slice a n cap, .int .i64 c] w (RetI (c + 3 * (n : Int)) w) := by
  go_enter Try.func21, Try.ntmps21
  go_wp2
  go_loopw [1, 5] (fun q i wr => ∃ k : Nat, k ≤ n ∧ i = .int .i64 k ∧ q = .int .i64 (c + 3 * (k : Int)) ∧ Ext w wr) (fun _ i _ => n - (intOf i).toNat)
  case atStart => exact ⟨0, Nat.zero_le _, rfl, by simp, Ext.refl _⟩
  case round =>
    obtain ⟨k, hk, rfl, rfl, hb⟩ := hrel
    by_cases hlt : k < n
    · obtain ⟨x, b, off, hx, rfl, c0, c1, c2⟩ := atMem (hc.ext hb) (show k < (marksMem n c).length by rw [marksMem_len]; exact hlt)
      rw [marksMem_at n c k hlt] at hx
      cases hx
      simp only [markMem] at c0 c1 c2
      go_wp2
      go_roundw
      case rel => exact ⟨k + 1, by omega, by go_num, by go_num, hb⟩
      case measure => simp [intOf]; omega
    · obtain rfl : k = n := by omega
      go_wp2
      go_ret
      exact RetI.mk rfl hb

end Go.Proofs.Ytlmelknadappbaa
