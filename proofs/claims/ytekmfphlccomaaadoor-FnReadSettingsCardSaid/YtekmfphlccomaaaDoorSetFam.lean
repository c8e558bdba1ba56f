/- Setting: the cells of slices of it; contracts of the functions that read, copy, compare and mark them. No condition but that lists are shorter than 2^63. -/
import Derived.Test.YtekmfphlccomaaaDoorInts
import Derived.Test.YtekmfphlccomaaaDoorApp
import Derived.Test.YtekmfphlccomaaaDoorText
import Derived.Test.YtekmfphlccomaaaDoorOrd
namespace Go.Proofs.YtekmfphlccomaaaDoor
open Go.RowKit

structure Set where
  name : ByteArray
  text : ByteArray
def encSet (x : Set) : List Value := [.string x.name, .string x.text]
theorem encSet_len (x : Set) : (encSet x).length = 2 := rfl
theorem encSet_one (x : Set) : ∀ u ∈ encSet x, u.oneCell' = true := by simp [encSet, Value.oneCell']

theorem atSet {w : World} {a : Option Addr} {l : List Set} (h : Rd 2 encSet w a l) {k : Nat} (hk : k < l.length) :
    ∃ x b off, l[k]? = some x ∧ a = some ⟨b, off, none⟩ ∧ w.cell? ⟨b, off + k * 2, none⟩ = some (.string x.name) ∧ w.cell? ⟨b, off + k * 2 + 1, none⟩ = some (.string x.text) := by
  obtain ⟨b, off, ha, hc⟩ := h k hk
  exact ⟨l[k], b, off, List.getElem?_eq_getElem hk, ha, hc 0 _ rfl, hc 1 _ rfl⟩


theorem infoSet : (Tryd.prog.info? 40).map (fun i => (i.zero, i.size, i.bytes)) = some (some (.agg #[.string ByteArray.empty, .string ByteArray.empty]), 2, 32) := by kernel_rfl


theorem extSet {l m : List Set} (hl : l.length = m.length) (h : ∀ j, j < l.length → l[j]? = m[j]?) : l = m := by
  apply List.ext_getElem?
  intro j
  by_cases hj : j < l.length
  · exact h j hj
  · rw [List.getElem?_eq_none (by omega), List.getElem?_eq_none (by omega)]

set_option maxHeartbeats 1000000 in
theorem eqSet_any (x y : Set) (w : World) :
    Calls Tryd.prog 27 #[.agg #[.string x.name, .string x.text], .agg #[.string y.name, .string y.text]] w (RetB (x = y) w) := by
  obtain ⟨x0, x1⟩ := x
  obtain ⟨y0, y1⟩ := y
  go_enter Tryd.func27, Tryd.ntmps27
  go_wp2
  all_goals
    go_ret
    refine RetB.mk _ rfl ?_ (((Ext.refl _).alloc _).alloc _)
    simp_all [bytes_eq]

set_option maxHeartbeats 2000000 in
theorem eqSetS_any (a a' : Option Addr) (cap cap' : Nat) (l m : List Set) (w : World) (hl : l.length ≤ 9223372036854775807) (hm : m.length ≤ 9223372036854775807) (hc : Rd 2 encSet w a l) (hd : Rd 2 encSet w a' m) :
    Calls Tryd.prog 14 #[.slice a l.length cap, .slice a' m.length cap'] w (RetB (l = m) w) := by
  by_cases hlen : l.length = m.length
  · have ht : ((l.length : Int) != (m.length : Int)) = false := by simp; omega
    have Hlen := Lib.hid hlen
    clear hlen
    go_enter Tryd.func14, Tryd.ntmps14
    go_wp2
    go_loopw [5] (fun i wr => ∃ k : Nat, k ≤ l.length ∧ i = .int .i64 k ∧ (∀ j, j < k → l[j]? = m[j]?) ∧ Ext w wr) (fun i _ => l.length - (intOf i).toNat)
    case atStart => exact ⟨0, Nat.zero_le _, rfl, fun _ h => absurd h (Nat.not_lt_zero _), Ext.refl _⟩
    case round =>
      obtain ⟨k, hk, rfl, hpre, hb⟩ := hrel
      have Hpre := Lib.hid hpre
      clear hpre
      by_cases hlt : k < l.length
      · have hltm : k < m.length := by have := Hlen.out; omega
        obtain ⟨x, b, off, hx, rfl, c0, c1⟩ := atSet (hc.ext hb) hlt
        obtain ⟨y, b', off', hy, rfl, d0, d1⟩ := atSet (hd.ext hb) hltm
        have Hx := Lib.hid hx
        have Hy := Lib.hid hy
        clear hx hy ht
        go_wp2
        go_still_tail 8, (by kernel_rfl)
        change wpList _ _ _ _ _ wr.drew
        generalize hw2 : wr.drew = w2
        have hb2 : Ext w w2 := by rw [← hw2]; exact hb.drew
        clear hw2 hb c0 d0 c1 d1
        go_wp2_with (go_at_call 27; refine (eqSet_any x y _).mono ?_; rintro e w3 ⟨b0, rfl, he, hb3⟩; have He := Lib.hid he; clear he)
        · have hb0 : (!b0) = true := by assumption
          go_ret
          exact RetB.mk false rfl (by simp only [Bool.false_eq_true, false_iff]; intro h; subst h; have h1 := Hx.out; rw [Hy.out] at h1; cases h1; rw [He.out.2 rfl] at hb0; cases hb0) (hb2.trans hb3)
        · have hb0 : (!b0) = false := by assumption
          have hxy : x = y := He.out.1 (by simpa using hb0)
          go_roundw
          case rel => exact ⟨k + 1, by omega, by go_num, fun j hj => (Nat.lt_succ_iff_lt_or_eq.1 hj).elim (Hpre.out j) (fun e => by rw [e, Hx.out, Hy.out, hxy]), hb2.trans hb3⟩
          case measure => simp [intOf]; omega
      · go_wp2
        go_ret
        exact RetB.mk true rfl (by simp only [true_iff]; exact extSet Hlen.out (fun j hj => Hpre.out j (by omega))) hb
  · have ht : ((l.length : Int) != (m.length : Int)) = true := by simp; omega
    have Hlen := Lib.hid hlen
    clear hlen
    go_enter Tryd.func14, Tryd.ntmps14
    go_wp2
    go_ret
    exact RetB.mk false rfl (by simp only [Bool.false_eq_true, false_iff]; intro h; exact Hlen.out (by rw [h])) (Ext.refl _)

theorem guardSet (op : BinOp) (p q : Operand) (x y : Array Value) (w : World) : (eqGuard op 40 p q (.agg x) (.agg y)).run Tryd.prog w = .ok () w := run_eqGuard_agg w op 40 p q _ _ (by kernel_rfl)
theorem neqSet_same (x : Set) (w : World) : (binOp .neq 40 (.agg #[.string x.name, .string x.text]) (.agg #[.string x.name, .string x.text])).run Tryd.prog w = .ok (.bool false) w := by
  simp [go_sem]
theorem neqSet_other {x y : Set} (h : x ≠ y) (w : World) : (binOp .neq 40 (.agg #[.string x.name, .string x.text]) (.agg #[.string y.name, .string y.text])).run Tryd.prog w = .ok (.bool true) w := by
  obtain ⟨x0, x1⟩ := x
  obtain ⟨y0, y1⟩ := y
  by_cases h0 : x0 = y0 <;> by_cases h1 : x1 = y1 <;> simp [go_sem, h0, h1] <;> simp_all [bytes_eq]
theorem eqlSet_same (x : Set) (w : World) : (binOp .eql 40 (.agg #[.string x.name, .string x.text]) (.agg #[.string x.name, .string x.text])).run Tryd.prog w = .ok (.bool true) w := by
  simp [go_sem]
theorem eqlSet_other {x y : Set} (h : x ≠ y) (w : World) : (binOp .eql 40 (.agg #[.string x.name, .string x.text]) (.agg #[.string y.name, .string y.text])).run Tryd.prog w = .ok (.bool false) w := by
  obtain ⟨x0, x1⟩ := x
  obtain ⟨y0, y1⟩ := y
  by_cases h0 : x0 = y0 <;> by_cases h1 : x1 = y1 <;> simp [go_sem, h0, h1] <;> simp_all [bytes_eq]

set_option maxHeartbeats 2000000 in
theorem sameSets_any (a a' : Option Addr) (cap cap' : Nat) (l m : List Set) (w : World) (hl : l.length ≤ 9223372036854775807) (hm : m.length ≤ 9223372036854775807) (hc : Rd 2 encSet w a l) (hd : Rd 2 encSet w a' m) :
    Calls Tryd.prog 12 #[.slice a l.length cap, .slice a' m.length cap'] w (RetB (l = m) w) := by
  by_cases hlen : l.length = m.length
  · have ht : ((l.length : Int) != (m.length : Int)) = false := by simp; omega
    have Hlen := Lib.hid hlen
    clear hlen
    go_enter Tryd.func12, Tryd.ntmps12
    go_wp2
    go_loopw [5] (fun i wr => ∃ k : Nat, k ≤ l.length ∧ i = .int .i64 k ∧ (∀ j, j < k → l[j]? = m[j]?) ∧ Ext w wr) (fun i _ => l.length - (intOf i).toNat)
    case atStart => exact ⟨0, Nat.zero_le _, rfl, fun _ h => absurd h (Nat.not_lt_zero _), Ext.refl _⟩
    case round =>
      obtain ⟨k, hk, rfl, hpre, hb⟩ := hrel
      have Hpre := Lib.hid hpre
      clear hpre
      by_cases hlt : k < l.length
      · have hltm : k < m.length := by have := Hlen.out; omega
        obtain ⟨x, b, off, hx, rfl, c0, c1⟩ := atSet (hc.ext hb) hlt
        obtain ⟨y, b', off', hy, rfl, d0, d1⟩ := atSet (hd.ext hb) hltm
        have Hx := Lib.hid hx
        have Hy := Lib.hid hy
        clear hx hy ht
        by_cases hxy : x = y
        · subst hxy
          have e1 := neqSet_same x
          have e2 := fun w => guardSet .neq (.tmp 20) (.tmp 24) #[.string x.name, .string x.text] #[.string x.name, .string x.text] w
          go_wp2
          go_quiet (fail)
          clear e1 e2
          go_wp2
          go_roundw
          case rel => exact ⟨k + 1, by omega, by go_num, fun j hj => (Nat.lt_succ_iff_lt_or_eq.1 hj).elim (Hpre.out j) (fun e => by rw [e, Hx.out, Hy.out]), hb.drewN _⟩
          case measure => simp [intOf]; omega
        · have e1 := neqSet_other hxy
          have e2 := fun w => guardSet .neq (.tmp 20) (.tmp 24) #[.string x.name, .string x.text] #[.string y.name, .string y.text] w
          go_wp2
          go_quiet (fail)
          clear e1 e2
          go_wp2
          go_ret
          exact RetB.mk false rfl (by simp only [Bool.false_eq_true, false_iff]; intro h; subst h; have h1 := Hx.out; rw [Hy.out] at h1; cases h1; exact hxy rfl) (hb.drewN _)
      · go_wp2
        go_ret
        exact RetB.mk true rfl (by simp only [true_iff]; exact extSet Hlen.out (fun j hj => Hpre.out j (by omega))) hb
  · have ht : ((l.length : Int) != (m.length : Int)) = true := by simp; omega
    have Hlen := Lib.hid hlen
    clear hlen
    go_enter Tryd.func12, Tryd.ntmps12
    go_wp2
    go_ret
    exact RetB.mk false rfl (by simp only [Bool.false_eq_true, false_iff]; intro h; exact Hlen.out (by rw [h])) (Ext.refl _)


end Go.Proofs.YtekmfphlccomaaaDoor
