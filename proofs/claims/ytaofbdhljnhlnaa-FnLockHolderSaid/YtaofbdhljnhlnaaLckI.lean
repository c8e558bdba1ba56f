/- Locks: the program's LocksValid. No condition but that the list is shorter than 2^63. -/
import Derived.Test.YtaofbdhljnhlnaaLckV
import Derived.Test.YtaofbdhljnhlnaaLckAny
namespace Go.Proofs.Ytaofbdhljnhlnaa
open Go.RowKit

set_option maxHeartbeats 1000000 in
theorem lockValid_any (x : Lck) (w : World) :
    Calls Try.prog 33 #[.agg #[.int .i64 x.who, .int .i64 x.f, .int .i64 x.t, .bool x.alone]] w (RetB (okLck x) w) := by
  by_cases h0 : 1 ≤ x.who ∧ x.who ≤ 99
  · have e0 : inB x.who 1 99 = true := inB_iff.2 h0
    by_cases h1 : 0 ≤ x.f ∧ x.f ≤ 39
    · have e1 : inB x.f 0 39 = true := inB_iff.2 h1
      obtain ⟨h1, h1'⟩ := h1
      go_enter Try.func33, Try.ntmps33
      go_wp2_with (first | (go_at_call 44; refine (within_any _ _ _ _).mono ?_; rintro e w' ⟨rfl, rfl⟩) | (go_at_call 47; refine (isProcess_any _ _).mono ?_; rintro e w' ⟨rfl, rfl⟩))
      go_ret
      exact RetB.mk (inB x.t (x.f + 1) 40) (by simp) (by rw [inB_iff]; unfold okLck; omega) ((Ext.refl _).alloc _)
    · have e1 : inB x.f 0 39 = false := inB_false h1
      go_enter Try.func33, Try.ntmps33
      go_wp2_with (first | (go_at_call 44; refine (within_any _ _ _ _).mono ?_; rintro e w' ⟨rfl, rfl⟩) | (go_at_call 47; refine (isProcess_any _ _).mono ?_; rintro e w' ⟨rfl, rfl⟩))
      go_ret
      exact RetB.mk false rfl (by simp only [Bool.false_eq_true, false_iff]; unfold okLck; omega) ((Ext.refl _).alloc _)
  · have e0 : inB x.who 1 99 = false := inB_false h0
    go_enter Try.func33, Try.ntmps33
    go_wp2_with (first | (go_at_call 44; refine (within_any _ _ _ _).mono ?_; rintro e w' ⟨rfl, rfl⟩) | (go_at_call 47; refine (isProcess_any _ _).mono ?_; rintro e w' ⟨rfl, rfl⟩))
    go_ret
    exact RetB.mk false rfl (by simp only [Bool.false_eq_true, false_iff]; unfold okLck; omega) ((Ext.refl _).alloc _)

set_option maxHeartbeats 1000000 in
theorem lockClash_any (y : Lck) (c : Nat) (x : Lck) (w : World) (m0 : w.cell? ⟨c, 0, none⟩ = some (.int .i64 y.who)) (m1 : w.cell? ⟨c, 1, none⟩ = some (.int .i64 y.f)) (m2 : w.cell? ⟨c, 2, none⟩ = some (.int .i64 y.t)) (m3 : w.cell? ⟨c, 3, none⟩ = some (.bool y.alone)) :
    Calls Try.prog 35 #[.agg #[.int .i64 x.who, .int .i64 x.f, .int .i64 x.t, .bool x.alone], .pointer (some ⟨c, 0, none⟩)] w (RetB (clash x y) w) := by
  have hc := World.block_lt_of_cell? w ⟨c, 0, none⟩ m0
  have hne : c ≠ w.heap.size := Nat.ne_of_lt hc
  have hne' : w.heap.size ≠ c := Ne.symm hne
  go_enter Try.func35, Try.ntmps35
  go_wp2_with fail
  refine (meets_any _ _ _ _ _ _ _ _ _).mono ?_
  rintro e w2 ⟨b0, rfl, he, hb2⟩
  have n0 : (w.alloc (.cells #[.int .i64 x.who, .int .i64 x.f, .int .i64 x.t, .bool x.alone] 32)).cell? ⟨w.heap.size, 0, none⟩ = some (.int .i64 x.who) := by simp
  have n3 : (w.alloc (.cells #[.int .i64 x.who, .int .i64 x.f, .int .i64 x.t, .bool x.alone] 32)).cell? ⟨w.heap.size, 3, none⟩ = some (.bool x.alone) := by simp
  have E : Ext w (w.alloc (.cells #[.int .i64 x.who, .int .i64 x.f, .int .i64 x.t, .bool x.alone] 32)) := (Ext.refl _).alloc _
  replace m0 := cell_ext (E.trans hb2) m0
  replace m3 := cell_ext (E.trans hb2) m3
  replace n0 := cell_ext hb2 n0
  replace n3 := cell_ext hb2 n3
  replace E := E.trans hb2
  have He := Lib.hid he
  clear he m1 m2 hb2
  cases b0 with
  | false =>
    go_wp2
    go_ret
    exact RetB.mk false rfl (by simp only [Bool.false_eq_true, false_iff]; exact fun h => Bool.noConfusion (He.out.2 ⟨h.1.2, h.1.1⟩)) E
  | true =>
    have hm := He.out.1 rfl
    by_cases h1 : y.who = x.who
    · have t1 : (y.who == x.who) = true := by simpa using h1
      have hcl : clash x y := ⟨⟨hm.2, hm.1⟩, .inl h1.symm⟩
      clear hm h1
      go_wp2
      go_ret
      exact RetB.mk true rfl (by simp only [true_iff]; exact hcl) E
    · have t1 : (y.who == x.who) = false := by simpa using h1
      by_cases h2 : y.alone = true
      · have hcl : clash x y := ⟨⟨hm.2, hm.1⟩, .inr (.inr h2)⟩
        clear hm
        go_wp2
        go_ret
        exact RetB.mk true rfl (by simp only [true_iff]; exact hcl) E
      · have h2' : y.alone = false := by simpa using h2
        have hcl : x.alone = true ↔ clash x y := ⟨fun h => ⟨⟨hm.2, hm.1⟩, .inr (.inl h)⟩, fun h => (h.2.resolve_left (Ne.symm h1)).resolve_right h2⟩
        have Hcl := Lib.hid hcl
        clear hm hcl h2
        go_wp2
        go_ret
        exact RetB.mk x.alone (by simp) Hcl.out E

theorem lckClash_call (args : Array Value) (w : World) : (callFunc 35 args).run Try.prog w = .ok (.enter 35 args) w := by
  simp [go_sem]

set_option maxHeartbeats 2000000 in
theorem implLocksValid (a : Option Addr) (cap : Nat) (l : List Lck) (w : World) (hl : l.length ≤ 9223372036854775807) (hcap : l.length ≤ cap) (hc : Rd 4 encLck w a l) :
    Calls Try.prog 14 #[.slice a l.length cap] w (RetB (LocksOk l) w) := by
  go_enter Try.func14, Try.ntmps14
  go_wp2
  go_loopw [3, 4, 7] (fun _ _ i wr => ∃ k : Nat, k ≤ l.length ∧ i = .int .i64 k ∧ (∀ j, j < k → LOkAt l j) ∧ Ext w wr) (fun _ _ i _ => l.length - (intOf i).toNat)
  case atStart => exact ⟨0, Nat.zero_le _, rfl, fun _ h => absurd h (Nat.not_lt_zero _), Ext.refl _⟩
  case round =>
    obtain ⟨k, hk, rfl, hpre, hb⟩ := hrel
    have Hpre := Lib.hid hpre
    clear hpre
    by_cases hlt : k < l.length
    · obtain ⟨x, b, off, hx, rfl, c0, c1, c2, c3⟩ := atLck (hc.ext hb) hlt
      have Hx := Lib.hid hx
      clear hx
      go_wp2_with fail
      refine (lockValid_any x _).mono ?_
      rintro e w2 ⟨b0, rfl, he, hb2⟩
      have He := Lib.hid he
      clear he
      cases b0 with
      | false =>
        go_wp2
        go_ret
        exact RetB.mk false rfl (lcks_bad Hx.out (fun h => Bool.noConfusion (He.out.2 h)) rfl) ((hb.alloc _).trans hb2)
      | true =>
        have hok := He.out.1 rfl
        obtain ⟨n0, n1, n2, n3⟩ : w2.cell? ⟨wr.heap.size, 0, none⟩ = some (.int .i64 x.who) ∧ w2.cell? ⟨wr.heap.size, 1, none⟩ = some (.int .i64 x.f) ∧ w2.cell? ⟨wr.heap.size, 2, none⟩ = some (.int .i64 x.t) ∧ w2.cell? ⟨wr.heap.size, 3, none⟩ = some (.bool x.alone) := ⟨cell_ext hb2 (by simp), cell_ext hb2 (by simp), cell_ext hb2 (by simp), cell_ext hb2 (by simp)⟩
        replace hb2 := (hb.alloc _).trans hb2
        have i0 : (0 : Int) ≤ (k : Int) := by omega
        have i1 : k ≤ cap := by omega
        have Hok := Lib.hid hok
        clear hok He c0 c1 c2 c3
        go_wp2_with fail
        have hfn : ∀ (p : Lck) w', Ext w2 w' → Calls Try.prog 35 (#[.agg #[.int .i64 p.who, .int .i64 p.f, .int .i64 p.t, .bool p.alone]] ++ #[.pointer (some ⟨wr.heap.size, 0, none⟩)]) w' (RetB (clash p x) w') := fun p w' hw' => by
          rw [app1]
          exact lockClash_any x wr.heap.size p w' (cell_ext hw' n0) (cell_ext hw' n1) (cell_ext hw' n2) (cell_ext hw' n3)
        have hlk : k = (l.take k).length := by simp; omega
        have hrk := (hc.ext hb2).take k
        have hll : (l.take k).length ≤ 9223372036854775807 := by simp; omega
        (with_reducible refine (hasLck_fn (some ⟨b, off, none⟩) _ k (l.take k) w2 35 #[.pointer (some ⟨wr.heap.size, 0, none⟩)] (fun p => clash p x) hlk hll hrk lckClash_call hfn).mono ?_)
        clear hlk hll hrk hfn
        rintro e w3 ⟨b1, rfl, he, hb3⟩
        have He := Lib.hid he
        clear he n0 n1 n2 n3
        cases b1 with
        | true =>
          have Hx2 := Lib.hid (He.out.1 rfl)
          go_wp2
          go_ret
          refine RetB.mk false rfl ?_ (hb2.trans hb3)
          obtain ⟨j, p, hp, hcl⟩ := Hx2.out
          rw [List.getElem?_take] at hp
          split at hp
          · rename_i hjk
            exact lcks_bad2 Hx.out hjk hp hcl rfl
          · cases hp
        | false =>
          have Hx2 := Lib.hid (fun h => Bool.noConfusion (He.out.2 h) : ¬ _)
          go_wp2
          go_roundw
          case rel =>
            refine ⟨k + 1, by omega, by go_num, lcks_next Hpre.out Hx.out Hok.out (fun j p hj hp hcl => Hx2.out ⟨j, p, ?_, hcl⟩), hb2.trans hb3⟩
            rw [List.getElem?_take, if_pos hj]
            exact hp
          case measure => simp [intOf]; omega
    · go_wp2
      go_ret
      exact RetB.mk _ rfl (lcks_end Hpre.out (by omega) (by simp; omega)) hb
end Go.Proofs.Ytaofbdhljnhlnaa
