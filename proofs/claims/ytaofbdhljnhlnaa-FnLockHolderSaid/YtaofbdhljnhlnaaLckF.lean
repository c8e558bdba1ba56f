/- Freeing bytes: what is left of locks; contracts of l32Free and freeBytes. Condition: lists of at most 2^20. -/
import Derived.Test.YtaofbdhljnhlnaaLckH
import Derived.Test.YtaofbdhljnhlnaaApp
import Derived.Deep.Cut
namespace Go.Proofs.Ytaofbdhljnhlnaa
open Go.RowKit

def cutL (who f t : Int) (x : Lck) : List Lck := if x.who = who ∧ x.f < t ∧ f < x.t then (if x.f < f then [⟨who, x.f, f, x.alone⟩] else []) ++ (if t < x.t then [⟨who, t, x.t, x.alone⟩] else []) else [x]
def freeL (l : List Lck) (who f t : Int) : List Lck := l.flatMap (cutL who f t)
theorem cutL_le (who f t : Int) (x : Lck) : (cutL who f t x).length ≤ 2 := by
  unfold cutL
  split
  · split <;> split <;> simp
  · simp
theorem freeL_le (who f t : Int) : ∀ l : List Lck, (freeL l who f t).length ≤ 2 * l.length
  | [] => by simp [freeL]
  | x :: l => by
    have h1 := freeL_le who f t l
    have h2 := cutL_le who f t x
    simp only [freeL, List.flatMap_cons, List.length_append, List.length_cons] at h1 ⊢
    omega
theorem freeL_step {l : List Lck} {k : Nat} {x : Lck} (who f t : Int) (hx : l[k]? = some x) : freeL (l.take (k + 1)) who f t = freeL (l.take k) who f t ++ cutL who f t x := by
  rw [List.take_add_one, hx]
  simp [freeL]
theorem cut_keep {who f t : Int} {x : Lck} (h : ¬ (x.who = who ∧ x.f < t ∧ f < x.t)) : cutL who f t x = [x] := by simp only [cutL, if_neg h]
theorem cell_grown {w w' : World} {row : Option Nat} {b o : Nat} {v : Value} (h : w.grownBy w' row) (hne : some b ≠ row) (hc : w.cell? ⟨b, o, none⟩ = some v) : w'.cell? ⟨b, o, none⟩ = some v := by
  have hlt := World.block_lt_of_cell? w ⟨b, o, none⟩ hc
  rw [World.cell?_of_block (w := w) (h.block b hlt hne)]; exact hc

theorem cell_new1 (w : World) (C : Array Value) (t : TypeId) (o : Nat) (v : Value) (h : C[o]? = some v) : (w.alloc (.cells C t)).cell? ⟨w.heap.size, o, none⟩ = some v := by simp only [World.cell?, heap_alloc_new]; simpa using h
theorem size_new' (w : World) (o : Obj) : w.heap.size < (w.alloc o).heap.size := by simp

set_option maxHeartbeats 4000000 in
theorem specFree (a : Option Addr) (cap : Nat) (l : List Lck) (who f t : Int) (w : World) (hl : l.length ≤ 1048576) (hc : Rd 4 encLck w a l) :
    Calls Try.prog 43 #[.slice a l.length cap, .int .i64 who, .int .i64 f, .int .i64 t] w (RetV (fun v w' => w'.ownsRow w.heap.size 32 4 v (freeL l who f t).length ((freeL l who f t).flatMap encLck)) w) := by
  go_enter Try.func43, Try.ntmps43
  go_wp2
  have E0 := (Ext.refl w).alloc (.cells #[] 32)
  have hown : (w.alloc (.cells #[] 32)).ownsRow w.heap.size 32 4 (.slice (some ⟨w.heap.size, 0, none⟩) 0 0) 0 (([] : List Lck).flatMap encLck) := owns_lit_new [] encLck_len rfl rfl (by omega) (Nat.le_refl _)
  generalize (w.alloc (.cells #[] 32)) = w0 at *
  go_loopw [9, 10, 11] (fun vo i _ wr => ∃ k : Nat, k ≤ l.length ∧ i = .int .i64 k ∧ wr.ownsRow w.heap.size 32 4 vo (freeL (l.take k) who f t).length ((freeL (l.take k) who f t).flatMap encLck) ∧ Ext w wr) (fun _ i _ _ => l.length - (intOf i).toNat)
  case atStart => exact ⟨0, Nat.zero_le _, rfl, by simpa [freeL] using hown, E0⟩
  case round =>
    obtain ⟨k, hk, rfl, hown, hb⟩ := hrel
    by_cases hlt : k < l.length
    · obtain ⟨x, b, off, hx, rfl, c0, c1, c2, c3⟩ := atLck (hc.ext hb) hlt
      have Hst := Lib.hid (freeL_step who f t hx)
      have hfl := freeL_le who f t (l.take k)
      rw [List.length_take] at hfl
      obtain ⟨L, hL⟩ : ∃ L, L = freeL (l.take k) who f t := ⟨_, rfl⟩
      rw [← hL] at hown hfl Hst
      clear hL hx
      have hob := fun i h => (hown.lt i h).2
      have Hob := Lib.hid hob
      clear hob
      have hE1 := hb.alloc (.cells #[.int .i64 x.who, .int .i64 x.f, .int .i64 x.t, .bool x.alone] 32)
      have hbl := size_new' wr (.cells #[.int .i64 x.who, .int .i64 x.f, .int .i64 x.t, .bool x.alone] 32)
      have n0 := cell_new1 wr #[.int .i64 x.who, .int .i64 x.f, .int .i64 x.t, .bool x.alone] 32 0 (.int .i64 x.who) rfl
      have n1 := cell_new1 wr #[.int .i64 x.who, .int .i64 x.f, .int .i64 x.t, .bool x.alone] 32 1 (.int .i64 x.f) rfl
      have n2 := cell_new1 wr #[.int .i64 x.who, .int .i64 x.f, .int .i64 x.t, .bool x.alone] 32 2 (.int .i64 x.t) rfl
      have n3 := cell_new1 wr #[.int .i64 x.who, .int .i64 x.f, .int .i64 x.t, .bool x.alone] 32 3 (.bool x.alone) rfl
      have hown1 := ownsRow_ext hown ((Ext.refl wr).alloc (.cells #[.int .i64 x.who, .int .i64 x.f, .int .i64 x.t, .bool x.alone] 32))
      by_cases hw : x.who = who
      · have tw : (x.who != who) = false := by simpa using hw
        have Hw := Lib.hid hw
        clear hw
        go_wp2_with fail
        generalize (wr.alloc (.cells #[.int .i64 x.who, .int .i64 x.f, .int .i64 x.t, .bool x.alone] 32)) = w1 at *
        refine (l32Meet_any _ _ _ _ _ _ _ _ _).mono ?_
        rintro e w2 ⟨b0, rfl, hm, hb2⟩
        replace n0 := cell_ext hb2 n0
        replace n1 := cell_ext hb2 n1
        replace n2 := cell_ext hb2 n2
        replace n3 := cell_ext hb2 n3
        replace hown1 := ownsRow_ext hown1 hb2
        replace hE1 := hE1.trans hb2
        clear hb2 hbl c0 c1 c2 c3
        cases b0 with
        | false =>
          have Hcut := Lib.hid (cut_keep (who := who) (f := f) (t := t) (x := x) (fun h => Bool.noConfusion (hm.2 h.2)))
          clear hm

          have rdm5 : Rd 4 encLck (w2.alloc (.cells #[.int .i64 x.who, .int .i64 x.f, .int .i64 x.t, .bool x.alone] 32)) (some ⟨w2.heap.size, 0, none⟩) [(⟨x.who, x.f, x.t, x.alone⟩ : Lck)] := rd_lit_new [(⟨x.who, x.f, x.t, x.alone⟩ : Lck)] encLck_len rfl
          have ho5 := ownsRow_ext hown1 ((Ext.refl w2).alloc (.cells #[.int .i64 x.who, .int .i64 x.f, .int .i64 x.t, .bool x.alone] 32))
          have hE5 := hE1.alloc (.cells #[.int .i64 x.who, .int .i64 x.f, .int .i64 x.t, .bool x.alone] 32)
          go_wp2_with (at_builtin; refine wpList_append_rd rfl _ _ 25 rfl w.heap.size 32 _ 4 _ Try.underlying25 infoLck rfl (by decide) encLck_len encLck_one _ L.length L rfl ho5 rfl _ 1 1 [(⟨x.who, x.f, x.t, x.alone⟩ : Lck)] rfl rfl rdm5 (by omega) (by omega) hE5.size ?_)
          intro v5 w5 how5 hg5
          replace hE5 : Ext w w5 := hE5.grown hg5 (fun k h => (ho5.lt k h).1)
          replace how5 : w5.ownsRow w.heap.size 32 4 v5 (L ++ [(⟨x.who, x.f, x.t, x.alone⟩ : Lck)]).length ((L ++ [(⟨x.who, x.f, x.t, x.alone⟩ : Lck)]).flatMap encLck) := by simpa using how5
          obtain ⟨L5, hL5⟩ : ∃ q, q = L ++ [(⟨x.who, x.f, x.t, x.alone⟩ : Lck)] := ⟨_, rfl⟩
          rw [← hL5] at how5
          have hfl5 : L5.length ≤ L.length + 1 := by rw [hL5]; simp
          have HL5 := Lib.hid hL5
          have how5 := Lib.hid how5
          clear hL5
          clear rdm5 ho5 hg5
          go_wp2
          go_roundw
          case rel => exact ⟨k + 1, by omega, by go_num, by rw [Hst.out, Hcut.out, ← HL5.out]; exact how5.out, hE5⟩
          case measure => simp [intOf]; omega
        | true =>
          have Hm := Lib.hid (And.intro Hw.out (hm.1 rfl))
          clear hm
          by_cases h1 : x.f < f
          · by_cases h2 : t < x.t
            · have Hcut : Hid (cutL who f t x = [(⟨who, x.f, f, x.alone⟩ : Lck)] ++ [(⟨who, t, x.t, x.alone⟩ : Lck)]) := Lib.hid (by simp only [cutL, if_pos Hm.out, if_pos h1, if_pos h2])
              have rdm5 : Rd 4 encLck (w2.alloc (.cells #[.int .i64 who, .int .i64 x.f, .int .i64 f, .bool x.alone] 32)) (some ⟨w2.heap.size, 0, none⟩) [(⟨who, x.f, f, x.alone⟩ : Lck)] := rd_lit_new [(⟨who, x.f, f, x.alone⟩ : Lck)] encLck_len rfl
              have ho5 := ownsRow_ext hown1 ((Ext.refl w2).alloc (.cells #[.int .i64 who, .int .i64 x.f, .int .i64 f, .bool x.alone] 32))
              have hE5 := hE1.alloc (.cells #[.int .i64 who, .int .i64 x.f, .int .i64 f, .bool x.alone] 32)
              go_wp2_with (at_builtin; refine wpList_append_rd rfl _ _ 25 rfl w.heap.size 32 _ 4 _ Try.underlying25 infoLck rfl (by decide) encLck_len encLck_one _ L.length L rfl ho5 rfl _ 1 1 [(⟨who, x.f, f, x.alone⟩ : Lck)] rfl rfl rdm5 (by omega) (by omega) hE5.size ?_)
              intro v5 w5 how5 hg5
              replace hE5 : Ext w w5 := hE5.grown hg5 (fun k h => (ho5.lt k h).1)
              replace how5 : w5.ownsRow w.heap.size 32 4 v5 (L ++ [(⟨who, x.f, f, x.alone⟩ : Lck)]).length ((L ++ [(⟨who, x.f, f, x.alone⟩ : Lck)]).flatMap encLck) := by simpa using how5
              obtain ⟨L5, hL5⟩ : ∃ q, q = L ++ [(⟨who, x.f, f, x.alone⟩ : Lck)] := ⟨_, rfl⟩
              rw [← hL5] at how5
              have hfl5 : L5.length ≤ L.length + 1 := by rw [hL5]; simp
              have HL5 := Lib.hid hL5
              have how5 := Lib.hid how5
              clear hL5
              replace n0 := cell_grown hg5 (by intro e; have := Hob.out _ e.symm; omega) (cell_ext ((Ext.refl w2).alloc (.cells #[.int .i64 who, .int .i64 x.f, .int .i64 f, .bool x.alone] 32)) n0)
              replace n1 := cell_grown hg5 (by intro e; have := Hob.out _ e.symm; omega) (cell_ext ((Ext.refl w2).alloc (.cells #[.int .i64 who, .int .i64 x.f, .int .i64 f, .bool x.alone] 32)) n1)
              replace n2 := cell_grown hg5 (by intro e; have := Hob.out _ e.symm; omega) (cell_ext ((Ext.refl w2).alloc (.cells #[.int .i64 who, .int .i64 x.f, .int .i64 f, .bool x.alone] 32)) n2)
              replace n3 := cell_grown hg5 (by intro e; have := Hob.out _ e.symm; omega) (cell_ext ((Ext.refl w2).alloc (.cells #[.int .i64 who, .int .i64 x.f, .int .i64 f, .bool x.alone] 32)) n3)
              clear rdm5 ho5 hg5
              have rdm6 : Rd 4 encLck (w5.alloc (.cells #[.int .i64 who, .int .i64 t, .int .i64 x.t, .bool x.alone] 32)) (some ⟨w5.heap.size, 0, none⟩) [(⟨who, t, x.t, x.alone⟩ : Lck)] := rd_lit_new [(⟨who, t, x.t, x.alone⟩ : Lck)] encLck_len rfl
              have ho6 := ownsRow_ext how5.out ((Ext.refl w5).alloc (.cells #[.int .i64 who, .int .i64 t, .int .i64 x.t, .bool x.alone] 32))
              have hE6 := hE5.alloc (.cells #[.int .i64 who, .int .i64 t, .int .i64 x.t, .bool x.alone] 32)
              go_wp2_with (at_builtin; refine wpList_append_rd rfl _ _ 25 rfl w.heap.size 32 _ 4 _ Try.underlying25 infoLck rfl (by decide) encLck_len encLck_one _ L5.length L5 rfl ho6 rfl _ 1 1 [(⟨who, t, x.t, x.alone⟩ : Lck)] rfl rfl rdm6 (by omega) (by omega) hE6.size ?_)
              intro v6 w6 how6 hg6
              replace hE6 : Ext w w6 := hE6.grown hg6 (fun k h => (ho6.lt k h).1)
              replace how6 : w6.ownsRow w.heap.size 32 4 v6 (L5 ++ [(⟨who, t, x.t, x.alone⟩ : Lck)]).length ((L5 ++ [(⟨who, t, x.t, x.alone⟩ : Lck)]).flatMap encLck) := by simpa using how6
              obtain ⟨L6, hL6⟩ : ∃ q, q = L5 ++ [(⟨who, t, x.t, x.alone⟩ : Lck)] := ⟨_, rfl⟩
              rw [← hL6] at how6
              have hfl6 : L6.length ≤ L5.length + 1 := by rw [hL6]; simp
              have HL6 := Lib.hid hL6
              have how6 := Lib.hid how6
              clear hL6
              clear rdm6 ho6 hg6
              go_wp2
              go_roundw
              case rel => exact ⟨k + 1, by omega, by go_num, by rw [Hst.out, Hcut.out, ← List.append_assoc, ← HL5.out, ← HL6.out]; exact how6.out, hE6⟩
              case measure => simp [intOf]; omega
            · have Hcut : Hid (cutL who f t x = [⟨who, x.f, f, x.alone⟩]) := Lib.hid (by simp only [cutL, if_pos Hm.out, if_pos h1, if_neg h2, List.append_nil])
              have rdm5 : Rd 4 encLck (w2.alloc (.cells #[.int .i64 who, .int .i64 x.f, .int .i64 f, .bool x.alone] 32)) (some ⟨w2.heap.size, 0, none⟩) [(⟨who, x.f, f, x.alone⟩ : Lck)] := rd_lit_new [(⟨who, x.f, f, x.alone⟩ : Lck)] encLck_len rfl
              have ho5 := ownsRow_ext hown1 ((Ext.refl w2).alloc (.cells #[.int .i64 who, .int .i64 x.f, .int .i64 f, .bool x.alone] 32))
              have hE5 := hE1.alloc (.cells #[.int .i64 who, .int .i64 x.f, .int .i64 f, .bool x.alone] 32)
              go_wp2_with (at_builtin; refine wpList_append_rd rfl _ _ 25 rfl w.heap.size 32 _ 4 _ Try.underlying25 infoLck rfl (by decide) encLck_len encLck_one _ L.length L rfl ho5 rfl _ 1 1 [(⟨who, x.f, f, x.alone⟩ : Lck)] rfl rfl rdm5 (by omega) (by omega) hE5.size ?_)
              intro v5 w5 how5 hg5
              replace hE5 : Ext w w5 := hE5.grown hg5 (fun k h => (ho5.lt k h).1)
              replace how5 : w5.ownsRow w.heap.size 32 4 v5 (L ++ [(⟨who, x.f, f, x.alone⟩ : Lck)]).length ((L ++ [(⟨who, x.f, f, x.alone⟩ : Lck)]).flatMap encLck) := by simpa using how5
              obtain ⟨L5, hL5⟩ : ∃ q, q = L ++ [(⟨who, x.f, f, x.alone⟩ : Lck)] := ⟨_, rfl⟩
              rw [← hL5] at how5
              have hfl5 : L5.length ≤ L.length + 1 := by rw [hL5]; simp
              have HL5 := Lib.hid hL5
              have how5 := Lib.hid how5
              clear hL5
              replace n2 := cell_grown hg5 (by intro e; have := Hob.out _ e.symm; omega) (cell_ext ((Ext.refl w2).alloc (.cells #[.int .i64 who, .int .i64 x.f, .int .i64 f, .bool x.alone] 32)) n2)
              clear rdm5 ho5 hg5
              go_wp2
              go_roundw
              case rel => exact ⟨k + 1, by omega, by go_num, by rw [Hst.out, Hcut.out, ← HL5.out]; exact how5.out, hE5⟩
              case measure => simp [intOf]; omega
          · by_cases h2 : t < x.t
            · have Hcut : Hid (cutL who f t x = [⟨who, t, x.t, x.alone⟩]) := Lib.hid (by simp only [cutL, if_pos Hm.out, if_neg h1, if_pos h2, List.nil_append])
              have rdm6 : Rd 4 encLck (w2.alloc (.cells #[.int .i64 who, .int .i64 t, .int .i64 x.t, .bool x.alone] 32)) (some ⟨w2.heap.size, 0, none⟩) [(⟨who, t, x.t, x.alone⟩ : Lck)] := rd_lit_new [(⟨who, t, x.t, x.alone⟩ : Lck)] encLck_len rfl
              have ho6 := ownsRow_ext hown1 ((Ext.refl w2).alloc (.cells #[.int .i64 who, .int .i64 t, .int .i64 x.t, .bool x.alone] 32))
              have hE6 := hE1.alloc (.cells #[.int .i64 who, .int .i64 t, .int .i64 x.t, .bool x.alone] 32)
              go_wp2_with (at_builtin; refine wpList_append_rd rfl _ _ 25 rfl w.heap.size 32 _ 4 _ Try.underlying25 infoLck rfl (by decide) encLck_len encLck_one _ L.length L rfl ho6 rfl _ 1 1 [(⟨who, t, x.t, x.alone⟩ : Lck)] rfl rfl rdm6 (by omega) (by omega) hE6.size ?_)
              intro v6 w6 how6 hg6
              replace hE6 : Ext w w6 := hE6.grown hg6 (fun k h => (ho6.lt k h).1)
              replace how6 : w6.ownsRow w.heap.size 32 4 v6 (L ++ [(⟨who, t, x.t, x.alone⟩ : Lck)]).length ((L ++ [(⟨who, t, x.t, x.alone⟩ : Lck)]).flatMap encLck) := by simpa using how6
              obtain ⟨L6, hL6⟩ : ∃ q, q = L ++ [(⟨who, t, x.t, x.alone⟩ : Lck)] := ⟨_, rfl⟩
              rw [← hL6] at how6
              have hfl6 : L6.length ≤ L.length + 1 := by rw [hL6]; simp
              have HL6 := Lib.hid hL6
              have how6 := Lib.hid how6
              clear hL6
              clear rdm6 ho6 hg6
              go_wp2
              go_roundw
              case rel => exact ⟨k + 1, by omega, by go_num, by rw [Hst.out, Hcut.out, ← HL6.out]; exact how6.out, hE6⟩
              case measure => simp [intOf]; omega
            · have Hcut : Hid (cutL who f t x = []) := Lib.hid (by simp only [cutL, if_pos Hm.out, if_neg h1, if_neg h2, List.append_nil])
              go_wp2
              go_roundw
              case rel => exact ⟨k + 1, by omega, by go_num, by rw [Hst.out, Hcut.out, List.append_nil]; exact hown1, hE1⟩
              case measure => simp [intOf]; omega
      · have tw : (x.who != who) = true := by simpa using hw
        have Hcut := Lib.hid (cut_keep (who := who) (f := f) (t := t) (x := x) (fun h => hw h.1))
        clear hw
        go_upto_region 6 with fail
        generalize (wr.alloc (.cells #[.int .i64 x.who, .int .i64 x.f, .int .i64 x.t, .bool x.alone] 32)) = w1 at *
        clear c0 c1 c2 c3 hbl
        have rdm5 : Rd 4 encLck (w1.alloc (.cells #[.int .i64 x.who, .int .i64 x.f, .int .i64 x.t, .bool x.alone] 32)) (some ⟨w1.heap.size, 0, none⟩) [(⟨x.who, x.f, x.t, x.alone⟩ : Lck)] := rd_lit_new [(⟨x.who, x.f, x.t, x.alone⟩ : Lck)] encLck_len rfl
        have ho5 := ownsRow_ext hown1 ((Ext.refl w1).alloc (.cells #[.int .i64 x.who, .int .i64 x.f, .int .i64 x.t, .bool x.alone] 32))
        have hE5 := hE1.alloc (.cells #[.int .i64 x.who, .int .i64 x.f, .int .i64 x.t, .bool x.alone] 32)
        go_wp2_with (at_builtin; refine wpList_append_rd rfl _ _ 25 rfl w.heap.size 32 _ 4 _ Try.underlying25 infoLck rfl (by decide) encLck_len encLck_one _ L.length L rfl ho5 rfl _ 1 1 [(⟨x.who, x.f, x.t, x.alone⟩ : Lck)] rfl rfl rdm5 (by omega) (by omega) hE5.size ?_)
        intro v5 w5 how5 hg5
        replace hE5 : Ext w w5 := hE5.grown hg5 (fun k h => (ho5.lt k h).1)
        replace how5 : w5.ownsRow w.heap.size 32 4 v5 (L ++ [(⟨x.who, x.f, x.t, x.alone⟩ : Lck)]).length ((L ++ [(⟨x.who, x.f, x.t, x.alone⟩ : Lck)]).flatMap encLck) := by simpa using how5
        obtain ⟨L5, hL5⟩ : ∃ q, q = L ++ [(⟨x.who, x.f, x.t, x.alone⟩ : Lck)] := ⟨_, rfl⟩
        rw [← hL5] at how5
        have hfl5 : L5.length ≤ L.length + 1 := by rw [hL5]; simp
        have HL5 := Lib.hid hL5
        have how5 := Lib.hid how5
        clear hL5
        clear rdm5 ho5 hg5
        go_wp2
        go_roundw
        case rel => exact ⟨k + 1, by omega, by go_num, by rw [Hst.out, Hcut.out, ← HL5.out]; exact how5.out, hE5⟩
        case measure => simp [intOf]; omega
    · have hkl : l.take k = l := List.take_of_length_le (by omega)
      rw [hkl] at hown
      go_wp2
      go_ret
      exact RetV.mk hown hb

set_option maxHeartbeats 4000000 in
theorem implFree (a : Option Addr) (cap : Nat) (l : List Lck) (who f t : Int) (w : World) (hl : l.length ≤ 1048576) (hc : Rd 4 encLck w a l) :
    Calls Try.prog 45 #[.slice a l.length cap, .int .i64 who, .int .i64 f, .int .i64 t] w (RetV (fun v w' => w'.ownsRow w.heap.size 32 4 v (freeL l who f t).length ((freeL l who f t).flatMap encLck)) w) := by
  go_enter Try.func45, Try.ntmps45
  go_wp2
  have E0 := (Ext.refl w).alloc (.cells #[] 32)
  have hown : (w.alloc (.cells #[] 32)).ownsRow w.heap.size 32 4 (.slice (some ⟨w.heap.size, 0, none⟩) 0 0) 0 (([] : List Lck).flatMap encLck) := owns_lit_new [] encLck_len rfl rfl (by omega) (Nat.le_refl _)
  generalize (w.alloc (.cells #[] 32)) = w0 at *
  go_loopw [9, 11, 15] (fun vo _ i wr => ∃ k : Nat, k ≤ l.length ∧ i = .int .i64 k ∧ wr.ownsRow w.heap.size 32 4 vo (freeL (l.take k) who f t).length ((freeL (l.take k) who f t).flatMap encLck) ∧ Ext w wr) (fun _ _ i _ => l.length - (intOf i).toNat)
  case atStart => exact ⟨0, Nat.zero_le _, rfl, by simpa [freeL] using hown, E0⟩
  case round =>
    obtain ⟨k, hk, rfl, hown, hb⟩ := hrel
    by_cases hlt : k < l.length
    · obtain ⟨x, b, off, hx, rfl, c0, c1, c2, c3⟩ := atLck (hc.ext hb) hlt
      have Hst := Lib.hid (freeL_step who f t hx)
      have hfl := freeL_le who f t (l.take k)
      rw [List.length_take] at hfl
      obtain ⟨L, hL⟩ : ∃ L, L = freeL (l.take k) who f t := ⟨_, rfl⟩
      rw [← hL] at hown hfl Hst
      clear hL hx
      have hob := fun i h => (hown.lt i h).2
      have Hob := Lib.hid hob
      clear hob
      have hE1 := hb.alloc (.cells #[.int .i64 x.who, .int .i64 x.f, .int .i64 x.t, .bool x.alone] 32)
      have hbl := size_new' wr (.cells #[.int .i64 x.who, .int .i64 x.f, .int .i64 x.t, .bool x.alone] 32)
      have n0 := cell_new1 wr #[.int .i64 x.who, .int .i64 x.f, .int .i64 x.t, .bool x.alone] 32 0 (.int .i64 x.who) rfl
      have n1 := cell_new1 wr #[.int .i64 x.who, .int .i64 x.f, .int .i64 x.t, .bool x.alone] 32 1 (.int .i64 x.f) rfl
      have n2 := cell_new1 wr #[.int .i64 x.who, .int .i64 x.f, .int .i64 x.t, .bool x.alone] 32 2 (.int .i64 x.t) rfl
      have n3 := cell_new1 wr #[.int .i64 x.who, .int .i64 x.f, .int .i64 x.t, .bool x.alone] 32 3 (.bool x.alone) rfl
      have hown1 := ownsRow_ext hown ((Ext.refl wr).alloc (.cells #[.int .i64 x.who, .int .i64 x.f, .int .i64 x.t, .bool x.alone] 32))
      by_cases hw : x.who = who
      · have tw : (x.who != who) = false := by simpa using hw
        have Hw := Lib.hid hw
        clear hw
        go_wp2_with fail
        generalize (wr.alloc (.cells #[.int .i64 x.who, .int .i64 x.f, .int .i64 x.t, .bool x.alone] 32)) = w1 at *
        refine (meets_any _ _ _ _ _ _ _ _ _).mono ?_
        rintro e w2 ⟨b0, rfl, hm, hb2⟩
        replace n0 := cell_ext hb2 n0
        replace n1 := cell_ext hb2 n1
        replace n2 := cell_ext hb2 n2
        replace n3 := cell_ext hb2 n3
        replace hown1 := ownsRow_ext hown1 hb2
        replace hE1 := hE1.trans hb2
        clear hb2 hbl c0 c1 c2 c3
        cases b0 with
        | false =>
          have Hcut := Lib.hid (cut_keep (who := who) (f := f) (t := t) (x := x) (fun h => Bool.noConfusion (hm.2 h.2)))
          clear hm

          have rdm5 : Rd 4 encLck (w2.alloc (.cells #[.int .i64 x.who, .int .i64 x.f, .int .i64 x.t, .bool x.alone] 32)) (some ⟨w2.heap.size, 0, none⟩) [(⟨x.who, x.f, x.t, x.alone⟩ : Lck)] := rd_lit_new [(⟨x.who, x.f, x.t, x.alone⟩ : Lck)] encLck_len rfl
          have ho5 := ownsRow_ext hown1 ((Ext.refl w2).alloc (.cells #[.int .i64 x.who, .int .i64 x.f, .int .i64 x.t, .bool x.alone] 32))
          have hE5 := hE1.alloc (.cells #[.int .i64 x.who, .int .i64 x.f, .int .i64 x.t, .bool x.alone] 32)
          go_wp2_with (at_builtin; refine wpList_append_rd rfl _ _ 25 rfl w.heap.size 32 _ 4 _ Try.underlying25 infoLck rfl (by decide) encLck_len encLck_one _ L.length L rfl ho5 rfl _ 1 1 [(⟨x.who, x.f, x.t, x.alone⟩ : Lck)] rfl rfl rdm5 (by omega) (by omega) hE5.size ?_)
          intro v5 w5 how5 hg5
          replace hE5 : Ext w w5 := hE5.grown hg5 (fun k h => (ho5.lt k h).1)
          replace how5 : w5.ownsRow w.heap.size 32 4 v5 (L ++ [(⟨x.who, x.f, x.t, x.alone⟩ : Lck)]).length ((L ++ [(⟨x.who, x.f, x.t, x.alone⟩ : Lck)]).flatMap encLck) := by simpa using how5
          obtain ⟨L5, hL5⟩ : ∃ q, q = L ++ [(⟨x.who, x.f, x.t, x.alone⟩ : Lck)] := ⟨_, rfl⟩
          rw [← hL5] at how5
          have hfl5 : L5.length ≤ L.length + 1 := by rw [hL5]; simp
          have HL5 := Lib.hid hL5
          have how5 := Lib.hid how5
          clear hL5
          clear rdm5 ho5 hg5
          go_wp2
          go_roundw
          case rel => exact ⟨k + 1, by omega, by go_num, by rw [Hst.out, Hcut.out, ← HL5.out]; exact how5.out, hE5⟩
          case measure => simp [intOf]; omega
        | true =>
          have Hm := Lib.hid (And.intro Hw.out (hm.1 rfl))
          clear hm
          by_cases h1 : x.f < f
          · by_cases h2 : t < x.t
            · have Hcut : Hid (cutL who f t x = [(⟨who, x.f, f, x.alone⟩ : Lck)] ++ [(⟨who, t, x.t, x.alone⟩ : Lck)]) := Lib.hid (by simp only [cutL, if_pos Hm.out, if_pos h1, if_pos h2])
              have rdm5 : Rd 4 encLck (w2.alloc (.cells #[.int .i64 who, .int .i64 x.f, .int .i64 f, .bool x.alone] 32)) (some ⟨w2.heap.size, 0, none⟩) [(⟨who, x.f, f, x.alone⟩ : Lck)] := rd_lit_new [(⟨who, x.f, f, x.alone⟩ : Lck)] encLck_len rfl
              have ho5 := ownsRow_ext hown1 ((Ext.refl w2).alloc (.cells #[.int .i64 who, .int .i64 x.f, .int .i64 f, .bool x.alone] 32))
              have hE5 := hE1.alloc (.cells #[.int .i64 who, .int .i64 x.f, .int .i64 f, .bool x.alone] 32)
              go_wp2_with (at_builtin; refine wpList_append_rd rfl _ _ 25 rfl w.heap.size 32 _ 4 _ Try.underlying25 infoLck rfl (by decide) encLck_len encLck_one _ L.length L rfl ho5 rfl _ 1 1 [(⟨who, x.f, f, x.alone⟩ : Lck)] rfl rfl rdm5 (by omega) (by omega) hE5.size ?_)
              intro v5 w5 how5 hg5
              replace hE5 : Ext w w5 := hE5.grown hg5 (fun k h => (ho5.lt k h).1)
              replace how5 : w5.ownsRow w.heap.size 32 4 v5 (L ++ [(⟨who, x.f, f, x.alone⟩ : Lck)]).length ((L ++ [(⟨who, x.f, f, x.alone⟩ : Lck)]).flatMap encLck) := by simpa using how5
              obtain ⟨L5, hL5⟩ : ∃ q, q = L ++ [(⟨who, x.f, f, x.alone⟩ : Lck)] := ⟨_, rfl⟩
              rw [← hL5] at how5
              have hfl5 : L5.length ≤ L.length + 1 := by rw [hL5]; simp
              have HL5 := Lib.hid hL5
              have how5 := Lib.hid how5
              clear hL5
              replace n0 := cell_grown hg5 (by intro e; have := Hob.out _ e.symm; omega) (cell_ext ((Ext.refl w2).alloc (.cells #[.int .i64 who, .int .i64 x.f, .int .i64 f, .bool x.alone] 32)) n0)
              replace n1 := cell_grown hg5 (by intro e; have := Hob.out _ e.symm; omega) (cell_ext ((Ext.refl w2).alloc (.cells #[.int .i64 who, .int .i64 x.f, .int .i64 f, .bool x.alone] 32)) n1)
              replace n2 := cell_grown hg5 (by intro e; have := Hob.out _ e.symm; omega) (cell_ext ((Ext.refl w2).alloc (.cells #[.int .i64 who, .int .i64 x.f, .int .i64 f, .bool x.alone] 32)) n2)
              replace n3 := cell_grown hg5 (by intro e; have := Hob.out _ e.symm; omega) (cell_ext ((Ext.refl w2).alloc (.cells #[.int .i64 who, .int .i64 x.f, .int .i64 f, .bool x.alone] 32)) n3)
              clear rdm5 ho5 hg5
              have rdm6 : Rd 4 encLck (w5.alloc (.cells #[.int .i64 who, .int .i64 t, .int .i64 x.t, .bool x.alone] 32)) (some ⟨w5.heap.size, 0, none⟩) [(⟨who, t, x.t, x.alone⟩ : Lck)] := rd_lit_new [(⟨who, t, x.t, x.alone⟩ : Lck)] encLck_len rfl
              have ho6 := ownsRow_ext how5.out ((Ext.refl w5).alloc (.cells #[.int .i64 who, .int .i64 t, .int .i64 x.t, .bool x.alone] 32))
              have hE6 := hE5.alloc (.cells #[.int .i64 who, .int .i64 t, .int .i64 x.t, .bool x.alone] 32)
              go_wp2_with (at_builtin; refine wpList_append_rd rfl _ _ 25 rfl w.heap.size 32 _ 4 _ Try.underlying25 infoLck rfl (by decide) encLck_len encLck_one _ L5.length L5 rfl ho6 rfl _ 1 1 [(⟨who, t, x.t, x.alone⟩ : Lck)] rfl rfl rdm6 (by omega) (by omega) hE6.size ?_)
              intro v6 w6 how6 hg6
              replace hE6 : Ext w w6 := hE6.grown hg6 (fun k h => (ho6.lt k h).1)
              replace how6 : w6.ownsRow w.heap.size 32 4 v6 (L5 ++ [(⟨who, t, x.t, x.alone⟩ : Lck)]).length ((L5 ++ [(⟨who, t, x.t, x.alone⟩ : Lck)]).flatMap encLck) := by simpa using how6
              obtain ⟨L6, hL6⟩ : ∃ q, q = L5 ++ [(⟨who, t, x.t, x.alone⟩ : Lck)] := ⟨_, rfl⟩
              rw [← hL6] at how6
              have hfl6 : L6.length ≤ L5.length + 1 := by rw [hL6]; simp
              have HL6 := Lib.hid hL6
              have how6 := Lib.hid how6
              clear hL6
              clear rdm6 ho6 hg6
              go_wp2
              go_roundw
              case rel => exact ⟨k + 1, by omega, by go_num, by rw [Hst.out, Hcut.out, ← List.append_assoc, ← HL5.out, ← HL6.out]; exact how6.out, hE6⟩
              case measure => simp [intOf]; omega
            · have Hcut : Hid (cutL who f t x = [⟨who, x.f, f, x.alone⟩]) := Lib.hid (by simp only [cutL, if_pos Hm.out, if_pos h1, if_neg h2, List.append_nil])
              have rdm5 : Rd 4 encLck (w2.alloc (.cells #[.int .i64 who, .int .i64 x.f, .int .i64 f, .bool x.alone] 32)) (some ⟨w2.heap.size, 0, none⟩) [(⟨who, x.f, f, x.alone⟩ : Lck)] := rd_lit_new [(⟨who, x.f, f, x.alone⟩ : Lck)] encLck_len rfl
              have ho5 := ownsRow_ext hown1 ((Ext.refl w2).alloc (.cells #[.int .i64 who, .int .i64 x.f, .int .i64 f, .bool x.alone] 32))
              have hE5 := hE1.alloc (.cells #[.int .i64 who, .int .i64 x.f, .int .i64 f, .bool x.alone] 32)
              go_wp2_with (at_builtin; refine wpList_append_rd rfl _ _ 25 rfl w.heap.size 32 _ 4 _ Try.underlying25 infoLck rfl (by decide) encLck_len encLck_one _ L.length L rfl ho5 rfl _ 1 1 [(⟨who, x.f, f, x.alone⟩ : Lck)] rfl rfl rdm5 (by omega) (by omega) hE5.size ?_)
              intro v5 w5 how5 hg5
              replace hE5 : Ext w w5 := hE5.grown hg5 (fun k h => (ho5.lt k h).1)
              replace how5 : w5.ownsRow w.heap.size 32 4 v5 (L ++ [(⟨who, x.f, f, x.alone⟩ : Lck)]).length ((L ++ [(⟨who, x.f, f, x.alone⟩ : Lck)]).flatMap encLck) := by simpa using how5
              obtain ⟨L5, hL5⟩ : ∃ q, q = L ++ [(⟨who, x.f, f, x.alone⟩ : Lck)] := ⟨_, rfl⟩
              rw [← hL5] at how5
              have hfl5 : L5.length ≤ L.length + 1 := by rw [hL5]; simp
              have HL5 := Lib.hid hL5
              have how5 := Lib.hid how5
              clear hL5
              replace n2 := cell_grown hg5 (by intro e; have := Hob.out _ e.symm; omega) (cell_ext ((Ext.refl w2).alloc (.cells #[.int .i64 who, .int .i64 x.f, .int .i64 f, .bool x.alone] 32)) n2)
              clear rdm5 ho5 hg5
              go_wp2
              go_roundw
              case rel => exact ⟨k + 1, by omega, by go_num, by rw [Hst.out, Hcut.out, ← HL5.out]; exact how5.out, hE5⟩
              case measure => simp [intOf]; omega
          · by_cases h2 : t < x.t
            · have Hcut : Hid (cutL who f t x = [⟨who, t, x.t, x.alone⟩]) := Lib.hid (by simp only [cutL, if_pos Hm.out, if_neg h1, if_pos h2, List.nil_append])
              have rdm6 : Rd 4 encLck (w2.alloc (.cells #[.int .i64 who, .int .i64 t, .int .i64 x.t, .bool x.alone] 32)) (some ⟨w2.heap.size, 0, none⟩) [(⟨who, t, x.t, x.alone⟩ : Lck)] := rd_lit_new [(⟨who, t, x.t, x.alone⟩ : Lck)] encLck_len rfl
              have ho6 := ownsRow_ext hown1 ((Ext.refl w2).alloc (.cells #[.int .i64 who, .int .i64 t, .int .i64 x.t, .bool x.alone] 32))
              have hE6 := hE1.alloc (.cells #[.int .i64 who, .int .i64 t, .int .i64 x.t, .bool x.alone] 32)
              go_wp2_with (at_builtin; refine wpList_append_rd rfl _ _ 25 rfl w.heap.size 32 _ 4 _ Try.underlying25 infoLck rfl (by decide) encLck_len encLck_one _ L.length L rfl ho6 rfl _ 1 1 [(⟨who, t, x.t, x.alone⟩ : Lck)] rfl rfl rdm6 (by omega) (by omega) hE6.size ?_)
              intro v6 w6 how6 hg6
              replace hE6 : Ext w w6 := hE6.grown hg6 (fun k h => (ho6.lt k h).1)
              replace how6 : w6.ownsRow w.heap.size 32 4 v6 (L ++ [(⟨who, t, x.t, x.alone⟩ : Lck)]).length ((L ++ [(⟨who, t, x.t, x.alone⟩ : Lck)]).flatMap encLck) := by simpa using how6
              obtain ⟨L6, hL6⟩ : ∃ q, q = L ++ [(⟨who, t, x.t, x.alone⟩ : Lck)] := ⟨_, rfl⟩
              rw [← hL6] at how6
              have hfl6 : L6.length ≤ L.length + 1 := by rw [hL6]; simp
              have HL6 := Lib.hid hL6
              have how6 := Lib.hid how6
              clear hL6
              clear rdm6 ho6 hg6
              go_wp2
              go_roundw
              case rel => exact ⟨k + 1, by omega, by go_num, by rw [Hst.out, Hcut.out, ← HL6.out]; exact how6.out, hE6⟩
              case measure => simp [intOf]; omega
            · have Hcut : Hid (cutL who f t x = []) := Lib.hid (by simp only [cutL, if_pos Hm.out, if_neg h1, if_neg h2, List.append_nil])
              go_wp2
              go_roundw
              case rel => exact ⟨k + 1, by omega, by go_num, by rw [Hst.out, Hcut.out, List.append_nil]; exact hown1, hE1⟩
              case measure => simp [intOf]; omega
      · have tw : (x.who != who) = true := by simpa using hw
        have Hcut := Lib.hid (cut_keep (who := who) (f := f) (t := t) (x := x) (fun h => hw h.1))
        clear hw
        go_upto_region 5 with fail
        generalize (wr.alloc (.cells #[.int .i64 x.who, .int .i64 x.f, .int .i64 x.t, .bool x.alone] 32)) = w1 at *
        clear c0 c1 c2 c3 hbl
        have rdm5 : Rd 4 encLck (w1.alloc (.cells #[.int .i64 x.who, .int .i64 x.f, .int .i64 x.t, .bool x.alone] 32)) (some ⟨w1.heap.size, 0, none⟩) [(⟨x.who, x.f, x.t, x.alone⟩ : Lck)] := rd_lit_new [(⟨x.who, x.f, x.t, x.alone⟩ : Lck)] encLck_len rfl
        have ho5 := ownsRow_ext hown1 ((Ext.refl w1).alloc (.cells #[.int .i64 x.who, .int .i64 x.f, .int .i64 x.t, .bool x.alone] 32))
        have hE5 := hE1.alloc (.cells #[.int .i64 x.who, .int .i64 x.f, .int .i64 x.t, .bool x.alone] 32)
        go_wp2_with (at_builtin; refine wpList_append_rd rfl _ _ 25 rfl w.heap.size 32 _ 4 _ Try.underlying25 infoLck rfl (by decide) encLck_len encLck_one _ L.length L rfl ho5 rfl _ 1 1 [(⟨x.who, x.f, x.t, x.alone⟩ : Lck)] rfl rfl rdm5 (by omega) (by omega) hE5.size ?_)
        intro v5 w5 how5 hg5
        replace hE5 : Ext w w5 := hE5.grown hg5 (fun k h => (ho5.lt k h).1)
        replace how5 : w5.ownsRow w.heap.size 32 4 v5 (L ++ [(⟨x.who, x.f, x.t, x.alone⟩ : Lck)]).length ((L ++ [(⟨x.who, x.f, x.t, x.alone⟩ : Lck)]).flatMap encLck) := by simpa using how5
        obtain ⟨L5, hL5⟩ : ∃ q, q = L ++ [(⟨x.who, x.f, x.t, x.alone⟩ : Lck)] := ⟨_, rfl⟩
        rw [← hL5] at how5
        have hfl5 : L5.length ≤ L.length + 1 := by rw [hL5]; simp
        have HL5 := Lib.hid hL5
        have how5 := Lib.hid how5
        clear hL5
        clear rdm5 ho5 hg5
        go_wp2
        go_roundw
        case rel => exact ⟨k + 1, by omega, by go_num, by rw [Hst.out, Hcut.out, ← HL5.out]; exact how5.out, hE5⟩
        case measure => simp [intOf]; omega
    · have hkl : l.take k = l := List.take_of_length_le (by omega)
      rw [hkl] at hown
      go_wp2
      go_ret
      exact RetV.mk hown hb
end Go.Proofs.Ytaofbdhljnhlnaa
