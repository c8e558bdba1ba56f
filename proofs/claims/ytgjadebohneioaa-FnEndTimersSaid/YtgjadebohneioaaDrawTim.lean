/- The draws of timers: the contract of l20Timers. No condition but small sizes. -/
import Derived.Test.YtgjadebohneioaaDrawF
import Derived.Test.YtgjadebohneioaaApp
import Derived.Test.YtgjadebohneioaaView
import Derived.Test.YtgjadebohneioaaTimT
import Derived.Test.YtgjadebohneioaaIntS
namespace Go.Proofs.Ytgjadebohneioaa
open Go.RowKit

/-- At most K timers in new memory. -/
def TimsD (base : Nat) (K : Nat) (v : Value) (w : World) : Prop := ∃ l : List Tim, l.length ≤ K ∧ w.ownsRow base 30 3 v l.length (l.flatMap encTim)

set_option maxRecDepth 10000 in
set_option maxHeartbeats 8000000 in
theorem drawTimers (g : Nat) (P n : Int) (w : World) (hs : Src g P w) (hP : P ≤ 800000) (hn : n ≤ 1000000) :
    Calls Try.prog 31 #[.pointer (some ⟨g, 0, none⟩), .int .i64 n] w (RetD g P 50 (TimsD w.heap.size 9) w) := by
  have hg := hs.lt
  go_enter Try.func31, Try.ntmps31
  go_wp2_with fail
  have hS0 := (Step.refl g w).alloc (.cells #[] 30)
  have hs1 := hs.ext ((Ext.refl w).alloc (.cells #[] 30))
  have hown : (w.alloc (.cells #[] 30)).ownsRow w.heap.size 30 3 (.slice (some ⟨w.heap.size, 0, none⟩) 0 0) 0 (([] : List Tim).flatMap encTim) := owns_lit_new [] encTim_len rfl rfl (by omega) (Nat.le_refl _)
  generalize (w.alloc (.cells #[] 30)) = w1 at *
  refine (pick_any g P 6 _ hs1 (by omega)).mono ?_
  rintro e w2 ⟨v, rfl, ⟨q, rfl, q0, q1, _⟩, hs2, hS⟩
  replace hS0 := hS0.trans hS
  replace hown := ownsRow_step hown hS hg
  obtain ⟨qn, rfl⟩ : ∃ k : Nat, q = k := ⟨q.toNat, by omega⟩
  have q9 : qn < 6 := by have := q1 (by omega); omega
  clear q1 hS hs1 q0
  go_wp2
  go_loopw [5, 6, 7, 8] (fun vo i _ _ wr => ∃ (k : Nat) (l : List Tim), k ≤ 5 ∧ l.length ≤ 8 ∧ i = .int .i64 (k : Int) ∧ wr.ownsRow w.heap.size 30 3 vo l.length (l.flatMap encTim) ∧ Src g (P + 1 + (5 - (k : Int)) * 4) wr ∧ Step g w wr) (fun _ i _ _ _ => (intOf i).toNat)
  case atStart => exact ⟨qn, [], by omega, by simp, rfl, hown, hs2.mono (by omega), hS0⟩
  case round =>
    obtain ⟨k, l, hk6, hl6, rfl, hown, hs3, hS⟩ := hrel
    obtain ⟨a, cap, rfl, hlcap, _, _⟩ := view_owns encTim_len hown
    by_cases h0 : 0 < k
    · obtain ⟨m, rfl⟩ : ∃ m, k = m + 1 := ⟨k - 1, by omega⟩
      have h0' : (0 : Int) < ((m + 1 : Nat) : Int) := by omega
      have hw : IntKind.i64.wrap (((m + 1 : Nat) : Int) - 1) = (m : Int) := by rw [show ((m + 1 : Nat) : Int) - 1 = m by omega]; exact IntWalk.i64_in _ (by omega)
      go_wp2_with fail
      refine (pick_any g _ 30 wr hs3 (by omega)).mono ?_
      rintro e w3 ⟨v, rfl, ⟨z1, rfl, _, _, _⟩, hs4, hS4⟩
      replace hS := hS.trans hS4
      replace hown := ownsRow_step hown hS4 hg
      clear hS4 hs3
      go_wp2_with fail
      refine (pick_any g _ 5 _ hs4 (by omega)).mono ?_
      rintro e w4 ⟨v, rfl, ⟨z2, rfl, za, zb, _⟩, hs5, hS4⟩
      replace zb := zb (by omega)
      replace hS := hS.trans hS4
      replace hown := ownsRow_step hown hS4 hg
      clear hS4 hs4
      have e1 : IntKind.i64.wrap (1 + z2) = 1 + z2 := IntWalk.i64_in _ (by omega)
      go_wp2_with fail
      refine (pick_any g _ 9 _ hs5 (by omega)).mono ?_
      rintro e w5 ⟨v, rfl, ⟨z3, rfl, zc, zd, _⟩, hs6, hS4⟩
      replace zd := zd (by omega)
      replace hS := hS.trans hS4
      replace hown := ownsRow_step hown hS4 hg
      clear hS4 hs5
      have e2 : IntKind.i64.wrap (1 + z3) = 1 + z3 := IntWalk.i64_in _ (by omega)
      have hrd : Rd 1 encInt1 (w5.alloc (.cells #[.int .i64 0, .int .i64 (1 + z3)] 3)) (some ⟨w5.heap.size, 0, none⟩) [0, 1 + z3] := rd_lit_new _ encInt1_len rfl
      have hll : ([0, 1 + z3] : List Int).length = 2 := rfl
      generalize ([0, 1 + z3] : List Int) = L at *
      have hne : w5.heap.size ≠ g := by have := hs6.lt; omega
      have hE := (Ext.refl w5).alloc (.cells #[.int .i64 0, .int .i64 (1 + z3)] 3)
      replace hS := hS.ext hE
      replace hown := ownsRow_ext hown hE
      replace hs6 := hs6.ext hE
      clear hE
      go_wp2_with fail
      generalize (w5.alloc (.cells #[.int .i64 0, .int .i64 (1 + z3)] 3)) = w6 at *
      refine (pick_any g _ 2 _ hs6 (by omega)).mono ?_
      rintro e w7 ⟨v, rfl, ⟨i, rfl, x0, x1, _⟩, hs7, hS4⟩
      replace x1 := x1 (by omega)
      replace hS := hS.trans hS4
      replace hown := ownsRow_step hown hS4 hg
      replace hrd := hrd.step hS4 (fun _ b off h => by cases h; exact hne)
      obtain ⟨j, rfl⟩ : ∃ k : Nat, i = k := ⟨i.toNat, by omega⟩
      obtain ⟨u, _, hcell⟩ := lit_at hrd (k := j) (by omega)
      have c0 : w7.cell? ⟨w5.heap.size, j, none⟩ = some (.int .i64 u) := by simpa using hcell 0 _ rfl
      clear hcell hrd hS4 hs6 hll
      have hrdl := rd_owns encTim_len hown rfl
      go_wp2_with fail
      refine (specSetTimer a cap l ⟨z1, 1 + z2, u⟩ w7 (by omega) hlcap hrdl).mono ?_
      rintro e w8 ⟨v, L2, ok, rfl, hR, T⟩
      have hL := setTR_len hR
      clear hR hrdl
      have hown6 := ownsRow_base (T.row 0 rfl) hS.size
      have hE := T.ext
      clear T hown
      replace hS := hS.ext hE
      replace hs7 := hs7.ext hE
      go_wp2
      go_roundw
      case rel => exact ⟨m, L2, by omega, by omega, by go_num, hown6, hs7.mono (by omega), hS⟩
      case measure => simp [intOf]
    · obtain rfl : k = 0 := by omega
      go_wp2_with fail
      refine (odd_any g _ n wr hs3 (by omega) hn).mono ?_
      rintro e w4 ⟨v, rfl, ⟨b, rfl, hb⟩, hs4, hS4⟩
      replace hS := hS.trans hS4
      replace hown := ownsRow_step hown hS4 hg
      clear hS4 hs3 hb
      cases b with
      | false =>
        go_wp2
        go_ret
        exact RetD.mk ⟨l, by omega, hown⟩ hs4 (by omega) hS
      | true =>
        have hrd : Rd 3 encTim (w4.alloc (.cells #[.int .i64 0, .int .i64 0, .int .i64 0, .int .i64 100001, .int .i64 1, .int .i64 0, .int .i64 (-1), .int .i64 1, .int .i64 0, .int .i64 100000, .int .i64 1, .int .i64 (-1)] 30)) (some ⟨w4.heap.size, 0, none⟩) ([⟨0, 0, 0⟩, ⟨100001, 1, 0⟩, ⟨-1, 1, 0⟩, ⟨100000, 1, -1⟩] : List Tim) := rd_lit_new _ encTim_len rfl
        have hll : ([⟨0, 0, 0⟩, ⟨100001, 1, 0⟩, ⟨-1, 1, 0⟩, ⟨100000, 1, -1⟩] : List Tim).length = 4 := rfl
        generalize ([⟨0, 0, 0⟩, ⟨100001, 1, 0⟩, ⟨-1, 1, 0⟩, ⟨100000, 1, -1⟩] : List Tim) = L at *
        have hE := (Ext.refl w4).alloc (.cells #[.int .i64 0, .int .i64 0, .int .i64 0, .int .i64 100001, .int .i64 1, .int .i64 0, .int .i64 (-1), .int .i64 1, .int .i64 0, .int .i64 100000, .int .i64 1, .int .i64 (-1)] 30)
        have hne : w4.heap.size ≠ g := by have := hs4.lt; omega
        replace hs4 := hs4.ext hE
        replace hS := hS.ext hE
        replace hown := ownsRow_ext hown hE
        clear hE
        go_wp2_with fail
        generalize (w4.alloc (.cells #[.int .i64 0, .int .i64 0, .int .i64 0, .int .i64 100001, .int .i64 1, .int .i64 0, .int .i64 (-1), .int .i64 1, .int .i64 0, .int .i64 100000, .int .i64 1, .int .i64 (-1)] 30)) = w5 at *
        refine (pick_any g _ 4 _ hs4 (by omega)).mono ?_
        rintro e w6 ⟨v, rfl, ⟨i, rfl, x0, x1, _⟩, hs5, hS4⟩
        replace hS := hS.trans hS4
        replace hown := ownsRow_step hown hS4 hg
        replace hrd := hrd.step hS4 (fun _ b off h => by cases h; exact hne)
        replace x1 := x1 (by omega)
        obtain ⟨k, rfl⟩ : ∃ k : Nat, i = k := ⟨i.toNat, by omega⟩
        obtain ⟨x, hx, hcell⟩ := lit_at hrd (k := k) (by omega)
        have c0 : w6.cell? ⟨w4.heap.size, k * 3, none⟩ = some (.int .i64 x.tm) := hcell 0 _ rfl
        have c1 : w6.cell? ⟨w4.heap.size, k * 3 + 1, none⟩ = some (.int .i64 x.who) := hcell 1 _ rfl
        have c2 : w6.cell? ⟨w4.heap.size, k * 3 + 2, none⟩ = some (.int .i64 x.ag) := hcell 2 _ rfl
        clear hcell hx hrd hS4 hs4
        have E2 := (Ext.refl _).alloc (a := w6) (.cells #[.int .i64 x.tm, .int .i64 x.who, .int .i64 x.ag] 30)
        have rdm : Rd 3 encTim (w6.alloc (.cells #[.int .i64 x.tm, .int .i64 x.who, .int .i64 x.ag] 30)) (some ⟨w6.heap.size, 0, none⟩) [x] := rd_lit_new [x] encTim_len rfl
        replace hown := ownsRow_ext hown E2
        replace hS := hS.ext E2
        replace hs5 := hs5.ext E2
        go_wp2_with (at_builtin; refine wpList_append_rd rfl _ _ 26 rfl w.heap.size 30 _ 3 _ Try.underlying26 infoTim rfl (by decide) encTim_len encTim_one _ l.length l rfl hown rfl _ 1 1 [x] rfl rfl rdm (by omega) (by omega) hS.size ?_)
        intro v' w7 hown' hgr
        replace hS := hS.row hgr (fun i h => (hown.lt i h).1)
        replace hs5 := hs5.row hgr (fun i h => by have := (hown.lt i h).1; omega)
        clear E2 rdm
        go_wp2
        go_ret
        exact RetD.mk ⟨l ++ [x], by simp; omega, by simpa using hown'⟩ hs5 (by omega) hS
end Go.Proofs.Ytgjadebohneioaa
