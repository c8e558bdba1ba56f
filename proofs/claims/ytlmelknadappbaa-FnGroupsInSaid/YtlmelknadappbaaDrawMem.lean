/- The draws of processes in sessions: contracts of l20Members and of the laws' draws. No condition but small sizes. -/
import Derived.Test.YtlmelknadappbaaDrawF
import Derived.Test.YtlmelknadappbaaApp
import Derived.Test.YtlmelknadappbaaView
import Derived.Test.YtlmelknadappbaaMemK
namespace Go.Proofs.Ytlmelknadappbaa
open Go.RowKit

theorem newR_le {l : List Mem} {n : Int} {L : List Mem} {ok : Bool} (h : NewR l n L ok) : L.length ≤ l.length := by
  by_cases hv : MembersOk l
  · obtain ⟨r, h1, h2, h3⟩ := h.2 hv
    by_cases hs : Stays l n r
    · rw [(h2 hs).1]; exact Nat.le_refl _
    · rw [(h3 hs).1, List.length_set]; exact Nat.le_refl _
  · rw [(h.1 hv).1]; simp
theorem joinR_le {l : List Mem} {n g : Int} {L : List Mem} {ok : Bool} (h : JoinR l n g L ok) : L.length ≤ l.length := by
  by_cases hv : MembersOk l
  · obtain ⟨r, h1, h2⟩ := h.2 hv
    rcases h2 with ⟨e1, _, x, _, _, _, hL, _⟩ | ⟨e1, e2, n1⟩
    · rw [hL, List.length_set]; exact Nat.le_refl _
    · rw [e2]; exact Nat.le_refl _
  · rw [(h.1 hv).1]; simp

/-- At most K processes in new memory. -/
def MemsD (base : Nat) (K : Nat) (v : Value) (w : World) : Prop := ∃ l : List Mem, l.length ≤ K ∧ w.ownsRow base 33 3 v l.length (l.flatMap encMem)

set_option maxHeartbeats 4000000 in
theorem drawMembers (g : Nat) (P n : Int) (w : World) (hs : Src g P w) (hP : P ≤ 800000) (hn : n ≤ 1000000) :
    Calls Try.prog 40 #[.pointer (some ⟨g, 0, none⟩), .int .i64 n] w (RetD g P 30 (MemsD w.heap.size 7) w) := by
  have hg := hs.lt
  go_enter Try.func40, Try.ntmps40
  go_wp2_with fail
  have hS0 := (Step.refl g w).alloc (.cells #[] 33)
  have hs1 := hs.ext ((Ext.refl w).alloc (.cells #[] 33))
  have hown : (w.alloc (.cells #[] 33)).ownsRow w.heap.size 33 3 (.slice (some ⟨w.heap.size, 0, none⟩) 0 0) 0 (([] : List Mem).flatMap encMem) := owns_lit_new [] encMem_len rfl rfl (by omega) (Nat.le_refl _)
  generalize (w.alloc (.cells #[] 33)) = w1 at *
  refine (pick_any g P 7 _ hs1 (by omega)).mono ?_
  rintro e w2 ⟨v, rfl, ⟨q, rfl, q0, q1, _⟩, hs2, hS⟩
  replace hS0 := hS0.trans hS
  replace hown := ownsRow_step hown hS hg
  obtain ⟨qn, rfl⟩ : ∃ k : Nat, q = k := ⟨q.toNat, by omega⟩
  have q7 : qn < 7 := by have := q1 (by omega); omega
  clear q1 hS hs1 q0
  go_wp2
  go_loopw [5, 7] (fun vo i wr => ∃ l : List Mem, l.length ≤ qn ∧ i = .int .i64 (l.length : Int) ∧ wr.ownsRow w.heap.size 33 3 vo l.length (l.flatMap encMem) ∧ Src g (P + 1) wr ∧ Step g w wr) (fun _ i _ => qn - (intOf i).toNat)
  case atStart => exact ⟨[], by simp, rfl, hown, hs2, hS0⟩
  case round =>
    obtain ⟨l, hkl, rfl, hown, hs3, hS⟩ := hrel
    by_cases h0 : l.length < qn
    · have h0' : (l.length : Int) < (qn : Int) := by omega
      have hw : IntKind.i64.wrap ((l.length : Int) + 1) = (l.length : Int) + 1 := IntWalk.i64_in _ (by omega)
      have E2 := (Ext.refl _).alloc (a := wr) (.cells #[.int .i64 ((l.length : Int) + 1), .int .i64 1, .int .i64 1] 33)
      have rdm : Rd 3 encMem (wr.alloc (.cells #[.int .i64 ((l.length : Int) + 1), .int .i64 1, .int .i64 1] 33)) (some ⟨wr.heap.size, 0, none⟩) [⟨(l.length : Int) + 1, 1, 1⟩] := rd_lit_new [⟨(l.length : Int) + 1, 1, 1⟩] encMem_len rfl
      replace hown := ownsRow_ext hown E2
      replace hS := hS.ext E2
      replace hs3 := hs3.ext E2
      go_wp2_with (at_builtin; refine wpList_append_rd rfl _ _ 25 rfl w.heap.size 33 _ 3 _ Try.underlying25 infoMem rfl (by decide) encMem_len encMem_one _ l.length l rfl hown rfl _ 1 1 [⟨(l.length : Int) + 1, 1, 1⟩] rfl rfl rdm (by omega) (by omega) hS.size ?_)
      intro v' w5 hown' hgr
      replace hS := hS.row hgr (fun i h => (hown.lt i h).1)
      replace hs3 := hs3.row hgr (fun i h => by have := (hown.lt i h).1; omega)
      clear hown hgr rdm E2
      go_wp2
      go_roundw
      case rel => exact ⟨l ++ [⟨(l.length : Int) + 1, 1, 1⟩], by simp; omega, by simp, by simpa using hown', hs3, hS⟩
      case measure => simp [intOf]; omega
    · have h0' : ¬ (l.length : Int) < (qn : Int) := by omega
      go_wp2_with fail
      refine (pick_any g (P + 1) 7 _ hs3 (by omega)).mono ?_
      rintro e w3 ⟨v, rfl, ⟨p, rfl, p0, p1, _⟩, hs4, hS4⟩
      replace hS := hS.trans hS4
      replace hown := ownsRow_step hown hS4 hg
      obtain ⟨pn, rfl⟩ : ∃ k : Nat, p = k := ⟨p.toNat, by omega⟩
      have p7 : pn < 7 := by have := p1 (by omega); omega
      have hl6 : l.length ≤ 6 := by omega
      clear p1 hS4 hs3 p0 hs2 hS0 hkl h0 h0' q7
      go_wp2
      go_loopw [5, 8, 9, 10, 11, 12, 13] (fun vo i _ _ _ _ _ wr => ∃ (k : Nat) (l : List Mem), k ≤ 6 ∧ l.length ≤ 6 ∧ i = .int .i64 (k : Int) ∧ wr.ownsRow w.heap.size 33 3 vo l.length (l.flatMap encMem) ∧ Src g (P + 2 + (6 - (k : Int)) * 4) wr ∧ Step g w wr) (fun _ i _ _ _ _ _ _ => (intOf i).toNat)
      case atStart => exact ⟨pn, l, by omega, hl6, rfl, hown, hs4.mono (by omega), hS⟩
      case round =>
        obtain ⟨k, l, hk6, hl6, rfl, hown, hs3, hS⟩ := hrel
        obtain ⟨a, cap, rfl, hlcap, hrd, _⟩ := view_owns encMem_len hown
        by_cases h0 : 0 < k
        · obtain ⟨m, rfl⟩ : ∃ m, k = m + 1 := ⟨k - 1, by omega⟩
          have h0' : (0 : Int) < ((m + 1 : Nat) : Int) := by omega
          have hw : IntKind.i64.wrap (((m + 1 : Nat) : Int) - 1) = (m : Int) := by rw [show ((m + 1 : Nat) : Int) - 1 = m by omega]; exact IntWalk.i64_in _ (by omega)
          go_wp2_with fail
          refine (pick_any g _ 6 _ hs3 (by omega)).mono ?_
          rintro e w3 ⟨v, rfl, ⟨x, rfl, x0, x1, _⟩, hs4, hS4⟩
          replace hS := hS.trans hS4
          replace hown := ownsRow_step hown hS4 hg
          have hx : 1 + x < 7 := by have := x1 (by omega); omega
          have hwx : IntKind.i64.wrap (1 + x) = 1 + x := IntWalk.i64_in _ (by omega)
          clear x1 hS4 hs3
          go_wp2_with fail
          refine (pick_any g _ 3 _ hs4 (by omega)).mono ?_
          rintro e w4 ⟨v, rfl, ⟨y, rfl, y0, y1, _⟩, hs5, hS4⟩
          replace hS := hS.trans hS4
          replace hown := ownsRow_step hown hS4 hg
          clear y1 hS4 hs4 hrd
          have hrd := rd_owns encMem_len hown rfl
          by_cases hy : y = 0
          · have ty : (y == 0) = true := by simpa using hy
            go_wp2_with fail
            refine (specNewSession a cap l (1 + x) w4 (by omega) hrd).mono ?_
            rintro e w5 ⟨v, L, ok, rfl, hR, hown5, hE⟩
            have hL := newR_le hR
            clear hR
            have hown6 := ownsRow_base hown5 hS.size
            replace hS := hS.ext hE
            replace hs5 := hs5.ext hE
            go_wp2
            go_roundw
            case rel => exact ⟨m, L, by omega, by omega, by go_num, hown6, hs5.mono (by omega), hS⟩
            case measure => simp [intOf]
          · have ty : (y == 0) = false := by simpa using hy
            go_wp2_with fail
            refine (pick_any g _ 6 _ hs5 (by omega)).mono ?_
            rintro e w5 ⟨v, rfl, ⟨z, rfl, z0, z1, _⟩, hs6, hS4⟩
            replace hS := hS.trans hS4
            replace hown := ownsRow_step hown hS4 hg
            have hz : 1 + z < 7 := by have := z1 (by omega); omega
            have hwz : IntKind.i64.wrap (1 + z) = 1 + z := IntWalk.i64_in _ (by omega)
            clear z1 hS4 hs5 hrd
            go_wp2_with fail
            have hlit : Rd 1 encInt1 (w5.alloc (.cells #[.int .i64 (1 + x), .int .i64 (1 + z)] 3)) (some ⟨w5.heap.size, 0, none⟩) [1 + x, 1 + z] := rd_lit_new _ (fun _ => rfl) rfl
            have hE := (Ext.refl w5).alloc (.cells #[.int .i64 (1 + x), .int .i64 (1 + z)] 3)
            have hne : w5.heap.size ≠ g := by have := hs6.lt; omega
            have hll : ([1 + x, 1 + z] : List Int).length = 2 := rfl
            generalize ([1 + x, 1 + z] : List Int) = LL at *
            replace hs6 := hs6.ext hE
            replace hS := hS.ext hE
            replace hown := ownsRow_ext hown hE
            generalize (w5.alloc (.cells #[.int .i64 (1 + x), .int .i64 (1 + z)] 3)) = w6 at *
            refine (pick_any g _ 2 _ hs6 (by omega)).mono ?_
            rintro e w7 ⟨v, rfl, ⟨i, rfl, i0, i1, _⟩, hs7, hS4⟩
            replace hS := hS.trans hS4
            replace hown := ownsRow_step hown hS4 hg
            replace hlit := hlit.step hS4 (fun _ b off h => by cases h; exact hne)
            replace i1 := i1 (by omega)
            obtain ⟨j, rfl⟩ : ∃ k : Nat, i = k := ⟨i.toNat, by omega⟩
            obtain ⟨u, _, hcell⟩ := lit_at hlit (k := j) (by omega)
            have c0 : w7.cell? ⟨w5.heap.size, j, none⟩ = some (.int .i64 u) := by simpa using hcell 0 _ rfl
            clear hcell hlit hE hS4
            have hrd := rd_owns encMem_len hown rfl
            go_wp2_with fail
            refine (specJoinGroup a cap l (1 + x) u w7 (by omega) hrd).mono ?_
            rintro e w8 ⟨v, L, ok, rfl, hR, hown8, hE⟩
            have hL := joinR_le hR
            clear hR
            have hown9 := ownsRow_base hown8 hS.size
            replace hS := hS.ext hE
            replace hs7 := hs7.ext hE
            go_wp2
            go_roundw
            case rel => exact ⟨m, L, by omega, by omega, by go_num, hown9, hs7.mono (by omega), hS⟩
            case measure => simp [intOf]
        · obtain rfl : k = 0 := by omega
          go_wp2_with fail
          refine (odd_any g _ n wr hs3 (by omega) hn).mono ?_
          rintro e w4 ⟨v, rfl, ⟨b, rfl, hb⟩, hs4, hS4⟩
          replace hS := hS.trans hS4
          replace hown := ownsRow_step hown hS4 hg
          clear hS4 hs3 hb
          cases b with
          | false =>
            go_wp2
            go_ret
            exact RetD.mk ⟨l, by omega, hown⟩ hs4 (by omega) hS
          | true =>
            go_wp2_with fail
            have hlit : Rd 3 encMem (w4.alloc (.cells #[.int .i64 0, .int .i64 0, .int .i64 0, .int .i64 100, .int .i64 1, .int .i64 1, .int .i64 50, .int .i64 1, .int .i64 2, .int .i64 50, .int .i64 50, .int .i64 0] 33)) (some ⟨w4.heap.size, 0, none⟩) ([⟨0, 0, 0⟩, ⟨100, 1, 1⟩, ⟨50, 1, 2⟩, ⟨50, 50, 0⟩] : List Mem) := rd_lit_new _ encMem_len rfl
            have hE := (Ext.refl w4).alloc (.cells #[.int .i64 0, .int .i64 0, .int .i64 0, .int .i64 100, .int .i64 1, .int .i64 1, .int .i64 50, .int .i64 1, .int .i64 2, .int .i64 50, .int .i64 50, .int .i64 0] 33)
            have hne : w4.heap.size ≠ g := by have := hs4.lt; omega
            have hll : ([⟨0, 0, 0⟩, ⟨100, 1, 1⟩, ⟨50, 1, 2⟩, ⟨50, 50, 0⟩] : List Mem).length = 4 := rfl
            generalize ([⟨0, 0, 0⟩, ⟨100, 1, 1⟩, ⟨50, 1, 2⟩, ⟨50, 50, 0⟩] : List Mem) = LL at *
            replace hs4 := hs4.ext hE
            replace hS := hS.ext hE
            replace hown := ownsRow_ext hown hE
            generalize (w4.alloc (.cells #[.int .i64 0, .int .i64 0, .int .i64 0, .int .i64 100, .int .i64 1, .int .i64 1, .int .i64 50, .int .i64 1, .int .i64 2, .int .i64 50, .int .i64 50, .int .i64 0] 33)) = w5 at *
            refine (pick_any g _ 4 _ hs4 (by omega)).mono ?_
            rintro e w6 ⟨v, rfl, ⟨i, rfl, i0, i1, _⟩, hs5, hS4⟩
            replace hS := hS.trans hS4
            replace hown := ownsRow_step hown hS4 hg
            replace hlit := hlit.step hS4 (fun _ b off h => by cases h; exact hne)
            replace i1 := i1 (by omega)
            obtain ⟨j, rfl⟩ : ∃ k : Nat, i = k := ⟨i.toNat, by omega⟩
            obtain ⟨x, _, hcell⟩ := lit_at hlit (k := j) (by omega)
            have c0 : w6.cell? ⟨w4.heap.size, j * 3, none⟩ = some (.int .i64 x.num) := hcell 0 _ rfl
            have c1 : w6.cell? ⟨w4.heap.size, j * 3 + 1, none⟩ = some (.int .i64 x.grp) := hcell 1 _ rfl
            have c2 : w6.cell? ⟨w4.heap.size, j * 3 + 2, none⟩ = some (.int .i64 x.ses) := hcell 2 _ rfl
            clear hcell hlit hE hS4 hs4 hrd
            have E2 := (Ext.refl _).alloc (a := w6) (.cells #[.int .i64 x.num, .int .i64 x.grp, .int .i64 x.ses] 33)
            have rdm : Rd 3 encMem (w6.alloc (.cells #[.int .i64 x.num, .int .i64 x.grp, .int .i64 x.ses] 33)) (some ⟨w6.heap.size, 0, none⟩) [x] := rd_lit_new [x] encMem_len rfl
            replace hown := ownsRow_ext hown E2
            replace hS := hS.ext E2
            replace hs5 := hs5.ext E2
            go_wp2_with (at_builtin; refine wpList_append_rd rfl _ _ 25 rfl w.heap.size 33 _ 3 _ Try.underlying25 infoMem rfl (by decide) encMem_len encMem_one _ l.length l rfl hown rfl _ 1 1 [x] rfl rfl rdm (by omega) (by omega) hS.size ?_)
            intro v' w7 hown' hgr
            replace hS := hS.row hgr (fun i h => (hown.lt i h).1)
            replace hs5 := hs5.row hgr (fun i h => by have := (hown.lt i h).1; omega)
            clear hown hgr rdm E2
            go_wp2
            go_ret
            exact RetD.mk ⟨l ++ [x], by simp; omega, by simpa using hown'⟩ hs5 (by omega) hS

set_option maxHeartbeats 1000000 in
theorem drawMembersValid (a : Option Addr) (cap : Nat) (l : List Int) (w : World) (hl : l.length ≤ 9223372036854775807) (hcap : l.length ≤ cap) (hu : ∀ x ∈ l, 0 ≤ x ∧ x ≤ 255) (hc : Rd 1 encU8 w a l) :
    Calls Try.prog 16 #[.slice a l.length cap] w (RetV (MemsD w.heap.size 7) w) := by
  go_enter Try.func16, Try.ntmps16
  go_wp2_with fail
  refine (open_any a cap l w hl hcap hu hc).mono ?_
  rintro e w1 ⟨v, rfl, ⟨rfl, hs⟩, E⟩
  go_wp2_with fail
  refine (drawMembers _ _ _ _ hs (by omega) (by omega)).mono ?_
  rintro e w2 ⟨v, rfl, ⟨L, h1, h3⟩, hs2, hS⟩
  go_wp2
  go_ret
  exact RetV.mk ⟨L, h1, ownsRow_base h3 E.size⟩ (hS.toExt E (Nat.le_refl _))
end Go.Proofs.Ytlmelknadappbaa
