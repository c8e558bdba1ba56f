/- FnExactLeaveGate: the walk. No condition but that the queue is shorter than 2^63. -/
import Derived.Test.YtcnghlmndahfpaaGateH
import Derived.Test.YtcnghlmndahfpaaGateM
namespace Go.Proofs.Ytcnghlmndahfpaa
open Go.RowKit

set_option maxRecDepth 10000 in
set_option maxHeartbeats 8000000 in
theorem exactLeaveGate_any (f : Int) (a : Option Addr) (cap : Nat) (l : List Int) (hl : l.length ≤ 9223372036854775807) (w : World) (hc : Rd 1 encInt1 w a l) :
    Calls Try.prog 6 #[.agg #[.int .i64 f, .slice a l.length cap]] w (RetB True w) := by
  go_enter Try.func6, Try.ntmps6
  have S := Sep.start w
  replace S : Sep w (w.alloc (.cells #[.int .i64 f, .slice a l.length cap] 24)) [plBox w.heap.size #[.int .i64 f, .slice a l.length cap] 24] := S.alloc_at (by simp) _ _
  go_wp2_with fail
  generalize (w.alloc (.cells #[.int .i64 f, .slice a l.length cap] 24)) = w1 at *
  refine (szGate_any f a cap l 1048576 w1 (by omega) (by omega) hl).mono ?_
  rintro e w2 ⟨r, rfl, hra, hrb, hrc, hb⟩
  have Hrc := Lib.hid hrc
  clear hrc
  replace S : Sep w w2 [plBox w.heap.size #[.int .i64 f, .slice a l.length cap] 24] := S.step hb
  clear hb
  by_cases hneg : r < 0
  · go_wp2
    go_ret
    exact RetB.mk true rfl (by simp) S.ext
  have hll : l.length ≤ 1048576 := Hrc.out (by omega)
  clear Hrc
  obtain ⟨arc0, arf0⟩ := bx (S.box 0 rfl) 0 rfl
  obtain ⟨arc1, arf1⟩ := bx (S.box 0 rfl) 1 rfl
  go_wp2_with fail
  refine (toGate_any f a cap l w2 hll (hc.ext S.ext)).mono ?_
  rintro e w3 ⟨v3, rfl, ⟨u3, rfl, ho⟩, hE⟩
  obtain ⟨a3, cap3, rfl, hcap3, hrd3, _⟩ := view_owns encInt1_len ho
  have T := Sep.of_owns hE ho
  clear hE ho
  clear arc0 arf0 arc1 arf1
  replace S : Sep w w3 [plRow 3 1 encInt1 (.slice a3 l.length cap3) l, plBox w.heap.size #[.int .i64 f, .slice a l.length cap] 24] := S.call T
  clear T
  go_wp2_with fail
  refine (specLeaveGate f a3 cap3 l w3 hll hrd3).mono ?_
  rintro e w4 hres
  obtain ⟨f4, a4, L4, cap4, n4, rfl, hR4, hrd4, hbl, hcap4, hE⟩ : RetGV _ _ _ _ := hres
  have T := Sep.of_view hE hrd4 hbl
  have hL4 : L4.length ≤ 1048576 := leaR_len hR4 hll
  have HR4 := Lib.hid hR4
  clear hE hrd4 hbl hrd3 hcap3 hR4
  replace S : Sep w w4 [plView 1 encInt1 a4 L4, plRow 3 1 encInt1 (.slice a3 l.length cap3) l, plBox w.heap.size #[.int .i64 f, .slice a l.length cap] 24] := S.call T
  clear T
  replace S : Sep w w4 [plView 1 encInt1 a4 L4, plBox w.heap.size #[.int .i64 f, .slice a l.length cap] 24] := S.drop 1
  replace S : Sep w (w4.alloc (.cells #[.int .i64 f4, .slice a4 L4.length cap4] 27)) [plBox w4.heap.size #[.int .i64 f4, .slice a4 L4.length cap4] 27, plView 1 encInt1 a4 L4, plBox w.heap.size #[.int .i64 f, .slice a l.length cap] 24] := S.alloc_at (by simp) _ _
  obtain ⟨arc0, arf0⟩ := bx (S.box 2 rfl) 0 rfl
  obtain ⟨arc1, arf1⟩ := bx (S.box 2 rfl) 1 rfl
  go_wp2_with fail
  generalize (w4.alloc (.cells #[.int .i64 f4, .slice a4 L4.length cap4] 27)) = w5 at *
  refine (toGate_any f a cap l w5 hll (hc.ext S.ext)).mono ?_
  rintro e w6 ⟨v6, rfl, ⟨u6, rfl, ho⟩, hE⟩
  obtain ⟨a6, cap6, rfl, hcap6, _, _⟩ := view_owns encInt1_len ho
  have T := Sep.of_owns hE ho
  clear hE ho
  clear arc0 arf0 arc1 arf1
  replace S : Sep w w6 [plRow 3 1 encInt1 (.slice a6 l.length cap6) l, plBox w4.heap.size #[.int .i64 f4, .slice a4 L4.length cap4] 27, plView 1 encInt1 a4 L4, plBox w.heap.size #[.int .i64 f, .slice a l.length cap] 24] := S.call T
  clear T
  replace S : Sep w (w6.alloc (.cells #[.int .i64 f, .slice a6 l.length cap6] 27)) [plBox w6.heap.size #[.int .i64 f, .slice a6 l.length cap6] 27, plRow 3 1 encInt1 (.slice a6 l.length cap6) l, plBox w4.heap.size #[.int .i64 f4, .slice a4 L4.length cap4] 27, plView 1 encInt1 a4 L4, plBox w.heap.size #[.int .i64 f, .slice a l.length cap] 24] := S.alloc_at (by simp) _ _
  go_wp2_with fail
  generalize (w6.alloc (.cells #[.int .i64 f, .slice a6 l.length cap6] 27)) = w7 at *
  refine (implLeaveGate f a6 cap6 l w7 hll hcap6 (S.rd 1 encInt1_len rfl rfl)).mono ?_
  rintro e w8 ⟨f8, u8, L8, n8, rfl, hR8, ho, hE⟩
  obtain ⟨rfl, rfl, rfl⟩ := leaR_fun HR4.out hR8
  obtain ⟨a8, cap8, rfl, hcap8, _, _⟩ := view_owns encInt1_len ho
  have T := Sep.of_owns hE ho
  clear hE ho hR8
  replace S : Sep w w8 [plRow 3 1 encInt1 (.slice a8 L4.length cap8) L4, plBox w6.heap.size #[.int .i64 f, .slice a6 l.length cap6] 27, plRow 3 1 encInt1 (.slice a6 l.length cap6) l, plBox w4.heap.size #[.int .i64 f4, .slice a4 L4.length cap4] 27, plView 1 encInt1 a4 L4, plBox w.heap.size #[.int .i64 f, .slice a l.length cap] 24] := S.call T
  clear T
  replace S : Sep w (w8.alloc (.cells #[.int .i64 f4, .slice a8 L4.length cap8] 27)) [plBox w8.heap.size #[.int .i64 f4, .slice a8 L4.length cap8] 27, plRow 3 1 encInt1 (.slice a8 L4.length cap8) L4, plBox w6.heap.size #[.int .i64 f, .slice a6 l.length cap6] 27, plRow 3 1 encInt1 (.slice a6 l.length cap6) l, plBox w4.heap.size #[.int .i64 f4, .slice a4 L4.length cap4] 27, plView 1 encInt1 a4 L4, plBox w.heap.size #[.int .i64 f, .slice a l.length cap] 24] := S.alloc_at (by simp) _ _
  obtain ⟨bwc0, bwf0⟩ := bx (S.box 4 rfl) 0 rfl
  obtain ⟨bwc1, bwf1⟩ := bx (S.box 4 rfl) 1 rfl
  have tb : (n4 != n4) = false := by simp
  go_wp2_with fail
  generalize (w8.alloc (.cells #[.int .i64 f4, .slice a8 L4.length cap8] 27)) = w9 at *
  refine (eqGate_any f4 f4 a8 a4 cap8 cap4 L4 L4 w9 (by omega) (by omega) (S.rd 1 encInt1_len rfl rfl) (S.see 5 rfl)).mono ?_
  rintro e w10 ⟨b, rfl, hb, hE⟩
  obtain rfl : b = true := hb.2 ⟨rfl, rfl⟩
  clear hb
  clear bwc0 bwf0 bwc1 bwf1
  replace S : Sep w w10 [plBox w8.heap.size #[.int .i64 f4, .slice a8 L4.length cap8] 27, plRow 3 1 encInt1 (.slice a8 L4.length cap8) L4, plBox w6.heap.size #[.int .i64 f, .slice a6 l.length cap6] 27, plRow 3 1 encInt1 (.slice a6 l.length cap6) l, plBox w4.heap.size #[.int .i64 f4, .slice a4 L4.length cap4] 27, plView 1 encInt1 a4 L4, plBox w.heap.size #[.int .i64 f, .slice a l.length cap] 24] := S.step hE
  clear hE
  obtain ⟨arc0, arf0⟩ := bx (S.box 6 rfl) 0 rfl
  obtain ⟨arc1, arf1⟩ := bx (S.box 6 rfl) 1 rfl
  obtain ⟨bxc0, bxf0⟩ := bx (S.box 2 rfl) 0 rfl
  obtain ⟨bxc1, bxf1⟩ := bx (S.box 2 rfl) 1 rfl
  obtain ⟨bgc0, bgf0⟩ := bx (S.box 0 rfl) 0 rfl
  obtain ⟨bgc1, bgf1⟩ := bx (S.box 0 rfl) 1 rfl
  obtain ⟨bwc0, bwf0⟩ := bx (S.box 4 rfl) 0 rfl
  obtain ⟨bwc1, bwf1⟩ := bx (S.box 4 rfl) 1 rfl
  go_upto_region 10 with fail
  have hx0 : Rd 1 encInt1 w10.drew a6 l := (S.rd 3 encInt1_len rfl rfl).ext (Ext.refl _).drew
  have Ed := S.ext.drew
  refine wp_region_v 5 (V := fun i v wv => match i with
    | 0 => v = .agg #[.int .i64 f, .slice a6 l.length cap6]
    | 1 => v = .agg #[.int .i64 f, .slice a l.length cap]
    | 2 => GateN w.heap.size f l v wv
    | 3 => v = .bool true
    | 4 => v = .bool false
    | _ => True) rfl (by decide) (by kernel_rfl) (by kernel_rfl) (by kernel_rfl) ?_ ?_ ?_
  · intro i v w2 w3 h hE
    match i with
    | 0 => exact h
    | 1 => exact h
    | 2 => obtain ⟨u, h1, h2⟩ := h; exact ⟨u, h1, ownsRow_ext h2 hE⟩
    | 3 => exact h
    | 4 => exact h
    | (n + 5) => trivial
  · intro i o hi ho vs w7 hvl hE hd
    have c0 := cell_ext hE (show w10.drew.cell? _ = _ from arc0)
    have c1 := cell_ext hE (show w10.drew.cell? _ = _ from arc1)
    have c2 := cell_ext hE (show w10.drew.cell? _ = _ from bxc0)
    have c3 := cell_ext hE (show w10.drew.cell? _ = _ from bxc1)
    have hr4 := hx0.ext hE
    have E7 := Ed.trans hE
    clear arc0 arf0 arc1 arf1 bxc0 bxf0 bxc1 bxf1 bgc0 bgf0 bgc1 bgf1 bwc0 bwf0 bwc1 bwf1
    match vs, hvl with
    | [x0, x1, x2, x3, x4], _ =>
    rcases (show i = 0 ∨ i = 1 ∨ i = 2 ∨ i = 3 ∨ i = 4 by omega) with rfl | rfl | rfl | rfl | rfl
    all_goals
      simp only [List.getElem?_cons_zero, List.getElem?_cons_succ, Option.some.injEq] at ho
      subst ho
      simp [Waits, Region.binds] at hd
    · simp [putAll, Act.put]
      go_wp2
      exact ⟨rfl, _, rfl, rfl, Ext.refl _⟩
    · simp [putAll, Act.put]
      go_wp2
      exact ⟨rfl, _, rfl, rfl, Ext.refl _⟩
    · simp [putAll, Act.put, hd]
      go_wp2_with fail
      refine (toGate_any f a cap l w7 hll (hc.ext E7)).mono ?_
      rintro e w8 ⟨v, rfl, ⟨u, rfl, hown⟩, hb⟩
      have h9 : GateN w.heap.size f l (.agg #[.int .i64 f, u]) w8 := ⟨u, rfl, ownsRow_base hown E7.size⟩
      go_wp2
      exact ⟨rfl, _, rfl, h9, hb⟩
    · obtain ⟨hd0, u, hd1, hown⟩ := hd
      obtain ⟨a8, cap8, rfl, hcap8, hrd8, _⟩ := view_owns encInt1_len hown
      subst hd0 hd1
      simp [putAll, Act.put]
      go_wp2_with fail
      refine (eqGate_any f f a6 a8 cap6 cap8 l l w7 hl hl hr4 hrd8).mono ?_
      rintro e w8 ⟨b8, rfl, hb8, hb⟩
      obtain rfl : b8 = true := hb8.2 ⟨rfl, rfl⟩
      clear hb8
      go_wp2
      exact ⟨rfl, _, rfl, rfl, hb⟩
    · simp [putAll, Act.put, hd]
      go_wp2
      exact ⟨rfl, _, rfl, rfl, Ext.refl _⟩
  intro vs w11 hvl hE hV
  match vs, hvl with
  | [x0, x1, x2, x3, x4], _ =>
  have e4 := hV 4 (by omega)
  clear hV
  simp at e4
  subst e4
  simp only [putAll, Act.put, List.take_succ_cons, List.take_zero, List.drop_succ_cons, List.drop_zero]
  simp
  replace hE := Ext.trans (Ext.refl w10).drew hE
  clear hx0 Ed
  clear arc0 arf0 arc1 arf1 bxc0 bxf0 bxc1 bxf1 bgc0 bgf0 bgc1 bgf1 bwc0 bwf0 bwc1 bwf1
  replace S : Sep w w11 [plBox w8.heap.size #[.int .i64 f4, .slice a8 L4.length cap8] 27, plRow 3 1 encInt1 (.slice a8 L4.length cap8) L4, plBox w6.heap.size #[.int .i64 f, .slice a6 l.length cap6] 27, plRow 3 1 encInt1 (.slice a6 l.length cap6) l, plBox w4.heap.size #[.int .i64 f4, .slice a4 L4.length cap4] 27, plView 1 encInt1 a4 L4, plBox w.heap.size #[.int .i64 f, .slice a l.length cap] 24] := S.step hE
  clear hE
  -- the arguments are marked, the results are as before
  obtain ⟨bxc0, bxf0⟩ := bx (S.box 2 rfl) 0 rfl
  obtain ⟨bxc1, bxf1⟩ := bx (S.box 2 rfl) 1 rfl
  go_wp2_with fail
  refine (markGate_own f _ l 1 w11 hll (by omega) (by omega) (S.at_ 3 rfl)).mono ?_
  rintro e w12 ⟨rfl, hq, hgr⟩
  clear bxc0 bxf0 bxc1 bxf1
  replace S : Sep w w12 [plBox w8.heap.size #[.int .i64 f4, .slice a8 L4.length cap8] 27, plRow 3 1 encInt1 (.slice a8 L4.length cap8) L4, plBox w6.heap.size #[.int .i64 f, .slice a6 l.length cap6] 27, plRow 3 1 encInt1 (.slice a6 l.length cap6) (marksInt l.length 1), plBox w4.heap.size #[.int .i64 f4, .slice a4 L4.length cap4] 27, plView 1 encInt1 a4 L4, plBox w.heap.size #[.int .i64 f, .slice a l.length cap] 24] := S.grow 3 rfl hgr hq (fun b h => .inl h)
  clear hgr hq
  have k0 : ¬ (1 + (l.length : Int) < 0) := by omega
  obtain ⟨bgc0, bgf0⟩ := bx (S.box 0 rfl) 0 rfl
  obtain ⟨bgc1, bgf1⟩ := bx (S.box 0 rfl) 1 rfl
  obtain ⟨bwc0, bwf0⟩ := bx (S.box 4 rfl) 0 rfl
  obtain ⟨bwc1, bwf1⟩ := bx (S.box 4 rfl) 1 rfl
  go_wp2_with fail
  refine (eqGate_any f4 f4 a8 a4 cap8 cap4 L4 L4 w12 (by omega) (by omega) (S.rd 1 encInt1_len rfl rfl) (S.see 5 rfl)).mono ?_
  rintro e w13 ⟨b, rfl, hb, hE⟩
  obtain rfl : b = true := hb.2 ⟨rfl, rfl⟩
  clear hb
  clear bgc0 bgf0 bgc1 bgf1 bwc0 bwf0 bwc1 bwf1
  replace S : Sep w w13 [plBox w8.heap.size #[.int .i64 f4, .slice a8 L4.length cap8] 27, plRow 3 1 encInt1 (.slice a8 L4.length cap8) L4, plBox w6.heap.size #[.int .i64 f, .slice a6 l.length cap6] 27, plRow 3 1 encInt1 (.slice a6 l.length cap6) (marksInt l.length 1), plBox w4.heap.size #[.int .i64 f4, .slice a4 L4.length cap4] 27, plView 1 encInt1 a4 L4, plBox w.heap.size #[.int .i64 f, .slice a l.length cap] 24] := S.step hE
  clear hE
  obtain ⟨bgc0, bgf0⟩ := bx (S.box 0 rfl) 0 rfl
  obtain ⟨bgc1, bgf1⟩ := bx (S.box 0 rfl) 1 rfl
  go_wp2_with fail
  refine (markGate_own f4 _ L4 1 w13 hL4 (by omega) (by omega) (S.at_ 1 rfl)).mono ?_
  rintro e w14 ⟨rfl, hq, hgr⟩
  clear bgc0 bgf0 bgc1 bgf1
  replace S : Sep w w14 [plBox w8.heap.size #[.int .i64 f4, .slice a8 L4.length cap8] 27, plRow 3 1 encInt1 (.slice a8 L4.length cap8) (marksInt L4.length 1), plBox w6.heap.size #[.int .i64 f, .slice a6 l.length cap6] 27, plRow 3 1 encInt1 (.slice a6 l.length cap6) (marksInt l.length 1), plBox w4.heap.size #[.int .i64 f4, .slice a4 L4.length cap4] 27, plView 1 encInt1 a4 L4, plBox w.heap.size #[.int .i64 f, .slice a l.length cap] 24] := S.grow 1 rfl hgr hq (fun b h => .inl h)
  clear hgr hq
  obtain ⟨bgc0, bgf0⟩ := bx (S.box 0 rfl) 0 rfl
  obtain ⟨bgc1, bgf1⟩ := bx (S.box 0 rfl) 1 rfl
  go_wp2_with fail
  refine (heldGate_any f4 a8 cap8 L4.length 1 w14 hL4 (by omega) (by omega) (S.rd 1 encInt1_len rfl (by simp [marksInt_len]))).mono ?_
  rintro e w15 ⟨rfl, hE⟩
  clear bgc0 bgf0 bgc1 bgf1
  replace S : Sep w w15 [plBox w8.heap.size #[.int .i64 f4, .slice a8 L4.length cap8] 27, plRow 3 1 encInt1 (.slice a8 L4.length cap8) (marksInt L4.length 1), plBox w6.heap.size #[.int .i64 f, .slice a6 l.length cap6] 27, plRow 3 1 encInt1 (.slice a6 l.length cap6) (marksInt l.length 1), plBox w4.heap.size #[.int .i64 f4, .slice a4 L4.length cap4] 27, plView 1 encInt1 a4 L4, plBox w.heap.size #[.int .i64 f, .slice a l.length cap] 24] := S.step hE
  clear hE
  have k1 : ¬ (1 + (L4.length : Int) < 0) := by omega
  have k2 : ((1 + (L4.length : Int)) != 1 + (L4.length : Int)) = false := by simp
  obtain ⟨arc0, arf0⟩ := bx (S.box 6 rfl) 0 rfl
  obtain ⟨arc1, arf1⟩ := bx (S.box 6 rfl) 1 rfl
  go_wp2_with fail
  refine (toGate_any f a cap l w15 hll (hc.ext S.ext)).mono ?_
  rintro e w16 ⟨v16, rfl, ⟨u16, rfl, ho⟩, hE⟩
  obtain ⟨a16, cap16, rfl, hcap16, hrd16, _⟩ := view_owns encInt1_len ho
  have T := Sep.of_owns hE ho
  clear hE ho
  clear arc0 arf0 arc1 arf1
  replace S : Sep w w16 [plRow 3 1 encInt1 (.slice a16 l.length cap16) l, plBox w8.heap.size #[.int .i64 f4, .slice a8 L4.length cap8] 27, plRow 3 1 encInt1 (.slice a8 L4.length cap8) (marksInt L4.length 1), plBox w6.heap.size #[.int .i64 f, .slice a6 l.length cap6] 27, plRow 3 1 encInt1 (.slice a6 l.length cap6) (marksInt l.length 1), plBox w4.heap.size #[.int .i64 f4, .slice a4 L4.length cap4] 27, plView 1 encInt1 a4 L4, plBox w.heap.size #[.int .i64 f, .slice a l.length cap] 24] := S.call T
  clear T
  replace S : Sep w w16 [plBox w8.heap.size #[.int .i64 f4, .slice a8 L4.length cap8] 27, plRow 3 1 encInt1 (.slice a8 L4.length cap8) (marksInt L4.length 1), plBox w6.heap.size #[.int .i64 f, .slice a6 l.length cap6] 27, plRow 3 1 encInt1 (.slice a6 l.length cap6) (marksInt l.length 1), plBox w4.heap.size #[.int .i64 f4, .slice a4 L4.length cap4] 27, plView 1 encInt1 a4 L4, plBox w.heap.size #[.int .i64 f, .slice a l.length cap] 24] := S.drop 0
  go_wp2_with fail
  refine (implLeaveGate f a16 cap16 l w16 hll hcap16 hrd16).mono ?_
  rintro e w17 ⟨f17, u17, L17, n17, rfl, hR17, ho, hE⟩
  obtain ⟨rfl, rfl, rfl⟩ := leaR_fun HR4.out hR17
  obtain ⟨a17, cap17, rfl, hcap17, _, _⟩ := view_owns encInt1_len ho
  have T := Sep.of_owns hE ho
  clear hE ho hR17 hrd16
  replace S : Sep w w17 [plRow 3 1 encInt1 (.slice a17 L4.length cap17) L4, plBox w8.heap.size #[.int .i64 f4, .slice a8 L4.length cap8] 27, plRow 3 1 encInt1 (.slice a8 L4.length cap8) (marksInt L4.length 1), plBox w6.heap.size #[.int .i64 f, .slice a6 l.length cap6] 27, plRow 3 1 encInt1 (.slice a6 l.length cap6) (marksInt l.length 1), plBox w4.heap.size #[.int .i64 f4, .slice a4 L4.length cap4] 27, plView 1 encInt1 a4 L4, plBox w.heap.size #[.int .i64 f, .slice a l.length cap] 24] := S.call T
  clear T
  replace S : Sep w (w17.alloc (.cells #[.int .i64 f4, .slice a17 L4.length cap17] 27)) [plBox w17.heap.size #[.int .i64 f4, .slice a17 L4.length cap17] 27, plRow 3 1 encInt1 (.slice a17 L4.length cap17) L4, plBox w8.heap.size #[.int .i64 f4, .slice a8 L4.length cap8] 27, plRow 3 1 encInt1 (.slice a8 L4.length cap8) (marksInt L4.length 1), plBox w6.heap.size #[.int .i64 f, .slice a6 l.length cap6] 27, plRow 3 1 encInt1 (.slice a6 l.length cap6) (marksInt l.length 1), plBox w4.heap.size #[.int .i64 f4, .slice a4 L4.length cap4] 27, plView 1 encInt1 a4 L4, plBox w.heap.size #[.int .i64 f, .slice a l.length cap] 24] := S.alloc_at (by simp) _ _
  obtain ⟨bwc0, bwf0⟩ := bx (S.box 6 rfl) 0 rfl
  obtain ⟨bwc1, bwf1⟩ := bx (S.box 6 rfl) 1 rfl
  go_wp2_with fail
  generalize (w17.alloc (.cells #[.int .i64 f4, .slice a17 L4.length cap17] 27)) = w18 at *
  refine (eqGate_any f4 f4 a17 a4 cap17 cap4 L4 L4 w18 (by omega) (by omega) (S.rd 1 encInt1_len rfl rfl) (S.see 7 rfl)).mono ?_
  rintro e w19 ⟨b, rfl, hb, hE⟩
  obtain rfl : b = true := hb.2 ⟨rfl, rfl⟩
  clear hb
  clear bwc0 bwf0 bwc1 bwf1
  replace S : Sep w w19 [plBox w17.heap.size #[.int .i64 f4, .slice a17 L4.length cap17] 27, plRow 3 1 encInt1 (.slice a17 L4.length cap17) L4, plBox w8.heap.size #[.int .i64 f4, .slice a8 L4.length cap8] 27, plRow 3 1 encInt1 (.slice a8 L4.length cap8) (marksInt L4.length 1), plBox w6.heap.size #[.int .i64 f, .slice a6 l.length cap6] 27, plRow 3 1 encInt1 (.slice a6 l.length cap6) (marksInt l.length 1), plBox w4.heap.size #[.int .i64 f4, .slice a4 L4.length cap4] 27, plView 1 encInt1 a4 L4, plBox w.heap.size #[.int .i64 f, .slice a l.length cap] 24] := S.step hE
  clear hE
  obtain ⟨bgc0, bgf0⟩ := bx (S.box 2 rfl) 0 rfl
  obtain ⟨bgc1, bgf1⟩ := bx (S.box 2 rfl) 1 rfl
  go_wp2_with fail
  refine (heldGate_any f4 a8 cap8 L4.length 1 w19 hL4 (by omega) (by omega) (S.rd 3 encInt1_len rfl (by simp [marksInt_len]))).mono ?_
  rintro e w20 ⟨rfl, hE⟩
  clear bgc0 bgf0 bgc1 bgf1
  replace S : Sep w w20 [plBox w17.heap.size #[.int .i64 f4, .slice a17 L4.length cap17] 27, plRow 3 1 encInt1 (.slice a17 L4.length cap17) L4, plBox w8.heap.size #[.int .i64 f4, .slice a8 L4.length cap8] 27, plRow 3 1 encInt1 (.slice a8 L4.length cap8) (marksInt L4.length 1), plBox w6.heap.size #[.int .i64 f, .slice a6 l.length cap6] 27, plRow 3 1 encInt1 (.slice a6 l.length cap6) (marksInt l.length 1), plBox w4.heap.size #[.int .i64 f4, .slice a4 L4.length cap4] 27, plView 1 encInt1 a4 L4, plBox w.heap.size #[.int .i64 f, .slice a l.length cap] 24] := S.step hE
  clear hE
  go_wp2
  go_ret
  exact RetB.mk true rfl (by simp) S.ext
end Go.Proofs.Ytcnghlmndahfpaa
