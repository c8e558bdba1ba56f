/- FnExactGateValid: the walk. No condition but that the queue is shorter than 2^63. -/
import Derived.Test.YtcnghlmndahfpaaGateI
namespace Go.Proofs.Ytcnghlmndahfpaa
open Go.RowKit

/-- A gate in new memory. -/
def GateN (base : Nat) (f : Int) (l : List Int) (v : Value) (w : World) : Prop := ∃ u, v = .agg #[.int .i64 f, u] ∧ w.ownsRow base 3 1 u l.length (l.flatMap encInt1)

set_option maxHeartbeats 4000000 in
theorem exactGateValid_any (f : Int) (a : Option Addr) (cap : Nat) (l : List Int) (hl : l.length ≤ 9223372036854775807) (w : World) (hc : Rd 1 encInt1 w a l) :
    Calls Try.prog 3 #[.agg #[.int .i64 f, .slice a l.length cap]] w (RetB True w) := by
  have E := (Ext.refl w).alloc (.cells #[.int .i64 f, .slice a l.length cap] 24)
  have n0 := cell_new w #[.int .i64 f, .slice a l.length cap] 24 0 (.int .i64 f) rfl
  have n1 := cell_new w #[.int .i64 f, .slice a l.length cap] 24 1 (.slice a l.length cap) rfl
  go_enter Try.func3, Try.ntmps3
  go_wp2_with fail
  generalize (w.alloc (.cells #[.int .i64 f, .slice a l.length cap] 24)) = w0 at *
  refine (szGate_any f a cap l 1048576 w0 (by omega) (by omega) hl).mono ?_
  rintro e w1 ⟨r, rfl, hra, hrb, hrc, hb⟩
  have Hrc := Lib.hid hrc
  replace E := E.trans hb
  replace n0 := cell_ext hb n0
  replace n1 := cell_ext hb n1
  clear hrc hb
  by_cases hneg : r < 0
  · go_wp2
    go_ret
    exact RetB.mk true rfl (by simp) E
  have hll : l.length ≤ 1048576 := Hrc.out (by omega)
  clear Hrc
  go_wp2_with fail
  refine (toGate_any f a cap l w1 hll (hc.ext E)).mono ?_
  rintro e w2 ⟨v, rfl, ⟨u, rfl, hown⟩, hb⟩
  obtain ⟨a2, cap2, rfl, hcap2, hrd2, _⟩ := view_owns encInt1_len hown
  replace E := E.trans hb
  replace n0 := cell_ext hb n0
  replace n1 := cell_ext hb n1
  clear hb hown
  go_wp2_with fail
  refine (specGateValid f a2 cap2 l w2 hl hrd2).mono ?_
  rintro e w3 ⟨b0, rfl, hb0, hb⟩
  have Hb0 := Lib.hid hb0
  replace E := E.trans hb
  replace n0 := cell_ext hb n0
  replace n1 := cell_ext hb n1
  clear hb hb0 hrd2
  go_wp2_with fail
  refine (toGate_any f a cap l w3 hll (hc.ext E)).mono ?_
  rintro e w4 ⟨v, rfl, ⟨u, rfl, hown⟩, hb⟩
  obtain ⟨a4, cap4, rfl, hcap4, hrd4, _⟩ := view_owns encInt1_len hown
  replace E := E.trans hb
  replace n0 := cell_ext hb n0
  replace n1 := cell_ext hb n1
  clear hb hown
  have E4 := (Ext.refl w4).alloc (.cells #[.int .i64 f, .slice a4 l.length cap4] 27)
  have k0 := cell_new w4 #[.int .i64 f, .slice a4 l.length cap4] 27 0 (.int .i64 f) rfl
  have k1 := cell_new w4 #[.int .i64 f, .slice a4 l.length cap4] 27 1 (.slice a4 l.length cap4) rfl
  replace E := E.trans E4
  replace n0 := cell_ext E4 n0
  replace n1 := cell_ext E4 n1
  replace hrd4 := hrd4.ext E4
  go_wp2_with fail
  generalize (w4.alloc (.cells #[.int .i64 f, .slice a4 l.length cap4] 27)) = w5 at *
  refine (implGateValid f a4 cap4 l w5 hl hcap4 hrd4).mono ?_
  rintro e w6 ⟨b1, rfl, hb1, hb⟩
  obtain rfl : b0 = b1 := Bool.eq_iff_iff.2 (Hb0.out.trans hb1.symm)
  replace E := E.trans hb
  replace n0 := cell_ext hb n0
  replace n1 := cell_ext hb n1
  replace k0 := cell_ext hb k0
  replace k1 := cell_ext hb k1
  replace hrd4 := hrd4.ext hb
  clear hb hb1 Hb0 E4
  have tb : (b0 != b0) = false := by simp
  go_upto_region 10 with fail
  have n0d : w6.drew.cell? ⟨w.heap.size, 0, none⟩ = some (.int .i64 f) := n0
  have n1d : w6.drew.cell? ⟨w.heap.size, 1, none⟩ = some (.slice a l.length cap) := n1
  have k0d : w6.drew.cell? ⟨w4.heap.size, 0, none⟩ = some (.int .i64 f) := k0
  have k1d : w6.drew.cell? ⟨w4.heap.size, 1, none⟩ = some (.slice a4 l.length cap4) := k1
  have hrdd : Rd 1 encInt1 w6.drew a4 l := hrd4.ext (Ext.refl _).drew
  have Ed := E.drew
  refine wp_region_v 5 (V := fun i v wv => match i with
    | 0 => v = .agg #[.int .i64 f, .slice a4 l.length cap4]
    | 1 => v = .agg #[.int .i64 f, .slice a l.length cap]
    | 2 => GateN w.heap.size f l v wv
    | 3 => v = .bool true
    | 4 => v = .bool false
    | _ => True) rfl (by decide) (by kernel_rfl) (by kernel_rfl) (by kernel_rfl) ?_ ?_ ?_
  · intro i v w2 w3 h hE
    match i with
    | 0 => exact h
    | 1 => exact h
    | 2 => obtain ⟨u, h1, h2⟩ := h; exact ⟨u, h1, ownsRow_ext h2 hE⟩
    | 3 => exact h
    | 4 => exact h
    | (n + 5) => trivial
  · intro i o hi ho vs w7 hvl hE hd
    have c0 := cell_ext hE n0d
    have c1 := cell_ext hE n1d
    have c2 := cell_ext hE k0d
    have c3 := cell_ext hE k1d
    have hr4 := hrdd.ext hE
    have E7 := Ed.trans hE
    match vs, hvl with
    | [x0, x1, x2, x3, x4], _ =>
    rcases (show i = 0 ∨ i = 1 ∨ i = 2 ∨ i = 3 ∨ i = 4 by omega) with rfl | rfl | rfl | rfl | rfl
    all_goals
      simp only [List.getElem?_cons_zero, List.getElem?_cons_succ, Option.some.injEq] at ho
      subst ho
      simp [Waits, Region.binds] at hd
    · simp [putAll, Act.put]
      go_wp2
      exact ⟨rfl, _, rfl, rfl, Ext.refl _⟩
    · simp [putAll, Act.put]
      go_wp2
      exact ⟨rfl, _, rfl, rfl, Ext.refl _⟩
    · simp [putAll, Act.put, hd]
      go_wp2_with fail
      refine (toGate_any f a cap l w7 hll (hc.ext E7)).mono ?_
      rintro e w8 ⟨v, rfl, ⟨u, rfl, hown⟩, hb⟩
      have h9 : GateN w.heap.size f l (.agg #[.int .i64 f, u]) w8 := ⟨u, rfl, ownsRow_base hown E7.size⟩
      go_wp2
      exact ⟨rfl, _, rfl, h9, hb⟩
    · obtain ⟨hd0, u, hd1, hown⟩ := hd
      obtain ⟨a8, cap8, rfl, hcap8, hrd8, _⟩ := view_owns encInt1_len hown
      subst hd0 hd1
      simp [putAll, Act.put]
      go_wp2_with fail
      refine (eqGate_any f f a4 a8 cap4 cap8 l l w7 hl hl hr4 hrd8).mono ?_
      rintro e w8 ⟨b8, rfl, hb8, hb⟩
      obtain rfl : b8 = true := hb8.2 ⟨rfl, rfl⟩
      clear hb8
      go_wp2
      exact ⟨rfl, _, rfl, rfl, hb⟩
    · simp [putAll, Act.put, hd]
      go_wp2
      exact ⟨rfl, _, rfl, rfl, Ext.refl _⟩
  · intro vs w7 hvl hE hV
    match vs, hvl with
    | [x0, x1, x2, x3, x4], _ =>
    have e4 := hV 4 (by omega)
    clear hV
    simp at e4
    subst e4
    simp only [putAll, Act.put, List.take_succ_cons, List.take_zero, List.drop_succ_cons, List.drop_zero]
    simp
    have E7 := Ed.trans hE
    go_wp2
    go_ret
    exact RetB.mk true rfl (by simp) E7
end Go.Proofs.Ytcnghlmndahfpaa
