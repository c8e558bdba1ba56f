/- LeaveGate of the program: its contract. Condition: queues of at most 2^20, within their capacity. -/
import Derived.Test.YtcnghlmndahfpaaGateE
import Derived.Test.YtcnghlmndahfpaaIntDel
namespace Go.Proofs.Ytcnghlmndahfpaa
open Go.RowKit

/-- What LeaveGate answers. -/
def LeaR (f : Int) (l : List Int) (f' : Int) (L : List Int) (n : Int) : Prop :=
  (¬ GateOk f l ∧ f' = 0 ∧ L = [] ∧ n = -1) ∨
  (GateOk f l ∧ ((∃ x t, l = x :: t ∧ f' = f ∧ L = t ∧ n = x) ∨ (l = [] ∧ f = 9 ∧ f' = f ∧ L = [] ∧ n = -1) ∨ (l = [] ∧ f ≠ 9 ∧ f' = f + 1 ∧ L = [] ∧ n = 0)))
theorem leaR_fun {f : Int} {l : List Int} {f1 f2 n1 n2 : Int} {L1 L2 : List Int} (h1 : LeaR f l f1 L1 n1) (h2 : LeaR f l f2 L2 n2) : f1 = f2 ∧ L1 = L2 ∧ n1 = n2 := by
  rcases h1 with ⟨c, rfl, rfl, rfl⟩ | ⟨c, ⟨x, t, e, rfl, rfl, rfl⟩ | ⟨e, d, rfl, rfl, rfl⟩ | ⟨e, d, rfl, rfl, rfl⟩⟩ <;>
  rcases h2 with ⟨c', rfl, rfl, rfl⟩ | ⟨c', ⟨x', t', e', rfl, rfl, rfl⟩ | ⟨e', d', rfl, rfl, rfl⟩ | ⟨e', d', rfl, rfl, rfl⟩⟩ <;>
  first | exact ⟨rfl, rfl, rfl⟩ | exact absurd c c' | exact absurd c' c | exact absurd d d' | exact absurd d' d | (rw [e] at e'; cases e'; exact ⟨rfl, rfl, rfl⟩) | (rw [e] at e'; cases e')

set_option maxHeartbeats 4000000 in
theorem implLeaveGate (f : Int) (a : Option Addr) (cap : Nat) (l : List Int) (w : World) (hl : l.length ≤ 1048576) (hcap : l.length ≤ cap) (hc : Rd 1 encInt1 w a l) :
    Calls Try.prog 21 #[.agg #[.int .i64 f, .slice a l.length cap]] w (RetG (LeaR f l) w) := by
  have E := ((Ext.refl w).alloc (.cells #[.int .i64 f, .slice a l.length cap] 27)).alloc (.cells #[.int .i64 0, .slice none 0 0] 27)
  have r0 : ((w.alloc (.cells #[.int .i64 f, .slice a l.length cap] 27)).alloc (.cells #[.int .i64 0, .slice none 0 0] 27)).heap[w.heap.size]? = some (.cells #[.int .i64 f, .slice a l.length cap] 27) := by
    rw [Below.heap_alloc _ _ _ (by simp)]
    exact heap_alloc_new w _
  have r1 : ((w.alloc (.cells #[.int .i64 f, .slice a l.length cap] 27)).alloc (.cells #[.int .i64 0, .slice none 0 0] 27)).heap[w.heap.size + 1]? = some (.cells #[.int .i64 0, .slice none 0 0] 27) := by
    have := heap_alloc_new (w.alloc (.cells #[.int .i64 f, .slice a l.length cap] 27)) (.cells #[.int .i64 0, .slice none 0 0] 27)
    simpa using this
  have hsz : w.heap.size + 2 ≤ ((w.alloc (.cells #[.int .i64 f, .slice a l.length cap] 27)).alloc (.cells #[.int .i64 0, .slice none 0 0] 27)).heap.size := by simp
  go_enter Try.func21, Try.ntmps21
  go_upto_region 1 with fail
  generalize ((w.alloc (.cells #[.int .i64 f, .slice a l.length cap] 27)).alloc (.cells #[.int .i64 0, .slice none 0 0] 27)) = w1 at *
  obtain ⟨c0, c1, _, _⟩ := cells2 r0
  go_wp2_with fail
  refine (implGateValid f a cap l w1 (by omega) hcap (hc.ext E)).mono ?_
  rintro e w2 ⟨b2, rfl, hb2, hE2⟩
  have Hb2 := Lib.hid hb2
  clear hb2 c0 c1
  replace E := E.trans hE2
  replace r0 := heap_ext hE2 r0
  replace r1 := heap_ext hE2 r1
  replace hsz := Nat.le_trans hsz hE2.size
  clear hE2
  obtain ⟨d0, d1, g0, g1⟩ := cells2 r1
  have E2 := ((E.setCell (p := ⟨w.heap.size + 1, 0, none⟩) (by show w.heap.size ≤ w.heap.size + 1; omega) (.int .i64 0)).setCell (p := ⟨w.heap.size + 1, 1, none⟩) (by show w.heap.size ≤ w.heap.size + 1; omega) (.slice none 0 0))
  cases b2 with
  | false =>
    have Hbad : Hid (LeaR f l 0 [] (-1)) := Lib.hid (.inl ⟨fun h => Bool.noConfusion (Hb2.out.2 h), rfl, rfl, rfl⟩)
    go_wp2
    try simp only [Exit.inBlock, Exit.then]
    refine bodyPost_ret (v := .tuple #[.agg #[.int .i64 0, .slice none 0 0], .int .i64 (-1)]) (by simp [results, Try.results21, go_sem, d0, d1]) rfl ?_
    exact RetG.mk [] Hbad.out (World.ownsRow_nil _ _ _ _) E2
  | true =>
    have Hok := Lib.hid (Hb2.out.1 rfl)
    clear Hb2 E2 d0 d1 g0 g1
    obtain ⟨c0, c1, _, _⟩ := cells2 r0
    go_wp2_with fail
    refine (copyGate_any f a cap l w2 hl (hc.ext E)).mono ?_
    rintro e w4 ⟨v4, rfl, ⟨u, rfl, hown⟩, hE4⟩
    obtain ⟨a4, cap4, rfl, hcap4, hrd4, hsh4⟩ := view_owns encInt1_len hown
    have hlt4 := fun k h => (World.ownsRow.lt hown k h)
    clear c0 c1
    replace E := E.trans hE4
    replace r0 := heap_ext hE4 r0
    replace r1 := heap_ext hE4 r1
    have hsz2 := hsz
    replace hsz := Nat.le_trans hsz hE4.size
    have E5 := (Ext.refl w4).alloc (.cells #[.int .i64 f, .slice a4 l.length cap4] 27)
    have r2 : (w4.alloc (.cells #[.int .i64 f, .slice a4 l.length cap4] 27)).heap[w4.heap.size]? = some (.cells #[.int .i64 f, .slice a4 l.length cap4] 27) := heap_alloc_new w4 _
    replace E := E.trans E5
    replace r0 := heap_ext E5 r0
    replace r1 := heap_ext E5 r1
    replace hown := ownsRow_ext hown E5
    have hB : w.heap.size + 2 ≤ w4.heap.size := hsz
    go_upto_region 4 with fail
    clear hrd4 hE4 E5
    generalize (w4.alloc (.cells #[.int .i64 f, .slice a4 l.length cap4] 27)) = w5 at *
    generalize w4.heap.size = B at *
    have ne1 : w.heap.size + 1 ≠ B := by omega
    have ne2 : B ≠ w.heap.size + 1 := by omega
    have ne3 : w.heap.size ≠ B := by omega
    have ne4 : B ≠ w.heap.size := by omega
    obtain ⟨c0, c1, _, _⟩ := cells2 r0
    obtain ⟨d0, d1, g0, g1⟩ := cells2 r1
    obtain ⟨e0, e1, h0, h1⟩ := cells2 r2
    obtain ⟨hf9a, hf9b⟩ := Hok.out.2.1
    have hgb : ∀ k, (Value.slice a4 l.length cap4).ownBlock = some k → k ≠ B ∧ k ≠ w.heap.size + 1 ∧ k ≠ w.heap.size ∧ w.heap.size ≤ k := fun k hk => by
      have := hlt4 k hk
      omega
    have Hgb := Lib.hid hgb
    clear hgb hlt4
    have hown0 := ownsRow_base hown (show w.heap.size ≤ w2.heap.size by omega)
    cases l with
    | nil =>
      by_cases hf : f = 9
      · have tf : (f == 9) = true := by simpa using hf
        have HR : Hid (LeaR f [] f [] (-1)) := Lib.hid (.inr ⟨Hok.out, .inr (.inl ⟨rfl, hf, rfl, rfl, rfl⟩)⟩)
        have E7 := (E.setCell (p := ⟨w.heap.size + 1, 0, none⟩) (by show w.heap.size ≤ w.heap.size + 1; omega) (.int .i64 f)).setCell (p := ⟨w.heap.size + 1, 1, none⟩) (by show w.heap.size ≤ w.heap.size + 1; omega) (.slice a4 ([] : List Int).length cap4)
        have o7 := ownsRow_setCell_other (ownsRow_setCell_other hown0 (a := ⟨w.heap.size + 1, 0, none⟩) (fun h => (Hgb.out _ h).2.1 rfl) (.int .i64 f)) (a := ⟨w.heap.size + 1, 1, none⟩) (fun h => (Hgb.out _ h).2.1 rfl) (.slice a4 ([] : List Int).length cap4)
        clear hown hown0 hsh4 hf hf9a hf9b
        go_wp2
        try simp only [Exit.inBlock, Exit.then]
        refine bodyPost_ret (v := .tuple #[.agg #[.int .i64 f, .slice a4 ([] : List Int).length cap4], .int .i64 (-1)]) (by simp [results, Try.results21, go_sem, d0, d1]) rfl ?_
        exact RetG.mk [] HR.out o7 E7
      · have tf : (f == 9) = false := by simpa using hf
        have HR : Hid (LeaR f [] (f + 1) [] 0) := Lib.hid (.inr ⟨Hok.out, .inr (.inr ⟨rfl, hf, rfl, rfl, rfl⟩)⟩)
        have E6 := ((E.setCell (p := ⟨B, 0, none⟩) (by show w.heap.size ≤ B; omega) (.int .i64 (f + 1))).setCell (p := ⟨w.heap.size + 1, 0, none⟩) (by show w.heap.size ≤ w.heap.size + 1; omega) (.int .i64 (f + 1))).setCell (p := ⟨w.heap.size + 1, 1, none⟩) (by show w.heap.size ≤ w.heap.size + 1; omega) (.slice a4 ([] : List Int).length cap4)
        have o6 := ownsRow_setCell_other (ownsRow_setCell_other (ownsRow_setCell_other hown0 (a := ⟨B, 0, none⟩) (fun h => (Hgb.out _ h).1 rfl) (.int .i64 (f + 1))) (a := ⟨w.heap.size + 1, 0, none⟩) (fun h => (Hgb.out _ h).2.1 rfl) (.int .i64 (f + 1))) (a := ⟨w.heap.size + 1, 1, none⟩) (fun h => (Hgb.out _ h).2.1 rfl) (.slice a4 ([] : List Int).length cap4)
        clear hown hown0 hsh4
        go_wp2
        try simp only [Exit.inBlock, Exit.then]
        refine bodyPost_ret (v := .tuple #[.agg #[.int .i64 (f + 1), .slice a4 ([] : List Int).length cap4], .int .i64 0]) (by simp [results, Try.results21, go_sem, d0, d1]) rfl ?_
        exact RetG.mk [] HR.out o6 E6
    | cons x t =>
      rcases hsh4 with ⟨_, h0, _⟩ | ⟨g, rfl, hg⟩
      · cases h0
      have HR : Hid (LeaR f (x :: t) f t x) := Lib.hid (.inr ⟨Hok.out, .inl ⟨x, t, rfl, rfl, rfl, rfl⟩⟩)
      have hpos : (0 : Int) < ((x :: t).length : Int) := by simp only [List.length_cons]; omega
      have hcl := hc.ext E
      obtain ⟨y, bq, offq, hy, rfl, cx⟩ := atInt hcl (show 0 < (x :: t).length by simp)
      obtain rfl : x = y := by simpa using hy
      clear hy
      have hdel := delInt_any w.heap.size g cap4 0 1 (x :: t) w5 (by omega) (by simp) hown0
      obtain ⟨n, hn⟩ : ∃ n, n = (x :: t).length := ⟨_, rfl⟩
      obtain ⟨m, hm⟩ : ∃ m, m = t.length := ⟨_, rfl⟩
      have hn1 : n - (1 - 0) = m := by rw [hn, hm]; simp
      have hk : ((0 : Nat) : Int) = 0 ∧ ((1 : Nat) : Int) = 1 := ⟨rfl, rfl⟩
      rw [← hn, hn1, hk.1, hk.2, List.take_zero, List.drop_succ_cons, List.drop_zero, List.nil_append] at hdel
      rw [← hn] at hpos c1 e1 r0 r2 ⊢
      have Hn := Lib.hid hn
      have Hm := Lib.hid hm
      obtain ⟨hg1, hg2, hg3, hg4⟩ := Hgb.out g rfl
      have hcw : w.cell? ⟨bq, offq + 0, none⟩ = some (.int .i64 x) := by
        obtain ⟨y, b', off', hy, hby, cy⟩ := atInt hc (show 0 < (x :: t).length by simp)
        obtain ⟨rfl, rfl⟩ : bq = b' ∧ offq = off' := by simpa using hby
        obtain rfl : x = y := by simpa using hy
        exact cy
      have hbq := World.block_lt_of_cell? _ _ hcw
      simp only [] at hbq
      clear hown hown0 Hgb hl hcap hcl hc hcw hn hm hn1 hk
      go_wp2_with fail
      refine hdel.mono ?_
      rintro e w6 ⟨rfl, hown6, hgr6⟩
      replace cx : w6.cell? ⟨bq, offq + 0, none⟩ = some (.int .i64 x) := hgr6.cell cx (by simp only [ne_eq, Option.some.injEq]; omega)
      replace r0 := (hgr6.block _ (Array.getElem?_eq_some_iff.1 r0).1 (by simp only [ne_eq, Option.some.injEq]; omega)).trans r0
      replace r1 := (hgr6.block _ (Array.getElem?_eq_some_iff.1 r1).1 (by simp only [ne_eq, Option.some.injEq]; omega)).trans r1
      replace r2 := (hgr6.block _ (Array.getElem?_eq_some_iff.1 r2).1 (by simp only [ne_eq, Option.some.injEq]; omega)).trans r2
      replace E := E.grown hgr6 (fun k hk => (Option.some.inj hk) ▸ hg4)
      clear hdel hgr6 c0 c1 d0 d1 g0 g1 e0 e1 h0 h1
      obtain ⟨e0, e1, h0, h1⟩ := cells2 r2
      have r2' := heap_set r2 (o := 1) (.slice (some ⟨g, 0, none⟩) m cap4)
      replace r2' : (w6.setCell ⟨B, 1, none⟩ (.slice (some ⟨g, 0, none⟩) m cap4)).heap[B]? = some (.cells #[.int .i64 f, .slice (some ⟨g, 0, none⟩) m cap4] 27) := r2'
      have r0' := heap_set_ne r0 ne3 (o := 1) (.slice (some ⟨g, 0, none⟩) m cap4)
      have r1' := heap_set_ne r1 ne1 (o := 1) (.slice (some ⟨g, 0, none⟩) m cap4)
      replace E := E.setCell (p := ⟨B, 1, none⟩) (by show w.heap.size ≤ B; omega) (.slice (some ⟨g, 0, none⟩) m cap4)
      have hown7 := ownsRow_setCell_other hown6 (a := ⟨B, 1, none⟩) (by simp only [Value.ownBlock, ne_eq, Option.some.injEq]; omega) (.slice (some ⟨g, 0, none⟩) m cap4)
      have cx' : (w6.setCell ⟨B, 1, none⟩ (.slice (some ⟨g, 0, none⟩) m cap4)).cell? ⟨bq, offq + 0, none⟩ = some (.int .i64 x) := by
        exact cell_set_ne cx (show bq ≠ B by omega) _
      clear r0 r1 r2 hown6
      go_upto_region 6 with fail
      clear e0 e1 h0 h1 cx
      generalize (w6.setCell ⟨B, 1, none⟩ (.slice (some ⟨g, 0, none⟩) m cap4)) = w7 at *
      obtain ⟨c0, c1, _, _⟩ := cells2 r0'
      obtain ⟨d0, d1, g0, g1⟩ := cells2 r1'
      obtain ⟨e0, e1, _, _⟩ := cells2 r2'
      rw [Nat.add_zero] at cx'
      have i0 : ¬ ((n : Int) ≤ 0) := by omega
      have hbq2 : bq ≠ w.heap.size + 1 := by omega
      have hbq3 : w.heap.size + 1 ≠ bq := by omega
      have E8 := ((E.setCell (p := ⟨w.heap.size + 1, 0, none⟩) (by show w.heap.size ≤ w.heap.size + 1; omega) (.int .i64 f)).setCell (p := ⟨w.heap.size + 1, 1, none⟩) (by show w.heap.size ≤ w.heap.size + 1; omega) (.slice (some ⟨g, 0, none⟩) m cap4)).drew
      have o8 := (ownsRow_setCell_other (ownsRow_setCell_other hown7 (a := ⟨w.heap.size + 1, 0, none⟩) (by simp only [Value.ownBlock, ne_eq, Option.some.injEq]; omega) (.int .i64 f)) (a := ⟨w.heap.size + 1, 1, none⟩) (by simp only [Value.ownBlock, ne_eq, Option.some.injEq]; omega) (.slice (some ⟨g, 0, none⟩) m cap4)).drew
      clear hown7
      go_wp2
      go_region
      go_wp2
      try simp only [Exit.inBlock, Exit.then]
      refine bodyPost_ret (v := .tuple #[.agg #[.int .i64 f, .slice (some ⟨g, 0, none⟩) m cap4], .int .i64 x]) (by simp [results, Try.results21, go_sem, d0, d1]) rfl ?_
      exact RetG.mk t HR.out (by rw [← Hm.out]; exact o8) E8
end Go.Proofs.Ytcnghlmndahfpaa
