/- LeaveGate of the reference: its contract. Condition: queues of at most 2^20. -/
import Derived.Test.YtcnghlmndahfpaaGateF
import Derived.Test.YtcnghlmndahfpaaGateG
namespace Go.Proofs.Ytcnghlmndahfpaa
open Go.RowKit

/-- A gate and a number, to be read: it lies in new memory. -/
def RetGV (R : Int → List Int → Int → Prop) (w : World) (e : Ending) (w' : World) : Prop :=
  ∃ f a L cap n, e = .returned (.tuple #[.agg #[.int .i64 f, .slice a L.length cap], .int .i64 n]) ∧ R f L n ∧ Rd 1 encInt1 w' a L ∧ (∀ p, a = some p → w.heap.size ≤ p.block ∧ p.block < w'.heap.size) ∧ L.length ≤ cap ∧ Ext w w'
theorem RetGV.mk {R : Int → List Int → Int → Prop} {w w' : World} {a : Option Addr} {f n : Int} {m cap : Nat} (L : List Int) (hm : m = L.length) (h : R f L n) (hr : Rd 1 encInt1 w' a L) (hb : ∀ p, a = some p → w.heap.size ≤ p.block ∧ p.block < w'.heap.size) (hcap : m ≤ cap) (hE : Ext w w') :
    RetGV R w (.returned (.tuple #[.agg #[.int .i64 f, .slice a m cap], .int .i64 n])) w' := by subst hm; exact ⟨f, a, L, cap, n, rfl, h, hr, hb, hcap, hE⟩
theorem RetG.view {R : Int → List Int → Int → Prop} {w w' : World} {e : Ending} (h : RetG R w e w') : RetGV R w e w' := by
  obtain ⟨f, u, L, n, rfl, hR, ho, hE⟩ := h
  obtain ⟨a, cap, rfl, hcap, hr, _⟩ := view_owns encInt1_len ho
  refine ⟨f, a, L, cap, n, rfl, hR, hr, fun p hp => ?_, hcap, hE⟩
  subst hp
  exact World.ownsRow.lt ho p.block rfl

set_option maxHeartbeats 4000000 in
theorem specLeaveGate (f : Int) (a : Option Addr) (cap : Nat) (l : List Int) (w : World) (hl : l.length ≤ 1048576) (hc : Rd 1 encInt1 w a l) :
    Calls Try.prog 20 #[.agg #[.int .i64 f, .slice a l.length cap]] w (RetGV (LeaR f l) w) := by
  have E := ((Ext.refl w).alloc (.cells #[.int .i64 f, .slice a l.length cap] 27)).alloc (.cells #[.int .i64 0, .slice none 0 0] 27)
  have r0 : ((w.alloc (.cells #[.int .i64 f, .slice a l.length cap] 27)).alloc (.cells #[.int .i64 0, .slice none 0 0] 27)).heap[w.heap.size]? = some (.cells #[.int .i64 f, .slice a l.length cap] 27) := by
    rw [Below.heap_alloc _ _ _ (by simp)]
    exact heap_alloc_new w _
  have r1 : ((w.alloc (.cells #[.int .i64 f, .slice a l.length cap] 27)).alloc (.cells #[.int .i64 0, .slice none 0 0] 27)).heap[w.heap.size + 1]? = some (.cells #[.int .i64 0, .slice none 0 0] 27) := by
    have := heap_alloc_new (w.alloc (.cells #[.int .i64 f, .slice a l.length cap] 27)) (.cells #[.int .i64 0, .slice none 0 0] 27)
    simpa using this
  have hsz : w.heap.size + 2 ≤ ((w.alloc (.cells #[.int .i64 f, .slice a l.length cap] 27)).alloc (.cells #[.int .i64 0, .slice none 0 0] 27)).heap.size := by simp
  go_enter Try.func20, Try.ntmps20
  go_upto_region 1 with fail
  generalize ((w.alloc (.cells #[.int .i64 f, .slice a l.length cap] 27)).alloc (.cells #[.int .i64 0, .slice none 0 0] 27)) = w1 at *
  obtain ⟨c0, c1, _, _⟩ := cells2 r0
  go_wp2_with fail
  refine (specGateValid f a cap l w1 (by omega) (hc.ext E)).mono ?_
  rintro e w2 ⟨b2, rfl, hb2, hE2⟩
  have Hb2 := Lib.hid hb2
  clear hb2 c0 c1
  replace E := E.trans hE2
  replace r0 := heap_ext hE2 r0
  replace r1 := heap_ext hE2 r1
  replace hsz := Nat.le_trans hsz hE2.size
  clear hE2
  obtain ⟨d0, d1, g0, g1⟩ := cells2 r1
  -- refused
  have E2 := ((E.setCell (p := ⟨w.heap.size + 1, 0, none⟩) (by show w.heap.size ≤ w.heap.size + 1; omega) (.int .i64 0)).setCell (p := ⟨w.heap.size + 1, 1, none⟩) (by show w.heap.size ≤ w.heap.size + 1; omega) (.slice none 0 0))
  cases b2 with
  | false =>
    have Hbad : Hid (LeaR f l 0 [] (-1)) := Lib.hid (.inl ⟨fun h => Bool.noConfusion (Hb2.out.2 h), rfl, rfl, rfl⟩)
    go_wp2
    try simp only [Exit.inBlock, Exit.then]
    refine bodyPost_ret (v := .tuple #[.agg #[.int .i64 0, .slice none 0 0], .int .i64 (-1)]) (by simp [results, Try.results20, go_sem, d0, d1]) rfl ?_
    exact (RetG.mk [] Hbad.out (World.ownsRow_nil _ _ _ _) E2).view
  | true =>
      have Hok := Lib.hid (Hb2.out.1 rfl)
      clear Hb2
      clear E2 d0 d1 g0 g1
      go_upto_region 3 with fail
      have Ed := E.drew
      have r0d : w2.drew.heap[w.heap.size]? = some (.cells #[.int .i64 f, .slice a l.length cap] 27) := r0
      have r1d : w2.drew.heap[w.heap.size + 1]? = some (.cells #[.int .i64 0, .slice none 0 0] 27) := r1
      refine wp_region_v 8 (V := fun i v wv => match i with
        | 0 => v = .pointer (some ⟨w.heap.size, 0, none⟩)
        | 1 => v = .int .i64 f
        | 2 => LitO (w.heap.size + 2) v wv
        | 3 => v = .pointer (some ⟨w.heap.size, 1, none⟩)
        | 4 => v = .slice a l.length cap
        | 5 => OwnO (w.heap.size + 2) l v wv
        | 6 => GateO (w.heap.size + 2) f l v wv
        | 7 => BoxO (w.heap.size + 2) v wv
        | _ => True) rfl (by decide) (by kernel_rfl) (by kernel_rfl) (by kernel_rfl) ?_ ?_ ?_
      · intro i v w3 w4 h hE
        match i with
        | 0 => exact h
        | 1 => exact h
        | 2 => exact h.ext hE
        | 3 => exact h
        | 4 => exact h
        | 5 => exact ownsRow_ext h hE
        | 6 => obtain ⟨u, h1, h2⟩ := h; exact ⟨u, h1, ownsRow_ext h2 hE⟩
        | 7 => exact h.ext hE
        | (n + 8) => trivial
      · intro i o hi ho vs w3 hvl hE hd
        obtain ⟨c0, c1, f0, f1⟩ := cells2 (heap_ext hE r0d)
        have hs3 := hE.size
        have hs4 : w.heap.size + 2 ≤ w3.heap.size := Nat.le_trans hsz hs3
        match vs, hvl with
        | [x0, x1, x2, x3, x4, x5, x6, x7], _ =>
        rcases (show i = 0 ∨ i = 1 ∨ i = 2 ∨ i = 3 ∨ i = 4 ∨ i = 5 ∨ i = 6 ∨ i = 7 by omega) with rfl | rfl | rfl | rfl | rfl | rfl | rfl | rfl
        all_goals
          simp only [List.getElem?_cons_zero, List.getElem?_cons_succ, Option.some.injEq] at ho
          subst ho
          simp [Waits, Region.binds] at hd
        · simp [putAll, Act.put]
          go_wp2
          exact ⟨rfl, _, rfl, rfl, Ext.refl _⟩
        · simp [putAll, Act.put, hd]
          go_wp2
          exact ⟨rfl, _, rfl, rfl, Ext.refl _⟩
        · simp [putAll, Act.put]
          go_wp2
          exact ⟨rfl, _, rfl, ⟨_, rfl, heap_alloc_new w3 _, hs4⟩, (Ext.refl _).alloc _⟩
        · simp [putAll, Act.put]
          go_wp2
          exact ⟨rfl, _, rfl, rfl, Ext.refl _⟩
        · simp [putAll, Act.put, hd]
          go_wp2
          exact ⟨rfl, _, rfl, rfl, Ext.refl _⟩
        · obtain ⟨⟨gl, rfl, hgl, hbl⟩, hx4⟩ := hd
          subst hx4
          simp [putAll, Act.put]
          refine wpList_append_lit rfl _ _ 22 rfl (w.heap.size + 2) 3 _ 1 _ Try.underlying22 infoInt rfl (by decide) encInt1_len encInt1_one gl rfl hgl hbl a l.length cap l rfl rfl (hc.ext (Ed.trans hE)) (by omega) (by omega) hs4 ?_
          intro v' w4 hown hE4
          go_wp2
          exact ⟨rfl, _, rfl, hown, hE4⟩
        · obtain ⟨hd0, hown⟩ := hd
          obtain ⟨a8, cap8, hx4, _⟩ := view_owns encInt1_len hown
          subst hx4
          have h9 : GateO (w.heap.size + 2) f l (.agg #[.int .i64 f, .slice a8 l.length cap8]) w3 := ⟨_, rfl, hown⟩
          clear hown
          simp [putAll, Act.put, hd0]
          go_wp2
          exact ⟨rfl, _, rfl, h9, Ext.refl _⟩
        · simp [putAll, Act.put]
          go_wp2
          exact ⟨rfl, _, rfl, ⟨_, rfl, heap_alloc_new w3 _, hs4⟩, (Ext.refl _).alloc _⟩
      · intro vs w3 hvl hE hV
        match vs, hvl with
        | [x0, x1, x2, x3, x4, x5, x6, x7], _ =>
        obtain ⟨u, hu, hown⟩ := hV 6 (by omega)
        obtain ⟨B, hB, r2, hB2⟩ := hV 7 (by omega)
        clear hV
        simp at hu hB
        subst hu hB
        obtain ⟨a4, cap4, rfl, hcap4, _, _⟩ := view_owns encInt1_len hown
        replace E := Ed.trans hE
        replace r0 := heap_ext hE r0d
        replace r1 := heap_ext hE r1d
        have hne := owns_ne hown r2 (by decide)
        have hne1 := owns_ne hown r1 (by decide)
        obtain ⟨z0, z1, z2, z3⟩ := cells2 r2
        replace E := (E.setCell (p := ⟨B, 0, none⟩) (by show w.heap.size ≤ B; omega) (.int .i64 f)).setCell (p := ⟨B, 1, none⟩) (by show w.heap.size ≤ B; omega) (.slice a4 l.length cap4)
        replace hown := ownsRow_base (ownsRow_setCell_other (ownsRow_setCell_other hown (a := ⟨B, 0, none⟩) hne (.int .i64 f)) (a := ⟨B, 1, none⟩) hne (.slice a4 l.length cap4)) (show w.heap.size ≤ w.heap.size + 2 by omega)
        replace r0 := heap_set_ne (heap_set_ne r0 (show w.heap.size ≠ B by omega) (o := 0) (.int .i64 f)) (show w.heap.size ≠ B by omega) (o := 1) (.slice a4 l.length cap4)
        replace r1 := heap_set_ne (heap_set_ne r1 (show w.heap.size + 1 ≠ B by omega) (o := 0) (.int .i64 f)) (show w.heap.size + 1 ≠ B by omega) (o := 1) (.slice a4 l.length cap4)
        replace r2 := heap_set (heap_set r2 (o := 0) (.int .i64 f)) (o := 1) (.slice a4 l.length cap4)
        replace r2 : ((w3.setCell ⟨B, 0, none⟩ (.int .i64 f)).setCell ⟨B, 1, none⟩ (.slice a4 l.length cap4)).heap[B]? = some (.cells #[.int .i64 f, .slice a4 l.length cap4] 27) := r2
        clear Ed hE r0d r1d hsz
        simp only [putAll, Act.put, List.take_succ_cons, List.take_zero, List.drop_succ_cons, List.drop_zero]
        simp
        go_upto_region 4 with fail
        generalize ((w3.setCell ⟨B, 0, none⟩ (.int .i64 f)).setCell ⟨B, 1, none⟩ (.slice a4 l.length cap4)) = w5 at *
        have ne1 : w.heap.size + 1 ≠ B := by omega
        have ne2 : B ≠ w.heap.size + 1 := by omega
        have ne3 : w.heap.size ≠ B := by omega
        have ne4 : B ≠ w.heap.size := by omega
        obtain ⟨c0, c1, _, _⟩ := cells2 r0
        obtain ⟨d0, d1, g0, g1⟩ := cells2 r1
        obtain ⟨e0, e1, h0, h1⟩ := cells2 r2
        obtain ⟨hf9a, hf9b⟩ := Hok.out.2.1
        cases l with
        | nil =>
          by_cases hf : f = 9
          · have tf : (f == 9) = true := by simpa using hf
            have HR : Hid (LeaR f [] f [] (-1)) := Lib.hid (.inr ⟨Hok.out, .inr (.inl ⟨rfl, hf, rfl, rfl, rfl⟩)⟩)
            have E7 := (E.setCell (p := ⟨w.heap.size + 1, 0, none⟩) (by show w.heap.size ≤ w.heap.size + 1; omega) (.int .i64 f)).setCell (p := ⟨w.heap.size + 1, 1, none⟩) (by show w.heap.size ≤ w.heap.size + 1; omega) (.slice a4 ([] : List Int).length cap4)
            have o7 := ownsRow_setCell_other (ownsRow_setCell_other hown (a := ⟨w.heap.size + 1, 0, none⟩) hne1 (.int .i64 f)) (a := ⟨w.heap.size + 1, 1, none⟩) hne1 (.slice a4 ([] : List Int).length cap4)
            clear hown hf hf9a hf9b hne hne1
            go_wp2
            try simp only [Exit.inBlock, Exit.then]
            refine bodyPost_ret (v := .tuple #[.agg #[.int .i64 f, .slice a4 ([] : List Int).length cap4], .int .i64 (-1)]) (by simp [results, Try.results20, go_sem, d0, d1]) rfl ?_
            exact (RetG.mk [] HR.out o7 E7).view
          · have tf : (f == 9) = false := by simpa using hf
            have HR : Hid (LeaR f [] (f + 1) [] 0) := Lib.hid (.inr ⟨Hok.out, .inr (.inr ⟨rfl, hf, rfl, rfl, rfl⟩)⟩)
            have E6 := ((E.setCell (p := ⟨B, 0, none⟩) (by show w.heap.size ≤ B; omega) (.int .i64 (f + 1))).setCell (p := ⟨w.heap.size + 1, 0, none⟩) (by show w.heap.size ≤ w.heap.size + 1; omega) (.int .i64 (f + 1))).setCell (p := ⟨w.heap.size + 1, 1, none⟩) (by show w.heap.size ≤ w.heap.size + 1; omega) (.slice a4 ([] : List Int).length cap4)
            have o6 := ownsRow_setCell_other (ownsRow_setCell_other (ownsRow_setCell_other hown (a := ⟨B, 0, none⟩) hne (.int .i64 (f + 1))) (a := ⟨w.heap.size + 1, 0, none⟩) hne1 (.int .i64 (f + 1))) (a := ⟨w.heap.size + 1, 1, none⟩) hne1 (.slice a4 ([] : List Int).length cap4)
            clear hown hne hne1
            go_wp2
            try simp only [Exit.inBlock, Exit.then]
            refine bodyPost_ret (v := .tuple #[.agg #[.int .i64 (f + 1), .slice a4 ([] : List Int).length cap4], .int .i64 0]) (by simp [results, Try.results20, go_sem, d0, d1]) rfl ?_
            exact (RetG.mk [] HR.out o6 E6).view
        | cons x t =>
          obtain ⟨a5, cap5, h5, _, hrd5, hsh5⟩ := view_owns encInt1_len hown
          simp only [Value.slice.injEq, true_and] at h5
          obtain ⟨rfl, rfl⟩ := h5
          rcases hsh5 with ⟨_, h0, _⟩ | ⟨g, rfl, hg⟩
          · cases h0
          have HR : Hid (LeaR f (x :: t) f t x) := Lib.hid (.inr ⟨Hok.out, .inl ⟨x, t, rfl, rfl, rfl, rfl⟩⟩)
          have hgs := World.ownsRow.lt hown g rfl
          have hpos : (0 : Int) < ((x :: t).length : Int) := by simp only [List.length_cons]; omega
          have hcl := hc.ext E
          obtain ⟨y, bq, offq, hy, rfl, cx⟩ := atInt hcl (show 0 < (x :: t).length by simp)
          obtain rfl : x = y := by simpa using hy
          clear hy
          obtain ⟨n, hn⟩ : ∃ n, n = (x :: t).length := ⟨_, rfl⟩
          have hnt : t.length = n - 1 := by rw [hn]; simp
          have hrd6 := hrd5.drop 1
          simp only [List.drop_succ_cons, List.drop_zero, Nat.zero_add, Nat.one_mul] at hrd6
          have hcw := World.block_lt_of_cell? _ _ (show w.cell? ⟨bq, offq + 0, none⟩ = some (.int .i64 x) by
            obtain ⟨y, b', off', hy, hby, cy⟩ := atInt hc (show 0 < (x :: t).length by simp)
            obtain ⟨rfl, rfl⟩ : bq = b' ∧ offq = off' := by simpa using hby
            obtain rfl : x = y := by simpa using hy
            exact cy)
          simp only [] at hcw
          have hrt0 : cap4 = 1 → t = [] := fun h => List.eq_nil_of_length_eq_zero (by rw [h] at hcap4; simp only [List.length_cons] at hcap4; omega)
          rw [← hn] at hpos c1 e1 r0 r2 hcap4 ⊢
          have Hn := Lib.hid hn
          have Hnt := Lib.hid hnt
          have Hrt0 := Lib.hid hrt0
          have Hrd6 := Lib.hid hrd6
          have hn1 : 1 ≤ n := by omega
          have hn2 : n ≤ 8 := by rw [hn]; exact Hok.out.2.2.1
          have i0 : ¬ ((n : Int) ≤ 0) := by omega
          have Hne2 := Lib.hid (show g ≠ w.heap.size + 1 from fun e => hne1 (by rw [e]; rfl))
          have Hne3 := Lib.hid (show g ≠ B from fun e => hne (by rw [e]; rfl))
          have Hgs := Lib.hid hgs
          clear hn hnt hrd6 hrd5 hl hgs hown hcl hc hne hne1 hrt0 hg
          by_cases hc1 : cap4 = 1
          · have Hrt : Hid (Rd 1 encInt1 w5 (some ⟨g, 0, none⟩) t) := Lib.hid (by first | exact Hrd6.out | (rw [Hrt0.out hc1]; exact Rd.nil))
            have hcapm : n - 1 ≤ 0 := by omega
            have Hcapm := Lib.hid hcapm
            clear hcapm
            clear Hrd6 Hrt0
            have r2' := heap_set r2 (o := 1) (.slice (some ⟨g, 0, none⟩) (n - 1) 0)
            replace r2' : (w5.setCell ⟨B, 1, none⟩ (.slice (some ⟨g, 0, none⟩) (n - 1) 0)).heap[B]? = some (.cells #[.int .i64 f, .slice (some ⟨g, 0, none⟩) (n - 1) 0] 27) := r2'
            have r0' := heap_set_ne r0 ne3 (o := 1) (.slice (some ⟨g, 0, none⟩) (n - 1) 0)
            have r1' := heap_set_ne r1 ne1 (o := 1) (.slice (some ⟨g, 0, none⟩) (n - 1) 0)
            have E' := E.setCell (p := ⟨B, 1, none⟩) (by show w.heap.size ≤ B; omega) (.slice (some ⟨g, 0, none⟩) (n - 1) 0)
            have cx' : (w5.setCell ⟨B, 1, none⟩ (.slice (some ⟨g, 0, none⟩) (n - 1) 0)).cell? ⟨bq, offq + 0, none⟩ = some (.int .i64 x) := cell_set_ne cx (show bq ≠ B by omega) _
            have hgB : g ≠ B := Hne3.out
            have hgz7 : g < (w5.setCell ⟨B, 1, none⟩ (.slice (some ⟨g, 0, none⟩) (n - 1) 0)).heap.size := by
              have := Hgs.out.2
              simpa [World.setCell] using this
            have Hgz7 := Lib.hid hgz7
            clear hgz7
            have hrt' : Rd 1 encInt1 (w5.setCell ⟨B, 1, none⟩ (.slice (some ⟨g, 0, none⟩) (n - 1) 0)) (some ⟨g, 0, none⟩) t := fun i hi => by
              obtain ⟨b', off', ha, hcs⟩ := Hrt.out i hi
              refine ⟨b', off', ha, fun j u hu => cell_set_ne (hcs j u hu) (fun e => hgB ?_) _⟩
              simp only [Option.some.injEq, Addr.mk.injEq] at ha
              exact ha.1.trans e
            have Hrt' := Lib.hid hrt'
            clear hrt' Hrt hgB
            clear r0 r1 r2 E
            go_upto_region 6 with fail
            clear c0 c1 d0 d1 g0 g1 e0 e1 h0 h1 cx
            generalize (w5.setCell ⟨B, 1, none⟩ (.slice (some ⟨g, 0, none⟩) (n - 1) 0)) = w7 at *
            obtain ⟨c0, c1, _, _⟩ := cells2 r0'
            obtain ⟨d0, d1, g0, g1⟩ := cells2 r1'
            obtain ⟨e0, e1, _, _⟩ := cells2 r2'
            rw [Nat.add_zero] at cx'
            have hbq2 : bq ≠ w.heap.size + 1 := by omega
            have hbq3 : w.heap.size + 1 ≠ bq := by omega
            have E8 := ((E'.setCell (p := ⟨w.heap.size + 1, 0, none⟩) (by show w.heap.size ≤ w.heap.size + 1; omega) (.int .i64 f)).setCell (p := ⟨w.heap.size + 1, 1, none⟩) (by show w.heap.size ≤ w.heap.size + 1; omega) (.slice (some ⟨g, 0, none⟩) (n - 1) 0)).drew
            have hr8 : Hid (Rd 1 encInt1 (((w7.setCell ⟨w.heap.size + 1, 0, none⟩ (.int .i64 f)).setCell ⟨w.heap.size + 1, 1, none⟩ (.slice (some ⟨g, 0, none⟩) (n - 1) 0)).drew) (some ⟨g, 0, none⟩) t) := Lib.hid (fun i hi => by
              obtain ⟨b', off', ha, hcs⟩ := Hrt'.out i hi
              refine ⟨b', off', ha, fun j u hu => ?_⟩
              simp only [Option.some.injEq, Addr.mk.injEq] at ha
              show ((w7.setCell ⟨w.heap.size + 1, 0, none⟩ (.int .i64 f)).setCell ⟨w.heap.size + 1, 1, none⟩ (.slice (some ⟨g, 0, none⟩) (n - 1) 0)).cell? _ = _
              have hn : b' ≠ w.heap.size + 1 := fun e => Hne2.out (ha.1.trans e)
              exact cell_set_ne (cell_set_ne (hcs j u hu) hn _) hn _)
            have hgz : Hid (w.heap.size ≤ g ∧ g < (((w7.setCell ⟨w.heap.size + 1, 0, none⟩ (.int .i64 f)).setCell ⟨w.heap.size + 1, 1, none⟩ (.slice (some ⟨g, 0, none⟩) (n - 1) 0)).drew).heap.size) := Lib.hid ⟨Hgs.out.1, by
              have := Hgz7.out
              simpa [World.setCell] using this⟩
            clear hbq2 E'
            go_wp2
            go_region
            go_wp2
            try simp only [Exit.inBlock, Exit.then]
            refine bodyPost_ret (v := .tuple #[.agg #[.int .i64 f, .slice (some ⟨g, 0, none⟩) (n - 1) 0], .int .i64 x]) (by simp [results, Try.results20, go_sem, d0, d1]) rfl ?_
            exact RetGV.mk t Hnt.out.symm HR.out hr8.out (fun p hp => by cases hp; exact hgz.out) Hcapm.out E8
          · have Hrt : Hid (Rd 1 encInt1 w5 (some ⟨g, 1, none⟩) t) := Lib.hid (by first | exact Hrd6.out | (rw [Hrt0.out hc1]; exact Rd.nil))
            have hcapm : n - 1 ≤ (cap4 - 1) := by omega
            have Hcapm := Lib.hid hcapm
            clear hcapm
            clear Hrd6 Hrt0
            have r2' := heap_set r2 (o := 1) (.slice (some ⟨g, 1, none⟩) (n - 1) (cap4 - 1))
            replace r2' : (w5.setCell ⟨B, 1, none⟩ (.slice (some ⟨g, 1, none⟩) (n - 1) (cap4 - 1))).heap[B]? = some (.cells #[.int .i64 f, .slice (some ⟨g, 1, none⟩) (n - 1) (cap4 - 1)] 27) := r2'
            have r0' := heap_set_ne r0 ne3 (o := 1) (.slice (some ⟨g, 1, none⟩) (n - 1) (cap4 - 1))
            have r1' := heap_set_ne r1 ne1 (o := 1) (.slice (some ⟨g, 1, none⟩) (n - 1) (cap4 - 1))
            have E' := E.setCell (p := ⟨B, 1, none⟩) (by show w.heap.size ≤ B; omega) (.slice (some ⟨g, 1, none⟩) (n - 1) (cap4 - 1))
            have cx' : (w5.setCell ⟨B, 1, none⟩ (.slice (some ⟨g, 1, none⟩) (n - 1) (cap4 - 1))).cell? ⟨bq, offq + 0, none⟩ = some (.int .i64 x) := cell_set_ne cx (show bq ≠ B by omega) _
            have hgB : g ≠ B := Hne3.out
            have hgz7 : g < (w5.setCell ⟨B, 1, none⟩ (.slice (some ⟨g, 1, none⟩) (n - 1) (cap4 - 1))).heap.size := by
              have := Hgs.out.2
              simpa [World.setCell] using this
            have Hgz7 := Lib.hid hgz7
            clear hgz7
            have hrt' : Rd 1 encInt1 (w5.setCell ⟨B, 1, none⟩ (.slice (some ⟨g, 1, none⟩) (n - 1) (cap4 - 1))) (some ⟨g, 1, none⟩) t := fun i hi => by
              obtain ⟨b', off', ha, hcs⟩ := Hrt.out i hi
              refine ⟨b', off', ha, fun j u hu => cell_set_ne (hcs j u hu) (fun e => hgB ?_) _⟩
              simp only [Option.some.injEq, Addr.mk.injEq] at ha
              exact ha.1.trans e
            have Hrt' := Lib.hid hrt'
            clear hrt' Hrt hgB
            clear r0 r1 r2 E
            go_upto_region 6 with fail
            clear c0 c1 d0 d1 g0 g1 e0 e1 h0 h1 cx
            generalize (w5.setCell ⟨B, 1, none⟩ (.slice (some ⟨g, 1, none⟩) (n - 1) (cap4 - 1))) = w7 at *
            obtain ⟨c0, c1, _, _⟩ := cells2 r0'
            obtain ⟨d0, d1, g0, g1⟩ := cells2 r1'
            obtain ⟨e0, e1, _, _⟩ := cells2 r2'
            rw [Nat.add_zero] at cx'
            have hbq2 : bq ≠ w.heap.size + 1 := by omega
            have hbq3 : w.heap.size + 1 ≠ bq := by omega
            have E8 := ((E'.setCell (p := ⟨w.heap.size + 1, 0, none⟩) (by show w.heap.size ≤ w.heap.size + 1; omega) (.int .i64 f)).setCell (p := ⟨w.heap.size + 1, 1, none⟩) (by show w.heap.size ≤ w.heap.size + 1; omega) (.slice (some ⟨g, 1, none⟩) (n - 1) (cap4 - 1))).drew
            have hr8 : Hid (Rd 1 encInt1 (((w7.setCell ⟨w.heap.size + 1, 0, none⟩ (.int .i64 f)).setCell ⟨w.heap.size + 1, 1, none⟩ (.slice (some ⟨g, 1, none⟩) (n - 1) (cap4 - 1))).drew) (some ⟨g, 1, none⟩) t) := Lib.hid (fun i hi => by
              obtain ⟨b', off', ha, hcs⟩ := Hrt'.out i hi
              refine ⟨b', off', ha, fun j u hu => ?_⟩
              simp only [Option.some.injEq, Addr.mk.injEq] at ha
              show ((w7.setCell ⟨w.heap.size + 1, 0, none⟩ (.int .i64 f)).setCell ⟨w.heap.size + 1, 1, none⟩ (.slice (some ⟨g, 1, none⟩) (n - 1) (cap4 - 1))).cell? _ = _
              have hn : b' ≠ w.heap.size + 1 := fun e => Hne2.out (ha.1.trans e)
              exact cell_set_ne (cell_set_ne (hcs j u hu) hn _) hn _)
            have hgz : Hid (w.heap.size ≤ g ∧ g < (((w7.setCell ⟨w.heap.size + 1, 0, none⟩ (.int .i64 f)).setCell ⟨w.heap.size + 1, 1, none⟩ (.slice (some ⟨g, 1, none⟩) (n - 1) (cap4 - 1))).drew).heap.size) := Lib.hid ⟨Hgs.out.1, by
              have := Hgz7.out
              simpa [World.setCell] using this⟩
            clear hbq2 E'
            go_wp2
            go_region
            go_wp2
            try simp only [Exit.inBlock, Exit.then]
            refine bodyPost_ret (v := .tuple #[.agg #[.int .i64 f, .slice (some ⟨g, 1, none⟩) (n - 1) (cap4 - 1)], .int .i64 x]) (by simp [results, Try.results20, go_sem, d0, d1]) rfl ?_
            exact RetGV.mk t Hnt.out.symm HR.out hr8.out (fun p hp => by cases hp; exact hgz.out) Hcapm.out E8
end Go.Proofs.Ytcnghlmndahfpaa
