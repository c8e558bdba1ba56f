/- EnterGate of the reference: its contract. Condition: queues of at most 2^20. -/
import Derived.Test.YtcnghlmndahfpaaGateE
namespace Go.Proofs.Ytcnghlmndahfpaa
open Go.RowKit

/-- Values whose facts the walk is not to open. -/
def LitO (base : Nat) (v : Value) (w : World) : Prop := ∃ g, v = .slice (some ⟨g, 0, none⟩) 0 0 ∧ w.heap[g]? = some (.cells #[] 3) ∧ base ≤ g
theorem LitO.ext {base : Nat} {v : Value} {w w' : World} (h : LitO base v w) (hE : Ext w w') : LitO base v w' := by
  obtain ⟨g, h1, h2, h3⟩ := h
  exact ⟨g, h1, heap_ext hE h2, h3⟩
def BoxO (base : Nat) (v : Value) (w : World) : Prop := ∃ g, v = .pointer (some ⟨g, 0, none⟩) ∧ w.heap[g]? = some (.cells #[.int .i64 0, .slice none 0 0] 27) ∧ base ≤ g
theorem BoxO.ext {base : Nat} {v : Value} {w w' : World} (h : BoxO base v w) (hE : Ext w w') : BoxO base v w' := by
  obtain ⟨g, h1, h2, h3⟩ := h
  exact ⟨g, h1, heap_ext hE h2, h3⟩

set_option maxHeartbeats 4000000 in
theorem specEnterGate (f : Int) (a : Option Addr) (cap : Nat) (l : List Int) (who : Int) (w : World) (hl : l.length ≤ 1048576) (hc : Rd 1 encInt1 w a l) :
    Calls Try.prog 16 #[.agg #[.int .i64 f, .slice a l.length cap], .int .i64 who] w (RetG (EntR f l who) w) := by
  have E := ((Ext.refl w).alloc (.cells #[.int .i64 f, .slice a l.length cap] 27)).alloc (.cells #[.int .i64 0, .slice none 0 0] 27)
  have r0 : ((w.alloc (.cells #[.int .i64 f, .slice a l.length cap] 27)).alloc (.cells #[.int .i64 0, .slice none 0 0] 27)).heap[w.heap.size]? = some (.cells #[.int .i64 f, .slice a l.length cap] 27) := by
    rw [Below.heap_alloc _ _ _ (by simp)]
    exact heap_alloc_new w _
  have r1 : ((w.alloc (.cells #[.int .i64 f, .slice a l.length cap] 27)).alloc (.cells #[.int .i64 0, .slice none 0 0] 27)).heap[w.heap.size + 1]? = some (.cells #[.int .i64 0, .slice none 0 0] 27) := by
    have := heap_alloc_new (w.alloc (.cells #[.int .i64 f, .slice a l.length cap] 27)) (.cells #[.int .i64 0, .slice none 0 0] 27)
    simpa using this
  have hsz : w.heap.size + 2 ≤ ((w.alloc (.cells #[.int .i64 f, .slice a l.length cap] 27)).alloc (.cells #[.int .i64 0, .slice none 0 0] 27)).heap.size := by simp
  go_enter Try.func16, Try.ntmps16
  go_upto_region 1 with fail
  generalize ((w.alloc (.cells #[.int .i64 f, .slice a l.length cap] 27)).alloc (.cells #[.int .i64 0, .slice none 0 0] 27)) = w1 at *
  obtain ⟨c0, c1, _, _⟩ := cells2 r0
  go_wp2_with fail
  refine (specGateValid f a cap l w1 (by omega) (hc.ext E)).mono ?_
  rintro e w2 ⟨b2, rfl, hb2, hE2⟩
  have Hb2 := Lib.hid hb2
  clear hb2 c0 c1
  replace E := E.trans hE2
  replace r0 := heap_ext hE2 r0
  replace r1 := heap_ext hE2 r1
  replace hsz := Nat.le_trans hsz hE2.size
  clear hE2
  obtain ⟨d0, d1, g0, g1⟩ := cells2 r1
  -- refused
  have bad : ¬ (GateOk f l ∧ 1 ≤ who ∧ who ≤ 99) → Hid (EntR f l who 0 [] (-1)) := fun h => Lib.hid (.inl ⟨h, rfl, rfl, rfl⟩)
  have E2 := ((E.setCell (p := ⟨w.heap.size + 1, 0, none⟩) (by show w.heap.size ≤ w.heap.size + 1; omega) (.int .i64 0)).setCell (p := ⟨w.heap.size + 1, 1, none⟩) (by show w.heap.size ≤ w.heap.size + 1; omega) (.slice none 0 0))
  cases b2 with
  | false =>
    have Hbad := bad (fun h => Bool.noConfusion (Hb2.out.2 h.1))
    clear bad
    go_wp2
    try simp only [Exit.inBlock, Exit.then]
    refine bodyPost_ret (v := .tuple #[.agg #[.int .i64 0, .slice none 0 0], .int .i64 (-1)]) (by simp [results, Try.results16, go_sem, d0, d1]) rfl ?_
    exact RetG.mk [] Hbad.out (World.ownsRow_nil _ _ _ _) E2
  | true =>
    have Hok := Lib.hid (Hb2.out.1 rfl)
    clear Hb2
    go_wp2_with fail
    refine (l1In_any who 1 99 w2).mono ?_
    rintro e w3 ⟨rfl, rfl⟩
    cases hin : inB who 1 99 with
    | false =>
      have Hbad := bad (fun h => by rw [inB_iff.2 h.2] at hin; cases hin)
      clear bad
      go_wp2
      try simp only [Exit.inBlock, Exit.then]
      refine bodyPost_ret (v := .tuple #[.agg #[.int .i64 0, .slice none 0 0], .int .i64 (-1)]) (by simp [results, Try.results16, go_sem, d0, d1]) rfl ?_
      exact RetG.mk [] Hbad.out (World.ownsRow_nil _ _ _ _) E2
    | true =>
      have Hwho := Lib.hid (inB_iff.1 hin)
      clear bad E2 d0 d1 g0 g1
      go_upto_region 3 with fail
      have Ed := E.drew
      have r0d : w2.drew.heap[w.heap.size]? = some (.cells #[.int .i64 f, .slice a l.length cap] 27) := r0
      have r1d : w2.drew.heap[w.heap.size + 1]? = some (.cells #[.int .i64 0, .slice none 0 0] 27) := r1
      refine wp_region_v 8 (V := fun i v wv => match i with
        | 0 => v = .pointer (some ⟨w.heap.size, 0, none⟩)
        | 1 => v = .int .i64 f
        | 2 => LitO (w.heap.size + 2) v wv
        | 3 => v = .pointer (some ⟨w.heap.size, 1, none⟩)
        | 4 => v = .slice a l.length cap
        | 5 => OwnO (w.heap.size + 2) l v wv
        | 6 => GateO (w.heap.size + 2) f l v wv
        | 7 => BoxO (w.heap.size + 2) v wv
        | _ => True) rfl (by decide) (by kernel_rfl) (by kernel_rfl) (by kernel_rfl) ?_ ?_ ?_
      · intro i v w3 w4 h hE
        match i with
        | 0 => exact h
        | 1 => exact h
        | 2 => exact h.ext hE
        | 3 => exact h
        | 4 => exact h
        | 5 => exact ownsRow_ext h hE
        | 6 => obtain ⟨u, h1, h2⟩ := h; exact ⟨u, h1, ownsRow_ext h2 hE⟩
        | 7 => exact h.ext hE
        | (n + 8) => trivial
      · intro i o hi ho vs w3 hvl hE hd
        obtain ⟨c0, c1, f0, f1⟩ := cells2 (heap_ext hE r0d)
        have hs3 := hE.size
        have hs4 : w.heap.size + 2 ≤ w3.heap.size := Nat.le_trans hsz hs3
        match vs, hvl with
        | [x0, x1, x2, x3, x4, x5, x6, x7], _ =>
        rcases (show i = 0 ∨ i = 1 ∨ i = 2 ∨ i = 3 ∨ i = 4 ∨ i = 5 ∨ i = 6 ∨ i = 7 by omega) with rfl | rfl | rfl | rfl | rfl | rfl | rfl | rfl
        all_goals
          simp only [List.getElem?_cons_zero, List.getElem?_cons_succ, Option.some.injEq] at ho
          subst ho
          simp [Waits, Region.binds] at hd
        · simp [putAll, Act.put]
          go_wp2
          exact ⟨rfl, _, rfl, rfl, Ext.refl _⟩
        · simp [putAll, Act.put, hd]
          go_wp2
          exact ⟨rfl, _, rfl, rfl, Ext.refl _⟩
        · simp [putAll, Act.put]
          go_wp2
          exact ⟨rfl, _, rfl, ⟨_, rfl, heap_alloc_new w3 _, hs4⟩, (Ext.refl _).alloc _⟩
        · simp [putAll, Act.put]
          go_wp2
          exact ⟨rfl, _, rfl, rfl, Ext.refl _⟩
        · simp [putAll, Act.put, hd]
          go_wp2
          exact ⟨rfl, _, rfl, rfl, Ext.refl _⟩
        · obtain ⟨⟨gl, rfl, hgl, hbl⟩, hx4⟩ := hd
          subst hx4
          simp [putAll, Act.put]
          refine wpList_append_lit rfl _ _ 22 rfl (w.heap.size + 2) 3 _ 1 _ Try.underlying22 infoInt rfl (by decide) encInt1_len encInt1_one gl rfl hgl hbl a l.length cap l rfl rfl (hc.ext (Ed.trans hE)) (by omega) (by omega) hs4 ?_
          intro v' w4 hown hE4
          go_wp2
          exact ⟨rfl, _, rfl, hown, hE4⟩
        · obtain ⟨hd0, hown⟩ := hd
          obtain ⟨a8, cap8, hx4, _⟩ := view_owns encInt1_len hown
          subst hx4
          have h9 : GateO (w.heap.size + 2) f l (.agg #[.int .i64 f, .slice a8 l.length cap8]) w3 := ⟨_, rfl, hown⟩
          clear hown
          simp [putAll, Act.put, hd0]
          go_wp2
          exact ⟨rfl, _, rfl, h9, Ext.refl _⟩
        · simp [putAll, Act.put]
          go_wp2
          exact ⟨rfl, _, rfl, ⟨_, rfl, heap_alloc_new w3 _, hs4⟩, (Ext.refl _).alloc _⟩
      · intro vs w3 hvl hE hV
        match vs, hvl with
        | [x0, x1, x2, x3, x4, x5, x6, x7], _ =>
        obtain ⟨u, hu, hown⟩ := hV 6 (by omega)
        obtain ⟨B, hB, r2, hB2⟩ := hV 7 (by omega)
        clear hV
        simp at hu hB
        subst hu hB
        obtain ⟨a4, cap4, rfl, hcap4, _, _⟩ := view_owns encInt1_len hown
        replace E := Ed.trans hE
        replace r0 := heap_ext hE r0d
        replace r1 := heap_ext hE r1d
        have hne := owns_ne hown r2 (by decide)
        have hne1 := owns_ne hown r1 (by decide)
        obtain ⟨z0, z1, z2, z3⟩ := cells2 r2
        replace E := (E.setCell (p := ⟨B, 0, none⟩) (by show w.heap.size ≤ B; omega) (.int .i64 f)).setCell (p := ⟨B, 1, none⟩) (by show w.heap.size ≤ B; omega) (.slice a4 l.length cap4)
        replace hown := ownsRow_base (ownsRow_setCell_other (ownsRow_setCell_other hown (a := ⟨B, 0, none⟩) hne (.int .i64 f)) (a := ⟨B, 1, none⟩) hne (.slice a4 l.length cap4)) (show w.heap.size ≤ w.heap.size + 2 by omega)
        replace r0 := heap_set_ne (heap_set_ne r0 (show w.heap.size ≠ B by omega) (o := 0) (.int .i64 f)) (show w.heap.size ≠ B by omega) (o := 1) (.slice a4 l.length cap4)
        replace r1 := heap_set_ne (heap_set_ne r1 (show w.heap.size + 1 ≠ B by omega) (o := 0) (.int .i64 f)) (show w.heap.size + 1 ≠ B by omega) (o := 1) (.slice a4 l.length cap4)
        replace r2 := heap_set (heap_set r2 (o := 0) (.int .i64 f)) (o := 1) (.slice a4 l.length cap4)
        replace r2 : ((w3.setCell ⟨B, 0, none⟩ (.int .i64 f)).setCell ⟨B, 1, none⟩ (.slice a4 l.length cap4)).heap[B]? = some (.cells #[.int .i64 f, .slice a4 l.length cap4] 27) := r2
        clear Ed hE r0d r1d hsz
        simp only [putAll, Act.put, List.take_succ_cons, List.take_zero, List.drop_succ_cons, List.drop_zero]
        simp
        go_upto_region 4 with fail
        generalize ((w3.setCell ⟨B, 0, none⟩ (.int .i64 f)).setCell ⟨B, 1, none⟩ (.slice a4 l.length cap4)) = w5 at *
        clear z0 z1 z2 z3
        have ne1 : w.heap.size + 1 ≠ B := by omega
        have ne2 : B ≠ w.heap.size + 1 := by omega
        have ne3 : w.heap.size ≠ B := by omega
        have ne4 : B ≠ w.heap.size := by omega
        obtain ⟨c0, c1, _, _⟩ := cells2 r0
        obtain ⟨d0, d1, g0, g1⟩ := cells2 r1
        obtain ⟨e0, e1, h0, h1⟩ := cells2 r2
        have Hpos : Hid (GateOk f l ∧ 1 ≤ who ∧ who ≤ 99) := Lib.hid ⟨Hok.out, Hwho.out⟩
        clear Hok Hwho
        have hf9 : 0 ≤ f ∧ f ≤ 9 := Hpos.out.1.2.1
        have hl8 : l.length ≤ 8 := Hpos.out.1.2.2.1
        obtain ⟨hf9a, hf9b⟩ := hf9
        have Hgb : Hid (∀ k, (Value.slice a4 l.length cap4).ownBlock = some k → k ≠ B ∧ k ≠ w.heap.size + 1 ∧ w.heap.size ≤ k) := Lib.hid (fun k hk => ⟨fun h => hne (h ▸ hk), fun h => hne1 (h ▸ hk), (World.ownsRow.lt hown k hk).1⟩)
        by_cases hf : 0 < f
        · have HR : Hid (EntR f l who (f - 1) l 1) := Lib.hid (.inr ⟨Hpos.out, .inl ⟨hf, rfl, rfl, rfl⟩⟩)
          have E6 := ((E.setCell (p := ⟨B, 0, none⟩) (by show w.heap.size ≤ B; omega) (.int .i64 (f - 1))).setCell (p := ⟨w.heap.size + 1, 0, none⟩) (by show w.heap.size ≤ w.heap.size + 1; omega) (.int .i64 (f - 1))).setCell (p := ⟨w.heap.size + 1, 1, none⟩) (by show w.heap.size ≤ w.heap.size + 1; omega) (.slice a4 l.length cap4)
          have o6 := ownsRow_setCell_other (ownsRow_setCell_other (ownsRow_setCell_other hown (a := ⟨B, 0, none⟩) (fun h => (Hgb.out _ h).1 rfl) (.int .i64 (f - 1))) (a := ⟨w.heap.size + 1, 0, none⟩) (fun h => (Hgb.out _ h).2.1 rfl) (.int .i64 (f - 1))) (a := ⟨w.heap.size + 1, 1, none⟩) (fun h => (Hgb.out _ h).2.1 rfl) (.slice a4 l.length cap4)
          clear hown hne hne1
          go_wp2
          try simp only [Exit.inBlock, Exit.then]
          refine bodyPost_ret (v := .tuple #[.agg #[.int .i64 (f - 1), .slice a4 l.length cap4], .int .i64 1]) (by simp [results, Try.results16, go_sem, d0, d1]) rfl ?_
          exact RetG.mk l HR.out o6 E6
        · have Hf : Hid (¬ 0 < f) := Lib.hid hf
          have refuse : (who ∈ l ∨ l.length = 8) → Hid (EntR f l who f l (-1)) := fun h => Lib.hid (.inr ⟨Hpos.out, .inr (.inl ⟨(by have := Hf.out; omega), h, rfl, rfl, rfl⟩)⟩)
          have Href := Lib.hid refuse
          clear refuse hne hne1
          go_wp2
          clear c0 c1 d0 d1 g0 g1 e0 e1 h0 h1
          go_loopw [7] (fun i wr => ∃ k : Nat, k ≤ l.length ∧ i = .int .i64 k ∧ (∀ (i : Nat) y, i < k → l[i]? = some y → y ≠ who) ∧ Ext w5 wr) (fun i _ => l.length - (intOf i).toNat)
          case atStart => exact ⟨0, Nat.zero_le _, rfl, fun _ _ h => absurd h (Nat.not_lt_zero _), Ext.refl _⟩
          case round =>
            obtain ⟨k, hk, rfl, hpre, hb⟩ := hrel
            have Hpre := Lib.hid hpre
            clear hpre
            have hcl := hc.ext (E.trans hb)
            obtain ⟨c0, c1, _, _⟩ := cells2 (heap_ext hb r0)
            obtain ⟨d0, d1, g0, g1⟩ := cells2 (heap_ext hb r1)
            obtain ⟨e0, e1, h0, h1⟩ := cells2 (heap_ext hb r2)
            have hown5 := ownsRow_ext hown hb
            have E5 := E.trans hb
            have E7 := (E5.setCell (p := ⟨w.heap.size + 1, 0, none⟩) (by show w.heap.size ≤ w.heap.size + 1; omega) (.int .i64 f)).setCell (p := ⟨w.heap.size + 1, 1, none⟩) (by show w.heap.size ≤ w.heap.size + 1; omega) (.slice a4 l.length cap4)
            have o7 := ownsRow_setCell_other (ownsRow_setCell_other hown5 (a := ⟨w.heap.size + 1, 0, none⟩) (fun h => (Hgb.out _ h).2.1 rfl) (.int .i64 f)) (a := ⟨w.heap.size + 1, 1, none⟩) (fun h => (Hgb.out _ h).2.1 rfl) (.slice a4 l.length cap4)
            by_cases hlt : k < l.length
            · obtain ⟨x, b, off, hx, rfl, cx⟩ := atInt hcl hlt
              have Hx := Lib.hid hx
              clear hx
              have i0 : (0 : Int) ≤ (k : Int) := by omega
              have i1 : (k : Int) < (l.length : Int) := by omega
              by_cases hxw : x = who
              · have tx : (x == who) = true := by simpa using hxw
                have HR := Href.out (.inl (hxw ▸ List.mem_of_getElem? Hx.out))
                clear hxw hown hown5
                go_wp2
                try simp only [Exit.inBlock, Exit.then]
                refine bodyPost_ret (v := .tuple #[.agg #[.int .i64 f, .slice a4 l.length cap4], .int .i64 (-1)]) (by simp [results, Try.results16, go_sem, d0, d1]) rfl ?_
                exact RetG.mk l HR.out o7 E7
              · have tx : (x == who) = false := by simpa using hxw
                have Hxw := Lib.hid hxw
                clear hxw E7 o7
                go_wp2
                go_roundw
                case rel =>
                  refine ⟨k + 1, by omega, by go_num, fun i z hi hz => ?_, hb⟩
                  rcases Nat.lt_succ_iff_lt_or_eq.1 hi with h' | rfl
                  · exact Hpre.out i z h' hz
                  · have h1 := Hx.out
                    rw [hz] at h1; cases h1
                    exact Hxw.out
                case measure => simp [intOf]; omega
            · obtain rfl : k = l.length := by omega
              have hni : ¬ (l.length : Int) < (l.length : Int) := by omega
              have Hnot : Hid (who ∉ l) := Lib.hid (fun h => by
                obtain ⟨j, hj⟩ := List.getElem?_of_mem h
                exact Hpre.out j who (List.getElem?_eq_some_iff.1 hj).1 hj rfl)
              by_cases h8 : l.length = 8
              · have t8 : ((l.length : Int) == 8) = true := by simp [h8]
                have HR := Href.out (.inr h8)
                have H8 := Lib.hid h8
                clear hown hown5 h8 hl8
                go_wp2
                try simp only [Exit.inBlock, Exit.then]
                refine bodyPost_ret (v := .tuple #[.agg #[.int .i64 f, .slice a4 l.length cap4], .int .i64 (-1)]) (by simp [results, Try.results16, go_sem, d0, d1]) rfl ?_
                exact RetG.mk l HR.out o7 E7
              · have t8 : ((l.length : Int) == 8) = false := by simp; omega
                have HR : Hid (EntR f l who f (l ++ [who]) 0) := Lib.hid (.inr ⟨Hpos.out, .inr (.inr ⟨(by have := Hf.out; omega), fun h => h.elim Hnot.out h8, rfl, rfl, rfl⟩)⟩)
                have H8 := Lib.hid h8
                clear h8 E7 o7 hown
                have E8 := (Ext.refl wr).alloc (.cells #[.int .i64 who] 3)
                have ho8 := ownsRow_ext hown5 E8
                have Ew := E5.trans E8
                have q1 := heap_ext E8 (heap_ext hb r1)
                have q2 := heap_ext E8 (heap_ext hb r2)
                clear hown5
                go_wp2_with (at_builtin; refine Hid.out (?_ : Hid _))
                unfold Hid
                refine (wpList_append_rd rfl _ _ 22 rfl w.heap.size 3 _ 1 _ Try.underlying22 infoInt rfl (by decide) encInt1_len encInt1_one _ l.length l rfl ho8 rfl (some ⟨wr.heap.size, 0, none⟩) 1 1 [who] rfl rfl (rd_lit_new [who] encInt1_len rfl) (by omega) (by omega) (by have := Ew.size; omega) ?_)
                intro v' w8 hown' hgr
                obtain ⟨a9, cap9, rfl, hcap9, hrd9, _⟩ := view_owns encInt1_len hown'
                have r1' : w8.heap[w.heap.size + 1]? = some (.cells #[.int .i64 0, .slice none 0 0] 27) := by
                  rw [hgr.block _ (Array.getElem?_eq_some_iff.1 q1).1 (fun h => (Hgb.out _ h.symm).2.1 rfl)]; exact q1
                have r2' : w8.heap[B]? = some (.cells #[.int .i64 f, .slice a4 l.length cap4] 27) := by
                  rw [hgr.block _ (Array.getElem?_eq_some_iff.1 q2).1 (fun h => (Hgb.out _ h.symm).1 rfl)]; exact q2
                have E9 := Ew.grown hgr (fun k h => (Hgb.out k h).2.2)
                have n1 := owns_ne hown' r1' (by decide)
                have n2 := owns_ne hown' r2' (by decide)
                clear hgr ho8 E E8 r1 r2 r0 c0 c1 d0 d1 g0 g1 e0 e1 h0 h1 q1 q2 hcl
                obtain ⟨d0, d1, g0, g1⟩ := cells2 r1'
                obtain ⟨e0, e1, h0, h1⟩ := cells2 r2'
                obtain ⟨M, hM⟩ : ∃ M, M = (l ++ [who]).length := ⟨_, rfl⟩
                have E10 := ((E9.setCell (p := ⟨B, 1, none⟩) (by show w.heap.size ≤ B; omega) (.slice a9 M cap9)).setCell (p := ⟨w.heap.size + 1, 0, none⟩) (by show w.heap.size ≤ w.heap.size + 1; omega) (.int .i64 f)).setCell (p := ⟨w.heap.size + 1, 1, none⟩) (by show w.heap.size ≤ w.heap.size + 1; omega) (.slice a9 M cap9)
                have o10 := ownsRow_setCell_other (ownsRow_setCell_other (ownsRow_setCell_other hown' (a := ⟨B, 1, none⟩) n2 (.slice a9 M cap9)) (a := ⟨w.heap.size + 1, 0, none⟩) n1 (.int .i64 f)) (a := ⟨w.heap.size + 1, 1, none⟩) n1 (.slice a9 M cap9)
                rw [← hM] at o10 ⊢
                have HM := Lib.hid hM
                clear hM hown' n1 n2 hrd9 hcap9
                go_wp2
                try simp only [Exit.inBlock, Exit.then]
                refine bodyPost_ret (v := .tuple #[.agg #[.int .i64 f, .slice a9 M cap9], .int .i64 0]) (by simp [results, Try.results16, go_sem, d0, d1]) rfl ?_
                exact RetG.mk (l ++ [who]) HR.out (by rw [← HM.out]; exact o10) E10
end Go.Proofs.Ytcnghlmndahfpaa
