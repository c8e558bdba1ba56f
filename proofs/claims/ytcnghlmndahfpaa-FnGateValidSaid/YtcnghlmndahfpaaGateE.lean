/- EnterGate of the program: its contract. Condition: queues of at most 2^20, within their capacity. -/
import Derived.Test.YtcnghlmndahfpaaGateC
import Derived.Test.YtcnghlmndahfpaaGateI
namespace Go.Proofs.Ytcnghlmndahfpaa
open Go.RowKit

/-- A gate and a number, in new memory. -/
def RetG (R : Int → List Int → Int → Prop) (w : World) (e : Ending) (w' : World) : Prop :=
  ∃ f u L n, e = .returned (.tuple #[.agg #[.int .i64 f, u], .int .i64 n]) ∧ R f L n ∧ w'.ownsRow w.heap.size 3 1 u L.length (L.flatMap encInt1) ∧ Ext w w'
theorem RetG.mk {R : Int → List Int → Int → Prop} {w w' : World} {u : Value} {f n : Int} (L : List Int) (h : R f L n) (ho : w'.ownsRow w.heap.size 3 1 u L.length (L.flatMap encInt1)) (hE : Ext w w') :
    RetG R w (.returned (.tuple #[.agg #[.int .i64 f, u], .int .i64 n])) w' := ⟨f, u, L, n, rfl, h, ho, hE⟩

/-- What EnterGate answers. -/
def EntR (f : Int) (l : List Int) (who : Int) (f' : Int) (L : List Int) (n : Int) : Prop :=
  (¬ (GateOk f l ∧ 1 ≤ who ∧ who ≤ 99) ∧ f' = 0 ∧ L = [] ∧ n = -1) ∨
  ((GateOk f l ∧ 1 ≤ who ∧ who ≤ 99) ∧ ((0 < f ∧ f' = f - 1 ∧ L = l ∧ n = 1) ∨ (¬ 0 < f ∧ (who ∈ l ∨ l.length = 8) ∧ f' = f ∧ L = l ∧ n = -1) ∨ (¬ 0 < f ∧ ¬ (who ∈ l ∨ l.length = 8) ∧ f' = f ∧ L = l ++ [who] ∧ n = 0)))
theorem entR_fun {f : Int} {l : List Int} {who f1 f2 n1 n2 : Int} {L1 L2 : List Int} (h1 : EntR f l who f1 L1 n1) (h2 : EntR f l who f2 L2 n2) : f1 = f2 ∧ L1 = L2 ∧ n1 = n2 := by
  rcases h1 with ⟨c, rfl, rfl, rfl⟩ | ⟨c, ⟨d, rfl, rfl, rfl⟩ | ⟨d, e, rfl, rfl, rfl⟩ | ⟨d, e, rfl, rfl, rfl⟩⟩ <;>
  rcases h2 with ⟨c', rfl, rfl, rfl⟩ | ⟨c', ⟨d', rfl, rfl, rfl⟩ | ⟨d', e', rfl, rfl, rfl⟩ | ⟨d', e', rfl, rfl, rfl⟩⟩ <;>
  first | exact ⟨rfl, rfl, rfl⟩ | exact absurd c c' | exact absurd c' c | exact absurd d d' | exact absurd d' d | exact absurd e e' | exact absurd e' e

theorem owns_ne {w : World} {base e e' nf : Nat} {v : Value} {n B : Nat} {xs : List Value} {C : Array Value} {fz : Nat × Nat} (h : w.ownsRow base e nf v n xs) (hB : w.heap[B]? = some (.cells C e' fz)) (he : e ≠ e') : v.ownBlock ≠ some B := by
  intro hv
  rcases h.2 with ⟨rfl, _⟩ | ⟨g, cap, cur, rfl, _, hg, _⟩
  · cases hv
  · obtain rfl : g = B := by simpa [Value.ownBlock] using hv
    rw [hg] at hB
    simp only [Option.some.injEq, Obj.cells.injEq] at hB
    exact he hB.2.1

set_option maxHeartbeats 4000000 in
theorem implEnterGate (f : Int) (a : Option Addr) (cap : Nat) (l : List Int) (who : Int) (w : World) (hl : l.length ≤ 1048576) (hcap : l.length ≤ cap) (hc : Rd 1 encInt1 w a l) :
    Calls Try.prog 17 #[.agg #[.int .i64 f, .slice a l.length cap], .int .i64 who] w (RetG (EntR f l who) w) := by
  have E := ((Ext.refl w).alloc (.cells #[.int .i64 f, .slice a l.length cap] 27)).alloc (.cells #[.int .i64 0, .slice none 0 0] 27)
  have r0 : ((w.alloc (.cells #[.int .i64 f, .slice a l.length cap] 27)).alloc (.cells #[.int .i64 0, .slice none 0 0] 27)).heap[w.heap.size]? = some (.cells #[.int .i64 f, .slice a l.length cap] 27) := by
    rw [Below.heap_alloc _ _ _ (by simp)]
    exact heap_alloc_new w _
  have r1 : ((w.alloc (.cells #[.int .i64 f, .slice a l.length cap] 27)).alloc (.cells #[.int .i64 0, .slice none 0 0] 27)).heap[w.heap.size + 1]? = some (.cells #[.int .i64 0, .slice none 0 0] 27) := by
    have := heap_alloc_new (w.alloc (.cells #[.int .i64 f, .slice a l.length cap] 27)) (.cells #[.int .i64 0, .slice none 0 0] 27)
    simpa using this
  have hsz : w.heap.size + 2 ≤ ((w.alloc (.cells #[.int .i64 f, .slice a l.length cap] 27)).alloc (.cells #[.int .i64 0, .slice none 0 0] 27)).heap.size := by simp
  go_enter Try.func17, Try.ntmps17
  go_upto_region 1 with fail
  generalize ((w.alloc (.cells #[.int .i64 f, .slice a l.length cap] 27)).alloc (.cells #[.int .i64 0, .slice none 0 0] 27)) = w1 at *
  obtain ⟨c0, c1, _, _⟩ := cells2 r0
  go_wp2_with fail
  refine (implGateValid f a cap l w1 (by omega) hcap (hc.ext E)).mono ?_
  rintro e w2 ⟨b2, rfl, hb2, hE2⟩
  have Hb2 := Lib.hid hb2
  clear hb2 c0 c1
  replace E := E.trans hE2
  replace r0 := heap_ext hE2 r0
  replace r1 := heap_ext hE2 r1
  replace hsz := Nat.le_trans hsz hE2.size
  clear hE2
  obtain ⟨d0, d1, g0, g1⟩ := cells2 r1
  -- refused
  have bad : ¬ (GateOk f l ∧ 1 ≤ who ∧ who ≤ 99) → Hid (EntR f l who 0 [] (-1)) := fun h => Lib.hid (.inl ⟨h, rfl, rfl, rfl⟩)
  have E2 := ((E.setCell (p := ⟨w.heap.size + 1, 0, none⟩) (by show w.heap.size ≤ w.heap.size + 1; omega) (.int .i64 0)).setCell (p := ⟨w.heap.size + 1, 1, none⟩) (by show w.heap.size ≤ w.heap.size + 1; omega) (.slice none 0 0))
  cases b2 with
  | false =>
    have Hbad := bad (fun h => Bool.noConfusion (Hb2.out.2 h.1))
    clear bad
    go_wp2
    try simp only [Exit.inBlock, Exit.then]
    refine bodyPost_ret (v := .tuple #[.agg #[.int .i64 0, .slice none 0 0], .int .i64 (-1)]) (by simp [results, Try.results17, go_sem, d0, d1]) rfl ?_
    exact RetG.mk [] Hbad.out (World.ownsRow_nil _ _ _ _) E2
  | true =>
    have Hok := Lib.hid (Hb2.out.1 rfl)
    clear Hb2
    go_wp2_with fail
    refine (isProcess_any who w2).mono ?_
    rintro e w3 ⟨rfl, rfl⟩
    cases hin : inB who 1 99 with
    | false =>
      have Hbad := bad (fun h => by rw [inB_iff.2 h.2] at hin; cases hin)
      clear bad
      go_wp2
      try simp only [Exit.inBlock, Exit.then]
      refine bodyPost_ret (v := .tuple #[.agg #[.int .i64 0, .slice none 0 0], .int .i64 (-1)]) (by simp [results, Try.results17, go_sem, d0, d1]) rfl ?_
      exact RetG.mk [] Hbad.out (World.ownsRow_nil _ _ _ _) E2
    | true =>
      have Hwho := Lib.hid (inB_iff.1 hin)
      clear bad E2 d0 d1 g0 g1
      obtain ⟨c0, c1, _, _⟩ := cells2 r0
      go_wp2_with fail
      refine (copyGate_any f a cap l w2 hl (hc.ext E)).mono ?_
      rintro e w4 ⟨v4, rfl, ⟨u, rfl, hown⟩, hE4⟩
      obtain ⟨a4, cap4, rfl, hcap4, hrd4, hsh4⟩ := view_owns encInt1_len hown
      have hlt4 := fun k h => (World.ownsRow.lt hown k h)
      clear c0 c1
      replace E := E.trans hE4
      replace r0 := heap_ext hE4 r0
      replace r1 := heap_ext hE4 r1
      have hsz2 := hsz
      replace hsz := Nat.le_trans hsz hE4.size
      have E5 := (Ext.refl w4).alloc (.cells #[.int .i64 f, .slice a4 l.length cap4] 27)
      have r2 : (w4.alloc (.cells #[.int .i64 f, .slice a4 l.length cap4] 27)).heap[w4.heap.size]? = some (.cells #[.int .i64 f, .slice a4 l.length cap4] 27) := heap_alloc_new w4 _
      replace E := E.trans E5
      replace r0 := heap_ext E5 r0
      replace r1 := heap_ext E5 r1
      replace hown := ownsRow_ext hown E5
      have hB : w.heap.size + 2 ≤ w4.heap.size := hsz
      go_upto_region 4 with fail
      clear hrd4 hE4 E5
      generalize (w4.alloc (.cells #[.int .i64 f, .slice a4 l.length cap4] 27)) = w5 at *
      generalize w4.heap.size = B at *
      have ne1 : w.heap.size + 1 ≠ B := by omega
      have ne2 : B ≠ w.heap.size + 1 := by omega
      have ne3 : w.heap.size ≠ B := by omega
      have ne4 : B ≠ w.heap.size := by omega
      obtain ⟨c0, c1, _, _⟩ := cells2 r0
      obtain ⟨d0, d1, g0, g1⟩ := cells2 r1
      obtain ⟨e0, e1, h0, h1⟩ := cells2 r2
      have Hpos : Hid (GateOk f l ∧ 1 ≤ who ∧ who ≤ 99) := Lib.hid ⟨Hok.out, Hwho.out⟩
      clear Hok Hwho
      have hf9 : 0 ≤ f ∧ f ≤ 9 := Hpos.out.1.2.1
      have hl8 : l.length ≤ 8 := Hpos.out.1.2.2.1
      obtain ⟨hf9a, hf9b⟩ := hf9
      have hgb : ∀ k, (Value.slice a4 l.length cap4).ownBlock = some k → k ≠ B ∧ k ≠ w.heap.size + 1 ∧ k ≠ w.heap.size ∧ w.heap.size ≤ k := fun k hk => by
        have := hlt4 k hk
        omega
      have Hgb := Lib.hid hgb
      clear hgb hlt4
      have hown0 := ownsRow_base hown (show w.heap.size ≤ w2.heap.size by omega)
      by_cases hf : 0 < f
      · have HR : Hid (EntR f l who (f - 1) l 1) := Lib.hid (.inr ⟨Hpos.out, .inl ⟨hf, rfl, rfl, rfl⟩⟩)
        have E6 := ((E.setCell (p := ⟨B, 0, none⟩) (by show w.heap.size ≤ B; omega) (.int .i64 (f - 1))).setCell (p := ⟨w.heap.size + 1, 0, none⟩) (by show w.heap.size ≤ w.heap.size + 1; omega) (.int .i64 (f - 1))).setCell (p := ⟨w.heap.size + 1, 1, none⟩) (by show w.heap.size ≤ w.heap.size + 1; omega) (.slice a4 l.length cap4)
        have o6 := ownsRow_setCell_other (ownsRow_setCell_other (ownsRow_setCell_other hown0 (a := ⟨B, 0, none⟩) (fun h => (Hgb.out _ h).1 rfl) (.int .i64 (f - 1))) (a := ⟨w.heap.size + 1, 0, none⟩) (fun h => (Hgb.out _ h).2.1 rfl) (.int .i64 (f - 1))) (a := ⟨w.heap.size + 1, 1, none⟩) (fun h => (Hgb.out _ h).2.1 rfl) (.slice a4 l.length cap4)
        clear hown hown0 hsh4
        go_wp2
        try simp only [Exit.inBlock, Exit.then]
        refine bodyPost_ret (v := .tuple #[.agg #[.int .i64 (f - 1), .slice a4 l.length cap4], .int .i64 1]) (by simp [results, Try.results17, go_sem, d0, d1]) rfl ?_
        exact RetG.mk l HR.out o6 E6
      · have Hf : Hid (¬ 0 < f) := Lib.hid (by omega)
        have hcl := hc.ext E
        go_wp2_with fail
        refine (hasInt_any a cap _ l who w5 rfl (by omega) hcl).mono ?_
        rintro e w6 ⟨b6, rfl, hb6, hE6⟩
        have Hb6 := Lib.hid hb6
        clear hb6 hcl
        replace E := E.trans hE6
        replace r0 := heap_ext hE6 r0
        replace r1 := heap_ext hE6 r1
        replace r2 := heap_ext hE6 r2
        replace hown0 := ownsRow_ext hown0 hE6
        clear hE6 c0 c1 d0 d1 g0 g1 e0 e1 h0 h1
        obtain ⟨c0, c1, _, _⟩ := cells2 r0
        obtain ⟨d0, d1, g0, g1⟩ := cells2 r1
        obtain ⟨e0, e1, h0, h1⟩ := cells2 r2
        have refuse : (who ∈ l ∨ l.length = 8) → Hid (EntR f l who f l (-1)) := fun h => Lib.hid (.inr ⟨Hpos.out, .inr (.inl ⟨(by have := Hf.out; omega), h, rfl, rfl, rfl⟩)⟩)
        have E7 := (E.setCell (p := ⟨w.heap.size + 1, 0, none⟩) (by show w.heap.size ≤ w.heap.size + 1; omega) (.int .i64 f)).setCell (p := ⟨w.heap.size + 1, 1, none⟩) (by show w.heap.size ≤ w.heap.size + 1; omega) (.slice a4 l.length cap4)
        have o7 := ownsRow_setCell_other (ownsRow_setCell_other hown0 (a := ⟨w.heap.size + 1, 0, none⟩) (fun h => (Hgb.out _ h).2.1 rfl) (.int .i64 f)) (a := ⟨w.heap.size + 1, 1, none⟩) (fun h => (Hgb.out _ h).2.1 rfl) (.slice a4 l.length cap4)
        cases b6 with
        | true =>
          have HR := refuse (.inl (Hb6.out.1 rfl))
          clear refuse hown hown0 hsh4
          go_wp2
          try simp only [Exit.inBlock, Exit.then]
          refine bodyPost_ret (v := .tuple #[.agg #[.int .i64 f, .slice a4 l.length cap4], .int .i64 (-1)]) (by simp [results, Try.results17, go_sem, d0, d1]) rfl ?_
          exact RetG.mk l HR.out o7 E7
        | false =>
          by_cases h8 : l.length = 8
          · have t8 : ((l.length : Int) == 8) = true := by simp [h8]
            have HR := refuse (.inr h8)
            have H8 := Lib.hid h8
            clear refuse hown hown0 hsh4 h8 hl8
            go_wp2
            try simp only [Exit.inBlock, Exit.then]
            refine bodyPost_ret (v := .tuple #[.agg #[.int .i64 f, .slice a4 l.length cap4], .int .i64 (-1)]) (by simp [results, Try.results17, go_sem, d0, d1]) rfl ?_
            exact RetG.mk l HR.out o7 E7
          · have t8 : ((l.length : Int) == 8) = false := by simp; omega
            have HR : Hid (EntR f l who f (l ++ [who]) 0) := Lib.hid (.inr ⟨Hpos.out, .inr (.inr ⟨(by have := Hf.out; omega), fun h => h.elim (fun h => Bool.noConfusion (Hb6.out.2 h)) h8, rfl, rfl, rfl⟩)⟩)
            have H8 := Lib.hid h8
            clear refuse hown hsh4 h8 E7 o7
            have E8 := (Ext.refl w6).alloc (.cells #[.int .i64 who] 3)
            have ho8 := ownsRow_ext hown0 E8
            replace E := E.trans E8
            replace r1 := heap_ext E8 r1
            replace r2 := heap_ext E8 r2
            go_wp2_with (at_builtin; refine Hid.out (?_ : Hid _))
            unfold Hid
            refine (wpList_append_rd rfl _ _ 22 rfl w.heap.size 3 _ 1 _ Try.underlying22 infoInt rfl (by decide) encInt1_len encInt1_one _ l.length l rfl ho8 rfl (some ⟨w6.heap.size, 0, none⟩) 1 1 [who] rfl rfl (rd_lit_new [who] encInt1_len rfl) (by omega) (by omega) (by have := E.size; omega) ?_)
            intro v' w8 hown' hgr
            obtain ⟨a9, cap9, rfl, hcap9, hrd9, _⟩ := view_owns encInt1_len hown'
            have r1' : w8.heap[w.heap.size + 1]? = some (.cells #[.int .i64 0, .slice none 0 0] 27) := by
              rw [hgr.block _ (Array.getElem?_eq_some_iff.1 r1).1 (fun h => (Hgb.out _ h.symm).2.1 rfl)]; exact r1
            have r2' : w8.heap[B]? = some (.cells #[.int .i64 f, .slice a4 l.length cap4] 27) := by
              rw [hgr.block _ (Array.getElem?_eq_some_iff.1 r2).1 (fun h => (Hgb.out _ h.symm).1 rfl)]; exact r2
            have E9 := E.grown hgr (fun k h => (Hgb.out k h).2.2.2)
            have n1 := owns_ne hown' r1' (by decide)
            have n2 := owns_ne hown' r2' (by decide)
            clear hgr ho8 E E8 r1 r2 r0 c0 c1 d0 d1 g0 g1 e0 e1 h0 h1 hown0
            obtain ⟨d0, d1, g0, g1⟩ := cells2 r1'
            obtain ⟨e0, e1, h0, h1⟩ := cells2 r2'
            obtain ⟨M, hM⟩ : ∃ M, M = (l ++ [who]).length := ⟨_, rfl⟩
            have E10 := ((E9.setCell (p := ⟨B, 1, none⟩) (by show w.heap.size ≤ B; omega) (.slice a9 M cap9)).setCell (p := ⟨w.heap.size + 1, 0, none⟩) (by show w.heap.size ≤ w.heap.size + 1; omega) (.int .i64 f)).setCell (p := ⟨w.heap.size + 1, 1, none⟩) (by show w.heap.size ≤ w.heap.size + 1; omega) (.slice a9 M cap9)
            have o10 := ownsRow_setCell_other (ownsRow_setCell_other (ownsRow_setCell_other hown' (a := ⟨B, 1, none⟩) n2 (.slice a9 M cap9)) (a := ⟨w.heap.size + 1, 0, none⟩) n1 (.int .i64 f)) (a := ⟨w.heap.size + 1, 1, none⟩) n1 (.slice a9 M cap9)
            rw [← hM] at o10 ⊢
            have HM := Lib.hid hM
            clear hM hown' n1 n2 hrd9 hcap9
            go_wp2
            try simp only [Exit.inBlock, Exit.then]
            refine bodyPost_ret (v := .tuple #[.agg #[.int .i64 f, .slice a9 M cap9], .int .i64 0]) (by simp [results, Try.results17, go_sem, d0, d1]) rfl ?_
            exact RetG.mk (l ++ [who]) HR.out (by rw [← HM.out]; exact o10) E10
end Go.Proofs.Ytcnghlmndahfpaa
