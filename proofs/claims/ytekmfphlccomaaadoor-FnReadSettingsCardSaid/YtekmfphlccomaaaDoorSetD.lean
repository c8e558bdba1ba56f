/- SetSetting of the reference, as far as the draws want it: it gives a short list of short texts. Condition: a short list of short texts. -/
import Derived.Test.YtekmfphlccomaaaDoorSetV
import Derived.Test.YtekmfphlccomaaaDoorApp
import Derived.Test.YtekmfphlccomaaaDoorView
namespace Go.Proofs.YtekmfphlccomaaaDoor
open Go.RowKit

def SmallS (l : List Set) : Prop := l.length ≤ 8 ∧ ∀ x ∈ l, x.name.size ≤ 17 ∧ x.text.size ≤ 17

set_option maxRecDepth 10000 in
set_option maxHeartbeats 16000000 in
theorem specSetSetting (a : Option Addr) (cap : Nat) (l : List Set) (nm tx : ByteArray) (w : World) (hl : l.length ≤ 8) (hs : ∀ x ∈ l, x.name.size ≤ 17 ∧ x.text.size ≤ 17) (hn : nm.size ≤ 17) (ht : tx.size ≤ 17) (hcap : l.length ≤ cap)
    (hshape : (a = none ∧ l = [] ∧ cap = 0) ∨ ∃ g, a = some ⟨g, 0, none⟩) (hc : Rd 2 encSet w a l) :
    Calls Tryd.prog 31 #[.slice a l.length cap, .string nm, .string tx] w (RetSB 40 2 encSet (fun L _ => SmallS L) w) := by
  have Hs := Lib.hid hs
  clear hs
  go_enter Tryd.func31, Tryd.ntmps31
  go_wp2_with fail
  refine (specSettingsValid a cap l w (by omega) (fun x hx => by have := Hs.out x hx; omega) hc).mono ?_
  rintro e w1 ⟨v0, rfl, hv0, E1⟩
  clear hv0
  cases v0 with
  | false =>
    go_wp2
    go_ret2
    exact RetSB.mk (L := []) rfl ⟨by simp, by simp⟩ (owns_lit_new [] encSet_len rfl rfl (by omega) E1.size) (E1.alloc _)
  | true =>
    go_wp2
    go_loopw [8] (fun i wr => ∃ k : Nat, k ≤ l.length ∧ i = .int .i64 k ∧ Ext w1 wr) (fun i _ => l.length - (intOf i).toNat)
    case atStart => exact ⟨0, Nat.zero_le _, rfl, Ext.refl _⟩
    case round =>
      obtain ⟨k, hk, rfl, hb⟩ := hrel
      have E := E1.trans hb
      have HbX := hb
      rcases hshape with ⟨rfl, rfl, rfl⟩ | ⟨g, rfl⟩
      · obtain rfl : k = 0 := by simpa using hk
        skip
        have E5 := (Ext.refl wr).alloc (.cells #[] 40)
        obtain ⟨A, hA⟩ : ∃ A, A = ([] : List Set).take 0 := ⟨_, rfl⟩
        have hAk : 0 = A.length := by rw [hA, List.length_take]; omega
        have HAk := Lib.hid hAk
        have rdA : Rd 2 encSet (wr.alloc (.cells #[] 40)) none A := by rw [hA]; exact ((hc.ext E).take (0)).ext E5
        have hA8 : A.length ≤ 8 := by rw [hA, List.length_take]; omega
        have hAs : ∀ x ∈ A, x.name.size ≤ 17 ∧ x.text.size ≤ 17 := fun x hx => Hs.out x (List.mem_of_mem_take (hA ▸ hx))
        have HAs := Lib.hid hAs
        clear hA hAk hAs
        go_wp2_with (at_builtin; refine wpList_append_lit rfl _ _ 23 rfl w.heap.size 40 _ 2 _ Tryd.underlying23 infoSet rfl (by decide) encSet_len encSet_one wr.heap.size rfl (heap_alloc_new _ _) E.size _ _ _ A rfl HAk.out rdA (by omega) (by omega) (by have := E.size; simp; omega) ?_)
        intro v5 w5 own5 hE5
        have F5 := (E.trans E5).trans hE5
        clear rdA HAk
        have E6 := (Ext.refl w5).alloc (.cells #[.string nm, .string tx] 40)
        have rdm : Rd 2 encSet (w5.alloc (.cells #[.string nm, .string tx] 40)) (some ⟨w5.heap.size, 0, none⟩) [(⟨nm, tx⟩ : Set)] := rd_lit_new [(⟨nm, tx⟩ : Set)] encSet_len rfl
        have ho6 := ownsRow_ext own5 E6
        have F6 := F5.trans E6
        go_wp2_with (at_builtin; refine wpList_append_rd rfl _ _ 23 rfl w.heap.size 40 _ 2 _ Tryd.underlying23 infoSet rfl (by decide) encSet_len encSet_one _ A.length A rfl ho6 rfl _ 1 1 [(⟨nm, tx⟩ : Set)] rfl rfl rdm (by omega) (by omega) F6.size ?_)
        intro v7 w7 own7 hg7
        have F7 : Ext w w7 := F6.grown hg7 (fun k h => (ho6.lt k h).1)
        have own7' : w7.ownsRow w.heap.size 40 2 v7 (A ++ [(⟨nm, tx⟩ : Set)]).length ((A ++ [(⟨nm, tx⟩ : Set)]).flatMap encSet) := by simpa using own7
        have hBs : ∀ x ∈ A ++ [(⟨nm, tx⟩ : Set)], x.name.size ≤ 17 ∧ x.text.size ≤ 17 := fun x hx => by
          rcases List.mem_append.1 hx with h | h
          · exact HAs.out x h
          · rw [List.mem_singleton.1 h]; exact ⟨hn, ht⟩
        have hB9 : (A ++ [(⟨nm, tx⟩ : Set)]).length ≤ 9 := by rw [List.length_append, List.length_singleton]; omega
        obtain ⟨B, hB⟩ : ∃ B, B = A ++ [(⟨nm, tx⟩ : Set)] := ⟨_, rfl⟩
        rw [← hB] at own7' hBs hB9
        have HBs := Lib.hid hBs
        clear hB hBs own7 hg7 ho6 rdm E6 own5
        have hRl : ([] : List Set).length ≤ 8 := by simp
        have HRs : Hid (∀ x ∈ ([] : List Set), x.name.size ≤ 17 ∧ x.text.size ≤ 17) := Lib.hid (fun x hx => by simp at hx)
        have HRn := Lib.hid (show 0 = ([] : List Set).length from rfl)
        have rdR7 : True := trivial
        go_wp2_with (at_builtin; refine wpList_append_rd rfl _ _ 23 rfl w.heap.size 40 _ 2 _ Tryd.underlying23 infoSet rfl (by decide) encSet_len encSet_one _ B.length B rfl own7' rfl _ _ _ ([] : List Set) rfl (by simp <;> omega) Rd.nil (by omega) (by omega) F7.size ?_)
        intro v9 w9 own9 hg9
        have F9 : Ext w w9 := F7.grown hg9 (fun k h => (own7'.lt k h).1)
        have own9' : w9.ownsRow w.heap.size 40 2 v9 (B ++ ([] : List Set)).length ((B ++ ([] : List Set)).flatMap encSet) := by simpa using own9
        have hCs : ∀ x ∈ B ++ ([] : List Set), x.name.size ≤ 17 ∧ x.text.size ≤ 17 := fun x hx => by
          rcases List.mem_append.1 hx with h | h
          · exact HBs.out x h
          · exact HRs.out x h
        have hC17 : (B ++ ([] : List Set)).length ≤ 17 := by rw [List.length_append]; omega
        obtain ⟨C, hC⟩ : ∃ C, C = B ++ ([] : List Set) := ⟨_, rfl⟩
        rw [← hC] at own9' hCs hC17
        have HCs := Lib.hid hCs
        clear hC hCs own9 hg9 own7' rdR7 HRs HRn HBs HAs
        obtain ⟨a9, cap9, rfl, hcap9, rd9, _⟩ := view_owns encSet_len own9'
        go_wp2_with fail
        refine (specSettingsValid a9 cap9 C w9 (by omega) (fun x hx => by have := HCs.out x hx; omega) rd9).mono ?_
        rintro e w10 ⟨b10, rfl, hb10, E10⟩
        have Hb10 := Lib.hid hb10
        clear hb10
        cases b10 with
        | true =>
          have HC8 : Hid (SmallS C) := Lib.hid ⟨(Hb10.out.1 rfl).2, HCs.out⟩
          have own10 := ownsRow_ext own9' E10
          clear Hb10
          go_wp2
          go_ret2
          exact RetSB.mk (L := C) rfl HC8.out own10 (F9.trans E10)
        | false =>
          clear Hb10
          have F10 := F9.trans E10
          have rd0 := (hc.ext F10).ext ((Ext.refl w10).alloc (.cells #[] 40))
          go_wp2_with (at_builtin; refine wpList_append_lit rfl _ _ 23 rfl w.heap.size 40 _ 2 _ Tryd.underlying23 infoSet rfl (by decide) encSet_len encSet_one w10.heap.size rfl (heap_alloc_new _ _) F10.size _ _ _ ([] : List Set) rfl rfl rd0 (by omega) (by omega) (by have := F10.size; simp; omega) ?_)
          intro v11 w11 own11 hE11
          go_wp2
          go_ret2
          exact RetSB.mk (L := []) rfl ⟨hl, Hs.out⟩ own11 ((F10.alloc _).trans hE11)
      · have i0 : (0 : Int) ≤ (k : Int) := by omega
        have ic : (k : Int) ≤ (cap : Int) := by omega
        have il : (k : Int) ≤ (l.length : Int) := by omega
        by_cases hlt : k < l.length
        · have i1 : (k : Int) < (l.length : Int) := by omega
          obtain ⟨x, b, off, hx, hab, c0, c1⟩ := atSet (hc.ext E) hlt
          obtain ⟨rfl, rfl⟩ : g = b ∧ 0 = off := by simpa using hab
          simp only [Nat.zero_add] at c0 c1
          have hkw : IntKind.i64.wrap ((k : Int) + 1) = (k : Int) + 1 := IntWalk.i64_in _ (by omega)
          clear hx hab
          cases hless : Op.bytesLess x.name.toList nm.toList with
          | true =>
            go_wp2
            go_roundw
            case rel => exact ⟨k + 1, by omega, by go_num, HbX⟩
            case measure => simp [intOf]; omega
          | false =>
            cases heq : (x.name.toList == nm.toList) with
            | true =>
              have ick : (k : Int) + 1 ≤ (cap : Int) := by omega
              have ilk : (k : Int) + 1 ≤ (l.length : Int) := by omega
              by_cases hcm : cap = k + 1
              ·
                skip
                have E5 := (Ext.refl wr).alloc (.cells #[] 40)
                obtain ⟨A, hA⟩ : ∃ A, A = l.take (k) := ⟨_, rfl⟩
                have hAk : k = A.length := by rw [hA, List.length_take]; omega
                have HAk := Lib.hid hAk
                have rdA : Rd 2 encSet (wr.alloc (.cells #[] 40)) (some ⟨g, 0, none⟩) A := by rw [hA]; exact ((hc.ext E).take (k)).ext E5
                have hA8 : A.length ≤ 8 := by rw [hA, List.length_take]; omega
                have hAs : ∀ x ∈ A, x.name.size ≤ 17 ∧ x.text.size ≤ 17 := fun x hx => Hs.out x (List.mem_of_mem_take (hA ▸ hx))
                have HAs := Lib.hid hAs
                clear hA hAk hAs
                go_wp2_with (at_builtin; refine wpList_append_lit rfl _ _ 23 rfl w.heap.size 40 _ 2 _ Tryd.underlying23 infoSet rfl (by decide) encSet_len encSet_one wr.heap.size rfl (heap_alloc_new _ _) E.size _ _ _ A rfl HAk.out rdA (by omega) (by omega) (by have := E.size; simp; omega) ?_)
                intro v5 w5 own5 hE5
                have F5 := (E.trans E5).trans hE5
                clear rdA HAk
                have E6 := (Ext.refl w5).alloc (.cells #[.string nm, .string tx] 40)
                have rdm : Rd 2 encSet (w5.alloc (.cells #[.string nm, .string tx] 40)) (some ⟨w5.heap.size, 0, none⟩) [(⟨nm, tx⟩ : Set)] := rd_lit_new [(⟨nm, tx⟩ : Set)] encSet_len rfl
                have ho6 := ownsRow_ext own5 E6
                have F6 := F5.trans E6
                go_wp2_with (at_builtin; refine wpList_append_rd rfl _ _ 23 rfl w.heap.size 40 _ 2 _ Tryd.underlying23 infoSet rfl (by decide) encSet_len encSet_one _ A.length A rfl ho6 rfl _ 1 1 [(⟨nm, tx⟩ : Set)] rfl rfl rdm (by omega) (by omega) F6.size ?_)
                intro v7 w7 own7 hg7
                have F7 : Ext w w7 := F6.grown hg7 (fun k h => (ho6.lt k h).1)
                have own7' : w7.ownsRow w.heap.size 40 2 v7 (A ++ [(⟨nm, tx⟩ : Set)]).length ((A ++ [(⟨nm, tx⟩ : Set)]).flatMap encSet) := by simpa using own7
                have hBs : ∀ x ∈ A ++ [(⟨nm, tx⟩ : Set)], x.name.size ≤ 17 ∧ x.text.size ≤ 17 := fun x hx => by
                  rcases List.mem_append.1 hx with h | h
                  · exact HAs.out x h
                  · rw [List.mem_singleton.1 h]; exact ⟨hn, ht⟩
                have hB9 : (A ++ [(⟨nm, tx⟩ : Set)]).length ≤ 9 := by rw [List.length_append, List.length_singleton]; omega
                obtain ⟨B, hB⟩ : ∃ B, B = A ++ [(⟨nm, tx⟩ : Set)] := ⟨_, rfl⟩
                rw [← hB] at own7' hBs hB9
                have HBs := Lib.hid hBs
                clear hB hBs own7 hg7 ho6 rdm E6 own5
                have hRl : ([] : List Set).length ≤ 8 := by simp
                have HRs : Hid (∀ x ∈ ([] : List Set), x.name.size ≤ 17 ∧ x.text.size ≤ 17) := Lib.hid (fun x hx => by simp at hx)
                have HRn := Lib.hid (show 0 = ([] : List Set).length from rfl)
                have rdR7 : True := trivial
                go_wp2_with (at_builtin; refine wpList_append_rd rfl _ _ 23 rfl w.heap.size 40 _ 2 _ Tryd.underlying23 infoSet rfl (by decide) encSet_len encSet_one _ B.length B rfl own7' rfl _ _ _ ([] : List Set) rfl (by simp <;> omega) Rd.nil (by omega) (by omega) F7.size ?_)
                intro v9 w9 own9 hg9
                have F9 : Ext w w9 := F7.grown hg9 (fun k h => (own7'.lt k h).1)
                have own9' : w9.ownsRow w.heap.size 40 2 v9 (B ++ ([] : List Set)).length ((B ++ ([] : List Set)).flatMap encSet) := by simpa using own9
                have hCs : ∀ x ∈ B ++ ([] : List Set), x.name.size ≤ 17 ∧ x.text.size ≤ 17 := fun x hx => by
                  rcases List.mem_append.1 hx with h | h
                  · exact HBs.out x h
                  · exact HRs.out x h
                have hC17 : (B ++ ([] : List Set)).length ≤ 17 := by rw [List.length_append]; omega
                obtain ⟨C, hC⟩ : ∃ C, C = B ++ ([] : List Set) := ⟨_, rfl⟩
                rw [← hC] at own9' hCs hC17
                have HCs := Lib.hid hCs
                clear hC hCs own9 hg9 own7' rdR7 HRs HRn HBs HAs
                obtain ⟨a9, cap9, rfl, hcap9, rd9, _⟩ := view_owns encSet_len own9'
                go_wp2_with fail
                refine (specSettingsValid a9 cap9 C w9 (by omega) (fun x hx => by have := HCs.out x hx; omega) rd9).mono ?_
                rintro e w10 ⟨b10, rfl, hb10, E10⟩
                have Hb10 := Lib.hid hb10
                clear hb10
                cases b10 with
                | true =>
                  have HC8 : Hid (SmallS C) := Lib.hid ⟨(Hb10.out.1 rfl).2, HCs.out⟩
                  have own10 := ownsRow_ext own9' E10
                  clear Hb10
                  go_wp2
                  go_ret2
                  exact RetSB.mk (L := C) rfl HC8.out own10 (F9.trans E10)
                | false =>
                  clear Hb10
                  have F10 := F9.trans E10
                  have rd0 := (hc.ext F10).ext ((Ext.refl w10).alloc (.cells #[] 40))
                  go_wp2_with (at_builtin; refine wpList_append_lit rfl _ _ 23 rfl w.heap.size 40 _ 2 _ Tryd.underlying23 infoSet rfl (by decide) encSet_len encSet_one w10.heap.size rfl (heap_alloc_new _ _) F10.size _ _ _ l rfl rfl rd0 (by omega) (by omega) (by have := F10.size; simp; omega) ?_)
                  intro v11 w11 own11 hE11
                  go_wp2
                  go_ret2
                  exact RetSB.mk (L := l) rfl ⟨hl, Hs.out⟩ own11 ((F10.alloc _).trans hE11)
              · have rdD : Rd 2 encSet w (some ⟨g, (k + 1) * 2, none⟩) (l.drop (k + 1)) := by have := hc.drop (k + 1); rwa [Nat.zero_add] at this
                skip
                have E5 := (Ext.refl wr).alloc (.cells #[] 40)
                obtain ⟨A, hA⟩ : ∃ A, A = l.take (k) := ⟨_, rfl⟩
                have hAk : k = A.length := by rw [hA, List.length_take]; omega
                have HAk := Lib.hid hAk
                have rdA : Rd 2 encSet (wr.alloc (.cells #[] 40)) (some ⟨g, 0, none⟩) A := by rw [hA]; exact ((hc.ext E).take (k)).ext E5
                have hA8 : A.length ≤ 8 := by rw [hA, List.length_take]; omega
                have hAs : ∀ x ∈ A, x.name.size ≤ 17 ∧ x.text.size ≤ 17 := fun x hx => Hs.out x (List.mem_of_mem_take (hA ▸ hx))
                have HAs := Lib.hid hAs
                clear hA hAk hAs
                go_wp2_with (at_builtin; refine wpList_append_lit rfl _ _ 23 rfl w.heap.size 40 _ 2 _ Tryd.underlying23 infoSet rfl (by decide) encSet_len encSet_one wr.heap.size rfl (heap_alloc_new _ _) E.size _ _ _ A rfl HAk.out rdA (by omega) (by omega) (by have := E.size; simp; omega) ?_)
                intro v5 w5 own5 hE5
                have F5 := (E.trans E5).trans hE5
                clear rdA HAk
                have E6 := (Ext.refl w5).alloc (.cells #[.string nm, .string tx] 40)
                have rdm : Rd 2 encSet (w5.alloc (.cells #[.string nm, .string tx] 40)) (some ⟨w5.heap.size, 0, none⟩) [(⟨nm, tx⟩ : Set)] := rd_lit_new [(⟨nm, tx⟩ : Set)] encSet_len rfl
                have ho6 := ownsRow_ext own5 E6
                have F6 := F5.trans E6
                go_wp2_with (at_builtin; refine wpList_append_rd rfl _ _ 23 rfl w.heap.size 40 _ 2 _ Tryd.underlying23 infoSet rfl (by decide) encSet_len encSet_one _ A.length A rfl ho6 rfl _ 1 1 [(⟨nm, tx⟩ : Set)] rfl rfl rdm (by omega) (by omega) F6.size ?_)
                intro v7 w7 own7 hg7
                have F7 : Ext w w7 := F6.grown hg7 (fun k h => (ho6.lt k h).1)
                have own7' : w7.ownsRow w.heap.size 40 2 v7 (A ++ [(⟨nm, tx⟩ : Set)]).length ((A ++ [(⟨nm, tx⟩ : Set)]).flatMap encSet) := by simpa using own7
                have hBs : ∀ x ∈ A ++ [(⟨nm, tx⟩ : Set)], x.name.size ≤ 17 ∧ x.text.size ≤ 17 := fun x hx => by
                  rcases List.mem_append.1 hx with h | h
                  · exact HAs.out x h
                  · rw [List.mem_singleton.1 h]; exact ⟨hn, ht⟩
                have hB9 : (A ++ [(⟨nm, tx⟩ : Set)]).length ≤ 9 := by rw [List.length_append, List.length_singleton]; omega
                obtain ⟨B, hB⟩ : ∃ B, B = A ++ [(⟨nm, tx⟩ : Set)] := ⟨_, rfl⟩
                rw [← hB] at own7' hBs hB9
                have HBs := Lib.hid hBs
                clear hB hBs own7 hg7 ho6 rdm E6 own5
                have hRl : (l.drop (k + 1)).length ≤ 8 := by rw [List.length_drop]; omega
                have HRs : Hid (∀ x ∈ (l.drop (k + 1)), x.name.size ≤ 17 ∧ x.text.size ≤ 17) := Lib.hid (fun x hx => Hs.out x (List.mem_of_mem_drop hx))
                have HRn := Lib.hid (show l.length - (k + 1) = (l.drop (k + 1)).length from (List.length_drop ..).symm)
                have rdR7 := (rdD).ext F7
                go_wp2_with (at_builtin; refine wpList_append_rd rfl _ _ 23 rfl w.heap.size 40 _ 2 _ Tryd.underlying23 infoSet rfl (by decide) encSet_len encSet_one _ B.length B rfl own7' rfl _ _ _ (l.drop (k + 1)) rfl HRn.out rdR7 (by omega) (by omega) F7.size ?_)
                intro v9 w9 own9 hg9
                have F9 : Ext w w9 := F7.grown hg9 (fun k h => (own7'.lt k h).1)
                have own9' : w9.ownsRow w.heap.size 40 2 v9 (B ++ (l.drop (k + 1))).length ((B ++ (l.drop (k + 1))).flatMap encSet) := by simpa using own9
                have hCs : ∀ x ∈ B ++ (l.drop (k + 1)), x.name.size ≤ 17 ∧ x.text.size ≤ 17 := fun x hx => by
                  rcases List.mem_append.1 hx with h | h
                  · exact HBs.out x h
                  · exact HRs.out x h
                have hC17 : (B ++ (l.drop (k + 1))).length ≤ 17 := by rw [List.length_append]; omega
                obtain ⟨C, hC⟩ : ∃ C, C = B ++ (l.drop (k + 1)) := ⟨_, rfl⟩
                rw [← hC] at own9' hCs hC17
                have HCs := Lib.hid hCs
                clear hC hCs own9 hg9 own7' rdR7 HRs HRn HBs HAs
                obtain ⟨a9, cap9, rfl, hcap9, rd9, _⟩ := view_owns encSet_len own9'
                go_wp2_with fail
                refine (specSettingsValid a9 cap9 C w9 (by omega) (fun x hx => by have := HCs.out x hx; omega) rd9).mono ?_
                rintro e w10 ⟨b10, rfl, hb10, E10⟩
                have Hb10 := Lib.hid hb10
                clear hb10
                cases b10 with
                | true =>
                  have HC8 : Hid (SmallS C) := Lib.hid ⟨(Hb10.out.1 rfl).2, HCs.out⟩
                  have own10 := ownsRow_ext own9' E10
                  clear Hb10
                  go_wp2
                  go_ret2
                  exact RetSB.mk (L := C) rfl HC8.out own10 (F9.trans E10)
                | false =>
                  clear Hb10
                  have F10 := F9.trans E10
                  have rd0 := (hc.ext F10).ext ((Ext.refl w10).alloc (.cells #[] 40))
                  go_wp2_with (at_builtin; refine wpList_append_lit rfl _ _ 23 rfl w.heap.size 40 _ 2 _ Tryd.underlying23 infoSet rfl (by decide) encSet_len encSet_one w10.heap.size rfl (heap_alloc_new _ _) F10.size _ _ _ l rfl rfl rd0 (by omega) (by omega) (by have := F10.size; simp; omega) ?_)
                  intro v11 w11 own11 hE11
                  go_wp2
                  go_ret2
                  exact RetSB.mk (L := l) rfl ⟨hl, Hs.out⟩ own11 ((F10.alloc _).trans hE11)
            | false =>
              have hcm : ¬ cap = k := by omega
              have rdD : Rd 2 encSet w (some ⟨g, k * 2, none⟩) (l.drop k) := by have := hc.drop k; rwa [Nat.zero_add] at this
              skip
              have E5 := (Ext.refl wr).alloc (.cells #[] 40)
              obtain ⟨A, hA⟩ : ∃ A, A = l.take (k) := ⟨_, rfl⟩
              have hAk : k = A.length := by rw [hA, List.length_take]; omega
              have HAk := Lib.hid hAk
              have rdA : Rd 2 encSet (wr.alloc (.cells #[] 40)) (some ⟨g, 0, none⟩) A := by rw [hA]; exact ((hc.ext E).take (k)).ext E5
              have hA8 : A.length ≤ 8 := by rw [hA, List.length_take]; omega
              have hAs : ∀ x ∈ A, x.name.size ≤ 17 ∧ x.text.size ≤ 17 := fun x hx => Hs.out x (List.mem_of_mem_take (hA ▸ hx))
              have HAs := Lib.hid hAs
              clear hA hAk hAs
              go_wp2_with (at_builtin; refine wpList_append_lit rfl _ _ 23 rfl w.heap.size 40 _ 2 _ Tryd.underlying23 infoSet rfl (by decide) encSet_len encSet_one wr.heap.size rfl (heap_alloc_new _ _) E.size _ _ _ A rfl HAk.out rdA (by omega) (by omega) (by have := E.size; simp; omega) ?_)
              intro v5 w5 own5 hE5
              have F5 := (E.trans E5).trans hE5
              clear rdA HAk
              have E6 := (Ext.refl w5).alloc (.cells #[.string nm, .string tx] 40)
              have rdm : Rd 2 encSet (w5.alloc (.cells #[.string nm, .string tx] 40)) (some ⟨w5.heap.size, 0, none⟩) [(⟨nm, tx⟩ : Set)] := rd_lit_new [(⟨nm, tx⟩ : Set)] encSet_len rfl
              have ho6 := ownsRow_ext own5 E6
              have F6 := F5.trans E6
              go_wp2_with (at_builtin; refine wpList_append_rd rfl _ _ 23 rfl w.heap.size 40 _ 2 _ Tryd.underlying23 infoSet rfl (by decide) encSet_len encSet_one _ A.length A rfl ho6 rfl _ 1 1 [(⟨nm, tx⟩ : Set)] rfl rfl rdm (by omega) (by omega) F6.size ?_)
              intro v7 w7 own7 hg7
              have F7 : Ext w w7 := F6.grown hg7 (fun k h => (ho6.lt k h).1)
              have own7' : w7.ownsRow w.heap.size 40 2 v7 (A ++ [(⟨nm, tx⟩ : Set)]).length ((A ++ [(⟨nm, tx⟩ : Set)]).flatMap encSet) := by simpa using own7
              have hBs : ∀ x ∈ A ++ [(⟨nm, tx⟩ : Set)], x.name.size ≤ 17 ∧ x.text.size ≤ 17 := fun x hx => by
                rcases List.mem_append.1 hx with h | h
                · exact HAs.out x h
                · rw [List.mem_singleton.1 h]; exact ⟨hn, ht⟩
              have hB9 : (A ++ [(⟨nm, tx⟩ : Set)]).length ≤ 9 := by rw [List.length_append, List.length_singleton]; omega
              obtain ⟨B, hB⟩ : ∃ B, B = A ++ [(⟨nm, tx⟩ : Set)] := ⟨_, rfl⟩
              rw [← hB] at own7' hBs hB9
              have HBs := Lib.hid hBs
              clear hB hBs own7 hg7 ho6 rdm E6 own5
              have hRl : (l.drop k).length ≤ 8 := by rw [List.length_drop]; omega
              have HRs : Hid (∀ x ∈ (l.drop k), x.name.size ≤ 17 ∧ x.text.size ≤ 17) := Lib.hid (fun x hx => Hs.out x (List.mem_of_mem_drop hx))
              have HRn := Lib.hid (show l.length - (k) = (l.drop (k)).length from (List.length_drop ..).symm)
              have rdR7 := (rdD).ext F7
              go_wp2_with (at_builtin; refine wpList_append_rd rfl _ _ 23 rfl w.heap.size 40 _ 2 _ Tryd.underlying23 infoSet rfl (by decide) encSet_len encSet_one _ B.length B rfl own7' rfl _ _ _ (l.drop k) rfl HRn.out rdR7 (by omega) (by omega) F7.size ?_)
              intro v9 w9 own9 hg9
              have F9 : Ext w w9 := F7.grown hg9 (fun k h => (own7'.lt k h).1)
              have own9' : w9.ownsRow w.heap.size 40 2 v9 (B ++ (l.drop k)).length ((B ++ (l.drop k)).flatMap encSet) := by simpa using own9
              have hCs : ∀ x ∈ B ++ (l.drop k), x.name.size ≤ 17 ∧ x.text.size ≤ 17 := fun x hx => by
                rcases List.mem_append.1 hx with h | h
                · exact HBs.out x h
                · exact HRs.out x h
              have hC17 : (B ++ (l.drop k)).length ≤ 17 := by rw [List.length_append]; omega
              obtain ⟨C, hC⟩ : ∃ C, C = B ++ (l.drop k) := ⟨_, rfl⟩
              rw [← hC] at own9' hCs hC17
              have HCs := Lib.hid hCs
              clear hC hCs own9 hg9 own7' rdR7 HRs HRn HBs HAs
              obtain ⟨a9, cap9, rfl, hcap9, rd9, _⟩ := view_owns encSet_len own9'
              go_wp2_with fail
              refine (specSettingsValid a9 cap9 C w9 (by omega) (fun x hx => by have := HCs.out x hx; omega) rd9).mono ?_
              rintro e w10 ⟨b10, rfl, hb10, E10⟩
              have Hb10 := Lib.hid hb10
              clear hb10
              cases b10 with
              | true =>
                have HC8 : Hid (SmallS C) := Lib.hid ⟨(Hb10.out.1 rfl).2, HCs.out⟩
                have own10 := ownsRow_ext own9' E10
                clear Hb10
                go_wp2
                go_ret2
                exact RetSB.mk (L := C) rfl HC8.out own10 (F9.trans E10)
              | false =>
                clear Hb10
                have F10 := F9.trans E10
                have rd0 := (hc.ext F10).ext ((Ext.refl w10).alloc (.cells #[] 40))
                go_wp2_with (at_builtin; refine wpList_append_lit rfl _ _ 23 rfl w.heap.size 40 _ 2 _ Tryd.underlying23 infoSet rfl (by decide) encSet_len encSet_one w10.heap.size rfl (heap_alloc_new _ _) F10.size _ _ _ l rfl rfl rd0 (by omega) (by omega) (by have := F10.size; simp; omega) ?_)
                intro v11 w11 own11 hE11
                go_wp2
                go_ret2
                exact RetSB.mk (L := l) rfl ⟨hl, Hs.out⟩ own11 ((F10.alloc _).trans hE11)
        · obtain rfl : k = l.length := by omega
          have hni : ¬ (l.length : Int) < (l.length : Int) := by omega
          by_cases hcm : cap = l.length
          ·
            skip
            have E5 := (Ext.refl wr).alloc (.cells #[] 40)
            obtain ⟨A, hA⟩ : ∃ A, A = l.take (l.length) := ⟨_, rfl⟩
            have hAk : l.length = A.length := by rw [hA, List.length_take]; omega
            have HAk := Lib.hid hAk
            have rdA : Rd 2 encSet (wr.alloc (.cells #[] 40)) (some ⟨g, 0, none⟩) A := by rw [hA]; exact ((hc.ext E).take (l.length)).ext E5
            have hA8 : A.length ≤ 8 := by rw [hA, List.length_take]; omega
            have hAs : ∀ x ∈ A, x.name.size ≤ 17 ∧ x.text.size ≤ 17 := fun x hx => Hs.out x (List.mem_of_mem_take (hA ▸ hx))
            have HAs := Lib.hid hAs
            clear hA hAk hAs
            go_wp2_with (at_builtin; refine wpList_append_lit rfl _ _ 23 rfl w.heap.size 40 _ 2 _ Tryd.underlying23 infoSet rfl (by decide) encSet_len encSet_one wr.heap.size rfl (heap_alloc_new _ _) E.size _ _ _ A rfl HAk.out rdA (by omega) (by omega) (by have := E.size; simp; omega) ?_)
            intro v5 w5 own5 hE5
            have F5 := (E.trans E5).trans hE5
            clear rdA HAk
            have E6 := (Ext.refl w5).alloc (.cells #[.string nm, .string tx] 40)
            have rdm : Rd 2 encSet (w5.alloc (.cells #[.string nm, .string tx] 40)) (some ⟨w5.heap.size, 0, none⟩) [(⟨nm, tx⟩ : Set)] := rd_lit_new [(⟨nm, tx⟩ : Set)] encSet_len rfl
            have ho6 := ownsRow_ext own5 E6
            have F6 := F5.trans E6
            go_wp2_with (at_builtin; refine wpList_append_rd rfl _ _ 23 rfl w.heap.size 40 _ 2 _ Tryd.underlying23 infoSet rfl (by decide) encSet_len encSet_one _ A.length A rfl ho6 rfl _ 1 1 [(⟨nm, tx⟩ : Set)] rfl rfl rdm (by omega) (by omega) F6.size ?_)
            intro v7 w7 own7 hg7
            have F7 : Ext w w7 := F6.grown hg7 (fun k h => (ho6.lt k h).1)
            have own7' : w7.ownsRow w.heap.size 40 2 v7 (A ++ [(⟨nm, tx⟩ : Set)]).length ((A ++ [(⟨nm, tx⟩ : Set)]).flatMap encSet) := by simpa using own7
            have hBs : ∀ x ∈ A ++ [(⟨nm, tx⟩ : Set)], x.name.size ≤ 17 ∧ x.text.size ≤ 17 := fun x hx => by
              rcases List.mem_append.1 hx with h | h
              · exact HAs.out x h
              · rw [List.mem_singleton.1 h]; exact ⟨hn, ht⟩
            have hB9 : (A ++ [(⟨nm, tx⟩ : Set)]).length ≤ 9 := by rw [List.length_append, List.length_singleton]; omega
            obtain ⟨B, hB⟩ : ∃ B, B = A ++ [(⟨nm, tx⟩ : Set)] := ⟨_, rfl⟩
            rw [← hB] at own7' hBs hB9
            have HBs := Lib.hid hBs
            clear hB hBs own7 hg7 ho6 rdm E6 own5
            have hRl : ([] : List Set).length ≤ 8 := by simp
            have HRs : Hid (∀ x ∈ ([] : List Set), x.name.size ≤ 17 ∧ x.text.size ≤ 17) := Lib.hid (fun x hx => by simp at hx)
            have HRn := Lib.hid (show 0 = ([] : List Set).length from rfl)
            have rdR7 : True := trivial
            go_wp2_with (at_builtin; refine wpList_append_rd rfl _ _ 23 rfl w.heap.size 40 _ 2 _ Tryd.underlying23 infoSet rfl (by decide) encSet_len encSet_one _ B.length B rfl own7' rfl _ _ _ ([] : List Set) rfl (by simp <;> omega) Rd.nil (by omega) (by omega) F7.size ?_)
            intro v9 w9 own9 hg9
            have F9 : Ext w w9 := F7.grown hg9 (fun k h => (own7'.lt k h).1)
            have own9' : w9.ownsRow w.heap.size 40 2 v9 (B ++ ([] : List Set)).length ((B ++ ([] : List Set)).flatMap encSet) := by simpa using own9
            have hCs : ∀ x ∈ B ++ ([] : List Set), x.name.size ≤ 17 ∧ x.text.size ≤ 17 := fun x hx => by
              rcases List.mem_append.1 hx with h | h
              · exact HBs.out x h
              · exact HRs.out x h
            have hC17 : (B ++ ([] : List Set)).length ≤ 17 := by rw [List.length_append]; omega
            obtain ⟨C, hC⟩ : ∃ C, C = B ++ ([] : List Set) := ⟨_, rfl⟩
            rw [← hC] at own9' hCs hC17
            have HCs := Lib.hid hCs
            clear hC hCs own9 hg9 own7' rdR7 HRs HRn HBs HAs
            obtain ⟨a9, cap9, rfl, hcap9, rd9, _⟩ := view_owns encSet_len own9'
            go_wp2_with fail
            refine (specSettingsValid a9 cap9 C w9 (by omega) (fun x hx => by have := HCs.out x hx; omega) rd9).mono ?_
            rintro e w10 ⟨b10, rfl, hb10, E10⟩
            have Hb10 := Lib.hid hb10
            clear hb10
            cases b10 with
            | true =>
              have HC8 : Hid (SmallS C) := Lib.hid ⟨(Hb10.out.1 rfl).2, HCs.out⟩
              have own10 := ownsRow_ext own9' E10
              clear Hb10
              go_wp2
              go_ret2
              exact RetSB.mk (L := C) rfl HC8.out own10 (F9.trans E10)
            | false =>
              clear Hb10
              have F10 := F9.trans E10
              have rd0 := (hc.ext F10).ext ((Ext.refl w10).alloc (.cells #[] 40))
              go_wp2_with (at_builtin; refine wpList_append_lit rfl _ _ 23 rfl w.heap.size 40 _ 2 _ Tryd.underlying23 infoSet rfl (by decide) encSet_len encSet_one w10.heap.size rfl (heap_alloc_new _ _) F10.size _ _ _ l rfl rfl rd0 (by omega) (by omega) (by have := F10.size; simp; omega) ?_)
              intro v11 w11 own11 hE11
              go_wp2
              go_ret2
              exact RetSB.mk (L := l) rfl ⟨hl, Hs.out⟩ own11 ((F10.alloc _).trans hE11)
          ·
            skip
            have E5 := (Ext.refl wr).alloc (.cells #[] 40)
            obtain ⟨A, hA⟩ : ∃ A, A = l.take (l.length) := ⟨_, rfl⟩
            have hAk : l.length = A.length := by rw [hA, List.length_take]; omega
            have HAk := Lib.hid hAk
            have rdA : Rd 2 encSet (wr.alloc (.cells #[] 40)) (some ⟨g, 0, none⟩) A := by rw [hA]; exact ((hc.ext E).take (l.length)).ext E5
            have hA8 : A.length ≤ 8 := by rw [hA, List.length_take]; omega
            have hAs : ∀ x ∈ A, x.name.size ≤ 17 ∧ x.text.size ≤ 17 := fun x hx => Hs.out x (List.mem_of_mem_take (hA ▸ hx))
            have HAs := Lib.hid hAs
            clear hA hAk hAs
            go_wp2_with (at_builtin; refine wpList_append_lit rfl _ _ 23 rfl w.heap.size 40 _ 2 _ Tryd.underlying23 infoSet rfl (by decide) encSet_len encSet_one wr.heap.size rfl (heap_alloc_new _ _) E.size _ _ _ A rfl HAk.out rdA (by omega) (by omega) (by have := E.size; simp; omega) ?_)
            intro v5 w5 own5 hE5
            have F5 := (E.trans E5).trans hE5
            clear rdA HAk
            have E6 := (Ext.refl w5).alloc (.cells #[.string nm, .string tx] 40)
            have rdm : Rd 2 encSet (w5.alloc (.cells #[.string nm, .string tx] 40)) (some ⟨w5.heap.size, 0, none⟩) [(⟨nm, tx⟩ : Set)] := rd_lit_new [(⟨nm, tx⟩ : Set)] encSet_len rfl
            have ho6 := ownsRow_ext own5 E6
            have F6 := F5.trans E6
            go_wp2_with (at_builtin; refine wpList_append_rd rfl _ _ 23 rfl w.heap.size 40 _ 2 _ Tryd.underlying23 infoSet rfl (by decide) encSet_len encSet_one _ A.length A rfl ho6 rfl _ 1 1 [(⟨nm, tx⟩ : Set)] rfl rfl rdm (by omega) (by omega) F6.size ?_)
            intro v7 w7 own7 hg7
            have F7 : Ext w w7 := F6.grown hg7 (fun k h => (ho6.lt k h).1)
            have own7' : w7.ownsRow w.heap.size 40 2 v7 (A ++ [(⟨nm, tx⟩ : Set)]).length ((A ++ [(⟨nm, tx⟩ : Set)]).flatMap encSet) := by simpa using own7
            have hBs : ∀ x ∈ A ++ [(⟨nm, tx⟩ : Set)], x.name.size ≤ 17 ∧ x.text.size ≤ 17 := fun x hx => by
              rcases List.mem_append.1 hx with h | h
              · exact HAs.out x h
              · rw [List.mem_singleton.1 h]; exact ⟨hn, ht⟩
            have hB9 : (A ++ [(⟨nm, tx⟩ : Set)]).length ≤ 9 := by rw [List.length_append, List.length_singleton]; omega
            obtain ⟨B, hB⟩ : ∃ B, B = A ++ [(⟨nm, tx⟩ : Set)] := ⟨_, rfl⟩
            rw [← hB] at own7' hBs hB9
            have HBs := Lib.hid hBs
            clear hB hBs own7 hg7 ho6 rdm E6 own5
            have hRl : ([] : List Set).length ≤ 8 := by simp
            have HRs : Hid (∀ x ∈ ([] : List Set), x.name.size ≤ 17 ∧ x.text.size ≤ 17) := Lib.hid (fun x hx => by simp at hx)
            have HRn := Lib.hid (show 0 = ([] : List Set).length from rfl)
            have rdR7 : True := trivial
            go_wp2_with (at_builtin; refine wpList_append_rd rfl _ _ 23 rfl w.heap.size 40 _ 2 _ Tryd.underlying23 infoSet rfl (by decide) encSet_len encSet_one _ B.length B rfl own7' rfl _ _ _ ([] : List Set) rfl (by simp <;> omega) Rd.nil (by omega) (by omega) F7.size ?_)
            intro v9 w9 own9 hg9
            have F9 : Ext w w9 := F7.grown hg9 (fun k h => (own7'.lt k h).1)
            have own9' : w9.ownsRow w.heap.size 40 2 v9 (B ++ ([] : List Set)).length ((B ++ ([] : List Set)).flatMap encSet) := by simpa using own9
            have hCs : ∀ x ∈ B ++ ([] : List Set), x.name.size ≤ 17 ∧ x.text.size ≤ 17 := fun x hx => by
              rcases List.mem_append.1 hx with h | h
              · exact HBs.out x h
              · exact HRs.out x h
            have hC17 : (B ++ ([] : List Set)).length ≤ 17 := by rw [List.length_append]; omega
            obtain ⟨C, hC⟩ : ∃ C, C = B ++ ([] : List Set) := ⟨_, rfl⟩
            rw [← hC] at own9' hCs hC17
            have HCs := Lib.hid hCs
            clear hC hCs own9 hg9 own7' rdR7 HRs HRn HBs HAs
            obtain ⟨a9, cap9, rfl, hcap9, rd9, _⟩ := view_owns encSet_len own9'
            go_wp2_with fail
            refine (specSettingsValid a9 cap9 C w9 (by omega) (fun x hx => by have := HCs.out x hx; omega) rd9).mono ?_
            rintro e w10 ⟨b10, rfl, hb10, E10⟩
            have Hb10 := Lib.hid hb10
            clear hb10
            cases b10 with
            | true =>
              have HC8 : Hid (SmallS C) := Lib.hid ⟨(Hb10.out.1 rfl).2, HCs.out⟩
              have own10 := ownsRow_ext own9' E10
              clear Hb10
              go_wp2
              go_ret2
              exact RetSB.mk (L := C) rfl HC8.out own10 (F9.trans E10)
            | false =>
              clear Hb10
              have F10 := F9.trans E10
              have rd0 := (hc.ext F10).ext ((Ext.refl w10).alloc (.cells #[] 40))
              go_wp2_with (at_builtin; refine wpList_append_lit rfl _ _ 23 rfl w.heap.size 40 _ 2 _ Tryd.underlying23 infoSet rfl (by decide) encSet_len encSet_one w10.heap.size rfl (heap_alloc_new _ _) F10.size _ _ _ l rfl rfl rd0 (by omega) (by omega) (by have := F10.size; simp; omega) ?_)
              intro v11 w11 own11 hE11
              go_wp2
              go_ret2
              exact RetSB.mk (L := l) rfl ⟨hl, Hs.out⟩ own11 ((F10.alloc _).trans hE11)
end Go.Proofs.YtekmfphlccomaaaDoor
