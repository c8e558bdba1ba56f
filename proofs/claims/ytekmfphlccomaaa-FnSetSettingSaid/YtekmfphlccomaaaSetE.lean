/- SetSetting: the contract of the reference's. Condition: texts shorter than 2^63. -/
import Derived.Test.YtekmfphlccomaaaSetP
import Derived.Test.YtekmfphlccomaaaApp
namespace Go.Proofs.Ytekmfphlccomaaa
open Go.RowKit

theorem lt_next {l : List Set} {nm : ByteArray} {k : Nat} {x : Set} (hL : ∀ (m : Nat) x, m < k → l[m]? = some x → lt x.name nm) (hx : l[k]? = some x) (h : Op.bytesLess x.name.toList nm.toList = true) : ∀ (m : Nat) y, m < k + 1 → l[m]? = some y → lt y.name nm := fun m y hm hy => by
  rcases Nat.lt_succ_iff_lt_or_eq.1 hm with c | rfl
  · exact hL m y c hy
  · rw [hx] at hy; cases hy; exact h
def PutR (l : List Set) (nm tx : ByteArray) (C : List Set) : Prop := ∃ k b, PosS l nm k b ∧ C = putS l nm tx k b
theorem put_ok {l : List Set} {nm tx : ByteArray} {C : List Set} (hv : SetsOk l) (h : PutR l nm tx C) (hC : SetsOk C) : SetSR l nm tx C true := by
  obtain ⟨k, b, hP, rfl⟩ := h
  exact .inr ⟨hv, k, b, hP, .inl ⟨hC, rfl, rfl⟩⟩
theorem put_bad {l : List Set} {nm tx : ByteArray} {C : List Set} (hv : SetsOk l) (h : PutR l nm tx C) (hC : ¬ SetsOk C) : SetSR l nm tx l false := by
  obtain ⟨k, b, hP, rfl⟩ := h
  exact .inr ⟨hv, k, b, hP, .inr ⟨hC, rfl, rfl⟩⟩
theorem put_nil {nm tx : ByteArray} {C : List Set} (hC : C = ([] : List Set).take 0 ++ [⟨nm, tx⟩] ++ []) : PutR [] nm tx C :=
  ⟨0, false, ⟨Nat.le_refl _, fun m x h => absurd h (Nat.not_lt_zero _), fun m x _ hx => by simp at hx, by simp⟩, by rw [hC]; simp [putS]⟩
theorem put_end {l : List Set} {nm tx : ByteArray} {C : List Set} (hL : ∀ (m : Nat) x, m < l.length → l[m]? = some x → lt x.name nm) (hC : C = l.take l.length ++ [⟨nm, tx⟩] ++ []) : PutR l nm tx C :=
  ⟨l.length, false, ⟨Nat.le_refl _, hL, fun m x hm hx => absurd (List.getElem?_eq_some_iff.1 hx).1 (by omega), by simp⟩, by rw [hC]; simp [putS]⟩
theorem put_in {l : List Set} {nm tx : ByteArray} {k : Nat} {x : Set} {C : List Set} (hv : SetsOk l) (hL : ∀ (m : Nat) x, m < k → l[m]? = some x → lt x.name nm) (hx : l[k]? = some x) (h : Op.bytesLess x.name.toList nm.toList = false) (he : (x.name.toList == nm.toList) = false) (hC : C = l.take k ++ [⟨nm, tx⟩] ++ l.drop k) : PutR l nm tx C := by
  have hk := (List.getElem?_eq_some_iff.1 hx).1
  have hn : ¬ lt x.name nm := fun c => by unfold lt at c; rw [h] at c; cases c
  refine ⟨k, false, ⟨by omega, hL, fun m y hm hy => lt_above hv hx hn hm hy, ?_⟩, by rw [hC]; simp [putS]⟩
  constructor
  · intro c; cases c
  · rintro ⟨y, hy, hyn⟩
    rw [hx] at hy; cases hy
    rw [hyn] at he; simp at he
theorem put_at {l : List Set} {nm tx : ByteArray} {k : Nat} {x : Set} {C : List Set} (hv : SetsOk l) (hL : ∀ (m : Nat) x, m < k → l[m]? = some x → lt x.name nm) (hx : l[k]? = some x) (h : Op.bytesLess x.name.toList nm.toList = false) (he : (x.name.toList == nm.toList) = true) (hC : C = l.take k ++ [⟨nm, tx⟩] ++ l.drop (k + 1)) : PutR l nm tx C := by
  have hk := (List.getElem?_eq_some_iff.1 hx).1
  have hn : ¬ lt x.name nm := fun c => by unfold lt at c; rw [h] at c; cases c
  have hxn : x.name = nm := toList_inj (by simpa using he)
  refine ⟨k, true, ⟨by omega, hL, fun m y hm hy => lt_above hv hx hn hm hy, ?_⟩, ?_⟩
  · exact ⟨fun _ => ⟨x, hx, hxn⟩, fun _ => rfl⟩
  · rw [hC]; unfold putS; rw [if_pos rfl, List.set_eq_take_append_cons_drop, if_pos hk]; simp
theorem put_at1 {l : List Set} {nm tx : ByteArray} {k : Nat} {x : Set} {C : List Set} (hv : SetsOk l) (hL : ∀ (m : Nat) x, m < k → l[m]? = some x → lt x.name nm) (hx : l[k]? = some x) (h : Op.bytesLess x.name.toList nm.toList = false) (he : (x.name.toList == nm.toList) = true) (hlen : l.length ≤ k + 1) (hC : C = l.take k ++ [⟨nm, tx⟩] ++ []) : PutR l nm tx C :=
  put_at hv hL hx h he (by rw [hC, List.drop_eq_nil_of_le hlen])

set_option maxRecDepth 10000 in
set_option maxHeartbeats 16000000 in
theorem specSetSettingR (a : Option Addr) (cap : Nat) (l : List Set) (nm tx : ByteArray) (w : World) (hl : l.length ≤ 9223372036854775807) (hs : ∀ x ∈ l, x.name.size ≤ 9223372036854775807 ∧ x.text.size ≤ 9223372036854775807) (hn : nm.size ≤ 9223372036854775807) (ht : tx.size ≤ 9223372036854775807) (hcap : l.length ≤ cap)
    (hshape : (a = none ∧ l = [] ∧ cap = 0) ∨ ∃ g, a = some ⟨g, 0, none⟩) (hc : Rd 2 encSet w a l) :
    Calls Try.prog 19 #[.slice a l.length cap, .string nm, .string tx] w (RetSB 33 2 encSet (SetSR l nm tx) w) := by
  have Hs := Lib.hid hs
  clear hs
  go_enter Try.func19, Try.ntmps19
  go_wp2_with fail
  refine (specSettingsValid a cap l w (by omega) (fun x hx => by have := Hs.out x hx; omega) hc).mono ?_
  rintro e w1 ⟨v0, rfl, hv0, E1⟩
  have Hv0 := Lib.hid hv0
  clear hv0
  cases v0 with
  | false =>
    go_wp2
    go_ret2
    exact RetSB.mk (L := []) rfl (.inl ⟨fun h => Bool.noConfusion (Hv0.out.2 h), rfl, rfl⟩) (owns_lit_new [] encSet_len rfl rfl (by omega) E1.size) (E1.alloc _)
  | true =>
    have HV := Lib.hid (Hv0.out.1 rfl)
    have hl8 : l.length ≤ 8 := HV.out.2
    clear Hv0
    go_wp2
    go_loopw [8] (fun i wr => ∃ k : Nat, k ≤ l.length ∧ i = .int .i64 k ∧ (∀ (m : Nat) x, m < k → l[m]? = some x → lt x.name nm) ∧ Ext w1 wr) (fun i _ => l.length - (intOf i).toNat)
    case atStart => exact ⟨0, Nat.zero_le _, rfl, fun m x h => absurd h (Nat.not_lt_zero _), Ext.refl _⟩
    case round =>
      obtain ⟨k, hk, rfl, hL, hb⟩ := hrel
      have HL := Lib.hid hL
      clear hL
      have E := E1.trans hb
      have HbX := hb
      rcases hshape with ⟨rfl, rfl, rfl⟩ | ⟨g, rfl⟩
      · obtain rfl : k = 0 := by simpa using hk
        skip
        have E5 := (Ext.refl wr).alloc (.cells #[] 33)
        obtain ⟨A, hA⟩ : ∃ A, A = ([] : List Set).take 0 := ⟨_, rfl⟩
        have hAk : 0 = A.length := by rw [hA, List.length_take]; omega
        have HAk := Lib.hid hAk
        have rdA : Rd 2 encSet (wr.alloc (.cells #[] 33)) none A := by rw [hA]; exact ((hc.ext E).take (0)).ext E5
        have hA8 : A.length ≤ 8 := by rw [hA, List.length_take]; omega
        have hAs : ∀ x ∈ A, x.name.size ≤ 9223372036854775807 ∧ x.text.size ≤ 9223372036854775807 := fun x hx => Hs.out x (List.mem_of_mem_take (hA ▸ hx))
        have HAs := Lib.hid hAs
        have HAe := Lib.hid hA
        clear hA hAk hAs
        go_wp2_with (at_builtin; refine wpList_append_lit rfl _ _ 25 rfl w.heap.size 33 _ 2 _ Try.underlying25 infoSet rfl (by decide) encSet_len encSet_one wr.heap.size rfl (heap_alloc_new _ _) E.size _ _ _ A rfl HAk.out rdA (by omega) (by omega) (by have := E.size; simp; omega) ?_)
        intro v5 w5 own5 hE5
        have F5 := (E.trans E5).trans hE5
        clear rdA HAk
        have E6 := (Ext.refl w5).alloc (.cells #[.string nm, .string tx] 33)
        have rdm : Rd 2 encSet (w5.alloc (.cells #[.string nm, .string tx] 33)) (some ⟨w5.heap.size, 0, none⟩) [(⟨nm, tx⟩ : Set)] := rd_lit_new [(⟨nm, tx⟩ : Set)] encSet_len rfl
        have ho6 := ownsRow_ext own5 E6
        have F6 := F5.trans E6
        go_wp2_with (at_builtin; refine wpList_append_rd rfl _ _ 25 rfl w.heap.size 33 _ 2 _ Try.underlying25 infoSet rfl (by decide) encSet_len encSet_one _ A.length A rfl ho6 rfl _ 1 1 [(⟨nm, tx⟩ : Set)] rfl rfl rdm (by omega) (by omega) F6.size ?_)
        intro v7 w7 own7 hg7
        have F7 : Ext w w7 := F6.grown hg7 (fun k h => (ho6.lt k h).1)
        have own7' : w7.ownsRow w.heap.size 33 2 v7 (A ++ [(⟨nm, tx⟩ : Set)]).length ((A ++ [(⟨nm, tx⟩ : Set)]).flatMap encSet) := by simpa using own7
        have hBs : ∀ x ∈ A ++ [(⟨nm, tx⟩ : Set)], x.name.size ≤ 9223372036854775807 ∧ x.text.size ≤ 9223372036854775807 := fun x hx => by
          rcases List.mem_append.1 hx with h | h
          · exact HAs.out x h
          · rw [List.mem_singleton.1 h]; exact ⟨hn, ht⟩
        have hB9 : (A ++ [(⟨nm, tx⟩ : Set)]).length ≤ 9 := by rw [List.length_append, List.length_singleton]; omega
        obtain ⟨B, hB⟩ : ∃ B, B = A ++ [(⟨nm, tx⟩ : Set)] := ⟨_, rfl⟩
        rw [← hB] at own7' hBs hB9
        have HBs := Lib.hid hBs
        have HBe := Lib.hid hB
        clear hB hBs own7 hg7 ho6 rdm E6 own5
        have hRl : ([] : List Set).length ≤ 8 := by simp
        have HRs : Hid (∀ x ∈ ([] : List Set), x.name.size ≤ 9223372036854775807 ∧ x.text.size ≤ 9223372036854775807) := Lib.hid (fun x hx => by simp at hx)
        have HRn := Lib.hid (show 0 = ([] : List Set).length from rfl)
        have rdR7 : True := trivial
        go_wp2_with (at_builtin; refine wpList_append_rd rfl _ _ 25 rfl w.heap.size 33 _ 2 _ Try.underlying25 infoSet rfl (by decide) encSet_len encSet_one _ B.length B rfl own7' rfl _ _ _ ([] : List Set) rfl (by simp <;> omega) Rd.nil (by omega) (by omega) F7.size ?_)
        intro v9 w9 own9 hg9
        have F9 : Ext w w9 := F7.grown hg9 (fun k h => (own7'.lt k h).1)
        have own9' : w9.ownsRow w.heap.size 33 2 v9 (B ++ ([] : List Set)).length ((B ++ ([] : List Set)).flatMap encSet) := by simpa using own9
        have hCs : ∀ x ∈ B ++ ([] : List Set), x.name.size ≤ 9223372036854775807 ∧ x.text.size ≤ 9223372036854775807 := fun x hx => by
          rcases List.mem_append.1 hx with h | h
          · exact HBs.out x h
          · exact HRs.out x h
        have hC17 : (B ++ ([] : List Set)).length ≤ 17 := by rw [List.length_append]; omega
        obtain ⟨C, hC⟩ : ∃ C, C = B ++ ([] : List Set) := ⟨_, rfl⟩
        rw [← hC] at own9' hCs hC17
        have HCs := Lib.hid hCs
        have HCe := Lib.hid hC
        clear hC hCs own9 hg9 own7' rdR7 HRs HRn HBs HAs
        obtain ⟨a9, cap9, rfl, hcap9, rd9, _⟩ := view_owns encSet_len own9'
        go_wp2_with fail
        refine (specSettingsValid a9 cap9 C w9 (by omega) (fun x hx => by have := HCs.out x hx; omega) rd9).mono ?_
        rintro e w10 ⟨b10, rfl, hb10, E10⟩
        have Hb10 := Lib.hid hb10
        clear hb10
        have HPut := Lib.hid (put_nil (tx := tx) (C := C) (by rw [HCe.out, HBe.out, HAe.out]))
        cases b10 with
        | true =>
          have HC8 := Lib.hid (put_ok HV.out HPut.out (Hb10.out.1 rfl))
          have own10 := ownsRow_ext own9' E10
          clear Hb10
          go_wp2
          go_ret2
          exact RetSB.mk (L := C) rfl HC8.out own10 (F9.trans E10)
        | false =>
          have HC9 := Lib.hid (put_bad HV.out HPut.out (fun h => Bool.noConfusion (Hb10.out.2 h)))
          clear Hb10
          have F10 := F9.trans E10
          have rd0 := (hc.ext F10).ext ((Ext.refl w10).alloc (.cells #[] 33))
          go_wp2_with (at_builtin; refine wpList_append_lit rfl _ _ 25 rfl w.heap.size 33 _ 2 _ Try.underlying25 infoSet rfl (by decide) encSet_len encSet_one w10.heap.size rfl (heap_alloc_new _ _) F10.size _ _ _ ([] : List Set) rfl rfl rd0 (by omega) (by omega) (by have := F10.size; simp; omega) ?_)
          intro v11 w11 own11 hE11
          go_wp2
          go_ret2
          exact RetSB.mk (L := []) rfl HC9.out own11 ((F10.alloc _).trans hE11)
      · have i0 : (0 : Int) ≤ (k : Int) := by omega
        have ic : (k : Int) ≤ (cap : Int) := by omega
        have il : (k : Int) ≤ (l.length : Int) := by omega
        by_cases hlt : k < l.length
        · have i1 : (k : Int) < (l.length : Int) := by omega
          obtain ⟨x, b, off, hx, hab, c0, c1⟩ := atSet (hc.ext E) hlt
          obtain ⟨rfl, rfl⟩ : g = b ∧ 0 = off := by simpa using hab
          simp only [Nat.zero_add] at c0 c1
          have hkw : IntKind.i64.wrap ((k : Int) + 1) = (k : Int) + 1 := IntWalk.i64_in _ (by omega)
          have Hx := Lib.hid hx
          clear hx hab
          cases hless : Op.bytesLess x.name.toList nm.toList with
          | true =>
            have HN := Lib.hid (lt_next HL.out Hx.out hless)
            go_wp2
            go_roundw
            case rel => exact ⟨k + 1, by omega, by go_num, HN.out, HbX⟩
            case measure => simp [intOf]; omega
          | false =>
            cases heq : (x.name.toList == nm.toList) with
            | true =>
              have ick : (k : Int) + 1 ≤ (cap : Int) := by omega
              have ilk : (k : Int) + 1 ≤ (l.length : Int) := by omega
              by_cases hcm : cap = k + 1
              ·
                skip
                have E5 := (Ext.refl wr).alloc (.cells #[] 33)
                obtain ⟨A, hA⟩ : ∃ A, A = l.take (k) := ⟨_, rfl⟩
                have hAk : k = A.length := by rw [hA, List.length_take]; omega
                have HAk := Lib.hid hAk
                have rdA : Rd 2 encSet (wr.alloc (.cells #[] 33)) (some ⟨g, 0, none⟩) A := by rw [hA]; exact ((hc.ext E).take (k)).ext E5
                have hA8 : A.length ≤ 8 := by rw [hA, List.length_take]; omega
                have hAs : ∀ x ∈ A, x.name.size ≤ 9223372036854775807 ∧ x.text.size ≤ 9223372036854775807 := fun x hx => Hs.out x (List.mem_of_mem_take (hA ▸ hx))
                have HAs := Lib.hid hAs
                have HAe := Lib.hid hA
                clear hA hAk hAs
                go_wp2_with (at_builtin; refine wpList_append_lit rfl _ _ 25 rfl w.heap.size 33 _ 2 _ Try.underlying25 infoSet rfl (by decide) encSet_len encSet_one wr.heap.size rfl (heap_alloc_new _ _) E.size _ _ _ A rfl HAk.out rdA (by omega) (by omega) (by have := E.size; simp; omega) ?_)
                intro v5 w5 own5 hE5
                have F5 := (E.trans E5).trans hE5
                clear rdA HAk
                have E6 := (Ext.refl w5).alloc (.cells #[.string nm, .string tx] 33)
                have rdm : Rd 2 encSet (w5.alloc (.cells #[.string nm, .string tx] 33)) (some ⟨w5.heap.size, 0, none⟩) [(⟨nm, tx⟩ : Set)] := rd_lit_new [(⟨nm, tx⟩ : Set)] encSet_len rfl
                have ho6 := ownsRow_ext own5 E6
                have F6 := F5.trans E6
                go_wp2_with (at_builtin; refine wpList_append_rd rfl _ _ 25 rfl w.heap.size 33 _ 2 _ Try.underlying25 infoSet rfl (by decide) encSet_len encSet_one _ A.length A rfl ho6 rfl _ 1 1 [(⟨nm, tx⟩ : Set)] rfl rfl rdm (by omega) (by omega) F6.size ?_)
                intro v7 w7 own7 hg7
                have F7 : Ext w w7 := F6.grown hg7 (fun k h => (ho6.lt k h).1)
                have own7' : w7.ownsRow w.heap.size 33 2 v7 (A ++ [(⟨nm, tx⟩ : Set)]).length ((A ++ [(⟨nm, tx⟩ : Set)]).flatMap encSet) := by simpa using own7
                have hBs : ∀ x ∈ A ++ [(⟨nm, tx⟩ : Set)], x.name.size ≤ 9223372036854775807 ∧ x.text.size ≤ 9223372036854775807 := fun x hx => by
                  rcases List.mem_append.1 hx with h | h
                  · exact HAs.out x h
                  · rw [List.mem_singleton.1 h]; exact ⟨hn, ht⟩
                have hB9 : (A ++ [(⟨nm, tx⟩ : Set)]).length ≤ 9 := by rw [List.length_append, List.length_singleton]; omega
                obtain ⟨B, hB⟩ : ∃ B, B = A ++ [(⟨nm, tx⟩ : Set)] := ⟨_, rfl⟩
                rw [← hB] at own7' hBs hB9
                have HBs := Lib.hid hBs
                have HBe := Lib.hid hB
                clear hB hBs own7 hg7 ho6 rdm E6 own5
                have hRl : ([] : List Set).length ≤ 8 := by simp
                have HRs : Hid (∀ x ∈ ([] : List Set), x.name.size ≤ 9223372036854775807 ∧ x.text.size ≤ 9223372036854775807) := Lib.hid (fun x hx => by simp at hx)
                have HRn := Lib.hid (show 0 = ([] : List Set).length from rfl)
                have rdR7 : True := trivial
                go_wp2_with (at_builtin; refine wpList_append_rd rfl _ _ 25 rfl w.heap.size 33 _ 2 _ Try.underlying25 infoSet rfl (by decide) encSet_len encSet_one _ B.length B rfl own7' rfl _ _ _ ([] : List Set) rfl (by simp <;> omega) Rd.nil (by omega) (by omega) F7.size ?_)
                intro v9 w9 own9 hg9
                have F9 : Ext w w9 := F7.grown hg9 (fun k h => (own7'.lt k h).1)
                have own9' : w9.ownsRow w.heap.size 33 2 v9 (B ++ ([] : List Set)).length ((B ++ ([] : List Set)).flatMap encSet) := by simpa using own9
                have hCs : ∀ x ∈ B ++ ([] : List Set), x.name.size ≤ 9223372036854775807 ∧ x.text.size ≤ 9223372036854775807 := fun x hx => by
                  rcases List.mem_append.1 hx with h | h
                  · exact HBs.out x h
                  · exact HRs.out x h
                have hC17 : (B ++ ([] : List Set)).length ≤ 17 := by rw [List.length_append]; omega
                obtain ⟨C, hC⟩ : ∃ C, C = B ++ ([] : List Set) := ⟨_, rfl⟩
                rw [← hC] at own9' hCs hC17
                have HCs := Lib.hid hCs
                have HCe := Lib.hid hC
                clear hC hCs own9 hg9 own7' rdR7 HRs HRn HBs HAs
                obtain ⟨a9, cap9, rfl, hcap9, rd9, _⟩ := view_owns encSet_len own9'
                go_wp2_with fail
                refine (specSettingsValid a9 cap9 C w9 (by omega) (fun x hx => by have := HCs.out x hx; omega) rd9).mono ?_
                rintro e w10 ⟨b10, rfl, hb10, E10⟩
                have Hb10 := Lib.hid hb10
                clear hb10
                have HPut := Lib.hid (put_at1 HV.out HL.out Hx.out hless heq (by omega) (tx := tx) (C := C) (by rw [HCe.out, HBe.out, HAe.out]))
                cases b10 with
                | true =>
                  have HC8 := Lib.hid (put_ok HV.out HPut.out (Hb10.out.1 rfl))
                  have own10 := ownsRow_ext own9' E10
                  clear Hb10
                  go_wp2
                  go_ret2
                  exact RetSB.mk (L := C) rfl HC8.out own10 (F9.trans E10)
                | false =>
                  have HC9 := Lib.hid (put_bad HV.out HPut.out (fun h => Bool.noConfusion (Hb10.out.2 h)))
                  clear Hb10
                  have F10 := F9.trans E10
                  have rd0 := (hc.ext F10).ext ((Ext.refl w10).alloc (.cells #[] 33))
                  go_wp2_with (at_builtin; refine wpList_append_lit rfl _ _ 25 rfl w.heap.size 33 _ 2 _ Try.underlying25 infoSet rfl (by decide) encSet_len encSet_one w10.heap.size rfl (heap_alloc_new _ _) F10.size _ _ _ l rfl rfl rd0 (by omega) (by omega) (by have := F10.size; simp; omega) ?_)
                  intro v11 w11 own11 hE11
                  go_wp2
                  go_ret2
                  exact RetSB.mk (L := l) rfl HC9.out own11 ((F10.alloc _).trans hE11)
              · have rdD : Rd 2 encSet w (some ⟨g, (k + 1) * 2, none⟩) (l.drop (k + 1)) := by have := hc.drop (k + 1); rwa [Nat.zero_add] at this
                skip
                have E5 := (Ext.refl wr).alloc (.cells #[] 33)
                obtain ⟨A, hA⟩ : ∃ A, A = l.take (k) := ⟨_, rfl⟩
                have hAk : k = A.length := by rw [hA, List.length_take]; omega
                have HAk := Lib.hid hAk
                have rdA : Rd 2 encSet (wr.alloc (.cells #[] 33)) (some ⟨g, 0, none⟩) A := by rw [hA]; exact ((hc.ext E).take (k)).ext E5
                have hA8 : A.length ≤ 8 := by rw [hA, List.length_take]; omega
                have hAs : ∀ x ∈ A, x.name.size ≤ 9223372036854775807 ∧ x.text.size ≤ 9223372036854775807 := fun x hx => Hs.out x (List.mem_of_mem_take (hA ▸ hx))
                have HAs := Lib.hid hAs
                have HAe := Lib.hid hA
                clear hA hAk hAs
                go_wp2_with (at_builtin; refine wpList_append_lit rfl _ _ 25 rfl w.heap.size 33 _ 2 _ Try.underlying25 infoSet rfl (by decide) encSet_len encSet_one wr.heap.size rfl (heap_alloc_new _ _) E.size _ _ _ A rfl HAk.out rdA (by omega) (by omega) (by have := E.size; simp; omega) ?_)
                intro v5 w5 own5 hE5
                have F5 := (E.trans E5).trans hE5
                clear rdA HAk
                have E6 := (Ext.refl w5).alloc (.cells #[.string nm, .string tx] 33)
                have rdm : Rd 2 encSet (w5.alloc (.cells #[.string nm, .string tx] 33)) (some ⟨w5.heap.size, 0, none⟩) [(⟨nm, tx⟩ : Set)] := rd_lit_new [(⟨nm, tx⟩ : Set)] encSet_len rfl
                have ho6 := ownsRow_ext own5 E6
                have F6 := F5.trans E6
                go_wp2_with (at_builtin; refine wpList_append_rd rfl _ _ 25 rfl w.heap.size 33 _ 2 _ Try.underlying25 infoSet rfl (by decide) encSet_len encSet_one _ A.length A rfl ho6 rfl _ 1 1 [(⟨nm, tx⟩ : Set)] rfl rfl rdm (by omega) (by omega) F6.size ?_)
                intro v7 w7 own7 hg7
                have F7 : Ext w w7 := F6.grown hg7 (fun k h => (ho6.lt k h).1)
                have own7' : w7.ownsRow w.heap.size 33 2 v7 (A ++ [(⟨nm, tx⟩ : Set)]).length ((A ++ [(⟨nm, tx⟩ : Set)]).flatMap encSet) := by simpa using own7
                have hBs : ∀ x ∈ A ++ [(⟨nm, tx⟩ : Set)], x.name.size ≤ 9223372036854775807 ∧ x.text.size ≤ 9223372036854775807 := fun x hx => by
                  rcases List.mem_append.1 hx with h | h
                  · exact HAs.out x h
                  · rw [List.mem_singleton.1 h]; exact ⟨hn, ht⟩
                have hB9 : (A ++ [(⟨nm, tx⟩ : Set)]).length ≤ 9 := by rw [List.length_append, List.length_singleton]; omega
                obtain ⟨B, hB⟩ : ∃ B, B = A ++ [(⟨nm, tx⟩ : Set)] := ⟨_, rfl⟩
                rw [← hB] at own7' hBs hB9
                have HBs := Lib.hid hBs
                have HBe := Lib.hid hB
                clear hB hBs own7 hg7 ho6 rdm E6 own5
                have hRl : (l.drop (k + 1)).length ≤ 8 := by rw [List.length_drop]; omega
                have HRs : Hid (∀ x ∈ (l.drop (k + 1)), x.name.size ≤ 9223372036854775807 ∧ x.text.size ≤ 9223372036854775807) := Lib.hid (fun x hx => Hs.out x (List.mem_of_mem_drop hx))
                have HRn := Lib.hid (show l.length - (k + 1) = (l.drop (k + 1)).length from (List.length_drop ..).symm)
                have rdR7 := (rdD).ext F7
                go_wp2_with (at_builtin; refine wpList_append_rd rfl _ _ 25 rfl w.heap.size 33 _ 2 _ Try.underlying25 infoSet rfl (by decide) encSet_len encSet_one _ B.length B rfl own7' rfl _ _ _ (l.drop (k + 1)) rfl HRn.out rdR7 (by omega) (by omega) F7.size ?_)
                intro v9 w9 own9 hg9
                have F9 : Ext w w9 := F7.grown hg9 (fun k h => (own7'.lt k h).1)
                have own9' : w9.ownsRow w.heap.size 33 2 v9 (B ++ (l.drop (k + 1))).length ((B ++ (l.drop (k + 1))).flatMap encSet) := by simpa using own9
                have hCs : ∀ x ∈ B ++ (l.drop (k + 1)), x.name.size ≤ 9223372036854775807 ∧ x.text.size ≤ 9223372036854775807 := fun x hx => by
                  rcases List.mem_append.1 hx with h | h
                  · exact HBs.out x h
                  · exact HRs.out x h
                have hC17 : (B ++ (l.drop (k + 1))).length ≤ 17 := by rw [List.length_append]; omega
                obtain ⟨C, hC⟩ : ∃ C, C = B ++ (l.drop (k + 1)) := ⟨_, rfl⟩
                rw [← hC] at own9' hCs hC17
                have HCs := Lib.hid hCs
                have HCe := Lib.hid hC
                clear hC hCs own9 hg9 own7' rdR7 HRs HRn HBs HAs
                obtain ⟨a9, cap9, rfl, hcap9, rd9, _⟩ := view_owns encSet_len own9'
                go_wp2_with fail
                refine (specSettingsValid a9 cap9 C w9 (by omega) (fun x hx => by have := HCs.out x hx; omega) rd9).mono ?_
                rintro e w10 ⟨b10, rfl, hb10, E10⟩
                have Hb10 := Lib.hid hb10
                clear hb10
                have HPut := Lib.hid (put_at HV.out HL.out Hx.out hless heq (tx := tx) (C := C) (by rw [HCe.out, HBe.out, HAe.out]))
                cases b10 with
                | true =>
                  have HC8 := Lib.hid (put_ok HV.out HPut.out (Hb10.out.1 rfl))
                  have own10 := ownsRow_ext own9' E10
                  clear Hb10
                  go_wp2
                  go_ret2
                  exact RetSB.mk (L := C) rfl HC8.out own10 (F9.trans E10)
                | false =>
                  have HC9 := Lib.hid (put_bad HV.out HPut.out (fun h => Bool.noConfusion (Hb10.out.2 h)))
                  clear Hb10
                  have F10 := F9.trans E10
                  have rd0 := (hc.ext F10).ext ((Ext.refl w10).alloc (.cells #[] 33))
                  go_wp2_with (at_builtin; refine wpList_append_lit rfl _ _ 25 rfl w.heap.size 33 _ 2 _ Try.underlying25 infoSet rfl (by decide) encSet_len encSet_one w10.heap.size rfl (heap_alloc_new _ _) F10.size _ _ _ l rfl rfl rd0 (by omega) (by omega) (by have := F10.size; simp; omega) ?_)
                  intro v11 w11 own11 hE11
                  go_wp2
                  go_ret2
                  exact RetSB.mk (L := l) rfl HC9.out own11 ((F10.alloc _).trans hE11)
            | false =>
              have hcm : ¬ cap = k := by omega
              have rdD : Rd 2 encSet w (some ⟨g, k * 2, none⟩) (l.drop k) := by have := hc.drop k; rwa [Nat.zero_add] at this
              skip
              have E5 := (Ext.refl wr).alloc (.cells #[] 33)
              obtain ⟨A, hA⟩ : ∃ A, A = l.take (k) := ⟨_, rfl⟩
              have hAk : k = A.length := by rw [hA, List.length_take]; omega
              have HAk := Lib.hid hAk
              have rdA : Rd 2 encSet (wr.alloc (.cells #[] 33)) (some ⟨g, 0, none⟩) A := by rw [hA]; exact ((hc.ext E).take (k)).ext E5
              have hA8 : A.length ≤ 8 := by rw [hA, List.length_take]; omega
              have hAs : ∀ x ∈ A, x.name.size ≤ 9223372036854775807 ∧ x.text.size ≤ 9223372036854775807 := fun x hx => Hs.out x (List.mem_of_mem_take (hA ▸ hx))
              have HAs := Lib.hid hAs
              have HAe := Lib.hid hA
              clear hA hAk hAs
              go_wp2_with (at_builtin; refine wpList_append_lit rfl _ _ 25 rfl w.heap.size 33 _ 2 _ Try.underlying25 infoSet rfl (by decide) encSet_len encSet_one wr.heap.size rfl (heap_alloc_new _ _) E.size _ _ _ A rfl HAk.out rdA (by omega) (by omega) (by have := E.size; simp; omega) ?_)
              intro v5 w5 own5 hE5
              have F5 := (E.trans E5).trans hE5
              clear rdA HAk
              have E6 := (Ext.refl w5).alloc (.cells #[.string nm, .string tx] 33)
              have rdm : Rd 2 encSet (w5.alloc (.cells #[.string nm, .string tx] 33)) (some ⟨w5.heap.size, 0, none⟩) [(⟨nm, tx⟩ : Set)] := rd_lit_new [(⟨nm, tx⟩ : Set)] encSet_len rfl
              have ho6 := ownsRow_ext own5 E6
              have F6 := F5.trans E6
              go_wp2_with (at_builtin; refine wpList_append_rd rfl _ _ 25 rfl w.heap.size 33 _ 2 _ Try.underlying25 infoSet rfl (by decide) encSet_len encSet_one _ A.length A rfl ho6 rfl _ 1 1 [(⟨nm, tx⟩ : Set)] rfl rfl rdm (by omega) (by omega) F6.size ?_)
              intro v7 w7 own7 hg7
              have F7 : Ext w w7 := F6.grown hg7 (fun k h => (ho6.lt k h).1)
              have own7' : w7.ownsRow w.heap.size 33 2 v7 (A ++ [(⟨nm, tx⟩ : Set)]).length ((A ++ [(⟨nm, tx⟩ : Set)]).flatMap encSet) := by simpa using own7
              have hBs : ∀ x ∈ A ++ [(⟨nm, tx⟩ : Set)], x.name.size ≤ 9223372036854775807 ∧ x.text.size ≤ 9223372036854775807 := fun x hx => by
                rcases List.mem_append.1 hx with h | h
                · exact HAs.out x h
                · rw [List.mem_singleton.1 h]; exact ⟨hn, ht⟩
              have hB9 : (A ++ [(⟨nm, tx⟩ : Set)]).length ≤ 9 := by rw [List.length_append, List.length_singleton]; omega
              obtain ⟨B, hB⟩ : ∃ B, B = A ++ [(⟨nm, tx⟩ : Set)] := ⟨_, rfl⟩
              rw [← hB] at own7' hBs hB9
              have HBs := Lib.hid hBs
              have HBe := Lib.hid hB
              clear hB hBs own7 hg7 ho6 rdm E6 own5
              have hRl : (l.drop k).length ≤ 8 := by rw [List.length_drop]; omega
              have HRs : Hid (∀ x ∈ (l.drop k), x.name.size ≤ 9223372036854775807 ∧ x.text.size ≤ 9223372036854775807) := Lib.hid (fun x hx => Hs.out x (List.mem_of_mem_drop hx))
              have HRn := Lib.hid (show l.length - (k) = (l.drop (k)).length from (List.length_drop ..).symm)
              have rdR7 := (rdD).ext F7
              go_wp2_with (at_builtin; refine wpList_append_rd rfl _ _ 25 rfl w.heap.size 33 _ 2 _ Try.underlying25 infoSet rfl (by decide) encSet_len encSet_one _ B.length B rfl own7' rfl _ _ _ (l.drop k) rfl HRn.out rdR7 (by omega) (by omega) F7.size ?_)
              intro v9 w9 own9 hg9
              have F9 : Ext w w9 := F7.grown hg9 (fun k h => (own7'.lt k h).1)
              have own9' : w9.ownsRow w.heap.size 33 2 v9 (B ++ (l.drop k)).length ((B ++ (l.drop k)).flatMap encSet) := by simpa using own9
              have hCs : ∀ x ∈ B ++ (l.drop k), x.name.size ≤ 9223372036854775807 ∧ x.text.size ≤ 9223372036854775807 := fun x hx => by
                rcases List.mem_append.1 hx with h | h
                · exact HBs.out x h
                · exact HRs.out x h
              have hC17 : (B ++ (l.drop k)).length ≤ 17 := by rw [List.length_append]; omega
              obtain ⟨C, hC⟩ : ∃ C, C = B ++ (l.drop k) := ⟨_, rfl⟩
              rw [← hC] at own9' hCs hC17
              have HCs := Lib.hid hCs
              have HCe := Lib.hid hC
              clear hC hCs own9 hg9 own7' rdR7 HRs HRn HBs HAs
              obtain ⟨a9, cap9, rfl, hcap9, rd9, _⟩ := view_owns encSet_len own9'
              go_wp2_with fail
              refine (specSettingsValid a9 cap9 C w9 (by omega) (fun x hx => by have := HCs.out x hx; omega) rd9).mono ?_
              rintro e w10 ⟨b10, rfl, hb10, E10⟩
              have Hb10 := Lib.hid hb10
              clear hb10
              have HPut := Lib.hid (put_in HV.out HL.out Hx.out hless heq (tx := tx) (C := C) (by rw [HCe.out, HBe.out, HAe.out]))
              cases b10 with
              | true =>
                have HC8 := Lib.hid (put_ok HV.out HPut.out (Hb10.out.1 rfl))
                have own10 := ownsRow_ext own9' E10
                clear Hb10
                go_wp2
                go_ret2
                exact RetSB.mk (L := C) rfl HC8.out own10 (F9.trans E10)
              | false =>
                have HC9 := Lib.hid (put_bad HV.out HPut.out (fun h => Bool.noConfusion (Hb10.out.2 h)))
                clear Hb10
                have F10 := F9.trans E10
                have rd0 := (hc.ext F10).ext ((Ext.refl w10).alloc (.cells #[] 33))
                go_wp2_with (at_builtin; refine wpList_append_lit rfl _ _ 25 rfl w.heap.size 33 _ 2 _ Try.underlying25 infoSet rfl (by decide) encSet_len encSet_one w10.heap.size rfl (heap_alloc_new _ _) F10.size _ _ _ l rfl rfl rd0 (by omega) (by omega) (by have := F10.size; simp; omega) ?_)
                intro v11 w11 own11 hE11
                go_wp2
                go_ret2
                exact RetSB.mk (L := l) rfl HC9.out own11 ((F10.alloc _).trans hE11)
        · obtain rfl : k = l.length := by omega
          have hni : ¬ (l.length : Int) < (l.length : Int) := by omega
          by_cases hcm : cap = l.length
          ·
            skip
            have E5 := (Ext.refl wr).alloc (.cells #[] 33)
            obtain ⟨A, hA⟩ : ∃ A, A = l.take (l.length) := ⟨_, rfl⟩
            have hAk : l.length = A.length := by rw [hA, List.length_take]; omega
            have HAk := Lib.hid hAk
            have rdA : Rd 2 encSet (wr.alloc (.cells #[] 33)) (some ⟨g, 0, none⟩) A := by rw [hA]; exact ((hc.ext E).take (l.length)).ext E5
            have hA8 : A.length ≤ 8 := by rw [hA, List.length_take]; omega
            have hAs : ∀ x ∈ A, x.name.size ≤ 9223372036854775807 ∧ x.text.size ≤ 9223372036854775807 := fun x hx => Hs.out x (List.mem_of_mem_take (hA ▸ hx))
            have HAs := Lib.hid hAs
            have HAe := Lib.hid hA
            clear hA hAk hAs
            go_wp2_with (at_builtin; refine wpList_append_lit rfl _ _ 25 rfl w.heap.size 33 _ 2 _ Try.underlying25 infoSet rfl (by decide) encSet_len encSet_one wr.heap.size rfl (heap_alloc_new _ _) E.size _ _ _ A rfl HAk.out rdA (by omega) (by omega) (by have := E.size; simp; omega) ?_)
            intro v5 w5 own5 hE5
            have F5 := (E.trans E5).trans hE5
            clear rdA HAk
            have E6 := (Ext.refl w5).alloc (.cells #[.string nm, .string tx] 33)
            have rdm : Rd 2 encSet (w5.alloc (.cells #[.string nm, .string tx] 33)) (some ⟨w5.heap.size, 0, none⟩) [(⟨nm, tx⟩ : Set)] := rd_lit_new [(⟨nm, tx⟩ : Set)] encSet_len rfl
            have ho6 := ownsRow_ext own5 E6
            have F6 := F5.trans E6
            go_wp2_with (at_builtin; refine wpList_append_rd rfl _ _ 25 rfl w.heap.size 33 _ 2 _ Try.underlying25 infoSet rfl (by decide) encSet_len encSet_one _ A.length A rfl ho6 rfl _ 1 1 [(⟨nm, tx⟩ : Set)] rfl rfl rdm (by omega) (by omega) F6.size ?_)
            intro v7 w7 own7 hg7
            have F7 : Ext w w7 := F6.grown hg7 (fun k h => (ho6.lt k h).1)
            have own7' : w7.ownsRow w.heap.size 33 2 v7 (A ++ [(⟨nm, tx⟩ : Set)]).length ((A ++ [(⟨nm, tx⟩ : Set)]).flatMap encSet) := by simpa using own7
            have hBs : ∀ x ∈ A ++ [(⟨nm, tx⟩ : Set)], x.name.size ≤ 9223372036854775807 ∧ x.text.size ≤ 9223372036854775807 := fun x hx => by
              rcases List.mem_append.1 hx with h | h
              · exact HAs.out x h
              · rw [List.mem_singleton.1 h]; exact ⟨hn, ht⟩
            have hB9 : (A ++ [(⟨nm, tx⟩ : Set)]).length ≤ 9 := by rw [List.length_append, List.length_singleton]; omega
            obtain ⟨B, hB⟩ : ∃ B, B = A ++ [(⟨nm, tx⟩ : Set)] := ⟨_, rfl⟩
            rw [← hB] at own7' hBs hB9
            have HBs := Lib.hid hBs
            have HBe := Lib.hid hB
            clear hB hBs own7 hg7 ho6 rdm E6 own5
            have hRl : ([] : List Set).length ≤ 8 := by simp
            have HRs : Hid (∀ x ∈ ([] : List Set), x.name.size ≤ 9223372036854775807 ∧ x.text.size ≤ 9223372036854775807) := Lib.hid (fun x hx => by simp at hx)
            have HRn := Lib.hid (show 0 = ([] : List Set).length from rfl)
            have rdR7 : True := trivial
            go_wp2_with (at_builtin; refine wpList_append_rd rfl _ _ 25 rfl w.heap.size 33 _ 2 _ Try.underlying25 infoSet rfl (by decide) encSet_len encSet_one _ B.length B rfl own7' rfl _ _ _ ([] : List Set) rfl (by simp <;> omega) Rd.nil (by omega) (by omega) F7.size ?_)
            intro v9 w9 own9 hg9
            have F9 : Ext w w9 := F7.grown hg9 (fun k h => (own7'.lt k h).1)
            have own9' : w9.ownsRow w.heap.size 33 2 v9 (B ++ ([] : List Set)).length ((B ++ ([] : List Set)).flatMap encSet) := by simpa using own9
            have hCs : ∀ x ∈ B ++ ([] : List Set), x.name.size ≤ 9223372036854775807 ∧ x.text.size ≤ 9223372036854775807 := fun x hx => by
              rcases List.mem_append.1 hx with h | h
              · exact HBs.out x h
              · exact HRs.out x h
            have hC17 : (B ++ ([] : List Set)).length ≤ 17 := by rw [List.length_append]; omega
            obtain ⟨C, hC⟩ : ∃ C, C = B ++ ([] : List Set) := ⟨_, rfl⟩
            rw [← hC] at own9' hCs hC17
            have HCs := Lib.hid hCs
            have HCe := Lib.hid hC
            clear hC hCs own9 hg9 own7' rdR7 HRs HRn HBs HAs
            obtain ⟨a9, cap9, rfl, hcap9, rd9, _⟩ := view_owns encSet_len own9'
            go_wp2_with fail
            refine (specSettingsValid a9 cap9 C w9 (by omega) (fun x hx => by have := HCs.out x hx; omega) rd9).mono ?_
            rintro e w10 ⟨b10, rfl, hb10, E10⟩
            have Hb10 := Lib.hid hb10
            clear hb10
            have HPut := Lib.hid (put_end HL.out (tx := tx) (C := C) (by rw [HCe.out, HBe.out, HAe.out]))
            cases b10 with
            | true =>
              have HC8 := Lib.hid (put_ok HV.out HPut.out (Hb10.out.1 rfl))
              have own10 := ownsRow_ext own9' E10
              clear Hb10
              go_wp2
              go_ret2
              exact RetSB.mk (L := C) rfl HC8.out own10 (F9.trans E10)
            | false =>
              have HC9 := Lib.hid (put_bad HV.out HPut.out (fun h => Bool.noConfusion (Hb10.out.2 h)))
              clear Hb10
              have F10 := F9.trans E10
              have rd0 := (hc.ext F10).ext ((Ext.refl w10).alloc (.cells #[] 33))
              go_wp2_with (at_builtin; refine wpList_append_lit rfl _ _ 25 rfl w.heap.size 33 _ 2 _ Try.underlying25 infoSet rfl (by decide) encSet_len encSet_one w10.heap.size rfl (heap_alloc_new _ _) F10.size _ _ _ l rfl rfl rd0 (by omega) (by omega) (by have := F10.size; simp; omega) ?_)
              intro v11 w11 own11 hE11
              go_wp2
              go_ret2
              exact RetSB.mk (L := l) rfl HC9.out own11 ((F10.alloc _).trans hE11)
          ·
            skip
            have E5 := (Ext.refl wr).alloc (.cells #[] 33)
            obtain ⟨A, hA⟩ : ∃ A, A = l.take (l.length) := ⟨_, rfl⟩
            have hAk : l.length = A.length := by rw [hA, List.length_take]; omega
            have HAk := Lib.hid hAk
            have rdA : Rd 2 encSet (wr.alloc (.cells #[] 33)) (some ⟨g, 0, none⟩) A := by rw [hA]; exact ((hc.ext E).take (l.length)).ext E5
            have hA8 : A.length ≤ 8 := by rw [hA, List.length_take]; omega
            have hAs : ∀ x ∈ A, x.name.size ≤ 9223372036854775807 ∧ x.text.size ≤ 9223372036854775807 := fun x hx => Hs.out x (List.mem_of_mem_take (hA ▸ hx))
            have HAs := Lib.hid hAs
            have HAe := Lib.hid hA
            clear hA hAk hAs
            go_wp2_with (at_builtin; refine wpList_append_lit rfl _ _ 25 rfl w.heap.size 33 _ 2 _ Try.underlying25 infoSet rfl (by decide) encSet_len encSet_one wr.heap.size rfl (heap_alloc_new _ _) E.size _ _ _ A rfl HAk.out rdA (by omega) (by omega) (by have := E.size; simp; omega) ?_)
            intro v5 w5 own5 hE5
            have F5 := (E.trans E5).trans hE5
            clear rdA HAk
            have E6 := (Ext.refl w5).alloc (.cells #[.string nm, .string tx] 33)
            have rdm : Rd 2 encSet (w5.alloc (.cells #[.string nm, .string tx] 33)) (some ⟨w5.heap.size, 0, none⟩) [(⟨nm, tx⟩ : Set)] := rd_lit_new [(⟨nm, tx⟩ : Set)] encSet_len rfl
            have ho6 := ownsRow_ext own5 E6
            have F6 := F5.trans E6
            go_wp2_with (at_builtin; refine wpList_append_rd rfl _ _ 25 rfl w.heap.size 33 _ 2 _ Try.underlying25 infoSet rfl (by decide) encSet_len encSet_one _ A.length A rfl ho6 rfl _ 1 1 [(⟨nm, tx⟩ : Set)] rfl rfl rdm (by omega) (by omega) F6.size ?_)
            intro v7 w7 own7 hg7
            have F7 : Ext w w7 := F6.grown hg7 (fun k h => (ho6.lt k h).1)
            have own7' : w7.ownsRow w.heap.size 33 2 v7 (A ++ [(⟨nm, tx⟩ : Set)]).length ((A ++ [(⟨nm, tx⟩ : Set)]).flatMap encSet) := by simpa using own7
            have hBs : ∀ x ∈ A ++ [(⟨nm, tx⟩ : Set)], x.name.size ≤ 9223372036854775807 ∧ x.text.size ≤ 9223372036854775807 := fun x hx => by
              rcases List.mem_append.1 hx with h | h
              · exact HAs.out x h
              · rw [List.mem_singleton.1 h]; exact ⟨hn, ht⟩
            have hB9 : (A ++ [(⟨nm, tx⟩ : Set)]).length ≤ 9 := by rw [List.length_append, List.length_singleton]; omega
            obtain ⟨B, hB⟩ : ∃ B, B = A ++ [(⟨nm, tx⟩ : Set)] := ⟨_, rfl⟩
            rw [← hB] at own7' hBs hB9
            have HBs := Lib.hid hBs
            have HBe := Lib.hid hB
            clear hB hBs own7 hg7 ho6 rdm E6 own5
            have hRl : ([] : List Set).length ≤ 8 := by simp
            have HRs : Hid (∀ x ∈ ([] : List Set), x.name.size ≤ 9223372036854775807 ∧ x.text.size ≤ 9223372036854775807) := Lib.hid (fun x hx => by simp at hx)
            have HRn := Lib.hid (show 0 = ([] : List Set).length from rfl)
            have rdR7 : True := trivial
            go_wp2_with (at_builtin; refine wpList_append_rd rfl _ _ 25 rfl w.heap.size 33 _ 2 _ Try.underlying25 infoSet rfl (by decide) encSet_len encSet_one _ B.length B rfl own7' rfl _ _ _ ([] : List Set) rfl (by simp <;> omega) Rd.nil (by omega) (by omega) F7.size ?_)
            intro v9 w9 own9 hg9
            have F9 : Ext w w9 := F7.grown hg9 (fun k h => (own7'.lt k h).1)
            have own9' : w9.ownsRow w.heap.size 33 2 v9 (B ++ ([] : List Set)).length ((B ++ ([] : List Set)).flatMap encSet) := by simpa using own9
            have hCs : ∀ x ∈ B ++ ([] : List Set), x.name.size ≤ 9223372036854775807 ∧ x.text.size ≤ 9223372036854775807 := fun x hx => by
              rcases List.mem_append.1 hx with h | h
              · exact HBs.out x h
              · exact HRs.out x h
            have hC17 : (B ++ ([] : List Set)).length ≤ 17 := by rw [List.length_append]; omega
            obtain ⟨C, hC⟩ : ∃ C, C = B ++ ([] : List Set) := ⟨_, rfl⟩
            rw [← hC] at own9' hCs hC17
            have HCs := Lib.hid hCs
            have HCe := Lib.hid hC
            clear hC hCs own9 hg9 own7' rdR7 HRs HRn HBs HAs
            obtain ⟨a9, cap9, rfl, hcap9, rd9, _⟩ := view_owns encSet_len own9'
            go_wp2_with fail
            refine (specSettingsValid a9 cap9 C w9 (by omega) (fun x hx => by have := HCs.out x hx; omega) rd9).mono ?_
            rintro e w10 ⟨b10, rfl, hb10, E10⟩
            have Hb10 := Lib.hid hb10
            clear hb10
            have HPut := Lib.hid (put_end HL.out (tx := tx) (C := C) (by rw [HCe.out, HBe.out, HAe.out]))
            cases b10 with
            | true =>
              have HC8 := Lib.hid (put_ok HV.out HPut.out (Hb10.out.1 rfl))
              have own10 := ownsRow_ext own9' E10
              clear Hb10
              go_wp2
              go_ret2
              exact RetSB.mk (L := C) rfl HC8.out own10 (F9.trans E10)
            | false =>
              have HC9 := Lib.hid (put_bad HV.out HPut.out (fun h => Bool.noConfusion (Hb10.out.2 h)))
              clear Hb10
              have F10 := F9.trans E10
              have rd0 := (hc.ext F10).ext ((Ext.refl w10).alloc (.cells #[] 33))
              go_wp2_with (at_builtin; refine wpList_append_lit rfl _ _ 25 rfl w.heap.size 33 _ 2 _ Try.underlying25 infoSet rfl (by decide) encSet_len encSet_one w10.heap.size rfl (heap_alloc_new _ _) F10.size _ _ _ l rfl rfl rd0 (by omega) (by omega) (by have := F10.size; simp; omega) ?_)
              intro v11 w11 own11 hE11
              go_wp2
              go_ret2
              exact RetSB.mk (L := l) rfl HC9.out own11 ((F10.alloc _).trans hE11)
end Go.Proofs.Ytekmfphlccomaaa
