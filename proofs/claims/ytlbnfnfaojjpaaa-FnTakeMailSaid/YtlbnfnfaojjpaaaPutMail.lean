/- PutMail: contracts of the program's and the reference's. Condition: lists of at most 2^20. -/
import Derived.Test.YtlbnfnfaojjpaaaMailV
namespace Go.Proofs.Ytlbnfnfaojjpaaa
open Go.RowKit

def PutR (l : List Mail) (m : Mail) (L : List Mail) (ok : Bool) : Prop :=
  (ok = true ↔ MailsOk l ∧ MailsOk (l ++ [m])) ∧ (ok = true → L = l ++ [m]) ∧ (ok = false → MailsOk l → L = l) ∧ (¬ MailsOk l → L = [])
theorem putR_fun {l : List Mail} {m : Mail} {L L' : List Mail} {ok ok' : Bool} (h : PutR l m L ok) (h' : PutR l m L' ok') : L = L' ∧ ok = ok' := by
  have e : ok = ok' := Bool.eq_iff_iff.2 (h.1.trans h'.1.symm)
  subst e
  refine ⟨?_, rfl⟩
  cases ok
  · by_cases hv : MailsOk l
    · rw [h.2.2.1 rfl hv, h'.2.2.1 rfl hv]
    · rw [h.2.2.2 hv, h'.2.2.2 hv]
  · rw [h.2.1 rfl, h'.2.1 rfl]

theorem putR_len {l : List Mail} {m : Mail} {L : List Mail} {ok : Bool} (h : PutR l m L ok) (hl : l.length ≤ 1048576) : L.length ≤ 1048576 := by
  cases ok
  · by_cases hv : MailsOk l
    · rw [h.2.2.1 rfl hv]; exact hl
    · rw [h.2.2.2 hv]; simp
  · rw [h.2.1 rfl]
    have := (h.1.1 rfl).2.2
    omega

set_option maxHeartbeats 1000000 in
theorem implPutMail (a : Option Addr) (cap : Nat) (l : List Mail) (m : Mail) (w : World) (hl : l.length ≤ 1048576) (hc : Rd 2 encMail w a l) :
    Calls Try.prog 19 #[.slice a l.length cap, .agg #[.int .i64 m.kind, .string m.text]] w (RetSB 27 2 encMail (PutR l m) w) := by
  have hc0 := hc
  go_enter Try.func19, Try.ntmps19
  go_wp2_with fail
  have E : Ext w _ := (Ext.refl w).alloc (.cells #[.int .i64 m.kind, .string m.text] 27)
  have b0 : (w.alloc (.cells #[.int .i64 m.kind, .string m.text] 27)).cell? ⟨w.heap.size, 0, none⟩ = some (.int .i64 m.kind) := by simp
  have b1 : (w.alloc (.cells #[.int .i64 m.kind, .string m.text] 27)).cell? ⟨w.heap.size, 1, none⟩ = some (.string m.text) := by simp
  refine (implMailsValid _ _ l _ (by omega) (hc.ext E)).mono ?_
  rintro e w1 ⟨v0, rfl, hv0, hb1⟩
  have Hv0 := Lib.hid hv0
  clear hv0
  replace b0 := cell_ext hb1 b0
  replace b1 := cell_ext hb1 b1
  replace E := E.trans hb1
  replace hc := hc.ext E
  clear hb1
  cases v0 with
  | false =>
    go_wp2
    go_ret2
    have hno : ¬ MailsOk l := fun h => Bool.noConfusion (Hv0.out.2 h)
    exact RetSB.mk (L := []) rfl ⟨by simp [hno], by simp, fun _ h => absurd h hno, fun _ => rfl⟩ (World.ownsRow_nil _ _ _ _) E
  | true =>
    have hok := Hv0.out.1 rfl
    go_wp2
    have hcd : Rd 2 encMail w1.drew a l := hc
    have b0d : w1.drew.cell? ⟨w.heap.size, 0, none⟩ = some (.int .i64 m.kind) := b0
    have b1d : w1.drew.cell? ⟨w.heap.size, 1, none⟩ = some (.string m.text) := b1
    refine wp_region_v 4 (V := fun i v wv => match i with
      | 0 => v = .slice a l.length cap
      | 1 => wv.ownsRow w.heap.size 27 2 v l.length (l.flatMap encMail)
      | 2 => v = .agg #[.int .i64 m.kind, .string m.text]
      | 3 => ∃ g, v = .slice (some ⟨g, 0, none⟩) 1 1 ∧ Rd 2 encMail wv (some ⟨g, 0, none⟩) [m]
      | _ => True) rfl (by decide) (by kernel_rfl) (by kernel_rfl) (by kernel_rfl) ?_ ?_ ?_
    · intro i v w2 w3 h hE
      match i with
      | 0 => exact h
      | 1 => exact ownsRow_ext h hE
      | 2 => exact h
      | 3 => obtain ⟨g, h1, h2⟩ := h; exact ⟨g, h1, h2.ext hE⟩
      | (n + 4) => trivial
    · intro i o hi ho vs w2 hvl hE hd
      have hc2 := hcd.ext hE
      have c0 := cell_ext hE b0d
      have c1 := cell_ext hE b1d
      have hsz : w.heap.size ≤ w2.heap.size := Nat.le_trans E.size hE.size
      match vs, hvl with
      | [x0, x1, x2, x3], _ =>
      rcases (show i = 0 ∨ i = 1 ∨ i = 2 ∨ i = 3 by omega) with rfl | rfl | rfl | rfl
      all_goals
        simp only [List.getElem?_cons_zero, List.getElem?_cons_succ, Option.some.injEq] at ho
        subst ho
        simp [Waits, Region.binds] at hd
        simp [putAll, Act.put, hd]
      · go_wp2
        exact ⟨rfl, _, rfl, rfl, Ext.refl _⟩
      · go_wp2_with (go_at_call 35; refine (cloneMail_any a cap l _ hl hc2).mono ?_; rintro e w3 ⟨v3, rfl, hown, hb3⟩)
        exact ⟨rfl, _, rfl, ownsRow_base hown hsz, hb3⟩
      · go_wp2
        exact ⟨rfl, _, rfl, rfl, Ext.refl _⟩
      · go_wp2
        exact ⟨rfl, _, rfl, ⟨_, rfl, rd_lit_new [m] encMail_len rfl⟩, (Ext.refl _).alloc _⟩
    · intro vs w2 hvl hE hV
      match vs, hvl with
      | [x0, x1, x2, x3], _ =>
      have h0 := hV 0 (by omega); have h1 := hV 1 (by omega); have h2 := hV 2 (by omega); obtain ⟨g, h3, rdm⟩ := hV 3 (by omega)
      simp at h0 h1 h2 h3
      subst h0 h2 h3
      clear hV
      simp only [putAll, Act.put, List.take_succ_cons, List.take_zero, List.drop_succ_cons, List.drop_zero]
      simp
      have E2 : Ext w w2 := E.drew.trans hE
      go_wp2_with (at_builtin; refine wpList_append_rd rfl _ _ 23 rfl w.heap.size 27 _ 2 _ Try.underlying23 infoMail rfl (by decide) encMail_len encMail_one _ l.length l rfl h1 rfl _ 1 1 [m] rfl rfl rdm (by omega) (by omega) E2.size ?_)
      intro v' w3 hown hg
      have hown2 : w3.ownsRow w.heap.size 27 2 v' (l ++ [m]).length ((l ++ [m]).flatMap encMail) := by simpa using hown
      have E3 : Ext w w3 := E2.grown hg (fun k h => (h1.lt k h).1)
      have hc3 : Rd 2 encMail w3 a l := hc0.ext E3
      clear hown hg h1 rdm hE E2 E b0 b1 b0d b1d hcd hc
      obtain ⟨L, hL⟩ : ∃ L, L = l ++ [m] := ⟨_, rfl⟩
      rw [← hL] at hown2
      have hLl : L.length ≤ 1048577 := by rw [hL]; simp; omega
      have HL := Lib.hid hL
      clear hL
      obtain ⟨a2, c2, rfl, rd2⟩ := rd_of_owns encMail_len hown2 rfl
      go_wp2_with fail
      (with_reducible refine (implMailsValid _ _ L _ (by omega) rd2).mono ?_)
      rintro e w4 ⟨v4, rfl, hv4, hb4⟩
      have Hv4 := Lib.hid hv4
      clear hv4 rd2
      cases v4 with
      | true =>
        have hok4 := Hv4.out.1 rfl
        rw [HL.out] at hok4
        go_wp2
        go_ret2
        exact RetSB.mk (L := L) rfl ⟨by simp [hok, hok4], fun _ => HL.out, by simp, fun h => absurd hok h⟩ (ownsRow_ext hown2 hb4) (E3.trans hb4)
      | false =>
        have hno4 : ¬ MailsOk (l ++ [m]) := fun h => Bool.noConfusion (Hv4.out.2 (by rw [HL.out]; exact h))
        have hsz : w.heap.size ≤ w4.heap.size := (E3.trans hb4).size
        go_wp2_with fail
        refine (cloneMail_any a cap l _ hl (hc3.ext hb4)).mono ?_
        rintro e w5 ⟨v5, rfl, hown5, hb5⟩
        go_wp2
        go_ret2
        exact RetSB.mk (L := l) rfl ⟨by simp [hno4], by simp, fun _ _ => rfl, fun h => absurd hok h⟩ (ownsRow_base hown5 hsz) ((E3.trans hb4).trans hb5)

set_option maxHeartbeats 1000000 in
theorem specPutMail (a : Option Addr) (cap : Nat) (l : List Mail) (m : Mail) (w : World) (hl : l.length ≤ 1048576) (hc : Rd 2 encMail w a l) :
    Calls Try.prog 17 #[.slice a l.length cap, .agg #[.int .i64 m.kind, .string m.text]] w (RetSB 27 2 encMail (PutR l m) w) := by
  have hc0 := hc
  go_enter Try.func17, Try.ntmps17
  go_wp2_with fail
  have E : Ext w _ := (Ext.refl w).alloc (.cells #[.int .i64 m.kind, .string m.text] 27)
  have b0 : (w.alloc (.cells #[.int .i64 m.kind, .string m.text] 27)).cell? ⟨w.heap.size, 0, none⟩ = some (.int .i64 m.kind) := by simp
  have b1 : (w.alloc (.cells #[.int .i64 m.kind, .string m.text] 27)).cell? ⟨w.heap.size, 1, none⟩ = some (.string m.text) := by simp
  refine (specMailsValid _ _ l _ (by omega) (hc.ext E)).mono ?_
  rintro e w1 ⟨v0, rfl, hv0, hb1⟩
  have Hv0 := Lib.hid hv0
  clear hv0
  replace b0 := cell_ext hb1 b0
  replace b1 := cell_ext hb1 b1
  replace E := E.trans hb1
  replace hc := hc.ext E
  clear hb1
  cases v0 with
  | false =>
    go_wp2
    go_ret2
    have hno : ¬ MailsOk l := fun h => Bool.noConfusion (Hv0.out.2 h)
    exact RetSB.mk (L := []) rfl ⟨by simp [hno], by simp, fun _ h => absurd h hno, fun _ => rfl⟩ (owns_lit_new [] encMail_len rfl rfl (by omega) E.size) (E.alloc _)
  | true =>
    have hok := Hv0.out.1 rfl
    go_wp2
    have hcd : Rd 2 encMail w1.drew a l := hc
    have b0d : w1.drew.cell? ⟨w.heap.size, 0, none⟩ = some (.int .i64 m.kind) := b0
    have b1d : w1.drew.cell? ⟨w.heap.size, 1, none⟩ = some (.string m.text) := b1
    refine wp_region_v 5 (V := fun i v wv => match i with
      | 0 => ∃ g, v = .slice (some ⟨g, 0, none⟩) 0 0 ∧ wv.heap[g]? = some (.cells #[] 27 (0, 0)) ∧ w.heap.size ≤ g
      | 1 => v = .slice a l.length cap
      | 2 => wv.ownsRow w.heap.size 27 2 v l.length (l.flatMap encMail)
      | 3 => v = .agg #[.int .i64 m.kind, .string m.text]
      | 4 => ∃ g, v = .slice (some ⟨g, 0, none⟩) 1 1 ∧ Rd 2 encMail wv (some ⟨g, 0, none⟩) [m]
      | _ => True) rfl (by decide) (by kernel_rfl) (by kernel_rfl) (by kernel_rfl) ?_ ?_ ?_
    · intro i v w2 w3 h hE
      match i with
      | 0 => obtain ⟨g, h1, h2, h3⟩ := h; exact ⟨g, h1, (hE.block g (Array.getElem?_eq_some_iff.1 h2).1).trans h2, h3⟩
      | 1 => exact h
      | 2 => exact ownsRow_ext h hE
      | 3 => exact h
      | 4 => obtain ⟨g, h1, h2⟩ := h; exact ⟨g, h1, h2.ext hE⟩
      | (n + 5) => trivial
    · intro i o hi ho vs w2 hvl hE hd
      have hc2 := hcd.ext hE
      have c0 := cell_ext hE b0d
      have c1 := cell_ext hE b1d
      have hsz : w.heap.size ≤ w2.heap.size := Nat.le_trans E.size hE.size
      match vs, hvl with
      | [x0, x1, x2, x3, x4], _ =>
      rcases (show i = 0 ∨ i = 1 ∨ i = 2 ∨ i = 3 ∨ i = 4 by omega) with rfl | rfl | rfl | rfl | rfl
      all_goals
        simp only [List.getElem?_cons_zero, List.getElem?_cons_succ, Option.some.injEq] at ho
        subst ho
        simp [Waits, Region.binds] at hd
      · simp [putAll, Act.put]
        go_wp2
        exact ⟨rfl, _, rfl, ⟨_, rfl, heap_alloc_new _ _, hsz⟩, (Ext.refl _).alloc _⟩
      · simp [putAll, Act.put]
        go_wp2
        exact ⟨rfl, _, rfl, rfl, Ext.refl _⟩
      · obtain ⟨⟨g, h1, h2, h3⟩, h4⟩ := hd
        subst h1 h4
        simp [putAll, Act.put]
        go_wp2_with (at_builtin; refine wpList_append_lit rfl _ _ 23 rfl w.heap.size 27 _ 2 _ Try.underlying23 infoMail rfl (by decide) encMail_len encMail_one g rfl h2 h3 a l.length cap l rfl rfl hc2 (by omega) (by omega) hsz ?_)
        intro v' w3 hown hE3
        go_wp2
        exact ⟨rfl, _, rfl, hown, hE3⟩
      · simp [putAll, Act.put]
        go_wp2
        exact ⟨rfl, _, rfl, rfl, Ext.refl _⟩
      · simp [putAll, Act.put, hd]
        go_wp2
        exact ⟨rfl, _, rfl, ⟨_, rfl, rd_lit_new [m] encMail_len rfl⟩, (Ext.refl _).alloc _⟩
    · intro vs w2 hvl hE hV
      match vs, hvl with
      | [x0, x1, x2, x3, x4], _ =>
      have h1 := hV 2 (by omega); obtain ⟨g, h3, rdm⟩ := hV 4 (by omega)
      simp at h1 h3
      subst h3
      clear hV
      simp only [putAll, Act.put, List.take_succ_cons, List.take_zero, List.drop_succ_cons, List.drop_zero]
      simp
      have E2 : Ext w w2 := E.drew.trans hE
      go_wp2_with (at_builtin; refine wpList_append_rd rfl _ _ 23 rfl w.heap.size 27 _ 2 _ Try.underlying23 infoMail rfl (by decide) encMail_len encMail_one _ l.length l rfl h1 rfl _ 1 1 [m] rfl rfl rdm (by omega) (by omega) E2.size ?_)
      intro v' w3 hown hg
      have hown2 : w3.ownsRow w.heap.size 27 2 v' (l ++ [m]).length ((l ++ [m]).flatMap encMail) := by simpa using hown
      have E3 : Ext w w3 := E2.grown hg (fun k h => (h1.lt k h).1)
      have hc3 : Rd 2 encMail w3 a l := hc0.ext E3
      clear hown hg h1 rdm hE E2 E b0 b1 b0d b1d hcd hc
      obtain ⟨L, hL⟩ : ∃ L, L = l ++ [m] := ⟨_, rfl⟩
      rw [← hL] at hown2
      have hLl : L.length ≤ 1048577 := by rw [hL]; simp; omega
      have HL := Lib.hid hL
      clear hL
      obtain ⟨a2, c2, rfl, rd2⟩ := rd_of_owns encMail_len hown2 rfl
      go_wp2_with fail
      (with_reducible refine (specMailsValid _ _ L _ (by omega) rd2).mono ?_)
      rintro e w4 ⟨v4, rfl, hv4, hb4⟩
      have Hv4 := Lib.hid hv4
      clear hv4 rd2
      cases v4 with
      | true =>
        have hok4 := Hv4.out.1 rfl
        rw [HL.out] at hok4
        go_wp2
        go_ret2
        exact RetSB.mk (L := L) rfl ⟨by simp [hok, hok4], fun _ => HL.out, by simp, fun h => absurd hok h⟩ (ownsRow_ext hown2 hb4) (E3.trans hb4)
      | false =>
        have hno4 : ¬ MailsOk (l ++ [m]) := fun h => Bool.noConfusion (Hv4.out.2 (by rw [HL.out]; exact h))
        have hsz : w.heap.size ≤ w4.heap.size := (E3.trans hb4).size
        go_wp2_with (at_builtin; refine wpList_append_lit rfl _ _ 23 rfl w.heap.size 27 _ 2 _ Try.underlying23 infoMail rfl (by decide) encMail_len encMail_one w4.heap.size rfl (heap_alloc_new _ _) hsz a l.length cap l rfl rfl ((hc3.ext hb4).ext ((Ext.refl _).alloc _)) (by omega) (by omega) (by simp; omega) ?_)
        intro v5 w5 hown5 hb5
        go_wp2
        go_ret2
        exact RetSB.mk (L := l) rfl ⟨by simp [hno4], by simp, fun _ _ => rfl, fun h => absurd hok h⟩ hown5 (((E3.trans hb4).alloc _).trans hb5)
end Go.Proofs.Ytlbnfnfaojjpaaa
