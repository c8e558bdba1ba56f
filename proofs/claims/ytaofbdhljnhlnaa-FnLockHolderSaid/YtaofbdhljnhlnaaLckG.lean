/- FreeBytes: contracts of the program's and the reference's. Condition: lists of at most 2^20. -/
import Derived.Test.YtaofbdhljnhlnaaLckF
namespace Go.Proofs.Ytaofbdhljnhlnaa
open Go.RowKit

def FT (f t : Int) : Prop := (1 ≤ t ∧ t ≤ 40) ∧ 0 ≤ f ∧ f ≤ t - 1
def FreeR (l : List Lck) (who f t : Int) (L : List Lck) (ok : Bool) : Prop :=
  (¬ (LocksOk l ∧ FT f t) → L = [] ∧ ok = false) ∧ (LocksOk l ∧ FT f t → ((freeL l who f t).length ≤ 10 → L = freeL l who f t ∧ ok = true) ∧ (¬ (freeL l who f t).length ≤ 10 → L = l ∧ ok = false))
theorem freeR_fun {l : List Lck} {who f t : Int} {L L' : List Lck} {ok ok' : Bool} (h : FreeR l who f t L ok) (h' : FreeR l who f t L' ok') : L = L' ∧ ok = ok' := by
  by_cases hv : LocksOk l ∧ FT f t
  · by_cases hs : (freeL l who f t).length ≤ 10
    · exact ⟨((h.2 hv).1 hs).1.trans ((h'.2 hv).1 hs).1.symm, ((h.2 hv).1 hs).2.trans ((h'.2 hv).1 hs).2.symm⟩
    · exact ⟨((h.2 hv).2 hs).1.trans ((h'.2 hv).2 hs).1.symm, ((h.2 hv).2 hs).2.trans ((h'.2 hv).2 hs).2.symm⟩
  · exact ⟨(h.1 hv).1.trans (h'.1 hv).1.symm, (h.1 hv).2.trans (h'.1 hv).2.symm⟩
theorem freeR_len {l : List Lck} {who f t : Int} {L : List Lck} {ok : Bool} (h : FreeR l who f t L ok) (hl : l.length ≤ 1048576) : L.length ≤ 1048576 := by
  by_cases hv : LocksOk l ∧ FT f t
  · by_cases hs : (freeL l who f t).length ≤ 10
    · rw [((h.2 hv).1 hs).1]; omega
    · rw [((h.2 hv).2 hs).1]; exact hl
  · rw [(h.1 hv).1]; simp
theorem freeR_no {l : List Lck} {who f t : Int} (h : ¬ (LocksOk l ∧ FT f t)) : FreeR l who f t [] false := ⟨fun _ => ⟨rfl, rfl⟩, fun hv => absurd hv h⟩
theorem freeR_yes {l : List Lck} {who f t : Int} (h : LocksOk l ∧ FT f t) (hs : (freeL l who f t).length ≤ 10) : FreeR l who f t (freeL l who f t) true := ⟨fun hn => absurd h hn, fun _ => ⟨fun _ => ⟨rfl, rfl⟩, fun hn => absurd hs hn⟩⟩
theorem freeR_full {l : List Lck} {who f t : Int} (h : LocksOk l ∧ FT f t) (hs : ¬ (freeL l who f t).length ≤ 10) : FreeR l who f t l false := ⟨fun hn => absurd h hn, fun _ => ⟨fun hn => absurd hn hs, fun _ => ⟨rfl, rfl⟩⟩⟩

set_option maxHeartbeats 4000000 in
theorem specFreeBytes (a : Option Addr) (cap : Nat) (l : List Lck) (who f t : Int) (w : World) (hl : l.length ≤ 1048576) (hc : Rd 4 encLck w a l) :
    Calls Try.prog 22 #[.slice a l.length cap, .int .i64 who, .int .i64 f, .int .i64 t] w (RetSB 32 4 encLck (FreeR l who f t) w) := by
  go_enter Try.func22, Try.ntmps22
  go_wp2_with fail
  refine (specLocksValid _ _ l _ (by omega) hc).mono ?_
  rintro e w1 ⟨v0, rfl, hv0, E⟩
  have Hv0 := Lib.hid hv0
  clear hv0
  cases v0 with
  | false =>
    have Hno := Lib.hid (freeR_no (l := l) (who := who) (f := f) (t := t) (fun h => Bool.noConfusion (Hv0.out.2 h.1)))
    clear Hv0
    go_wp2_with (go_at_call 31; refine (l1In_any _ _ _ _).mono ?_; rintro e w' ⟨rfl, rfl⟩)
    go_ret2
    exact RetSB.mk (L := []) rfl Hno.out (owns_lit_new [] encLck_len rfl rfl (by omega) E.size) (E.alloc _)
  | true =>
    have Hok := Lib.hid (Hv0.out.1 rfl)
    clear Hv0
    by_cases ht : 1 ≤ t ∧ t ≤ 40
    · have et := inB_iff.2 ht
      have hw : IntKind.i64.wrap (t - 1) = t - 1 := IntWalk.i64_in _ (by omega)
      by_cases hf : 0 ≤ f ∧ f ≤ t - 1
      · have ef := inB_iff.2 hf
        have Hft := Lib.hid (And.intro Hok.out (And.intro ht hf))
        clear ht hf
        go_wp2_with (go_at_call 31; refine (l1In_any _ _ _ _).mono ?_; rintro e w' ⟨rfl, rfl⟩)
        refine (specFree a cap l who f t w1 hl (hc.ext E)).mono ?_
        rintro e w2 ⟨v2, rfl, hown, hb2⟩
        have E2 := E.trans hb2
        replace hown := ownsRow_base hown E.size
        clear hb2
        have hfl := freeL_le who f t l
        by_cases hs : (freeL l who f t).length ≤ 10
        · have Hj := Lib.hid (freeR_yes Hft.out hs)
          obtain ⟨L, hL⟩ : ∃ L, L = freeL l who f t := ⟨_, rfl⟩
          rw [← hL] at hown hs Hj hfl
          clear hL
          obtain ⟨a3, c3, rfl, _⟩ := rd_of_owns encLck_len hown rfl
          have hs1 : (L.length : Int) ≤ 10 := by omega
          go_wp2
          go_ret2
          exact RetSB.mk (L := L) rfl Hj.out hown E2
        · have Hj := Lib.hid (freeR_full Hft.out hs)
          obtain ⟨L, hL⟩ : ∃ L, L = freeL l who f t := ⟨_, rfl⟩
          rw [← hL] at hown hs hfl
          clear hL
          obtain ⟨a3, c3, rfl, _⟩ := rd_of_owns encLck_len hown rfl
          have hs1 : (10 : Int) < (L.length : Int) := by omega
          go_wp2_with (at_builtin; refine wpList_append_lit rfl _ _ 25 rfl w.heap.size 32 _ 4 _ Try.underlying25 infoLck rfl (by decide) encLck_len encLck_one w2.heap.size rfl (heap_alloc_new _ _) E2.size a l.length cap l rfl rfl ((hc.ext E2).ext ((Ext.refl _).alloc _)) (by omega) (by omega) (by have := E2.size; simp; omega) ?_)
          intro v' w3 hown2 hE3
          go_wp2
          go_ret2
          exact RetSB.mk (L := l) rfl Hj.out hown2 ((E2.alloc _).trans hE3)
      · have ef := inB_false hf
        have Hno := Lib.hid (freeR_no (l := l) (who := who) (f := f) (t := t) (fun h => hf h.2.2))
        clear hf ht
        go_wp2_with (go_at_call 31; refine (l1In_any _ _ _ _).mono ?_; rintro e w' ⟨rfl, rfl⟩)
        go_ret2
        exact RetSB.mk (L := []) rfl Hno.out (owns_lit_new [] encLck_len rfl rfl (by omega) E.size) (E.alloc _)
    · have et := inB_false ht
      have Hno := Lib.hid (freeR_no (l := l) (who := who) (f := f) (t := t) (fun h => ht h.2.1))
      clear ht
      go_wp2_with (go_at_call 31; refine (l1In_any _ _ _ _).mono ?_; rintro e w' ⟨rfl, rfl⟩)
      go_ret2
      exact RetSB.mk (L := []) rfl Hno.out (owns_lit_new [] encLck_len rfl rfl (by omega) E.size) (E.alloc _)

set_option maxHeartbeats 4000000 in
theorem implFreeBytes (a : Option Addr) (cap : Nat) (l : List Lck) (who f t : Int) (w : World) (hl : l.length ≤ 1048576) (hcap : l.length ≤ cap) (hc : Rd 4 encLck w a l) :
    Calls Try.prog 23 #[.slice a l.length cap, .int .i64 who, .int .i64 f, .int .i64 t] w (RetSB 32 4 encLck (FreeR l who f t) w) := by
  go_enter Try.func23, Try.ntmps23
  go_wp2_with fail
  refine (implLocksValid _ _ l _ (by omega) hcap hc).mono ?_
  rintro e w1 ⟨v0, rfl, hv0, E⟩
  have Hv0 := Lib.hid hv0
  clear hv0
  cases v0 with
  | false =>
    have Hno := Lib.hid (freeR_no (l := l) (who := who) (f := f) (t := t) (fun h => Bool.noConfusion (Hv0.out.2 h.1)))
    clear Hv0
    go_wp2_with (go_at_call 44; refine (within_any _ _ _ _).mono ?_; rintro e w' ⟨rfl, rfl⟩)
    go_ret2
    exact RetSB.mk (L := []) rfl Hno.out (World.ownsRow_nil _ _ _ _) E
  | true =>
    have Hok := Lib.hid (Hv0.out.1 rfl)
    clear Hv0
    by_cases ht : 1 ≤ t ∧ t ≤ 40
    · have et := inB_iff.2 ht
      have hw : IntKind.i64.wrap (t - 1) = t - 1 := IntWalk.i64_in _ (by omega)
      by_cases hf : 0 ≤ f ∧ f ≤ t - 1
      · have ef := inB_iff.2 hf
        have Hft := Lib.hid (And.intro Hok.out (And.intro ht hf))
        clear ht hf
        go_wp2_with (go_at_call 44; refine (within_any _ _ _ _).mono ?_; rintro e w' ⟨rfl, rfl⟩)
        refine (implFree a cap l who f t w1 hl (hc.ext E)).mono ?_
        rintro e w2 ⟨v2, rfl, hown, hb2⟩
        have E2 := E.trans hb2
        replace hown := ownsRow_base hown E.size
        clear hb2
        have hfl := freeL_le who f t l
        by_cases hs : (freeL l who f t).length ≤ 10
        · have Hj := Lib.hid (freeR_yes Hft.out hs)
          obtain ⟨L, hL⟩ : ∃ L, L = freeL l who f t := ⟨_, rfl⟩
          rw [← hL] at hown hs Hj hfl
          clear hL
          obtain ⟨a3, c3, rfl, _⟩ := rd_of_owns encLck_len hown rfl
          have hs1 : (L.length : Int) ≤ 10 := by omega
          go_wp2
          go_ret2
          exact RetSB.mk (L := L) rfl Hj.out hown E2
        · have Hj := Lib.hid (freeR_full Hft.out hs)
          obtain ⟨L, hL⟩ : ∃ L, L = freeL l who f t := ⟨_, rfl⟩
          rw [← hL] at hown hs hfl
          clear hL
          obtain ⟨a3, c3, rfl, _⟩ := rd_of_owns encLck_len hown rfl
          have hs1 : (10 : Int) < (L.length : Int) := by omega
          go_wp2_with fail
          refine (cloneLck_any a cap l _ hl (hc.ext E2)).mono ?_
          rintro e w3 ⟨v3, rfl, hown3, hb3⟩
          go_wp2
          go_ret2
          exact RetSB.mk (L := l) rfl Hj.out (ownsRow_base hown3 E2.size) (E2.trans hb3)
      · have ef := inB_false hf
        have Hno := Lib.hid (freeR_no (l := l) (who := who) (f := f) (t := t) (fun h => hf h.2.2))
        clear hf ht
        go_wp2_with (go_at_call 44; refine (within_any _ _ _ _).mono ?_; rintro e w' ⟨rfl, rfl⟩)
        go_ret2
        exact RetSB.mk (L := []) rfl Hno.out (World.ownsRow_nil _ _ _ _) E
    · have et := inB_false ht
      have Hno := Lib.hid (freeR_no (l := l) (who := who) (f := f) (t := t) (fun h => ht h.2.1))
      clear ht
      go_wp2_with (go_at_call 44; refine (within_any _ _ _ _).mono ?_; rintro e w' ⟨rfl, rfl⟩)
      go_ret2
      exact RetSB.mk (L := []) rfl Hno.out (World.ownsRow_nil _ _ _ _) E

end Go.Proofs.Ytaofbdhljnhlnaa
