/- SetRegion of the reference: its contract. Condition: lists of at most 2^20. -/
import Derived.Test.YthajlaelaebmnaaRegS
import Derived.Test.YthajlaelaebmnaaGuard
namespace Go.Proofs.Ythajlaelaebmnaa
open Go.RowKit

def setRegs (l : List Reg) (r : Reg) : List Reg := regsK (rightsS l r) 64
def SetRR (l : List Reg) (r : Reg) (L : List Reg) (ok : Bool) : Prop :=
  (¬ (RegsOk l ∧ okReg r) → L = [] ∧ ok = false) ∧ (RegsOk l ∧ okReg r → ((setRegs l r).length ≤ 8 → L = setRegs l r ∧ ok = true) ∧ (¬ (setRegs l r).length ≤ 8 → L = l ∧ ok = false))
theorem setRR_no {l : List Reg} {r : Reg} (h : ¬ (RegsOk l ∧ okReg r)) : SetRR l r [] false := ⟨fun _ => ⟨rfl, rfl⟩, fun hv => absurd hv h⟩
theorem setRR_yes {l : List Reg} {r : Reg} (h : RegsOk l ∧ okReg r) (hs : (setRegs l r).length ≤ 8) : SetRR l r (setRegs l r) true := ⟨fun hn => absurd h hn, fun _ => ⟨fun _ => ⟨rfl, rfl⟩, fun hn => absurd hs hn⟩⟩
theorem setRR_full {l : List Reg} {r : Reg} (h : RegsOk l ∧ okReg r) (hs : ¬ (setRegs l r).length ≤ 8) : SetRR l r l false := ⟨fun hn => absurd h hn, fun _ => ⟨fun hn => absurd hn hs, fun _ => ⟨rfl, rfl⟩⟩⟩
theorem setRR_le {l : List Reg} {r : Reg} {L : List Reg} {ok : Bool} (h : SetRR l r L ok) (hl : l.length ≤ 8) : L.length ≤ 8 := by
  by_cases hv : RegsOk l ∧ okReg r
  · by_cases hs : (setRegs l r).length ≤ 8
    · rw [((h.2 hv).1 hs).1]; exact hs
    · rw [((h.2 hv).2 hs).1]; exact hl
  · rw [(h.1 hv).1]; simp
theorem regs_one {r : Reg} : RegsOk [r] ↔ okReg r := by
  constructor
  · intro h
    exact (h.1 0 (by simp) r rfl).1
  · intro h
    refine ⟨fun k hk y hy => ?_, by simp⟩
    obtain rfl : k = 0 := by simpa using hk
    simp only [List.getElem?_cons_zero, Option.some.injEq] at hy
    subst hy
    exact ⟨h, fun m p hm => by omega⟩
theorem regs_t {l : List Reg} (h : RegsOk l) : ∀ x ∈ l, 1 ≤ x.t ∧ x.t ≤ 64 := fun x hx => by
  obtain ⟨k, hk, rfl⟩ := List.getElem_of_mem hx
  have := (h.1 k hk _ (List.getElem?_eq_getElem hk)).1
  unfold okReg at this
  omega

set_option maxHeartbeats 4000000 in
theorem specSetRegion (a : Option Addr) (cap : Nat) (l : List Reg) (r : Reg) (w : World) (hl : l.length ≤ 1048576) (hc : Rd 3 encReg w a l) :
    Calls Try.prog 25 #[.slice a l.length cap, .agg #[.int .i64 r.f, .int .i64 r.t, .int .i64 r.r]] w (RetSB 33 3 encReg (SetRR l r) w) := by
  have E := (Ext.refl w).alloc (.cells #[.int .i64 r.f, .int .i64 r.t, .int .i64 r.r] 33)
  have n0 := cell_new w #[.int .i64 r.f, .int .i64 r.t, .int .i64 r.r] 33 0 (.int .i64 r.f) rfl
  have n1 := cell_new w #[.int .i64 r.f, .int .i64 r.t, .int .i64 r.r] 33 1 (.int .i64 r.t) rfl
  have n2 := cell_new w #[.int .i64 r.f, .int .i64 r.t, .int .i64 r.r] 33 2 (.int .i64 r.r) rfl
  go_enter Try.func25, Try.ntmps25
  go_wp2_with fail
  generalize (w.alloc (.cells #[.int .i64 r.f, .int .i64 r.t, .int .i64 r.r] 33)) = w0 at *
  refine (specRegionsValid a cap l w0 (by omega) (hc.ext E)).mono ?_
  rintro e w1 ⟨v0, rfl, hv0, E1⟩
  have Hv0 := Lib.hid hv0
  replace E := E.trans E1
  replace n0 := cell_ext E1 n0
  replace n1 := cell_ext E1 n1
  replace n2 := cell_ext E1 n2
  clear hv0 E1
  cases v0 with
  | false =>
    have Hj := Lib.hid (setRR_no (l := l) (r := r) (fun h => Bool.noConfusion (Hv0.out.2 h.1)))
    clear Hv0
    go_wp2
    go_ret2
    exact RetSB.mk (L := []) rfl Hj.out (owns_lit_new [] encReg_len rfl rfl (by omega) E.size) (E.alloc _)
  | true =>
    have Hok := Lib.hid (Hv0.out.1 rfl)
    clear Hv0
    have E2 := (Ext.refl w1).alloc (.cells #[.int .i64 r.f, .int .i64 r.t, .int .i64 r.r] 33)
    have rdm : Rd 3 encReg (w1.alloc (.cells #[.int .i64 r.f, .int .i64 r.t, .int .i64 r.r] 33)) (some ⟨w1.heap.size, 0, none⟩) [r] := rd_lit_new [r] encReg_len rfl
    replace E := E.trans E2
    go_wp2_with fail
    replace n0 := cell_ext E2 n0
    replace n1 := cell_ext E2 n1
    replace n2 := cell_ext E2 n2
    generalize (w1.alloc (.cells #[.int .i64 r.f, .int .i64 r.t, .int .i64 r.r] 33)) = w2 at *
    refine (specRegionsValid _ _ [r] w2 (by simp) rdm).mono ?_
    rintro e w3 ⟨v1, rfl, hv1, E3⟩
    have Hv1 := Lib.hid (hv1.trans regs_one)
    replace E := E.trans E3
    replace n0 := cell_ext E3 n0
    replace n1 := cell_ext E3 n1
    replace n2 := cell_ext E3 n2
    clear hv1 E3 E2 rdm
    cases v1 with
    | false =>
      have Hj := Lib.hid (setRR_no (l := l) (r := r) (fun h => Bool.noConfusion (Hv1.out.2 h.2)))
      clear Hv1
      go_wp2
      go_ret2
      exact RetSB.mk (L := []) rfl Hj.out (owns_lit_new [] encReg_len rfl rfl (by omega) E.size) (E.alloc _)
    | true =>
      have Hr := Lib.hid (Hv1.out.1 rfl)
      clear Hv1
      have hrt : 1 ≤ r.t ∧ r.t ≤ 64 := by have h := Hr.out; unfold okReg at h; omega
      have Hrt := Lib.hid hrt
      clear hrt
      go_wp2_with fail
      refine (specL27 a cap l r w3 hl (regs_t Hok.out) Hrt.out (hc.ext E)).mono ?_
      rintro e w4 ⟨v4, rfl, hown, E4⟩
      have E5 := E.trans E4
      replace hown := ownsRow_base hown E.size
      have hle := regsK_le (rightsS l r) 64
      by_cases hs : (setRegs l r).length ≤ 8
      · have Hj := Lib.hid (setRR_yes ⟨Hok.out, Hr.out⟩ hs)
        unfold setRegs at hs Hj
        obtain ⟨L, hL⟩ : ∃ L, L = regsK (rightsS l r) 64 := ⟨_, rfl⟩
        rw [← hL] at hown hs Hj
        clear hL hle
        obtain ⟨a5, c5, rfl, _⟩ := rd_of_owns encReg_len hown rfl
        have hs1 : (L.length : Int) ≤ 8 := by omega
        go_wp2
        go_ret2
        exact RetSB.mk (L := L) rfl Hj.out hown E5
      · have Hj := Lib.hid (setRR_full ⟨Hok.out, Hr.out⟩ hs)
        unfold setRegs at hs
        obtain ⟨L, hL⟩ : ∃ L, L = regsK (rightsS l r) 64 := ⟨_, rfl⟩
        rw [← hL] at hown hs
        clear hL hle
        obtain ⟨a5, c5, rfl, _⟩ := rd_of_owns encReg_len hown rfl
        have hs1 : (8 : Int) < (L.length : Int) := by omega
        go_wp2_with (at_builtin; refine wpList_append_lit rfl _ _ 25 rfl w.heap.size 33 _ 3 _ Try.underlying25 infoReg rfl (by decide) encReg_len encReg_one w4.heap.size rfl (heap_alloc_new _ _) E5.size a l.length cap l rfl rfl ((hc.ext E5).ext ((Ext.refl _).alloc _)) (by omega) (by omega) (by have := E5.size; simp; omega) ?_)
        intro v' w9 hown9 hE9
        go_wp2
        go_ret2
        exact RetSB.mk (L := l) rfl Hj.out hown9 ((E5.alloc _).trans hE9)
end Go.Proofs.Ythajlaelaebmnaa
