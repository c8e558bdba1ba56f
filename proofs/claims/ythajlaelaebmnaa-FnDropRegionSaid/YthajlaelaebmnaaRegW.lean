/- SetRegion and DropRegion of the program and of the reference: contracts. Condition: lists of at most 2^20. -/
import Derived.Test.YthajlaelaebmnaaRegU
import Derived.Test.YthajlaelaebmnaaRegT
namespace Go.Proofs.Ythajlaelaebmnaa
open Go.RowKit

def SetR (P : Prop) (l S L : List Reg) (ok : Bool) : Prop :=
  (¬ P → L = [] ∧ ok = false) ∧ (P → (S.length ≤ 8 → L = S ∧ ok = true) ∧ (¬ S.length ≤ 8 → L = l ∧ ok = false))
theorem setR_no {P : Prop} {l S : List Reg} (h : ¬ P) : SetR P l S [] false := ⟨fun _ => ⟨rfl, rfl⟩, fun hv => absurd hv h⟩
theorem setR_fun {P : Prop} {l S L L' : List Reg} {ok ok' : Bool} (h : SetR P l S L ok) (h' : SetR P l S L' ok') : L = L' ∧ ok = ok' := by
  by_cases hP : P
  · by_cases hs : S.length ≤ 8
    · obtain ⟨h1, h2⟩ := (h.2 hP).1 hs
      obtain ⟨h3, h4⟩ := (h'.2 hP).1 hs
      exact ⟨h1.trans h3.symm, h2.trans h4.symm⟩
    · obtain ⟨h1, h2⟩ := (h.2 hP).2 hs
      obtain ⟨h3, h4⟩ := (h'.2 hP).2 hs
      exact ⟨h1.trans h3.symm, h2.trans h4.symm⟩
  · obtain ⟨h1, h2⟩ := h.1 hP
    obtain ⟨h3, h4⟩ := h'.1 hP
    exact ⟨h1.trans h3.symm, h2.trans h4.symm⟩
theorem setR_le {P : Prop} {l S L : List Reg} {ok : Bool} {n : Nat} (h : SetR P l S L ok) (hn : 8 ≤ n) (hl : l.length ≤ n) : L.length ≤ n := by
  by_cases hP : P
  · by_cases hs : S.length ≤ 8
    · rw [((h.2 hP).1 hs).1]; omega
    · rw [((h.2 hP).2 hs).1]; exact hl
  · rw [(h.1 hP).1]; simp
theorem mix_set (l : List Reg) (f t r : Int) : mixP (rightsL l) f r t = rightsS l ⟨f, t, r⟩ := by
  funext p
  simp only [mixP, rightsS]
  by_cases h : f ≤ p ∧ p < t
  · rw [if_pos h, if_pos (inB_iff.2 (by omega))]
  · rw [if_neg h, if_neg (by rw [inB_iff]; omega)]
def Put8 (l S L : List Reg) (ok : Bool) : Prop := (S.length ≤ 8 → L = S ∧ ok = true) ∧ (¬ S.length ≤ 8 → L = l ∧ ok = false)

set_option maxHeartbeats 4000000 in
theorem setPages_any (a : Option Addr) (cap : Nat) (l : List Reg) (f0 t0 : Nat) (r : Int) (w : World) (hl : l.length ≤ 1048576) (hb : ∀ x ∈ l, 0 ≤ x.f ∧ x.f < x.t ∧ x.t ≤ 64) (hft : f0 < t0) (ht64 : t0 ≤ 64) (hc : Rd 3 encReg w a l) :
    Calls Try.prog 41 #[.slice a l.length cap, .int .i64 f0, .int .i64 t0, .int .i64 r] w fun e w' => ∃ u L ok, e = .returned (.tuple #[u, .bool ok]) ∧ Put8 l (setRegs l ⟨f0, t0, r⟩) L ok ∧ Sep w w' [plRow 33 3 encReg u L] := by
  have HB := Lib.hid hb
  clear hb
  go_enter Try.func41, Try.ntmps41
  have S := Sep.start w
  go_wp2_with fail
  refine (pagesOf_any a cap l w hl HB.out hc).mono ?_
  rintro e w1 ⟨g, rfl, T⟩
  replace S : Sep w w1 [plRow 3 1 encInt1 (.slice (some ⟨g, 0, none⟩) 64 64) (pgs (rightsL l))] := S.call T
  clear T
  go_wp2
  go_loopw [11] (fun i wr => ∃ m : Nat, f0 ≤ m ∧ m ≤ t0 ∧ i = .int .i64 m ∧ Sep w wr [plRow 3 1 encInt1 (.slice (some ⟨g, 0, none⟩) 64 64) (pgs (mixP (rightsL l) f0 r m))]) (fun i _ => 64 - (intOf i).toNat)
  case atStart => exact ⟨f0, Nat.le_refl _, by omega, rfl, by rw [pgs_begin]; exact S⟩
  case round =>
    clear S
    obtain ⟨m, hm1, hm2, rfl, S⟩ := hrel
    by_cases hmt : m < t0
    · have hmi : (m : Int) < (t0 : Int) := by omega
      have hm64 : m < (pgs (mixP (rightsL l) f0 r m)).length := by rw [pgs_len]; omega
      have hrow := S.row 0 rfl
      have g0 : wr.cell? ⟨g, m, none⟩ = some (.int .i64 (pgs (mixP (rightsL l) f0 r m))[m]) := by
        have := owns_at encInt1_len (show wr.ownsRow _ _ 1 (.slice (some ⟨g, 0, none⟩) 64 64) 64 _ by have := hrow; rw [pgs_len] at this; exact this) m hm64 0 _ rfl
        simpa using this
      have fz0 : wr.frozen? ⟨g, m, none⟩ = false := hrow.frozenAt m
      have S2 := S.rowSet 0 encInt1_len rfl (by rw [pgs_len]) m 0 (.int .i64 r) r hm64 (by omega) rfl
      rw [pgs_set _ _ _ _ (by omega) (by omega), Nat.mul_one, Nat.add_zero] at S2
      generalize (pgs (mixP (rightsL l) f0 r m))[m] = old at *
      clear hrow
      have j0 : (m : Int) < 64 := by omega
      go_wp2
      go_roundw
      case rel => exact ⟨m + 1, by omega, by omega, by go_num, by push_cast; exact S2⟩
      case measure => simp [intOf]; omega
    · obtain rfl : m = t0 := by omega
      have hni : ¬ (m : Int) < (m : Int) := by omega
      rw [mix_set] at S
      go_wp2_with fail
      refine (regionsOf_any g 0 64 (rightsS l ⟨f0, m, r⟩) wr (S.rd 0 encInt1_len rfl (by rw [pgs_len]))).mono ?_
      rintro e w2 ⟨u, rfl, T⟩
      replace S : Sep w w2 [plRow 33 3 encReg u (regsK (rightsS l ⟨f0, m, r⟩) 64), plRow 3 1 encInt1 (.slice (some ⟨g, 0, none⟩) 64 64) (pgs (rightsS l ⟨f0, m, r⟩))] := S.call T
      clear T
      replace S : Sep w w2 [plRow 33 3 encReg u (regsK (rightsS l ⟨f0, m, r⟩) 64)] := S.drop 1
      have hle := regsK_le (rightsS l ⟨f0, m, r⟩) 64
      obtain ⟨L, hL⟩ : ∃ L, L = regsK (rightsS l ⟨f0, m, r⟩) 64 := ⟨_, rfl⟩
      rw [← hL] at S hle
      have HL : Hid (L = setRegs l ⟨f0, m, r⟩) := Lib.hid hL
      clear hL
      obtain ⟨a5, c5, hv5, hk5, _, _⟩ := view_owns encReg_len (S.row 0 rfl)
      subst hv5
      by_cases hs : L.length ≤ 8
      · have hs1 : (L.length : Int) ≤ 8 := by omega
        go_wp2
        go_ret2
        exact ⟨_, L, true, rfl, ⟨fun _ => ⟨HL.out, rfl⟩, fun h => absurd (by rw [← HL.out]; exact hs) h⟩, S⟩
      · have hs1 : (8 : Int) < (L.length : Int) := by omega
        go_wp2_with fail
        refine (cloneReg_any a cap l w2 hl (hc.ext S.ext)).mono ?_
        rintro e w3 ⟨u3, rfl, ho, hE⟩
        have T := Sep.of_owns hE ho
        clear ho hE
        replace S : Sep w w3 [plRow 33 3 encReg u3 l, plRow 33 3 encReg (.slice a5 L.length c5) L] := S.call T
        clear T
        replace S : Sep w w3 [plRow 33 3 encReg u3 l] := S.drop 1
        go_wp2
        go_ret2
        exact ⟨_, l, false, rfl, ⟨fun h => absurd (by rw [HL.out]; exact h) hs, fun _ => ⟨rfl, rfl⟩⟩, S⟩

set_option maxHeartbeats 4000000 in
theorem implSetRegion (a : Option Addr) (cap : Nat) (l : List Reg) (r : Reg) (w : World) (hl : l.length ≤ 1048576) (hc : Rd 3 encReg w a l) :
    Calls Try.prog 27 #[.slice a l.length cap, .agg #[.int .i64 r.f, .int .i64 r.t, .int .i64 r.r]] w fun e w' => ∃ u L ok, e = .returned (.tuple #[u, .bool ok]) ∧ SetR (RegsOk l ∧ okReg r) l (setRegs l r) L ok ∧ Sep w w' [plRow 33 3 encReg u L] := by
  obtain ⟨rf, rt, rr⟩ := r
  simp only
  go_enter Try.func27, Try.ntmps27
  have S := Sep.start w
  replace S : Sep w (w.alloc (.cells #[.int .i64 rf, .int .i64 rt, .int .i64 rr] 33)) [plBox w.heap.size #[.int .i64 rf, .int .i64 rt, .int .i64 rr] 33] := S.alloc_at (by simp) _ _
  go_wp2_with fail
  generalize (w.alloc (.cells #[.int .i64 rf, .int .i64 rt, .int .i64 rr] 33)) = w1 at *
  refine (implRegionsValid _ _ l _ (by omega) (hc.ext S.ext)).mono ?_
  rintro e w2 ⟨v0, rfl, hv0, hE⟩
  have Hv0 := Lib.hid hv0
  clear hv0
  replace S : Sep w w2 [plBox w.heap.size #[.int .i64 rf, .int .i64 rt, .int .i64 rr] 33] := S.step hE
  clear hE
  cases v0 with
  | false =>
    have HR := Lib.hid (setR_no (P := RegsOk l ∧ okReg ⟨rf, rt, rr⟩) (l := l) (S := setRegs l ⟨rf, rt, rr⟩) (fun h => Bool.noConfusion (Hv0.out.2 h.1)))
    replace S : Sep w w2 [] := S.drop 0
    go_wp2
    go_ret2
    exact ⟨_, [], false, rfl, HR.out, S.nil _ _ _⟩
  | true =>
    have Hok := Lib.hid (Hv0.out.1 rfl)
    clear Hv0
    obtain ⟨rbc0, rbf0⟩ : w2.cell? ⟨w.heap.size, 0, none⟩ = some (.int .i64 rf) ∧ w2.frozen? ⟨w.heap.size, 0, none⟩ = false := bx (S.box 0 rfl) 0 rfl
    obtain ⟨rbc1, rbf1⟩ : w2.cell? ⟨w.heap.size, 1, none⟩ = some (.int .i64 rt) ∧ w2.frozen? ⟨w.heap.size, 1, none⟩ = false := bx (S.box 0 rfl) 1 rfl
    obtain ⟨rbc2, rbf2⟩ : w2.cell? ⟨w.heap.size, 2, none⟩ = some (.int .i64 rr) ∧ w2.frozen? ⟨w.heap.size, 2, none⟩ = false := bx (S.box 0 rfl) 2 rfl
    go_wp2_with fail
    refine (regionValid_any ⟨rf, rt, rr⟩ _).mono ?_
    rintro e w3 ⟨v1, rfl, hv1, hE⟩
    have Hv1 := Lib.hid hv1
    clear hv1
    clear rbc0 rbf0 rbc1 rbf1 rbc2 rbf2
    replace S : Sep w w3 [plBox w.heap.size #[.int .i64 rf, .int .i64 rt, .int .i64 rr] 33] := S.step hE
    clear hE
    cases v1 with
    | false =>
      have HR := Lib.hid (setR_no (P := RegsOk l ∧ okReg ⟨rf, rt, rr⟩) (l := l) (S := setRegs l ⟨rf, rt, rr⟩) (fun h => Bool.noConfusion (Hv1.out.2 h.2)))
      replace S : Sep w w3 [] := S.drop 0
      go_wp2
      go_ret2
      exact ⟨_, [], false, rfl, HR.out, S.nil _ _ _⟩
    | true =>
      have hr := Hv1.out.1 rfl
      have Hr := Lib.hid hr
      clear Hv1
      obtain ⟨⟨h1, h2⟩, h3, h4⟩ := hr
      simp only at h1 h2 h3 h4
      obtain ⟨f0, rfl⟩ : ∃ f0 : Nat, rf = f0 := ⟨rf.toNat, by omega⟩
      obtain ⟨t0, rfl⟩ : ∃ t0 : Nat, rt = t0 := ⟨rt.toNat, by omega⟩
      have hft : f0 < t0 := by omega
      have ht64 : t0 ≤ 64 := by omega
      clear h1 h2 h3 h4
      obtain ⟨rbc0, rbf0⟩ : w3.cell? ⟨w.heap.size, 0, none⟩ = some (.int .i64 (f0 : Int)) ∧ w3.frozen? ⟨w.heap.size, 0, none⟩ = false := bx (S.box 0 rfl) 0 rfl
      obtain ⟨rbc1, rbf1⟩ : w3.cell? ⟨w.heap.size, 1, none⟩ = some (.int .i64 (t0 : Int)) ∧ w3.frozen? ⟨w.heap.size, 1, none⟩ = false := bx (S.box 0 rfl) 1 rfl
      obtain ⟨rbc2, rbf2⟩ : w3.cell? ⟨w.heap.size, 2, none⟩ = some (.int .i64 rr) ∧ w3.frozen? ⟨w.heap.size, 2, none⟩ = false := bx (S.box 0 rfl) 2 rfl
      go_wp2_with fail
      refine (setPages_any a cap l f0 t0 rr _ hl (regs_in Hok.out) hft ht64 (hc.ext S.ext)).mono ?_
      rintro e w4 ⟨u, L, ok, rfl, hR, T⟩
      have HR : Hid (SetR (RegsOk l ∧ okReg ⟨f0, t0, rr⟩) l (setRegs l ⟨f0, t0, rr⟩) L ok) := Lib.hid ⟨fun h => absurd ⟨Hok.out, Hr.out⟩ h, fun _ => hR⟩
      clear hR
      clear rbc0 rbf0 rbc1 rbf1 rbc2 rbf2
      replace S : Sep w w4 [plRow 33 3 encReg u L, plBox w.heap.size #[.int .i64 (f0 : Int), .int .i64 (t0 : Int), .int .i64 rr] 33] := S.call T
      clear T
      replace S : Sep w w4 [plRow 33 3 encReg u L] := S.drop 1
      go_wp2
      go_ret2
      exact ⟨_, L, ok, rfl, HR.out, S⟩
theorem specSetRegionS (a : Option Addr) (cap : Nat) (l : List Reg) (r : Reg) (w : World) (hl : l.length ≤ 1048576) (hc : Rd 3 encReg w a l) :
    Calls Try.prog 25 #[.slice a l.length cap, .agg #[.int .i64 r.f, .int .i64 r.t, .int .i64 r.r]] w fun e w' => ∃ u L ok, e = .returned (.tuple #[u, .bool ok]) ∧ SetR (RegsOk l ∧ okReg r) l (setRegs l r) L ok ∧ Sep w w' [plRow 33 3 encReg u L] :=
  (specSetRegion a cap l r w hl hc).mono (fun e w' ⟨v, L, ok, he, hR, ho, hE⟩ => ⟨v, L, ok, he, hR, Sep.of_owns hE ho⟩)

def DropOk (l : List Reg) (f t : Int) : Prop := RegsOk l ∧ (1 ≤ t ∧ t ≤ 64) ∧ (0 ≤ f ∧ f ≤ t - 1)

set_option maxHeartbeats 4000000 in
theorem implDropRegion (a : Option Addr) (cap : Nat) (l : List Reg) (f t : Int) (w : World) (hl : l.length ≤ 1048576) (hc : Rd 3 encReg w a l) :
    Calls Try.prog 22 #[.slice a l.length cap, .int .i64 f, .int .i64 t] w fun e w' => ∃ u L ok, e = .returned (.tuple #[u, .bool ok]) ∧ SetR (DropOk l f t) l (setRegs l ⟨f, t, -1⟩) L ok ∧ Sep w w' [plRow 33 3 encReg u L] := by
  go_enter Try.func22, Try.ntmps22
  have S := Sep.start w
  go_wp2_with fail
  refine (implRegionsValid _ _ l _ (by omega) hc).mono ?_
  rintro e w2 ⟨v0, rfl, hv0, hE⟩
  have Hv0 := Lib.hid hv0
  clear hv0
  replace S : Sep w w2 [] := S.step hE
  clear hE
  have bad : ¬ DropOk l f t → Hid (SetR (DropOk l f t) l (setRegs l ⟨f, t, -1⟩) [] false) := fun h => Lib.hid (setR_no h)
  cases v0 with
  | false =>
    have HR := bad (fun h => Bool.noConfusion (Hv0.out.2 h.1))
    clear bad
    go_wp2
    go_ret2
    exact ⟨_, [], false, rfl, HR.out, S.nil _ _ _⟩
  | true =>
    have Hok := Lib.hid (Hv0.out.1 rfl)
    clear Hv0
    by_cases ht : 1 ≤ t ∧ t ≤ 64
    · have e1 := inB_iff.2 ht
      have hw1 : IntKind.i64.wrap (t - 1) = t - 1 := IntWalk.i64_in _ (by omega)
      by_cases hf : 0 ≤ f ∧ f ≤ t - 1
      · have e2 := inB_iff.2 hf
        have HD : Hid (DropOk l f t) := Lib.hid ⟨Hok.out, ht, hf⟩
        obtain ⟨f0, rfl⟩ : ∃ f0 : Nat, f = f0 := ⟨f.toNat, by omega⟩
        obtain ⟨t0, rfl⟩ : ∃ t0 : Nat, t = t0 := ⟨t.toNat, by omega⟩
        have hft : f0 < t0 := by omega
        have ht64 : t0 ≤ 64 := by omega
        clear ht hf bad
        go_upto_region 3 with (go_at_call 37; refine ((within_any _ _ _ _).mono (fun e w2 h => by first | (rw [e1] at h; exact h) | (rw [e2] at h; exact h))).mono ?_; rintro e w' ⟨rfl, rfl⟩)
        clear e1 e2 hw1
        go_wp2_with fail
        refine (setPages_any a cap l f0 t0 (-1) _ hl (regs_in Hok.out) hft ht64 (hc.ext S.ext)).mono ?_
        rintro e w4 ⟨u, L, ok, rfl, hR, T⟩
        have HR : Hid (SetR (DropOk l f0 t0) l (setRegs l ⟨f0, t0, -1⟩) L ok) := Lib.hid ⟨fun h => absurd HD.out h, fun _ => hR⟩
        clear hR
        replace S : Sep w w4 [plRow 33 3 encReg u L] := S.call T
        clear T
        go_wp2
        go_ret2
        exact ⟨_, L, ok, rfl, HR.out, S⟩
      · have e2 := inB_false hf
        have HR := bad (fun h => hf h.2.2)
        clear ht hf bad
        go_wp2_with (go_at_call 37; refine ((within_any _ _ _ _).mono (fun e w2 h => by first | (rw [e1] at h; exact h) | (rw [e2] at h; exact h))).mono ?_; rintro e w' ⟨rfl, rfl⟩)
        go_ret2
        exact ⟨_, [], false, rfl, HR.out, S.nil _ _ _⟩
    · have e1 := inB_false ht
      have HR := bad (fun h => ht h.2.1)
      clear ht bad
      go_wp2_with (go_at_call 37; refine ((within_any _ _ _ _).mono (fun e w2 h => by rw [e1] at h; exact h)).mono ?_; rintro e w' ⟨rfl, rfl⟩)
      go_ret2
      exact ⟨_, [], false, rfl, HR.out, S.nil _ _ _⟩

set_option maxHeartbeats 4000000 in
theorem specDropRegion (a : Option Addr) (cap : Nat) (l : List Reg) (f t : Int) (w : World) (hl : l.length ≤ 1048576) (hc : Rd 3 encReg w a l) :
    Calls Try.prog 21 #[.slice a l.length cap, .int .i64 f, .int .i64 t] w fun e w' => ∃ u L ok, e = .returned (.tuple #[u, .bool ok]) ∧ SetR (DropOk l f t) l (setRegs l ⟨f, t, -1⟩) L ok ∧ Sep w w' [plRow 33 3 encReg u L] := by
  go_enter Try.func21, Try.ntmps21
  have S := Sep.start w
  go_wp2_with fail
  refine (specRegionsValid _ _ l _ (by omega) hc).mono ?_
  rintro e w2 ⟨v0, rfl, hv0, hE⟩
  have Hv0 := Lib.hid hv0
  clear hv0
  replace S : Sep w w2 [] := S.step hE
  clear hE
  have bad : ¬ DropOk l f t → Hid (SetR (DropOk l f t) l (setRegs l ⟨f, t, -1⟩) [] false) := fun h => Lib.hid (setR_no h)
  cases v0 with
  | false =>
    have HR := bad (fun h => Bool.noConfusion (Hv0.out.2 h.1))
    clear bad
    replace S : Sep w (w2.alloc (.cells #[] 33)) [plRow 33 3 encReg (.slice (some ⟨w2.heap.size, 0, none⟩) 0 0) []] := S.lit0 (by simp) _ _ _
    go_wp2
    go_ret2
    exact ⟨_, [], false, rfl, HR.out, S⟩
  | true =>
    have Hok := Lib.hid (Hv0.out.1 rfl)
    clear Hv0
    by_cases ht : 1 ≤ t ∧ t ≤ 64
    · have e1 := inB_iff.2 ht
      have hw1 : IntKind.i64.wrap (t - 1) = t - 1 := IntWalk.i64_in _ (by omega)
      by_cases hf : 0 ≤ f ∧ f ≤ t - 1
      · have e2 := inB_iff.2 hf
        have HD : Hid (DropOk l f t) := Lib.hid ⟨Hok.out, ht, hf⟩
        have hrt : 1 ≤ t ∧ t ≤ 64 := ht
        have Hrt := Lib.hid hrt
        clear ht hf bad hrt
        go_upto_region 3 with (go_at_call 31; refine ((l1In_any _ _ _ _).mono (fun e w2 h => by first | (rw [e1] at h; exact h) | (rw [e2] at h; exact h))).mono ?_; rintro e w' ⟨rfl, rfl⟩)
        clear e1 e2 hw1
        go_wp2_with fail
        refine (specL27 a cap l ⟨f, t, -1⟩ w2 hl (regs_t Hok.out) Hrt.out (hc.ext S.ext)).mono ?_
        rintro e w4 ⟨u, rfl, ho, hE⟩
        have T := Sep.of_owns hE ho
        clear ho hE
        replace S : Sep w w4 [plRow 33 3 encReg u (regsK (rightsS l ⟨f, t, -1⟩) 64)] := S.call T
        clear T
        have hle := regsK_le (rightsS l ⟨f, t, -1⟩) 64
        obtain ⟨L, hL⟩ : ∃ L, L = regsK (rightsS l ⟨f, t, -1⟩) 64 := ⟨_, rfl⟩
        rw [← hL] at S hle
        have HL : Hid (L = setRegs l ⟨f, t, -1⟩) := Lib.hid hL
        clear hL
        obtain ⟨a5, c5, hv5, hk5, _, _⟩ := view_owns encReg_len (S.row 0 rfl)
        subst hv5
        by_cases hs : L.length ≤ 8
        · have hs1 : (L.length : Int) ≤ 8 := by omega
          go_wp2
          go_ret2
          exact ⟨_, L, true, rfl, ⟨fun h => absurd HD.out h, fun _ => ⟨fun _ => ⟨HL.out, rfl⟩, fun h => absurd (by rw [← HL.out]; exact hs) h⟩⟩, S⟩
        · have hs1 : (8 : Int) < (L.length : Int) := by omega
          have E5 := S.ext
          replace S : Sep w w4 [] := S.drop 0
          go_wp2_with (at_builtin; refine wpList_append_lit rfl _ _ 25 rfl w.heap.size 33 _ 3 _ Try.underlying25 infoReg rfl (by decide) encReg_len encReg_one w4.heap.size rfl (heap_alloc_new _ _) E5.size a l.length cap l rfl rfl ((hc.ext E5).ext ((Ext.refl _).alloc _)) (by omega) (by omega) (by have := E5.size; simp; omega) ?_)
          intro v' w9 hown9 hE9
          have T := Sep.of_owns ((E5.alloc (.cells #[] 33)).trans hE9) hown9
          go_wp2
          go_ret2
          exact ⟨_, l, false, rfl, ⟨fun h => absurd HD.out h, fun _ => ⟨fun h => absurd (by rw [HL.out]; exact h) hs, fun _ => ⟨rfl, rfl⟩⟩⟩, T⟩
      · have e2 := inB_false hf
        have HR := bad (fun h => hf h.2.2)
        clear ht hf bad
        replace S : Sep w (w2.alloc (.cells #[] 33)) [plRow 33 3 encReg (.slice (some ⟨w2.heap.size, 0, none⟩) 0 0) []] := S.lit0 (by simp) _ _ _
        go_wp2_with (go_at_call 31; refine ((l1In_any _ _ _ _).mono (fun e w2 h => by first | (rw [e1] at h; exact h) | (rw [e2] at h; exact h))).mono ?_; rintro e w' ⟨rfl, rfl⟩)
        go_ret2
        exact ⟨_, [], false, rfl, HR.out, S⟩
    · have e1 := inB_false ht
      have HR := bad (fun h => ht h.2.1)
      clear ht bad
      replace S : Sep w (w2.alloc (.cells #[] 33)) [plRow 33 3 encReg (.slice (some ⟨w2.heap.size, 0, none⟩) 0 0) []] := S.lit0 (by simp) _ _ _
      go_wp2_with (go_at_call 31; refine ((l1In_any _ _ _ _).mono (fun e w2 h => by rw [e1] at h; exact h)).mono ?_; rintro e w' ⟨rfl, rfl⟩)
      go_ret2
      exact ⟨_, [], false, rfl, HR.out, S⟩
end Go.Proofs.Ythajlaelaebmnaa
