/- FnSetTimer: the walk. Condition: the code is shorter than 2^63. -/
import Derived.Test.YtgjadebohneioaaDrawTm2
import Derived.Test.YtgjadebohneioaaTimP
import Derived.Test.YtgjadebohneioaaTimH
import Derived.Test.YtgjadebohneioaaSameI
import Derived.Test.YtgjadebohneioaaAlive
namespace Go.Proofs.Ytgjadebohneioaa
open Go.RowKit

theorem mem_take_succ {W : List Int} {k : Nat} {y z : Int} (hy : W[k]? = some y) : z ∈ W.take (k + 1) ↔ z ∈ W.take k ∨ y = z := by
  obtain ⟨hk, rfl⟩ := List.getElem?_eq_some_iff.1 hy
  rw [List.take_succ_eq_append_getElem hk, List.mem_append, List.mem_singleton]
  constructor
  · rintro (h | h)
    · exact .inl h
    · exact .inr h.symm
  · rintro (h | h)
    · exact .inl h
    · exact .inr h.symm

set_option maxRecDepth 10000 in
set_option maxHeartbeats 8000000 in
theorem fnSetTimer_any (ac : Option Addr) (capc : Nat) (code : List Int) (w : World) (hlc : code.length ≤ 9223372036854775807) (hcap : code.length ≤ capc) (hu : ∀ x ∈ code, 0 ≤ x ∧ x ≤ 255) (hcc : Rd 1 encU8 w ac code) :
    Calls Try.prog 4 #[.slice ac code.length capc] w (RetB True w) := by
  go_enter Try.func4, Try.ntmps4
  by_cases hbig : 1048576 < code.length
  · have hb : (1048576 : Int) < (code.length : Int) := by omega
    go_wp2
    go_ret
    exact RetB.mk true rfl (by simp) (Ext.refl _)
  have hb : (code.length : Int) ≤ 1048576 := by omega
  have S := Sep.start w
  go_wp2_with fail
  refine (drawSetTimer ac capc code w hlc hcap hu hcc).mono ?_
  rintro e w1 ⟨u, l, x, rfl, hl9, T⟩
  obtain ⟨a, cap, hv, hlcap, _, _⟩ := view_owns encTim_len (T.row 0 rfl)
  subst hv
  replace S : Sep w w1 [plRow 30 3 encTim (.slice a l.length cap) l] := S.call T
  clear T
  clear hb hbig
  replace S : Sep w (w1.alloc (.cells #[.int .i64 x.tm, .int .i64 x.who, .int .i64 x.ag] 30)) [plBox w1.heap.size #[.int .i64 x.tm, .int .i64 x.who, .int .i64 x.ag] 30, plRow 30 3 encTim (.slice a l.length cap) l] := S.alloc_at (by simp) _ _
  go_upto_region 4 with fail
  generalize (w1.alloc (.cells #[.int .i64 x.tm, .int .i64 x.who, .int .i64 x.ag] 30)) = w2 at *
  obtain ⟨tbc0, tbf0⟩ : w2.cell? ⟨w1.heap.size, 0, none⟩ = some (.int .i64 x.tm) ∧ w2.frozen? ⟨w1.heap.size, 0, none⟩ = false := bx (S.box 0 rfl) 0 rfl
  obtain ⟨tbc1, tbf1⟩ : w2.cell? ⟨w1.heap.size, 1, none⟩ = some (.int .i64 x.who) ∧ w2.frozen? ⟨w1.heap.size, 1, none⟩ = false := bx (S.box 0 rfl) 1 rfl
  obtain ⟨tbc2, tbf2⟩ : w2.cell? ⟨w1.heap.size, 2, none⟩ = some (.int .i64 x.ag) ∧ w2.frozen? ⟨w1.heap.size, 2, none⟩ = false := bx (S.box 0 rfl) 2 rfl
  go_wp2_with fail
  refine (implSetTimer a cap l x _ (by omega) (S.rd 1 encTim_len rfl rfl)).mono ?_
  rintro e w3 ⟨v3, X, ok, rfl, hR, T⟩
  obtain ⟨ax, cx, hv, hxcap, _, _⟩ := view_owns encTim_len (T.row 0 rfl)
  subst hv
  have HR := Lib.hid hR
  have hX8 := setTR_len hR
  clear hR
  clear tbc0 tbf0 tbc1 tbf1 tbc2 tbf2
  replace S : Sep w w3 [plRow 30 3 encTim (.slice ax X.length cx) X, plBox w1.heap.size #[.int .i64 x.tm, .int .i64 x.who, .int .i64 x.ag] 30, plRow 30 3 encTim (.slice a l.length cap) l] := S.call T
  clear T
  obtain ⟨tbc0, tbf0⟩ : w3.cell? ⟨w1.heap.size, 0, none⟩ = some (.int .i64 x.tm) ∧ w3.frozen? ⟨w1.heap.size, 0, none⟩ = false := bx (S.box 1 rfl) 0 rfl
  obtain ⟨tbc1, tbf1⟩ : w3.cell? ⟨w1.heap.size, 1, none⟩ = some (.int .i64 x.who) ∧ w3.frozen? ⟨w1.heap.size, 1, none⟩ = false := bx (S.box 1 rfl) 1 rfl
  obtain ⟨tbc2, tbf2⟩ : w3.cell? ⟨w1.heap.size, 2, none⟩ = some (.int .i64 x.ag) ∧ w3.frozen? ⟨w1.heap.size, 2, none⟩ = false := bx (S.box 1 rfl) 2 rfl
  go_wp2_with fail
  refine (specSetTimer a cap l x _ (by omega) hlcap (S.rd 2 encTim_len rfl rfl)).mono ?_
  rintro e w4 ⟨v4, Y, ok2, rfl, hR, T⟩
  obtain ⟨rfl, rfl⟩ := setTR_fun HR.out hR
  obtain ⟨ay, cy, hv, hycap, _, _⟩ := view_owns encTim_len (T.row 0 rfl)
  subst hv
  clear hR
  clear tbc0 tbf0 tbc1 tbf1 tbc2 tbf2
  replace S : Sep w w4 [plRow 30 3 encTim (.slice ay X.length cy) X, plRow 30 3 encTim (.slice ax X.length cx) X, plBox w1.heap.size #[.int .i64 x.tm, .int .i64 x.who, .int .i64 x.ag] 30, plRow 30 3 encTim (.slice a l.length cap) l] := S.call T
  clear T
  have hne : (ok != ok) = false := by simp
  obtain ⟨tbc0, tbf0⟩ : w4.cell? ⟨w1.heap.size, 0, none⟩ = some (.int .i64 x.tm) ∧ w4.frozen? ⟨w1.heap.size, 0, none⟩ = false := bx (S.box 2 rfl) 0 rfl
  obtain ⟨tbc1, tbf1⟩ : w4.cell? ⟨w1.heap.size, 1, none⟩ = some (.int .i64 x.who) ∧ w4.frozen? ⟨w1.heap.size, 1, none⟩ = false := bx (S.box 2 rfl) 1 rfl
  obtain ⟨tbc2, tbf2⟩ : w4.cell? ⟨w1.heap.size, 2, none⟩ = some (.int .i64 x.ag) ∧ w4.frozen? ⟨w1.heap.size, 2, none⟩ = false := bx (S.box 2 rfl) 2 rfl
  go_wp2_with fail
  refine (sameTims_any _ _ _ _ X X _ (by omega) (by omega) (S.rd 1 encTim_len rfl rfl) (S.rd 0 encTim_len rfl rfl)).mono ?_
  rintro e w5 ⟨q5, rfl, hq, hE⟩
  obtain rfl : q5 = true := hq.2 rfl
  clear hq
  clear tbc0 tbf0 tbc1 tbf1 tbc2 tbf2
  replace S : Sep w w5 [plRow 30 3 encTim (.slice ay X.length cy) X, plRow 30 3 encTim (.slice ax X.length cx) X, plBox w1.heap.size #[.int .i64 x.tm, .int .i64 x.who, .int .i64 x.ag] 30, plRow 30 3 encTim (.slice a l.length cap) l] := S.step hE
  clear hE
  cases ok with
  | false =>
    have HXl := Lib.hid (set_false HR.out)
    go_wp2_with fail
    refine (sameTims_any _ _ _ _ X l _ (by omega) (by omega) (S.rd 1 encTim_len rfl rfl) (S.rd 3 encTim_len rfl rfl)).mono ?_
    rintro e w6 ⟨q6, rfl, hq, hE⟩
    have Hq := Lib.hid hq
    clear hq
    replace S : Sep w w6 [plRow 30 3 encTim (.slice ay X.length cy) X, plRow 30 3 encTim (.slice ax X.length cx) X, plBox w1.heap.size #[.int .i64 x.tm, .int .i64 x.who, .int .i64 x.ag] 30, plRow 30 3 encTim (.slice a l.length cap) l] := S.step hE
    clear hE
    cases q6 with
    | true =>
      go_wp2_with fail
      refine (alive_any _).mono ?_
      rintro e w7 ⟨b3, rfl, hb3, hE⟩
      obtain rfl : b3 = true := hb3.2 trivial
      clear hb3
      replace S : Sep w w7 [plRow 30 3 encTim (.slice ay X.length cy) X, plRow 30 3 encTim (.slice ax X.length cx) X, plBox w1.heap.size #[.int .i64 x.tm, .int .i64 x.who, .int .i64 x.ag] 30, plRow 30 3 encTim (.slice a l.length cap) l] := S.step hE
      clear hE
      go_wp2
      go_ret
      exact RetB.mk true rfl (by simp) S.ext
    | false =>
      have hX0 : X = [] := HXl.out.resolve_left (fun h => Bool.noConfusion (Hq.out.2 h))
      subst hX0
      go_wp2_with fail
      refine (alive_any _).mono ?_
      rintro e w7 ⟨b3, rfl, hb3, hE⟩
      obtain rfl : b3 = true := hb3.2 trivial
      clear hb3
      replace S : Sep w w7 [plRow 30 3 encTim (.slice ay ([] : List Tim).length cy) ([] : List Tim), plRow 30 3 encTim (.slice ax ([] : List Tim).length cx) ([] : List Tim), plBox w1.heap.size #[.int .i64 x.tm, .int .i64 x.who, .int .i64 x.ag] 30, plRow 30 3 encTim (.slice a l.length cap) l] := S.step hE
      clear hE
      go_wp2
      go_ret
      exact RetB.mk true rfl (by simp) S.ext
  | true =>
    clear hne
    obtain ⟨tbc0, tbf0⟩ : w5.cell? ⟨w1.heap.size, 0, none⟩ = some (.int .i64 x.tm) ∧ w5.frozen? ⟨w1.heap.size, 0, none⟩ = false := bx (S.box 2 rfl) 0 rfl
    obtain ⟨tbc1, tbf1⟩ : w5.cell? ⟨w1.heap.size, 1, none⟩ = some (.int .i64 x.who) ∧ w5.frozen? ⟨w1.heap.size, 1, none⟩ = false := bx (S.box 2 rfl) 1 rfl
    obtain ⟨tbc2, tbf2⟩ : w5.cell? ⟨w1.heap.size, 2, none⟩ = some (.int .i64 x.ag) ∧ w5.frozen? ⟨w1.heap.size, 2, none⟩ = false := bx (S.box 2 rfl) 2 rfl
    go_wp2_with fail
    refine (implEndTimers ax cx X x.tm _ (by omega) (S.rd 1 encTim_len rfl rfl)).mono ?_
    rintro e w8 ⟨v7, M, v8, W, rfl, hR, T⟩
    have HLaw := Lib.hid (set_law HR.out hR)
    have HXok : Hid (TimsOk X) := Lib.hid HLaw.out.1
    have HXl : Hid (X.length = l.length + 1) := Lib.hid HLaw.out.2.1
    have hW40 := (endsR_len hR).2
    obtain ⟨am, cm, hv, _, _, _⟩ := view_owns encTim_len (T.row 0 rfl)
    subst hv
    obtain ⟨av, cv, hv, _, _, _⟩ := view_owns encInt1_len (T.row 1 rfl)
    subst hv
    clear hR
    clear tbc0 tbf0 tbc1 tbf1 tbc2 tbf2
    replace S : Sep w w8 [plRow 30 3 encTim (.slice am M.length cm) M, plRow 3 1 encInt1 (.slice av W.length cv) W, plRow 30 3 encTim (.slice ay X.length cy) X, plRow 30 3 encTim (.slice ax X.length cx) X, plBox w1.heap.size #[.int .i64 x.tm, .int .i64 x.who, .int .i64 x.ag] 30, plRow 30 3 encTim (.slice a l.length cap) l] := S.call T
    clear T
    go_wp2
    go_loopw [11, 12] (fun f i wr => ∃ (k : Nat) (b : Bool), k ≤ W.length ∧ i = .int .i64 k ∧ f = .bool b ∧ (b = true ↔ x.who ∈ W.take k) ∧ Ext w8 wr) (fun _ i _ => W.length - (intOf i).toNat)
    case atStart => exact ⟨0, false, Nat.zero_le _, rfl, rfl, by simp, Ext.refl _⟩
    case round =>
      obtain ⟨k, b, hk, rfl, rfl, hbm, hb⟩ := hrel
      have Hbm := Lib.hid hbm
      have hb0 := hb
      clear hbm
      replace S : Sep w wr [plRow 30 3 encTim (.slice am M.length cm) M, plRow 3 1 encInt1 (.slice av W.length cv) W, plRow 30 3 encTim (.slice ay X.length cy) X, plRow 30 3 encTim (.slice ax X.length cx) X, plBox w1.heap.size #[.int .i64 x.tm, .int .i64 x.who, .int .i64 x.ag] 30, plRow 30 3 encTim (.slice a l.length cap) l] := S.step hb
      clear hb
      by_cases hlt : k < W.length
      · obtain ⟨y, p, off, hy, hpe, c0⟩ := atInt (S.rd 1 encInt1_len rfl rfl) hlt
        subst hpe
        have HM := Lib.hid (mem_take_succ (z := x.who) hy)
        have i1 : (k : Int) < (W.length : Int) := by omega
        have i0 : (0 : Int) ≤ (k : Int) := by omega
        clear hy
        obtain ⟨tbc0, tbf0⟩ : wr.cell? ⟨w1.heap.size, 0, none⟩ = some (.int .i64 x.tm) ∧ wr.frozen? ⟨w1.heap.size, 0, none⟩ = false := bx (S.box 4 rfl) 0 rfl
        obtain ⟨tbc1, tbf1⟩ : wr.cell? ⟨w1.heap.size, 1, none⟩ = some (.int .i64 x.who) ∧ wr.frozen? ⟨w1.heap.size, 1, none⟩ = false := bx (S.box 4 rfl) 1 rfl
        obtain ⟨tbc2, tbf2⟩ : wr.cell? ⟨w1.heap.size, 2, none⟩ = some (.int .i64 x.ag) ∧ wr.frozen? ⟨w1.heap.size, 2, none⟩ = false := bx (S.box 4 rfl) 2 rfl
        cases b with
        | true =>
          have HN : Hid (true = true ↔ x.who ∈ W.take (k + 1)) := Lib.hid ⟨fun _ => HM.out.2 (.inl (Hbm.out.1 rfl)), fun _ => rfl⟩
          go_wp2
          go_quiet (fail)
          go_wp2
          go_roundw
          case rel => exact ⟨k + 1, true, by omega, by go_num, rfl, (by simpa using HN.out), hb0.drewN _⟩
          case measure => simp [intOf]; omega
        | false =>
          by_cases hyx : y = x.who
          · have HN : Hid (true = true ↔ x.who ∈ W.take (k + 1)) := Lib.hid ⟨fun _ => HM.out.2 (.inr hyx), fun _ => rfl⟩
            have te : (y == x.who) = true := by simpa using hyx
            clear hyx
            go_wp2
            go_quiet (fail)
            go_wp2
            go_roundw
            case rel => exact ⟨k + 1, true, by omega, by go_num, rfl, (by simpa using HN.out), hb0.drewN _⟩
            case measure => simp [intOf]; omega
          · have HN : Hid (false = true ↔ x.who ∈ W.take (k + 1)) := Lib.hid ⟨fun h => Bool.noConfusion h, fun h => absurd (HM.out.1 h) (fun h => h.elim (fun h => Bool.noConfusion (Hbm.out.2 h)) hyx)⟩
            have te : (y == x.who) = false := by simpa using hyx
            clear hyx
            go_wp2
            go_quiet (fail)
            go_wp2
            go_roundw
            case rel => exact ⟨k + 1, false, by omega, by go_num, rfl, (by simpa using HN.out), hb0.drewN _⟩
            case measure => simp [intOf]; omega
      · obtain rfl : k = W.length := by omega
        have hni : ¬ (W.length : Int) < (W.length : Int) := by omega
        have HF : Hid (b = true ∨ W.length = 40) := Lib.hid (by
          have h := Hbm.out
          rw [List.take_length] at h
          exact HLaw.out.2.2.imp h.2 id)
        have hxe : ((X.length : Int) == (l.length : Int) + 1) = true := by have := HXl.out; simp; omega
        have hw1 : IntKind.i64.wrap ((l.length : Int) + 1) = (l.length : Int) + 1 := IntWalk.i64_in _ (by omega)
        go_wp2_with fail
        refine (implTimersValid ax cx X _ (by omega) (S.rd 3 encTim_len rfl rfl)).mono ?_
        rintro e w9 ⟨v1, rfl, hv1, hE⟩
        obtain rfl : v1 = true := hv1.2 HXok.out
        clear hv1
        replace S : Sep w w9 [plRow 30 3 encTim (.slice am M.length cm) M, plRow 3 1 encInt1 (.slice av W.length cv) W, plRow 30 3 encTim (.slice ay X.length cy) X, plRow 30 3 encTim (.slice ax X.length cx) X, plBox w1.heap.size #[.int .i64 x.tm, .int .i64 x.who, .int .i64 x.ag] 30, plRow 30 3 encTim (.slice a l.length cap) l] := S.step hE
        clear hE
        cases b with
        | true =>
          go_wp2
          go_ret
          exact RetB.mk true rfl (by simp) S.ext
        | false =>
          have h40 : ((W.length : Int) == 40) = true := by have := HF.out.resolve_left (by simp); simp; omega
          go_wp2
          go_ret
          exact RetB.mk true rfl (by simp) S.ext
end Go.Proofs.Ytgjadebohneioaa
