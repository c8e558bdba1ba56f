/- EndTimers: contracts of the program's and of the reference's. No condition but that the list is shorter than 2^63. -/
import Derived.Test.YtgjadebohneioaaTimE
import Derived.Test.YtgjadebohneioaaTimT
import Derived.Test.YtgjadebohneioaaTimDel
import Derived.Test.YtgjadebohneioaaIntS
namespace Go.Proofs.Ytgjadebohneioaa
open Go.RowKit

theorem cons_drop1 {l : List Tim} {t : Tim} (h : l[0]? = some t) : l = t :: l.drop 1 := by
  cases l with
  | nil => simp at h
  | cons a b => simp at h; simp [h]
theorem row_zero {w : World} {base e nf p off n cap m : Nat} {xs : List Value} (h : w.ownsRow base e nf (.slice (some ⟨p, off, none⟩) n cap) m xs) : off = 0 := by
  rcases h.2 with ⟨h1, _⟩ | ⟨g, cap', cur, h1, _⟩
  · simp at h1
  · simp at h1; exact h1.1.2
def slen : Value → Nat
  | .slice _ n _ => n
  | _ => 0

set_option maxHeartbeats 8000000 in
theorem implEndTimers (a : Option Addr) (cap : Nat) (l : List Tim) (now : Int) (w : World) (hl : l.length ≤ 9223372036854775807) (hc : Rd 3 encTim w a l) :
    Calls Try.prog 18 #[.slice a l.length cap, .int .i64 now] w fun e w' => ∃ u L v W, e = .returned (.tuple #[u, v]) ∧ EndsR l now L W ∧ Sep w w' [plRow 30 3 encTim u L, plRow 3 1 encInt1 v W] := by
  go_enter Try.func18, Try.ntmps18
  have S := Sep.start w
  go_wp2_with fail
  refine (implTimersValid _ _ l _ hl (hc.ext S.ext)).mono ?_
  rintro e w2 ⟨v0, rfl, hv0, hE⟩
  have Hv0 := Lib.hid hv0
  clear hv0
  replace S : Sep w w2 [] := S.step hE
  clear hE
  have bad : ¬ (TimsOk l ∧ 0 ≤ now ∧ now ≤ 100000) → Hid (EndsR l now [] []) := fun h => Lib.hid (.inl ⟨h, rfl, rfl⟩)
  cases v0 with
  | false =>
    have HR := bad (fun h => Bool.noConfusion (Hv0.out.2 h.1))
    clear bad
    go_wp2
    go_ret2
    exact ⟨_, [], _, [], rfl, HR.out, (S.nil _ _ _).nil _ _ _⟩
  | true =>
    have Hok := Lib.hid (Hv0.out.1 rfl)
    have hl8 : l.length ≤ 8 := Hok.out.2
    clear Hv0
    by_cases hkd : 0 ≤ now ∧ now ≤ 100000
    rotate_left
    · have HR := bad (fun h => hkd h.2)
      have ein := inB_false hkd
      clear bad
      go_wp2_with (go_at_call 34; refine ((isTime_any _ _).mono (fun e w2 h => by rw [ein] at h; exact h)).mono ?_; rintro e w' ⟨rfl, rfl⟩)
      go_ret2
      exact ⟨_, [], _, [], rfl, HR.out, (S.nil _ _ _).nil _ _ _⟩
    have ein := inB_iff.2 hkd
    have HOK : Hid (TimsOk l ∧ 0 ≤ now ∧ now ≤ 100000) := Lib.hid ⟨Hok.out, hkd⟩
    clear bad
    go_wp2_with (go_at_call 34; refine ((isTime_any _ _).mono (fun e w2 h => by rw [ein] at h; exact h)).mono ?_; rintro e w' ⟨rfl, rfl⟩)
    refine (cloneTim_any a cap l w2 (by omega) (hc.ext S.ext)).mono ?_
    rintro e w3 ⟨u3, rfl, ho, hE⟩
    obtain ⟨a3, c3, hv3, _, _, _⟩ := view_owns encTim_len ho
    subst hv3
    have T := Sep.of_owns hE ho
    clear ho hE
    replace S : Sep w w3 [plRow 30 3 encTim (.slice a3 l.length c3) l] := S.call T
    clear T
    replace S : Sep w (w3.alloc (.cells #[] 3)) [plRow 3 1 encInt1 (.slice (some ⟨w3.heap.size, 0, none⟩) 0 0) [], plRow 30 3 encTim (.slice a3 l.length c3) l] := S.lit0 (by simp) _ _ _
    go_wp2
    generalize (w3.alloc (.cells #[] 3)) = w4 at *
    go_loopw [6, 7] (fun o q wr => ∃ (ao : Option Addr) (co : Nat) (O : List Tim) (aq : Option Addr) (cq : Nat) (E : List Int), o = .slice ao O.length co ∧ q = .slice aq E.length cq ∧ Run now l O E ∧ Sep w wr [plRow 3 1 encInt1 (.slice aq E.length cq) E, plRow 30 3 encTim (.slice ao O.length co) O]) (fun _ q _ => 40 - slen q)
    case atStart => exact ⟨a3, c3, l, some ⟨w3.heap.size, 0, none⟩, 0, [], rfl, rfl, run_start Hok.out, S⟩
    case round =>
      clear S
      obtain ⟨ao, co, O, aq, cq, E, rfl, rfl, hR, S⟩ := hrel
      have HR := Lib.hid hR
      have hE40 := hR.1
      clear hR
      rcases Nat.eq_zero_or_pos O.length with h0 | hpos
      · obtain rfl := List.eq_nil_of_length_eq_zero h0
        clear h0
        have HF : Hid (EndsR l now [] E) := Lib.hid (.inr ⟨HOK.out, HR.out, run_end HR.out (.inl rfl)⟩)
        go_wp2
        go_ret2
        exact ⟨_, [], _, E, rfl, HF.out, SepM.perm S (.swap _ _ _)⟩
      · obtain ⟨t, p, off, hy, hpe, c0, c1, c2⟩ := atTim (S.rd 1 encTim_len rfl rfl) hpos
        subst hpe
        have HO : Hid (O = t :: O.drop 1) := Lib.hid (cons_drop1 hy)
        have i2 : (0 : Int) < (O.length : Int) := by omega
        obtain rfl : off = 0 := row_zero (S.row 1 rfl)
        simp only [Nat.zero_mul, Nat.add_zero, Nat.zero_add] at c0 c1 c2
        clear hy
        by_cases hle : t.tm ≤ now
        · by_cases h40 : E.length < 40
          · have e40 : (E.length : Int) < 40 := by omega
            replace S : Sep w (wr.alloc (.cells #[.int .i64 t.tm, .int .i64 t.who, .int .i64 t.ag] 30)) [plBox wr.heap.size #[.int .i64 t.tm, .int .i64 t.who, .int .i64 t.ag] 30, plRow 3 1 encInt1 (.slice aq E.length cq) E, plRow 30 3 encTim (.slice (some ⟨p, 0, none⟩) O.length co) O] := S.alloc_at (by simp) _ _
            go_wp2_with fail
            generalize (wr.alloc (.cells #[.int .i64 t.tm, .int .i64 t.who, .int .i64 t.ag] 30)) = w5 at *
            clear c0 c1 c2
            obtain ⟨r, hr⟩ : ∃ r, r = O.drop 1 := ⟨_, rfl⟩
            have hdel := delTim_any _ p co 0 1 O w5 (by omega) (by omega) (S.row 2 rfl)
            rw [show O.length - (1 - 0) = r.length by rw [hr]; simp, show O.take 0 ++ O.drop 1 = r by rw [hr]; rfl] at hdel
            rw [← hr] at HO
            clear hr
            refine hdel.mono ?_
            rintro e w6 ⟨rfl, ho6, hgr⟩
            clear hdel
            replace S : Sep w w6 [plBox wr.heap.size #[.int .i64 t.tm, .int .i64 t.who, .int .i64 t.ag] 30, plRow 3 1 encInt1 (.slice aq E.length cq) E, plRow 30 3 encTim (.slice (some ⟨p, 0, none⟩) r.length co) r] := S.grow 2 rfl hgr ho6 (fun b hb => .inl hb)
            have SA := S.alloc #[.int .i64 t.who] 3
            have rd1 : Rd 1 encInt1 (w6.alloc (.cells #[.int .i64 t.who] 3)) (some ⟨w6.heap.size, 0, none⟩) [t.who] := rd_lit_new [t.who] encInt1_len rfl
            obtain ⟨rbc0, rbf0⟩ : w6.cell? ⟨wr.heap.size, 0, none⟩ = some (.int .i64 t.tm) ∧ w6.frozen? ⟨wr.heap.size, 0, none⟩ = false := bx (S.box 0 rfl) 0 rfl
            obtain ⟨rbc1, rbf1⟩ : w6.cell? ⟨wr.heap.size, 1, none⟩ = some (.int .i64 t.who) ∧ w6.frozen? ⟨wr.heap.size, 1, none⟩ = false := bx (S.box 0 rfl) 1 rfl
            obtain ⟨rbc2, rbf2⟩ : w6.cell? ⟨wr.heap.size, 2, none⟩ = some (.int .i64 t.ag) ∧ w6.frozen? ⟨wr.heap.size, 2, none⟩ = false := bx (S.box 0 rfl) 2 rfl
            go_wp2_with (at_builtin; refine Hid.out (?_ : Hid _))
            unfold Hid
            refine wpList_append_b rfl _ _ 39 rfl w.heap.size 3 _ 1 _ Try.underlying39 infoInt rfl (by decide) encInt1_len encInt1_one _ E.length E rfl (SA.row (1 + 1) rfl) rfl (some ⟨w6.heap.size, 0, none⟩) 1 1 [t.who] rfl rfl rd1 (by omega) (by omega) SA.chg.size ?_
            intro v7 w7 ho hgr hblk
            obtain ⟨G, hG⟩ : ∃ G, G = E ++ [t.who] := ⟨_, rfl⟩
            rw [← hG] at ho
            have HG := Lib.hid hG
            have hGl : G.length = E.length + 1 := by rw [hG]; simp
            have HGl := Lib.hid hGl
            clear hG hGl
            obtain ⟨a7, c7, hv7, hk7, _, _⟩ := view_owns encInt1_len ho
            subst hv7
            have SM := (SA.grow (1 + 1) rfl hgr ho hblk).drop 0
            clear rbc0 rbf0 rbc1 rbf1 rbc2 rbf2
            clear ho hgr hblk SA rd1 S
            have S7 := SM
            clear SM
            have S : Sep w w7 [plBox wr.heap.size #[.int .i64 t.tm, .int .i64 t.who, .int .i64 t.ag] 30, plRow 3 1 encInt1 (.slice a7 G.length c7) G, plRow 30 3 encTim (.slice (some ⟨p, 0, none⟩) r.length co) r] := S7
            clear S7
            have HRn : ∀ r', AgainR t r r' → Hid (Run now l r' G) := fun r' ha => Lib.hid (by
              have h := HR.out
              rw [HO.out] at h
              rw [HG.out]; exact run_step h h40 hle ha)
            have okt : okTim t := by have h := HR.out.2.1; rw [HO.out] at h; exact (tims_tail h).2.2
            obtain ⟨⟨t0, t1⟩, ⟨t2, t3⟩, t4, t5⟩ := okt
            have hr7 : r.length ≤ 7 := by have h := HR.out.2.1; rw [HO.out] at h; exact (tims_tail h).2.1
            obtain ⟨rbc0, rbf0⟩ : w7.cell? ⟨wr.heap.size, 0, none⟩ = some (.int .i64 t.tm) ∧ w7.frozen? ⟨wr.heap.size, 0, none⟩ = false := bx (S.box 0 rfl) 0 rfl
            obtain ⟨rbc1, rbf1⟩ : w7.cell? ⟨wr.heap.size, 1, none⟩ = some (.int .i64 t.who) ∧ w7.frozen? ⟨wr.heap.size, 1, none⟩ = false := bx (S.box 0 rfl) 1 rfl
            obtain ⟨rbc2, rbf2⟩ : w7.cell? ⟨wr.heap.size, 2, none⟩ = some (.int .i64 t.ag) ∧ w7.frozen? ⟨wr.heap.size, 2, none⟩ = false := bx (S.box 0 rfl) 2 rfl
            go_upto_region 9 with fail
            clear rbc0 rbf0 rbc1 rbf1 rbc2 rbf2
            replace S : Sep w (w7.setCell ⟨wr.heap.size, 0, none⟩ (.int .i64 (t.tm + t.ag))) [plBox wr.heap.size #[.int .i64 (t.tm + t.ag), .int .i64 t.who, .int .i64 t.ag] 30, plRow 3 1 encInt1 (.slice a7 G.length c7) G, plRow 30 3 encTim (.slice (some ⟨p, 0, none⟩) r.length co) r] := S.set 0 rfl 0 _
            generalize (w7.setCell ⟨wr.heap.size, 0, none⟩ (.int .i64 (t.tm + t.ag))) = w8 at *
            by_cases hz : t.ag = 0
            · have HA := HRn r (.inr ⟨fun h => by omega, rfl⟩)
              have tz : (t.ag != 0) = false := by simp [hz]
              clear HRn
              obtain ⟨rbc0, rbf0⟩ : w8.cell? ⟨wr.heap.size, 0, none⟩ = some (.int .i64 (t.tm + t.ag)) ∧ w8.frozen? ⟨wr.heap.size, 0, none⟩ = false := bx (S.box 0 rfl) 0 rfl
              obtain ⟨rbc1, rbf1⟩ : w8.cell? ⟨wr.heap.size, 1, none⟩ = some (.int .i64 t.who) ∧ w8.frozen? ⟨wr.heap.size, 1, none⟩ = false := bx (S.box 0 rfl) 1 rfl
              obtain ⟨rbc2, rbf2⟩ : w8.cell? ⟨wr.heap.size, 2, none⟩ = some (.int .i64 t.ag) ∧ w8.frozen? ⟨wr.heap.size, 2, none⟩ = false := bx (S.box 0 rfl) 2 rfl
              clear hz
              go_wp2
              replace S : Sep w w8 [plRow 3 1 encInt1 (.slice a7 G.length c7) G, plRow 30 3 encTim (.slice (some ⟨p, 0, none⟩) r.length co) r] := S.drop 0
              go_roundw
              case rel => exact ⟨_, co, r, a7, c7, G, rfl, rfl, HA.out, S⟩
              case measure => simp [slen]; have := HGl.out; omega
            · have tz : (t.ag != 0) = true := by simp [hz]
              have Hp : Hid (0 < t.ag) := Lib.hid (by omega)
              by_cases hs : t.tm + t.ag ≤ 100000
              · have ein2 : inB (t.tm + t.ag) 0 100000 = true := inB_iff.2 ⟨by omega, hs⟩
                obtain ⟨rbc0, rbf0⟩ : w8.cell? ⟨wr.heap.size, 0, none⟩ = some (.int .i64 (t.tm + t.ag)) ∧ w8.frozen? ⟨wr.heap.size, 0, none⟩ = false := bx (S.box 0 rfl) 0 rfl
                obtain ⟨rbc1, rbf1⟩ : w8.cell? ⟨wr.heap.size, 1, none⟩ = some (.int .i64 t.who) ∧ w8.frozen? ⟨wr.heap.size, 1, none⟩ = false := bx (S.box 0 rfl) 1 rfl
                obtain ⟨rbc2, rbf2⟩ : w8.cell? ⟨wr.heap.size, 2, none⟩ = some (.int .i64 t.ag) ∧ w8.frozen? ⟨wr.heap.size, 2, none⟩ = false := bx (S.box 0 rfl) 2 rfl
                clear hz
                go_wp2_with (go_at_call 34; refine ((isTime_any _ _).mono (fun e w2 h => by rw [ein2] at h; exact h)).mono ?_; rintro e w' ⟨rfl, rfl⟩)
                clear rbc0 rbf0 rbc1 rbf1 rbc2 rbf2
                refine (setTimer_any _ co r ⟨t.tm + t.ag, t.who, t.ag⟩ w8 (by omega) (S.rd 2 encTim_len rfl rfl)).mono ?_
                rintro e w9 ⟨u, M, rfl, hM, U⟩
                have HA := HRn M (.inl ⟨⟨Hp.out, hs⟩, hM⟩)
                obtain ⟨aM, cM, hvM, hkM, _, _⟩ := view_owns encTim_len (U.row 0 rfl)
                subst hvM
                clear HRn hM
                replace S : Sep w w9 [plRow 30 3 encTim (.slice aM M.length cM) M, plBox wr.heap.size #[.int .i64 (t.tm + t.ag), .int .i64 t.who, .int .i64 t.ag] 30, plRow 3 1 encInt1 (.slice a7 G.length c7) G, plRow 30 3 encTim (.slice (some ⟨p, 0, none⟩) r.length co) r] := S.call U
                clear U
                replace S : Sep w w9 [plRow 30 3 encTim (.slice aM M.length cM) M, plBox wr.heap.size #[.int .i64 (t.tm + t.ag), .int .i64 t.who, .int .i64 t.ag] 30, plRow 3 1 encInt1 (.slice a7 G.length c7) G] := S.drop 3
                replace S : Sep w w9 [plRow 30 3 encTim (.slice aM M.length cM) M, plRow 3 1 encInt1 (.slice a7 G.length c7) G] := S.drop 1
                go_wp2
                go_roundw
                case rel => exact ⟨aM, cM, M, a7, c7, G, rfl, rfl, HA.out, S.perm (.swap _ _ _)⟩
                case measure => simp [slen]; have := HGl.out; omega
              · have ein2 : inB (t.tm + t.ag) 0 100000 = false := inB_false (fun h => hs h.2)
                have HA := HRn r (.inr ⟨fun h => hs h.2, rfl⟩)
                clear HRn
                obtain ⟨rbc0, rbf0⟩ : w8.cell? ⟨wr.heap.size, 0, none⟩ = some (.int .i64 (t.tm + t.ag)) ∧ w8.frozen? ⟨wr.heap.size, 0, none⟩ = false := bx (S.box 0 rfl) 0 rfl
                obtain ⟨rbc1, rbf1⟩ : w8.cell? ⟨wr.heap.size, 1, none⟩ = some (.int .i64 t.who) ∧ w8.frozen? ⟨wr.heap.size, 1, none⟩ = false := bx (S.box 0 rfl) 1 rfl
                obtain ⟨rbc2, rbf2⟩ : w8.cell? ⟨wr.heap.size, 2, none⟩ = some (.int .i64 t.ag) ∧ w8.frozen? ⟨wr.heap.size, 2, none⟩ = false := bx (S.box 0 rfl) 2 rfl
                clear hz
                go_wp2_with (go_at_call 34; refine ((isTime_any _ _).mono (fun e w2 h => by rw [ein2] at h; exact h)).mono ?_; rintro e w' ⟨rfl, rfl⟩)
                replace S : Sep w w8 [plRow 3 1 encInt1 (.slice a7 G.length c7) G, plRow 30 3 encTim (.slice (some ⟨p, 0, none⟩) r.length co) r] := S.drop 0
                go_roundw
                case rel => exact ⟨_, co, r, a7, c7, G, rfl, rfl, HA.out, S⟩
                case measure => simp [slen]; have := HGl.out; omega
          · have e40 : ¬ (E.length : Int) < 40 := by omega
            have HF : Hid (EndsR l now O E) := Lib.hid (.inr ⟨HOK.out, HR.out, run_end HR.out (.inr (.inr (by omega)))⟩)
            go_wp2
            go_ret2
            exact ⟨_, O, _, rfl, E, HF.out, SepM.perm S (.swap _ _ _)⟩
        · have HF : Hid (EndsR l now O E) := Lib.hid (.inr ⟨HOK.out, HR.out, run_end HR.out (.inr (.inl ⟨t, _, HO.out, by omega⟩))⟩)
          go_wp2
          go_ret2
          exact ⟨_, O, _, rfl, E, HF.out, SepM.perm S (.swap _ _ _)⟩

theorem setTR_ok {r : List Tim} {x : Tim} {L : List Tim} {ok : Bool} (hr : TimsOk r) (h7 : r.length ≤ 7) (hx : okTim x) (h : SetTR r x L ok) : InsR r x L := by
  rcases h with ⟨h, _⟩ | ⟨_, M, hM, ⟨_, rfl, _⟩ | ⟨h, _⟩⟩
  · exact absurd hr h
  · exact hM
  · exact absurd (tims_ins hr h7 hx hM) h
end Go.Proofs.Ytgjadebohneioaa
