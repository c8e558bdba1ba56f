/- EndTimers: the contract of the reference's. No condition but that the list is shorter than 2^63. -/
import Derived.Test.YtgjadebohneioaaTimG
import Derived.Test.YtgjadebohneioaaOwnCap
namespace Go.Proofs.Ytgjadebohneioaa
open Go.RowKit

set_option maxRecDepth 10000 in
set_option maxHeartbeats 8000000 in
theorem specEndTimers (a : Option Addr) (cap : Nat) (l : List Tim) (now : Int) (w : World) (hl : l.length ≤ 9223372036854775807) (hc : Rd 3 encTim w a l) :
    Calls Try.prog 21 #[.slice a l.length cap, .int .i64 now] w fun e w' => ∃ u L v W, e = .returned (.tuple #[u, v]) ∧ EndsR l now L W ∧ Sep w w' [plRow 30 3 encTim u L, plRow 3 1 encInt1 v W] := by
  go_enter Try.func21, Try.ntmps21
  have S := Sep.start w
  replace S : Sep w (w.alloc (.cells #[] 3)) [plRow 3 1 encInt1 (.slice (some ⟨w.heap.size, 0, none⟩) 0 0) []] := S.lit0 (by simp) _ _ _
  go_wp2_with fail
  generalize (w.alloc (.cells #[] 3)) = w1 at *
  refine (specTimersValid _ _ l _ hl (hc.ext S.ext)).mono ?_
  rintro e w2 ⟨v0, rfl, hv0, hE⟩
  have Hv0 := Lib.hid hv0
  clear hv0
  replace S : Sep w w2 [plRow 3 1 encInt1 (.slice (some ⟨w.heap.size, 0, none⟩) 0 0) []] := S.step hE
  clear hE
  have bad : ¬ (TimsOk l ∧ 0 ≤ now ∧ now ≤ 100000) → Hid (EndsR l now [] []) := fun h => Lib.hid (.inl ⟨h, rfl, rfl⟩)
  cases v0 with
  | false =>
    have HR := bad (fun h => Bool.noConfusion (Hv0.out.2 h.1))
    clear bad
    replace S : Sep w (w2.alloc (.cells #[] 30)) [plRow 30 3 encTim (.slice (some ⟨w2.heap.size, 0, none⟩) 0 0) [], plRow 3 1 encInt1 (.slice (some ⟨w.heap.size, 0, none⟩) 0 0) []] := S.lit0 (by simp) _ _ _
    go_wp2
    go_ret2
    exact ⟨_, [], _, [], rfl, HR.out, S⟩
  | true =>
    have Hok := Lib.hid (Hv0.out.1 rfl)
    have hl8 : l.length ≤ 8 := Hok.out.2
    clear Hv0
    by_cases hkd : 0 ≤ now ∧ now ≤ 100000
    rotate_left
    · have HR := bad (fun h => hkd h.2)
      have ein := inB_false hkd
      clear bad
      replace S : Sep w (w2.alloc (.cells #[] 30)) [plRow 30 3 encTim (.slice (some ⟨w2.heap.size, 0, none⟩) 0 0) [], plRow 3 1 encInt1 (.slice (some ⟨w.heap.size, 0, none⟩) 0 0) []] := S.lit0 (by simp) _ _ _
      go_wp2_with (go_at_call 37; refine ((l1In_any _ _ _ _).mono (fun e w2 h => by rw [ein] at h; exact h)).mono ?_; rintro e w' ⟨rfl, rfl⟩)
      go_ret2
      exact ⟨_, [], _, [], rfl, HR.out, S⟩
    have ein := inB_iff.2 hkd
    have HOK : Hid (TimsOk l ∧ 0 ≤ now ∧ now ≤ 100000) := Lib.hid ⟨Hok.out, hkd⟩
    clear bad
    go_wp2_with (first | (go_at_call 37; refine ((l1In_any _ _ _ _).mono (fun e w2 h => by rw [ein] at h; exact h)).mono ?_; rintro e w' ⟨rfl, rfl⟩) | (at_builtin; refine Hid.out (?_ : Hid _)))
    unfold Hid
    refine (wpList_append_lit rfl _ _ 26 rfl w2.heap.size 30 _ 3 _ Try.underlying26 infoTim rfl (by decide) encTim_len encTim_one w2.heap.size rfl (heap_alloc_new _ _) (Nat.le_refl _) a l.length cap l rfl rfl ((hc.ext S.ext).ext ((Ext.refl _).alloc _)) (by omega) (by omega) ((Ext.refl w2).alloc _).size ?_)
    intro v3 w3 ho hE
    have T := Sep.of_owns (((Ext.refl w2).alloc (.cells #[] 30)).trans hE) ho
    obtain ⟨a3, c3, hv3, hk3, _, _⟩ := view_owns encTim_len ho
    subst hv3
    clear ho hE
    replace S : Sep w w3 [plRow 30 3 encTim (.slice a3 l.length c3) l, plRow 3 1 encInt1 (.slice (some ⟨w.heap.size, 0, none⟩) 0 0) []] := S.call T
    clear T
    go_wp2
    go_loopw [6, 7] (fun q o wr => ∃ (ao : Option Addr) (co : Nat) (O : List Tim) (aq : Option Addr) (cq : Nat) (E : List Int), o = .slice ao O.length co ∧ q = .slice aq E.length cq ∧ Run now l O E ∧ Sep w wr [plRow 30 3 encTim (.slice ao O.length co) O, plRow 3 1 encInt1 (.slice aq E.length cq) E]) (fun q _ _ => 40 - slen q)
    case atStart => exact ⟨a3, c3, l, some ⟨w.heap.size, 0, none⟩, 0, [], rfl, rfl, run_start Hok.out, S⟩
    case round =>
      clear S
      obtain ⟨ao, co, O, aq, cq, E, rfl, rfl, hR, S⟩ := hrel
      have HR := Lib.hid hR
      have hE40 := hR.1
      clear hR
      rcases Nat.eq_zero_or_pos O.length with h0 | hpos
      · obtain rfl := List.eq_nil_of_length_eq_zero h0
        clear h0
        have HF : Hid (EndsR l now [] E) := Lib.hid (.inr ⟨HOK.out, HR.out, run_end HR.out (.inl rfl)⟩)
        go_wp2
        go_ret2
        exact ⟨_, [], _, E, rfl, HF.out, S⟩
      · obtain ⟨t, p, off, hy, hpe, c0, c1, c2⟩ := atTim (S.rd 0 encTim_len rfl rfl) hpos
        subst hpe
        have HO : Hid (O = t :: O.drop 1) := Lib.hid (cons_drop1 hy)
        have i2 : (0 : Int) < (O.length : Int) := by omega
        simp only [Nat.zero_mul, Nat.add_zero] at c0 c1 c2
        clear hy
        by_cases hle : t.tm ≤ now
        · by_cases h40 : E.length < 40
          · have e40 : (E.length : Int) < 40 := by omega
            replace S : Sep w (wr.alloc (.cells #[.int .i64 t.tm, .int .i64 t.who, .int .i64 t.ag] 30)) [plBox wr.heap.size #[.int .i64 t.tm, .int .i64 t.who, .int .i64 t.ag] 30, plRow 30 3 encTim (.slice (some ⟨p, off, none⟩) O.length co) O, plRow 3 1 encInt1 (.slice aq E.length cq) E] := S.alloc_at (by simp) _ _
            go_upto_region 7 with fail
            generalize (wr.alloc (.cells #[.int .i64 t.tm, .int .i64 t.who, .int .i64 t.ag] 30)) = w6 at *
            have SA := S.alloc #[.int .i64 t.who] 3
            have rd1 : Rd 1 encInt1 ((w6).alloc (.cells #[.int .i64 t.who] 3)) (some ⟨(w6).heap.size, 0, none⟩) [t.who] := rd_lit_new [t.who] encInt1_len rfl
            obtain ⟨fbc0, fbf0⟩ : w6.cell? ⟨wr.heap.size, 0, none⟩ = some (.int .i64 t.tm) ∧ w6.frozen? ⟨wr.heap.size, 0, none⟩ = false := bx (S.box 0 rfl) 0 rfl
            obtain ⟨fbc1, fbf1⟩ : w6.cell? ⟨wr.heap.size, 1, none⟩ = some (.int .i64 t.who) ∧ w6.frozen? ⟨wr.heap.size, 1, none⟩ = false := bx (S.box 0 rfl) 1 rfl
            obtain ⟨fbc2, fbf2⟩ : w6.cell? ⟨wr.heap.size, 2, none⟩ = some (.int .i64 t.ag) ∧ w6.frozen? ⟨wr.heap.size, 2, none⟩ = false := bx (S.box 0 rfl) 2 rfl
            go_wp2_with (at_builtin; refine Hid.out (?_ : Hid _))
            unfold Hid
            refine wpList_append_b rfl _ _ 39 rfl w.heap.size 3 _ 1 _ Try.underlying39 infoInt rfl (by decide) encInt1_len encInt1_one _ E.length E rfl (SA.row (2 + 1) rfl) rfl (some ⟨(w6).heap.size, 0, none⟩) 1 1 [t.who] rfl rfl rd1 (by omega) (by omega) SA.chg.size ?_
            intro v7 w7 ho hgr hblk
            obtain ⟨G, hG⟩ : ∃ G, G = E ++ [t.who] := ⟨_, rfl⟩
            rw [← hG] at ho
            have HG := Lib.hid hG
            have hGl : G.length = E.length + 1 := by rw [hG]; simp
            have HGl := Lib.hid hGl
            have hG40 : G.length ≤ 40 := by omega
            clear hG hGl
            obtain ⟨a7, c7, hv7, hk7, _, _⟩ := view_owns encInt1_len ho
            subst hv7
            have SM := (SA.grow (2 + 1) rfl hgr ho hblk).drop 0
            clear fbc0 fbf0 fbc1 fbf1 fbc2 fbf2
            clear ho hgr hblk SA rd1 S
            have S7 := SM
            clear SM c0 c1 c2
            have S : Sep w w7 [plBox wr.heap.size #[.int .i64 t.tm, .int .i64 t.who, .int .i64 t.ag] 30, plRow 30 3 encTim (.slice (some ⟨p, off, none⟩) O.length co) O, plRow 3 1 encInt1 (.slice a7 G.length c7) G] := S7
            clear S7
            obtain ⟨r, hr⟩ : ∃ r, r = O.drop 1 := ⟨_, rfl⟩
            rw [← hr] at HO
            have hrl : r.length = O.length - 1 := by rw [hr]; simp
            have hrd := (S.rd 1 encTim_len rfl rfl).drop 1
            rw [← hr] at hrd
            clear hr
            have HRn : ∀ r', AgainR t r r' → Hid (Run now l r' G) := fun r' ha => Lib.hid (by
              have h := HR.out
              rw [HO.out] at h
              rw [HG.out]; exact run_step h h40 hle ha)
            have okt : okTim t := by have h := HR.out.2.1; rw [HO.out] at h; exact (tims_tail h).2.2
            have HOr : Hid (TimsOk r) := Lib.hid (by have h := HR.out.2.1; rw [HO.out] at h; exact (tims_tail h).1)
            have Hokt := Lib.hid okt
            obtain ⟨⟨t0, t1⟩, ⟨t2, t3⟩, t4, t5⟩ := okt
            have hr7 : r.length ≤ 7 := by have h := HR.out.2.1; rw [HO.out] at h; exact (tims_tail h).2.1
            have Hrl := Lib.hid hrl
            clear hrl
            have hcO : O.length ≤ co := owns_cap (S.row 1 rfl)
            have i1 : (1 : Int) ≤ (O.length : Int) := by omega
            have i3 : (1 : Int) ≤ (co : Int) := by omega
            have hrd2 := hrd.ext ((Ext.refl w7).alloc (.cells #[] 30))
            clear hrd
            by_cases hco : co = 1
            · have hr0 : r.length = 0 := by have := Hrl.out; omega
              have Hr0 : Hid (r = []) := Lib.hid (List.eq_nil_of_length_eq_zero hr0)
              have Hm : Hid (O.length - 1 = r.length) := Lib.hid Hrl.out.symm
              have Hm0 : Hid (0 = r.length) := Lib.hid hr0.symm
              clear hr0
              subst hco
              go_wp2_with (at_builtin; refine Hid.out (?_ : Hid _))
              unfold Hid
              refine (wpList_append_lit rfl _ _ 26 rfl w7.heap.size 30 _ 3 _ Try.underlying26 infoTim rfl (by decide) encTim_len encTim_one w7.heap.size rfl (heap_alloc_new _ _) (Nat.le_refl _) _ _ _ r rfl (by first | exact Hm.out | exact Hm0.out) (by rw [Hr0.out]; exact Rd.nil) (by have := Hm.out; omega) (by omega) ((Ext.refl w7).alloc _).size ?_)
              intro v8 w8 ho hE
              have T := Sep.of_owns (((Ext.refl w7).alloc (.cells #[] 30)).trans hE) ho
              obtain ⟨a8, c8, hv8, hk8, _, _⟩ := view_owns encTim_len ho
              subst hv8
              clear ho hE hrd2
              replace S : Sep w w8 [plRow 30 3 encTim (.slice a8 r.length c8) r, plBox wr.heap.size #[.int .i64 t.tm, .int .i64 t.who, .int .i64 t.ag] 30, plRow 30 3 encTim (.slice (some ⟨p, off, none⟩) O.length 1) O, plRow 3 1 encInt1 (.slice a7 G.length c7) G] := S.call T
              clear T
              replace S : Sep w w8 [plRow 30 3 encTim (.slice a8 r.length c8) r, plBox wr.heap.size #[.int .i64 t.tm, .int .i64 t.who, .int .i64 t.ag] 30, plRow 3 1 encInt1 (.slice a7 G.length c7) G] := S.drop 2
              by_cases hz : t.ag = 0
              · have HA := HRn r (.inr ⟨fun h => by omega, rfl⟩)
                have tz : ¬ 0 < t.ag := by omega
                clear HRn
                obtain ⟨fbc0, fbf0⟩ : w8.cell? ⟨wr.heap.size, 0, none⟩ = some (.int .i64 t.tm) ∧ w8.frozen? ⟨wr.heap.size, 0, none⟩ = false := bx (S.box 1 rfl) 0 rfl
                obtain ⟨fbc1, fbf1⟩ : w8.cell? ⟨wr.heap.size, 1, none⟩ = some (.int .i64 t.who) ∧ w8.frozen? ⟨wr.heap.size, 1, none⟩ = false := bx (S.box 1 rfl) 1 rfl
                obtain ⟨fbc2, fbf2⟩ : w8.cell? ⟨wr.heap.size, 2, none⟩ = some (.int .i64 t.ag) ∧ w8.frozen? ⟨wr.heap.size, 2, none⟩ = false := bx (S.box 1 rfl) 2 rfl
                clear hz
                go_wp2
                replace S : Sep w w8 [plRow 30 3 encTim (.slice a8 r.length c8) r, plRow 3 1 encInt1 (.slice a7 G.length c7) G] := S.drop 1
                go_roundw
                case rel => exact ⟨_, c8, r, a7, c7, G, rfl, rfl, HA.out, S⟩
                case measure => simp [slen]; have := HGl.out; omega
              · have tz : 0 < t.ag := by omega
                by_cases hs : t.tm + t.ag ≤ 100000
                · obtain ⟨fbc0, fbf0⟩ : w8.cell? ⟨wr.heap.size, 0, none⟩ = some (.int .i64 t.tm) ∧ w8.frozen? ⟨wr.heap.size, 0, none⟩ = false := bx (S.box 1 rfl) 0 rfl
                  obtain ⟨fbc1, fbf1⟩ : w8.cell? ⟨wr.heap.size, 1, none⟩ = some (.int .i64 t.who) ∧ w8.frozen? ⟨wr.heap.size, 1, none⟩ = false := bx (S.box 1 rfl) 1 rfl
                  obtain ⟨fbc2, fbf2⟩ : w8.cell? ⟨wr.heap.size, 2, none⟩ = some (.int .i64 t.ag) ∧ w8.frozen? ⟨wr.heap.size, 2, none⟩ = false := bx (S.box 1 rfl) 2 rfl
                  clear hz
                  go_wp2_with fail
                  refine (specSetTimer a8 c8 r ⟨t.tm + t.ag, t.who, t.ag⟩ w8 (by omega) hk8 (S.rd 0 encTim_len rfl rfl)).mono ?_
                  rintro e w9 ⟨u, M, ok, rfl, hM, U⟩
                  have hM2 := setTR_ok HOr.out hr7 (x := ⟨t.tm + t.ag, t.who, t.ag⟩) ⟨⟨by show 0 ≤ t.tm + t.ag; omega, hs⟩, Hokt.out.2⟩ hM
                  have HA := HRn M (.inl ⟨⟨tz, hs⟩, hM2⟩)
                  obtain ⟨aM, cM, hvM, hkM, _, _⟩ := view_owns encTim_len (U.row 0 rfl)
                  subst hvM
                  clear HRn hM hM2
                  clear fbc0 fbf0 fbc1 fbf1 fbc2 fbf2
                  replace S : Sep w w9 [plRow 30 3 encTim (.slice aM M.length cM) M, plRow 30 3 encTim (.slice a8 r.length c8) r, plBox wr.heap.size #[.int .i64 t.tm, .int .i64 t.who, .int .i64 t.ag] 30, plRow 3 1 encInt1 (.slice a7 G.length c7) G] := S.call U
                  clear U
                  replace S : Sep w w9 [plRow 30 3 encTim (.slice aM M.length cM) M, plBox wr.heap.size #[.int .i64 t.tm, .int .i64 t.who, .int .i64 t.ag] 30, plRow 3 1 encInt1 (.slice a7 G.length c7) G] := S.drop 1
                  replace S : Sep w w9 [plRow 30 3 encTim (.slice aM M.length cM) M, plRow 3 1 encInt1 (.slice a7 G.length c7) G] := S.drop 1
                  go_wp2
                  go_roundw
                  case rel => exact ⟨aM, cM, M, a7, c7, G, rfl, rfl, HA.out, S⟩
                  case measure => simp [slen]; have := HGl.out; omega
                · have HA := HRn r (.inr ⟨fun h => hs h.2, rfl⟩)
                  clear HRn
                  obtain ⟨fbc0, fbf0⟩ : w8.cell? ⟨wr.heap.size, 0, none⟩ = some (.int .i64 t.tm) ∧ w8.frozen? ⟨wr.heap.size, 0, none⟩ = false := bx (S.box 1 rfl) 0 rfl
                  obtain ⟨fbc1, fbf1⟩ : w8.cell? ⟨wr.heap.size, 1, none⟩ = some (.int .i64 t.who) ∧ w8.frozen? ⟨wr.heap.size, 1, none⟩ = false := bx (S.box 1 rfl) 1 rfl
                  obtain ⟨fbc2, fbf2⟩ : w8.cell? ⟨wr.heap.size, 2, none⟩ = some (.int .i64 t.ag) ∧ w8.frozen? ⟨wr.heap.size, 2, none⟩ = false := bx (S.box 1 rfl) 2 rfl
                  clear hz
                  go_wp2
                  replace S : Sep w w8 [plRow 30 3 encTim (.slice a8 r.length c8) r, plRow 3 1 encInt1 (.slice a7 G.length c7) G] := S.drop 1
                  go_roundw
                  case rel => exact ⟨_, c8, r, a7, c7, G, rfl, rfl, HA.out, S⟩
                  case measure => simp [slen]; have := HGl.out; omega
            · have Hm : Hid (O.length - 1 = r.length) := Lib.hid Hrl.out.symm
              have hco2 : ¬ (1 = co) := fun e => hco e.symm
              go_wp2_with (at_builtin; refine Hid.out (?_ : Hid _))
              unfold Hid
              refine (wpList_append_lit rfl _ _ 26 rfl w7.heap.size 30 _ 3 _ Try.underlying26 infoTim rfl (by decide) encTim_len encTim_one w7.heap.size rfl (heap_alloc_new _ _) (Nat.le_refl _) _ _ _ r rfl (by exact Hm.out) hrd2 (by have := Hm.out; omega) (by omega) ((Ext.refl w7).alloc _).size ?_)
              intro v8 w8 ho hE
              have T := Sep.of_owns (((Ext.refl w7).alloc (.cells #[] 30)).trans hE) ho
              obtain ⟨a8, c8, hv8, hk8, _, _⟩ := view_owns encTim_len ho
              subst hv8
              clear ho hE hrd2
              replace S : Sep w w8 [plRow 30 3 encTim (.slice a8 r.length c8) r, plBox wr.heap.size #[.int .i64 t.tm, .int .i64 t.who, .int .i64 t.ag] 30, plRow 30 3 encTim (.slice (some ⟨p, off, none⟩) O.length co) O, plRow 3 1 encInt1 (.slice a7 G.length c7) G] := S.call T
              clear T
              replace S : Sep w w8 [plRow 30 3 encTim (.slice a8 r.length c8) r, plBox wr.heap.size #[.int .i64 t.tm, .int .i64 t.who, .int .i64 t.ag] 30, plRow 3 1 encInt1 (.slice a7 G.length c7) G] := S.drop 2
              by_cases hz : t.ag = 0
              · have HA := HRn r (.inr ⟨fun h => by omega, rfl⟩)
                have tz : ¬ 0 < t.ag := by omega
                clear HRn
                obtain ⟨fbc0, fbf0⟩ : w8.cell? ⟨wr.heap.size, 0, none⟩ = some (.int .i64 t.tm) ∧ w8.frozen? ⟨wr.heap.size, 0, none⟩ = false := bx (S.box 1 rfl) 0 rfl
                obtain ⟨fbc1, fbf1⟩ : w8.cell? ⟨wr.heap.size, 1, none⟩ = some (.int .i64 t.who) ∧ w8.frozen? ⟨wr.heap.size, 1, none⟩ = false := bx (S.box 1 rfl) 1 rfl
                obtain ⟨fbc2, fbf2⟩ : w8.cell? ⟨wr.heap.size, 2, none⟩ = some (.int .i64 t.ag) ∧ w8.frozen? ⟨wr.heap.size, 2, none⟩ = false := bx (S.box 1 rfl) 2 rfl
                clear hz
                go_wp2
                replace S : Sep w w8 [plRow 30 3 encTim (.slice a8 r.length c8) r, plRow 3 1 encInt1 (.slice a7 G.length c7) G] := S.drop 1
                go_roundw
                case rel => exact ⟨_, c8, r, a7, c7, G, rfl, rfl, HA.out, S⟩
                case measure => simp [slen]; have := HGl.out; omega
              · have tz : 0 < t.ag := by omega
                by_cases hs : t.tm + t.ag ≤ 100000
                · obtain ⟨fbc0, fbf0⟩ : w8.cell? ⟨wr.heap.size, 0, none⟩ = some (.int .i64 t.tm) ∧ w8.frozen? ⟨wr.heap.size, 0, none⟩ = false := bx (S.box 1 rfl) 0 rfl
                  obtain ⟨fbc1, fbf1⟩ : w8.cell? ⟨wr.heap.size, 1, none⟩ = some (.int .i64 t.who) ∧ w8.frozen? ⟨wr.heap.size, 1, none⟩ = false := bx (S.box 1 rfl) 1 rfl
                  obtain ⟨fbc2, fbf2⟩ : w8.cell? ⟨wr.heap.size, 2, none⟩ = some (.int .i64 t.ag) ∧ w8.frozen? ⟨wr.heap.size, 2, none⟩ = false := bx (S.box 1 rfl) 2 rfl
                  clear hz
                  go_wp2_with fail
                  refine (specSetTimer a8 c8 r ⟨t.tm + t.ag, t.who, t.ag⟩ w8 (by omega) hk8 (S.rd 0 encTim_len rfl rfl)).mono ?_
                  rintro e w9 ⟨u, M, ok, rfl, hM, U⟩
                  have hM2 := setTR_ok HOr.out hr7 (x := ⟨t.tm + t.ag, t.who, t.ag⟩) ⟨⟨by show 0 ≤ t.tm + t.ag; omega, hs⟩, Hokt.out.2⟩ hM
                  have HA := HRn M (.inl ⟨⟨tz, hs⟩, hM2⟩)
                  obtain ⟨aM, cM, hvM, hkM, _, _⟩ := view_owns encTim_len (U.row 0 rfl)
                  subst hvM
                  clear HRn hM hM2
                  clear fbc0 fbf0 fbc1 fbf1 fbc2 fbf2
                  replace S : Sep w w9 [plRow 30 3 encTim (.slice aM M.length cM) M, plRow 30 3 encTim (.slice a8 r.length c8) r, plBox wr.heap.size #[.int .i64 t.tm, .int .i64 t.who, .int .i64 t.ag] 30, plRow 3 1 encInt1 (.slice a7 G.length c7) G] := S.call U
                  clear U
                  replace S : Sep w w9 [plRow 30 3 encTim (.slice aM M.length cM) M, plBox wr.heap.size #[.int .i64 t.tm, .int .i64 t.who, .int .i64 t.ag] 30, plRow 3 1 encInt1 (.slice a7 G.length c7) G] := S.drop 1
                  replace S : Sep w w9 [plRow 30 3 encTim (.slice aM M.length cM) M, plRow 3 1 encInt1 (.slice a7 G.length c7) G] := S.drop 1
                  go_wp2
                  go_roundw
                  case rel => exact ⟨aM, cM, M, a7, c7, G, rfl, rfl, HA.out, S⟩
                  case measure => simp [slen]; have := HGl.out; omega
                · have HA := HRn r (.inr ⟨fun h => hs h.2, rfl⟩)
                  clear HRn
                  obtain ⟨fbc0, fbf0⟩ : w8.cell? ⟨wr.heap.size, 0, none⟩ = some (.int .i64 t.tm) ∧ w8.frozen? ⟨wr.heap.size, 0, none⟩ = false := bx (S.box 1 rfl) 0 rfl
                  obtain ⟨fbc1, fbf1⟩ : w8.cell? ⟨wr.heap.size, 1, none⟩ = some (.int .i64 t.who) ∧ w8.frozen? ⟨wr.heap.size, 1, none⟩ = false := bx (S.box 1 rfl) 1 rfl
                  obtain ⟨fbc2, fbf2⟩ : w8.cell? ⟨wr.heap.size, 2, none⟩ = some (.int .i64 t.ag) ∧ w8.frozen? ⟨wr.heap.size, 2, none⟩ = false := bx (S.box 1 rfl) 2 rfl
                  clear hz
                  go_wp2
                  replace S : Sep w w8 [plRow 30 3 encTim (.slice a8 r.length c8) r, plRow 3 1 encInt1 (.slice a7 G.length c7) G] := S.drop 1
                  go_roundw
                  case rel => exact ⟨_, c8, r, a7, c7, G, rfl, rfl, HA.out, S⟩
                  case measure => simp [slen]; have := HGl.out; omega
          · have e40 : ¬ (E.length : Int) < 40 := by omega
            have HF : Hid (EndsR l now O E) := Lib.hid (.inr ⟨HOK.out, HR.out, run_end HR.out (.inr (.inr (by omega)))⟩)
            go_wp2
            go_ret2
            exact ⟨_, O, _, rfl, E, HF.out, S⟩
        · have HF : Hid (EndsR l now O E) := Lib.hid (.inr ⟨HOK.out, HR.out, run_end HR.out (.inr (.inl ⟨t, _, HO.out, by omega⟩))⟩)
          go_wp2
          go_ret2
          exact ⟨_, O, _, rfl, E, HF.out, S⟩
end Go.Proofs.Ytgjadebohneioaa
