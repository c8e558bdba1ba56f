/- Gates: how they are read, copied and compared; when they are valid; contracts of GateValid. Condition: queues shorter than 2^63. -/
import Derived.Test.YtcnghlmndahfpaaIntS
import Derived.Deep.Cut
namespace Go.Proofs.Ytcnghlmndahfpaa
open Go.RowKit

def gateV (f : Int) (a : Option Addr) (n cap : Nat) : Value := .agg #[.int .i64 f, .slice a n cap]

set_option maxHeartbeats 1000000 in
theorem szGate_any (f : Int) (a : Option Addr) (cap : Nat) (l : List Int) (left : Int) (w : World) (h0 : 0 ≤ left) (h1 : left ≤ 1048576) (hl : l.length ≤ 9223372036854775807) :
    Calls Try.prog 9 #[.agg #[.int .i64 f, .slice a l.length cap], .int .i64 left] w (RetSz left (fun _ => l.length ≤ 1048576) w) := by
  go_enter Try.func9, Try.ntmps9
  go_wp2_with fail
  have E := (Ext.refl w).alloc (.cells #[.int .i64 f, .slice a l.length cap] 24)
  refine (szIntS_any a cap l left _ h0 h1 hl).mono ?_
  rintro e w1 ⟨r, rfl, hra, hrb, hrc, hb⟩
  have Hrc := Lib.hid hrc
  clear hrc
  by_cases hneg : r < 0
  · go_wp2
    go_ret
    exact RetSz.mk rfl (by omega) (by omega) (fun h => absurd h (by omega)) (E.trans hb)
  · go_wp2
    go_ret
    exact RetSz.mk rfl (by omega) (by omega) Hrc.out (E.trans hb)

set_option maxHeartbeats 2000000 in
theorem toGate_any (f : Int) (a : Option Addr) (cap : Nat) (l : List Int) (w : World) (hl : l.length ≤ 1048576) (hc : Rd 1 encInt1 w a l) :
    Calls Try.prog 11 #[.agg #[.int .i64 f, .slice a l.length cap]] w (RetV (fun v w' => ∃ u, v = .agg #[.int .i64 f, u] ∧ w'.ownsRow w.heap.size 3 1 u l.length (l.flatMap encInt1)) w) := by
  have E1 := (((Ext.refl w).alloc (.cells #[.int .i64 f, .slice a l.length cap] 24)).alloc (.cells #[.int .i64 0, .slice none 0 0] 27)).alloc (.cells #[.int .i64 f, .slice none 0 0] 27)
  have r0 : (((w.alloc (.cells #[.int .i64 f, .slice a l.length cap] 24)).alloc (.cells #[.int .i64 0, .slice none 0 0] 27)).alloc (.cells #[.int .i64 f, .slice none 0 0] 27)).heap[w.heap.size + 1]? = some (.cells #[.int .i64 0, .slice none 0 0] 27) := by
    rw [Below.heap_alloc _ _ _ (by simp)]
    have := heap_alloc_new (w.alloc (.cells #[.int .i64 f, .slice a l.length cap] 24)) (.cells #[.int .i64 0, .slice none 0 0] 27)
    simpa using this
  have r1 : (((w.alloc (.cells #[.int .i64 f, .slice a l.length cap] 24)).alloc (.cells #[.int .i64 0, .slice none 0 0] 27)).alloc (.cells #[.int .i64 f, .slice none 0 0] 27)).heap[w.heap.size + 2]? = some (.cells #[.int .i64 f, .slice none 0 0] 27) := by
    have := heap_alloc_new ((w.alloc (.cells #[.int .i64 f, .slice a l.length cap] 24)).alloc (.cells #[.int .i64 0, .slice none 0 0] 27)) (.cells #[.int .i64 f, .slice none 0 0] 27)
    simpa using this
  have hsz : w.heap.size + 3 ≤ (((w.alloc (.cells #[.int .i64 f, .slice a l.length cap] 24)).alloc (.cells #[.int .i64 0, .slice none 0 0] 27)).alloc (.cells #[.int .i64 f, .slice none 0 0] 27)).heap.size := by simp
  go_enter Try.func11, Try.ntmps11
  go_wp2_with fail
  generalize (((w.alloc (.cells #[.int .i64 f, .slice a l.length cap] 24)).alloc (.cells #[.int .i64 0, .slice none 0 0] 27)).alloc (.cells #[.int .i64 f, .slice none 0 0] 27)) = w1 at *
  refine (toIntS_any a cap l w1 hl (hc.ext E1)).mono ?_
  rintro e w2 ⟨u, rfl, ⟨hown, rfl⟩, hb⟩
  have k0 : w2.heap[w.heap.size + 1]? = some (.cells #[.int .i64 0, .slice none 0 0] 27) := by rw [hb.block _ (by omega)]; exact r0
  have k1 : w2.heap[w.heap.size + 2]? = some (.cells #[.int .i64 f, .slice none 0 0] 27) := by rw [hb.block _ (by omega)]; exact r1
  have c0 : w2.cell? ⟨w.heap.size + 1, 0, none⟩ = some (.int .i64 0) := by simp [World.cell?, k0]
  have c1 : w2.cell? ⟨w.heap.size + 1, 1, none⟩ = some (.slice none 0 0) := by simp [World.cell?, k0]
  have d0 : w2.cell? ⟨w.heap.size + 2, 0, none⟩ = some (.int .i64 f) := by simp [World.cell?, k1]
  have d1 : w2.cell? ⟨w.heap.size + 2, 1, none⟩ = some (.slice none 0 0) := by simp [World.cell?, k1]
  have f0 : w2.frozen? ⟨w.heap.size + 1, 0, none⟩ = false := by simp [World.frozen?, k0]
  have f1 : w2.frozen? ⟨w.heap.size + 1, 1, none⟩ = false := by simp [World.frozen?, k0]
  have g0 : w2.frozen? ⟨w.heap.size + 2, 0, none⟩ = false := by simp [World.frozen?, k1]
  have g1 : w2.frozen? ⟨w.heap.size + 2, 1, none⟩ = false := by simp [World.frozen?, k1]
  have E2 := ((((E1.trans hb).setCell (p := ⟨w.heap.size + 2, 1, none⟩) (by show w.heap.size ≤ w.heap.size + 2; omega) (.slice (some ⟨w1.heap.size, 0, none⟩) l.length l.length)).setCell (p := ⟨w.heap.size + 1, 0, none⟩) (by show w.heap.size ≤ w.heap.size + 1; omega) (.int .i64 f)).setCell (p := ⟨w.heap.size + 1, 1, none⟩) (by show w.heap.size ≤ w.heap.size + 1; omega) (.slice (some ⟨w1.heap.size, 0, none⟩) l.length l.length))
  have ho := ownsRow_setCell_below (ownsRow_setCell_below (ownsRow_setCell_below hown (a := ⟨w.heap.size + 2, 1, none⟩) (by show w.heap.size + 2 < w1.heap.size; omega) (.slice (some ⟨w1.heap.size, 0, none⟩) l.length l.length)) (a := ⟨w.heap.size + 1, 0, none⟩) (by show w.heap.size + 1 < w1.heap.size; omega) (.int .i64 f)) (a := ⟨w.heap.size + 1, 1, none⟩) (by show w.heap.size + 1 < w1.heap.size; omega) (.slice (some ⟨w1.heap.size, 0, none⟩) l.length l.length)
  have ho2 := ownsRow_base ho (show w.heap.size ≤ w1.heap.size by omega)
  clear r0 r1 k0 k1 hown ho hb E1
  go_wp2
  try simp only [Exit.inBlock, Exit.then]
  refine bodyPost_ret (v := .agg #[.int .i64 f, .slice (some ⟨w1.heap.size, 0, none⟩) l.length l.length]) (by simp [results, Try.results11, go_sem, c0, c1, d0, d1]) rfl ?_
  exact RetV.mk ⟨_, rfl, ho2⟩ E2

set_option maxHeartbeats 1000000 in
theorem eqGate_any (f f' : Int) (a a' : Option Addr) (cap cap' : Nat) (l m : List Int) (w : World) (hl : l.length ≤ 9223372036854775807) (hm : m.length ≤ 9223372036854775807) (hc : Rd 1 encInt1 w a l) (hd : Rd 1 encInt1 w a' m) :
    Calls Try.prog 13 #[.agg #[.int .i64 f, .slice a l.length cap], .agg #[.int .i64 f', .slice a' m.length cap']] w (RetB (f = f' ∧ l = m) w) := by
  have E := ((Ext.refl w).alloc (.cells #[.int .i64 f, .slice a l.length cap] 27)).alloc (.cells #[.int .i64 f', .slice a' m.length cap'] 27)
  by_cases hf : f = f'
  · have tf : (f != f') = false := by simpa using hf
    have Hf := Lib.hid hf
    clear hf
    go_enter Try.func13, Try.ntmps13
    go_wp2_with fail
    refine (eqIntS_any a a' cap cap' l m _ hl hm (hc.ext E) (hd.ext E)).mono ?_
    rintro e w1 ⟨b, rfl, hb, hE⟩
    have Hb := Lib.hid hb
    clear hb
    cases b with
    | true =>
      have H := Hb.out.1 rfl
      have HH := Lib.hid H
      clear H Hb
      go_wp2
      go_ret
      exact RetB.mk true rfl (by simp [Hf.out, HH.out]) (E.trans hE)
    | false =>
      have H : Hid (¬ l = m) := Lib.hid (fun h => Bool.noConfusion (Hb.out.2 h))
      clear Hb
      go_wp2
      go_ret
      exact RetB.mk false rfl ⟨fun h => Bool.noConfusion h, fun h => absurd h.2 H.out⟩ (E.trans hE)
  · have tf : (f != f') = true := by simpa using hf
    have Hf := Lib.hid hf
    clear hf
    go_enter Try.func13, Try.ntmps13
    go_wp2
    go_ret
    exact RetB.mk false rfl ⟨fun h => Bool.noConfusion h, fun h => absurd h.1 Hf.out⟩ E

/-- A valid gate. -/
def WOkAt (l : List Int) (k : Nat) : Prop := ∀ x, l[k]? = some x → (1 ≤ x ∧ x ≤ 99) ∧ x ∉ l.take k
def GateOk (f : Int) (l : List Int) : Prop := (∀ k, k < l.length → WOkAt l k) ∧ (0 ≤ f ∧ f ≤ 9) ∧ l.length ≤ 8 ∧ (f = 0 ∨ l.length = 0)
theorem gate_bad {f : Int} {l : List Int} {k : Nat} {x : Int} (hx : l[k]? = some x) (h : ¬ ((1 ≤ x ∧ x ≤ 99) ∧ x ∉ l.take k)) {b : Bool} (hb : b = false) : b = true ↔ GateOk f l := by
  subst hb
  simp only [Bool.false_eq_true, false_iff]
  exact fun hr => h (hr.1 k (List.getElem?_eq_some_iff.1 hx).1 x hx)
theorem gate_next {l : List Int} {k : Nat} {x : Int} (h : ∀ j, j < k → WOkAt l j) (hx : l[k]? = some x) (hok : (1 ≤ x ∧ x ≤ 99) ∧ x ∉ l.take k) : ∀ j, j < k + 1 → WOkAt l j := by
  intro j hj
  rcases Nat.lt_succ_iff_lt_or_eq.1 hj with h' | rfl
  · exact h j h'
  · intro y hy
    rw [hx] at hy; cases hy
    exact hok
theorem mem_take {l : List Int} {j k : Nat} {y : Int} (hj : j < k) (hy : l[j]? = some y) : y ∈ l.take k := List.mem_of_getElem? (i := j) (by rw [List.getElem?_take, if_pos hj]; exact hy)
theorem notin_take {l : List Int} {k : Nat} {x : Int} (h : ∀ (j : Nat) y, j < k → l[j]? = some y → y ≠ x) : x ∉ l.take k := fun hm => by
  obtain ⟨j, hj⟩ := List.getElem?_of_mem hm
  rw [List.getElem?_take] at hj
  split at hj
  · rename_i hjk; exact h j x hjk hj rfl
  · cases hj

set_option maxHeartbeats 4000000 in
theorem specGateValid (f : Int) (a : Option Addr) (cap : Nat) (l : List Int) (w : World) (hl : l.length ≤ 9223372036854775807) (hc : Rd 1 encInt1 w a l) :
    Calls Try.prog 10 #[.agg #[.int .i64 f, .slice a l.length cap]] w (RetB (GateOk f l) w) := by
  have E := (Ext.refl w).alloc (.cells #[.int .i64 f, .slice a l.length cap] 27)
  have n0 := cell_new w #[.int .i64 f, .slice a l.length cap] 27 0 (.int .i64 f) rfl
  have n1 := cell_new w #[.int .i64 f, .slice a l.length cap] 27 1 (.slice a l.length cap) rfl
  go_enter Try.func10, Try.ntmps10
  go_upto_region 1 with fail
  generalize (w.alloc (.cells #[.int .i64 f, .slice a l.length cap] 27)) = w0 at *
  go_wp2
  go_loopw [3, 4] (fun i _ wr => ∃ k : Nat, k ≤ l.length ∧ i = .int .i64 k ∧ (∀ j, j < k → WOkAt l j) ∧ Ext w0 wr) (fun i _ _ => l.length - (intOf i).toNat)
  case atStart => exact ⟨0, Nat.zero_le _, rfl, fun _ h => absurd h (Nat.not_lt_zero _), Ext.refl _⟩
  case round =>
    obtain ⟨k, hk, rfl, hpre, hb⟩ := hrel
    have Hpre := Lib.hid hpre
    have m0 := cell_ext hb n0
    have m1 := cell_ext hb n1
    clear hpre
    by_cases hlt : k < l.length
    · obtain ⟨x, b, off, hx, rfl, c0⟩ := atInt ((hc.ext E).ext hb) hlt
      have Hx := Lib.hid hx
      have i0 : (0 : Int) ≤ (k : Int) := by omega
      have i1 : (k : Int) < (l.length : Int) := by omega
      clear hx
      by_cases hok : 1 ≤ x ∧ x ≤ 99
      rotate_left
      · have ein := inB_false hok
        have Hbad : Hid (¬ ((1 ≤ x ∧ x ≤ 99) ∧ x ∉ l.take k)) := Lib.hid (fun h => hok h.1)
        clear hok
        go_wp2_with (go_at_call 27; refine ((l1In_any _ _ _ _).mono (fun e w2 h => by rw [ein] at h; exact h)).mono ?_; rintro e w' ⟨rfl, rfl⟩)
        go_ret
        exact RetB.mk false rfl (gate_bad Hx.out Hbad.out rfl) (E.trans hb)
      · have ein := inB_iff.2 hok
        have Hok := Lib.hid hok
        clear hok
        go_wp2_with (go_at_call 27; refine ((l1In_any _ _ _ _).mono (fun e w2 h => by rw [ein] at h; exact h)).mono ?_; rintro e w' ⟨rfl, rfl⟩)
        go_loopw [4] (fun i wq => ∃ j : Nat, j ≤ k ∧ i = .int .i64 j ∧ (∀ (i : Nat) y, i < j → l[i]? = some y → y ≠ x) ∧ Ext wr wq) (fun i _ => k - (intOf i).toNat)
        case atStart => exact ⟨0, Nat.zero_le _, rfl, fun _ _ h => absurd h (Nat.not_lt_zero _), Ext.refl _⟩
        case round =>
          obtain ⟨j, hj, rfl, hpre, hq⟩ := hrel
          have Hnone := Lib.hid hpre
          clear hpre
          replace m1 := cell_ext hq m1
          replace c0 := cell_ext hq c0
          by_cases hjk : j < k
          · obtain ⟨y, b', off', hy, hby, d0⟩ := atInt (((hc.ext E).ext hb).ext hq) (show j < l.length by omega)
            obtain ⟨rfl, rfl⟩ : b = b' ∧ off = off' := by simpa using hby
            have Hy := Lib.hid hy
            clear hy hby
            have j0 : (0 : Int) ≤ (j : Int) := by omega
            have j1 : (j : Int) < (l.length : Int) := by omega
            have hjki : (j : Int) < (k : Int) := by omega
            by_cases hxy : y = x
            · have txy : (y == x) = true := by simpa using hxy
              have Hbad : Hid (¬ ((1 ≤ x ∧ x ≤ 99) ∧ x ∉ l.take k)) := Lib.hid (fun h => h.2 (hxy ▸ mem_take hjk Hy.out))
              clear hxy
              go_wp2
              go_quiet (fail)
              go_wp2
              go_ret
              exact RetB.mk false rfl (gate_bad Hx.out Hbad.out rfl) (E.trans ((hb.trans hq).drewN _))
            · have txy : (y == x) = false := by simpa using hxy
              have Hxy := Lib.hid hxy
              clear hxy
              go_wp2
              go_quiet (fail)
              go_wp2
              go_roundw
              case rel =>
                refine ⟨j + 1, by omega, by go_num, fun i z hi hz => ?_, hq.drewN _⟩
                rcases Nat.lt_succ_iff_lt_or_eq.1 hi with h' | rfl
                · exact Hnone.out i z h' hz
                · have h1 := Hy.out
                  rw [hz] at h1; cases h1
                  exact Hxy.out
              case measure => simp [intOf]; omega
          · obtain rfl : j = k := by omega
            have Hnext := Lib.hid (gate_next Hpre.out Hx.out ⟨Hok.out, notin_take Hnone.out⟩)
            have hjki : ¬ (j : Int) < (j : Int) := by omega
            go_wp2
            go_roundw
            case rel => exact ⟨j + 1, by omega, by go_num, Hnext.out, hb.trans hq⟩
            case measure => simp [intOf]; omega
    · obtain rfl : k = l.length := by omega
      have hni : ¬ (l.length : Int) < (l.length : Int) := by omega
      have HG : Hid (GateOk f l ↔ (0 ≤ f ∧ f ≤ 9) ∧ l.length ≤ 8 ∧ (f = 0 ∨ l.length = 0)) := Lib.hid ⟨fun h => h.2, fun h => ⟨Hpre.out, h⟩⟩
      by_cases hf : 0 ≤ f ∧ f ≤ 9
      · have ein := inB_iff.2 hf
        have Hf := Lib.hid hf
        clear hf
        by_cases h8 : l.length ≤ 8
        · have t8 : (l.length : Int) ≤ 8 := by omega
          by_cases hz : f = 0
          · have tz : (f == 0) = true := by simpa using hz
            have Hok : Hid (GateOk f l) := Lib.hid (HG.out.2 ⟨Hf.out, h8, .inl hz⟩)
            clear hz
            go_wp2_with (go_at_call 27; refine ((l1In_any _ _ _ _).mono (fun e w2 h => by rw [ein] at h; exact h)).mono ?_; rintro e w' ⟨rfl, rfl⟩)
            go_ret
            exact RetB.mk true rfl (by simp [Hok.out]) (E.trans hb)
          · have tz : (f == 0) = false := by simpa using hz
            by_cases hl0 : l.length = 0
            · have tl : ((l.length : Int) == 0) = true := by simpa using hl0
              have Hok : Hid (GateOk f l) := Lib.hid (HG.out.2 ⟨Hf.out, h8, .inr hl0⟩)
              clear hz hl0
              go_wp2_with (go_at_call 27; refine ((l1In_any _ _ _ _).mono (fun e w2 h => by rw [ein] at h; exact h)).mono ?_; rintro e w' ⟨rfl, rfl⟩)
              go_ret
              exact RetB.mk true rfl (by simp [Hok.out]) (E.trans hb)
            · have tl : ((l.length : Int) == 0) = false := by simpa using hl0
              have Hno : Hid (¬ GateOk f l) := Lib.hid (fun h => by have h3 := (HG.out.1 h).2.2; omega)
              clear hz hl0
              go_wp2_with (go_at_call 27; refine ((l1In_any _ _ _ _).mono (fun e w2 h => by rw [ein] at h; exact h)).mono ?_; rintro e w' ⟨rfl, rfl⟩)
              go_ret
              exact RetB.mk false rfl (by simp [Hno.out]) (E.trans hb)
        · have t8 : (8 : Int) < (l.length : Int) := by omega
          have Hno : Hid (¬ GateOk f l) := Lib.hid (fun h => by have h3 := (HG.out.1 h).2.1; omega)
          clear h8
          go_wp2_with (go_at_call 27; refine ((l1In_any _ _ _ _).mono (fun e w2 h => by rw [ein] at h; exact h)).mono ?_; rintro e w' ⟨rfl, rfl⟩)
          go_ret
          exact RetB.mk false rfl (by simp [Hno.out]) (E.trans hb)
      · have ein := inB_false hf
        have Hno : Hid (¬ GateOk f l) := Lib.hid (fun h => hf h.2.1)
        clear hf
        go_wp2_with (go_at_call 27; refine ((l1In_any _ _ _ _).mono (fun e w2 h => by rw [ein] at h; exact h)).mono ?_; rintro e w' ⟨rfl, rfl⟩)
        go_ret
        exact RetB.mk false rfl (by simp [Hno.out]) (E.trans hb)
end Go.Proofs.Ytcnghlmndahfpaa
