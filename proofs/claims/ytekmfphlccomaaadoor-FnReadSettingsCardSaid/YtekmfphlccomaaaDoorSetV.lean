/- Settings: when they are valid; contracts of SettingsValid. Condition: lists and texts shorter than 2^63. -/
import Derived.Test.YtekmfphlccomaaaDoorSetFam
import Derived.Test.YtekmfphlccomaaaDoorNames
import Derived.Deep.Cut
namespace Go.Proofs.YtekmfphlccomaaaDoor
open Go.RowKit

def okSet (x : Set) : Prop := NameOk x.name ∧ TextOk x.text
def ltSet (p x : Set) : Prop := Op.bytesLess p.name.toList x.name.toList = true
def SOkAt (l : List Set) (k : Nat) : Prop := ∀ x, l[k]? = some x → okSet x ∧ ∀ m p, k = m + 1 → l[m]? = some p → ltSet p x
def SetsOk (l : List Set) : Prop := (∀ k, k < l.length → SOkAt l k) ∧ l.length ≤ 8
def FitsS (l : List Set) : Prop := ∀ x ∈ l, x.name.size ≤ 9223372036854775807 ∧ x.text.size ≤ 9223372036854775807
theorem sets_bad {l : List Set} {k : Nat} {x : Set} (hx : l[k]? = some x) (h : ¬ okSet x) {b : Bool} (hb : b = false) : b = true ↔ SetsOk l := by
  subst hb
  simp only [Bool.false_eq_true, false_iff]
  exact fun hr => h (hr.1 k (List.getElem?_eq_some_iff.1 hx).1 x hx).1
theorem sets_bad2 {l : List Set} {m : Nat} {p x : Set} (hx : l[m + 1]? = some x) (hp : l[m]? = some p) (h : ¬ ltSet p x) {b : Bool} (hb : b = false) : b = true ↔ SetsOk l := by
  subst hb
  simp only [Bool.false_eq_true, false_iff]
  exact fun hr => h ((hr.1 _ (List.getElem?_eq_some_iff.1 hx).1 x hx).2 m p rfl hp)
theorem sets_next0 {l : List Set} {x : Set} (hx : l[0]? = some x) (hok : okSet x) : ∀ j, j < 0 + 1 → SOkAt l j := by
  intro j hj
  obtain rfl : j = 0 := by omega
  intro y hy
  rw [hx] at hy; cases hy
  exact ⟨hok, fun m p hm => by omega⟩
theorem sets_next {l : List Set} {m : Nat} {p x : Set} (h : ∀ j, j < m + 1 → SOkAt l j) (hx : l[m + 1]? = some x) (hp : l[m]? = some p) (hok : okSet x) (hlt : ltSet p x) : ∀ j, j < m + 1 + 1 → SOkAt l j := by
  intro j hj
  rcases Nat.lt_succ_iff_lt_or_eq.1 hj with h' | rfl
  · exact h j h'
  · intro y hy
    rw [hx] at hy; cases hy
    refine ⟨hok, fun m' p' hm hp' => ?_⟩
    obtain rfl : m = m' := by omega
    rw [hp] at hp'; cases hp'
    exact hlt

set_option maxRecDepth 10000 in
set_option maxHeartbeats 8000000 in
theorem specSettingsValid (a : Option Addr) (cap : Nat) (l : List Set) (w : World) (hl : l.length ≤ 9223372036854775807) (hs : FitsS l) (hc : Rd 2 encSet w a l) :
    Calls Tryd.prog 9 #[.slice a l.length cap] w (RetB (SetsOk l) w) := by
  have Hs := Lib.hid hs
  clear hs
  go_enter Tryd.func9, Tryd.ntmps9
  go_wp2
  go_loopw [3] (fun i wr => ∃ k : Nat, k ≤ l.length ∧ i = .int .i64 k ∧ (∀ j, j < k → SOkAt l j) ∧ Ext w wr) (fun i _ => l.length - (intOf i).toNat)
  case atStart => exact ⟨0, Nat.zero_le _, rfl, fun _ h => absurd h (Nat.not_lt_zero _), Ext.refl _⟩
  case round =>
    obtain ⟨k, hk, rfl, hpre, hb⟩ := hrel
    have Hpre := Lib.hid hpre
    clear hpre
    by_cases hlt : k < l.length
    rotate_left
    · obtain rfl : k = l.length := by omega
      have hni : ¬ (l.length : Int) < (l.length : Int) := by omega
      by_cases h8 : l.length ≤ 8
      · have h8i : (l.length : Int) ≤ 8 := by omega
        have Hok : Hid (SetsOk l) := Lib.hid ⟨Hpre.out, h8⟩
        go_wp2
        go_ret
        exact RetB.mk true (by simp [h8]) (by simp [Hok.out]) hb
      · have h8i : (8 : Int) < (l.length : Int) := by omega
        have Hno : Hid (¬ SetsOk l) := Lib.hid (fun h => h8 h.2)
        go_wp2
        go_ret
        exact RetB.mk false (by simp; omega) (by simp [Hno.out]) hb
    · obtain ⟨x, b, off, hx, rfl, c0, c1⟩ := atSet (hc.ext hb) hlt
      have Hx := Lib.hid hx
      obtain ⟨z0, z1⟩ := Hs.out x (List.mem_of_getElem? hx)
      have i0 : (0 : Int) ≤ (k : Int) := by omega
      have i1 : (k : Int) < (l.length : Int) := by omega
      have q0 := ExtW.cell c0
      have q1 := ExtW.cell c1
      have b0 := ExtW.lt c0
      clear hx c0 c1
      have Z0 := Lib.hid z0
      have Z1 := Lib.hid z1
      clear z0 z1
      go_upto_region 4 with fail
      by_cases hN : NameOk x.name
      rotate_left
      · have HN := Lib.hid hN
        have Hbad := Lib.hid (sets_bad (b := false) Hx.out (fun h => hN h.1) rfl)
        clear hN
        (refine wp_region_quiet_ext (by kernel_rfl) (by kernel_rfl) ?_; (repeat (go_big_quiet_step ((go_at_call 22; exact Calls.at_b (T := NameOk x.name) false (by simp [HN.out]) (specNameValid _ _ Z0.out))))); refine wpQuiet_nil ?_; intro _ hw'; obtain ⟨sq, hw''⟩ := hw'; subst hw'')
        obtain ⟨w3, hw3⟩ := sq
        go_wp2
        go_ret
        exact RetB.mk false rfl Hbad.out (hb.trans hw3)
      · have HN := Lib.hid hN
        clear hN
        by_cases hT : TextOk x.text
        rotate_left
        · have HT := Lib.hid hT
          have Hbad := Lib.hid (sets_bad (b := false) Hx.out (fun h => hT h.2) rfl)
          clear hT
          (refine wp_region_quiet_ext (by kernel_rfl) (by kernel_rfl) ?_; (repeat (go_big_quiet_step ((first | (go_at_call 22; exact Calls.at_b (T := NameOk x.name) true (by simp [HN.out]) (specNameValid _ _ Z0.out)) | (go_at_call 23; exact Calls.at_b (T := TextOk x.text) false (by simp [HT.out]) (specText _ _ Z1.out)))))); refine wpQuiet_nil ?_; intro _ hw'; obtain ⟨sq, hw''⟩ := hw'; subst hw'')
          obtain ⟨w3, hw3⟩ := sq
          go_wp2
          go_ret
          exact RetB.mk false rfl Hbad.out (hb.trans hw3)
        · have HT := Lib.hid hT
          clear hT
          rcases k with _ | m
          · have Hnext := Lib.hid (sets_next0 Hx.out ⟨HN.out, HT.out⟩)
            simp only [Nat.zero_mul, Nat.add_zero] at q0 q1
            (refine wp_region_quiet_ext (by kernel_rfl) (by kernel_rfl) ?_; (repeat (go_big_quiet_step ((first | (go_at_call 22; exact Calls.at_b (T := NameOk x.name) true (by simp [HN.out]) (specNameValid _ _ Z0.out)) | (go_at_call 23; exact Calls.at_b (T := TextOk x.text) true (by simp [HT.out]) (specText _ _ Z1.out)))))); refine wpQuiet_nil ?_; intro _ hw'; obtain ⟨sq, hw''⟩ := hw'; subst hw'')
            obtain ⟨w3, hw3⟩ := sq
            go_wp2
            go_roundw
            case rel => exact ⟨0 + 1, by omega, by first | rfl | go_num, Hnext.out, hb.trans hw3⟩
            case measure => first | omega | (simp [intOf]; omega) | simp [intOf]
          · obtain ⟨p, b', off', hp, ha, d0, d1⟩ := atSet (hc.ext hb) (show m < l.length by omega)
            obtain ⟨rfl, rfl⟩ : b = b' ∧ off = off' := by simpa using ha
            have Hp := Lib.hid hp
            have p0 := ExtW.cell d0
            have bl := ExtW.lt d0
            have s1 : IntKind.i64.wrap (m : Int) = (m : Int) := IntWalk.i64_in _ (by omega)
            have j0 : (0 : Int) ≤ (m : Int) := by omega
            have j1 : (m : Int) < (l.length : Int) := by omega
            have tk : (0 : Int) < ((m : Int) + 1) := by omega
            clear d0 d1 hp ha
            rcases less_cases p.name.toList x.name.toList with ⟨e1, e2, e3⟩ | ⟨e1, e2⟩ | ⟨e1, e2, e3⟩
            · have Hnext := Lib.hid (sets_next Hpre.out Hx.out Hp.out ⟨HN.out, HT.out⟩ e1)
              clear e1
              (refine wp_region_quiet_ext (by kernel_rfl) (by kernel_rfl) ?_; (repeat (go_big_quiet_step ((first | (go_at_call 22; exact Calls.at_b (T := NameOk x.name) true (by simp [HN.out]) (specNameValid _ _ Z0.out)) | (go_at_call 23; exact Calls.at_b (T := TextOk x.text) true (by simp [HT.out]) (specText _ _ Z1.out)))))); refine wpQuiet_nil ?_; intro _ hw'; obtain ⟨sq, hw''⟩ := hw'; subst hw'')
              obtain ⟨w3, hw3⟩ := sq
              go_wp2
              go_roundw
              case rel => exact ⟨m + 1 + 1, by omega, by first | rfl | go_num, Hnext.out, hb.trans hw3⟩
              case measure => first | omega | (simp [intOf]; omega) | simp [intOf]
            · have Hbad := Lib.hid (sets_bad2 (b := false) Hx.out Hp.out (fun h => by unfold ltSet at h; rw [e1] at h; cases h) rfl)
              clear e1
              (refine wp_region_quiet_ext (by kernel_rfl) (by kernel_rfl) ?_; (repeat (go_big_quiet_step ((first | (go_at_call 22; exact Calls.at_b (T := NameOk x.name) true (by simp [HN.out]) (specNameValid _ _ Z0.out)) | (go_at_call 23; exact Calls.at_b (T := TextOk x.text) true (by simp [HT.out]) (specText _ _ Z1.out)))))); refine wpQuiet_nil ?_; intro _ hw'; obtain ⟨sq, hw''⟩ := hw'; subst hw'')
              obtain ⟨w3, hw3⟩ := sq
              go_wp2
              go_ret
              exact RetB.mk false rfl Hbad.out (hb.trans hw3)
            · have Hbad := Lib.hid (sets_bad2 (b := false) Hx.out Hp.out (fun h => by unfold ltSet at h; rw [e1] at h; cases h) rfl)
              clear e1
              (refine wp_region_quiet_ext (by kernel_rfl) (by kernel_rfl) ?_; (repeat (go_big_quiet_step ((first | (go_at_call 22; exact Calls.at_b (T := NameOk x.name) true (by simp [HN.out]) (specNameValid _ _ Z0.out)) | (go_at_call 23; exact Calls.at_b (T := TextOk x.text) true (by simp [HT.out]) (specText _ _ Z1.out)))))); refine wpQuiet_nil ?_; intro _ hw'; obtain ⟨sq, hw''⟩ := hw'; subst hw'')
              obtain ⟨w3, hw3⟩ := sq
              go_wp2
              go_ret
              exact RetB.mk false rfl Hbad.out (hb.trans hw3)
end Go.Proofs.YtekmfphlccomaaaDoor
