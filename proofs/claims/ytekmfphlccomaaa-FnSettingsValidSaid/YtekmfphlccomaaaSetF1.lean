/- FnSettingsValid: the walk. Condition: the code is shorter than 2^63. -/
import Derived.Test.YtekmfphlccomaaaDrawSet
import Derived.Test.YtekmfphlccomaaaSetI
import Derived.Test.YtekmfphlccomaaaGuard
namespace Go.Proofs.Ytekmfphlccomaaa
open Go.RowKit

theorem less_irrefl : ∀ a : List UInt8, Op.bytesLess a a = false
  | [] => rfl
  | x :: a => by simp [Op.bytesLess, UInt8.lt_irrefl, less_irrefl a]
theorem sets_tail {x : Set} {t : List Set} (h : SetsOk (x :: t)) : SetsOk t := by
  refine ⟨fun k hk => ?_, by have := h.2; simp at this; omega⟩
  intro y hy
  have h1 := h.1 (k + 1) (by simp; omega) y (by simpa using hy)
  exact ⟨h1.1, fun m p hm hp => h1.2 (m + 1) p (by omega) (by simpa using hp)⟩
theorem sets_twice (x : Set) (t : List Set) : ¬ SetsOk (x :: x :: t) := fun h => by
  have h1 := (h.1 1 (by simp) x rfl).2 0 x rfl rfl
  unfold ltSet at h1
  rw [less_irrefl] at h1
  cases h1

set_option maxHeartbeats 4000000 in
theorem fnSettingsValid_any (ac : Option Addr) (capc : Nat) (code : List Int) (w : World) (hlc : code.length ≤ 9223372036854775807) (hcap : code.length ≤ capc) (hu : ∀ x ∈ code, 0 ≤ x ∧ x ≤ 255) (hcc : Rd 1 encU8 w ac code) :
    Calls Try.prog 4 #[.slice ac code.length capc] w (RetB True w) := by
  go_enter Try.func4, Try.ntmps4
  by_cases hbig : 1048576 < code.length
  · have hb : (1048576 : Int) < (code.length : Int) := by omega
    go_wp2
    go_ret
    exact RetB.mk true rfl (by simp) (Ext.refl _)
  · have hb : (code.length : Int) ≤ 1048576 := by omega
    go_wp2_with fail
    refine (drawSettingsValid ac capc code w hlc hcap hu hcc).mono ?_
    rintro e w1 ⟨v, rfl, ⟨l, hl, hfit, hown⟩, E⟩
    have Hfit := Lib.hid hfit
    clear hfit
    obtain ⟨a, cap, rfl, hlcap, hrd, hshape⟩ := view_owns encSet_len hown
    clear hown
    go_wp2_with fail
    refine (implSettingsValid a cap l w1 (by omega) Hfit.out hrd).mono ?_
    rintro e w2 ⟨ok, rfl, hok, E2⟩
    have Hok := Lib.hid hok
    clear hok
    replace hrd := hrd.ext E2
    replace E := E.trans E2
    clear E2
    go_wp2_with fail
    refine (specSettingsValid a cap l w2 (by omega) Hfit.out hrd).mono ?_
    rintro e w3 ⟨ok', rfl, hok', E2⟩
    obtain rfl : ok = ok' := Bool.eq_iff_iff.2 (Hok.out.trans hok'.symm)
    clear hok'
    replace hrd := hrd.ext E2
    replace E := E.trans E2
    clear E2
    have tb : (ok != ok) = false := by simp
    cases ok with
    | false =>
      clear Hok
      go_wp2_with fail
      refine (alive_any _).mono ?_
      rintro e w6 ⟨b3, rfl, hb3, E2⟩
      obtain rfl : b3 = true := hb3.2 trivial
      go_wp2
      go_ret
      exact RetB.mk true rfl (by simp) (E.trans E2)
    | true =>
      have Hok2 := Lib.hid (Hok.out.1 rfl)
      clear Hok
      cases l with
      | nil =>
        go_wp2_with fail
        refine (alive_any _).mono ?_
        rintro e w6 ⟨b3, rfl, hb3, E2⟩
        obtain rfl : b3 = true := hb3.2 trivial
        go_wp2
        go_ret
        exact RetB.mk true rfl (by simp) (E.trans E2)
      | cons x t =>
        rcases hshape with ⟨_, h0, _⟩ | ⟨g, rfl, hg⟩
        · cases h0
        · have Ht := Lib.hid (sets_tail Hok2.out)
          have hrd3 : Rd 2 encSet w3 (some ⟨g, 0 + 1 * 2, none⟩) t := hrd.drop 1
          obtain ⟨y, b, off, hy, hby, c0, c1⟩ := atSet hrd (show 0 < (x :: t).length by simp)
          obtain ⟨rfl, rfl⟩ : g = b ∧ 0 = off := by simpa using hby
          obtain rfl : x = y := by simpa using hy
          clear hy hby
          simp only [Nat.zero_mul, Nat.zero_add, Nat.one_mul] at c0 c1 hrd3
          obtain ⟨n, hn⟩ : ∃ n, n = (x :: t).length := ⟨_, rfl⟩
          have hn1 : t.length = n - 1 := by rw [hn]; simp
          have hn0 : (n : Int) ≠ 0 := by rw [hn]; simp; omega
          have hn2 : 1 ≤ n := by rw [hn]; simp
          have hn3 : n ≤ cap := by rw [hn]; exact hlcap
          have hn4 : n ≤ 10 := by rw [hn]; omega
          rw [← hn]
          have Hn := Lib.hid hn
          clear hn hlcap hl
          have hc1 : (1 : Int) ≤ (cap : Int) := by omega
          have hnn1 : (1 : Int) ≤ (n : Int) := by omega
          by_cases hcm : cap = 1
          · have ht0 : t = [] := List.eq_nil_of_length_eq_zero (by omega)
            have hn5 : n - 1 = 0 := by omega
            subst ht0
            have hcall : True := trivial
            go_wp2_with fail
            refine (implSettingsValid _ _ [] w3 (by simp) (fun x hx => by simp at hx) Rd.nil).mono ?_
            rintro e w4 ⟨b4, rfl, hb4, E4⟩
            obtain rfl : b4 = true := hb4.2 Ht.out
            clear hb4
            replace hrd := hrd.ext E4
            replace E := E.trans E4
            replace c0 := cell_ext E4 c0
            replace c1 := cell_ext E4 c1
            have E5 := (Ext.refl _).alloc (a := w4) (.cells #[.string x.name, .string x.text] 33)
            have ho := owns_lit_new (w := w4) (C := #[.string x.name, .string x.text]) (e := 33) (base := w4.heap.size) (n := 1) [x] encSet_len rfl rfl (by omega) (Nat.le_refl _)
            clear hcall E4 hrd3
            go_wp2_with (at_builtin; refine wpList_unguard rfl ?_; refine Hid.out (?_ : Hid _))
            unfold Hid
            refine (wpList_append_rd rfl _ _ 25 rfl w4.heap.size 33 _ 2 _ Try.underlying25 infoSet rfl (by decide) encSet_len encSet_one _ 1 [x] rfl ho rfl (some ⟨g, 0, none⟩) n _ (x :: ([] : List Set)) rfl Hn.out (hrd.ext E5) (by omega) (by omega) E5.size ?_)
            intro v' w5 hown' hgr
            have hown2 : w5.ownsRow w4.heap.size 33 2 v' (x :: x :: ([] : List Set)).length ((x :: x :: ([] : List Set)).flatMap encSet) := by simpa using hown'
            have E6 : Ext w4 w5 := E5.grown hgr (fun k h => (ho.lt k h).1)
            replace E := E.trans E6
            have hlen2 : (x :: x :: ([] : List Set)).length ≤ 9223372036854775807 := by simp only [List.length_cons]; omega
            have HL := Lib.hid (sets_twice x [])
            have HfL : Hid (FitsS (x :: x :: ([] : List Set))) := Lib.hid (fun y hy => Hfit.out y (by simp only [List.mem_cons] at hy ⊢; rcases hy with h | h | h <;> simp [h]))
            obtain ⟨L, hL⟩ : ∃ L, L = x :: x :: ([] : List Set) := ⟨_, rfl⟩
            rw [← hL] at hown2 hlen2 HL HfL
            clear hL
            obtain ⟨a2, cap2, rfl, hlcap2, hrd2, hshape2⟩ := view_owns encSet_len hown2
            clear hown' hown2 hgr ho E5 E6 hshape2 hrd
            go_wp2_with fail
            refine (implSettingsValid a2 cap2 L w5 hlen2 HfL.out hrd2).mono ?_
            rintro e w6 ⟨b6, rfl, hb6, E7⟩
            obtain rfl : b6 = false := by
              cases b6 with
              | false => rfl
              | true => exact absurd (hb6.1 rfl) HL.out
            clear hb6
            go_wp2
            go_ret
            exact RetB.mk true rfl (by simp) (E.trans E7)
          · have hcall := implSettingsValid (some ⟨g, 2, none⟩) (cap - 1) t w3 (by omega) (fun y hy => Hfit.out y (List.mem_cons_of_mem _ hy)) hrd3
            rw [hn1] at hcall
            go_wp2_with fail
            refine hcall.mono ?_
            rintro e w4 ⟨b4, rfl, hb4, E4⟩
            obtain rfl : b4 = true := hb4.2 Ht.out
            clear hb4
            replace hrd := hrd.ext E4
            replace E := E.trans E4
            replace c0 := cell_ext E4 c0
            replace c1 := cell_ext E4 c1
            have E5 := (Ext.refl _).alloc (a := w4) (.cells #[.string x.name, .string x.text] 33)
            have ho := owns_lit_new (w := w4) (C := #[.string x.name, .string x.text]) (e := 33) (base := w4.heap.size) (n := 1) [x] encSet_len rfl rfl (by omega) (Nat.le_refl _)
            clear hcall E4 hrd3
            go_wp2_with (at_builtin; refine wpList_unguard rfl ?_; refine Hid.out (?_ : Hid _))
            unfold Hid
            refine (wpList_append_rd rfl _ _ 25 rfl w4.heap.size 33 _ 2 _ Try.underlying25 infoSet rfl (by decide) encSet_len encSet_one _ 1 [x] rfl ho rfl (some ⟨g, 0, none⟩) n _ (x :: t) rfl Hn.out (hrd.ext E5) (by omega) (by omega) E5.size ?_)
            intro v' w5 hown' hgr
            have hown2 : w5.ownsRow w4.heap.size 33 2 v' (x :: x :: t).length ((x :: x :: t).flatMap encSet) := by simpa using hown'
            have E6 : Ext w4 w5 := E5.grown hgr (fun k h => (ho.lt k h).1)
            replace E := E.trans E6
            have hlen2 : (x :: x :: t).length ≤ 9223372036854775807 := by simp only [List.length_cons]; omega
            have HL := Lib.hid (sets_twice x t)
            have HfL : Hid (FitsS (x :: x :: t)) := Lib.hid (fun y hy => Hfit.out y (by simp only [List.mem_cons] at hy ⊢; rcases hy with h | h | h <;> simp [h]))
            obtain ⟨L, hL⟩ : ∃ L, L = x :: x :: t := ⟨_, rfl⟩
            rw [← hL] at hown2 hlen2 HL HfL
            clear hL
            obtain ⟨a2, cap2, rfl, hlcap2, hrd2, hshape2⟩ := view_owns encSet_len hown2
            clear hown' hown2 hgr ho E5 E6 hshape2 hrd
            go_wp2_with fail
            refine (implSettingsValid a2 cap2 L w5 hlen2 HfL.out hrd2).mono ?_
            rintro e w6 ⟨b6, rfl, hb6, E7⟩
            obtain rfl : b6 = false := by
              cases b6 with
              | false => rfl
              | true => exact absurd (hb6.1 rfl) HL.out
            clear hb6
            go_wp2
            go_ret
            exact RetB.mk true rfl (by simp) (E.trans E7)
end Go.Proofs.Ytekmfphlccomaaa
