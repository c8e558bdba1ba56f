/- FnRegionsValid: the walk. Condition: the code is shorter than 2^63. -/
import Derived.Test.YthajlaelaebmnaaDrawReg
import Derived.Test.YthajlaelaebmnaaAlive
import Derived.Test.YthajlaelaebmnaaGuard
namespace Go.Proofs.Ythajlaelaebmnaa
open Go.RowKit

theorem regs_tail {x : Reg} {t : List Reg} (h : RegsOk (x :: t)) : RegsOk t := by
  refine ⟨fun k hk => ?_, by have := h.2; simp at this; omega⟩
  intro y hy
  have h1 := h.1 (k + 1) (by simp; omega) y (by simpa using hy)
  exact ⟨h1.1, fun m p hm hp => h1.2 (m + 1) p (by omega) (by simpa using hp)⟩
theorem regs_twice (x : Reg) (t : List Reg) : ¬ RegsOk (x :: x :: t) := fun h => by
  have h0 := (h.1 0 (by simp) x rfl).1.1
  have h1 := ((h.1 1 (by simp) x rfl).2 0 x rfl rfl).1
  omega

set_option maxHeartbeats 4000000 in
theorem fnRegionsValid_any (ac : Option Addr) (capc : Nat) (code : List Int) (w : World) (hlc : code.length ≤ 9223372036854775807) (hcap : code.length ≤ capc) (hu : ∀ x ∈ code, 0 ≤ x ∧ x ≤ 255) (hcc : Rd 1 encU8 w ac code) :
    Calls Try.prog 4 #[.slice ac code.length capc] w (RetB True w) := by
  go_enter Try.func4, Try.ntmps4
  by_cases hbig : 1048576 < code.length
  · have hb : (1048576 : Int) < (code.length : Int) := by omega
    go_wp2
    go_ret
    exact RetB.mk true rfl (by simp) (Ext.refl _)
  · have hb : (code.length : Int) ≤ 1048576 := by omega
    go_wp2_with fail
    refine (drawRegionsValid ac capc code w hlc hcap hu hcc).mono ?_
    rintro e w1 ⟨v, rfl, ⟨l, hl, hown⟩, E⟩
    obtain ⟨a, cap, rfl, hlcap, hrd, hshape⟩ := view_owns encReg_len hown
    clear hown
    go_wp2_with fail
    refine (implRegionsValid a cap l w1 (by omega) hrd).mono ?_
    rintro e w2 ⟨ok, rfl, hok, E2⟩
    have Hok := Lib.hid hok
    clear hok
    replace hrd := hrd.ext E2
    replace E := E.trans E2
    clear E2
    go_wp2_with fail
    refine (specRegionsValid a cap l w2 (by omega) hrd).mono ?_
    rintro e w3 ⟨ok', rfl, hok', E2⟩
    obtain rfl : ok = ok' := Bool.eq_iff_iff.2 (Hok.out.trans hok'.symm)
    clear hok'
    replace hrd := hrd.ext E2
    replace E := E.trans E2
    clear E2
    have tb : (ok != ok) = false := by simp
    cases ok with
    | false =>
      clear Hok
      go_wp2_with fail
      refine (alive_any _).mono ?_
      rintro e w6 ⟨b3, rfl, hb3, E2⟩
      obtain rfl : b3 = true := hb3.2 trivial
      go_wp2
      go_ret
      exact RetB.mk true rfl (by simp) (E.trans E2)
    | true =>
      have Hok2 := Lib.hid (Hok.out.1 rfl)
      clear Hok
      cases l with
      | nil =>
        go_wp2_with fail
        refine (alive_any _).mono ?_
        rintro e w6 ⟨b3, rfl, hb3, E2⟩
        obtain rfl : b3 = true := hb3.2 trivial
        go_wp2
        go_ret
        exact RetB.mk true rfl (by simp) (E.trans E2)
      | cons x t =>
        rcases hshape with ⟨_, h0, _⟩ | ⟨g, rfl, hg⟩
        · cases h0
        · have Ht := Lib.hid (regs_tail Hok2.out)
          have hrd3 : Rd 3 encReg w3 (some ⟨g, 0 + 1 * 3, none⟩) t := hrd.drop 1
          obtain ⟨y, b, off, hy, hby, c0, c1, c2⟩ := atReg hrd (show 0 < (x :: t).length by simp)
          obtain ⟨rfl, rfl⟩ : g = b ∧ 0 = off := by simpa using hby
          obtain rfl : x = y := by simpa using hy
          clear hy hby
          simp only [Nat.zero_mul, Nat.zero_add, Nat.one_mul] at c0 c1 c2 hrd3
          obtain ⟨n, hn⟩ : ∃ n, n = (x :: t).length := ⟨_, rfl⟩
          have hn1 : t.length = n - 1 := by rw [hn]; simp
          have hn0 : (n : Int) ≠ 0 := by rw [hn]; simp; omega
          have hn2 : 1 ≤ n := by rw [hn]; simp
          have hn3 : n ≤ cap := by rw [hn]; exact hlcap
          have hn4 : n ≤ 9 := by rw [hn]; omega
          rw [← hn]
          have Hn := Lib.hid hn
          clear hn hlcap hl
          have hc1 : (1 : Int) ≤ (cap : Int) := by omega
          have hnn1 : (1 : Int) ≤ (n : Int) := by omega
          by_cases hcm : cap = 1
          · have ht0 : t = [] := List.eq_nil_of_length_eq_zero (by omega)
            have hn5 : n - 1 = 0 := by omega
            subst ht0
            have hcall : True := trivial
            go_wp2_with fail
            refine (implRegionsValid _ _ [] w3 (by simp) Rd.nil).mono ?_
            rintro e w4 ⟨b4, rfl, hb4, E4⟩
            obtain rfl : b4 = true := hb4.2 Ht.out
            clear hb4
            replace hrd := hrd.ext E4
            replace E := E.trans E4
            replace c0 := cell_ext E4 c0
            replace c1 := cell_ext E4 c1
            replace c2 := cell_ext E4 c2
            have E5 := (Ext.refl _).alloc (a := w4) (.cells #[.int .i64 x.f, .int .i64 x.t, .int .i64 x.r] 33)
            have ho := owns_lit_new (w := w4) (C := #[.int .i64 x.f, .int .i64 x.t, .int .i64 x.r]) (e := 33) (base := w4.heap.size) (n := 1) [x] encReg_len rfl rfl (by omega) (Nat.le_refl _)
            clear hcall E4 hrd3
            go_wp2_with (at_builtin; refine wpList_unguard rfl ?_; refine Hid.out (?_ : Hid _))
            unfold Hid
            refine (wpList_append_rd rfl _ _ 25 rfl w4.heap.size 33 _ 3 _ Try.underlying25 infoReg rfl (by decide) encReg_len encReg_one _ 1 [x] rfl ho rfl (some ⟨g, 0, none⟩) n _ (x :: ([] : List Reg)) rfl Hn.out (hrd.ext E5) (by omega) (by omega) E5.size ?_)
            intro v' w5 hown' hgr
            have hown2 : w5.ownsRow w4.heap.size 33 3 v' (x :: x :: ([] : List Reg)).length ((x :: x :: ([] : List Reg)).flatMap encReg) := by simpa using hown'
            have E6 : Ext w4 w5 := E5.grown hgr (fun k h => (ho.lt k h).1)
            replace E := E.trans E6
            have hlen2 : (x :: x :: ([] : List Reg)).length ≤ 9223372036854775807 := by simp only [List.length_cons]; omega
            have HL := Lib.hid (regs_twice x [])
            obtain ⟨L, hL⟩ : ∃ L, L = x :: x :: ([] : List Reg) := ⟨_, rfl⟩
            rw [← hL] at hown2 hlen2 HL
            clear hL
            obtain ⟨a2, cap2, rfl, hlcap2, hrd2, hshape2⟩ := view_owns encReg_len hown2
            clear hown' hown2 hgr ho E5 E6 hshape2 hrd
            go_wp2_with fail
            refine (implRegionsValid a2 cap2 L w5 hlen2 hrd2).mono ?_
            rintro e w6 ⟨b6, rfl, hb6, E7⟩
            obtain rfl : b6 = false := by
              cases b6 with
              | false => rfl
              | true => exact absurd (hb6.1 rfl) HL.out
            clear hb6
            go_wp2
            go_ret
            exact RetB.mk true rfl (by simp) (E.trans E7)
          · have hcall := implRegionsValid (some ⟨g, 3, none⟩) (cap - 1) t w3 (by omega) hrd3
            rw [hn1] at hcall
            go_wp2_with fail
            refine hcall.mono ?_
            rintro e w4 ⟨b4, rfl, hb4, E4⟩
            obtain rfl : b4 = true := hb4.2 Ht.out
            clear hb4
            replace hrd := hrd.ext E4
            replace E := E.trans E4
            replace c0 := cell_ext E4 c0
            replace c1 := cell_ext E4 c1
            replace c2 := cell_ext E4 c2
            have E5 := (Ext.refl _).alloc (a := w4) (.cells #[.int .i64 x.f, .int .i64 x.t, .int .i64 x.r] 33)
            have ho := owns_lit_new (w := w4) (C := #[.int .i64 x.f, .int .i64 x.t, .int .i64 x.r]) (e := 33) (base := w4.heap.size) (n := 1) [x] encReg_len rfl rfl (by omega) (Nat.le_refl _)
            clear hcall E4 hrd3
            go_wp2_with (at_builtin; refine wpList_unguard rfl ?_; refine Hid.out (?_ : Hid _))
            unfold Hid
            refine (wpList_append_rd rfl _ _ 25 rfl w4.heap.size 33 _ 3 _ Try.underlying25 infoReg rfl (by decide) encReg_len encReg_one _ 1 [x] rfl ho rfl (some ⟨g, 0, none⟩) n _ (x :: t) rfl Hn.out (hrd.ext E5) (by omega) (by omega) E5.size ?_)
            intro v' w5 hown' hgr
            have hown2 : w5.ownsRow w4.heap.size 33 3 v' (x :: x :: t).length ((x :: x :: t).flatMap encReg) := by simpa using hown'
            have E6 : Ext w4 w5 := E5.grown hgr (fun k h => (ho.lt k h).1)
            replace E := E.trans E6
            have hlen2 : (x :: x :: t).length ≤ 9223372036854775807 := by simp only [List.length_cons]; omega
            have HL := Lib.hid (regs_twice x t)
            obtain ⟨L, hL⟩ : ∃ L, L = x :: x :: t := ⟨_, rfl⟩
            rw [← hL] at hown2 hlen2 HL
            clear hL
            obtain ⟨a2, cap2, rfl, hlcap2, hrd2, hshape2⟩ := view_owns encReg_len hown2
            clear hown' hown2 hgr ho E5 E6 hshape2 hrd
            go_wp2_with fail
            refine (implRegionsValid a2 cap2 L w5 hlen2 hrd2).mono ?_
            rintro e w6 ⟨b6, rfl, hb6, E7⟩
            obtain rfl : b6 = false := by
              cases b6 with
              | false => rfl
              | true => exact absurd (hb6.1 rfl) HL.out
            clear hb6
            go_wp2
            go_ret
            exact RetB.mk true rfl (by simp) (E.trans E7)
end Go.Proofs.Ythajlaelaebmnaa
