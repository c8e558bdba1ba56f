/- FnLocksValid: the walk. Condition: the code is shorter than 2^63. -/
import Derived.Test.YtaofbdhljnhlnaaDrawLck
import Derived.Test.YtaofbdhljnhlnaaAlive
import Derived.Test.YtaofbdhljnhlnaaGuard
import Derived.Test.YtaofbdhljnhlnaaLckP
namespace Go.Proofs.Ytaofbdhljnhlnaa
open Go.RowKit

set_option maxHeartbeats 4000000 in
theorem fnLocksValid_any (ac : Option Addr) (capc : Nat) (code : List Int) (w : World) (hlc : code.length ≤ 9223372036854775807) (hcap : code.length ≤ capc) (hu : ∀ x ∈ code, 0 ≤ x ∧ x ≤ 255) (hcc : Rd 1 encU8 w ac code) :
    Calls Try.prog 5 #[.slice ac code.length capc] w (RetB True w) := by
  go_enter Try.func5, Try.ntmps5
  by_cases hbig : 1048576 < code.length
  · have hb : (1048576 : Int) < (code.length : Int) := by omega
    go_wp2
    go_ret
    exact RetB.mk true rfl (by simp) (Ext.refl _)
  · have hb : (code.length : Int) ≤ 1048576 := by omega
    go_wp2_with fail
    refine (drawLocksValid ac capc code w hlc hcap hu hcc).mono ?_
    rintro e w1 ⟨v, rfl, ⟨l, hl, hown⟩, E⟩
    obtain ⟨a, cap, rfl, hlcap, hrd, hshape⟩ := view_owns encLck_len hown
    clear hown
    go_wp2_with fail
    refine (implLocksValid a cap l w1 (by omega) hlcap hrd).mono ?_
    rintro e w2 ⟨ok, rfl, hok, E2⟩
    have Hok := Lib.hid hok
    clear hok
    replace hrd := hrd.ext E2
    replace E := E.trans E2
    clear E2
    go_wp2_with fail
    refine (specLocksValid a cap l w2 (by omega) hrd).mono ?_
    rintro e w3 ⟨ok', rfl, hok', E2⟩
    obtain rfl : ok = ok' := Bool.eq_iff_iff.2 (Hok.out.trans hok'.symm)
    clear hok'
    replace hrd := hrd.ext E2
    replace E := E.trans E2
    clear E2
    have tb : (ok != ok) = false := by simp
    cases ok with
    | false =>
      clear Hok
      go_wp2_with fail
      refine (alive_any _).mono ?_
      rintro e w6 ⟨b3, rfl, hb3, E2⟩
      obtain rfl : b3 = true := hb3.2 trivial
      go_wp2
      go_ret
      exact RetB.mk true rfl (by simp) (E.trans E2)
    | true =>
      have Hok2 := Lib.hid (Hok.out.1 rfl)
      clear Hok
      cases l with
      | nil =>
        go_wp2_with fail
        refine (alive_any _).mono ?_
        rintro e w6 ⟨b3, rfl, hb3, E2⟩
        obtain rfl : b3 = true := hb3.2 trivial
        go_wp2
        go_ret
        exact RetB.mk true rfl (by simp) (E.trans E2)
      | cons x t =>
        rcases hshape with ⟨_, h0, _⟩ | ⟨g, rfl, hg⟩
        · cases h0
        · have Hd := Lib.hid (locks_drop Hok2.out ((x :: t).length / 2))
          have hrd3 := hrd.drop ((x :: t).length / 2)
          obtain ⟨y, b, off, hy, hby, c0, c1, c2, c3⟩ := atLck hrd (show 0 < (x :: t).length by simp)
          obtain ⟨rfl, rfl⟩ : g = b ∧ 0 = off := by simpa using hby
          obtain rfl : x = y := by simpa using hy
          clear hy hby
          simp only [Nat.zero_mul, Nat.zero_add] at c0 c1 c2 c3
          obtain ⟨n, hn⟩ : ∃ n, n = (x :: t).length := ⟨_, rfl⟩
          have hdl : ((x :: t).drop ((x :: t).length / 2)).length = (x :: t).length - (x :: t).length / 2 := List.length_drop ..
          have hn2 : 1 ≤ n := by rw [hn]; simp
          have hn3 : n ≤ cap := by rw [hn]; exact hlcap
          have hn4 : n ≤ 11 := by rw [hn]; omega
          rw [← hn] at hdl hrd3 Hd ⊢
          have Hn := Lib.hid hn
          clear hn hlcap hl
          obtain ⟨D, hD⟩ : ∃ D, D = (x :: t).drop (n / 2) := ⟨_, rfl⟩
          rw [← hD] at hdl hrd3 Hd
          clear hD
          have hn0 : (n : Int) ≠ 0 := by omega
          obtain ⟨m, hm⟩ : ∃ m, m = n / 2 := ⟨_, rfl⟩
          rw [← hm] at hdl hrd3
          have d1 : (n : Int).tdiv 2 = (m : Int) := by rw [Int.tdiv_eq_ediv_of_nonneg (by omega)]; omega
          have d2 : (n : Int) / 2 = (m : Int) := by omega
          have hmn : m < n := by omega
          have hmc : (m : Int) ≤ (cap : Int) := by omega
          have hmn2 : (m : Int) ≤ (n : Int) := by omega
          have hm0 : (0 : Int) ≤ (m : Int) := by omega
          have hcm : ¬ cap = m := by omega
          have hnn1 : (0 : Int) < (n : Int) := by omega
          rw [Nat.zero_add] at hrd3
          clear hm
          have hcall := implLocksValid (some ⟨g, m * 4, none⟩) (cap - m) D w3 (by omega) (by omega) hrd3
          rw [hdl] at hcall
          clear hdl
          go_wp2_with fail
          refine hcall.mono ?_
          rintro e w4 ⟨b4, rfl, hb4, E4⟩
          obtain rfl : b4 = true := hb4.2 Hd.out
          clear hb4
          replace hrd := hrd.ext E4
          replace E := E.trans E4
          replace c0 := cell_ext E4 c0
          replace c1 := cell_ext E4 c1
          replace c2 := cell_ext E4 c2
          replace c3 := cell_ext E4 c3
          have E5 := (Ext.refl _).alloc (a := w4) (.cells #[.int .i64 x.who, .int .i64 x.f, .int .i64 x.t, .bool x.alone] 32)
          have ho := owns_lit_new (w := w4) (C := #[.int .i64 x.who, .int .i64 x.f, .int .i64 x.t, .bool x.alone]) (e := 32) (base := w4.heap.size) (n := 1) [x] encLck_len rfl rfl (by omega) (Nat.le_refl _)
          clear hcall E4 hrd3
          go_wp2_with (at_builtin; refine wpList_unguard rfl ?_; refine Hid.out (?_ : Hid _))
          unfold Hid
          refine (wpList_append_rd rfl _ _ 25 rfl w4.heap.size 32 _ 4 _ Try.underlying25 infoLck rfl (by decide) encLck_len encLck_one _ 1 [x] rfl ho rfl (some ⟨g, 0, none⟩) n _ (x :: t) rfl Hn.out (hrd.ext E5) (by omega) (by omega) E5.size ?_)
          intro v' w5 hown' hgr
          have hown2 : w5.ownsRow w4.heap.size 32 4 v' (x :: x :: t).length ((x :: x :: t).flatMap encLck) := by simpa using hown'
          have E6 : Ext w4 w5 := E5.grown hgr (fun k h => (ho.lt k h).1)
          replace E := E.trans E6
          have hlen2 : (x :: x :: t).length ≤ 9223372036854775807 := by have := Hn.out; simp only [List.length_cons] at this ⊢; omega
          have HL := Lib.hid (locks_twice x t)
          obtain ⟨L, hL⟩ : ∃ L, L = x :: x :: t := ⟨_, rfl⟩
          rw [← hL] at hown2 hlen2 HL
          clear hL
          obtain ⟨a2, cap2, rfl, hlcap2, hrd2, hshape2⟩ := view_owns encLck_len hown2
          clear hown' hown2 hgr ho E5 E6 hshape2 hrd
          go_wp2_with fail
          refine (implLocksValid a2 cap2 L w5 hlen2 hlcap2 hrd2).mono ?_
          rintro e w6 ⟨b6, rfl, hb6, E7⟩
          obtain rfl : b6 = false := by
            cases b6 with
            | false => rfl
            | true => exact absurd (hb6.1 rfl) HL.out
          clear hb6
          go_wp2
          go_ret
          exact RetB.mk true rfl (by simp) (E.trans E7)
end Go.Proofs.Ytaofbdhljnhlnaa
