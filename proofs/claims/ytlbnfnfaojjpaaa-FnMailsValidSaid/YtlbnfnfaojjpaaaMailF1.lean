/- FnMailsValid: the walk. Condition: the code is shorter than 2^63. -/
import Derived.Test.YtlbnfnfaojjpaaaDrawMail
import Derived.Test.YtlbnfnfaojjpaaaAlive
import Derived.Test.YtlbnfnfaojjpaaaView
namespace Go.Proofs.Ytlbnfnfaojjpaaa
open Go.RowKit

theorem mails_zero (l : List Mail) : ¬ MailsOk (⟨0, ⟨#[]⟩⟩ :: l) := fun h => by
  have := (h.1 0 _ rfl).1.1
  exact absurd this (by decide)
theorem mails_drop {l : List Mail} (h : MailsOk l) (k : Nat) : MailsOk (l.drop k) :=
  ⟨fun j x hx => h.1 (k + j) x (by rwa [List.getElem?_drop] at hx), by rw [List.length_drop]; have := h.2; omega⟩

set_option maxHeartbeats 4000000 in
theorem fnMailsValid_any (ac : Option Addr) (capc : Nat) (code : List Int) (w : World) (hlc : code.length ≤ 9223372036854775807) (hcap : code.length ≤ capc) (hu : ∀ x ∈ code, 0 ≤ x ∧ x ≤ 255) (hcc : Rd 1 encU8 w ac code) :
    Calls Try.prog 3 #[.slice ac code.length capc] w (RetB True w) := by
  go_enter Try.func3, Try.ntmps3
  by_cases hbig : 1048576 < code.length
  · have hb : (1048576 : Int) < (code.length : Int) := by omega
    go_wp2
    go_ret
    exact RetB.mk true rfl (by simp) (Ext.refl _)
  · have hb : (code.length : Int) ≤ 1048576 := by omega
    go_wp2_with fail
    refine (drawMailsValid ac capc code w hlc hcap hu hcc).mono ?_
    rintro e w1 ⟨v, rfl, ⟨l, hl, h17, hown⟩, E⟩
    obtain ⟨a, cap, rfl, hlcap, hrd, hshape⟩ := view_owns encMail_len hown
    clear hown
    go_wp2_with fail
    refine (implMailsValid a cap l w1 (by omega) hrd).mono ?_
    rintro e w2 ⟨ok, rfl, hok, E2⟩
    have Hok := Lib.hid hok
    clear hok
    replace hrd := hrd.ext E2
    replace E := E.trans E2
    clear E2
    go_wp2_with fail
    refine (specMailsValid a cap l w2 (by omega) hrd).mono ?_
    rintro e w3 ⟨ok', rfl, hok', E2⟩
    obtain rfl : ok = ok' := Bool.eq_iff_iff.2 (Hok.out.trans hok'.symm)
    clear hok'
    replace hrd := hrd.ext E2
    replace E := E.trans E2
    clear E2
    have tb : (ok != ok) = false := by simp
    have E2 := (Ext.refl w3).alloc (.cells #[.int .i64 0, .string ⟨#[]⟩] 27)
    have ho := owns_lit_new (w := w3) (C := #[.int .i64 0, .string ⟨#[]⟩]) (e := 27) (base := w3.heap.size) (n := 1) [(⟨0, ⟨#[]⟩⟩ : Mail)] encMail_len rfl rfl (by omega) (Nat.le_refl _)
    go_wp2_with (at_builtin; refine wpList_append_rd rfl _ _ 23 rfl w3.heap.size 27 _ 2 _ Try.underlying23 infoMail rfl (by decide) encMail_len encMail_one _ 1 [(⟨0, ⟨#[]⟩⟩ : Mail)] rfl ho rfl a l.length cap l rfl rfl (hrd.ext E2) (by omega) (by omega) E2.size ?_)
    intro v' w4 hown' hgr
    have hown2 : w4.ownsRow w3.heap.size 27 2 v' ((⟨0, ⟨#[]⟩⟩ : Mail) :: l).length (((⟨0, ⟨#[]⟩⟩ : Mail) :: l).flatMap encMail) := by simpa using hown'
    have E4 : Ext w3 w4 := E2.grown hgr (fun k h => (ho.lt k h).1)
    replace hrd := hrd.ext E4
    replace E := E.trans E4
    obtain ⟨a2, cap2, rfl, hlcap2, hrd2, hshape2⟩ := view_owns encMail_len hown2
    clear hown' hown2 hgr ho E2 E4 hshape2
    have hlen2 : ((⟨0, ⟨#[]⟩⟩ : Mail) :: l).length ≤ 9223372036854775807 := by simp only [List.length_cons]; omega
    go_wp2_with fail
    refine (implMailsValid a2 cap2 ((⟨0, ⟨#[]⟩⟩ : Mail) :: l) w4 hlen2 hrd2).mono ?_
    rintro e w5 ⟨b2, rfl, hb2, E2⟩
    obtain rfl : b2 = false := by
      cases b2 with
      | false => rfl
      | true => exact absurd (hb2.1 rfl) (mails_zero l)
    replace hrd := hrd.ext E2
    replace E := E.trans E2
    clear hb2 E2 hrd2
    cases ok with
    | false =>
      go_wp2_with fail
      refine (alive_any _).mono ?_
      rintro e w6 ⟨b3, rfl, hb3, E2⟩
      obtain rfl : b3 = true := hb3.2 trivial
      go_wp2
      go_ret
      exact RetB.mk true rfl (by simp) (E.trans E2)
    | true =>
      have hok := mails_drop (Hok.out.1 rfl) (l.length / 2)
      have Hok2 := Lib.hid hok
      clear hok Hok
      have hd : (l.drop (l.length / 2)).length = l.length - l.length / 2 := List.length_drop ..
      have d1 : (l.length : Int).tdiv 2 = ((l.length / 2 : Nat) : Int) := by rw [Int.tdiv_eq_ediv_of_nonneg (by omega)]; push_cast; rfl
      have d2 : (l.length : Int) / 2 = ((l.length / 2 : Nat) : Int) := by push_cast; rfl
      have d3 : l.length / 2 ≤ l.length := Nat.div_le_self _ _
      rcases hshape with ⟨rfl, rfl, rfl⟩ | ⟨g, rfl, hg⟩
      · go_wp2_with fail
        refine (implMailsValid none 0 [] w5 (by simp) Rd.nil).mono ?_
        rintro e w6 ⟨b3, rfl, hb3, E3⟩
        obtain rfl : b3 = true := hb3.2 (by simpa using Hok2.out)
        clear hb3
        go_wp2_with fail
        refine (alive_any _).mono ?_
        rintro e w7 ⟨b4, rfl, hb4, E4⟩
        obtain rfl : b4 = true := hb4.2 trivial
        go_wp2
        go_ret
        exact RetB.mk true rfl (by simp) ((E.trans E3).trans E4)
      · have hrd3 := hrd.drop (l.length / 2)
        obtain ⟨L, hL⟩ : ∃ L, L = l.drop (l.length / 2) := ⟨_, rfl⟩
        rw [← hL] at hrd3 Hok2 hd
        clear hL
        generalize l.length / 2 = m at *
        rw [Nat.zero_add] at hrd3
        by_cases hcm : cap = m
        · have hL0 : L = [] := List.eq_nil_of_length_eq_zero (by omega)
          have hlm : l.length - m = 0 := by omega
          subst hL0
          go_wp2_with fail
          refine (implMailsValid _ _ [] w5 (by simp) Rd.nil).mono ?_
          rintro e w6 ⟨b3, rfl, hb3, E3⟩
          obtain rfl : b3 = true := hb3.2 Hok2.out
          clear hb3
          go_wp2_with fail
          refine (alive_any _).mono ?_
          rintro e w7 ⟨b4, rfl, hb4, E4⟩
          obtain rfl : b4 = true := hb4.2 trivial
          go_wp2
          go_ret
          exact RetB.mk true rfl (by simp) ((E.trans E3).trans E4)
        · have hcall := implMailsValid (some ⟨g, m * 2, none⟩) (cap - m) L w5 (by omega) hrd3
          rw [hd] at hcall
          go_wp2_with fail
          refine hcall.mono ?_
          rintro e w6 ⟨b3, rfl, hb3, E3⟩
          obtain rfl : b3 = true := hb3.2 Hok2.out
          clear hb3
          go_wp2_with fail
          refine (alive_any _).mono ?_
          rintro e w7 ⟨b4, rfl, hb4, E4⟩
          obtain rfl : b4 = true := hb4.2 trivial
          go_wp2
          go_ret
          exact RetB.mk true rfl (by simp) ((E.trans E3).trans E4)
end Go.Proofs.Ytlbnfnfaojjpaaa
