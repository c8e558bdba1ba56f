/- FnSetLock: the walk. Condition: the code is shorter than 2^63. -/
import Derived.Test.YtaofbdhljnhlnaaDrawLc2
import Derived.Test.YtaofbdhljnhlnaaLckF1
import Derived.Test.YtaofbdhljnhlnaaLckQ
namespace Go.Proofs.Ytaofbdhljnhlnaa
open Go.RowKit

set_option maxHeartbeats 8000000 in
theorem fnSetLock_any (ac : Option Addr) (capc : Nat) (code : List Int) (w : World) (hlc : code.length ≤ 9223372036854775807) (hcap : code.length ≤ capc) (hu : ∀ x ∈ code, 0 ≤ x ∧ x ≤ 255) (hcc : Rd 1 encU8 w ac code) :
    Calls Try.prog 9 #[.slice ac code.length capc] w (RetB True w) := by
  go_enter Try.func9, Try.ntmps9
  by_cases hbig : 1048576 < code.length
  · have hb : (1048576 : Int) < (code.length : Int) := by omega
    go_wp2
    go_ret
    exact RetB.mk true rfl (by simp) (Ext.refl _)
  have hb : (code.length : Int) ≤ 1048576 := by omega
  go_wp2_with fail
  refine (drawSetLock ac capc code w hlc hcap hu hcc).mono ?_
  rintro e w1 ⟨v, rfl, ⟨u, x, rfl, l, hl, hown⟩, E⟩
  obtain ⟨a, cap, rfl, hlcap, hrd, hshape⟩ := view_owns encLck_len hown
  clear hown hshape
  have hbx := (Ext.refl w1).alloc (.cells #[.int .i64 x.who, .int .i64 x.f, .int .i64 x.t, .bool x.alone] 32)
  have n0 := cell_new w1 #[.int .i64 x.who, .int .i64 x.f, .int .i64 x.t, .bool x.alone] 32 0 (.int .i64 x.who) rfl
  have n1 := cell_new w1 #[.int .i64 x.who, .int .i64 x.f, .int .i64 x.t, .bool x.alone] 32 1 (.int .i64 x.f) rfl
  have n2 := cell_new w1 #[.int .i64 x.who, .int .i64 x.f, .int .i64 x.t, .bool x.alone] 32 2 (.int .i64 x.t) rfl
  have n3 := cell_new w1 #[.int .i64 x.who, .int .i64 x.f, .int .i64 x.t, .bool x.alone] 32 3 (.bool x.alone) rfl
  replace hrd := hrd.ext hbx
  replace E := E.trans hbx
  have ta : ∀ b : Bool, (b != b) = false := fun b => by simp
  go_wp2_with fail
  generalize (w1.alloc (.cells #[.int .i64 x.who, .int .i64 x.f, .int .i64 x.t, .bool x.alone] 32)) = wb at *
  refine (implSetLock a cap l x wb (by omega) hlcap hrd).mono ?_
  rintro e w2 ⟨v2, L, ok, rfl, hR, ownL, E2⟩
  obtain ⟨a2, cap2, rfl, hlcap2, rdL, hshape2⟩ := view_owns encLck_len ownL
  have HR := Lib.hid hR
  clear hR ownL hshape2
  replace hrd := hrd.ext E2
  replace E := E.trans E2
  replace n0 := cell_ext E2 n0
  replace n1 := cell_ext E2 n1
  replace n2 := cell_ext E2 n2
  replace n3 := cell_ext E2 n3
  clear E2
  go_wp2_with fail
  refine (specSetLock a cap l x w2 (by omega) hrd).mono ?_
  rintro e w3 ⟨v3, L', ok', rfl, hR, ownL', E2⟩
  obtain ⟨a3, cap3, rfl, hlcap3, rdL', hshape3⟩ := view_owns encLck_len ownL'
  obtain ⟨e1, e2⟩ := setR_fun HR.out hR
  clear hR ownL' hshape3
  obtain rfl : ok = ok' := e2
  obtain rfl : L = L' := e1
  have hLl := setR_len HR.out (by omega)
  replace hrd := hrd.ext E2
  replace rdL := rdL.ext E2
  replace E := E.trans E2
  replace n0 := cell_ext E2 n0
  replace n1 := cell_ext E2 n1
  replace n2 := cell_ext E2 n2
  replace n3 := cell_ext E2 n3
  clear E2
  go_wp2_with fail
  refine (sameLcks_any a2 a3 cap2 cap3 L L w3 (by omega) (by omega) rdL rdL').mono ?_
  rintro e w4 ⟨b4, rfl, hb4, E2⟩
  obtain rfl : b4 = true := hb4.2 rfl
  replace hrd := hrd.ext E2
  replace rdL := rdL.ext E2
  replace E := E.trans E2
  replace n0 := cell_ext E2 n0
  replace n1 := cell_ext E2 n1
  replace n2 := cell_ext E2 n2
  replace n3 := cell_ext E2 n3
  clear hb4 E2 rdL'
  have tok := ta ok
  clear ta
  cases ok with
  | false =>
    have hno := setR_none HR.out
    go_wp2_with fail
    refine (sameLcks_any a2 a cap2 cap L l w4 (by omega) (by omega) rdL hrd).mono ?_
    rintro e w5 ⟨b5, rfl, hb5, E2⟩
    replace E := E.trans E2
    replace n0 := cell_ext E2 n0
    replace n1 := cell_ext E2 n1
    replace n2 := cell_ext E2 n2
    replace n3 := cell_ext E2 n3
    clear E2
    cases b5 with
    | true =>
      clear hb5 hno
      go_wp2_with fail
      refine (alive_any _).mono ?_
      rintro e w6 ⟨b3, rfl, hb3, E2⟩
      obtain rfl : b3 = true := hb3.2 trivial
      go_wp2
      go_ret
      exact RetB.mk true rfl (by simp) (E.trans E2)
    | false =>
      obtain rfl : L = [] := hno.resolve_left (fun h => Bool.noConfusion (hb5.2 h))
      clear hb5 hno
      go_wp2_with fail
      refine (alive_any _).mono ?_
      rintro e w6 ⟨b3, rfl, hb3, E2⟩
      obtain rfl : b3 = true := hb3.2 trivial
      go_wp2
      go_ret
      exact RetB.mk true rfl (by simp) (E.trans E2)
  | true =>
    have hback := fun A B one two => @free_back l L A B x one two HR.out
    have Hback := Lib.hid hback
    have Hok := Lib.hid (setR_ok HR.out)
    clear hback
    have hL10 : L.length ≤ 10 := Hok.out.2.2.2.2.1
    clear hLl
    go_wp2_with fail
    refine (implFreeBytes a2 cap2 L x.who x.f x.t w4 (by omega) hlcap2 rdL).mono ?_
    rintro e w5 ⟨v5, A, one, rfl, hA, ownA, E5⟩
    obtain ⟨a5, cap5, rfl, hlcap5, rdA, _⟩ := view_owns encLck_len ownA
    have HA := Lib.hid hA
    clear hA ownA
    replace hrd := hrd.ext E5
    replace rdL := rdL.ext E5
    replace E := E.trans E5
    replace n0 := cell_ext E5 n0
    replace n1 := cell_ext E5 n1
    replace n2 := cell_ext E5 n2
    replace n3 := cell_ext E5 n3
    clear E5
    go_wp2_with fail
    refine (implFreeBytes a cap l x.who x.f x.t w5 (by omega) hlcap hrd).mono ?_
    rintro e w6 ⟨v6, B, two, rfl, hB, ownB, E6⟩
    obtain ⟨a6, cap6, rfl, hlcap6, rdB, _⟩ := view_owns encLck_len ownB
    obtain ⟨h1, h2, h3⟩ := Hback.out A B one two HA.out hB
    subst h1 h2 h3
    have hA2 := freeR_len hB (by omega)
    clear hB ownB
    replace rdA := rdA.ext E6
    replace rdL := rdL.ext E6
    replace E := E.trans E6
    replace n0 := cell_ext E6 n0
    replace n1 := cell_ext E6 n1
    replace n2 := cell_ext E6 n2
    replace n3 := cell_ext E6 n3
    clear E6 HA Hback hrd
    obtain ⟨m, hm⟩ : ∃ m, L.length = m + 1 := ⟨L.length - 1, by rw [Hok.out.2.2.1]; simp [setL]⟩
    have hLx : L[m]? = some x := by
      have h5 := Hok.out.2.2.1
      have h6 : (freeL l x.who x.f x.t).length = m := by
        have := hm
        rw [h5] at this
        simpa [setL] using this
      rw [h5, setL, List.getElem?_append_right (by omega), h6]
      simp
    obtain ⟨y, b, off, hy, rfl, c0, c1, c2, c3⟩ := atLck rdL (show m < L.length by omega)
    rw [hLx] at hy
    obtain rfl := Option.some.inj hy
    clear hy hLx
    have HLok := Lib.hid Hok.out.2.2.2.1
    have hm1 : (L.length : Int) - 1 = (m : Int) := by omega
    have s1 : IntKind.i64.wrap (m : Int) = (m : Int) := IntWalk.i64_in _ (by omega)
    have i0 : (0 : Int) ≤ (m : Int) := by omega
    have i1 : (m : Int) < (L.length : Int) := by omega
    have i2 : m < L.length := by omega
    clear Hok HR hm
    have q0 := ExtW.cell c0
    have q1 := ExtW.cell c1
    have q2 := ExtW.cell c2
    have q3 := ExtW.cell c3
    have m0 := ExtW.cell n0
    have m1 := ExtW.cell n1
    have m2 := ExtW.cell n2
    have m3 := ExtW.cell n3
    have b1 := ExtW.lt c0
    have b2 := ExtW.lt n0
    have e1 := eqlLck_same x
    have e2 := fun w => guardLck .eql (.tmp 85) (.tmp 86) #[.int .i64 x.who, .int .i64 x.f, .int .i64 x.t, .bool x.alone] #[.int .i64 x.who, .int .i64 x.f, .int .i64 x.t, .bool x.alone] w
    clear c0 c1 c2 c3 n0 n1 n2 n3
    go_wp2
    (refine wp_region_quiet_ext (by kernel_rfl) (by kernel_rfl) ?_; (repeat (go_big_quiet_step ((first | (go_at_call 14; exact Calls.at_b (T := LocksOk L) true (by simp [HLok.out]) (implLocksValid _ _ L _ (by omega) hlcap2 (rdL.ext (ExtW.h _)))) | (go_at_call 27; exact Calls.at_b (T := A = A) true (by simp) (sameLcks_any _ _ _ _ A A _ (by omega) (by omega) (rdA.ext (ExtW.h _)) (rdB.ext (ExtW.h _)))))))); refine wpQuiet_nil ?_; intro _ hw'; obtain ⟨sq, hw''⟩ := hw'; subst hw'')
    obtain ⟨w8, hw8⟩ := sq
    go_wp2
    go_ret
    exact RetB.mk true rfl (by simp) (E.trans hw8)
end Go.Proofs.Ytaofbdhljnhlnaa
