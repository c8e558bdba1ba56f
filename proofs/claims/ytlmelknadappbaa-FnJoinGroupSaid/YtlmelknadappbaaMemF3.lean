/- FnJoinGroup: the plain law and the walk. Condition: the code is shorter than 2^63. -/
import Derived.Test.YtlmelknadappbaaDrawJ
namespace Go.Proofs.Ytlmelknadappbaa
open Go.RowKit

/-- What joining leaves. -/
def JoinOk (l L : List Mem) (n g : Int) (r : Nat) (x : Mem) : Prop := l[r]? = some x ∧ x.num = n ∧ L[r]? = some ⟨n, g, x.ses⟩ ∧ (∀ j, j ≠ r → L[j]? = l[j]?) ∧ (∀ j y, j ≠ r → l[j]? = some y → y.num ≠ n) ∧ MembersOk L ∧ L.length = l.length
theorem joinR_ok {l L : List Mem} {n g : Int} (h : JoinR l n g L true) : ∃ r x, JoinOk l L n g r x := by
  by_cases hv : MembersOk l
  rotate_left
  · have := (h.1 hv).2; cases this
  · obtain ⟨r, h1, h2⟩ := h.2 hv
    rcases h2 with ⟨_, hr0, x, hx, _, _, hL, hok⟩ | ⟨h3, _⟩
    · obtain ⟨k, rfl⟩ : ∃ k : Nat, r = k := ⟨r.toNat, by omega⟩
      obtain ⟨x', hx', hxn⟩ := h1.2.2.2.1 hr0
      simp only [Int.toNat_natCast] at hx hx' hL
      rw [hx] at hx'; cases hx'
      have hk := mem_lt hx
      refine ⟨k, x, hx, hxn, by rw [hL, List.getElem?_set_self hk, hxn], fun j hj => by rw [hL, List.getElem?_set_ne (Ne.symm hj)], fun j y hj hy e => hj (mems_inj hv hy hx (e.trans hxn.symm)), hok, by rw [hL, List.length_set]⟩
    · cases h3
theorem joinR_no {l L : List Mem} {n g : Int} (h : JoinR l n g L false) : L = l ∨ L = [] := by
  by_cases hv : MembersOk l
  · obtain ⟨r, h1, h2⟩ := h.2 hv
    rcases h2 with ⟨h3, _⟩ | ⟨_, hL, _⟩
    · cases h3
    · exact .inl hL
  · exact .inr (h.1 hv).1

set_option maxHeartbeats 8000000 in
theorem fnJoinGroup_any (ac : Option Addr) (capc : Nat) (code : List Int) (w : World) (hlc : code.length ≤ 9223372036854775807) (hcap : code.length ≤ capc) (hu : ∀ x ∈ code, 0 ≤ x ∧ x ≤ 255) (hcc : Rd 1 encU8 w ac code) :
    Calls Try.prog 8 #[.slice ac code.length capc] w (RetB True w) := by
  go_enter Try.func8, Try.ntmps8
  by_cases hbig : 1048576 < code.length
  · have hb : (1048576 : Int) < (code.length : Int) := by omega
    go_wp2
    go_ret
    exact RetB.mk true rfl (by simp) (Ext.refl _)
  have hb : (code.length : Int) ≤ 1048576 := by omega
  go_wp2_with fail
  refine (drawJoinGroup ac capc code w hlc hcap hu hcc).mono ?_
  rintro e w1 ⟨v, rfl, ⟨u, n, g, rfl, l, hl, hown⟩, E⟩
  obtain ⟨a, cap, rfl, hlcap, hrd, hshape⟩ := view_owns encMem_len hown
  clear hown hshape
  have ta : ∀ b : Bool, (b != b) = false := fun b => by simp
  go_wp2_with fail
  refine (implJoinGroup a cap l n g w1 (by omega) hlcap hrd).mono ?_
  rintro e w2 ⟨v2, L, ok, rfl, hR, ownL, E2⟩
  obtain ⟨a2, cap2, rfl, hlcap2, rdL, hshape2⟩ := view_owns encMem_len ownL
  have HR := Lib.hid hR
  clear hR ownL hshape2
  replace hrd := hrd.ext E2
  replace E := E.trans E2
  clear E2
  go_wp2_with fail
  refine (specJoinGroup a cap l n g w2 (by omega) hrd).mono ?_
  rintro e w3 ⟨v3, L', ok', rfl, hR, ownL', E2⟩
  obtain ⟨a3, cap3, rfl, hlcap3, rdL', hshape3⟩ := view_owns encMem_len ownL'
  obtain ⟨e1, e2⟩ := joinR_fun HR.out hR
  clear hR ownL' hshape3
  obtain rfl : ok = ok' := e2
  obtain rfl : L = L' := e1
  have hLl := joinR_le HR.out
  replace hrd := hrd.ext E2
  replace rdL := rdL.ext E2
  replace E := E.trans E2
  clear E2
  go_wp2_with fail
  refine (sameMems_any a2 a3 cap2 cap3 L L w3 (by omega) (by omega) rdL rdL').mono ?_
  rintro e w4 ⟨b4, rfl, hb4, E2⟩
  obtain rfl : b4 = true := hb4.2 rfl
  replace hrd := hrd.ext E2
  replace rdL := rdL.ext E2
  replace E := E.trans E2
  clear hb4 E2 rdL'
  have tok := ta ok
  clear ta
  cases ok with
  | false =>
    have hno := joinR_no HR.out
    go_wp2_with fail
    refine (sameMems_any a2 a cap2 cap L l w4 (by omega) (by omega) rdL hrd).mono ?_
    rintro e w5 ⟨b5, rfl, hb5, E2⟩
    replace E := E.trans E2
    clear E2
    cases b5 with
    | true =>
      clear hb5 hno
      go_wp2_with fail
      refine (alive_any _).mono ?_
      rintro e w6 ⟨b3, rfl, hb3, E2⟩
      obtain rfl : b3 = true := hb3.2 trivial
      go_wp2
      go_ret
      exact RetB.mk true rfl (by simp) (E.trans E2)
    | false =>
      obtain rfl : L = [] := hno.resolve_left (fun h => Bool.noConfusion (hb5.2 h))
      clear hb5 hno
      go_wp2_with fail
      refine (alive_any _).mono ?_
      rintro e w6 ⟨b3, rfl, hb3, E2⟩
      obtain rfl : b3 = true := hb3.2 trivial
      go_wp2
      go_ret
      exact RetB.mk true rfl (by simp) (E.trans E2)
  | true =>
    obtain ⟨r, x, hr⟩ := joinR_ok HR.out
    have Hr := Lib.hid hr
    clear hr
    go_wp2
    go_loopw [10] (fun i wr => ∃ k : Nat, k ≤ L.length ∧ i = .int .i64 (k : Int) ∧ Ext w4 wr) (fun i _ => L.length - (intOf i).toNat)
    case atStart => exact ⟨0, Nat.zero_le _, rfl, Ext.refl _⟩
    case round =>
      obtain ⟨k, hk, rfl, hb5⟩ := hrel
      by_cases hlt : k < L.length
      · obtain ⟨y, b, off, hy, rfl, c0, c1, c2⟩ := atMem (rdL.ext hb5) hlt
        have hkl : k < l.length := by have := Hr.out.2.2.2.2.2.2; omega
        obtain ⟨z, b', off', hz, rfl, d0, d1, d2⟩ := atMem (hrd.ext hb5) hkl
        have i0 : (0 : Int) ≤ (k : Int) := by omega
        have i1 : (k : Int) < (L.length : Int) := by omega
        have i2 : (k : Int) < (l.length : Int) := by omega
        by_cases hkr : k = r
        · subst hkr
          rw [Hr.out.2.2.1] at hy
          cases hy
          rw [Hr.out.1] at hz
          cases hz
          simp only at c0 c1 c2
          have t1 : (n == n) = true := by simp
          have t2 : (n != n) = false := by simp
          have t3 : (g != g) = false := by simp
          have t4 : (x.ses != x.ses) = false := by simp
          go_wp2
          go_quiet (fail)
          go_wp2
          go_roundw
          case rel => exact ⟨k + 1, by omega, by go_num, hb5.drewN _⟩
          case measure => simp [intOf]; omega
        · rw [Hr.out.2.2.2.1 k hkr, hz] at hy
          obtain rfl : z = y := Option.some.inj hy
          clear hy
          have hzn := Hr.out.2.2.2.2.1 k z hkr hz
          have t1 : (z.num == n) = false := by simpa using hzn
          have t2 : (z.num != n) = true := by simpa using hzn
          have t4 : (z.ses != z.ses) = false := by simp
          clear hzn hz
          have e1 := neqMem_same z
          have e2 := fun w => guardMem .neq (.tmp 103) (.tmp 107) #[.int .i64 z.num, .int .i64 z.grp, .int .i64 z.ses] #[.int .i64 z.num, .int .i64 z.grp, .int .i64 z.ses] w
          go_wp2
          go_quiet (fail)
          clear e1 e2
          go_wp2
          go_roundw
          case rel => exact ⟨k + 1, by omega, by go_num, hb5.drewN _⟩
          case measure => simp [intOf]; omega
      · go_wp2_with fail
        refine (implMembersValid a2 cap2 L _ (by omega) hlcap2 (rdL.ext hb5)).mono ?_
        rintro e w7 ⟨b7, rfl, hb7, E7⟩
        obtain rfl : b7 = true := hb7.2 Hr.out.2.2.2.2.2.1
        clear hb7
        go_wp2
        go_ret
        exact RetB.mk true rfl (by simp) ((E.trans hb5).trans E7)
end Go.Proofs.Ytlmelknadappbaa
