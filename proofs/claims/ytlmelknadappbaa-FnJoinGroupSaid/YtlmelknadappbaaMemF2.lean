/- FnNewSession: the plain law, the draw and the walk. Condition: the code is shorter than 2^63. -/
import Derived.Test.YtlmelknadappbaaMemF1
namespace Go.Proofs.Ytlmelknadappbaa
open Go.RowKit

theorem mems_ascend {l : List Mem} (h : MembersOk l) : ∀ (d i : Nat) (x y : Mem), l[i]? = some x → l[i + d + 1]? = some y → x.num < y.num := by
  intro d
  induction d with
  | zero =>
    intro i x y hx hy
    exact (h.1 (i + 1) (mem_lt hy) y hy).2.1 i x rfl hx
  | succ d ih =>
    intro i x y hx hy
    have hlt := mem_lt hy
    have hz : l[i + d + 1]? = some (l[i + d + 1]'(by omega)) := List.getElem?_eq_getElem (by omega)
    have h1 := ih i x _ hx hz
    have h2 := (h.1 (i + (d + 1) + 1) hlt y hy).2.1 (i + d + 1) _ rfl hz
    omega
theorem mems_inj {l : List Mem} (h : MembersOk l) {i j : Nat} {x y : Mem} (hx : l[i]? = some x) (hy : l[j]? = some y) (e : x.num = y.num) : i = j := by
  rcases Nat.lt_trichotomy i j with hij | hij | hij
  · have := mems_ascend h (j - i - 1) i x y hx (by rw [show i + (j - i - 1) + 1 = j by omega]; exact hy)
    omega
  · exact hij
  · have := mems_ascend h (i - j - 1) j y x hy (by rw [show j + (i - j - 1) + 1 = i by omega]; exact hx)
    omega

/-- What a new session leaves. -/
def NewOk (L : List Mem) (n : Int) (r : Nat) : Prop := L[r]? = some ⟨n, n, n⟩ ∧ (∀ j y, j ≠ r → L[j]? = some y → y.grp ≠ n ∧ y.num ≠ n) ∧ MembersOk L
theorem newR_ok {l L : List Mem} {n : Int} (h : NewR l n L true) : ∃ r, NewOk L n r := by
  by_cases hv : MembersOk l
  rotate_left
  · have := (h.1 hv).2; cases this
  · obtain ⟨r, h1, h2, h3⟩ := h.2 hv
    by_cases hs : Stays l n r
    · have := (h2 hs).2; cases this
    · obtain ⟨hL, _⟩ := h3 hs
      have hr0 : 0 ≤ r := by
        by_cases h : r < 0
        · exact absurd (.inl h) hs
        · omega
      obtain ⟨k, rfl⟩ : ∃ k : Nat, r = k := ⟨r.toNat, by omega⟩
      obtain ⟨x, hx, hxn⟩ := h1.2.2.2.1 hr0
      simp only [Int.toNat_natCast] at hx hL
      have hk := mem_lt hx
      have hg : ∀ (j : Nat) (y : Mem), l[j]? = some y → y.grp ≠ n := fun j y hy hg => hs (.inr ⟨j, y, hy, hg⟩)
      have hset : ∀ j, L[j]? = if k = j then some ⟨n, n, n⟩ else l[j]? := fun j => by
        rw [hL, List.getElem?_set]
        split
        · rename_i e; subst e; simp [hk]
        · rfl
      have hoth : ∀ j y, j ≠ k → L[j]? = some y → l[j]? = some y := fun j y hj hy => by rw [hset, if_neg (Ne.symm hj)] at hy; exact hy
      refine ⟨k, by rw [hset, if_pos rfl], fun j y hj hy => ?_, ?_⟩
      · have hy' := hoth j y hj hy
        exact ⟨hg j y hy', fun e => hj (mems_inj hv hy' hx (e.trans hxn.symm))⟩
      · have hkx := (hv.1 k hk x hx).1
        have hnn : 1 ≤ n ∧ n ≤ 99 := by have := hkx.1; omega
        refine ⟨fun i hi => ?_, by rw [hL, List.length_set]; exact hv.2⟩
        rw [hL, List.length_set] at hi
        intro y hy
        by_cases hik : i = k
        · subst hik
          rw [hset, if_pos rfl] at hy; cases hy
          refine ⟨⟨hnn, hnn, hnn⟩, fun m p hm hp => ?_, fun j p hj hp ha => ?_⟩
          · have := (hv.1 i hk x hx).2.1 m p hm (hoth m p (by omega) hp)
            simp only; omega
          · exact hg j p (hoth j p (by omega) hp) ha.1
        · have hy' := hoth i y hik hy
          have h5 := hv.1 i hi y hy'
          refine ⟨h5.1, fun m p hm hp => ?_, fun j p hj hp ha => ?_⟩
          · by_cases hmk : m = k
            · subst hmk
              rw [hset, if_pos rfl] at hp; cases hp
              have := h5.2.1 m x hm hx
              simp only; omega
            · exact h5.2.1 m p hm (hoth m p hmk hp)
          · by_cases hjk : j = k
            · subst hjk
              rw [hset, if_pos rfl] at hp; cases hp
              exact hg i y hy' ha.1.symm
            · exact h5.2.2 j p hj (hoth j p hjk hp) ha
theorem newR_again {L M : List Mem} {n : Int} {r : Nat} {ok : Bool} (h : NewOk L n r) (h' : NewR L n M ok) : ok = false := by
  obtain ⟨q, h1, h2, h3⟩ := h'.2 h.2.2
  exact (h2 (.inr ⟨r, _, h.1, rfl⟩)).2
theorem newR_no {l L : List Mem} {n : Int} (h : NewR l n L false) : L = l ∨ L = [] := by
  by_cases hv : MembersOk l
  · obtain ⟨r, h1, h2, h3⟩ := h.2 hv
    by_cases hs : Stays l n r
    · exact .inl (h2 hs).1
    · have := (h3 hs).2; cases this
  · exact .inr (h.1 hv).1

/-- A list in new memory and a number. -/
def MemsN (base : Nat) (K : Nat) (v : Value) (w : World) : Prop := ∃ u n, v = .tuple #[u, .int .i64 n] ∧ MemsD base K u w

set_option maxHeartbeats 1000000 in
theorem drawNewSession (a : Option Addr) (cap : Nat) (l : List Int) (w : World) (hl : l.length ≤ 9223372036854775807) (hcap : l.length ≤ cap) (hu : ∀ x ∈ l, 0 ≤ x ∧ x ≤ 255) (hc : Rd 1 encU8 w a l) :
    Calls Try.prog 24 #[.slice a l.length cap] w (RetV (MemsN w.heap.size 7) w) := by
  go_enter Try.func24, Try.ntmps24
  go_wp2_with fail
  refine (open_any a cap l w hl hcap hu hc).mono ?_
  rintro e w1 ⟨v, rfl, ⟨rfl, hs⟩, E⟩
  go_wp2_with fail
  refine (drawMembers _ _ _ _ hs (by omega) (by omega)).mono ?_
  rintro e w2 ⟨v, rfl, ⟨L, h1, h3⟩, hs2, hS⟩
  go_wp2_with fail
  refine (pick_any _ _ 7 _ hs2 (by omega)).mono ?_
  rintro e w3 ⟨v3, rfl, ⟨x, rfl, x0, x1, _⟩, hs3, hS3⟩
  have hx : 1 + x < 8 := by have := x1 (by omega); omega
  have hwx : IntKind.i64.wrap (1 + x) = 1 + x := IntWalk.i64_in _ (by omega)
  clear x1
  go_wp2
  go_ret2
  exact RetV.mk ⟨_, _, rfl, L, h1, ownsRow_base (ownsRow_step h3 hS3 hs.lt) E.size⟩ ((hS.trans hS3).toExt E (Nat.le_refl _))

set_option maxHeartbeats 8000000 in
theorem fnNewSession_any (ac : Option Addr) (capc : Nat) (code : List Int) (w : World) (hlc : code.length ≤ 9223372036854775807) (hcap : code.length ≤ capc) (hu : ∀ x ∈ code, 0 ≤ x ∧ x ≤ 255) (hcc : Rd 1 encU8 w ac code) :
    Calls Try.prog 7 #[.slice ac code.length capc] w (RetB True w) := by
  go_enter Try.func7, Try.ntmps7
  by_cases hbig : 1048576 < code.length
  · have hb : (1048576 : Int) < (code.length : Int) := by omega
    go_wp2
    go_ret
    exact RetB.mk true rfl (by simp) (Ext.refl _)
  have hb : (code.length : Int) ≤ 1048576 := by omega
  go_wp2_with fail
  refine (drawNewSession ac capc code w hlc hcap hu hcc).mono ?_
  rintro e w1 ⟨v, rfl, ⟨u, n, rfl, l, hl, hown⟩, E⟩
  obtain ⟨a, cap, rfl, hlcap, hrd, hshape⟩ := view_owns encMem_len hown
  clear hown hshape
  have ta : ∀ b : Bool, (b != b) = false := fun b => by simp
  go_wp2_with fail
  refine (implNewSession a cap l n w1 (by omega) hlcap hrd).mono ?_
  rintro e w2 ⟨v2, L, ok, rfl, hR, ownL, E2⟩
  obtain ⟨a2, cap2, rfl, hlcap2, rdL, hshape2⟩ := view_owns encMem_len ownL
  have HR := Lib.hid hR
  clear hR ownL hshape2
  replace hrd := hrd.ext E2
  replace E := E.trans E2
  clear E2
  go_wp2_with fail
  refine (specNewSession a cap l n w2 (by omega) hrd).mono ?_
  rintro e w3 ⟨v3, L', ok', rfl, hR, ownL', E2⟩
  obtain ⟨a3, cap3, rfl, hlcap3, rdL', hshape3⟩ := view_owns encMem_len ownL'
  obtain ⟨e1, e2⟩ := newR_fun HR.out hR
  clear hR ownL' hshape3
  obtain rfl : ok = ok' := e2
  obtain rfl : L = L' := e1
  have hLl := newR_le HR.out
  replace hrd := hrd.ext E2
  replace rdL := rdL.ext E2
  replace E := E.trans E2
  clear E2
  go_wp2_with fail
  refine (sameMems_any a2 a3 cap2 cap3 L L w3 (by omega) (by omega) rdL rdL').mono ?_
  rintro e w4 ⟨b4, rfl, hb4, E2⟩
  obtain rfl : b4 = true := hb4.2 rfl
  replace hrd := hrd.ext E2
  replace rdL := rdL.ext E2
  replace E := E.trans E2
  clear hb4 E2 rdL'
  have tok := ta ok
  clear ta
  cases ok with
  | false =>
    have hno := newR_no HR.out
    go_wp2_with fail
    refine (sameMems_any a2 a cap2 cap L l w4 (by omega) (by omega) rdL hrd).mono ?_
    rintro e w5 ⟨b5, rfl, hb5, E2⟩
    replace E := E.trans E2
    clear E2
    cases b5 with
    | true =>
      clear hb5 hno
      go_wp2_with fail
      refine (alive_any _).mono ?_
      rintro e w6 ⟨b3, rfl, hb3, E2⟩
      obtain rfl : b3 = true := hb3.2 trivial
      go_wp2
      go_ret
      exact RetB.mk true rfl (by simp) (E.trans E2)
    | false =>
      obtain rfl : L = [] := hno.resolve_left (fun h => Bool.noConfusion (hb5.2 h))
      clear hb5 hno
      go_wp2_with fail
      refine (alive_any _).mono ?_
      rintro e w6 ⟨b3, rfl, hb3, E2⟩
      obtain rfl : b3 = true := hb3.2 trivial
      go_wp2
      go_ret
      exact RetB.mk true rfl (by simp) (E.trans E2)
  | true =>
    obtain ⟨r, hr⟩ := newR_ok HR.out
    have Hr := Lib.hid hr
    have hrl : r < L.length := mem_lt hr.1
    clear hr
    go_wp2
    go_loopw [9, 10] (fun m i wr => ∃ k : Nat, k ≤ L.length ∧ i = .int .i64 (k : Int) ∧ m = .int .i64 (if r < k then 1 else 0) ∧ Ext w4 wr) (fun _ i _ => L.length - (intOf i).toNat)
    case atStart => exact ⟨0, Nat.zero_le _, rfl, rfl, Ext.refl _⟩
    case round =>
      obtain ⟨k, hk, rfl, rfl, hb5⟩ := hrel
      by_cases hlt : k < L.length
      · obtain ⟨y, b, off, hy, rfl, c0, c1, c2⟩ := atMem (rdL.ext hb5) hlt
        have i0 : (0 : Int) ≤ (k : Int) := by omega
        have i1 : (k : Int) < (L.length : Int) := by omega
        by_cases hkr : k = r
        · subst hkr
          rw [Hr.out.1] at hy
          cases hy
          simp only at c0 c1 c2
          have t1 : (n == n) = true := by simp
          have t2 : (n != n) = false := by simp
          have m0 : (if k < k then (1 : Int) else 0) = 0 := by simp
          have m1 : (if k < k + 1 then (1 : Int) else 0) = 1 := by simp
          go_wp2
          go_roundw
          case rel => exact ⟨k + 1, by omega, by go_num, by simp, hb5⟩
          case measure => simp [intOf]; omega
        · obtain ⟨g1, g2⟩ := Hr.out.2.1 k y hkr hy
          have t1 : (y.grp == n) = false := by simpa using g1
          have t2 : (y.num == n) = false := by simpa using g2
          have hm : (if r < k + 1 then (1 : Int) else 0) = if r < k then 1 else 0 := by
            by_cases h : r < k
            · rw [if_pos h, if_pos (by omega)]
            · rw [if_neg h, if_neg (by omega)]
          clear hy g1 g2
          have Hm := Lib.hid hm
          clear hm
          generalize (if r < k then (1 : Int) else 0) = q at *
          go_wp2
          go_roundw
          case rel => exact ⟨k + 1, by omega, by go_num, by rw [Hm.out], hb5⟩
          case measure => simp [intOf]; omega
      · have hm : (if r < k then (1 : Int) else 0) = 1 := if_pos (by omega)
        rw [hm]
        clear hm
        go_wp2_with fail
        refine (implNewSession a2 cap2 L n _ (by omega) hlcap2 (rdL.ext hb5)).mono ?_
        rintro e w6 ⟨v6, L6, ok6, rfl, hR6, own6, E6⟩
        obtain rfl := newR_again Hr.out hR6
        clear hR6 own6
        go_wp2_with fail
        refine (implMembersValid a2 cap2 L _ (by omega) hlcap2 ((rdL.ext hb5).ext E6)).mono ?_
        rintro e w7 ⟨b7, rfl, hb7, E7⟩
        obtain rfl : b7 = true := hb7.2 Hr.out.2.2
        clear hb7
        go_wp2
        go_ret
        exact RetB.mk true rfl (by simp) (((E.trans hb5).trans E6).trans E7)
end Go.Proofs.Ytlmelknadappbaa
