/- FnLockHolder: the plain law and the walk. Condition: the code is shorter than 2^63. -/
import Derived.Test.YtaofbdhljnhlnaaLckF2
namespace Go.Proofs.Ytaofbdhljnhlnaa
open Go.RowKit

def othersL (l : List Lck) (x : Lck) : List Lck := l.filter (fun p => p.who != x.who)
theorem othersL_step {l : List Lck} {k : Nat} {p x : Lck} (hp : l[k]? = some p) : othersL (l.take (k + 1)) x = othersL (l.take k) x ++ if (p.who != x.who) = true then [p] else [] := by
  simp only [othersL]
  rw [List.take_add_one, hp, List.filter_append]
  congr 1
  cases hq : (p.who != x.who) <;> simp [hq]
theorem any_step {l : List Lck} {k : Nat} {p : Lck} (n : Int) (hp : l[k]? = some p) : (l.take (k + 1)).any (fun p => p.who == n) = ((l.take k).any (fun p => p.who == n) || (p.who == n)) := by
  rw [List.take_add_one, hp, List.any_append]
  simp
theorem hold_found {x : Lck} : ∀ {l : List Lck}, holdL l x ≠ 0 → ∃ p ∈ l, blocksL p x ∧ p.who = holdL l x
  | [], h => absurd rfl h
  | q :: l, h => by
    by_cases hb : blocksL q x
    · exact ⟨q, by simp, hb, by rw [holdL, if_pos hb]⟩
    · rw [holdL, if_neg hb] at h ⊢
      obtain ⟨p, hp, h1, h2⟩ := hold_found h
      exact ⟨p, by simp [hp], h1, h2⟩
theorem others_le (l : List Lck) (x : Lck) : (othersL l x).length ≤ l.length := List.length_filter_le _ _
theorem others_clash {l : List Lck} {x : Lck} (h : holdL l x ≠ 0) : ¬ LocksOk (othersL l x ++ [x]) := by
  obtain ⟨p, hp, hb, _⟩ := hold_found h
  intro hk
  have h2 := (List.pairwise_append.1 (locks_iff.1 hk).2.1).2.2 p (List.mem_filter.2 ⟨hp, by simpa using hb.1⟩) x (by simp)
  exact h2 ⟨hb.2.1, .inr hb.2.2⟩
theorem others_fine {l : List Lck} {x : Lck} (hl : LocksOk l) (hx : okLck x) (h : holdL l x = 0) (h10 : (othersL l x).length ≠ 10) : LocksOk (othersL l x ++ [x]) := by
  obtain ⟨l1, l2, l3⟩ := locks_iff.1 hl
  have hb := hold_zero (x := x) (fun p hp => (l1 p hp).1.1) h
  have hle := others_le l x
  refine locks_iff.2 ⟨fun y hy => ?_, List.pairwise_append.2 ⟨l2.sublist (List.filter_sublist), by simp, fun p hp z hz => ?_⟩, by rw [List.length_append, List.length_singleton]; omega⟩
  · rcases List.mem_append.1 hy with hy | hy
    · exact l1 y (List.mem_filter.1 hy).1
    · rw [List.mem_singleton.1 hy]; exact hx
  · rw [List.mem_singleton.1 hz]
    obtain ⟨hp1, hp2⟩ := List.mem_filter.1 hp
    have hw : p.who ≠ x.who := by simpa using hp2
    exact fun hc => hb p hp1 ⟨hw, hc.1, hc.2.resolve_left hw⟩

set_option maxRecDepth 10000 in
set_option maxHeartbeats 8000000 in
theorem fnLockHolder_any (ac : Option Addr) (capc : Nat) (code : List Int) (w : World) (hlc : code.length ≤ 9223372036854775807) (hcap : code.length ≤ capc) (hu : ∀ x ∈ code, 0 ≤ x ∧ x ≤ 255) (hcc : Rd 1 encU8 w ac code) :
    Calls Try.prog 6 #[.slice ac code.length capc] w (RetB True w) := by
  go_enter Try.func6, Try.ntmps6
  by_cases hbig : 1048576 < code.length
  · have hb : (1048576 : Int) < (code.length : Int) := by omega
    go_wp2
    go_ret
    exact RetB.mk true rfl (by simp) (Ext.refl _)
  have hb : (code.length : Int) ≤ 1048576 := by omega
  go_wp2_with fail
  refine (drawLockHolder ac capc code w hlc hcap hu hcc).mono ?_
  rintro e w1 ⟨v, rfl, ⟨u, x, rfl, l, hl, hown⟩, E⟩
  obtain ⟨a, cap, rfl, hlcap, hrd, hshape⟩ := view_owns encLck_len hown
  clear hown hshape
  have hbx := (Ext.refl w1).alloc (.cells #[.int .i64 x.who, .int .i64 x.f, .int .i64 x.t, .bool x.alone] 32)
  have n0 := cell_new w1 #[.int .i64 x.who, .int .i64 x.f, .int .i64 x.t, .bool x.alone] 32 0 (.int .i64 x.who) rfl
  have n1 := cell_new w1 #[.int .i64 x.who, .int .i64 x.f, .int .i64 x.t, .bool x.alone] 32 1 (.int .i64 x.f) rfl
  have n2 := cell_new w1 #[.int .i64 x.who, .int .i64 x.f, .int .i64 x.t, .bool x.alone] 32 2 (.int .i64 x.t) rfl
  have n3 := cell_new w1 #[.int .i64 x.who, .int .i64 x.f, .int .i64 x.t, .bool x.alone] 32 3 (.bool x.alone) rfl
  replace hrd := hrd.ext hbx
  replace E := E.trans hbx
  go_wp2_with fail
  generalize (w1.alloc (.cells #[.int .i64 x.who, .int .i64 x.f, .int .i64 x.t, .bool x.alone] 32)) = wb at *
  refine (implLockHolder a cap l x wb (by omega) hlcap hrd).mono ?_
  rintro e w2 ⟨n, rfl, hn, E2⟩
  have Hn1 := Lib.hid hn
  clear hn
  replace hrd := hrd.ext E2
  replace E := E.trans E2
  replace n0 := cell_ext E2 n0
  replace n1 := cell_ext E2 n1
  replace n2 := cell_ext E2 n2
  replace n3 := cell_ext E2 n3
  clear E2
  go_wp2_with fail
  refine (specLockHolder a cap l x w2 (by omega) hrd).mono ?_
  rintro e w3 ⟨n', rfl, hn', E2⟩
  obtain rfl : n = n' := Hn1.out.trans hn'.symm
  clear hn'
  replace hrd := hrd.ext E2
  replace E := E.trans E2
  replace n0 := cell_ext E2 n0
  replace n1 := cell_ext E2 n1
  replace n2 := cell_ext E2 n2
  replace n3 := cell_ext E2 n3
  clear E2 hbx
  have tn : (n != n) = false := by simp
  by_cases hv : LocksOk l ∧ okLck x
  rotate_left
  · obtain rfl : n = -1 := Hn1.out.trans (HoldF_no hv)
    clear Hn1 hv
    go_wp2_with fail
    refine (alive_any _).mono ?_
    rintro e w6 ⟨b3, rfl, hb3, E2⟩
    obtain rfl : b3 = true := hb3.2 trivial
    go_wp2
    go_ret
    exact RetB.mk true rfl (by simp) (E.trans E2)
  · have hnn : n = holdL l x := Hn1.out.trans (HoldF_ok hv.1 hv.2)
    have hn0 : 0 ≤ n := by rw [hnn]; exact holdL_nonneg x (locks_who hv.1)
    have Hn := Lib.hid hnn
    have Hv := Lib.hid hv
    have hl10 : l.length ≤ 10 := hv.1.2
    clear Hn1 hnn hv
    have E1 := (Ext.refl w3).alloc (.cells #[] 32)
    have hown : (w3.alloc (.cells #[] 32)).ownsRow w3.heap.size 32 4 (.slice (some ⟨w3.heap.size, 0, none⟩) 0 0) 0 (([] : List Lck).flatMap encLck) := owns_lit_new [] encLck_len rfl rfl (by omega) (Nat.le_refl _)
    go_upto_region 10 with fail
    generalize (w3.alloc (.cells #[] 32)) = w4 at *
    go_wp2
    go_loopw [6, 7, 8] (fun vo fd i wr => ∃ k : Nat, k ≤ l.length ∧ i = .int .i64 (k : Int) ∧ fd = .bool ((l.take k).any (fun p => p.who == n)) ∧ wr.ownsRow w3.heap.size 32 4 vo (othersL (l.take k) x).length ((othersL (l.take k) x).flatMap encLck) ∧ Ext w3 wr) (fun _ _ i _ => l.length - (intOf i).toNat)
    case atStart => exact ⟨0, Nat.zero_le _, rfl, rfl, hown, E1⟩
    case round =>
      obtain ⟨k, hk, rfl, rfl, hown, hE4⟩ := hrel
      by_cases hlt : k < l.length
      · obtain ⟨p, b, off, hp, rfl, c0, c1, c2, c3⟩ := atLck (hrd.ext hE4) hlt
        have Hst := Lib.hid (othersL_step (x := x) hp)
        have Han := Lib.hid (any_step n hp)
        have hol := others_le (l.take k) x
        rw [List.length_take] at hol
        obtain ⟨O, hO⟩ : ∃ O, O = othersL (l.take k) x := ⟨_, rfl⟩
        rw [← hO] at hown hol Hst
        have Hp := Lib.hid hp
        clear hO hp
        generalize (l.take k).any (fun p => p.who == n) = fd at *
        have i0 : (0 : Int) ≤ (k : Int) := by omega
        have i1 : (k : Int) < (l.length : Int) := by omega
        have n0' := cell_ext hE4 n0
        have q0 := ExtW.cell c0
        have m0 := ExtW.cell n0'
        have b1 := ExtW.lt c0
        have b2 := ExtW.lt n0'
        go_upto_region 14 with fail
        by_cases hw : p.who = x.who
        · have tw : (p.who != x.who) = false := by simpa using hw
          have Ho : Hid (othersL (l.take (k + 1)) x = O) := Lib.hid (by rw [Hst.out, if_neg (by rw [tw]; simp), List.append_nil])
          clear hw Hst n0'
          (refine wp_region_quiet_ext (by kernel_rfl) (by kernel_rfl) ?_; (repeat (go_big_quiet_step (fail))); refine wpQuiet_nil ?_; intro _ hw'; obtain ⟨sq, hw''⟩ := hw'; subst hw'')
          obtain ⟨w8, hw8⟩ := sq
          replace c0 := cell_ext hw8 c0
          replace hown := ownsRow_ext hown hw8
          cases fd with
          | true =>
            go_wp2
            go_roundw
            case rel => exact ⟨k + 1, by omega, by go_num, by rw [Han.out]; rfl, by rw [Ho.out]; exact hown, hE4.trans hw8⟩
            case measure => simp [intOf]; omega
          | false =>
            go_wp2
            go_roundw
            case rel => exact ⟨k + 1, by omega, by go_num, by rw [Han.out]; simp, by rw [Ho.out]; exact hown, hE4.trans hw8⟩
            case measure => simp [intOf]; omega
        · have tw : (p.who != x.who) = true := by simpa using hw
          have Ho : Hid (othersL (l.take (k + 1)) x = O ++ [p]) := Lib.hid (by rw [Hst.out, if_pos tw])
          clear hw Hst n0'
          (refine wp_region_quiet_ext (by kernel_rfl) (by kernel_rfl) ?_; (repeat (go_big_quiet_step (fail))); refine wpQuiet_nil ?_; intro _ hw'; obtain ⟨sq, hw''⟩ := hw'; subst hw'')
          obtain ⟨w8, hw8⟩ := sq
          replace c0 := cell_ext hw8 c0
          replace c1 := cell_ext hw8 c1
          replace c2 := cell_ext hw8 c2
          replace c3 := cell_ext hw8 c3
          replace hown := ownsRow_ext hown hw8
          replace hE4 := hE4.trans hw8
          have E9 := (Ext.refl w8).alloc (.cells #[.int .i64 p.who, .int .i64 p.f, .int .i64 p.t, .bool p.alone] 32)
          have rdm : Rd 4 encLck (w8.alloc (.cells #[.int .i64 p.who, .int .i64 p.f, .int .i64 p.t, .bool p.alone] 32)) (some ⟨w8.heap.size, 0, none⟩) [p] := rd_lit_new [p] encLck_len rfl
          have ho := ownsRow_ext hown E9
          have hE9 := hE4.trans E9
          go_wp2_with (at_builtin; refine wpList_append_rd rfl _ _ 25 rfl w3.heap.size 32 _ 4 _ Try.underlying25 infoLck rfl (by decide) encLck_len encLck_one _ O.length O rfl ho rfl _ 1 1 [p] rfl rfl rdm (by omega) (by omega) hE9.size ?_)
          intro v' w5 hown' hgr
          have hE5 : Ext w3 w5 := hE9.grown hgr (fun i h => (ho.lt i h).1)
          obtain ⟨p', b', off', hp', hb', d0, _, _, _⟩ := atLck (hrd.ext hE5) hlt
          obtain ⟨rfl, rfl⟩ : b = b' ∧ off = off' := by simpa using hb'
          rw [Hp.out] at hp'
          obtain rfl := Option.some.inj hp'
          clear hp' hb'
          have Hown' := Lib.hid hown'
          clear hown' hgr ho rdm hE9 E9 c0 c1 c2 c3
          cases fd with
          | true =>
            go_wp2
            go_roundw
            case rel => exact ⟨k + 1, by omega, by go_num, by rw [Han.out]; rfl, by rw [Ho.out]; simpa using Hown'.out, hE5⟩
            case measure => simp [intOf]; omega
          | false =>
            go_wp2
            go_roundw
            case rel => exact ⟨k + 1, by omega, by go_num, by rw [Han.out]; simp, by rw [Ho.out]; simpa using Hown'.out, hE5⟩
            case measure => simp [intOf]; omega
      · have hkl : l.take k = l := List.take_of_length_le (by omega)
        rw [hkl] at hown ⊢
        have hol := others_le l x
        replace hrd := hrd.ext hE4
        replace n0 := cell_ext hE4 n0
        replace n1 := cell_ext hE4 n1
        replace n2 := cell_ext hE4 n2
        replace n3 := cell_ext hE4 n3
        by_cases hz : n = 0
        · subst hz
          by_cases h10 : (othersL l x).length = 10
          · obtain ⟨O, hO⟩ : ∃ O, O = othersL l x := ⟨_, rfl⟩
            rw [← hO] at hown h10
            clear hO hkl
            obtain ⟨a5, c5, rfl, _⟩ := rd_of_owns encLck_len hown rfl
            have h10i : (O.length : Int) = 10 := by omega
            clear hown
            go_wp2
            go_ret
            exact RetB.mk true rfl (by simp) (E.trans hE4)
          · have Hk := Lib.hid (others_fine Hv.out.1 Hv.out.2 Hn.out.symm h10)
            obtain ⟨O, hO⟩ : ∃ O, O = othersL l x := ⟨_, rfl⟩
            rw [← hO] at hown h10 Hk hol
            clear hO hkl
            have h10i : ((O.length : Int) == 10) = false := by simp; omega
            clear h10
            obtain ⟨a5, c5, rfl, _⟩ := rd_of_owns encLck_len hown rfl
            have E9 := (Ext.refl wr).alloc (.cells #[.int .i64 x.who, .int .i64 x.f, .int .i64 x.t, .bool x.alone] 32)
            have rdm : Rd 4 encLck (wr.alloc (.cells #[.int .i64 x.who, .int .i64 x.f, .int .i64 x.t, .bool x.alone] 32)) (some ⟨wr.heap.size, 0, none⟩) [x] := rd_lit_new [x] encLck_len rfl
            have ho := ownsRow_ext hown E9
            have hE9 := hE4.trans E9
            go_wp2_with (at_builtin; refine wpList_unguard rfl ?_; refine Hid.out (?_ : Hid _))
            unfold Hid
            refine (wpList_append_rd rfl _ _ 25 rfl w3.heap.size 32 _ 4 _ Try.underlying25 infoLck rfl (by decide) encLck_len encLck_one _ O.length O rfl ho rfl _ 1 1 [x] rfl rfl rdm (by omega) (by omega) hE9.size ?_)
            intro v' w5 hown' hgr
            have hown2 : w5.ownsRow w3.heap.size 32 4 v' (O ++ [x]).length ((O ++ [x]).flatMap encLck) := by simpa using hown'
            have E6 : Ext w w5 := (E.trans (hE9.grown hgr (fun k h => (ho.lt k h).1)))
            have hlen2 : (O ++ [x]).length ≤ 9223372036854775807 := by simp only [List.length_append, List.length_singleton]; omega
            obtain ⟨L, hL⟩ : ∃ L, L = O ++ [x] := ⟨_, rfl⟩
            rw [← hL] at hown2 hlen2 Hk
            clear hL
            obtain ⟨a2, cap2, rfl, hlcap2, hrd2, hshape2⟩ := view_owns encLck_len hown2
            clear hown' hown2 hgr ho hE9 E9 hshape2 hrd rdm
            go_wp2_with fail
            refine (implLocksValid a2 cap2 L w5 hlen2 hlcap2 hrd2).mono ?_
            rintro e w6 ⟨b6, rfl, hb6, E7⟩
            obtain rfl : b6 = true := hb6.2 Hk.out
            clear hb6
            go_wp2
            go_ret
            exact RetB.mk true rfl (by simp) (E6.trans E7)
        · have hpos : 0 < n := by omega
          have Hk := Lib.hid (others_clash (l := l) (x := x) (by rw [← Hn.out]; exact hz))
          have hfw : (n != x.who) = true ∧ l.any (fun p => p.who == n) = true := by
            obtain ⟨p, hp, hb, hpn⟩ := hold_found (l := l) (x := x) (by rw [← Hn.out]; exact hz)
            rw [← Hn.out] at hpn
            refine ⟨?_, List.any_eq_true.2 ⟨p, hp, by simpa using hpn⟩⟩
            have := hb.1
            rw [hpn] at this
            simpa using this
          obtain ⟨hf1, hf2⟩ := hfw
          rw [hf2]
          clear hf2
          obtain ⟨O, hO⟩ : ∃ O, O = othersL l x := ⟨_, rfl⟩
          rw [← hO] at hown Hk hol
          clear hO hkl hz
          obtain ⟨a5, c5, rfl, _⟩ := rd_of_owns encLck_len hown rfl
          have E9 := (Ext.refl wr).alloc (.cells #[.int .i64 x.who, .int .i64 x.f, .int .i64 x.t, .bool x.alone] 32)
          have rdm : Rd 4 encLck (wr.alloc (.cells #[.int .i64 x.who, .int .i64 x.f, .int .i64 x.t, .bool x.alone] 32)) (some ⟨wr.heap.size, 0, none⟩) [x] := rd_lit_new [x] encLck_len rfl
          have ho := ownsRow_ext hown E9
          have hE9 := hE4.trans E9
          go_wp2_with (at_builtin; refine wpList_unguard rfl ?_; refine Hid.out (?_ : Hid _))
          unfold Hid
          refine (wpList_append_rd rfl _ _ 25 rfl w3.heap.size 32 _ 4 _ Try.underlying25 infoLck rfl (by decide) encLck_len encLck_one _ O.length O rfl ho rfl _ 1 1 [x] rfl rfl rdm (by omega) (by omega) hE9.size ?_)
          intro v' w5 hown' hgr
          have hown2 : w5.ownsRow w3.heap.size 32 4 v' (O ++ [x]).length ((O ++ [x]).flatMap encLck) := by simpa using hown'
          have E6 : Ext w w5 := (E.trans (hE9.grown hgr (fun k h => (ho.lt k h).1)))
          have hlen2 : (O ++ [x]).length ≤ 9223372036854775807 := by simp only [List.length_append, List.length_singleton]; omega
          obtain ⟨L, hL⟩ : ∃ L, L = O ++ [x] := ⟨_, rfl⟩
          rw [← hL] at hown2 hlen2 Hk
          clear hL
          obtain ⟨a2, cap2, rfl, hlcap2, hrd2, hshape2⟩ := view_owns encLck_len hown2
          clear hown' hown2 hgr ho hE9 E9 hshape2 hrd rdm
          go_wp2_with fail
          refine (implLocksValid a2 cap2 L w5 hlen2 hlcap2 hrd2).mono ?_
          rintro e w6 ⟨b6, rfl, hb6, E7⟩
          obtain rfl : b6 = false := by
            cases b6 with
            | false => rfl
            | true => exact absurd (hb6.1 rfl) Hk.out
          clear hb6
          go_wp2
          go_ret
          exact RetB.mk true rfl (by simp) (E6.trans E7)
end Go.Proofs.Ytaofbdhljnhlnaa
