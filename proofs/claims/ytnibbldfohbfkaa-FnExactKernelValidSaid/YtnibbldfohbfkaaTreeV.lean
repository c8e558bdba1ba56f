/- Trees: contract of the reference's TreeValid. Condition: rows of at most 2^20. -/
import Derived.Test.YtnibbldfohbfkaaTreeP
import Derived.Test.YtnibbldfohbfkaaLinkS
namespace Go.Proofs.Ytnibbldfohbfkaa
open Go.RowKit

set_option maxRecDepth 10000 in
set_option maxHeartbeats 8000000 in
theorem specTreeValid (a : Option Addr) (cap : Nat) (T : List Nd) (w : World) (hl : T.length ≤ 1048576) (hs : ∀ x ∈ T, SmN 1048576 x) (hc : RdN w a T) :
    Calls Try.prog 13 #[.slice a T.length cap] w (RetB (TreeOk T) w) := by
  have HS := Lib.hid hs
  clear hs
  cases hM : inB (T.length : Int) 1 16 with
  | false =>
    have HM := Lib.hid hM
    have HB : Hid (¬ TreeOk T) := Lib.hid (fun h => Bool.noConfusion (hM.symm.trans (inB_iff.2 (by have := h.pos; have := h.max; omega))))
    clear hM
    go_enter Try.func13, Try.ntmps13
    go_wp2_with (go_at_call 25; refine (l1In_is HM.out _).mono ?_; rintro e w' ⟨rfl, rfl⟩)
    go_ret
    exact RetB.mk false rfl (by simp [HB.out]) (Ext.refl _)
  | true =>
    have HM := Lib.hid hM
    obtain ⟨hM1, hM2⟩ := inB_iff.1 hM
    clear hM
    have h1 : 1 ≤ T.length := by omega
    have h16 : T.length ≤ 16 := by omega
    have z0 : (0 : Int) < (T.length : Int) := by omega
    obtain ⟨r, b, off, rn, cn, rk, ck, hr, hpe, c0, _⟩ := atNd hc (show 0 < T.length by omega)
    simp only [Nat.zero_mul, Nat.add_zero] at c0
    cases hf : r.fold with
    | false =>
      have HB : Hid (¬ TreeOk T) := Lib.hid (fun h => Bool.noConfusion (hf.symm.trans (h.root r hr)))
      rw [hf] at c0
      subst hpe
      clear hf hr
      go_enter Try.func13, Try.ntmps13
      go_wp2_with (go_at_call 25; refine (l1In_is HM.out _).mono ?_; rintro e w' ⟨rfl, rfl⟩)
      go_ret
      exact RetB.mk false rfl (by simp [HB.out]) (Ext.refl _)
    | true =>
      have HRT : Hid (∀ n, T[0]? = some n → n.fold = true) := Lib.hid (fun n hn => by rw [hr] at hn; cases hn; exact hf)
      rw [hf] at c0
      subst hpe
      clear hf hr
      go_enter Try.func13, Try.ntmps13
      go_wp2_with (go_at_call 25; refine (l1In_is HM.out _).mono ?_; rintro e w' ⟨rfl, rfl⟩)
      go_loopw [3] (fun i wr => ∃ k : Nat, k ≤ T.length ∧ i = .int .i64 k ∧ (∀ (j : Nat) n, j < k → T[j]? = some n → NodeOk n T.length ∧ ∀ x ∈ n.K, DownOk T j x) ∧ Ext w wr) (fun i _ => T.length - (intOf i).toNat)
      case atStart => exact ⟨0, Nat.zero_le _, rfl, fun _ _ h => absurd h (Nat.not_lt_zero _), Ext.refl _⟩
      case round =>
        clear c0
        obtain ⟨k, hk, rfl, hpre, hb⟩ := hrel
        have Hpre := Lib.hid hpre
        clear hpre
        by_cases hlt : k < T.length
        · obtain ⟨x, b', off', an, cn, ak, ck, hx, hpe, c0, c1, c2, c3, c4, c5, c6, hcn, hck, hrn, hrk⟩ := atNd hc hlt
          obtain ⟨rfl, rfl⟩ : b = b' ∧ off = off' := by simpa using hpe
          have Hx := Lib.hid hx
          have hsx := Lib.hid (HS.out x (List.mem_of_getElem? hx))
          have i0 : (k : Int) < (T.length : Int) := by omega
          have C6 := Lib.hid c6
          have d0 := cell_ext hb c0
          have d1 := cell_ext hb c1
          have d2 := cell_ext hb c2
          have d3 := cell_ext hb c3
          have d4 := cell_ext hb c4
          have d5 := cell_ext hb c5
          have d6 := cell_ext hb c6
          clear hx c0 c1 c2 c3 c4 c5 c6 hcn hck hpe
          go_wp2_with fail
          refine (specNode x an ak cn ck T.length wr hl hsx.out (hrn.ext hb) (hrk.ext hb)).mono ?_
          rintro e w2 ⟨v, rfl, hv, hE⟩
          have Hv := Lib.hid hv
          have hb2 := hb.trans hE
          clear hv d0 d1 d2 d3 d4 d5 d6 hE hb hrn
          cases v with
          | false =>
            have HB : Hid (¬ TreeOk T) := Lib.hid (fun h => Bool.noConfusion (Hv.out.2 (h.nodes k x Hx.out)))
            go_wp2
            go_ret
            exact RetB.mk false rfl (by simp [HB.out]) hb2
          | true =>
            have HN := Lib.hid (Hv.out.1 rfl)
            have HB2 := Lib.hid hb2
            clear Hv hb2
            have hkl := hsx.out.2.2.2
            go_wp2
            go_loopw [4] (fun i wr => ∃ m : Nat, m ≤ x.K.length ∧ i = .int .i64 m ∧ (∀ (j : Nat) y, j < m → x.K[j]? = some y → DownOk T k y) ∧ Ext w wr) (fun i _ => x.K.length - (intOf i).toNat)
            case atStart => exact ⟨0, Nat.zero_le _, rfl, fun _ _ h => absurd h (Nat.not_lt_zero _), HB2.out⟩
            case round =>
              clear HB2
              obtain ⟨m, hm, rfl, hpre2, hb⟩ := hrel
              have Hpre2 := Lib.hid hpre2
              have d6 := cell_ext hb C6.out
              clear hpre2
              by_cases hlm : m < x.K.length
              rotate_left
              · obtain rfl : m = x.K.length := by omega
                have hni : ¬ (x.K.length : Int) < (x.K.length : Int) := by omega
                have Hnext := Lib.hid (all_next (Q := fun j n => NodeOk n T.length ∧ ∀ x ∈ n.K, DownOk T j x) Hpre.out Hx.out ⟨HN.out, all_mem Hpre2.out⟩)
                go_wp2
                go_roundw
                case rel => exact ⟨k + 1, by omega, by go_num, Hnext.out, hb⟩
                case measure => simp [intOf]; omega
              · obtain ⟨y, b2, off2, hy, rfl, e0⟩ := atInt (hrk.ext hb) hlm
                have Hy := Lib.hid hy
                have j0 : (m : Int) < (x.K.length : Int) := by omega
                obtain ⟨i, rfl, hiM⟩ := in_cast1 (nodeOk_kid HN.out (List.mem_of_getElem? hy))
                have k0 : (i : Int) < (T.length : Int) := by omega
                obtain ⟨z, b', off', an', cn', ak', ck', hz, hpe, f0, _⟩ := atNd (hc.ext hb) hiM
                obtain ⟨rfl, rfl⟩ : b = b' ∧ off = off' := by simpa using hpe
                have Hz := Lib.hid hz
                clear hy hz hpe
                cases hzf : z.fold with
                | false =>
                  have Hnext := Lib.hid (all_next (Q := fun _ y => DownOk T k y) Hpre2.out Hy.out (down_file Hz.out hzf))
                  rw [hzf] at f0
                  clear hzf
                  go_wp2
                  go_roundw
                  case rel => exact ⟨m + 1, by omega, by go_num, Hnext.out, hb⟩
                  case measure => simp [intOf]; omega
                | true =>
                  by_cases hik : i ≤ k
                  · have HB : Hid (¬ TreeOk T) := Lib.hid (fun h => down_bad Hz.out hzf hik (h.down k x Hx.out _ (List.mem_of_getElem? Hy.out)))
                    have t1 : (i : Int) ≤ (k : Int) := by omega
                    rw [hzf] at f0
                    clear hzf
                    go_wp2
                    go_ret
                    exact RetB.mk false rfl (by simp [HB.out]) hb
                  · have Hnext := Lib.hid (all_next (Q := fun _ y => DownOk T k y) Hpre2.out Hy.out (down_good (T := T) (show k < i by omega)))
                    have t1 : ¬ (i : Int) ≤ (k : Int) := by omega
                    rw [hzf] at f0
                    clear hzf
                    go_wp2
                    go_roundw
                    case rel => exact ⟨m + 1, by omega, by go_num, Hnext.out, hb⟩
                    case measure => simp [intOf]; omega
        · obtain rfl : k = T.length := by omega
          have hni : ¬ (T.length : Int) < (T.length : Int) := by omega
          have HLK := Lib.hid (linkOk_of h16 (fun k n hn => (Hpre.out k n (List.getElem?_eq_some_iff.1 hn).1 hn).1))
          go_wp2_with fail
          refine (specLinksOf (some ⟨b, off, none⟩) cap T wr hl HS.out (hc.ext hb)).mono ?_
          rintro e w2 ⟨v, rfl, ⟨L, ho, hR⟩, hE⟩
          obtain rfl : L = cntL T.length (kids T) := by
            rcases hR with ⟨_, h⟩ | ⟨h, _⟩
            · exact h
            · exact absurd HLK.out h
          obtain ⟨al, cl, hv, _, hrl, _⟩ := view_owns encInt1_len ho
          rw [cntL_len] at hv
          subst hv
          have HB2 := Lib.hid (hb.trans hE)
          have HRL := Lib.hid hrl
          clear hR ho hrl hb hE hni
          go_wp2
          go_loopw [6] (fun i wr => ∃ k : Nat, 1 ≤ k ∧ k ≤ T.length ∧ i = .int .i64 k ∧ (∀ (j : Nat) n, j < k → T[j]? = some n → 0 < j → LkOk T j n) ∧ Ext w2 wr) (fun i _ => T.length - (intOf i).toNat)
          case atStart => exact ⟨1, Nat.le_refl _, h1, rfl, fun j n h _ h0 => by omega, Ext.refl _⟩
          case round =>
            obtain ⟨k, hk1, hk, rfl, hpre2, hb3⟩ := hrel
            have Hpre2 := Lib.hid hpre2
            have hb := HB2.out.trans hb3
            clear hpre2
            by_cases hlt : k < T.length
            rotate_left
            · obtain rfl : k = T.length := by omega
              have hni : ¬ (T.length : Int) < (T.length : Int) := by omega
              have HO := Lib.hid (tree_spec h1 h16 HRT.out Hpre.out Hpre2.out)
              go_wp2
              go_ret
              exact RetB.mk true rfl (by simp [HO.out]) hb
            · obtain ⟨x, b', off', an, cn, ak, ck, hx, hpe, c0, _⟩ := atNd (hc.ext hb) hlt
              obtain ⟨rfl, rfl⟩ : b = b' ∧ off = off' := by simpa using hpe
              obtain ⟨y, b2, off2, hy, rfl, e0⟩ := atInt (HRL.out.ext hb3) (show k < (cntL T.length (kids T)).length by rw [cntL_len]; exact hlt)
              rw [cntL_get hlt] at hy
              obtain rfl := Option.some.inj hy
              have Hx := Lib.hid hx
              have i0 : (k : Int) < (T.length : Int) := by omega
              have HQ := Lib.hid (show LkOk T k x ↔ 1 ≤ (kids T).count (k : Int) ∧ (x.fold = true → (kids T).count (k : Int) ≤ 1) from Iff.rfl)
              have HBL : Hid (¬ LkOk T k x → ¬ TreeOk T) := Lib.hid (fun h ht => h (ht.links k x hx (by omega)))
              have HNX : Hid (LkOk T k x → ∀ (j : Nat) n, j < k + 1 → T[j]? = some n → 0 < j → LkOk T j n) := Lib.hid (fun h => all_next (Q := fun j n => 0 < j → LkOk T j n) Hpre2.out hx (fun _ => h))
              generalize (kids T).count (k : Int) = c at *
              clear hx hy hpe
              by_cases hc0 : c < 1
              · have HB := Lib.hid (HBL.out (fun h => by have := (HQ.out.1 h).1; omega))
                have t1 : (c : Int) < 1 := by omega
                clear hc0
                go_wp2
                go_ret
                exact RetB.mk false rfl (by simp [HB.out]) hb
              · have t1 : ¬ (c : Int) < 1 := by omega
                cases hxf : x.fold with
                | false =>
                  have HN := Lib.hid (HNX.out (HQ.out.2 ⟨by omega, fun h => Bool.noConfusion (hxf.symm.trans h)⟩))
                  rw [hxf] at c0
                  clear hxf hc0
                  go_wp2
                  go_roundw
                  case rel => exact ⟨k + 1, by omega, by omega, by go_num, HN.out, hb3⟩
                  case measure => simp [intOf]; omega
                | true =>
                  by_cases hc1 : 1 < c
                  · have HB := Lib.hid (HBL.out (fun h => by have := (HQ.out.1 h).2 hxf; omega))
                    have t2 : (1 : Int) < (c : Int) := by omega
                    rw [hxf] at c0
                    clear hxf hc0 hc1
                    go_wp2
                    go_ret
                    exact RetB.mk false rfl (by simp [HB.out]) hb
                  · have HN := Lib.hid (HNX.out (HQ.out.2 ⟨by omega, fun _ => by omega⟩))
                    have t2 : ¬ (1 : Int) < (c : Int) := by omega
                    rw [hxf] at c0
                    clear hxf hc0 hc1
                    go_wp2
                    go_roundw
                    case rel => exact ⟨k + 1, by omega, by omega, by go_num, HN.out, hb3⟩
                    case measure => simp [intOf]; omega
end Go.Proofs.Ytnibbldfohbfkaa
