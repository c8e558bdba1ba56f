/- Trees: contract of the program's TreeValid. Condition: rows of at most 2^20. -/
import Derived.Test.YtnibbldfohbfkaaTreeP
import Derived.Deep.Cut
namespace Go.Proofs.Ytnibbldfohbfkaa
open Go.RowKit

set_option maxRecDepth 10000 in
set_option maxHeartbeats 8000000 in
theorem implTreeValid (a : Option Addr) (cap : Nat) (T : List Nd) (w : World) (hl : T.length ≤ 1048576) (hs : ∀ x ∈ T, SmN 1048576 x) (hc : RdN w a T) :
    Calls Try.prog 17 #[.slice a T.length cap] w (RetB (TreeOk T) w) := by
  have HS := Lib.hid hs
  clear hs
  go_enter Try.func17, Try.ntmps17
  go_wp2_with fail
  refine (implLinksOf a cap T w hl HS.out hc).mono ?_
  rintro e w1 ⟨v, rfl, ⟨L, ho, hR⟩, hE⟩
  obtain ⟨al, cl, hv, _, hrl, _⟩ := view_owns encInt1_len ho
  subst hv
  clear ho
  by_cases hM : T.length = 0
  · obtain rfl : T = [] := List.eq_nil_of_length_eq_zero hM
    have HB : Hid (¬ TreeOk []) := Lib.hid (fun h => by have := h.pos; simp at this)
    clear hM hR hrl
    simp only [List.length_nil]
    go_wp2
    go_ret
    exact RetB.mk false rfl (by simp [HB.out]) hE
  have h1 : 1 ≤ T.length := by omega
  have tM : ((T.length : Int) == 0) = false := by simp; exact fun h => hM (by rw [h]; rfl)
  have hne : ¬ T = [] := fun h => hM (by rw [h]; rfl)
  clear hM
  rcases hR with ⟨hL, rfl⟩ | ⟨hL, rfl⟩
  rotate_left
  · have HB : Hid (¬ TreeOk T) := Lib.hid (fun h => hL (tree_link h))
    have t2 : (0 : Int) < (T.length : Int) := by omega
    clear hL hrl
    simp only [List.length_nil]
    go_wp2
    go_ret
    exact RetB.mk false rfl (by simp [HB.out]) hE
  have h16 : T.length ≤ 16 := hL.1
  have HL := Lib.hid hL
  have HRL := Lib.hid hrl
  have HE := Lib.hid hE
  have hni0 : ¬ (T.length : Int) < (T.length : Int) := by omega
  have z0 : (0 : Int) < (T.length : Int) := by omega
  rw [cntL_len]
  obtain ⟨r, b, off, rn, cn, rk, ck, hr, hpe, c0, _⟩ := atNd (hc.ext hE) (show 0 < T.length by omega)
  simp only [Nat.zero_mul, Nat.add_zero] at c0
  subst hpe
  obtain ⟨y, b2, off2, hy, hpl, e0⟩ := atInt hrl (show 0 < (cntL T.length (kids T)).length by rw [cntL_len]; omega)
  rw [cntL_get (show 0 < T.length by omega)] at hy
  obtain rfl := Option.some.inj hy
  simp only [Nat.add_zero] at e0
  subst hpl
  clear hy hL hrl hE
  cases hf : r.fold with
  | false =>
    have HB : Hid (¬ TreeOk T) := Lib.hid (fun h => Bool.noConfusion (hf.symm.trans (h.root r hr)))
    rw [hf] at c0
    clear hf hr
    go_wp2
    go_ret
    exact RetB.mk false rfl (by simp [HB.out]) HE.out
  | true =>
    have HRT : Hid (∀ n, T[0]? = some n → n.fold = true) := Lib.hid (fun n hn => by rw [hr] at hn; cases hn; exact hf)
    rw [hf] at c0
    clear hf hr
    have HZ := Lib.hid (show (kids T).count (0 : Int) = (kids T).count ((0 : Nat) : Int) from rfl)
    by_cases hz : 0 < (kids T).count ((0 : Nat) : Int)
    · have HB : Hid (¬ TreeOk T) := Lib.hid (fun h => by have := tree_zero h; rw [HZ.out] at this; omega)
      generalize (kids T).count ((0 : Nat) : Int) = c at *
      have t3 : (0 : Int) < (c : Int) := by omega
      clear hz
      go_wp2
      go_ret
      exact RetB.mk false rfl (by simp [HB.out]) HE.out
    · have HZ0 : Hid ((kids T).count (0 : Int) = 0) := Lib.hid (by rw [HZ.out]; omega)
      have hz2 : ((kids T).count ((0 : Nat) : Int) : Int) = 0 := by omega
      rw [hz2] at e0
      clear hz hz2
      go_wp2
      go_loopw [4, 5, 7, 35] (fun _ _ _ i wr => ∃ k : Nat, k ≤ T.length ∧ i = .int .i64 k ∧ (∀ (j : Nat) n, j < k → T[j]? = some n → NodeI n ∧ (0 < j → LkOk T j n) ∧ ∀ x ∈ n.K, DownOk T j x) ∧ Ext w1 wr) (fun _ _ _ i _ => T.length - (intOf i).toNat)
      case atStart => exact ⟨0, Nat.zero_le _, rfl, fun _ _ h => absurd h (Nat.not_lt_zero _), Ext.refl _⟩
      case round =>
        clear c0 e0
        obtain ⟨k, hk, rfl, hpre, hb1⟩ := hrel
        have Hpre := Lib.hid hpre
        have hb := HE.out.trans hb1
        clear hpre
        by_cases hlt : k < T.length
        rotate_left
        · obtain rfl : k = T.length := by omega
          have HO := Lib.hid (tree_of HL.out h1 HRT.out HZ0.out Hpre.out)
          go_wp2
          go_ret
          exact RetB.mk true rfl (by simp [HO.out]) hb
        · obtain ⟨x, b', off', an, cn, ak, ck, hx, hpe, c0, c1, c2, c3, c4, c5, c6, hcn, hck, hrn, hrk⟩ := atNd (hc.ext hb) hlt
          obtain ⟨rfl, rfl⟩ : b = b' ∧ off = off' := by simpa using hpe
          have Hx := Lib.hid hx
          have hsx := Lib.hid (HS.out x (List.mem_of_getElem? hx))
          have i0 : (k : Int) < (T.length : Int) := by omega
          have S := Sep.start wr
          clear hx hcn hck hpe
          replace S : Sep wr (wr.alloc (.cells #[.bool x.fold, .int .i64 x.own, .int .i64 x.grp, .int .i64 x.mode, .string x.text, .slice an x.N.length cn, .slice ak x.K.length ck] 57)) [plBox wr.heap.size #[.bool x.fold, .int .i64 x.own, .int .i64 x.grp, .int .i64 x.mode, .string x.text, .slice an x.N.length cn, .slice ak x.K.length ck] 57] := S.alloc_at (by simp) _ _
          go_upto_region 7 with fail
          generalize (wr.alloc (.cells #[.bool x.fold, .int .i64 x.own, .int .i64 x.grp, .int .i64 x.mode, .string x.text, .slice an x.N.length cn, .slice ak x.K.length ck] 57)) = wa at *
          clear c0 c1 c2 c3 c4 c5 c6
          obtain ⟨nbc0, nbf0⟩ : wa.cell? ⟨wr.heap.size, 0, none⟩ = some (.bool x.fold) ∧ wa.frozen? ⟨wr.heap.size, 0, none⟩ = false := bx (S.box 0 rfl) 0 rfl
          obtain ⟨nbc1, nbf1⟩ : wa.cell? ⟨wr.heap.size, 1, none⟩ = some (.int .i64 x.own) ∧ wa.frozen? ⟨wr.heap.size, 1, none⟩ = false := bx (S.box 0 rfl) 1 rfl
          obtain ⟨nbc2, nbf2⟩ : wa.cell? ⟨wr.heap.size, 2, none⟩ = some (.int .i64 x.grp) ∧ wa.frozen? ⟨wr.heap.size, 2, none⟩ = false := bx (S.box 0 rfl) 2 rfl
          obtain ⟨nbc3, nbf3⟩ : wa.cell? ⟨wr.heap.size, 3, none⟩ = some (.int .i64 x.mode) ∧ wa.frozen? ⟨wr.heap.size, 3, none⟩ = false := bx (S.box 0 rfl) 3 rfl
          obtain ⟨nbc4, nbf4⟩ : wa.cell? ⟨wr.heap.size, 4, none⟩ = some (.string x.text) ∧ wa.frozen? ⟨wr.heap.size, 4, none⟩ = false := bx (S.box 0 rfl) 4 rfl
          obtain ⟨nbc5, nbf5⟩ : wa.cell? ⟨wr.heap.size, 5, none⟩ = some (.slice an x.N.length cn) ∧ wa.frozen? ⟨wr.heap.size, 5, none⟩ = false := bx (S.box 0 rfl) 5 rfl
          obtain ⟨nbc6, nbf6⟩ : wa.cell? ⟨wr.heap.size, 6, none⟩ = some (.slice ak x.K.length ck) ∧ wa.frozen? ⟨wr.heap.size, 6, none⟩ = false := bx (S.box 0 rfl) 6 rfl
          go_wp2_with fail
          clear nbc0 nbf0 nbc1 nbf1 nbc2 nbf2 nbc3 nbf3 nbc4 nbf4 nbc5 nbf5 nbc6 nbf6
          refine (implNode x an ak cn ck wa hsx.out (hrn.ext S.ext)).mono ?_
          rintro e w3 ⟨v, rfl, hv, hE⟩
          have Hv := Lib.hid hv
          clear hv
          replace S : Sep wr w3 [plBox wr.heap.size #[.bool x.fold, .int .i64 x.own, .int .i64 x.grp, .int .i64 x.mode, .string x.text, .slice an x.N.length cn, .slice ak x.K.length ck] 57] := S.step hE
          clear hE
          obtain ⟨nbc0, nbf0⟩ : w3.cell? ⟨wr.heap.size, 0, none⟩ = some (.bool x.fold) ∧ w3.frozen? ⟨wr.heap.size, 0, none⟩ = false := bx (S.box 0 rfl) 0 rfl
          obtain ⟨nbc1, nbf1⟩ : w3.cell? ⟨wr.heap.size, 1, none⟩ = some (.int .i64 x.own) ∧ w3.frozen? ⟨wr.heap.size, 1, none⟩ = false := bx (S.box 0 rfl) 1 rfl
          obtain ⟨nbc2, nbf2⟩ : w3.cell? ⟨wr.heap.size, 2, none⟩ = some (.int .i64 x.grp) ∧ w3.frozen? ⟨wr.heap.size, 2, none⟩ = false := bx (S.box 0 rfl) 2 rfl
          obtain ⟨nbc3, nbf3⟩ : w3.cell? ⟨wr.heap.size, 3, none⟩ = some (.int .i64 x.mode) ∧ w3.frozen? ⟨wr.heap.size, 3, none⟩ = false := bx (S.box 0 rfl) 3 rfl
          obtain ⟨nbc4, nbf4⟩ : w3.cell? ⟨wr.heap.size, 4, none⟩ = some (.string x.text) ∧ w3.frozen? ⟨wr.heap.size, 4, none⟩ = false := bx (S.box 0 rfl) 4 rfl
          obtain ⟨nbc5, nbf5⟩ : w3.cell? ⟨wr.heap.size, 5, none⟩ = some (.slice an x.N.length cn) ∧ w3.frozen? ⟨wr.heap.size, 5, none⟩ = false := bx (S.box 0 rfl) 5 rfl
          obtain ⟨nbc6, nbf6⟩ : w3.cell? ⟨wr.heap.size, 6, none⟩ = some (.slice ak x.K.length ck) ∧ w3.frozen? ⟨wr.heap.size, 6, none⟩ = false := bx (S.box 0 rfl) 6 rfl
          cases v with
          | false =>
            have HB : Hid (¬ TreeOk T) := Lib.hid (fun h => Bool.noConfusion (Hv.out.2 (nodeOk_iff.1 (h.nodes k x Hx.out)).1))
            go_wp2
            go_ret
            exact RetB.mk false rfl (by simp [HB.out]) (hb.trans S.ext)
          | true =>
            have HN := Lib.hid (Hv.out.1 rfl)
            have HBL : Hid (0 < k → ¬ LkOk T k x → ¬ TreeOk T) := Lib.hid (fun h0 h ht => h (ht.links k x Hx.out h0))
            have hkl := hsx.out.2.2.2
            clear Hv
            have Hrk : Hid (∀ wz, Ext wr wz → Rd 1 encInt1 wz ak x.K) := Lib.hid (fun wz h => hrk.ext h)
            clear hrk hrn
            obtain ⟨y, b3, off3, hy, hpl, e0⟩ := atInt (HRL.out.ext (hb1.trans S.ext)) (show k < (cntL T.length (kids T)).length by rw [cntL_len]; exact hlt)
            rw [cntL_get hlt] at hy
            obtain rfl := Option.some.inj hy
            obtain ⟨rfl, rfl⟩ : b2 = b3 ∧ off2 = off3 := by simpa using hpl
            have HQ := Lib.hid (show LkOk T k x ↔ 1 ≤ (kids T).count (k : Int) ∧ (x.fold = true → (kids T).count (k : Int) ≤ 1) from Iff.rfl)
            generalize (kids T).count (k : Int) = c at *
            clear hy hpl
            by_cases hk0 : k = 0
            · have Hlk : Hid (0 < k → LkOk T k x) := Lib.hid (fun h0 => absurd h0 (by omega))
              have tk : ¬ (0 : Int) < (k : Int) := by omega
              clear hk0
              have HW := Lib.hid S.ext
              clear e0
              go_wp2
              go_loopw [7, 72] (fun _ i wz => ∃ m : Nat, m ≤ x.K.length ∧ i = .int .i64 m ∧ (∀ (j : Nat) y, j < m → x.K[j]? = some y → DownOk T k y) ∧ Ext w3 wz) (fun _ i _ => x.K.length - (intOf i).toNat)
              case atStart => exact ⟨0, Nat.zero_le _, rfl, fun _ _ h => absurd h (Nat.not_lt_zero _), Ext.refl _⟩
              case round =>
                clear S tk
                obtain ⟨m, hm, rfl, hpre2, hb3⟩ := hrel
                have Hpre2 := Lib.hid hpre2
                have hbw := hb.trans (HW.out.trans hb3)
                clear hpre2
                by_cases hlm : m < x.K.length
                rotate_left
                · obtain rfl : m = x.K.length := by omega
                  have hni : ¬ (x.K.length : Int) < (x.K.length : Int) := by omega
                  have Hnext := Lib.hid (all_next (Q := fun j n => NodeI n ∧ (0 < j → LkOk T j n) ∧ ∀ x ∈ n.K, DownOk T j x) Hpre.out Hx.out ⟨HN.out, Hlk.out, all_mem Hpre2.out⟩)
                  have HF := Lib.hid (hb1.trans (HW.out.trans hb3))
                  go_wp2
                  go_roundw
                  case rel => exact ⟨k + 1, by omega, by go_num, Hnext.out, HF.out⟩
                  case measure => simp [intOf]; omega
                · obtain ⟨y, b4, off4, hy, rfl, e4⟩ := atInt (Hrk.out _ (HW.out.trans hb3)) hlm
                  have Hy := Lib.hid hy
                  have j0 : (m : Int) < (x.K.length : Int) := by omega
                  obtain ⟨i, rfl, hiM⟩ := in_cast (HL.out.2 y (kids_mem Hx.out (List.mem_of_getElem? hy)))
                  have k0 : (i : Int) < (T.length : Int) := by omega
                  obtain ⟨z, b', off', an', cn', ak', ck', hz, hpe, f0, _⟩ := atNd (hc.ext hbw) hiM
                  obtain ⟨rfl, rfl⟩ : b = b' ∧ off = off' := by simpa using hpe
                  have Hz := Lib.hid hz
                  clear hy hz hpe
                  cases hzf : z.fold with
                  | false =>
                    have Hnext := Lib.hid (all_next (Q := fun _ y => DownOk T k y) Hpre2.out Hy.out (down_file Hz.out hzf))
                    rw [hzf] at f0
                    clear hzf
                    go_wp2
                    go_roundw
                    case rel => exact ⟨m + 1, by omega, by go_num, Hnext.out, hb3⟩
                    case measure => simp [intOf]; omega
                  | true =>
                    by_cases hik : i ≤ k
                    · have HB : Hid (¬ TreeOk T) := Lib.hid (fun h => down_bad Hz.out hzf hik (h.down k x Hx.out _ (List.mem_of_getElem? Hy.out)))
                      have t1 : (i : Int) ≤ (k : Int) := by omega
                      rw [hzf] at f0
                      clear hzf
                      go_wp2
                      go_ret
                      exact RetB.mk false rfl (by simp [HB.out]) hbw
                    · have Hnext := Lib.hid (all_next (Q := fun _ y => DownOk T k y) Hpre2.out Hy.out (down_good (T := T) (show k < i by omega)))
                      have t1 : ¬ (i : Int) ≤ (k : Int) := by omega
                      rw [hzf] at f0
                      clear hzf
                      go_wp2
                      go_roundw
                      case rel => exact ⟨m + 1, by omega, by go_num, Hnext.out, hb3⟩
                      case measure => simp [intOf]; omega
            · have tk : (0 : Int) < (k : Int) := by omega
              have hk1 : 0 < k := by omega
              clear hk0
              by_cases hc0 : c = 0
              · have HB := Lib.hid (HBL.out hk1 (fun h => by have := (HQ.out.1 h).1; omega))
                have hz : (c : Int) = 0 := by omega
                rw [hz] at e0
                clear hz hc0
                go_wp2
                go_ret
                exact RetB.mk false rfl (by simp [HB.out]) (hb.trans S.ext)
              · have tc : ((c : Int) == 0) = false := by simp; omega
                cases hxf : x.fold with
                | false =>
                  have Hlk : Hid (0 < k → LkOk T k x) := Lib.hid (fun _ => HQ.out.2 ⟨by omega, fun h => Bool.noConfusion (hxf.symm.trans h)⟩)
                  rw [hxf] at nbc0
                  clear hxf
                  have HW := Lib.hid S.ext
                  go_wp2
                  go_loopw [7, 72] (fun _ i wz => ∃ m : Nat, m ≤ x.K.length ∧ i = .int .i64 m ∧ (∀ (j : Nat) y, j < m → x.K[j]? = some y → DownOk T k y) ∧ Ext w3 wz) (fun _ i _ => x.K.length - (intOf i).toNat)
                  case atStart => exact ⟨0, Nat.zero_le _, rfl, fun _ _ h => absurd h (Nat.not_lt_zero _), Ext.refl _⟩
                  case round =>
                    clear e0
                    clear S tk hk1 hc0 tc
                    obtain ⟨m, hm, rfl, hpre2, hb3⟩ := hrel
                    have Hpre2 := Lib.hid hpre2
                    have hbw := hb.trans (HW.out.trans hb3)
                    clear hpre2
                    by_cases hlm : m < x.K.length
                    rotate_left
                    · obtain rfl : m = x.K.length := by omega
                      have hni : ¬ (x.K.length : Int) < (x.K.length : Int) := by omega
                      have Hnext := Lib.hid (all_next (Q := fun j n => NodeI n ∧ (0 < j → LkOk T j n) ∧ ∀ x ∈ n.K, DownOk T j x) Hpre.out Hx.out ⟨HN.out, Hlk.out, all_mem Hpre2.out⟩)
                      have HF := Lib.hid (hb1.trans (HW.out.trans hb3))
                      go_wp2
                      go_roundw
                      case rel => exact ⟨k + 1, by omega, by go_num, Hnext.out, HF.out⟩
                      case measure => simp [intOf]; omega
                    · obtain ⟨y, b4, off4, hy, rfl, e4⟩ := atInt (Hrk.out _ (HW.out.trans hb3)) hlm
                      have Hy := Lib.hid hy
                      have j0 : (m : Int) < (x.K.length : Int) := by omega
                      obtain ⟨i, rfl, hiM⟩ := in_cast (HL.out.2 y (kids_mem Hx.out (List.mem_of_getElem? hy)))
                      have k0 : (i : Int) < (T.length : Int) := by omega
                      obtain ⟨z, b', off', an', cn', ak', ck', hz, hpe, f0, _⟩ := atNd (hc.ext hbw) hiM
                      obtain ⟨rfl, rfl⟩ : b = b' ∧ off = off' := by simpa using hpe
                      have Hz := Lib.hid hz
                      clear hy hz hpe
                      cases hzf : z.fold with
                      | false =>
                        have Hnext := Lib.hid (all_next (Q := fun _ y => DownOk T k y) Hpre2.out Hy.out (down_file Hz.out hzf))
                        rw [hzf] at f0
                        clear hzf
                        go_wp2
                        go_roundw
                        case rel => exact ⟨m + 1, by omega, by go_num, Hnext.out, hb3⟩
                        case measure => simp [intOf]; omega
                      | true =>
                        by_cases hik : i ≤ k
                        · have HB : Hid (¬ TreeOk T) := Lib.hid (fun h => down_bad Hz.out hzf hik (h.down k x Hx.out _ (List.mem_of_getElem? Hy.out)))
                          have t1 : (i : Int) ≤ (k : Int) := by omega
                          rw [hzf] at f0
                          clear hzf
                          go_wp2
                          go_ret
                          exact RetB.mk false rfl (by simp [HB.out]) hbw
                        · have Hnext := Lib.hid (all_next (Q := fun _ y => DownOk T k y) Hpre2.out Hy.out (down_good (T := T) (show k < i by omega)))
                          have t1 : ¬ (i : Int) ≤ (k : Int) := by omega
                          rw [hzf] at f0
                          clear hzf
                          go_wp2
                          go_roundw
                          case rel => exact ⟨m + 1, by omega, by go_num, Hnext.out, hb3⟩
                          case measure => simp [intOf]; omega
                | true =>
                  by_cases hc1 : 1 < c
                  · have HB := Lib.hid (HBL.out hk1 (fun h => by have := (HQ.out.1 h).2 hxf; omega))
                    have t2 : (1 : Int) < (c : Int) := by omega
                    rw [hxf] at nbc0
                    clear hxf hc1
                    go_wp2
                    go_ret
                    exact RetB.mk false rfl (by simp [HB.out]) (hb.trans S.ext)
                  · have Hlk : Hid (0 < k → LkOk T k x) := Lib.hid (fun _ => HQ.out.2 ⟨by omega, fun _ => by omega⟩)
                    have t2 : ¬ (1 : Int) < (c : Int) := by omega
                    rw [hxf] at nbc0
                    clear hxf hc1
                    have HW := Lib.hid S.ext
                    go_wp2
                    go_loopw [7, 72] (fun _ i wz => ∃ m : Nat, m ≤ x.K.length ∧ i = .int .i64 m ∧ (∀ (j : Nat) y, j < m → x.K[j]? = some y → DownOk T k y) ∧ Ext w3 wz) (fun _ i _ => x.K.length - (intOf i).toNat)
                    case atStart => exact ⟨0, Nat.zero_le _, rfl, fun _ _ h => absurd h (Nat.not_lt_zero _), Ext.refl _⟩
                    case round =>
                      clear e0
                      clear S tk hk1 hc0 tc t2
                      obtain ⟨m, hm, rfl, hpre2, hb3⟩ := hrel
                      have Hpre2 := Lib.hid hpre2
                      have hbw := hb.trans (HW.out.trans hb3)
                      clear hpre2
                      by_cases hlm : m < x.K.length
                      rotate_left
                      · obtain rfl : m = x.K.length := by omega
                        have hni : ¬ (x.K.length : Int) < (x.K.length : Int) := by omega
                        have Hnext := Lib.hid (all_next (Q := fun j n => NodeI n ∧ (0 < j → LkOk T j n) ∧ ∀ x ∈ n.K, DownOk T j x) Hpre.out Hx.out ⟨HN.out, Hlk.out, all_mem Hpre2.out⟩)
                        have HF := Lib.hid (hb1.trans (HW.out.trans hb3))
                        go_wp2
                        go_roundw
                        case rel => exact ⟨k + 1, by omega, by go_num, Hnext.out, HF.out⟩
                        case measure => simp [intOf]; omega
                      · obtain ⟨y, b4, off4, hy, rfl, e4⟩ := atInt (Hrk.out _ (HW.out.trans hb3)) hlm
                        have Hy := Lib.hid hy
                        have j0 : (m : Int) < (x.K.length : Int) := by omega
                        obtain ⟨i, rfl, hiM⟩ := in_cast (HL.out.2 y (kids_mem Hx.out (List.mem_of_getElem? hy)))
                        have k0 : (i : Int) < (T.length : Int) := by omega
                        obtain ⟨z, b', off', an', cn', ak', ck', hz, hpe, f0, _⟩ := atNd (hc.ext hbw) hiM
                        obtain ⟨rfl, rfl⟩ : b = b' ∧ off = off' := by simpa using hpe
                        have Hz := Lib.hid hz
                        clear hy hz hpe
                        cases hzf : z.fold with
                        | false =>
                          have Hnext := Lib.hid (all_next (Q := fun _ y => DownOk T k y) Hpre2.out Hy.out (down_file Hz.out hzf))
                          rw [hzf] at f0
                          clear hzf
                          go_wp2
                          go_roundw
                          case rel => exact ⟨m + 1, by omega, by go_num, Hnext.out, hb3⟩
                          case measure => simp [intOf]; omega
                        | true =>
                          by_cases hik : i ≤ k
                          · have HB : Hid (¬ TreeOk T) := Lib.hid (fun h => down_bad Hz.out hzf hik (h.down k x Hx.out _ (List.mem_of_getElem? Hy.out)))
                            have t1 : (i : Int) ≤ (k : Int) := by omega
                            rw [hzf] at f0
                            clear hzf
                            go_wp2
                            go_ret
                            exact RetB.mk false rfl (by simp [HB.out]) hbw
                          · have Hnext := Lib.hid (all_next (Q := fun _ y => DownOk T k y) Hpre2.out Hy.out (down_good (T := T) (show k < i by omega)))
                            have t1 : ¬ (i : Int) ≤ (k : Int) := by omega
                            rw [hzf] at f0
                            clear hzf
                            go_wp2
                            go_roundw
                            case rel => exact ⟨m + 1, by omega, by go_num, Hnext.out, hb3⟩
                            case measure => simp [intOf]; omega
end Go.Proofs.Ytnibbldfohbfkaa
