/- Trees: contract of the reference's LinksOf. Condition: rows of at most 2^20. -/
import Derived.Test.YtnibbldfohbfkaaLinks
import Derived.Deep.Cut
namespace Go.Proofs.Ytnibbldfohbfkaa
open Go.RowKit

set_option maxRecDepth 10000 in
set_option maxHeartbeats 8000000 in
theorem specLinksOf (a : Option Addr) (cap : Nat) (T : List Nd) (w : World) (hl : T.length ≤ 1048576) (hs : ∀ x ∈ T, SmN 1048576 x) (hc : RdN w a T) :
    Calls Try.prog 27 #[.slice a T.length cap] w (RetV (fun v w' => ∃ L, w'.ownsRow w.heap.size 3 1 v L.length (L.flatMap encInt1) ∧ LinksR T L) w) := by
  obtain ⟨i0, hi, hz0, hz1, hz2⟩ := info_parts infoInt
  have HS := Lib.hid hs
  clear hs
  go_enter Try.func27, Try.ntmps27
  go_wp2_with (at_make; refine wpList_make_full _ rfl _ _ 53 rfl w.heap.size 3 i0 _ 1 Try.underlying53 hi hz0 hz1 _ _ _ _ T.length rfl rfl rfl rfl ?b1 ?b2 ?b3 ?_)
  case b1 => rw [hz2]; omega
  case b2 => unfold maxLen; omega
  case b3 => exact Nat.le_refl _
  intro w1 hown1 hgr1
  have hE := ext_of_grown hgr1
  clear hgr1
  by_cases h16 : T.length ≤ 16
  rotate_left
  · have h16i : (16 : Int) < (T.length : Int) := by omega
    have HR : Hid (LinksR T []) := Lib.hid (.inr ⟨fun h => h16 h.1, rfl⟩)
    have HO := Lib.hid (owns_lit0 hE)
    clear hown1
    go_wp2
    go_ret
    exact RetV.mk ⟨[], HO.out, HR.out⟩ (hE.alloc _)
  · have h16i : (T.length : Int) ≤ 16 := by omega
    go_wp2
    go_loopw [4] (fun i wr => ∃ k : Nat, k ≤ T.length ∧ i = .int .i64 k ∧ wr.ownsRow w.heap.size 3 1 (.slice (some ⟨w.heap.size, 0, none⟩) T.length T.length) T.length ((cntL T.length (kids (T.take k))).flatMap encInt1) ∧ (∀ x ∈ kids (T.take k), inB x 0 ((T.length : Int) - 1) = true) ∧ Ext w wr) (fun i _ => T.length - (intOf i).toNat)
    case atStart =>
      refine ⟨0, Nat.zero_le _, rfl, ?_, fun x hx => by simp [kids] at hx, hE⟩
      rw [List.take_zero, show kids [] = [] from rfl, cntL_zero, ← madeInt]
      exact hown1
    case round =>
      clear hown1 hE
      obtain ⟨k, hk, rfl, hown, hpre, hb⟩ := hrel
      have Hpre := Lib.hid hpre
      clear hpre
      by_cases hlt : k < T.length
      rotate_left
      · obtain rfl : k = T.length := by omega
        have hni : ¬ (T.length : Int) < (T.length : Int) := by omega
        rw [List.take_length] at hown Hpre
        have hown2 : wr.ownsRow w.heap.size 3 1 (.slice (some ⟨w.heap.size, 0, none⟩) T.length T.length) (cntL T.length (kids T)).length ((cntL T.length (kids T)).flatMap encInt1) := by rw [cntL_len]; exact hown
        have HO := Lib.hid hown2
        have HR : Hid (LinksR T (cntL T.length (kids T))) := Lib.hid (.inl ⟨⟨h16, Hpre.out⟩, rfl⟩)
        clear hown hown2
        go_wp2
        go_ret
        exact RetV.mk ⟨_, HO.out, HR.out⟩ hb
      · obtain ⟨x, b, off, an, cn, ak, ck, hx, rfl, c0, c1, c2, c3, c4, c5, c6, hcn, hck, hrn, hrk⟩ := atNd hc hlt
        have Hx := Lib.hid hx
        have hkl := (HS.out x (List.mem_of_getElem? hx)).2.2.2
        have i0 : (k : Int) < (T.length : Int) := by omega
        clear hx c0 c1 c2 c3 c4 c5 hcn hck hrn
        have HA := Lib.hid hown
        have HB := Lib.hid hb
        have C6 := Lib.hid c6
        clear hown hb c6
        go_wp2
        go_loopw [5] (fun i wr => ∃ m : Nat, m ≤ x.K.length ∧ i = .int .i64 m ∧ wr.ownsRow w.heap.size 3 1 (.slice (some ⟨w.heap.size, 0, none⟩) T.length T.length) T.length ((cntL T.length (kids (T.take k) ++ x.K.take m)).flatMap encInt1) ∧ (∀ y ∈ kids (T.take k) ++ x.K.take m, inB y 0 ((T.length : Int) - 1) = true) ∧ Ext w wr) (fun i _ => x.K.length - (intOf i).toNat)
        case atStart =>
          refine ⟨0, Nat.zero_le _, rfl, ?_, ?_, HB.out⟩
          · rw [List.take_zero, List.append_nil]
            exact HA.out
          · rw [List.take_zero, List.append_nil]
            exact Hpre.out
        case round =>
          clear HA HB
          obtain ⟨m, hm, rfl, hown, hpre2, hb⟩ := hrel
          have Hpre2 := Lib.hid hpre2
          have d6 := cell_ext hb C6.out
          clear hpre2
          by_cases hlm : m < x.K.length
          rotate_left
          · obtain rfl : m = x.K.length := by omega
            have hni : ¬ (x.K.length : Int) < (x.K.length : Int) := by omega
            rw [List.take_length, kids_step Hx.out] at hown Hpre2
            have HO := Lib.hid hown
            clear hown
            go_wp2
            go_roundw
            case rel => exact ⟨k + 1, by omega, by go_num, HO.out, Hpre2.out, hb⟩
            case measure => simp [intOf]; omega
          · obtain ⟨y, b2, off2, hy, rfl, e0⟩ := atInt (hrk.ext hb) hlm
            have Hy := Lib.hid hy
            have j0 : (m : Int) < (x.K.length : Int) := by omega
            have s1 : IntKind.i64.wrap ((T.length : Int) - 1) = (T.length : Int) - 1 := IntWalk.i64_in _ (by omega)
            clear hy
            cases hI : inB y 0 ((T.length : Int) - 1) with
            | false =>
              have HI := Lib.hid hI
              have HR : Hid (LinksR T []) := Lib.hid (.inr ⟨fun h => Bool.noConfusion (hI.symm.trans (h.2 y (kids_mem Hx.out (List.mem_of_getElem? Hy.out)))), rfl⟩)
              have HO := Lib.hid (owns_lit0 hb)
              clear hI hown
              go_wp2_with (go_at_call 25; refine (l1In_is HI.out _).mono ?_; rintro e w' ⟨rfl, rfl⟩)
              go_ret
              exact RetV.mk ⟨[], HO.out, HR.out⟩ (hb.alloc _)
            | true =>
              have HI := Lib.hid hI
              obtain ⟨i, rfl, hiM⟩ := in_cast hI
              clear hI
              have hkm : i < (cntL T.length (kids (T.take k) ++ x.K.take m)).length := by rw [cntL_len]; exact hiM
              have g0 : wr.cell? ⟨w.heap.size, i, none⟩ = some (.int .i64 (cntL T.length (kids (T.take k) ++ x.K.take m))[i]) := by simpa using owns_at encInt1_len hown i hkm 0 _ rfl
              rw [cntL_at hkm] at g0
              have hcl : (kids (T.take k) ++ x.K.take m).count (i : Int) ≤ 100000000 := Nat.le_trans List.count_le_length (pre_len HS.out Hx.out m h16)
              have Hin : Hid (∀ y ∈ kids (T.take k) ++ x.K.take (m + 1), inB y 0 ((T.length : Int) - 1) = true) := Lib.hid (fun z hz => by
                rw [take_next Hy.out] at hz
                rcases List.mem_append.1 hz with hz | hz
                · exact Hpre2.out z hz
                · rw [List.mem_singleton.1 hz]; exact HI.out)
              have k0 : (i : Int) < (T.length : Int) := by omega
              have Hnx := Lib.hid (cntL_step (M := T.length) (P := kids (T.take k) ++ x.K.take m) (i := i))
              rw [← take_next Hy.out] at Hnx
              obtain ⟨L, hL⟩ : ∃ L, L = cntL T.length (kids (T.take k) ++ x.K.take m) := ⟨_, rfl⟩
              rw [← hL] at hown hkm Hnx
              clear hL
              generalize (kids (T.take k) ++ x.K.take m).count (i : Int) = c at *
              have Hkm := Lib.hid hkm
              have Hown := Lib.hid hown
              clear hkm hown
              go_wp2_with (go_at_call 25; refine (l1In_is HI.out _).mono ?_; rintro e w' ⟨rfl, rfl⟩)
              go_still_tail 22, (by kernel_rfl)
              change wpList _ _ _ _ _ wr.drew
              generalize hw2 : wr.drew = w2
              have he2 : Ext wr w2 := by rw [← hw2]; exact (Ext.refl wr).drew
              have hb2 := hb.trans he2
              have hown2 := ownsRow_ext Hown.out he2
              have g2 := cell_ext he2 g0
              have f0 := hown2.frozenAt
              have h3 := owns_put encInt1_len hown2 i ((c : Int) + 1) Hkm.out
              rw [Hnx.out] at h3
              have H3 := Lib.hid h3
              have HE := Lib.hid (Ext.setCells (Nat.le_refl _) (encInt1 ((c : Int) + 1)) (i * 1) hb2)
              clear hw2 he2 hb hb2 hown2 h3 g0 d6 e0
              go_wp2
              go_roundw
              case rel => exact ⟨m + 1, by omega, by go_num, by simpa [setCells, encInt1] using H3.out, Hin.out, by simpa [setCells, encInt1] using HE.out⟩
              case measure => simp [intOf]; omega
end Go.Proofs.Ytnibbldfohbfkaa
