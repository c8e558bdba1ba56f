/- Nodes: contracts of the laws' functions that compare them. Condition: rows shorter than 2^63. -/
import Derived.Test.YtnibbldfohbfkaaNod
import Derived.Deep.Cut
namespace Go.Proofs.Ytnibbldfohbfkaa
open Go.RowKit

set_option maxHeartbeats 4000000 in
theorem eqNd_any (x y : Nd) (a1 a2 b1 b2 : Option Addr) (c1 c2 d1 d2 : Nat) (w : World) (h1 : x.N.length ≤ 9223372036854775807) (h2 : x.K.length ≤ 9223372036854775807) (h3 : y.N.length ≤ 9223372036854775807) (h4 : y.K.length ≤ 9223372036854775807)
    (hn : Rd 1 encStr1 w a1 x.N) (hk : Rd 1 encInt1 w a2 x.K) (hm : Rd 1 encStr1 w b1 y.N) (hl : Rd 1 encInt1 w b2 y.K) :
    Calls Try.prog 33 #[.agg #[.bool x.fold, .int .i64 x.own, .int .i64 x.grp, .int .i64 x.mode, .string x.text, .slice a1 x.N.length c1, .slice a2 x.K.length c2], .agg #[.bool y.fold, .int .i64 y.own, .int .i64 y.grp, .int .i64 y.mode, .string y.text, .slice b1 y.N.length d1, .slice b2 y.K.length d2]] w (RetB (x = y) w) := by
  obtain ⟨f, o, g, m, s, N, K⟩ := x
  obtain ⟨f', o', g', m', s', N', K'⟩ := y
  dsimp only at h1 h2 h3 h4 hn hk hm hl ⊢
  simp only [Nd.mk.injEq]
  by_cases e1 : f = f'
  case neg =>
    cases f <;> cases f' <;> first
      | exact absurd rfl e1
      | (clear e1
         go_enter Try.func33, Try.ntmps33
         go_wp2
         go_ret
         exact RetB.mk false rfl (by simp) (((Ext.refl _).alloc _).alloc _))
  subst e1
  by_cases e2 : o = o'
  case neg =>
    have t2 : (o != o') = true := by simpa using e2
    go_enter Try.func33, Try.ntmps33
    go_wp2
    go_ret
    exact RetB.mk false rfl (by simp [e2]) (((Ext.refl _).alloc _).alloc _)
  subst e2
  by_cases e3 : g = g'
  case neg =>
    have t2 : (g != g') = true := by simpa using e3
    go_enter Try.func33, Try.ntmps33
    go_wp2
    go_ret
    exact RetB.mk false rfl (by simp [e3]) (((Ext.refl _).alloc _).alloc _)
  subst e3
  by_cases e4 : m = m'
  case neg =>
    have t2 : (m != m') = true := by simpa using e4
    go_enter Try.func33, Try.ntmps33
    go_wp2
    go_ret
    exact RetB.mk false rfl (by simp [e4]) (((Ext.refl _).alloc _).alloc _)
  subst e4
  by_cases e5 : s = s'
  case neg =>
    have t2 : (s.toList == s'.toList) = false := by simpa [bytes_eq] using e5
    go_enter Try.func33, Try.ntmps33
    go_wp2
    go_ret
    exact RetB.mk false rfl (by simp [e5]) (((Ext.refl _).alloc _).alloc _)
  subst e5
  simp only [true_and]
  go_enter Try.func33, Try.ntmps33
  have S := Sep.start w
  replace S : Sep w (w.alloc (.cells #[.bool f, .int .i64 o, .int .i64 g, .int .i64 m, .string s, .slice a1 N.length c1, .slice a2 K.length c2] 57)) [plBox w.heap.size #[.bool f, .int .i64 o, .int .i64 g, .int .i64 m, .string s, .slice a1 N.length c1, .slice a2 K.length c2] 57] := S.alloc_at (by simp) _ _
  replace S : Sep w ((w.alloc (.cells #[.bool f, .int .i64 o, .int .i64 g, .int .i64 m, .string s, .slice a1 N.length c1, .slice a2 K.length c2] 57)).alloc (.cells #[.bool f, .int .i64 o, .int .i64 g, .int .i64 m, .string s, .slice b1 N'.length d1, .slice b2 K'.length d2] 57)) [plBox (w.heap.size + 1) #[.bool f, .int .i64 o, .int .i64 g, .int .i64 m, .string s, .slice b1 N'.length d1, .slice b2 K'.length d2] 57, plBox w.heap.size #[.bool f, .int .i64 o, .int .i64 g, .int .i64 m, .string s, .slice a1 N.length c1, .slice a2 K.length c2] 57] := S.alloc_at (by simp) _ _
  go_wp2_with fail
  generalize ((w.alloc (.cells #[.bool f, .int .i64 o, .int .i64 g, .int .i64 m, .string s, .slice a1 N.length c1, .slice a2 K.length c2] 57)).alloc (.cells #[.bool f, .int .i64 o, .int .i64 g, .int .i64 m, .string s, .slice b1 N'.length d1, .slice b2 K'.length d2] 57)) = w1 at *
  refine (eqStr_any a1 b1 c1 d1 N N' w1 h1 h3 (hn.ext S.ext) (hm.ext S.ext)).mono ?_
  rintro e w2 ⟨v1, rfl, hv1, hE⟩
  have Hv1 := Lib.hid hv1
  clear hv1
  replace S : Sep w w2 [plBox (w.heap.size + 1) #[.bool f, .int .i64 o, .int .i64 g, .int .i64 m, .string s, .slice b1 N'.length d1, .slice b2 K'.length d2] 57, plBox w.heap.size #[.bool f, .int .i64 o, .int .i64 g, .int .i64 m, .string s, .slice a1 N.length c1, .slice a2 K.length c2] 57] := S.step hE
  clear hE
  cases v1 with
  | false =>
    go_wp2
    go_ret
    exact RetB.mk false rfl (by simp only [Bool.false_eq_true, false_iff]; exact fun h => Bool.noConfusion (Hv1.out.2 h.1)) S.ext
  | true =>
    obtain ⟨qc0, qf0⟩ : w2.cell? ⟨(w.heap.size + 1), 0, none⟩ = some (.bool f) ∧ w2.frozen? ⟨(w.heap.size + 1), 0, none⟩ = false := bx (S.box 0 rfl) 0 rfl
    obtain ⟨qc1, qf1⟩ : w2.cell? ⟨(w.heap.size + 1), 1, none⟩ = some (.int .i64 o) ∧ w2.frozen? ⟨(w.heap.size + 1), 1, none⟩ = false := bx (S.box 0 rfl) 1 rfl
    obtain ⟨qc2, qf2⟩ : w2.cell? ⟨(w.heap.size + 1), 2, none⟩ = some (.int .i64 g) ∧ w2.frozen? ⟨(w.heap.size + 1), 2, none⟩ = false := bx (S.box 0 rfl) 2 rfl
    obtain ⟨qc3, qf3⟩ : w2.cell? ⟨(w.heap.size + 1), 3, none⟩ = some (.int .i64 m) ∧ w2.frozen? ⟨(w.heap.size + 1), 3, none⟩ = false := bx (S.box 0 rfl) 3 rfl
    obtain ⟨qc4, qf4⟩ : w2.cell? ⟨(w.heap.size + 1), 4, none⟩ = some (.string s) ∧ w2.frozen? ⟨(w.heap.size + 1), 4, none⟩ = false := bx (S.box 0 rfl) 4 rfl
    obtain ⟨qc5, qf5⟩ : w2.cell? ⟨(w.heap.size + 1), 5, none⟩ = some (.slice b1 N'.length d1) ∧ w2.frozen? ⟨(w.heap.size + 1), 5, none⟩ = false := bx (S.box 0 rfl) 5 rfl
    obtain ⟨qc6, qf6⟩ : w2.cell? ⟨(w.heap.size + 1), 6, none⟩ = some (.slice b2 K'.length d2) ∧ w2.frozen? ⟨(w.heap.size + 1), 6, none⟩ = false := bx (S.box 0 rfl) 6 rfl
    obtain ⟨pc0, pf0⟩ : w2.cell? ⟨w.heap.size, 0, none⟩ = some (.bool f) ∧ w2.frozen? ⟨w.heap.size, 0, none⟩ = false := bx (S.box 1 rfl) 0 rfl
    obtain ⟨pc1, pf1⟩ : w2.cell? ⟨w.heap.size, 1, none⟩ = some (.int .i64 o) ∧ w2.frozen? ⟨w.heap.size, 1, none⟩ = false := bx (S.box 1 rfl) 1 rfl
    obtain ⟨pc2, pf2⟩ : w2.cell? ⟨w.heap.size, 2, none⟩ = some (.int .i64 g) ∧ w2.frozen? ⟨w.heap.size, 2, none⟩ = false := bx (S.box 1 rfl) 2 rfl
    obtain ⟨pc3, pf3⟩ : w2.cell? ⟨w.heap.size, 3, none⟩ = some (.int .i64 m) ∧ w2.frozen? ⟨w.heap.size, 3, none⟩ = false := bx (S.box 1 rfl) 3 rfl
    obtain ⟨pc4, pf4⟩ : w2.cell? ⟨w.heap.size, 4, none⟩ = some (.string s) ∧ w2.frozen? ⟨w.heap.size, 4, none⟩ = false := bx (S.box 1 rfl) 4 rfl
    obtain ⟨pc5, pf5⟩ : w2.cell? ⟨w.heap.size, 5, none⟩ = some (.slice a1 N.length c1) ∧ w2.frozen? ⟨w.heap.size, 5, none⟩ = false := bx (S.box 1 rfl) 5 rfl
    obtain ⟨pc6, pf6⟩ : w2.cell? ⟨w.heap.size, 6, none⟩ = some (.slice a2 K.length c2) ∧ w2.frozen? ⟨w.heap.size, 6, none⟩ = false := bx (S.box 1 rfl) 6 rfl
    go_wp2_with fail
    refine (eqIntS_any a2 b2 c2 d2 K K' w2 h2 h4 (hk.ext S.ext) (hl.ext S.ext)).mono ?_
    rintro e w3 ⟨v2, rfl, hv2, hE⟩
    have Hv2 := Lib.hid hv2
    clear hv2
    clear qc0 qf0 qc1 qf1 qc2 qf2 qc3 qf3 qc4 qf4 qc5 qf5 qc6 qf6 pc0 pf0 pc1 pf1 pc2 pf2 pc3 pf3 pc4 pf4 pc5 pf5 pc6 pf6
    replace S : Sep w w3 [plBox (w.heap.size + 1) #[.bool f, .int .i64 o, .int .i64 g, .int .i64 m, .string s, .slice b1 N'.length d1, .slice b2 K'.length d2] 57, plBox w.heap.size #[.bool f, .int .i64 o, .int .i64 g, .int .i64 m, .string s, .slice a1 N.length c1, .slice a2 K.length c2] 57] := S.step hE
    clear hE
    cases v2 with
    | false =>
      go_wp2
      go_ret
      exact RetB.mk false rfl (by simp only [Bool.false_eq_true, false_iff]; exact fun h => Bool.noConfusion (Hv2.out.2 h.2)) S.ext
    | true =>
      go_wp2
      go_ret
      exact RetB.mk true rfl (by simp only [true_iff]; exact ⟨Hv1.out.1 (by trivial), Hv2.out.1 (by trivial)⟩) S.ext

theorem extNd {l m : List Nd} (hl : l.length = m.length) (h : ∀ j, j < l.length → l[j]? = m[j]?) : l = m := by
  apply List.ext_getElem?
  intro j
  by_cases hj : j < l.length
  · exact h j hj
  · rw [List.getElem?_eq_none (by omega), List.getElem?_eq_none (by omega)]
set_option maxRecDepth 10000 in
set_option maxHeartbeats 4000000 in
theorem eqNdS_any (a a' : Option Addr) (cap cap' : Nat) (T U : List Nd) (w : World) (hl : T.length ≤ 9223372036854775807) (hm : U.length ≤ 9223372036854775807) (hlt : ∀ t ∈ T, SmN 9223372036854775807 t) (hlu : ∀ t ∈ U, SmN 9223372036854775807 t) (hc : RdN w a T) (hd : RdN w a' U) :
    Calls Try.prog 19 #[.slice a T.length cap, .slice a' U.length cap'] w (RetB (T = U) w) := by
  have HLT := Lib.hid hlt
  have HLU := Lib.hid hlu
  clear hlt hlu
  by_cases hlen : T.length = U.length
  · have ht : ((T.length : Int) != (U.length : Int)) = false := by simp; omega
    have Hlen := Lib.hid hlen
    clear hlen
    go_enter Try.func19, Try.ntmps19
    go_wp2
    go_loopw [5] (fun i wr => ∃ k : Nat, k ≤ T.length ∧ i = .int .i64 k ∧ (∀ j, j < k → T[j]? = U[j]?) ∧ Ext w wr) (fun i _ => T.length - (intOf i).toNat)
    case atStart => exact ⟨0, Nat.zero_le _, rfl, fun _ h => absurd h (Nat.not_lt_zero _), Ext.refl _⟩
    case round =>
      obtain ⟨k, hk, rfl, hpre, hb⟩ := hrel
      have Hpre := Lib.hid hpre
      clear hpre ht
      by_cases hlk : k < T.length
      · have hltm : k < U.length := by have := Hlen.out; omega
        obtain ⟨x, b, off, an, cn, ak, ck, hx, rfl, c0, c1, c2, c3, c4, c5, c6, hcn, hck, hrn, hrk⟩ := atNd (hc.ext hb) hlk
        obtain ⟨y, b', off', an', cn', ak', ck', hy, rfl, d0, d1, d2, d3, d4, d5, d6, hdn, hdk, hsn, hsk⟩ := atNd (hd.ext hb) hltm
        have Hx := Lib.hid hx
        have Hy := Lib.hid hy
        have s1 := (HLT.out x (List.mem_of_getElem? hx)).2
        have s2 := (HLU.out y (List.mem_of_getElem? hy)).2
        have S1 := Lib.hid s1
        have S2 := Lib.hid s2
        have i0 : (k : Int) < (T.length : Int) := by omega
        have i1 : (k : Int) < (U.length : Int) := by omega
        clear hx hy hcn hck hdn hdk s1 s2
        go_wp2
        go_still_tail 8, (by kernel_rfl)
        change wpList _ _ _ _ _ wr.drew
        generalize hw2 : wr.drew = w2
        have hb2 : Ext w w2 := by rw [← hw2]; exact hb.drew
        have he2 : Ext wr w2 := by rw [← hw2]; exact (Ext.refl wr).drew
        clear hw2 hb c0 d0 c1 d1 c2 d2 c3 d3 c4 d4 c5 d5 c6 d6
        go_wp2_with fail
        refine (eqNd_any x y an ak an' ak' cn ck cn' ck' w2 S1.out.1 S1.out.2.2 S2.out.1 S2.out.2.2 (hrn.ext he2) (hrk.ext he2) (hsn.ext he2) (hsk.ext he2)).mono ?_
        rintro e w3 ⟨b0, rfl, he, hb3⟩
        have He := Lib.hid he
        clear he hrn hrk hsn hsk he2
        cases b0 with
        | false =>
          go_wp2
          go_ret
          exact RetB.mk false rfl (by simp only [Bool.false_eq_true, false_iff]; intro h; subst h; have h1 := Hx.out; rw [Hy.out] at h1; cases h1; exact Bool.noConfusion (He.out.2 rfl)) (hb2.trans hb3)
        | true =>
          have Hxy : Hid (x = y) := Lib.hid (He.out.1 rfl)
          go_wp2
          go_roundw
          case rel => exact ⟨k + 1, by omega, by go_num, fun j hj => (Nat.lt_succ_iff_lt_or_eq.1 hj).elim (Hpre.out j) (fun e => by rw [e, Hx.out, Hy.out, Hxy.out]), hb2.trans hb3⟩
          case measure => simp [intOf]; omega
      · go_wp2
        go_ret
        exact RetB.mk true rfl (by simp only [true_iff]; exact extNd Hlen.out (fun j hj => Hpre.out j (by omega))) hb
  · have ht : ((T.length : Int) != (U.length : Int)) = true := by simp; omega
    have Hlen := Lib.hid hlen
    clear hlen
    go_enter Try.func19, Try.ntmps19
    go_wp2
    go_ret
    exact RetB.mk false rfl (by simp only [Bool.false_eq_true, false_iff]; intro h; exact Hlen.out (by rw [h])) (Ext.refl _)
end Go.Proofs.Ytnibbldfohbfkaa
