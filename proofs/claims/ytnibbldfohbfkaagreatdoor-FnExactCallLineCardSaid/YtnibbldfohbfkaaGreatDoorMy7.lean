/- Parts of one proof: each says below what it proves and on what conditions. -/
import Derived.Deep.Cut
import Derived.Test.YtnibbldfohbfkaaGreatDoorMy6
set_option linter.unusedVariables false
set_option linter.unusedSimpArgs false
/- Trees: contract of the reference's TreeValid. Condition: rows of at most 2^20. -/
namespace Go.Proofs.YtnibbldfohbfkaaGreatDoor
open Go.RowKit
set_option maxRecDepth 10000 in
set_option maxHeartbeats 8000000 in
theorem specTreeValid (a : Option Addr) (cap : Nat) (T : List Nd) (w : World) (hl : T.length ≤ 1048576) (hs : ∀ x ∈ T, SmN 1048576 x) (hc : RdN w a T) :
  Calls Tryz.prog 64 #[.slice a T.length cap] w (RetB (TreeOk T) w) := by
 have HS := Lib.hid hs
 clear hs
 cases hM : inB (T.length : Int) 1 16 with
 | false =>
  have HM := Lib.hid hM
  have HB : Hid (¬ TreeOk T) := Lib.hid (fun h => Bool.noConfusion (hM.symm.trans (inB_iff.2 (by have := h.pos; have := h.max; omega))))
  clear hM
  go_enter Tryz.func64, Tryz.ntmps64
  go_wp2_with (go_at_call 68; refine (l1In_is HM.out _).mono ?_; rintro e w' ⟨rfl, rfl⟩)
  go_ret
  exact RetB.mk false rfl (by simp [HB.out]) (Ext.refl _)
 | true =>
  have HM := Lib.hid hM
  obtain ⟨hM1, hM2⟩ := inB_iff.1 hM
  clear hM
  have h1 : 1 ≤ T.length := by omega
  have h16 : T.length ≤ 16 := by omega
  have z0 : (0 : Int) < (T.length : Int) := by omega
  obtain ⟨r, b, off, rn, cn, rk, ck, hr, hpe, c0, _⟩ := atNd hc (show 0 < T.length by omega)
  simp only [Nat.zero_mul, Nat.add_zero] at c0
  cases hf : r.fold with
  | false =>
   have HB : Hid (¬ TreeOk T) := Lib.hid (fun h => Bool.noConfusion (hf.symm.trans (h.root r hr)))
   rw [hf] at c0
   subst hpe
   clear hf hr
   go_enter Tryz.func64, Tryz.ntmps64
   go_wp2_with (go_at_call 68; refine (l1In_is HM.out _).mono ?_; rintro e w' ⟨rfl, rfl⟩)
   go_ret
   exact RetB.mk false rfl (by simp [HB.out]) (Ext.refl _)
  | true =>
   have HRT : Hid (∀ n, T[0]? = some n → n.fold = true) := Lib.hid (fun n hn => by rw [hr] at hn; cases hn; exact hf)
   rw [hf] at c0
   subst hpe
   clear hf hr
   go_enter Tryz.func64, Tryz.ntmps64
   go_wp2_with (go_at_call 68; refine (l1In_is HM.out _).mono ?_; rintro e w' ⟨rfl, rfl⟩)
   go_loopw [3] (fun i wr => ∃ k : Nat, k ≤ T.length ∧ i = .int .i64 k ∧ (∀ (j : Nat) n, j < k → T[j]? = some n → NodeOk n T.length ∧ ∀ x ∈ n.K, DownOk T j x) ∧ Ext w wr) (fun i _ => T.length - (intOf i).toNat)
   case atStart => exact ⟨0, Nat.zero_le _, rfl, fun _ _ h => absurd h (Nat.not_lt_zero _), Ext.refl _⟩
   case round =>
    clear c0
    obtain ⟨k, hk, rfl, hpre, hb⟩ := hrel
    have Hpre := Lib.hid hpre
    clear hpre
    by_cases hlt : k < T.length
    ·obtain ⟨x, b', off', an, cn, ak, ck, hx, hpe, c0, c1, c2, c3, c4, c5, c6, hcn, hck, hrn, hrk⟩ := atNd hc hlt
     obtain ⟨rfl, rfl⟩ : b = b' ∧ off = off' := by simpa using hpe
     have Hx := Lib.hid hx
     have hsx := Lib.hid (HS.out x (List.mem_of_getElem? hx))
     have i0 : (k : Int) < (T.length : Int) := by omega
     have C6 := Lib.hid c6
     have d0 := cell_ext hb c0
     have d1 := cell_ext hb c1
     have d2 := cell_ext hb c2
     have d3 := cell_ext hb c3
     have d4 := cell_ext hb c4
     have d5 := cell_ext hb c5
     have d6 := cell_ext hb c6
     clear hx c0 c1 c2 c3 c4 c5 c6 hcn hck hpe
     go_wp2_with fail
     refine (specNode x an ak cn ck T.length wr hl hsx.out (hrn.ext hb) (hrk.ext hb)).mono ?_
     rintro e w2 ⟨v, rfl, hv, hE⟩
     have Hv := Lib.hid hv
     have hb2 := hb.trans hE
     clear hv d0 d1 d2 d3 d4 d5 d6 hE hb hrn
     cases v with
     | false =>
      have HB : Hid (¬ TreeOk T) := Lib.hid (fun h => Bool.noConfusion (Hv.out.2 (h.nodes k x Hx.out)))
      go_wp2
      go_ret
      exact RetB.mk false rfl (by simp [HB.out]) hb2
     | true =>
      have HN := Lib.hid (Hv.out.1 rfl)
      have HB2 := Lib.hid hb2
      clear Hv hb2
      have hkl := hsx.out.2.2.2
      go_wp2
      go_loopw [4] (fun i wr => ∃ m : Nat, m ≤ x.K.length ∧ i = .int .i64 m ∧ (∀ (j : Nat) y, j < m → x.K[j]? = some y → DownOk T k y) ∧ Ext w wr) (fun i _ => x.K.length - (intOf i).toNat)
      case atStart => exact ⟨0, Nat.zero_le _, rfl, fun _ _ h => absurd h (Nat.not_lt_zero _), HB2.out⟩
      case round =>
       clear HB2
       obtain ⟨m, hm, rfl, hpre2, hb⟩ := hrel
       have Hpre2 := Lib.hid hpre2
       have d6 := cell_ext hb C6.out
       clear hpre2
       by_cases hlm : m < x.K.length
       rotate_left
       ·obtain rfl : m = x.K.length := by omega
        have hni : ¬ (x.K.length : Int) < (x.K.length : Int) := by omega
        have Hnext := Lib.hid (all_next (Q := fun j n => NodeOk n T.length ∧ ∀ x ∈ n.K, DownOk T j x) Hpre.out Hx.out ⟨HN.out, all_mem Hpre2.out⟩)
        go_wp2
        go_roundw
        case rel => exact ⟨k + 1, by omega, by go_num, Hnext.out, hb⟩
        case measure => simp [intOf]; omega
       ·obtain ⟨y, b2, off2, hy, rfl, e0⟩ := atInt (hrk.ext hb) hlm
        have Hy := Lib.hid hy
        have j0 : (m : Int) < (x.K.length : Int) := by omega
        obtain ⟨i, rfl, hiM⟩ := in_cast1 (nodeOk_kid HN.out (List.mem_of_getElem? hy))
        have k0 : (i : Int) < (T.length : Int) := by omega
        obtain ⟨z, b', off', an', cn', ak', ck', hz, hpe, f0, _⟩ := atNd (hc.ext hb) hiM
        obtain ⟨rfl, rfl⟩ : b = b' ∧ off = off' := by simpa using hpe
        have Hz := Lib.hid hz
        clear hy hz hpe
        cases hzf : z.fold with
        | false =>
         have Hnext := Lib.hid (all_next (Q := fun _ y => DownOk T k y) Hpre2.out Hy.out (down_file Hz.out hzf))
         rw [hzf] at f0
         clear hzf
         go_wp2
         go_roundw
         case rel => exact ⟨m + 1, by omega, by go_num, Hnext.out, hb⟩
         case measure => simp [intOf]; omega
        | true =>
         by_cases hik : i ≤ k
         ·have HB : Hid (¬ TreeOk T) := Lib.hid (fun h => down_bad Hz.out hzf hik (h.down k x Hx.out _ (List.mem_of_getElem? Hy.out)))
          have t1 : (i : Int) ≤ (k : Int) := by omega
          rw [hzf] at f0
          clear hzf
          go_wp2
          go_ret
          exact RetB.mk false rfl (by simp [HB.out]) hb
         ·have Hnext := Lib.hid (all_next (Q := fun _ y => DownOk T k y) Hpre2.out Hy.out (down_good (T := T) (show k < i by omega)))
          have t1 : ¬ (i : Int) ≤ (k : Int) := by omega
          rw [hzf] at f0
          clear hzf
          go_wp2
          go_roundw
          case rel => exact ⟨m + 1, by omega, by go_num, Hnext.out, hb⟩
          case measure => simp [intOf]; omega
    ·obtain rfl : k = T.length := by omega
     have hni : ¬ (T.length : Int) < (T.length : Int) := by omega
     have HLK := Lib.hid (linkOk_of h16 (fun k n hn => (Hpre.out k n (List.getElem?_eq_some_iff.1 hn).1 hn).1))
     go_wp2_with fail
     refine (specLinksOf (some ⟨b, off, none⟩) cap T wr hl HS.out (hc.ext hb)).mono ?_
     rintro e w2 ⟨v, rfl, ⟨L, ho, hR⟩, hE⟩
     obtain rfl : L = cntL T.length (kids T) := by
      rcases hR with ⟨_, h⟩ | ⟨h, _⟩
      ·exact h
      ·exact absurd HLK.out h
     obtain ⟨al, cl, hv, _, hrl, _⟩ := view_owns encInt1_len ho
     rw [cntL_len] at hv
     subst hv
     have HB2 := Lib.hid (hb.trans hE)
     have HRL := Lib.hid hrl
     clear hR ho hrl hb hE hni
     go_wp2
     go_loopw [6] (fun i wr => ∃ k : Nat, 1 ≤ k ∧ k ≤ T.length ∧ i = .int .i64 k ∧ (∀ (j : Nat) n, j < k → T[j]? = some n → 0 < j → LkOk T j n) ∧ Ext w2 wr) (fun i _ => T.length - (intOf i).toNat)
     case atStart => exact ⟨1, Nat.le_refl _, h1, rfl, fun j n h _ h0 => by omega, Ext.refl _⟩
     case round =>
      obtain ⟨k, hk1, hk, rfl, hpre2, hb3⟩ := hrel
      have Hpre2 := Lib.hid hpre2
      have hb := HB2.out.trans hb3
      clear hpre2
      by_cases hlt : k < T.length
      rotate_left
      ·obtain rfl : k = T.length := by omega
       have hni : ¬ (T.length : Int) < (T.length : Int) := by omega
       have HO := Lib.hid (tree_spec h1 h16 HRT.out Hpre.out Hpre2.out)
       go_wp2
       go_ret
       exact RetB.mk true rfl (by simp [HO.out]) hb
      ·obtain ⟨x, b', off', an, cn, ak, ck, hx, hpe, c0, _⟩ := atNd (hc.ext hb) hlt
       obtain ⟨rfl, rfl⟩ : b = b' ∧ off = off' := by simpa using hpe
       obtain ⟨y, b2, off2, hy, rfl, e0⟩ := atInt (HRL.out.ext hb3) (show k < (cntL T.length (kids T)).length by rw [cntL_len]; exact hlt)
       rw [cntL_get hlt] at hy
       obtain rfl := Option.some.inj hy
       have Hx := Lib.hid hx
       have i0 : (k : Int) < (T.length : Int) := by omega
       have HQ := Lib.hid (show LkOk T k x ↔ 1 ≤ (kids T).count (k : Int) ∧ (x.fold = true → (kids T).count (k : Int) ≤ 1) from Iff.rfl)
       have HBL : Hid (¬ LkOk T k x → ¬ TreeOk T) := Lib.hid (fun h ht => h (ht.links k x hx (by omega)))
       have HNX : Hid (LkOk T k x → ∀ (j : Nat) n, j < k + 1 → T[j]? = some n → 0 < j → LkOk T j n) := Lib.hid (fun h => all_next (Q := fun j n => 0 < j → LkOk T j n) Hpre2.out hx (fun _ => h))
       generalize (kids T).count (k : Int) = c at *
       clear hx hy hpe
       by_cases hc0 : c < 1
       ·have HB := Lib.hid (HBL.out (fun h => by have := (HQ.out.1 h).1; omega))
        have t1 : (c : Int) < 1 := by omega
        clear hc0
        go_wp2
        go_ret
        exact RetB.mk false rfl (by simp [HB.out]) hb
       ·have t1 : ¬ (c : Int) < 1 := by omega
        cases hxf : x.fold with
        | false =>
         have HN := Lib.hid (HNX.out (HQ.out.2 ⟨by omega, fun h => Bool.noConfusion (hxf.symm.trans h)⟩))
         rw [hxf] at c0
         clear hxf hc0
         go_wp2
         go_roundw
         case rel => exact ⟨k + 1, by omega, by omega, by go_num, HN.out, hb3⟩
         case measure => simp [intOf]; omega
        | true =>
         by_cases hc1 : 1 < c
         ·have HB := Lib.hid (HBL.out (fun h => by have := (HQ.out.1 h).2 hxf; omega))
          have t2 : (1 : Int) < (c : Int) := by omega
          rw [hxf] at c0
          clear hxf hc0 hc1
          go_wp2
          go_ret
          exact RetB.mk false rfl (by simp [HB.out]) hb
         ·have HN := Lib.hid (HNX.out (HQ.out.2 ⟨by omega, fun _ => by omega⟩))
          have t2 : ¬ (1 : Int) < (c : Int) := by omega
          rw [hxf] at c0
          clear hxf hc0 hc1
          go_wp2
          go_roundw
          case rel => exact ⟨k + 1, by omega, by omega, by go_num, HN.out, hb3⟩
          case measure => simp [intOf]; omega
noncomputable def abOf (s : ByteArray) : ByteArray := match aboveOf s with
 | none => ⟨#[]⟩
 | some (a, _) => a
theorem above_no {s : ByteArray} (h : PartsR s [] false) : abOf s = ⟨#[]⟩ ∧ lastOf s = ⟨#[]⟩ ∧ (aboveOf s).isSome = false := by
 have h1 := partsR_of h
 have h2 : aboveOf s = none := by rw [aboveOf, h1]; rfl
 rw [abOf, lastOf, h2]
 exact ⟨rfl, rfl, rfl⟩
theorem above_nil {s : ByteArray} (h : PartsR s [] true) : abOf s = ⟨#[]⟩ ∧ lastOf s = ⟨#[]⟩ ∧ (aboveOf s).isSome = false := by
 have h1 := partsR_of h
 have h2 : aboveOf s = none := by rw [aboveOf, h1]; rfl
 rw [abOf, lastOf, h2]
 exact ⟨rfl, rfl, rfl⟩
theorem above_some {s : ByteArray} {P : List ByteArray} {m : Nat} {l : ByteArray} (h : PartsR s P true) (hm : P.length = m + 1) (hl : P[m]? = some l) : abOf s = joinPath (P.take m) ∧ lastOf s = l ∧ (aboveOf s).isSome = true := by
 have h1 := partsR_of h
 have h3 : P.getLast? = some l := by rw [List.getLast?_eq_getElem?, hm]; exact hl
 have h4 : P.dropLast = P.take m := by rw [List.dropLast_eq_take, hm]; rfl
 have h2 : aboveOf s = some (joinPath (P.take m), l) := by rw [aboveOf, h1, if_pos rfl]; dsimp only; rw [h3, h4]
 rw [abOf, lastOf, h2]
 exact ⟨rfl, rfl, rfl⟩
theorem parts_len {s : ByteArray} {P : List ByteArray} {ok : Bool} (h : PartsR s P ok) : P.length ≤ 6 ∧ ∀ p ∈ P, p.size ≤ 8 := by
 rcases h with ⟨_, h1, _⟩ | ⟨_, rfl, _⟩
 ·exact ⟨h1.2, fun p hp => (h1.1 p hp).2.2⟩
 ·exact ⟨Nat.zero_le _, fun p hp => by cases hp⟩
theorem parts_false {s : ByteArray} {P : List ByteArray} (h : PartsR s P false) : P = [] := by
 rcases h with ⟨h1, _⟩ | ⟨_, h1, _⟩
 ·cases h1
 ·exact h1
theorem Calls.at_v {P : Program} {f : FuncId} {args : Array Value} {w : World} {s : ExtW w} {v : Value} (h : Calls P f args s.x (RetV (fun v' _ => v' = v) s.x)) : Calls P f args s.x fun e w'' => e = .returned v ∧ ∃ s' : ExtW w, w'' = s'.x :=
 h.mono fun e w2 ⟨v', he, hb, hE⟩ => by
  subst hb
  exact ⟨he, ⟨w2, s.h.trans hE⟩, rfl⟩
theorem Calls.at_e {P : Program} {f : FuncId} {args : Array Value} {w : World} {s : ExtW w} {v : Value} (h : Calls P f args s.x (fun e w' => e = .returned v ∧ Ext s.x w')) : Calls P f args s.x fun e w'' => e = .returned v ∧ ∃ s' : ExtW w, w'' = s'.x :=
 h.mono fun e w2 ⟨he, hE⟩ => ⟨he, ⟨w2, s.h.trans hE⟩, rfl⟩
set_option maxRecDepth 10000 in
set_option maxHeartbeats 4000000 in
theorem specAboveOf (s : ByteArray) (w : World) (hs : s.size ≤ 1048576) :
  Calls Tryz.prog 67 #[.string s] w fun e w' => e = .returned (.tuple #[.string (abOf s), .string (lastOf s), .bool (aboveOf s).isSome]) ∧ Ext w w' := by
 go_enter Tryz.func67, Tryz.ntmps67
 go_wp2_with fail
 refine (specPathParts s w hs).mono ?_
 rintro e w1 ⟨u, P, ok, rfl, hR, S⟩
 have HR := Lib.hid hR
 obtain ⟨hP6, hP8⟩ := parts_len hR
 cases ok with
 | false =>
  obtain rfl := parts_false hR
  obtain ⟨e1, e2, e3⟩ := above_no hR
  have HE := Lib.hid (And.intro e1 (And.intro e2 e3))
  clear hR e1 e2 e3
  go_wp2
  try simp only [Exit.inBlock, Exit.then]
  refine bodyPost_ret (v := .tuple #[.string ⟨#[]⟩, .string ⟨#[]⟩, .bool false]) (by simp [results, Tryz.results67, go_sem]) rfl ?_
  exact ⟨by rw [HE.out.1, HE.out.2.1, HE.out.2.2], S.ext⟩
 | true =>
  have hrow := S.row 0 rfl
  obtain ⟨a, c, rfl, hPc, hrd, _⟩ := view_owns encStr1_len hrow
  clear hrow
  by_cases hP : P = []
  ·subst hP
   obtain ⟨e1, e2, e3⟩ := above_nil hR
   have HE := Lib.hid (And.intro e1 (And.intro e2 e3))
   clear hR e1 e2 e3
   go_wp2
   try simp only [Exit.inBlock, Exit.then]
   refine bodyPost_ret (v := .tuple #[.string ⟨#[]⟩, .string ⟨#[]⟩, .bool false]) (by simp [results, Tryz.results67, go_sem]) rfl ?_
   exact ⟨by rw [HE.out.1, HE.out.2.1, HE.out.2.2], S.ext⟩
  ·obtain ⟨m, hm⟩ : ∃ m, P.length = m + 1 := ⟨P.length - 1, by have := List.length_pos_iff.2 hP; omega⟩
   obtain ⟨l, b, off, hl, rfl, c0⟩ := atStr hrd (show m < P.length by omega)
   obtain ⟨e1, e2, e3⟩ := above_some hR hm hl
   have HE := Lib.hid (And.intro e1 (And.intro e2 e3))
   have hwm : IntKind.i64.wrap ((P.length : Int) - 1) = (m : Int) := by rw [show (P.length : Int) - 1 = m by omega]; exact IntWalk.i64_in _ (by omega)
   have t0 : ((P.length : Int) == 0) = false := by simp; omega
   have hmi : (m : Int) < (P.length : Int) := by omega
   have hmc : (m : Int) ≤ (c : Int) := by omega
   have hml : (P.take m).length = m := by rw [List.length_take]; omega
   have Hml := Lib.hid hml
   have hrt := hrd.take m
   have Hrt := Lib.hid hrt
   have HX := Lib.hid S.ext
   clear hR e1 e2 e3 hl hm hml hrt hrd S hP
   have HP8 := Lib.hid hP8
   clear hP8
   go_wp2_with fail
   have q0 := ExtW.cell c0
   have bl := ExtW.lt c0
   have HJ : Hid (∀ s : ExtW w1, Calls Tryz.prog 107 #[.slice (some ⟨b, off, none⟩) m c] s.x fun e w'' => e = .returned (.string (joinPath (P.take m))) ∧ ∃ s' : ExtW w1, w'' = s'.x) := Lib.hid (fun s => by
    have hC := specJoinPath (some ⟨b, off, none⟩) c (P.take m) s.x (by have := Hml.out; omega) (fun x hx => by have := HP8.out x (List.mem_of_mem_take hx); omega) (Hrt.out.ext s.h)
    rw [Hml.out] at hC
    exact Calls.at_v hC)
   clear c0
   (refine wp_region_quiet_ext (by kernel_rfl) (by kernel_rfl) ?_; (repeat (go_big_quiet_step ((go_at_call 107; exact HJ.out _)))); refine wpQuiet_nil ?_; intro _ hw'; obtain ⟨sq, hw''⟩ := hw'; subst hw'')
   obtain ⟨w3, hw3⟩ := sq
   go_wp2
   try simp only [Exit.inBlock, Exit.then]
   refine bodyPost_ret (v := .tuple #[.string (joinPath (P.take m)), .string l, .bool true]) (by simp [results, Tryz.results67, go_sem]) rfl ?_
   exact ⟨by rw [HE.out.1, HE.out.2.1, HE.out.2.2], HX.out.trans hw3⟩
section
variable {T : List Nd} {c : Cr} {P : List ByteArray} {p : ByteArray} {m k : Nat} {x : Nd}
theorem ff_drop (h : P[k]? = some p) (i : Int) : findFrom T c (P.drop k) i = findFrom T c (p :: P.drop (k + 1)) i := by
 obtain ⟨h1, h2⟩ := List.getElem?_eq_some_iff.1 h
 rw [List.drop_eq_getElem_cons h1, h2]
theorem ff_file (hx : T[m]? = some x) (hf : x.fold = false) : findFrom T c (p :: P) (m : Int) = (-1, 4) := by
 rw [findFrom, Int.toNat_natCast, hx]
 dsimp only
 rw [if_pos hf]
theorem ff_may (hx : T[m]? = some x) (hf : x.fold = true) (hm : c.may x 1 = false) : findFrom T c (p :: P) (m : Int) = (-1, 3) := by
 rw [findFrom, Int.toNat_natCast, hx]
 dsimp only
 rw [if_neg (by simp [hf]), if_pos hm]
theorem ff_miss (hx : T[m]? = some x) (hf : x.fold = true) (hm : c.may x 1 = true) (hk : kidOf x.N x.K p < 0) : findFrom T c (p :: P) (m : Int) = (-1, 2) := by
 rw [findFrom, Int.toNat_natCast, hx]
 dsimp only
 rw [if_neg (by simp [hf]), if_neg (by simp [hm]), if_pos hk]
theorem ff_next (hx : T[m]? = some x) (hf : x.fold = true) (hm : c.may x 1 = true) (hk : ¬ kidOf x.N x.K p < 0) : findFrom T c (p :: P) (m : Int) = findFrom T c P (kidOf x.N x.K p) := by
 rw [findFrom, Int.toNat_natCast, hx]
 dsimp only
 rw [if_neg (by simp [hf]), if_neg (by simp [hm]), if_neg hk]
theorem find_no {s : ByteArray} (h : PartsR s P false) : findNode T c s = (-1, 1) := by rw [findNode, partsR_of h]; rfl
theorem find_bad {s : ByteArray} (h : PartsR s P true) (hT : ¬ (TreeOk T ∧ c.ok)) : findNode T c s = (-1, 1) := by
 rw [findNode, partsR_of h, if_pos rfl]
 dsimp only
 rw [if_neg hT]
theorem find_go {s : ByteArray} (h : PartsR s P true) (hT : TreeOk T ∧ c.ok) : findNode T c s = findFrom T c P 0 := by
 rw [findNode, partsR_of h, if_pos rfl]
 dsimp only
 rw [if_pos hT]
end
set_option maxRecDepth 10000 in
set_option maxHeartbeats 8000000 in
theorem specFindNode (a : Option Addr) (cap : Nat) (T : List Nd) (c : Cr) (s : ByteArray) (w : World) (hs : s.size ≤ 1048576) (hl : T.length ≤ 1048576) (hT : ∀ x ∈ T, SmN 1048576 x) (hc : RdN w a T) :
  Calls Tryz.prog 71 #[.slice a T.length cap, .agg #[.int .i64 c.r, .int .i64 c.a, .int .i64 c.s, .int .i64 c.g], .string s] w fun e w' => e = .returned (.tuple #[.int .i64 (findNode T c s).1, .int .i64 (findNode T c s).2]) ∧ Ext w w' := by
 obtain ⟨cr, ca, cs, cg⟩ := c
 have HT := Lib.hid hT
 clear hT
 dsimp only
 go_enter Tryz.func71, Tryz.ntmps71
 have S := Sep.start w
 replace S : Sep w (w.alloc (.cells #[.int .i64 cr, .int .i64 ca, .int .i64 cs, .int .i64 cg] 29)) [plBox w.heap.size #[.int .i64 cr, .int .i64 ca, .int .i64 cs, .int .i64 cg] 29] := S.alloc_at (by simp) _ _
 go_wp2_with fail
 generalize (w.alloc (.cells #[.int .i64 cr, .int .i64 ca, .int .i64 cs, .int .i64 cg] 29)) = w1 at *
 refine (specPathParts s w1 hs).mono ?_
 rintro e w2 ⟨u, P, ok, rfl, hR, S2⟩
 replace S : Sep w w2 [plRow 9 1 encStr1 u P, plBox w.heap.size #[.int .i64 cr, .int .i64 ca, .int .i64 cs, .int .i64 cg] 29] := S.call S2
 clear S2
 have HR := Lib.hid hR
 obtain ⟨hP6, hP8⟩ := parts_len hR
 clear hP8 hR
 cases ok with
 | false =>
  have HE := Lib.hid (find_no (T := T) (c := ⟨cr, ca, cs, cg⟩) HR.out)
  go_wp2
  go_ret2
  exact ⟨by rw [HE.out]; rfl, S.ext⟩
 | true =>
  go_wp2_with fail
  refine (specTreeValid a cap T w2 hl HT.out (hc.ext S.ext)).mono ?_
  rintro e w3 ⟨v, rfl, hv, hE⟩
  have Hv := Lib.hid hv
  clear hv
  replace S := S.step hE
  clear hE
  cases v with
  | false =>
   have HE := Lib.hid (find_bad (T := T) (c := ⟨cr, ca, cs, cg⟩) HR.out (fun h => Bool.noConfusion (Hv.out.2 h.1)))
   go_wp2
   go_ret2
   exact ⟨by rw [HE.out]; rfl, S.ext⟩
  | true =>
   have HTr := Lib.hid (Hv.out.1 rfl)
   clear Hv
   obtain ⟨⟨bc0, bf0⟩, ⟨bc1, bf1⟩, ⟨bc2, bf2⟩, ⟨bc3, bf3⟩⟩ := bx4 (S.box 1 rfl)
   go_wp2_with fail
   refine (specCredValid cr ca cs cg w3).mono ?_
   rintro e w4 ⟨v, rfl, hv, hE⟩
   have Hv := Lib.hid hv
   clear hv
   clear bc0 bf0 bc1 bf1 bc2 bf2 bc3 bf3
   replace S := S.step hE
   clear hE
   cases v with
   | false =>
    have HE := Lib.hid (find_bad (T := T) (c := ⟨cr, ca, cs, cg⟩) HR.out (fun h => Bool.noConfusion (Hv.out.2 h.2)))
    go_wp2
    go_ret2
    exact ⟨by rw [HE.out]; rfl, S.ext⟩
   | true =>
    have HE := Lib.hid (find_go (T := T) (c := ⟨cr, ca, cs, cg⟩) HR.out ⟨HTr.out, Hv.out.1 rfl⟩)
    clear Hv HR
    have hrow := S.row 0 rfl
    obtain ⟨pa, pc, rfl, hPc, _, _⟩ := view_owns encStr1_len hrow
    clear hrow
    have hpos := HTr.out.pos
    go_wp2
    go_loopw [10, 11, 35, 42] (fun at_ i _ _ wr => ∃ k m : Nat, k ≤ P.length ∧ m < T.length ∧ at_ = .int .i64 m ∧ i = .int .i64 k ∧ findFrom T ⟨cr, ca, cs, cg⟩ P 0 = findFrom T ⟨cr, ca, cs, cg⟩ (P.drop k) (m : Int) ∧ Sep w wr [plRow 9 1 encStr1 (.slice pa P.length pc) P, plBox w.heap.size #[.int .i64 cr, .int .i64 ca, .int .i64 cs, .int .i64 cg] 29]) (fun _ i _ _ _ => P.length - (intOf i).toNat)
    case atStart => exact ⟨0, 0, Nat.zero_le _, by omega, rfl, rfl, by rw [List.drop_zero]; rfl, S⟩
    case round =>
     clear S
     obtain ⟨k, m, hk, hm, rfl, rfl, hpre, S⟩ := hrel
     have Hpre := Lib.hid hpre
     clear hpre
     by_cases hlt : k < P.length
     rotate_left
     ·obtain rfl : k = P.length := by omega
      have hni : ¬ (P.length : Int) < (P.length : Int) := by omega
      have HX := Lib.hid (HE.out.trans (Hpre.out.trans (by rw [List.drop_length]; rfl : _ = ((m : Int), (0 : Int)))))
      go_wp2
      go_ret2
      exact ⟨by rw [HX.out]; rfl, S.ext⟩
     ·obtain ⟨x, b', off, an, cn, ak, ck, hx, rfl, c0, c1, c2, c3, c4, c5, c6, hcn, hck, hrn, hrk⟩ := atNd hc hm
      have hrP : Rd 1 encStr1 wr pa P := S.rd 0 encStr1_len rfl rfl
      obtain ⟨p, b2, off2, hp, rfl, e0⟩ := atStr hrP hlt
      have Hx := Lib.hid hx
      have hN := HTr.out.nodes m x hx
      have HNl := Lib.hid hN.len
      have hsx := HT.out x (List.mem_of_getElem? hx)
      have hNl : x.N.length ≤ 1048576 := hsx.2.1
      have Hd := Lib.hid (HE.out.trans (Hpre.out.trans (ff_drop hp (m : Int))))
      have i0 : (k : Int) < (P.length : Int) := by omega
      have i1 : (m : Int) < (T.length : Int) := by omega
      have hE := S.ext
      have d0 := cell_ext hE c0
      have d1 := cell_ext hE c1
      have d2 := cell_ext hE c2
      have d3 := cell_ext hE c3
      have d4 := cell_ext hE c4
      have d5 := cell_ext hE c5
      have d6 := cell_ext hE c6
      have Hrn := Lib.hid (hrn.ext hE)
      have Hrk := Lib.hid (hrk.ext hE)
      clear hx hp hN hsx c0 c1 c2 c3 c4 c5 c6 hcn hck hrn hrk hrP hE
      cases hf : x.fold with
      | false =>
       have HX := Lib.hid (Hd.out.trans (ff_file Hx.out hf))
       rw [hf] at d0
       clear hf
       go_wp2
       go_ret2
       exact ⟨by rw [HX.out]; rfl, S.ext⟩
      | true =>
       have Hf := Lib.hid hf
       obtain ⟨⟨bc0, bf0⟩, ⟨bc1, bf1⟩, ⟨bc2, bf2⟩, ⟨bc3, bf3⟩⟩ := bx4 (S.box 1 rfl)
       have HM : Hid (∀ s : ExtW wr, Calls Tryz.prog 74 #[.agg #[.int .i64 cr, .int .i64 ca, .int .i64 cs, .int .i64 cg], .agg #[.bool true, .int .i64 x.own, .int .i64 x.grp, .int .i64 x.mode, .string x.text, .slice an x.N.length cn, .slice ak x.K.length ck], .int .i64 1] s.x fun e w'' => e = .returned (.bool (Cr.may ⟨cr, ca, cs, cg⟩ x 1)) ∧ ∃ s' : ExtW wr, w'' = s'.x) := Lib.hid (fun s => by
        have hC := specMay cr ca cs cg 1 x an ak cn ck s.x
        rw [hf] at hC
        exact Calls.at_e hC)
       rw [hf] at d0
       clear hf
       go_wp2_with fail
       have q0 := ExtW.cell d0
       have q1 := ExtW.cell d1
       have q2 := ExtW.cell d2
       have q3 := ExtW.cell d3
       have q4 := ExtW.cell d4
       have q5 := ExtW.cell d5
       have q6 := ExtW.cell d6
       have bl := ExtW.lt d0
       have r0 := ExtW.cell bc0
       have r1 := ExtW.cell bc1
       have r2 := ExtW.cell bc2
       have r3 := ExtW.cell bc3
       have br := ExtW.lt bc0
       have ax0 : ∀ (hM0 : Cr.may ⟨cr, ca, cs, cg⟩ x 1 = true), True := fun _ => trivial
       clear ax0
       have S9 := Lib.hid S
       clear d0 d1 d2 d3 d4 d5 d6 bc0 bc1 bc2 bc3 bf0 bf1 bf2 bf3 S
       cases hmay : Cr.may ⟨cr, ca, cs, cg⟩ x 1 with
       | false =>
        have HX := Lib.hid (Hd.out.trans (ff_may Hx.out Hf.out hmay))
        rw [hmay] at HM
        clear hmay
        (refine wp_region_quiet_ext (by kernel_rfl) (by kernel_rfl) ?_; (repeat (go_big_quiet_step ((go_at_call 74; exact HM.out _)))); refine wpQuiet_nil ?_; intro _ hw'; obtain ⟨sq, hw''⟩ := hw'; subst hw'')
        obtain ⟨w5, hw5⟩ := sq
        go_wp2
        go_ret2
        exact ⟨by rw [HX.out]; rfl, S9.out.ext.trans hw5⟩
       | true =>
        have Hmay := Lib.hid hmay
        rw [hmay] at HM
        clear hmay
        (refine wp_region_quiet_ext (by kernel_rfl) (by kernel_rfl) ?_; (repeat (go_big_quiet_step ((go_at_call 74; exact HM.out _)))); refine wpQuiet_nil ?_; intro _ hw'; obtain ⟨sq, hw''⟩ := hw'; subst hw'')
        obtain ⟨w5, hw5⟩ := sq
        have S10 := S9.out.step hw5
        have p0 := q0 ⟨w5, hw5⟩
        have p1 := q1 ⟨w5, hw5⟩
        have p2 := q2 ⟨w5, hw5⟩
        have p3 := q3 ⟨w5, hw5⟩
        have p4 := q4 ⟨w5, hw5⟩
        have p5 := q5 ⟨w5, hw5⟩
        have p6 := q6 ⟨w5, hw5⟩
        have pe := cell_ext hw5 e0
        have HK : Hid (∀ s : ExtW w5, Calls Tryz.prog 76 #[.agg #[.bool true, .int .i64 x.own, .int .i64 x.grp, .int .i64 x.mode, .string x.text, .slice an x.N.length cn, .slice ak x.K.length ck], .string p] s.x fun e w'' => e = .returned (.int .i64 (kidOf x.N x.K p)) ∧ ∃ s' : ExtW w5, w'' = s'.x) := Lib.hid (fun s => by
         have hC := specKid x an ak cn ck p s.x hNl HNl.out (Hrn.out.ext (hw5.trans s.h)) (Hrk.out.ext (hw5.trans s.h))
         rw [Hf.out] at hC
         exact Calls.at_e hC)
        have HS10 := Lib.hid S10
        clear q0 q1 q2 q3 q4 q5 q6 bl r0 r1 r2 r3 br S9 S10 e0 HM
        go_wp2_with fail
        have q0 := ExtW.cell p0
        have q1 := ExtW.cell p1
        have q2 := ExtW.cell p2
        have q3 := ExtW.cell p3
        have q4 := ExtW.cell p4
        have q5 := ExtW.cell p5
        have q6 := ExtW.cell p6
        have qe := ExtW.cell pe
        have bl := ExtW.lt p0
        have be := ExtW.lt pe
        clear p0 p1 p2 p3 p4 p5 p6 pe
        by_cases hkid : kidOf x.N x.K p < 0
        ·have HX := Lib.hid (Hd.out.trans (ff_miss Hx.out Hf.out Hmay.out hkid))
         (refine wp_region_quiet_ext (by kernel_rfl) (by kernel_rfl) ?_; (repeat (go_big_quiet_step ((go_at_call 76; exact HK.out _)))); refine wpQuiet_nil ?_; intro _ hw'; obtain ⟨sq, hw''⟩ := hw'; subst hw'')
         obtain ⟨w6, hw6⟩ := sq
         clear q0 q1 q2 q3 q4 q5 q6 qe bl be
         go_wp2
         go_ret2
         exact ⟨by rw [HX.out]; rfl, HS10.out.ext.trans hw6⟩
        ·have hin := kidOf_in HTr.out Hx.out (p := p) (by omega)
         have HX := Lib.hid (Hd.out.trans (ff_next Hx.out Hf.out Hmay.out hkid))
         obtain ⟨j, hj⟩ : ∃ j : Nat, kidOf x.N x.K p = (j : Int) := ⟨(kidOf x.N x.K p).toNat, by omega⟩
         rw [hj] at HK HX hin
         clear hj hkid
         (refine wp_region_quiet_ext (by kernel_rfl) (by kernel_rfl) ?_; (repeat (go_big_quiet_step ((go_at_call 76; exact HK.out _)))); refine wpQuiet_nil ?_; intro _ hw'; obtain ⟨sq, hw''⟩ := hw'; subst hw'')
         obtain ⟨w6, hw6⟩ := sq
         clear q0 q1 q2 q3 q4 q5 q6 qe bl be
         go_wp2
         go_roundw
         case rel => exact ⟨k + 1, j, by omega, by omega, rfl, by go_num, HE.out.symm.trans HX.out, HS10.out.step hw6⟩
         case measure => simp [intOf]; omega
theorem abOf_size (s : ByteArray) : (abOf s).size ≤ 54 := by
 rw [abOf]
 split
 ·exact Nat.zero_le _
 ·rename_i a n h
  rw [aboveOf] at h
  split at h
  ·cases h
  ·split at h
   ·cases h
   ·cases h; exact joinPath_size _
section
variable {T : List Nd} {c : Cr} {s : ByteArray} {m : Nat} {x : Nd}
theorem pf_no (h : (aboveOf s).isSome = false) : placeFor T c s = (-1, 1) := by
 have : aboveOf s = none := by simpa using h
 rw [placeFor, this]
theorem pf_some (h : (aboveOf s).isSome = true) : placeFor T c s = if (findNode T c (abOf s)).2 ≠ 0 then (-1, (findNode T c (abOf s)).2) else match T[(findNode T c (abOf s)).1.toNat]? with
  | none => (-1, 1)
  | some x => if x.fold = false then (-1, 4) else if c.may x 3 = false then (-1, 3) else if 0 ≤ kidOf x.N x.K (lastOf s) then (-1, 5) else ((findNode T c (abOf s)).1, 0) := by
 obtain ⟨⟨a, n⟩, h'⟩ := Option.isSome_iff_exists.1 h
 rw [placeFor, abOf, lastOf, h'] <;> rfl
theorem pf_fault (h : (aboveOf s).isSome = true) (hf : (findNode T c (abOf s)).2 ≠ 0) : placeFor T c s = (-1, (findNode T c (abOf s)).2) := by rw [pf_some h, if_pos hf]
theorem pf_at (h : (aboveOf s).isSome = true) (hF : findNode T c (abOf s) = ((m : Int), 0)) (hx : T[m]? = some x) : placeFor T c s = if x.fold = false then (-1, 4) else if c.may x 3 = false then (-1, 3) else if 0 ≤ kidOf x.N x.K (lastOf s) then (-1, 5) else ((m : Int), 0) := by
 rw [pf_some h, hF, if_neg (by simp)]
 dsimp only
 rw [Int.toNat_natCast, hx]
theorem find_cases (T : List Nd) (c : Cr) (s : ByteArray) : (∃ m : Nat, findNode T c s = ((m : Int), 0) ∧ m < T.length ∧ TreeOk T ∧ c.ok) ∨ ∃ f : Int, f ≠ 0 ∧ findNode T c s = (-1, f) := by
 have h := findNode_in T c s
 generalize findNode T c s = F at *
 obtain ⟨n, f⟩ := F
 rcases h with ⟨h1, h2, h3, h4, h5⟩ | ⟨h1, h2⟩
 ·refine .inl ⟨n.toNat, ?_, ?_, h4, h5⟩
  ·dsimp only at h1 h2; rw [h1, show ((n.toNat : Nat) : Int) = n by omega]
  ·dsimp only at h2 h3; omega
 ·dsimp only at h1 h2; exact .inr ⟨f, h1, by rw [h2]⟩
end
set_option maxRecDepth 10000 in
set_option maxHeartbeats 8000000 in
theorem specPlaceFor (a : Option Addr) (cap : Nat) (T : List Nd) (c : Cr) (s : ByteArray) (w : World) (hs : s.size ≤ 1048576) (hl : T.length ≤ 1048576) (hT : ∀ x ∈ T, SmN 1048576 x) (hc : RdN w a T) :
  Calls Tryz.prog 66 #[.slice a T.length cap, .agg #[.int .i64 c.r, .int .i64 c.a, .int .i64 c.s, .int .i64 c.g], .string s] w fun e w' => e = .returned (.tuple #[.int .i64 (placeFor T c s).1, .int .i64 (placeFor T c s).2]) ∧ Ext w w' := by
 obtain ⟨cr, ca, cs, cg⟩ := c
 have HT := Lib.hid hT
 clear hT
 dsimp only
 go_enter Tryz.func66, Tryz.ntmps66
 have S := Sep.start w
 replace S : Sep w (w.alloc (.cells #[.int .i64 cr, .int .i64 ca, .int .i64 cs, .int .i64 cg] 29)) [plBox w.heap.size #[.int .i64 cr, .int .i64 ca, .int .i64 cs, .int .i64 cg] 29] := S.alloc_at (by simp) _ _
 go_wp2_with fail
 generalize (w.alloc (.cells #[.int .i64 cr, .int .i64 ca, .int .i64 cs, .int .i64 cg] 29)) = w1 at *
 refine (specAboveOf s w1 hs).mono ?_
 rintro e w2 ⟨rfl, hE⟩
 replace S := S.step hE
 clear hE
 obtain ⟨⟨bc0, bf0⟩, ⟨bc1, bf1⟩, ⟨bc2, bf2⟩, ⟨bc3, bf3⟩⟩ := bx4 (S.box 0 rfl)
 have hab := abOf_size s
 go_wp2_with fail
 refine (specFindNode a cap T ⟨cr, ca, cs, cg⟩ (abOf s) w2 (by omega) hl HT.out (hc.ext S.ext)).mono ?_
 rintro e w3 ⟨rfl, hE⟩
 clear bc0 bf0 bc1 bf1 bc2 bf2 bc3 bf3
 replace S := S.step hE
 clear hE
 cases hso : (aboveOf s).isSome with
 | false =>
  have HX := Lib.hid (pf_no (T := T) (c := ⟨cr, ca, cs, cg⟩) hso)
  clear hso
  go_wp2
  go_ret2
  exact ⟨by rw [HX.out]; rfl, S.ext⟩
 | true =>
  rcases find_cases T ⟨cr, ca, cs, cg⟩ (abOf s) with ⟨m, hF, hm, hTr, _⟩ | ⟨f, hf, hF⟩
  rotate_left
  ·have HX := Lib.hid (pf_fault (T := T) (c := ⟨cr, ca, cs, cg⟩) hso (by rw [hF]; exact hf))
   rw [hF] at HX ⊢
   have tf : (f == 0) = false := by simpa using hf
   clear hso hF hf
   dsimp only at HX ⊢
   go_wp2
   go_ret2
   exact ⟨by rw [HX.out]; rfl, S.ext⟩
  ·obtain ⟨x, b', off, an, cn, ak, ck, hx, rfl, c0, c1, c2, c3, c4, c5, c6, hcn, hck, hrn, hrk⟩ := atNd hc hm
   have Hx := Lib.hid hx
   have hN := hTr.nodes m x hx
   have HNl := Lib.hid hN.len
   have hsx := HT.out x (List.mem_of_getElem? hx)
   have hNl : x.N.length ≤ 1048576 := hsx.2.1
   have HP := Lib.hid (pf_at (T := T) (c := ⟨cr, ca, cs, cg⟩) hso hF hx)
   rw [hF]
   have i1 : (m : Int) < (T.length : Int) := by omega
   have hE := S.ext
   have d0 := cell_ext hE c0
   have d1 := cell_ext hE c1
   have d2 := cell_ext hE c2
   have d3 := cell_ext hE c3
   have d4 := cell_ext hE c4
   have d5 := cell_ext hE c5
   have d6 := cell_ext hE c6
   have Hrn := Lib.hid (hrn.ext hE)
   have Hrk := Lib.hid (hrk.ext hE)
   clear hx hN hsx c0 c1 c2 c3 c4 c5 c6 hcn hck hrn hrk hE hF hTr hso
   dsimp only
   cases hf : x.fold with
   | false =>
    have HX := Lib.hid (HP.out.trans (if_pos hf))
    rw [hf] at d0
    clear hf
    go_wp2
    go_ret2
    exact ⟨by rw [HX.out]; rfl, S.ext⟩
   | true =>
    have Hf := Lib.hid hf
    have HQ := Lib.hid (HP.out.trans (if_neg (by simp [hf])))
    clear HP
    obtain ⟨⟨bc0, bf0⟩, ⟨bc1, bf1⟩, ⟨bc2, bf2⟩, ⟨bc3, bf3⟩⟩ := bx4 (S.box 0 rfl)
    have HM : Hid (∀ s : ExtW w3, Calls Tryz.prog 74 #[.agg #[.int .i64 cr, .int .i64 ca, .int .i64 cs, .int .i64 cg], .agg #[.bool true, .int .i64 x.own, .int .i64 x.grp, .int .i64 x.mode, .string x.text, .slice an x.N.length cn, .slice ak x.K.length ck], .int .i64 3] s.x fun e w'' => e = .returned (.bool (Cr.may ⟨cr, ca, cs, cg⟩ x 3)) ∧ ∃ s' : ExtW w3, w'' = s'.x) := Lib.hid (fun s => by
     have hC := specMay cr ca cs cg 3 x an ak cn ck s.x
     rw [hf] at hC
     exact Calls.at_e hC)
    rw [hf] at d0
    clear hf
    go_wp2_with fail
    have q0 := ExtW.cell d0
    have q1 := ExtW.cell d1
    have q2 := ExtW.cell d2
    have q3 := ExtW.cell d3
    have q4 := ExtW.cell d4
    have q5 := ExtW.cell d5
    have q6 := ExtW.cell d6
    have bl := ExtW.lt d0
    have r0 := ExtW.cell bc0
    have r1 := ExtW.cell bc1
    have r2 := ExtW.cell bc2
    have r3 := ExtW.cell bc3
    have br := ExtW.lt bc0
    have S9 := Lib.hid S
    clear d0 d1 d2 d3 d4 d5 d6 bc0 bc1 bc2 bc3 bf0 bf1 bf2 bf3 S
    cases hmay : Cr.may ⟨cr, ca, cs, cg⟩ x 3 with
    | false =>
     have HX := Lib.hid (HQ.out.trans (if_pos hmay))
     rw [hmay] at HM
     clear hmay
     (refine wp_region_quiet_ext (by kernel_rfl) (by kernel_rfl) ?_; (repeat (go_big_quiet_step ((go_at_call 74; exact HM.out _)))); refine wpQuiet_nil ?_; intro _ hw'; obtain ⟨sq, hw''⟩ := hw'; subst hw'')
     obtain ⟨w5, hw5⟩ := sq
     go_wp2
     go_ret2
     exact ⟨by rw [HX.out]; rfl, S9.out.ext.trans hw5⟩
    | true =>
     have HQ2 := Lib.hid (HQ.out.trans (if_neg (by simp [hmay])))
     clear HQ
     rw [hmay] at HM
     clear hmay
     (refine wp_region_quiet_ext (by kernel_rfl) (by kernel_rfl) ?_; (repeat (go_big_quiet_step ((go_at_call 74; exact HM.out _)))); refine wpQuiet_nil ?_; intro _ hw'; obtain ⟨sq, hw''⟩ := hw'; subst hw'')
     obtain ⟨w5, hw5⟩ := sq
     have p0 := q0 ⟨w5, hw5⟩
     have p1 := q1 ⟨w5, hw5⟩
     have p2 := q2 ⟨w5, hw5⟩
     have p3 := q3 ⟨w5, hw5⟩
     have p4 := q4 ⟨w5, hw5⟩
     have p5 := q5 ⟨w5, hw5⟩
     have p6 := q6 ⟨w5, hw5⟩
     have HS10 := Lib.hid (S9.out.step hw5)
     have hC := specKid x an ak cn ck (lastOf s) w5 hNl HNl.out (Hrn.out.ext hw5) (Hrk.out.ext hw5)
     rw [Hf.out] at hC
     have HC := Lib.hid hC
     clear q0 q1 q2 q3 q4 q5 q6 bl r0 r1 r2 r3 br S9 HM hC
     go_wp2_with fail
     refine HC.out.mono ?_
     rintro e w6 ⟨rfl, hw6⟩
     clear p0 p1 p2 p3 p4 p5 p6 HC
     by_cases hkid : 0 ≤ kidOf x.N x.K (lastOf s)
     ·have HX := Lib.hid (HQ2.out.trans (if_pos hkid))
      go_wp2
      go_ret2
      exact ⟨by rw [HX.out]; rfl, HS10.out.ext.trans hw6⟩
     ·have HX := Lib.hid (HQ2.out.trans (if_neg hkid))
      go_wp2
      go_ret2
      exact ⟨by rw [HX.out]; rfl, HS10.out.ext.trans hw6⟩
noncomputable def folderAbove (T : List Nd) (c : Cr) (s : ByteArray) : Int × ByteArray × Int := match aboveOf s with
 | none => (-1, ⟨#[]⟩, 1)
 | some (ab, nm) => if (findNode T c ab).2 ≠ 0 then (-1, ⟨#[]⟩, (findNode T c ab).2) else match T[(findNode T c ab).1.toNat]? with
  | none => (-1, ⟨#[]⟩, 1)
  | some x => if x.fold = false then (-1, ⟨#[]⟩, 4) else if c.may x 3 = false then (-1, ⟨#[]⟩, 3) else ((findNode T c ab).1, nm, 0)
section
variable {T : List Nd} {c : Cr} {s : ByteArray} {m : Nat} {x : Nd}
theorem fa_no (h : (aboveOf s).isSome = false) : folderAbove T c s = (-1, ⟨#[]⟩, 1) := by
 have : aboveOf s = none := by simpa using h
 rw [folderAbove, this]
theorem fa_some (h : (aboveOf s).isSome = true) : folderAbove T c s = if (findNode T c (abOf s)).2 ≠ 0 then (-1, ⟨#[]⟩, (findNode T c (abOf s)).2) else match T[(findNode T c (abOf s)).1.toNat]? with
  | none => (-1, ⟨#[]⟩, 1)
  | some x => if x.fold = false then (-1, ⟨#[]⟩, 4) else if c.may x 3 = false then (-1, ⟨#[]⟩, 3) else ((findNode T c (abOf s)).1, lastOf s, 0) := by
 obtain ⟨⟨a, n⟩, h'⟩ := Option.isSome_iff_exists.1 h
 rw [folderAbove, abOf, lastOf, h']
theorem fa_fault (h : (aboveOf s).isSome = true) (hf : (findNode T c (abOf s)).2 ≠ 0) : folderAbove T c s = (-1, ⟨#[]⟩, (findNode T c (abOf s)).2) := by rw [fa_some h, if_pos hf]
theorem fa_at (h : (aboveOf s).isSome = true) (hF : findNode T c (abOf s) = ((m : Int), 0)) (hx : T[m]? = some x) : folderAbove T c s = if x.fold = false then (-1, ⟨#[]⟩, 4) else if c.may x 3 = false then (-1, ⟨#[]⟩, 3) else ((m : Int), lastOf s, 0) := by
 rw [fa_some h, hF, if_neg (by simp)]
 dsimp only
 rw [Int.toNat_natCast, hx]
structure FaOk (T : List Nd) (c : Cr) (s : ByteArray) (n : Nat) (x : Nd) : Prop where
 eq : folderAbove T c s = ((n : Int), lastOf s, 0)
 hx : T[n]? = some x
 fold : x.fold = true
 may : c.may x 3 = true
 some_ : (aboveOf s).isSome = true
 find : findNode T c (abOf s) = ((n : Int), 0)
 tree : TreeOk T
 cred : c.ok
 name : NameOk (lastOf s)
theorem fa_cases (T : List Nd) (c : Cr) (s : ByteArray) : (∃ n x, FaOk T c s n x) ∨ ∃ f : Int, f ≠ 0 ∧ folderAbove T c s = (-1, ⟨#[]⟩, f) := by
 cases h : (aboveOf s).isSome with
 | false => exact .inr ⟨1, by decide, fa_no h⟩
 | true =>
  rcases find_cases T c (abOf s) with ⟨m, hF, hm, hT, hc⟩ | ⟨f, hf, hF⟩
  ·have hx : T[m]? = some T[m] := List.getElem?_eq_getElem hm
   have e := fa_at h hF hx
   cases hf : T[m].fold with
   | false => rw [if_pos hf] at e; exact .inr ⟨4, by decide, e⟩
   | true =>
    rw [if_neg (by rw [hf]; decide)] at e
    cases hy : c.may T[m] 3 with
    | false => rw [if_pos hy] at e; exact .inr ⟨3, by decide, e⟩
    | true =>
     rw [if_neg (by rw [hy]; decide)] at e
     obtain ⟨⟨a, n⟩, h'⟩ := Option.isSome_iff_exists.1 h
     exact .inl ⟨m, _, e, hx, hf, hy, h, hF, hT, hc, by rw [lastOf, h']; exact aboveOf_name h'⟩
  ·exact .inr ⟨f, hf, by rw [fa_fault h (by rw [hF]; exact hf), hF]⟩
theorem pf_bad {f : Int} (hf : f ≠ 0) (h : folderAbove T c s = (-1, ⟨#[]⟩, f)) : placeFor T c s = (-1, f) := by
 cases hs : (aboveOf s).isSome with
 | false =>
  rw [fa_no hs] at h
  rw [pf_no hs]
  simp at h
  rw [h]
 | true =>
  rcases find_cases T c (abOf s) with ⟨m, hF, hm, _⟩ | ⟨g, hg, hF⟩
  ·have hx : T[m]? = some T[m] := List.getElem?_eq_getElem hm
   rw [fa_at hs hF hx] at h
   rw [pf_at hs hF hx]
   split at h
   ·rename_i h1; rw [if_pos h1]; simp at h; rw [h]
   ·rename_i h1
    rw [if_neg h1]
    split at h
    ·rename_i h2; rw [if_pos h2]; simp at h; rw [h]
    ·simp at h
  ·rw [fa_fault hs (by rw [hF]; exact hg), hF] at h
   rw [pf_fault hs (by rw [hF]; exact hg), hF]
   simp at h
   rw [← h]
theorem pf_good (h : FaOk T c s m x) : placeFor T c s = if 0 ≤ kidOf x.N x.K (lastOf s) then (-1, 5) else ((m : Int), 0) := by
 rw [pf_at h.some_ h.find h.hx, if_neg (by rw [h.fold]; decide), if_neg (by rw [h.may]; decide)]
end
end Go.Proofs.YtnibbldfohbfkaaGreatDoor
