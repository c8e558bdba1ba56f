/- Parts of one proof: each says below what it proves and on what conditions. -/
import Derived.Deep.Cut
import Derived.Test.YtnibbldfohbfkaaGreatDoorMy10
set_option linter.unusedVariables false
set_option linter.unusedSimpArgs false
/- Rows of elements that have memory of their own: one more at the end; a literal of one; one out of nothing. No condition. -/
namespace Go.Proofs.YtnibbldfohbfkaaGreatDoor
open Go.RowKit
section
variable {β α : Type} {e nf : Nat} {enc : β → List Value} {P : Pin β α} {M : Nat → Prop} {w0 w w' : World} {H : List Pl}
theorem SepM.gPush (S : SepM M w0 w H) (i j : Nat) {u u' : Value} {vs : List β} {T : List α} {s : β} {t : α} {base : Nat} (hi : H[i]? = some (plG e nf enc P u vs T)) (hj : H[j]? = some (P.one s t)) (hij : i ≠ j)
  (hg : w.grownBy w' u.ownBlock) (ho : w'.ownsRow base e nf u' (vs ++ [s]).length ((vs ++ [s]).flatMap enc)) (hblk : ∀ b, u'.ownBlock = some b → u.ownBlock = some b ∨ w.heap.size ≤ b) :
  SepM M w0 w' ((H.set i (plG e nf enc P u' (vs ++ [s]) (T ++ [t]))).eraseIdx j) := by
 obtain ⟨h1, h2, h3, h4, h5⟩ := S.at_ i hi
 have hjm := List.mem_of_getElem? hj
 have hnew : ∀ b, P.own s b → ¬ (plG e nf enc P u vs T).own b := fun b hb => S.ne hj hi (fun e => hij e.symm) hb
 have hlt : ∀ b, P.own s b → b < w.heap.size := fun b hb => (S.lt hjm (show (P.one s t).own b from hb)).2
 have hltv : ∀ s' ∈ vs, ∀ b, P.own s' b → b < w.heap.size := fun s' hs' b hb => (S.lt (List.mem_of_getElem? hi) (show (plG e nf enc P u vs T).own b from .inr ⟨s', hs', hb⟩)).2
 refine S.fuse i j hi hj hij ((Chg.of_grown hg).mono (fun b hb _ => .inl hb)) (fun hr => ⟨ownsRow_base ho (Nat.zero_le _), by simp [h2], fun k s2 t2 hs2 ht2 => ?_, fun s2 hs2 b hb hb2 => ?_, fun k l s2 s3 hkl hs2 hs3 b hb hb3 => ?_⟩) (fun b hb => ?_)
 ·by_cases hk : k < vs.length
  ·rw [List.getElem?_append_left hk] at hs2
   rw [List.getElem?_append_left (by omega)] at ht2
   have h6 := h3 k s2 t2 hs2 ht2
   exact P.frame s2 t2 w w' h6 (fun b hb => (Chg.of_grown hg).block b (hltv s2 (List.mem_of_getElem? hs2) b hb) (fun e => h4 s2 (List.mem_of_getElem? hs2) b hb e))
  ·have hkl := (List.getElem?_eq_some_iff.1 hs2).1
   simp only [List.length_append, List.length_singleton] at hkl
   have e : k = vs.length := by omega
   subst e
   rw [List.getElem?_append_right (Nat.le_refl _), Nat.sub_self] at hs2
   rw [h2, List.getElem?_append_right (Nat.le_refl _), Nat.sub_self] at ht2
   simp only [List.getElem?_cons_zero, Option.some.injEq] at hs2 ht2
   subst hs2 ht2
   exact hr
 ·rcases List.mem_append.1 hs2 with hs2 | hs2
  ·rcases hblk b hb2 with h | h
   ·exact h4 s2 hs2 b hb h
   ·have := hltv s2 hs2 b hb; omega
  ·rw [List.mem_singleton.1 hs2] at hb
   rcases hblk b hb2 with h | h
   ·exact hnew b hb (.inl h)
   ·have := hlt b hb; omega
 ·have hk2 := (List.getElem?_eq_some_iff.1 hs2).1
  have hl2 := (List.getElem?_eq_some_iff.1 hs3).1
  simp only [List.length_append, List.length_singleton] at hk2 hl2
  by_cases hk : k < vs.length
  ·rw [List.getElem?_append_left hk] at hs2
   by_cases hl : l < vs.length
   ·rw [List.getElem?_append_left hl] at hs3
    exact h5 k l s2 s3 hkl hs2 hs3 b hb hb3
   ·rw [List.getElem?_append_right (by omega), show l - vs.length = 0 by omega] at hs3
    simp only [List.getElem?_cons_zero, Option.some.injEq] at hs3
    subst hs3
    exact hnew b hb3 (.inr ⟨s2, List.mem_of_getElem? hs2, hb⟩)
  ·rw [List.getElem?_append_right (by omega), show k - vs.length = 0 by omega] at hs2
   simp only [List.getElem?_cons_zero, Option.some.injEq] at hs2
   subst hs2
   rw [List.getElem?_append_left (by omega)] at hs3
   exact hnew b hb (.inr ⟨s3, List.mem_of_getElem? hs3, hb3⟩)
 ·rcases hb with hb | ⟨s2, hs2, hb⟩
  ·rcases hblk b hb with h | h
   ·exact .inl (.inl h)
   ·exact .inr (.inr h)
  ·rcases List.mem_append.1 hs2 with hs2 | hs2
   ·exact .inl (.inr ⟨s2, hs2, hb⟩)
   ·rw [List.mem_singleton.1 hs2] at hb
    exact .inr (.inl hb)
theorem SepM.gPure (S : SepM M w0 w H) (i : Nat) {u : Value} {vs : List β} {T : List α} (h : H[i]? = some (plRow e nf enc u vs)) (hl : vs.length = T.length) (hok : ∀ (k : Nat) (s : β) (t : α), vs[k]? = some s → T[k]? = some t → P.ok s t w) (hno : ∀ s ∈ vs, ∀ b, ¬ P.own s b) :
  SepM M w0 w (H.set i (plG e nf enc P u vs T)) :=
 S.put i h (Chg.refl _ w) ⟨S.at_ i h, hl, hok, fun s hs b hb => absurd hb (hno s hs b), fun k l s s' _ hs _ b hb => absurd hb (hno s (List.mem_of_getElem? hs) b)⟩ (fun b hb => by
  rcases hb with hb | ⟨s, hs, hb⟩
  ·exact .inl hb
  ·exact absurd hb (hno s hs b))
end
theorem root_pin (n : Nd) (hN : n.N = []) (hK : n.K = []) (w : World) : pinNd.ok ⟨n, none, 0, none, 0⟩ n w := by
 obtain ⟨f, o, g, m, t, N, K⟩ := n
 subst hN hK
 exact ⟨rfl, World.ownsRow_nil _ _ _ _, World.ownsRow_nil _ _ _ _, fun b hb => by cases hb⟩
theorem root_own (n : Nd) (b : Nat) : ¬ pinNd.own ⟨n, none, 0, none, 0⟩ b := fun h => h.elim (fun h => by cases h) (fun h => by cases h)
def RetTree (T : List Nd) (w : World) (e : Ending) (w' : World) : Prop := ∃ u vs, e = .returned u ∧ Sep w w' [plNd u vs T]
set_option maxRecDepth 10000 in
set_option maxHeartbeats 16000000 in
theorem specCopy (a : Option Addr) (cap : Nat) (T : List Nd) (w : World) (hl : T.length ≤ 1048576) (hT : ∀ x ∈ T, SmN 1048576 x) (hc : RdN w a T) :
  Calls Tryz.prog 29 #[.slice a T.length cap] w (RetTree T w) := by
 have HT := Lib.hid hT
 clear hT
 go_enter Tryz.func29, Tryz.ntmps29
 have S := Sep.start w
 replace S : Sep w (w.alloc (.cells #[] 89)) [plRow 89 7 encNc (.slice (some ⟨w.heap.size, 0, none⟩) 0 0) []] := S.lit0 (by simp) _ _ _
 have S0 := S.gPure (P := pinNd) (T := ([] : List Nd)) 0 rfl rfl (fun k s t hs => by simp at hs) (fun s hs => by simp at hs)
 go_upto_region 2 with fail
 have S1 : Sep w (w.alloc (.cells #[] 89)) [plNd (.slice (some ⟨w.heap.size, 0, none⟩) 0 0) [] []] := S0
 clear S0 S
 generalize (w.alloc (.cells #[] 89)) = w1 at *
 go_wp2
 go_loopw [3, 4, 5] (fun o i _ wr => ∃ (k : Nat) (u : Value) (vs : List Nc), k ≤ T.length ∧ i = .int .i64 k ∧ u = o ∧ Sep w wr [plNd u vs (T.take k)]) (fun _ i _ _ => T.length - (intOf i).toNat)
 case atStart => exact ⟨0, _, [], Nat.zero_le _, rfl, rfl, S1⟩
 case round =>
  clear S1
  obtain ⟨k, u, vs, hk, rfl, rfl, S⟩ := hrel
  by_cases hlt : k < T.length
  rotate_left
  ·obtain rfl : k = T.length := by omega
   have hni : ¬ (T.length : Int) < (T.length : Int) := by omega
   rw [List.take_length] at S
   go_wp2
   go_ret
   exact ⟨_, vs, rfl, S⟩
  ·obtain ⟨x, b', off, an, cn, ak, ck, hx, rfl, c0, c1, c2, c3, c4, c5, c6, hcn, hck, hrn, hrk⟩ := atNd hc hlt
   have Hx := Lib.hid hx
   have hsx := HT.out x (List.mem_of_getElem? hx)
   have hNl : x.N.length ≤ 1048576 := hsx.2.1
   have hKl : x.K.length ≤ 1048576 := hsx.2.2.2
   have i0 : (k : Int) < (T.length : Int) := by omega
   have hE := S.ext
   have d0 := cell_ext hE c0
   have d1 := cell_ext hE c1
   have d2 := cell_ext hE c2
   have d3 := cell_ext hE c3
   have d4 := cell_ext hE c4
   have d5 := cell_ext hE c5
   have d6 := cell_ext hE c6
   have Hrn := Lib.hid hrn
   have Hrk := Lib.hid hrk
   clear hx hsx c0 c1 c2 c3 c4 c5 c6 hcn hck hrn hrk hE
   replace S : Sep w (wr.alloc (.cells #[.bool x.fold, .int .i64 x.own, .int .i64 x.grp, .int .i64 x.mode, .string x.text, .slice an x.N.length cn, .slice ak x.K.length ck] 89)) [plBox wr.heap.size #[.bool x.fold, .int .i64 x.own, .int .i64 x.grp, .int .i64 x.mode, .string x.text, .slice an x.N.length cn, .slice ak x.K.length ck] 89, plNd u vs (T.take k)] := S.alloc_at (by simp) _ _
   go_upto_region 6 with fail
   clear d0 d1 d2 d3 d4 d5 d6
   generalize (wr.alloc (.cells #[.bool x.fold, .int .i64 x.own, .int .i64 x.grp, .int .i64 x.mode, .string x.text, .slice an x.N.length cn, .slice ak x.K.length ck] 89)) = wA at *
   generalize wr.heap.size = B at *
   obtain ⟨⟨nbc0, nbf0⟩, ⟨nbc1, nbf1⟩, ⟨nbc2, nbf2⟩, ⟨nbc3, nbf3⟩, ⟨nbc4, nbf4⟩, ⟨nbc5, nbf5⟩, ⟨nbc6, nbf6⟩⟩ := bx7 (S.box 0 rfl)
   have E5 := (Ext.refl wA).alloc (.cells #[] 9)
   have rdA : Rd 1 encStr1 (wA.alloc (.cells #[] 9)) an x.N := (Hrn.out.ext S.ext).ext E5
   have ec5 := cell_ext E5 nbc5
   go_wp2_with (at_builtin; refine wpList_append_lit rfl _ _ 39 rfl wA.heap.size 9 _ 1 _ Tryz.underlying39 infoStr1 rfl (by decide) encStr1_len encStr1_one wA.heap.size rfl (heap_alloc_new _ _) (Nat.le_refl _) an _ _ x.N rfl rfl rdA (by omega) (by omega) E5.size ?_)
   intro v5 w5 ho5 hE5
   obtain ⟨a5, k5, hv5, hcap5, _, _⟩ := view_owns encStr1_len ho5
   subst hv5
   clear nbc0 nbf0 nbc1 nbf1 nbc2 nbf2 nbc3 nbf3 nbc4 nbf4 nbc5 nbf5 nbc6 nbf6
   replace S : Sep w w5 [plRow 9 1 encStr1 (.slice a5 x.N.length k5) x.N, plBox B #[.bool x.fold, .int .i64 x.own, .int .i64 x.grp, .int .i64 x.mode, .string x.text, .slice an x.N.length cn, .slice ak x.K.length ck] 89, plNd u vs (T.take k)] := (S.owned (E5.trans hE5) (Nat.le_refl _) ho5)
   clear ho5 hE5 E5 rdA hcap5 ec5
   obtain ⟨⟨nbc0, nbf0⟩, ⟨nbc1, nbf1⟩, ⟨nbc2, nbf2⟩, ⟨nbc3, nbf3⟩, ⟨nbc4, nbf4⟩, ⟨nbc5, nbf5⟩, ⟨nbc6, nbf6⟩⟩ := bx7 (S.box 1 rfl)
   go_upto_region 7 with fail
   clear nbc0 nbf0 nbc1 nbf1 nbc2 nbf2 nbc3 nbf3 nbc4 nbf4 nbc5 nbf5 nbc6 nbf6
   replace S : Sep w (w5.setCell ⟨B, 5, none⟩ (.slice a5 x.N.length k5)) [plRow 9 1 encStr1 (.slice a5 x.N.length k5) x.N, plBox B #[.bool x.fold, .int .i64 x.own, .int .i64 x.grp, .int .i64 x.mode, .string x.text, .slice a5 x.N.length k5, .slice ak x.K.length ck] 89, plNd u vs (T.take k)] := S.set 1 rfl 5 _
   generalize (w5.setCell ⟨B, 5, none⟩ (.slice a5 x.N.length k5)) = wB at *
   obtain ⟨⟨nbc0, nbf0⟩, ⟨nbc1, nbf1⟩, ⟨nbc2, nbf2⟩, ⟨nbc3, nbf3⟩, ⟨nbc4, nbf4⟩, ⟨nbc5, nbf5⟩, ⟨nbc6, nbf6⟩⟩ := bx7 (S.box 1 rfl)
   have E6 := (Ext.refl wB).alloc (.cells #[] 3)
   have rdB : Rd 1 encInt1 (wB.alloc (.cells #[] 3)) ak x.K := (Hrk.out.ext S.ext).ext E6
   have ec6 := cell_ext E6 nbc6
   go_wp2_with (at_builtin; refine wpList_append_lit rfl _ _ 86 rfl wB.heap.size 3 _ 1 _ Tryz.underlying86 infoInt rfl (by decide) encInt1_len encInt1_one wB.heap.size rfl (heap_alloc_new _ _) (Nat.le_refl _) ak _ _ x.K rfl rfl rdB (by omega) (by omega) E6.size ?_)
   intro v6 w6 ho6 hE6
   obtain ⟨a6, k6, hv6, hcap6, _, _⟩ := view_owns encInt1_len ho6
   subst hv6
   clear nbc0 nbf0 nbc1 nbf1 nbc2 nbf2 nbc3 nbf3 nbc4 nbf4 nbc5 nbf5 nbc6 nbf6
   replace S : Sep w w6 [plRow 3 1 encInt1 (.slice a6 x.K.length k6) x.K, plRow 9 1 encStr1 (.slice a5 x.N.length k5) x.N, plBox B #[.bool x.fold, .int .i64 x.own, .int .i64 x.grp, .int .i64 x.mode, .string x.text, .slice a5 x.N.length k5, .slice ak x.K.length ck] 89, plNd u vs (T.take k)] := (S.owned (E6.trans hE6) (Nat.le_refl _) ho6)
   clear ho6 hE6 E6 rdB hcap6 ec6
   obtain ⟨⟨nbc0, nbf0⟩, ⟨nbc1, nbf1⟩, ⟨nbc2, nbf2⟩, ⟨nbc3, nbf3⟩, ⟨nbc4, nbf4⟩, ⟨nbc5, nbf5⟩, ⟨nbc6, nbf6⟩⟩ := bx7 (S.box 2 rfl)
   go_upto_region 8 with fail
   clear nbc0 nbf0 nbc1 nbf1 nbc2 nbf2 nbc3 nbf3 nbc4 nbf4 nbc5 nbf5 nbc6 nbf6
   replace S : Sep w (w6.setCell ⟨B, 6, none⟩ (.slice a6 x.K.length k6)) [plRow 3 1 encInt1 (.slice a6 x.K.length k6) x.K, plRow 9 1 encStr1 (.slice a5 x.N.length k5) x.N, plBox B #[.bool x.fold, .int .i64 x.own, .int .i64 x.grp, .int .i64 x.mode, .string x.text, .slice a5 x.N.length k5, .slice a6 x.K.length k6] 89, plNd u vs (T.take k)] := S.set 2 rfl 6 _
   generalize (w6.setCell ⟨B, 6, none⟩ (.slice a6 x.K.length k6)) = wC at *
   have S7 := S.ofRows 1 0 (⟨x, a5, k5, a6, k6⟩ : Nc) rfl rfl (by decide)
   clear S
   have S : Sep w wC [pinNd.one (⟨x, a5, k5, a6, k6⟩ : Nc) x, plBox B #[.bool x.fold, .int .i64 x.own, .int .i64 x.grp, .int .i64 x.mode, .string x.text, .slice a5 x.N.length k5, .slice a6 x.K.length k6] 89, plNd u vs (T.take k)] := S7
   clear S7
   have hvl : vs.length = k := by
    have := plG_len (S.at_ 2 rfl)
    rw [List.length_take] at this
    omega
   have hvs : vs.length ≤ 1048576 := by omega
   have HS := Lib.hid S
   obtain ⟨⟨nbc0, nbf0⟩, ⟨nbc1, nbf1⟩, ⟨nbc2, nbf2⟩, ⟨nbc3, nbf3⟩, ⟨nbc4, nbf4⟩, ⟨nbc5, nbf5⟩, ⟨nbc6, nbf6⟩⟩ := bx7 (S.box 1 rfl)
   have SA := S.alloc #[.bool x.fold, .int .i64 x.own, .int .i64 x.grp, .int .i64 x.mode, .string x.text, .slice a5 x.N.length k5, .slice a6 x.K.length k6] 89
   have rd1 : Rd 7 encNc (wC.alloc (.cells #[.bool x.fold, .int .i64 x.own, .int .i64 x.grp, .int .i64 x.mode, .string x.text, .slice a5 x.N.length k5, .slice a6 x.K.length k6] 89)) (some ⟨wC.heap.size, 0, none⟩) [(⟨x, a5, k5, a6, k6⟩ : Nc)] := rd_lit_new [(⟨x, a5, k5, a6, k6⟩ : Nc)] encNc_len rfl
   clear hvl
   obtain ⟨ua, uc, hu, hucap, _, _⟩ := view_owns encNc_len (SA.gRow (2 + 1) rfl)
   have HSA := Lib.hid SA
   subst hu
   go_wp2_with (at_builtin; refine Hid.out (?_ : Hid _))
   unfold Hid
   refine wpList_append_b rfl _ _ 28 rfl w.heap.size 89 _ 7 _ Tryz.underlying28 infoNd rfl (by decide) encNc_len encNc_one _ vs.length vs rfl (HSA.out.gRow (2 + 1) rfl) rfl (some ⟨wC.heap.size, 0, none⟩) 1 1 [(⟨x, a5, k5, a6, k6⟩ : Nc)] rfl rfl rd1 (by omega) (by omega) HSA.out.chg.size ?_
   intro v7 w7 ho hgr hblk
   have SM := (HSA.out.gPush (2 + 1) (0 + 1) rfl rfl (by decide) hgr ho hblk).keep [plNd v7 (vs ++ [(⟨x, a5, k5, a6, k6⟩ : Nc)]) (T.take k ++ [x])] (by
    refine List.Sublist.cons _ (List.Sublist.cons _ ?_)
    exact List.Sublist.refl _)
   have HN : Hid (T.take k ++ [x] = T.take (k + 1)) := Lib.hid (by rw [List.take_add_one, Hx.out]; rfl)
   rw [HN.out] at SM
   clear ho hgr hblk SA rd1 S HSA HS nbc0 nbc1 nbc2 nbc3 nbc4 nbc5 nbc6 nbf0 nbf1 nbf2 nbf3 nbf4 nbf5 nbf6
   go_wp2
   go_roundw
   case rel => exact ⟨k + 1, v7, _, by omega, by go_num, rfl, SM⟩
   case measure => simp [intOf]; omega
def VMk (w : World) (g nn cap2 : Nat) (fo : Bool) (Bc : Nat) (ca : Int) (bt off nT cap n : Nat) (x : Nd) (md : Int) (vs : List Nc) (T1 : List Nd) (RL : List Pl) (wr : World) (base : Nat) : Nat → Value → World → Prop := fun i v wv => match i with
 | 0 => v = Value.slice (some ⟨g, 0, none⟩) nn cap2
 | 1 => v = .bool fo
 | 2 => v = .pointer (some ⟨Bc, 1, none⟩)
 | 3 => v = .int .i64 ca
 | 4 => v = .slice (some ⟨bt, off, none⟩) nT cap
 | 5 => v = .int .i64 n
 | 6 => v = .pointer (some ⟨bt, off + n * 7, none⟩)
 | 7 => v = .pointer (some ⟨bt, off + n * 7 + 2, none⟩)
 | 8 => v = .int .i64 x.grp
 | 9 => v = .int .i64 md
 | 10 => v = .agg #[.bool fo, .int .i64 ca, .int .i64 x.grp, .int .i64 md, .string ⟨#[]⟩, .slice none 0 0, .slice none 0 0]
 | 11 => ∃ g, v = .slice (some ⟨g, 0, none⟩) 1 1 ∧ base ≤ g ∧ wv.heap[g]? = some (.cells #[.bool fo, .int .i64 ca, .int .i64 x.grp, .int .i64 md, .string ⟨#[]⟩, .slice none 0 0, .slice none 0 0] 89)
 | 12 => ∃ vs2, Sep w wv (plNd v vs2 (T1 ++ [(newNd fo ca x.grp md)]) :: RL)
 | 13 => Sep w wv (plNd (Value.slice (some ⟨g, 0, none⟩) nn cap2) vs T1 :: RL)
 | _ => True
theorem VMk.ext {w : World} {g nn cap2 : Nat} {fo : Bool} {Bc : Nat} {ca : Int} {bt off nT cap n : Nat} {x : Nd} {md : Int} {vs : List Nc} {T1 : List Nd} {RL : List Pl} {wr : World} {base : Nat} (i : Nat) (v : Value) (w1 w2 : World) (h : VMk w g nn cap2 fo Bc ca bt off nT cap n x md vs T1 RL wr base i v w1) (hE : Ext w1 w2) : VMk w g nn cap2 fo Bc ca bt off nT cap n x md vs T1 RL wr base i v w2 := by
 match i with
 | 0 => exact h
 | 1 => exact h
 | 2 => exact h
 | 3 => exact h
 | 4 => exact h
 | 5 => exact h
 | 6 => exact h
 | 7 => exact h
 | 8 => exact h
 | 9 => exact h
 | 10 => exact h
 | 11 => obtain ⟨g, h1, h2, h3⟩ := h; exact ⟨g, h1, h2, heapx hE h3⟩
 | 12 => obtain ⟨vs2, h1⟩ := h; exact ⟨vs2, h1.step hE⟩
 | 13 => exact SepM.step (show Sep w w1 _ from h) hE
 | (n + 14) => trivial
theorem SepM.ndAt {M : Nat → Prop} {w0 w : World} {H : List Pl} (S : SepM M w0 w H) (i : Nat) {u : Value} {vs : List Nc} {T : List Nd} (h : H[i]? = some (plNd u vs T)) {k : Nat} {x : Nd} (hx : T[k]? = some x) :
  ∃ (c : Nc) (g cap : Nat), u = .slice (some ⟨g, 0, none⟩) T.length cap ∧ T.length ≤ cap ∧ vs[k]? = some c ∧ c.n = x ∧ (∀ j v, (encNc c)[j]? = some v → w.cell? ⟨g, k * 7 + j, none⟩ = some v) ∧ (∀ j, w.frozen? ⟨g, j, none⟩ = false) ∧ Shape c.an x.N c.cn ∧ Shape c.ak x.K c.ck ∧ x.N.length ≤ c.cn ∧ x.K.length ≤ c.ck ∧ Rd 1 encStr1 w c.an x.N ∧ Rd 1 encInt1 w c.ak x.K := by
 have hrow := S.gRow i h
 obtain ⟨h1, h2, h3, h4, h5⟩ := S.at_ i h
 have hkT := (List.getElem?_eq_some_iff.1 hx).1
 have hk : k < vs.length := by omega
 have hc : vs[k]? = some vs[k] := List.getElem?_eq_getElem hk
 obtain ⟨e1, r1, r2, _⟩ := h3 k vs[k] x hc hx
 obtain ⟨a, cap, hu, hcap, hrd, hsh⟩ := view_owns encNc_len hrow
 obtain ⟨g, rfl⟩ : ∃ g, a = some ⟨g, 0, none⟩ := by
  rcases hsh with ⟨_, h0, _⟩ | ⟨g, h0, _⟩
  ·rw [h0] at hk; exact absurd hk (Nat.not_lt_zero _)
  ·exact ⟨g, h0⟩
 obtain ⟨b, off, hb, hcell⟩ := hrd k hk
 obtain ⟨rfl, rfl⟩ : g = b ∧ 0 = off := by simpa using hb
 rw [e1] at r1 r2
 obtain ⟨a1, c1, hv1, hl1, hd1, hs1⟩ := view_owns encStr1_len r1
 obtain ⟨a2, c2, hv2, hl2, hd2, hs2⟩ := view_owns encInt1_len r2
 simp only [Value.slice.injEq, true_and] at hv1 hv2
 obtain ⟨k1, k2⟩ := hv1
 obtain ⟨k3, k4⟩ := hv2
 subst hu
 refine ⟨vs[k], g, cap, by rw [h2], by omega, hc, e1, fun j v hv => by have := hcell j v hv; rwa [Nat.zero_add] at this, hrow.frozenAt, ?_, ?_, by rw [k2]; exact hl1, by rw [k4]; exact hl2, by rw [k1]; exact hd1, by rw [k3]; exact hd2⟩
 ·rw [k1, k2]
  rcases hs1 with h | ⟨g, h, _⟩
  ·exact .inl h
  ·exact .inr ⟨g, h⟩
 ·rw [k3, k4]
  rcases hs2 with h | ⟨g, h, _⟩
  ·exact .inl h
  ·exact .inr ⟨g, h⟩
section
variable {T : List Nd} {c : Cr} {s : ByteArray} {fo : Bool} {md : Int} {n : Nat} {x : Nd}
theorem mk_mode (h : inB md 0 1023 = false) : makeNode T c s fo md = ([], 1) := by rw [makeNode, if_pos h]
theorem mk_fault (h : inB md 0 1023 = true) (hf : (placeFor T c s).2 ≠ 0) : makeNode T c s fo md = ([], (placeFor T c s).2) := by rw [makeNode, if_neg (by simp [h]), if_pos hf]
theorem mk_full (h : inB md 0 1023 = true) (hp : placeFor T c s = ((n : Int), 0)) (hl : T.length = 16) : makeNode T c s fo md = ([], 6) := by rw [makeNode, if_neg (by simp [h]), if_neg (by rw [hp]; simp), if_pos hl]
theorem mk_ok (h : inB md 0 1023 = true) (hp : placeFor T c s = ((n : Int), 0)) (hl : ¬ T.length = 16) (hx : T[n]? = some x) : makeNode T c s fo md = (T.set n (putNd x (lastOf s) (T.length : Int)) ++ [newNd fo c.a x.grp md], 0) := by
 rw [makeNode, if_neg (by simp [h]), if_neg (by rw [hp]; simp), if_neg hl, hp]
 dsimp only
 rw [Int.toNat_natCast, hx]
theorem place_cases (T : List Nd) (c : Cr) (s : ByteArray) : (∃ (n : Nat) (x : Nd), placeFor T c s = ((n : Int), 0) ∧ T[n]? = some x ∧ TreeOk T) ∨ ∃ f : Int, f ≠ 0 ∧ placeFor T c s = (-1, f) := by
 rcases placeFor_in T c s with ⟨ab, nm, n, x, h1, _, _, h2, _, _, h3, _⟩ | ⟨h1, h2⟩
 ·exact .inl ⟨n, x, h1, h2, h3⟩
 ·exact .inr ⟨(placeFor T c s).2, h1, by rw [← h2]⟩
end
def RetMk (R : List Nd × Int) (w : World) (e : Ending) (w' : World) : Prop := ∃ u vs, e = .returned (.tuple #[u, .int .i64 R.2]) ∧ Sep w w' [plNd u vs R.1]
theorem RetMk.empty {w w1 : World} {R : List Nd × Int} {f : Int} (hE : Ext w w1) (hR : R = ([], f)) : RetMk R w (.returned (.tuple #[.slice (some ⟨w1.heap.size, 0, none⟩) 0 0, .int .i64 f])) (w1.alloc (.cells #[] 89)) := by
 have S0 := (Sep.of_ext hE).lit0 (n := w1.heap.size) rfl 89 7 encNc
 have S1 := S0.gPure (P := pinNd) (T := ([] : List Nd)) 0 rfl rfl (fun k s t hs => by simp at hs) (fun s hs => by simp at hs)
 exact ⟨_, [], by rw [hR], by rw [hR]; exact S1⟩
set_option maxRecDepth 10000 in
set_option maxHeartbeats 16000000 in
theorem specMakeNode (a : Option Addr) (cap : Nat) (T : List Nd) (c : Cr) (s : ByteArray) (fo : Bool) (md : Int) (w : World) (hs : s.size ≤ 1048576) (hl : T.length ≤ 1048576) (hT : ∀ x ∈ T, SmN 1048576 x) (hc : RdN w a T) :
  Calls Tryz.prog 31 #[.slice a T.length cap, .agg #[.int .i64 c.r, .int .i64 c.a, .int .i64 c.s, .int .i64 c.g], .string s, .bool fo, .int .i64 md] w (RetMk (makeNode T c s fo md) w) := by
 obtain ⟨cr, ca, cs, cg⟩ := c
 have HT := Lib.hid hT
 clear hT
 dsimp only
 go_enter Tryz.func31, Tryz.ntmps31
 have S := Sep.start w
 replace S : Sep w (w.alloc (.cells #[.int .i64 cr, .int .i64 ca, .int .i64 cs, .int .i64 cg] 29)) [plBox w.heap.size #[.int .i64 cr, .int .i64 ca, .int .i64 cs, .int .i64 cg] 29] := S.alloc_at (by simp) _ _
 go_wp2_with fail
 generalize (w.alloc (.cells #[.int .i64 cr, .int .i64 ca, .int .i64 cs, .int .i64 cg] 29)) = w1 at *
 refine (specPlaceFor a cap T ⟨cr, ca, cs, cg⟩ s w1 hs hl HT.out (hc.ext S.ext)).mono ?_
 rintro e w2 ⟨rfl, hE⟩
 replace S := S.step hE
 clear hE
 go_wp2_with fail
 refine (specAboveOf s w2 hs).mono ?_
 rintro e w3 ⟨rfl, hE⟩
 replace S := S.step hE
 clear hE
 cases hM : inB md 0 1023 with
 | false =>
  have HM := Lib.hid hM
  have HX := Lib.hid (mk_mode (T := T) (c := ⟨cr, ca, cs, cg⟩) (s := s) (fo := fo) hM)
  clear hM
  go_wp2_with (go_at_call 68; refine (l1In_is HM.out _).mono ?_; rintro e w' ⟨rfl, rfl⟩)
  go_ret2
  exact RetMk.empty S.ext HX.out
 | true =>
  have HM := Lib.hid hM
  clear hM
  rcases place_cases T ⟨cr, ca, cs, cg⟩ s with ⟨n, x, hp, hx, hTr⟩ | ⟨f, hf, hp⟩
  rotate_left
  ·have HX := Lib.hid (mk_fault (T := T) (c := ⟨cr, ca, cs, cg⟩) (s := s) (fo := fo) HM.out (by rw [hp]; exact hf))
   rw [hp] at HX ⊢
   have tf : (f == 0) = false := by simpa using hf
   clear hp hf
   dsimp only at HX ⊢
   go_wp2_with (go_at_call 68; refine (l1In_is HM.out _).mono ?_; rintro e w' ⟨rfl, rfl⟩)
   go_ret2
   exact RetMk.empty S.ext HX.out
  ·have Hx := Lib.hid hx
   have hn := (List.getElem?_eq_some_iff.1 hx).1
   have hmax := hTr.max
   by_cases h16 : T.length = 16
   ·have HX := Lib.hid (mk_full (c := ⟨cr, ca, cs, cg⟩) (s := s) (fo := fo) HM.out hp h16)
    have t16 : (T.length : Int) = 16 := by omega
    rw [hp]
    clear hp hx
    dsimp only
    go_wp2_with (go_at_call 68; refine (l1In_is HM.out _).mono ?_; rintro e w' ⟨rfl, rfl⟩)
    go_ret2
    exact RetMk.empty S.ext HX.out
   ·have HX := Lib.hid (mk_ok (c := ⟨cr, ca, cs, cg⟩) (s := s) (fo := fo) HM.out hp h16 hx)
    have t16 : ((T.length : Int) == 16) = false := by simp; omega
    rw [hp]
    have HTr := Lib.hid hTr
    clear hp hTr h16 hx
    dsimp only
    go_wp2_with (first | (go_at_call 68; refine (l1In_is HM.out _).mono ?_; rintro e w' ⟨rfl, rfl⟩) | fail)
    refine (specCopy a cap T w3 hl HT.out (hc.ext S.ext)).mono ?_
    rintro e w4 ⟨u, vs, rfl, S4⟩
    replace S : Sep w w4 [plNd u vs T, plBox w.heap.size #[.int .i64 cr, .int .i64 ca, .int .i64 cs, .int .i64 cg] 29] := S.call S4
    clear S4
    obtain ⟨xc, g, cap2, rfl, hcap2, hxc, hxn, hcell, hfz, hsn, hsk, hcn, hck, hrn, hrk⟩ := S.ndAt 0 rfl Hx.out
    obtain ⟨x', an, cn, ak, ck⟩ := xc
    dsimp only at hxn hsn hsk hcn hck hrn hrk
    subst hxn
    have d0 : w4.cell? ⟨g, n * 7, none⟩ = some (.bool x'.fold) := hcell 0 _ rfl
    have d1 : w4.cell? ⟨g, n * 7 + 1, none⟩ = some (.int .i64 x'.own) := hcell 1 _ rfl
    have d2 : w4.cell? ⟨g, n * 7 + 2, none⟩ = some (.int .i64 x'.grp) := hcell 2 _ rfl
    have d3 : w4.cell? ⟨g, n * 7 + 3, none⟩ = some (.int .i64 x'.mode) := hcell 3 _ rfl
    have d4 : w4.cell? ⟨g, n * 7 + 4, none⟩ = some (.string x'.text) := hcell 4 _ rfl
    have d5 : w4.cell? ⟨g, n * 7 + 5, none⟩ = some (.slice an x'.N.length cn) := hcell 5 _ rfl
    have d6 : w4.cell? ⟨g, n * 7 + 6, none⟩ = some (.slice ak x'.K.length ck) := hcell 6 _ rfl
    have hN := HTr.out.nodes n x' Hx.out
    have HN := Lib.hid hN
    have hsx := HT.out x' (List.mem_of_getElem? Hx.out)
    have hNl := hsx.2.1
    have Hput := Lib.hid (specPut x' an ak cn ck (lastOf s) (T.length : Int) w4 hNl hN.len hcn hck hsn hsk hrn hrk)
    have i0 : (n : Int) < (T.length : Int) := by omega
    have HK := Lib.hid hxc
    clear hcell hN hsx hNl hcn hck hsn hsk hrn hrk hxc
    go_wp2_with fail
    refine Hput.out.mono ?_
    rintro e w5 ⟨an2, cn2, ak2, ck2, rfl, S5⟩
    have g0 := cell_ext S5.ext d0
    have g1 := cell_ext S5.ext d1
    have g2 := cell_ext S5.ext d2
    have g3 := cell_ext S5.ext d3
    have g4 := cell_ext S5.ext d4
    have g5 := cell_ext S5.ext d5
    have g6 := cell_ext S5.ext d6
    obtain ⟨X2, hX2⟩ : ∃ X2, X2 = putNd x' (lastOf s) (T.length : Int) := ⟨_, rfl⟩
    rw [← hX2] at S5 HX
    have HX2 := Lib.hid hX2
    rw [← hX2]
    clear hX2 d0 d1 d2 d3 d4 d5 d6 Hput hfz
    replace S : Sep w w5 [plRow 3 1 encInt1 (.slice ak2 X2.K.length ck2) X2.K, plRow 9 1 encStr1 (.slice an2 X2.N.length cn2) X2.N, plNd (.slice (some ⟨g, 0, none⟩) T.length cap2) vs T, plBox w.heap.size #[.int .i64 cr, .int .i64 ca, .int .i64 cs, .int .i64 cg] 29] := S.call S5
    clear S5
    have hvl := plG_len (S.at_ 2 rfl)
    have hrow := S.gRow 2 rfl
    rw [hvl] at hrow
    have hfz := hrow.frozenAt
    clear hrow
    have S6 := S.ofRows 1 0 (⟨X2, an2, cn2, ak2, ck2⟩ : Nc) rfl rfl (by decide)
    have S7 := S6.gPut 1 0 encNc_len rfl rfl (by decide) (k := n) (by omega)
    have S8 : Sep w (((((((w5.setCell ⟨g, n * 7, none⟩ (.bool X2.fold)).setCell ⟨g, n * 7 + 1, none⟩ (.int .i64 X2.own)).setCell ⟨g, n * 7 + 2, none⟩ (.int .i64 X2.grp)).setCell ⟨g, n * 7 + 3, none⟩ (.int .i64 X2.mode)).setCell ⟨g, n * 7 + 4, none⟩ (.string X2.text)).setCell ⟨g, n * 7 + 5, none⟩ (.slice an2 X2.N.length cn2)).setCell ⟨g, n * 7 + 6, none⟩ (.slice ak2 X2.K.length ck2)) [plNd (.slice (some ⟨g, 0, none⟩) T.length cap2) (vs.set n ⟨X2, an2, cn2, ak2, ck2⟩) (T.set n X2), plBox w.heap.size #[.int .i64 cr, .int .i64 ca, .int .i64 cs, .int .i64 cg] 29] := S7
    have HS8 := Lib.hid S8
    clear S S6 S7 S8
    go_upto_region 11 with fail
    obtain ⟨wD, hwD⟩ : ∃ wD, wD = (((((((w5.setCell ⟨g, n * 7, none⟩ (.bool X2.fold)).setCell ⟨g, n * 7 + 1, none⟩ (.int .i64 X2.own)).setCell ⟨g, n * 7 + 2, none⟩ (.int .i64 X2.grp)).setCell ⟨g, n * 7 + 3, none⟩ (.int .i64 X2.mode)).setCell ⟨g, n * 7 + 4, none⟩ (.string X2.text)).setCell ⟨g, n * 7 + 5, none⟩ (.slice an2 X2.N.length cn2)).setCell ⟨g, n * 7 + 6, none⟩ (.slice ak2 X2.K.length ck2)) := ⟨_, rfl⟩
    rw [← hwD] at HS8 ⊢
    clear hwD g0 g1 g2 g3 g4 g5 g6 hfz
    have S := HS8.out
    obtain ⟨V2, hV2⟩ : ∃ V2, V2 = vs.set n (⟨X2, an2, cn2, ak2, ck2⟩ : Nc) := ⟨_, rfl⟩
    obtain ⟨T2, hT2⟩ : ∃ T2, T2 = T.set n X2 := ⟨_, rfl⟩
    rw [← hT2] at HX
    have hV2l : V2.length ≤ 16 := by rw [hV2, List.length_set]; omega
    rw [← hV2, ← hT2] at S
    clear hV2 hT2 HS8 hvl
    obtain ⟨z, bt, off, zan, zcn, zak, zck, hz, rfl, _, _, z2, _⟩ := atNd hc hn
    rw [Hx.out] at hz
    cases hz
    have Sd : Sep w (World.drew wD) [plNd (.slice (some ⟨g, 0, none⟩) T.length cap2) V2 T2, plBox w.heap.size #[.int .i64 cr, .int .i64 ca, .int .i64 cs, .int .i64 cg] 29] := S.drew
    have hI0 : ∀ wv, Chg (fun b => (Value.slice (some ⟨g, 0, none⟩) T.length cap2).ownBlock = some b) (World.drew wD) wv → Ext w wv := fun wv hI => Chg.ext (S.ext.drew) hI (fun b hb => (S.lt (List.mem_cons_self ..) (show (plNd (.slice (some ⟨g, 0, none⟩) T.length cap2) V2 T2).own b from .inl hb)).1)
    have hbc1 : ∀ wv, Chg (fun b => (Value.slice (some ⟨g, 0, none⟩) T.length cap2).ownBlock = some b) (World.drew wD) wv → wv.cell? ⟨w.heap.size, 1, none⟩ = some (.int .i64 ca) := fun wv hI => cell_chg (bx (Sd.box 1 rfl) 1 rfl).1 hI (fun hb => Sd.ne (i := 0) (j := 1) rfl rfl (by decide) (show (plNd (.slice (some ⟨g, 0, none⟩) T.length cap2) V2 T2).own w.heap.size from .inl hb) rfl)
    have hgrp : ∀ wv, Chg (fun b => (Value.slice (some ⟨g, 0, none⟩) T.length cap2).ownBlock = some b) (World.drew wD) wv → wv.cell? ⟨bt, off + n * 7 + 2, none⟩ = some (.int .i64 x'.grp) := fun wv hI => cell_ext (hI0 wv hI) z2
    have HX3 := HX
    clear HX z2 S
    refine wp_region_t (V := VMk w g T.length cap2 fo w.heap.size ca bt off T.length cap n x' md V2 T2 [plBox w.heap.size #[.int .i64 cr, .int .i64 ca, .int .i64 cs, .int .i64 cg] 29] wD wD.heap.size) (Chg (fun b => ((Value.slice (some ⟨g, 0, none⟩) T.length cap2)).ownBlock = some b) (World.drew wD)) (fun i => if i = 11 then some 12 else if i = 13 then some 12 else none) [] 13 1 rfl (by decide) (by kernel_rfl) (by kernel_rfl) (by kernel_rfl) (by kernel_rfl) (Chg.refl _ _) (fun r hr => match r, hr with | 0, _ => Sd) ?_ ?_
    ·intro i o hi ho vz w4 hvl hE hd hrest
     have hsz : wD.heap.size ≤ w4.heap.size := hE.size
     have hE4 := hI0 w4 hE
     match vz, hvl with
     | [y0, y1, y2, y3, y4, y5, y6, y7, y8, y9, y10, y11, y12], _ =>
     rcases (show i = 0 ∨ i = 1 ∨ i = 2 ∨ i = 3 ∨ i = 4 ∨ i = 5 ∨ i = 6 ∨ i = 7 ∨ i = 8 ∨ i = 9 ∨ i = 10 ∨ i = 11 ∨ i = 12 by omega) with rfl | rfl | rfl | rfl | rfl | rfl | rfl | rfl | rfl | rfl | rfl | rfl | rfl
     all_goals
      simp only [List.getElem?_cons_zero, List.getElem?_cons_succ, Option.some.injEq] at ho
      subst ho
     ·clear hd hrest
      simp [putAll, Act.put]
      go_wp2
      exact OneC.mk (VMk.ext) rfl rfl hE (Ext.refl _)
     ·clear hd hrest
      simp [putAll, Act.put]
      go_wp2
      exact OneC.mk (VMk.ext) rfl rfl hE (Ext.refl _)
     ·clear hd hrest
      simp [putAll, Act.put]
      go_wp2
      exact OneC.mk (VMk.ext) rfl rfl hE (Ext.refl _)
     ·have q2 : y2 = .pointer (some ⟨w.heap.size, 1, none⟩) := hd ⟨2, .data⟩ (by simp) rfl (by decide)
      have c3 := hbc1 w4 hE
      subst q2
      clear hd hrest
      simp [putAll, Act.put]
      go_wp2
      exact OneC.mk (VMk.ext) rfl rfl hE (Ext.refl _)
     ·clear hd hrest
      simp [putAll, Act.put]
      go_wp2
      exact OneC.mk (VMk.ext) rfl rfl hE (Ext.refl _)
     ·clear hd hrest
      simp [putAll, Act.put]
      go_wp2
      exact OneC.mk (VMk.ext) rfl rfl hE (Ext.refl _)
     ·have q4 : y4 = .slice (some ⟨bt, off, none⟩) T.length cap := hd ⟨4, .data⟩ (by simp) rfl (by decide)
      have q5 : y5 = .int .i64 n := hd ⟨5, .data⟩ (by simp) rfl (by decide)
      subst q4 q5
      clear hd hrest
      simp [putAll, Act.put]
      go_wp2
      exact OneC.mk (VMk.ext) rfl rfl hE (Ext.refl _)
     ·have q6 : y6 = .pointer (some ⟨bt, off + n * 7, none⟩) := hd ⟨6, .data⟩ (by simp) rfl (by decide)
      subst q6
      clear hd hrest
      simp [putAll, Act.put]
      go_wp2
      exact OneC.mk (VMk.ext) rfl rfl hE (Ext.refl _)
     ·have q7 : y7 = .pointer (some ⟨bt, off + n * 7 + 2, none⟩) := hd ⟨7, .data⟩ (by simp) rfl (by decide)
      have c3 := hgrp w4 hE
      subst q7
      clear hd hrest
      simp [putAll, Act.put]
      go_wp2
      exact OneC.mk (VMk.ext) rfl rfl hE (Ext.refl _)
     ·clear hd hrest
      simp [putAll, Act.put]
      go_wp2
      exact OneC.mk (VMk.ext) rfl rfl hE (Ext.refl _)
     ·have q1 : y1 = .bool fo := hd ⟨1, .data⟩ (by simp) rfl (by decide)
      have q3 : y3 = .int .i64 ca := hd ⟨3, .data⟩ (by simp) rfl (by decide)
      have q8 : y8 = .int .i64 x'.grp := hd ⟨8, .data⟩ (by simp) rfl (by decide)
      have q9 : y9 = .int .i64 md := hd ⟨9, .data⟩ (by simp) rfl (by decide)
      subst q1 q3 q8 q9
      clear hd hrest
      simp [putAll, Act.put]
      go_wp2
      exact OneC.mk (VMk.ext) rfl rfl hE (Ext.refl _)
     ·have q10 : y10 = .agg #[.bool fo, .int .i64 ca, .int .i64 x'.grp, .int .i64 md, .string ⟨#[]⟩, .slice none 0 0, .slice none 0 0] := hd ⟨10, .data⟩ (by simp) rfl (by decide)
      subst q10
      clear hd hrest
      simp [putAll, Act.put]
      go_wp2
      exact OneC.mk (VMk.ext) rfl ⟨_, rfl, hsz, heap_alloc_new w4 _⟩ (hE.trans (Chg.of_ext ((Ext.refl w4).alloc _))) ((Ext.refl _).alloc _)
     ·have q0 : y0 = Value.slice (some ⟨g, 0, none⟩) T.length cap2 := hd ⟨0, .data⟩ (by simp) rfl (by decide)
      obtain ⟨gq1, q1, hbq1, hgq1⟩ : ∃ g, y11 = .slice (some ⟨g, 0, none⟩) 1 1 ∧ wD.heap.size ≤ g ∧ w4.heap[g]? = some (.cells #[.bool fo, .int .i64 ca, .int .i64 x'.grp, .int .i64 md, .string ⟨#[]⟩, .slice none 0 0, .slice none 0 0] 89) := hd ⟨11, .data⟩ (by simp) rfl (by decide)
      have S4 : Sep w w4 (plNd (Value.slice (some ⟨g, 0, none⟩) T.length cap2) V2 T2 :: [plBox w.heap.size #[.int .i64 cr, .int .i64 ca, .int .i64 cs, .int .i64 cg] 29]) := hrest 0 (by omega) (.inr rfl)
      have S5 : Sep w w4 (pinNd.one (⟨newNd fo ca x'.grp md, none, 0, none, 0⟩ : Nc) (newNd fo ca x'.grp md) :: plNd (Value.slice (some ⟨g, 0, none⟩) T.length cap2) V2 T2 :: [plBox w.heap.size #[.int .i64 cr, .int .i64 ca, .int .i64 cs, .int .i64 cg] 29]) := S4.cons (p := pinNd.one (⟨newNd fo ca x'.grp md, none, 0, none, 0⟩ : Nc) (newNd fo ca x'.grp md)) (Ext.refl w4) (root_pin _ rfl rfl w4) (fun b hb => absurd hb (root_own _ b))
      have hrow := S5.gRow 1 rfl
      have hrd : Rd 7 encNc w4 (some ⟨gq1, 0, none⟩) [(⟨newNd fo ca x'.grp md, none, 0, none, 0⟩ : Nc)] := rd_lit [(⟨newNd fo ca x'.grp md, none, 0, none, 0⟩ : Nc)] encNc_len hgq1 rfl
      subst q0 q1
      clear hd hrest S4
      simp [putAll, Act.put]
      refine wpList_append_b rfl _ _ 28 rfl w.heap.size 89 _ 7 _ Tryz.underlying28 infoNd rfl (by decide) encNc_len encNc_one _ (V2).length V2 rfl hrow rfl (some ⟨gq1, 0, none⟩) 1 1 [(⟨newNd fo ca x'.grp md, none, 0, none, 0⟩ : Nc)] rfl rfl hrd (by omega) (by omega) hE4.size ?_
      intro v9 w9 ho9 hgr hblk
      have S6 : Sep w w9 (plNd v9 (V2 ++ [(⟨newNd fo ca x'.grp md, none, 0, none, 0⟩ : Nc)]) (T2 ++ [(newNd fo ca x'.grp md)]) :: [plBox w.heap.size #[.int .i64 cr, .int .i64 ca, .int .i64 cs, .int .i64 cg] 29]) := S5.gPush 1 0 rfl rfl (by decide) hgr ho9 hblk
      have hch := Chg.of_grown hgr
      clear ho9 hblk hrow hrd S5 hgr
      go_wp2
      refine ⟨rfl, _, rfl, ⟨_, S6⟩, hE.trans hch, fun j u hj hne hcon hnd hnc hv => ?_⟩
      match j with
      | 0 => exact hv
      | 1 => exact hv
      | 2 => exact hv
      | 3 => exact hv
      | 4 => exact hv
      | 5 => exact hv
      | 6 => exact hv
      | 7 => exact hv
      | 8 => exact hv
      | 9 => exact hv
      | 10 => exact hv
      | 11 => exact absurd rfl hcon
      | 12 => exact absurd rfl hne
      | 13 => exact absurd rfl hcon
      | (zz + 14) => trivial
    ·intro vz wE hvl hE hV _
     match vz, hvl with
     | [y0, y1, y2, y3, y4, y5, y6, y7, y8, y9, y10, y11, y12], _ =>
      obtain ⟨vs3, S11⟩ : ∃ vs2, Sep w wE (plNd y12 vs2 (T2 ++ [newNd fo ca x'.grp md]) :: [plBox w.heap.size #[.int .i64 cr, .int .i64 ca, .int .i64 cs, .int .i64 cg] 29]) := hV 12 (by omega) rfl
      clear hV hI0 hbc1 hgrp Sd hE
      simp only [putAll, Act.put, List.take_succ_cons, List.take_zero, List.drop_succ_cons, List.drop_zero]
      simp
      have S12 := S11.drop 1
      clear S11
      go_wp2
      go_ret2
      exact ⟨_, vs3, by rw [HX3.out]; rfl, by rw [HX3.out]; exact S12⟩
def mdCh (m : Int) (k : Nat) : UInt8 := if m / 2 ^ k % 2 = 1 then (if k % 3 = 2 then 114 else if k % 3 = 1 then 119 else 120) else 45
def mdPre (m : Int) (j : Nat) : List UInt8 := (List.range j).map (fun i => mdCh m (8 - i))
theorem mdPre_step (m : Int) (j : Nat) : mdPre m (j + 1) = mdPre m j ++ [mdCh m (8 - j)] := by simp [mdPre, List.range_succ]
theorem mdPre_len (m : Int) (j : Nat) : (mdPre m j).length = j := by simp [mdPre]
theorem mdPre_lim (m : Int) (j : Nat) (h : j ≤ 9) : ¬ 9223372036854775807 < (mdPre m j).length + 1 := by rw [mdPre_len]; omega
def modeL (m : Int) : List UInt8 := mdPre m 9 ++ if 512 ≤ m then [43] else []
def modeText (m : Int) : ByteArray := if inB m 0 1023 = true then ⟨(modeL m).toArray⟩ else ⟨#[]⟩
theorem ba_push (l : List UInt8) (c : UInt8) : (⟨l.toArray⟩ : ByteArray) ++ ⟨#[c]⟩ = ⟨(l ++ [c]).toArray⟩ := by
 apply ByteArray.ext
 simp [ByteArray.data_append]
set_option maxRecDepth 10000 in
set_option maxHeartbeats 8000000 in
theorem specModeText (m : Int) (w : World) : Calls Tryz.prog 75 #[.int .i64 m] w fun e w' => e = .returned (.string (modeText m)) ∧ w = w' := by
 cases hM : inB m 0 1023 with
 | false =>
  have HX : Hid (modeText m = ⟨#[]⟩) := Lib.hid (by unfold modeText; rw [if_neg (by simp [hM])])
  have HMo := Lib.hid hM
  clear hM
  go_enter Tryz.func75, Tryz.ntmps75
  go_wp2_with (go_at_call 68; refine (l1In_is HMo.out _).mono ?_; rintro e w' ⟨rfl, rfl⟩)
  go_ret
  exact ⟨by rw [HX.out]; rfl, rfl⟩
 | true =>
  have HX : Hid (modeText m = ⟨(modeL m).toArray⟩) := Lib.hid (by unfold modeText; rw [if_pos hM])
  have HMo := Lib.hid hM
  obtain ⟨hm0, hm1⟩ := inB_iff.1 hM
  clear hM
  go_enter Tryz.func75, Tryz.ntmps75
  go_wp2_with (go_at_call 68; refine (l1In_is HMo.out _).mono ?_; rintro e w' ⟨rfl, rfl⟩)
  go_loopw [3, 4] (fun o i wr => ∃ j : Nat, j ≤ 9 ∧ o = .string ⟨(mdPre m j).toArray⟩ ∧ i = .int .i64 (8 - (j : Int)) ∧ w = wr) (fun _ i _ => (intOf i + 1).toNat)
  case atStart => exact ⟨0, by omega, rfl, rfl, rfl⟩
  case round =>
   obtain ⟨j, hj, rfl, rfl, rfl⟩ := hrel
   by_cases h9 : j = 9
   ·subst h9
    have hl := mdPre_lim m 9 (by omega)
    by_cases hs : 512 ≤ m
    ·have HN : Hid ((⟨(mdPre m 9).toArray⟩ ++ ⟨#[43]⟩ : ByteArray) = ⟨(modeL m).toArray⟩) := Lib.hid (by rw [ba_push]; unfold modeL; rw [if_pos hs])
     go_wp2
     go_ret
     exact ⟨by rw [HX.out, ← HN.out]; rfl, rfl⟩
    ·have HN : Hid ((⟨(mdPre m 9).toArray⟩ : ByteArray) = ⟨(modeL m).toArray⟩) := Lib.hid (by unfold modeL; rw [if_neg hs, List.append_nil])
     go_wp2
     go_ret
     exact ⟨by rw [HX.out, ← HN.out]; rfl, rfl⟩
   ·rcases (show j = 0 ∨ j = 1 ∨ j = 2 ∨ j = 3 ∨ j = 4 ∨ j = 5 ∨ j = 6 ∨ j = 7 ∨ j = 8 by omega) with rfl | rfl | rfl | rfl | rfl | rfl | rfl | rfl | rfl
    ·have hl := mdPre_lim m 0 (by omega)
     by_cases hb : m / 256 % 2 = 1
     ·have tb : (m / 256 % 2 == 1) = true := by simpa using hb
      have HN : Hid ((⟨(mdPre m 0).toArray⟩ ++ (⟨#[120, 119, 114]⟩ : ByteArray).extract 2 3 : ByteArray) = ⟨(mdPre m 1).toArray⟩) := Lib.hid (by
       rw [mdPre_step m 0, show mdCh m (8 - 0) = 114 from (by unfold mdCh; rw [if_pos (show (m / 2 ^ (8 - 0) % 2 = 1) from by simpa using hb)]; try rfl), ← ba_push]; try rfl)
      clear hb
      go_wp2
      go_roundw
      case rel => exact ⟨1, by omega, by rw [HN.out], by first | rfl | (go_num; done) | (simp; done), by first | rfl | trivial⟩
      case measure => simp [intOf]
     ·have tb : (m / 256 % 2 == 1) = false := by simpa using hb
      have HN : Hid ((⟨(mdPre m 0).toArray⟩ ++ ⟨#[45]⟩ : ByteArray) = ⟨(mdPre m 1).toArray⟩) := Lib.hid (by
       rw [mdPre_step m 0, show mdCh m (8 - 0) = 45 from (by unfold mdCh; rw [if_neg (show ¬ (m / 2 ^ (8 - 0) % 2 = 1) from by simpa using hb)]; try rfl), ← ba_push]; try rfl)
      clear hb
      go_wp2
      go_roundw
      case rel => exact ⟨1, by omega, by rw [HN.out], by first | rfl | (go_num; done) | (simp; done), by first | rfl | trivial⟩
      case measure => simp [intOf]
    ·have hl := mdPre_lim m 1 (by omega)
     by_cases hb : m / 128 % 2 = 1
     ·have tb : (m / 128 % 2 == 1) = true := by simpa using hb
      have HN : Hid ((⟨(mdPre m 1).toArray⟩ ++ (⟨#[120, 119, 114]⟩ : ByteArray).extract 1 2 : ByteArray) = ⟨(mdPre m 2).toArray⟩) := Lib.hid (by
       rw [mdPre_step m 1, show mdCh m (8 - 1) = 119 from (by unfold mdCh; rw [if_pos (show (m / 2 ^ (8 - 1) % 2 = 1) from by simpa using hb)]; try rfl), ← ba_push]; try rfl)
      clear hb
      go_wp2
      go_roundw
      case rel => exact ⟨2, by omega, by rw [HN.out], by first | rfl | (go_num; done) | (simp; done), by first | rfl | trivial⟩
      case measure => simp [intOf]
     ·have tb : (m / 128 % 2 == 1) = false := by simpa using hb
      have HN : Hid ((⟨(mdPre m 1).toArray⟩ ++ ⟨#[45]⟩ : ByteArray) = ⟨(mdPre m 2).toArray⟩) := Lib.hid (by
       rw [mdPre_step m 1, show mdCh m (8 - 1) = 45 from (by unfold mdCh; rw [if_neg (show ¬ (m / 2 ^ (8 - 1) % 2 = 1) from by simpa using hb)]; try rfl), ← ba_push]; try rfl)
      clear hb
      go_wp2
      go_roundw
      case rel => exact ⟨2, by omega, by rw [HN.out], by first | rfl | (go_num; done) | (simp; done), by first | rfl | trivial⟩
      case measure => simp [intOf]
    ·have hl := mdPre_lim m 2 (by omega)
     by_cases hb : m / 64 % 2 = 1
     ·have tb : (m / 64 % 2 == 1) = true := by simpa using hb
      have HN : Hid ((⟨(mdPre m 2).toArray⟩ ++ (⟨#[120, 119, 114]⟩ : ByteArray).extract 0 1 : ByteArray) = ⟨(mdPre m 3).toArray⟩) := Lib.hid (by
       rw [mdPre_step m 2, show mdCh m (8 - 2) = 120 from (by unfold mdCh; rw [if_pos (show (m / 2 ^ (8 - 2) % 2 = 1) from by simpa using hb)]; try rfl), ← ba_push]; try rfl)
      clear hb
      go_wp2
      go_roundw
      case rel => exact ⟨3, by omega, by rw [HN.out], by first | rfl | (go_num; done) | (simp; done), by first | rfl | trivial⟩
      case measure => simp [intOf]
     ·have tb : (m / 64 % 2 == 1) = false := by simpa using hb
      have HN : Hid ((⟨(mdPre m 2).toArray⟩ ++ ⟨#[45]⟩ : ByteArray) = ⟨(mdPre m 3).toArray⟩) := Lib.hid (by
       rw [mdPre_step m 2, show mdCh m (8 - 2) = 45 from (by unfold mdCh; rw [if_neg (show ¬ (m / 2 ^ (8 - 2) % 2 = 1) from by simpa using hb)]; try rfl), ← ba_push]; try rfl)
      clear hb
      go_wp2
      go_roundw
      case rel => exact ⟨3, by omega, by rw [HN.out], by first | rfl | (go_num; done) | (simp; done), by first | rfl | trivial⟩
      case measure => simp [intOf]
    ·have hl := mdPre_lim m 3 (by omega)
     by_cases hb : m / 32 % 2 = 1
     ·have tb : (m / 32 % 2 == 1) = true := by simpa using hb
      have HN : Hid ((⟨(mdPre m 3).toArray⟩ ++ (⟨#[120, 119, 114]⟩ : ByteArray).extract 2 3 : ByteArray) = ⟨(mdPre m 4).toArray⟩) := Lib.hid (by
       rw [mdPre_step m 3, show mdCh m (8 - 3) = 114 from (by unfold mdCh; rw [if_pos (show (m / 2 ^ (8 - 3) % 2 = 1) from by simpa using hb)]; try rfl), ← ba_push]; try rfl)
      clear hb
      go_wp2
      go_roundw
      case rel => exact ⟨4, by omega, by rw [HN.out], by first | rfl | (go_num; done) | (simp; done), by first | rfl | trivial⟩
      case measure => simp [intOf]
     ·have tb : (m / 32 % 2 == 1) = false := by simpa using hb
      have HN : Hid ((⟨(mdPre m 3).toArray⟩ ++ ⟨#[45]⟩ : ByteArray) = ⟨(mdPre m 4).toArray⟩) := Lib.hid (by
       rw [mdPre_step m 3, show mdCh m (8 - 3) = 45 from (by unfold mdCh; rw [if_neg (show ¬ (m / 2 ^ (8 - 3) % 2 = 1) from by simpa using hb)]; try rfl), ← ba_push]; try rfl)
      clear hb
      go_wp2
      go_roundw
      case rel => exact ⟨4, by omega, by rw [HN.out], by first | rfl | (go_num; done) | (simp; done), by first | rfl | trivial⟩
      case measure => simp [intOf]
    ·have hl := mdPre_lim m 4 (by omega)
     by_cases hb : m / 16 % 2 = 1
     ·have tb : (m / 16 % 2 == 1) = true := by simpa using hb
      have HN : Hid ((⟨(mdPre m 4).toArray⟩ ++ (⟨#[120, 119, 114]⟩ : ByteArray).extract 1 2 : ByteArray) = ⟨(mdPre m 5).toArray⟩) := Lib.hid (by
       rw [mdPre_step m 4, show mdCh m (8 - 4) = 119 from (by unfold mdCh; rw [if_pos (show (m / 2 ^ (8 - 4) % 2 = 1) from by simpa using hb)]; try rfl), ← ba_push]; try rfl)
      clear hb
      go_wp2
      go_roundw
      case rel => exact ⟨5, by omega, by rw [HN.out], by first | rfl | (go_num; done) | (simp; done), by first | rfl | trivial⟩
      case measure => simp [intOf]
     ·have tb : (m / 16 % 2 == 1) = false := by simpa using hb
      have HN : Hid ((⟨(mdPre m 4).toArray⟩ ++ ⟨#[45]⟩ : ByteArray) = ⟨(mdPre m 5).toArray⟩) := Lib.hid (by
       rw [mdPre_step m 4, show mdCh m (8 - 4) = 45 from (by unfold mdCh; rw [if_neg (show ¬ (m / 2 ^ (8 - 4) % 2 = 1) from by simpa using hb)]; try rfl), ← ba_push]; try rfl)
      clear hb
      go_wp2
      go_roundw
      case rel => exact ⟨5, by omega, by rw [HN.out], by first | rfl | (go_num; done) | (simp; done), by first | rfl | trivial⟩
      case measure => simp [intOf]
    ·have hl := mdPre_lim m 5 (by omega)
     by_cases hb : m / 8 % 2 = 1
     ·have tb : (m / 8 % 2 == 1) = true := by simpa using hb
      have HN : Hid ((⟨(mdPre m 5).toArray⟩ ++ (⟨#[120, 119, 114]⟩ : ByteArray).extract 0 1 : ByteArray) = ⟨(mdPre m 6).toArray⟩) := Lib.hid (by
       rw [mdPre_step m 5, show mdCh m (8 - 5) = 120 from (by unfold mdCh; rw [if_pos (show (m / 2 ^ (8 - 5) % 2 = 1) from by simpa using hb)]; try rfl), ← ba_push]; try rfl)
      clear hb
      go_wp2
      go_roundw
      case rel => exact ⟨6, by omega, by rw [HN.out], by first | rfl | (go_num; done) | (simp; done), by first | rfl | trivial⟩
      case measure => simp [intOf]
     ·have tb : (m / 8 % 2 == 1) = false := by simpa using hb
      have HN : Hid ((⟨(mdPre m 5).toArray⟩ ++ ⟨#[45]⟩ : ByteArray) = ⟨(mdPre m 6).toArray⟩) := Lib.hid (by
       rw [mdPre_step m 5, show mdCh m (8 - 5) = 45 from (by unfold mdCh; rw [if_neg (show ¬ (m / 2 ^ (8 - 5) % 2 = 1) from by simpa using hb)]; try rfl), ← ba_push]; try rfl)
      clear hb
      go_wp2
      go_roundw
      case rel => exact ⟨6, by omega, by rw [HN.out], by first | rfl | (go_num; done) | (simp; done), by first | rfl | trivial⟩
      case measure => simp [intOf]
    ·have hl := mdPre_lim m 6 (by omega)
     by_cases hb : m / 4 % 2 = 1
     ·have tb : (m / 4 % 2 == 1) = true := by simpa using hb
      have HN : Hid ((⟨(mdPre m 6).toArray⟩ ++ (⟨#[120, 119, 114]⟩ : ByteArray).extract 2 3 : ByteArray) = ⟨(mdPre m 7).toArray⟩) := Lib.hid (by
       rw [mdPre_step m 6, show mdCh m (8 - 6) = 114 from (by unfold mdCh; rw [if_pos (show (m / 2 ^ (8 - 6) % 2 = 1) from by simpa using hb)]; try rfl), ← ba_push]; try rfl)
      clear hb
      go_wp2
      go_roundw
      case rel => exact ⟨7, by omega, by rw [HN.out], by first | rfl | (go_num; done) | (simp; done), by first | rfl | trivial⟩
      case measure => simp [intOf]
     ·have tb : (m / 4 % 2 == 1) = false := by simpa using hb
      have HN : Hid ((⟨(mdPre m 6).toArray⟩ ++ ⟨#[45]⟩ : ByteArray) = ⟨(mdPre m 7).toArray⟩) := Lib.hid (by
       rw [mdPre_step m 6, show mdCh m (8 - 6) = 45 from (by unfold mdCh; rw [if_neg (show ¬ (m / 2 ^ (8 - 6) % 2 = 1) from by simpa using hb)]; try rfl), ← ba_push]; try rfl)
      clear hb
      go_wp2
      go_roundw
      case rel => exact ⟨7, by omega, by rw [HN.out], by first | rfl | (go_num; done) | (simp; done), by first | rfl | trivial⟩
      case measure => simp [intOf]
    ·have hl := mdPre_lim m 7 (by omega)
     by_cases hb : m / 2 % 2 = 1
     ·have tb : (m / 2 % 2 == 1) = true := by simpa using hb
      have HN : Hid ((⟨(mdPre m 7).toArray⟩ ++ (⟨#[120, 119, 114]⟩ : ByteArray).extract 1 2 : ByteArray) = ⟨(mdPre m 8).toArray⟩) := Lib.hid (by
       rw [mdPre_step m 7, show mdCh m (8 - 7) = 119 from (by unfold mdCh; rw [if_pos (show (m / 2 ^ (8 - 7) % 2 = 1) from by simpa using hb)]; try rfl), ← ba_push]; try rfl)
      clear hb
      go_wp2
      go_roundw
      case rel => exact ⟨8, by omega, by rw [HN.out], by first | rfl | (go_num; done) | (simp; done), by first | rfl | trivial⟩
      case measure => simp [intOf]
     ·have tb : (m / 2 % 2 == 1) = false := by simpa using hb
      have HN : Hid ((⟨(mdPre m 7).toArray⟩ ++ ⟨#[45]⟩ : ByteArray) = ⟨(mdPre m 8).toArray⟩) := Lib.hid (by
       rw [mdPre_step m 7, show mdCh m (8 - 7) = 45 from (by unfold mdCh; rw [if_neg (show ¬ (m / 2 ^ (8 - 7) % 2 = 1) from by simpa using hb)]; try rfl), ← ba_push]; try rfl)
      clear hb
      go_wp2
      go_roundw
      case rel => exact ⟨8, by omega, by rw [HN.out], by first | rfl | (go_num; done) | (simp; done), by first | rfl | trivial⟩
      case measure => simp [intOf]
    ·have hl := mdPre_lim m 8 (by omega)
     by_cases hb : m % 2 = 1
     ·have tb : (m % 2 == 1) = true := by simpa using hb
      have HN : Hid ((⟨(mdPre m 8).toArray⟩ ++ (⟨#[120, 119, 114]⟩ : ByteArray).extract 0 1 : ByteArray) = ⟨(mdPre m 9).toArray⟩) := Lib.hid (by
       rw [mdPre_step m 8, show mdCh m (8 - 8) = 120 from (by unfold mdCh; rw [if_pos (show (m / 2 ^ (8 - 8) % 2 = 1) from by simpa using hb)]; try rfl), ← ba_push]; try rfl)
      clear hb
      go_wp2
      go_roundw
      case rel => exact ⟨9, by omega, by rw [HN.out], by first | rfl | (go_num; done) | (simp; done), by first | rfl | trivial⟩
      case measure => simp [intOf]
     ·have tb : (m % 2 == 1) = false := by simpa using hb
      have HN : Hid ((⟨(mdPre m 8).toArray⟩ ++ ⟨#[45]⟩ : ByteArray) = ⟨(mdPre m 9).toArray⟩) := Lib.hid (by
       rw [mdPre_step m 8, show mdCh m (8 - 8) = 45 from (by unfold mdCh; rw [if_neg (show ¬ (m / 2 ^ (8 - 8) % 2 = 1) from by simpa using hb)]; try rfl), ← ba_push]; try rfl)
      clear hb
      go_wp2
      go_roundw
      case rel => exact ⟨9, by omega, by rw [HN.out], by first | rfl | (go_num; done) | (simp; done), by first | rfl | trivial⟩
      case measure => simp [intOf]
def rdPre (l : List UInt8) (k : Nat) : Int := (l.take k).foldl (fun m c => 2 * m + if c = 45 then 0 else 1) 0
theorem rdPre_step {s : ByteArray} {k : Nat} (h : k < s.size) : rdPre s.data.toList (k + 1) = 2 * rdPre s.data.toList k + if s[k] = 45 then 0 else 1 := by
 have h' : k < s.data.toList.length := by rw [Array.length_toList]; exact h
 unfold rdPre
 rw [List.take_add_one, List.getElem?_eq_getElem h', Option.toList_some, List.foldl_append]
 rfl
theorem rdPre_bd (l : List UInt8) : ∀ k, 0 ≤ rdPre l k ∧ rdPre l k < 2 ^ k
 | 0 => by simp [rdPre]
 | k + 1 => by
  obtain ⟨h1, h2⟩ := rdPre_bd l k
  have e : (2 : Int) ^ (k + 1) = 2 * 2 ^ k := by rw [Int.pow_succ]; omega
  unfold rdPre at h1 h2 ⊢
  rw [List.take_add_one]
  cases l[k]? with
  | none => rw [Option.toList_none, List.append_nil]; omega
  | some c =>
   rw [Option.toList_some, List.foldl_append]
   simp only [List.foldl_cons, List.foldl_nil]
   split <;> omega
def rdL (l : List UInt8) : Int := rdPre l (min l.length 9) + if l.length = 10 then 512 else 0
def readMode (s : ByteArray) : Int × Bool := if (s.size = 9 ∨ s.size = 10) ∧ modeText (rdL s.data.toList) = s then (rdL s.data.toList, true) else (0, false)
theorem mode_all : ∀ q : Fin 1024, rdL (modeL (q.val : Int)) = (q.val : Int) ∧ ((modeL (q.val : Int)).length = 9 ∨ (modeL (q.val : Int)).length = 10) := by decide +kernel
theorem mode_back {m : Int} (h : inB m 0 1023 = true) : readMode (modeText m) = (m, true) := by
 obtain ⟨h0, h1⟩ := inB_iff.1 h
 have ha := mode_all ⟨m.toNat, by omega⟩
 simp only [show ((m.toNat : Nat) : Int) = m by omega] at ha
 have e : modeText m = ⟨(modeL m).toArray⟩ := by unfold modeText; rw [if_pos h]
 have ed : (modeText m).data.toList = modeL m := by rw [e]
 have es : (modeText m).size = (modeL m).length := by rw [e]; simp [ByteArray.size]
 unfold readMode
 rw [ed, ha.1, es, if_pos ⟨ha.2, rfl⟩]
theorem mode_none {s : ByteArray} (h : ∀ m, inB m 0 1023 = true → modeText m ≠ s) : readMode s = (0, false) := by
 unfold readMode
 rw [if_neg]
 rintro ⟨h1, h2⟩
 by_cases hb : inB (rdL s.data.toList) 0 1023 = true
 ·exact h _ hb h2
 ·unfold modeText at h2
  rw [if_neg hb] at h2
  rw [← h2] at h1
  rcases h1 with h1 | h1 <;> cases h1
end Go.Proofs.YtnibbldfohbfkaaGreatDoor
