/- Parts of one proof: each says below what it proves and on what conditions. -/
import Derived.Test.YtnibbldfohbfkaaGreatDoorMy19
import Derived.Test.YtnibbldfohbfkaaGreatDoorMy25
set_option linter.unusedVariables false
set_option linter.unusedSimpArgs false
/- Trees of one's own: contract of the reference's l9Clean: nodes that nobody names are taken away. Condition: rows of at most 2^20; all links but those of one node are right. -/
namespace Go.Proofs.YtnibbldfohbfkaaGreatDoor
open Go.RowKit
section
variable {β α : Type} {e nf : Nat} {enc : β → List Value} {P : Pin β α} {M : Nat → Prop} {w0 w : World} {R : List Pl}
theorem SepM.gMove {u u' : Value} {vs : List β} {T : List α} {p : Nat} (S : SepM M w0 w (plRow e nf enc u' (vs.eraseIdx p) :: plG e nf enc P u vs T :: R)) :
  SepM M w0 w (plG e nf enc P u' (vs.eraseIdx p) (T.eraseIdx p) :: R) := by
 obtain ⟨h1, h2, h3, h4, h5⟩ := S.at_ 1 rfl
 have hrow := S.at_ 0 rfl
 have hat : ∀ (l : Nat) (s : β), (vs.eraseIdx p)[l]? = some s → vs[if l < p then l else l + 1]? = some s := fun l s hs => by
  rw [era_at] at hs
  split <;> rename_i h
  ·rwa [if_pos h] at hs
  ·rwa [if_neg h] at hs
 have hatT : ∀ (l : Nat) (s : α), (T.eraseIdx p)[l]? = some s → T[if l < p then l else l + 1]? = some s := fun l s hs => by
  rw [era_at] at hs
  split <;> rename_i h
  ·rwa [if_pos h] at hs
  ·rwa [if_neg h] at hs
 have hsub : ∀ b, (plG e nf enc P u' (vs.eraseIdx p) (T.eraseIdx p)).own b → (plRow e nf enc u' (vs.eraseIdx p)).own b ∨ (plG e nf enc P u vs T).own b := fun b hb => by
  rcases hb with hb | ⟨s, hs, hb⟩
  ·exact .inl hb
  ·exact .inr (.inr ⟨s, (List.eraseIdx_sublist ..).subset hs, hb⟩)
 have hap := S.apart
 rw [List.pairwise_cons, List.pairwise_cons] at hap
 obtain ⟨a1, a2, a3⟩ := hap
 refine ⟨S.chg, S.small, fun q hq => ?_, fun q hq b hb => ?_, List.pairwise_cons.2 ⟨fun r hr b hb => ?_, a3⟩⟩
 ·rcases List.mem_cons.1 hq with rfl | hq
  ·refine ⟨hrow, by rw [List.length_eraseIdx, List.length_eraseIdx, h2], fun l s t hs ht => ?_, fun s hs b hb hb2 => ?_, fun l m s s' hlm hs hs' b hb hb' => ?_⟩
   ·exact h3 _ s t (hat l s hs) (hatT l t ht)
   ·exact a1 _ (List.mem_cons_self ..) b (show (plRow e nf enc u' (vs.eraseIdx p)).own b from hb2) (.inr ⟨s, (List.eraseIdx_sublist ..).subset hs, hb⟩)
   ·exact h5 _ _ s s' (fun e => hlm (by split at e <;> split at e <;> omega)) (hat l s hs) (hat m s' hs') b hb hb'
  ·exact S.ok q (List.mem_cons_of_mem _ (List.mem_cons_of_mem _ hq))
 ·rcases List.mem_cons.1 hq with rfl | hq
  ·rcases hsub b hb with h | h
   ·exact S.base _ (List.mem_cons_self ..) b h
   ·exact S.base _ (List.mem_cons_of_mem _ (List.mem_cons_self ..)) b h
  ·exact S.base q (List.mem_cons_of_mem _ (List.mem_cons_of_mem _ hq)) b hb
 ·rcases hsub b hb with h | h
  ·exact a1 r (List.mem_cons_of_mem _ hr) b h
  ·exact a2 r hr b h
end
def numL (p k n : Nat) : List Int := (List.range n).map (fun j => if j < k then renum p (j : Int) else 0)
theorem numL_len (p k n : Nat) : (numL p k n).length = n := by simp [numL]
theorem numL_zero (p n : Nat) : numL p 0 n = List.replicate n (0 : Int) := by
 apply List.ext_getElem?
 intro j
 simp only [numL, List.getElem?_map, List.getElem?_replicate]
 by_cases hj : j < n
 ·rw [List.getElem?_range hj, if_pos hj]; simp
 ·rw [if_neg hj, List.getElem?_eq_none (by simpa using hj)]; rfl
theorem numL_set {p k n : Nat} : (numL p k n).set k (renum p (k : Int)) = numL p (k + 1) n := by
 apply List.ext_getElem?
 intro j
 by_cases hj : j < n
 ·by_cases e : k = j
  ·subst e
   rw [List.getElem?_set_self (by rw [numL_len]; exact hj)]
   simp only [numL, List.getElem?_map, List.getElem?_range hj]
   simp
  ·rw [List.getElem?_set_ne e]
   simp only [numL, List.getElem?_map, List.getElem?_range hj, Option.map_some]
   by_cases h1 : j < k
   ·rw [if_pos h1, if_pos (by omega)]
   ·rw [if_neg h1, if_neg (by omega)]
 ·rw [List.getElem?_eq_none (by rw [List.length_set, numL_len]; omega), List.getElem?_eq_none (by rw [numL_len]; omega)]
theorem numL_get {p n j : Nat} (hj : j < n) : (numL p n n)[j]? = some (renum p (j : Int)) := by
 simp only [numL, List.getElem?_map, List.getElem?_range hj, Option.map_some]
 rw [if_pos hj]
theorem era_num {α : Type} {l : List α} {p k : Nat} (hk : k ≤ l.length) : (((l.take k).eraseIdx p).length : Int) = renum p (k : Int) := by
 rw [List.length_eraseIdx, List.length_take, Nat.min_eq_left hk]
 unfold renum
 split
 ·rw [if_pos (by omega)]; omega
 ·rw [if_neg (by omega)]
theorem renNd_same {p : Nat} {x : Nd} (h : ∀ y ∈ x.K, y ≤ (p : Int)) : renNd p x = x := by
 have : x.K.map (renum p) = x.K := by
  conv => rhs; rw [← List.map_id x.K]
  exact List.map_congr_left (fun y hy => by unfold renum; rw [if_neg (by have := h y hy; omega)]; rfl)
 unfold renNd
 rw [this]
set_option maxRecDepth 10000 in
set_option maxHeartbeats 32000000 in
theorem specClean {W0 w : World} {H : List Pl} {g cap : Nat} {vs : List Nc} {T : List Nd} (S : Sep W0 w (plNd (.slice (some ⟨g, 0, none⟩) T.length cap) vs T :: H)) {kid : Nat} (hA : AlmostOk T kid) (hk1 : 1 ≤ kid) (hkT : kid < T.length) (hT : ∀ x ∈ T, SmN 1048576 x) :
  Calls Tryz.prog 73 #[.slice (some ⟨g, 0, none⟩) T.length cap] w (fun e w' => ∃ u' vs', e = .returned u' ∧ Sep W0 w' (plNd u' vs' (if 0 < (kids T).count (kid : Int) then T else (T.eraseIdx kid).map (renNd kid)) :: H)) := by
 obtain ⟨i0, hinfo, hz0, hz1, hz2⟩ := info_parts infoInt
 have HA := Lib.hid hA
 have HT := Lib.hid hT
 have hmax := hA.max
 have hpos := hA.pos
 obtain ⟨p, hp⟩ : ∃ p, p = if 0 < (kids T).count (kid : Int) then T.length else kid := ⟨_, rfl⟩
 have hp1 : 1 ≤ p := by rw [hp]; split <;> omega
 have HSel : Hid (∀ k, k < T.length → ((k = 0 ∨ 0 < (kids T).count (k : Int)) ↔ k ≠ p)) := Lib.hid (fun k hk => by
  by_cases hc : 0 < (kids T).count (kid : Int)
  ·rw [if_pos hc] at hp
   refine ⟨fun _ => by omega, fun _ => ?_⟩
   by_cases h0 : k = 0
   ·exact .inl h0
   ·by_cases hkk : k = kid
    ·rw [hkk]; exact .inr hc
    ·exact .inr (hA.links k T[k] (List.getElem?_eq_getElem hk) (by omega) hkk).1
  ·rw [if_neg hc] at hp
   refine ⟨fun h => ?_, fun h => ?_⟩
   ·rcases h with h | h
    ·omega
    ·intro e; rw [e, hp] at h; exact hc h
   ·by_cases h0 : k = 0
    ·exact .inl h0
    ·exact .inr (hA.links k T[k] (List.getElem?_eq_getElem hk) (by omega) (by omega)).1)
 have HR : Hid ((if 0 < (kids T).count (kid : Int) then T else (T.eraseIdx kid).map (renNd kid)) = (T.eraseIdx p).map (renNd p)) := Lib.hid (by
  by_cases hc : 0 < (kids T).count (kid : Int)
  ·rw [if_pos hc] at hp ⊢
   rw [List.eraseIdx_of_length_le (by omega)]
   conv => lhs; rw [← List.map_id T]
   refine List.map_congr_left (fun x hx => ?_)
   obtain ⟨j, hj⟩ := List.getElem?_of_mem hx
   refine (renNd_same (fun y hy => ?_)).symm
   have := inB_iff.1 (nodeOk_kid (hA.nodes j x hj) hy)
   omega
  ·rw [if_neg hc] at hp ⊢
   rw [hp])
 rw [HR.out]
 have HKd : Hid (∀ (k : Nat) x, T[k]? = some x → ∀ y ∈ x.K, 1 ≤ y ∧ y < T.length) := Lib.hid (fun k x hx y hy => by
  have := inB_iff.1 (nodeOk_kid (hA.nodes k x hx) hy)
  omega)
 clear HR hp hA hT
 have hvl := plG_len (S.at_ 0 rfl)
 have HLk := Lib.hid (fun h => (specLinksOf (some ⟨g, 0, none⟩) cap T w (by omega) HT.out h))
 have hrd := S.rdN 0 rfl
 go_enter Tryz.func73, Tryz.ntmps73
 go_wp2_with fail
 refine (HLk.out hrd).mono ?_
 rintro e w1 ⟨v, rfl, ⟨L, hoL, hLR⟩, hE1⟩
 obtain rfl := links_almost HA.out hLR
 have S1 := (S.step hE1)
 have S2 : Sep W0 w1 (plRow 3 1 encInt1 v (cntL T.length (kids T)) :: plNd (.slice (some ⟨g, 0, none⟩) T.length cap) vs T :: H) := S.owned hE1 (Nat.le_refl _) hoL
 obtain ⟨la, lc, rfl, _, _, _⟩ := view_owns encInt1_len hoL
 have hll : (cntL T.length (kids T)).length = T.length := cntL_len _ _
 have HLL := Lib.hid hll
 have HS2 := Lib.hid S2
 clear S S1 S2 hoL hLR hE1 HLk hrd hll
 go_wp2_with (at_make; refine wpList_make_full _ rfl _ _ 86 rfl w1.heap.size 3 i0 _ 1 Tryz.underlying86 hinfo hz0 hz1 _ _ _ _ T.length rfl rfl rfl rfl ?b1 ?b2 ?b3 ?_)
 case b1 => rw [hz2]; omega
 case b2 => unfold maxLen; omega
 case b3 => exact Nat.le_refl _
 intro w2 hown2 hgr2
 have hEm := ext_of_grown hgr2
 have ho2 : w2.ownsRow w1.heap.size 3 1 (.slice (some ⟨w1.heap.size, 0, none⟩) T.length T.length) (numL p 0 T.length).length ((numL p 0 T.length).flatMap encInt1) := by rw [numL_len, numL_zero, ← madeInt]; exact hown2
 have S3 := (HS2.out.owned hEm (Nat.le_refl _) ho2).lit0 (n := w2.heap.size) rfl 89 7 encNc
 have HS3 := Lib.hid S3
 clear hown2 hgr2 hEm ho2 S3 HS2
 generalize w1.heap.size = gn at *
 go_upto_region 4 with fail
 have HS4 : Hid (∃ (ao : Option Addr) (co : Nat) (G : List Nc), (.slice (some ⟨w2.heap.size, 0, none⟩) 0 0 : Value) = .slice ao G.length co ∧ G = (vs.take 0).eraseIdx p ∧ Sep W0 (w2.alloc (.cells #[] 89)) (plRow 89 7 encNc (.slice ao G.length co) G :: plRow 3 1 encInt1 (.slice (some ⟨gn, 0, none⟩) T.length T.length) (numL p 0 T.length) :: plRow 3 1 encInt1 (.slice la (cntL T.length (kids T)).length lc) (cntL T.length (kids T)) :: plNd (.slice (some ⟨g, 0, none⟩) T.length cap) vs T :: H)) := Lib.hid ⟨_, 0, [], rfl, by simp, HS3.out⟩
 clear HS3
 generalize w2.alloc (.cells #[] 89) = w3 at *
 generalize w2.heap.size = B0 at *
 go_wp2
 go_loopw [5, 6] (fun o i wr => ∃ (k : Nat) (ao : Option Addr) (co : Nat) (G : List Nc), k ≤ T.length ∧ i = .int .i64 k ∧ o = .slice ao G.length co ∧ G = (vs.take k).eraseIdx p ∧ Sep W0 wr (plRow 89 7 encNc (.slice ao G.length co) G :: plRow 3 1 encInt1 (.slice (some ⟨gn, 0, none⟩) T.length T.length) (numL p k T.length) :: plRow 3 1 encInt1 (.slice la (cntL T.length (kids T)).length lc) (cntL T.length (kids T)) :: plNd (.slice (some ⟨g, 0, none⟩) T.length cap) vs T :: H)) (fun _ i _ => T.length - (intOf i).toNat)
 case atStart =>
  obtain ⟨ao, co, G, h1, h2, h3⟩ := HS4.out
  exact ⟨0, ao, co, G, Nat.zero_le _, rfl, h1, h2, h3⟩
 case round =>
  clear HS4
  obtain ⟨k, ao, co, G, hk, rfl, rfl, hG, S⟩ := hrel
  have HG := Lib.hid hG
  clear hG
  by_cases hlt : k < T.length
  ·have i0 : (k : Int) < (T.length : Int) := by omega
   have hsl := HSel.out k hlt
   have e1 : (numL p k T.length).set k (G.length : Int) = numL p (k + 1) T.length := by rw [HG.out, era_num (by omega), numL_set]
   have SM := S.rowSet 1 encInt1_len rfl (numL_len ..).symm k 0 (.int .i64 (G.length : Int)) (G.length : Int) (by rw [numL_len]; omega) (by omega) rfl
   rw [Nat.mul_one, Nat.add_zero] at SM
   have SM2 : Sep W0 (wr.setCell ⟨gn, k, none⟩ (.int .i64 (G.length : Int))) (plRow 89 7 encNc (.slice ao G.length co) G :: plRow 3 1 encInt1 (.slice (some ⟨gn, 0, none⟩) T.length T.length) (numL p (k + 1) T.length) :: plRow 3 1 encInt1 (.slice la (cntL T.length (kids T)).length lc) (cntL T.length (kids T)) :: plNd (.slice (some ⟨g, 0, none⟩) T.length cap) vs T :: H) := by rw [← e1]; exact SM
   have f0 := S.row 1 rfl
   rw [numL_len] at f0
   obtain ⟨hs1, f1⟩ := owns_there f0 k (by omega)
   obtain ⟨v0, hv0⟩ := Option.isSome_iff_exists.1 hs1
   clear f0 hs1
   have HSM := Lib.hid SM2
   clear SM SM2 S e1
   go_upto_region 8 with fail
   clear f1 hv0
   have S := HSM.out
   clear HSM
   generalize wr.setCell ⟨gn, k, none⟩ (.int .i64 (G.length : Int)) = wA at *
   obtain ⟨y, bl, ol, hyl, rfl, dl⟩ := atInt (S.rd 2 encInt1_len rfl rfl) (show k < (cntL T.length (kids T)).length by have := HLL.out; omega)
   obtain rfl : y = ((kids T).count (k : Int) : Int) := Option.some.inj (hyl.symm.trans (cntL_get hlt))
   have il : (k : Int) < ((cntL T.length (kids T)).length : Int) := by have := HLL.out; omega
   clear hyl
   by_cases h0 : k = 0
   ·have hsel : k ≠ p := hsl.1 (.inl h0)
    have t0 : ((k : Int) == 0) = true := by simp; omega
    clear hsl h0
    have hxk : T[k]? = some T[k] := List.getElem?_eq_getElem hlt
    obtain ⟨c, g', cap', hu, _, hck0, hcn0, hcell, _, _, _, _, _, _, _⟩ := S.ndAt 3 rfl hxk
    obtain ⟨rfl, rfl⟩ : g = g' ∧ cap = cap' := by simp only [Value.slice.injEq, Option.some.injEq, Addr.mk.injEq, and_true, true_and] at hu; exact ⟨hu.1, hu.2⟩
    obtain ⟨x, an, cn, ak, ck⟩ := c
    have c0 : wA.cell? ⟨g, k * 7, none⟩ = some (.bool x.fold) := hcell 0 _ rfl
    have c1 : wA.cell? ⟨g, k * 7 + 1, none⟩ = some (.int .i64 x.own) := hcell 1 _ rfl
    have c2 : wA.cell? ⟨g, k * 7 + 2, none⟩ = some (.int .i64 x.grp) := hcell 2 _ rfl
    have c3 : wA.cell? ⟨g, k * 7 + 3, none⟩ = some (.int .i64 x.mode) := hcell 3 _ rfl
    have c4 : wA.cell? ⟨g, k * 7 + 4, none⟩ = some (.string x.text) := hcell 4 _ rfl
    have c5 : wA.cell? ⟨g, k * 7 + 5, none⟩ = some (.slice an x.N.length cn) := hcell 5 _ rfl
    have c6 : wA.cell? ⟨g, k * 7 + 6, none⟩ = some (.slice ak x.K.length ck) := hcell 6 _ rfl
    have HGn : Hid (G ++ [(⟨x, an, cn, ak, ck⟩ : Nc)] = (vs.take (k + 1)).eraseIdx p) := Lib.hid (by rw [HG.out]; exact era_push hck0 hsel)
    have hGl : G.length ≤ 16 := by rw [HG.out]; exact Nat.le_trans era_lenT (by omega)
    clear hcell hu hcn0 hck0 hxk
    have SA := S.alloc #[.bool x.fold, .int .i64 x.own, .int .i64 x.grp, .int .i64 x.mode, .string x.text, .slice an x.N.length cn, .slice ak x.K.length ck] 89
    have rd1 : Rd 7 encNc (wA.alloc (.cells #[.bool x.fold, .int .i64 x.own, .int .i64 x.grp, .int .i64 x.mode, .string x.text, .slice an x.N.length cn, .slice ak x.K.length ck] 89)) (some ⟨wA.heap.size, 0, none⟩) [(⟨x, an, cn, ak, ck⟩ : Nc)] := rd_lit_new [(⟨x, an, cn, ak, ck⟩ : Nc)] encNc_len rfl
    have HSA := Lib.hid SA
    clear SA S
    go_wp2_with (at_builtin; refine Hid.out (?_ : Hid _))
    unfold Hid
    refine wpList_append_b rfl _ _ 28 rfl W0.heap.size 89 _ 7 _ Tryz.underlying28 infoNd rfl (by decide) encNc_len encNc_one _ G.length G rfl (HSA.out.row 1 rfl) rfl (some ⟨wA.heap.size, 0, none⟩) 1 1 [(⟨x, an, cn, ak, ck⟩ : Nc)] rfl rfl rd1 (by omega) (by omega) HSA.out.chg.size ?_
    intro v7 w7 ho hgr hblk
    obtain ⟨a7, c7, hv7, _, _, _⟩ := view_owns encNc_len ho
    subst hv7
    have SM := (HSA.out.grow 1 rfl hgr ho hblk).drop 0
    have SM2 : Sep W0 w7 (plRow 89 7 encNc (.slice a7 (G ++ [(⟨x, an, cn, ak, ck⟩ : Nc)]).length c7) (G ++ [(⟨x, an, cn, ak, ck⟩ : Nc)]) :: plRow 3 1 encInt1 (.slice (some ⟨gn, 0, none⟩) T.length T.length) (numL p (k + 1) T.length) :: plRow 3 1 encInt1 (.slice (some ⟨bl, ol, none⟩) (cntL T.length (kids T)).length lc) (cntL T.length (kids T)) :: plNd (.slice (some ⟨g, 0, none⟩) T.length cap) vs T :: H) := SM
    have HSM := Lib.hid SM2
    clear ho hgr hblk rd1 SM SM2 HSA c0 c1 c2 c3 c4 c5 c6 dl
    obtain ⟨G2, hG2⟩ : ∃ G2, G2 = G ++ [(⟨x, an, cn, ak, ck⟩ : Nc)] := ⟨_, rfl⟩
    rw [← hG2] at HSM HGn ⊢
    clear hG2
    go_wp2
    go_roundw
    case rel => exact ⟨k + 1, a7, c7, G2, by omega, by go_num, rfl, HGn.out, HSM.out⟩
    case measure => simp [intOf]; omega
   ·by_cases hc : 0 < (kids T).count (k : Int)
    ·have hsel : k ≠ p := hsl.1 (.inr hc)
     have t0 : ((k : Int) == 0) = false := by simp; omega
     have hci : (0 : Int) < ((kids T).count (k : Int) : Int) := by omega
     clear hsl hc h0
     generalize (kids T).count (k : Int) = cnt at *
     have hxk : T[k]? = some T[k] := List.getElem?_eq_getElem hlt
     obtain ⟨c, g', cap', hu, _, hck0, hcn0, hcell, _, _, _, _, _, _, _⟩ := S.ndAt 3 rfl hxk
     obtain ⟨rfl, rfl⟩ : g = g' ∧ cap = cap' := by simp only [Value.slice.injEq, Option.some.injEq, Addr.mk.injEq, and_true, true_and] at hu; exact ⟨hu.1, hu.2⟩
     obtain ⟨x, an, cn, ak, ck⟩ := c
     have c0 : wA.cell? ⟨g, k * 7, none⟩ = some (.bool x.fold) := hcell 0 _ rfl
     have c1 : wA.cell? ⟨g, k * 7 + 1, none⟩ = some (.int .i64 x.own) := hcell 1 _ rfl
     have c2 : wA.cell? ⟨g, k * 7 + 2, none⟩ = some (.int .i64 x.grp) := hcell 2 _ rfl
     have c3 : wA.cell? ⟨g, k * 7 + 3, none⟩ = some (.int .i64 x.mode) := hcell 3 _ rfl
     have c4 : wA.cell? ⟨g, k * 7 + 4, none⟩ = some (.string x.text) := hcell 4 _ rfl
     have c5 : wA.cell? ⟨g, k * 7 + 5, none⟩ = some (.slice an x.N.length cn) := hcell 5 _ rfl
     have c6 : wA.cell? ⟨g, k * 7 + 6, none⟩ = some (.slice ak x.K.length ck) := hcell 6 _ rfl
     have HGn : Hid (G ++ [(⟨x, an, cn, ak, ck⟩ : Nc)] = (vs.take (k + 1)).eraseIdx p) := Lib.hid (by rw [HG.out]; exact era_push hck0 hsel)
     have hGl : G.length ≤ 16 := by rw [HG.out]; exact Nat.le_trans era_lenT (by omega)
     clear hcell hu hcn0 hck0 hxk
     have SA := S.alloc #[.bool x.fold, .int .i64 x.own, .int .i64 x.grp, .int .i64 x.mode, .string x.text, .slice an x.N.length cn, .slice ak x.K.length ck] 89
     have rd1 : Rd 7 encNc (wA.alloc (.cells #[.bool x.fold, .int .i64 x.own, .int .i64 x.grp, .int .i64 x.mode, .string x.text, .slice an x.N.length cn, .slice ak x.K.length ck] 89)) (some ⟨wA.heap.size, 0, none⟩) [(⟨x, an, cn, ak, ck⟩ : Nc)] := rd_lit_new [(⟨x, an, cn, ak, ck⟩ : Nc)] encNc_len rfl
     have HSA := Lib.hid SA
     clear SA S
     go_wp2_with (at_builtin; refine Hid.out (?_ : Hid _))
     unfold Hid
     refine wpList_append_b rfl _ _ 28 rfl W0.heap.size 89 _ 7 _ Tryz.underlying28 infoNd rfl (by decide) encNc_len encNc_one _ G.length G rfl (HSA.out.row 1 rfl) rfl (some ⟨wA.heap.size, 0, none⟩) 1 1 [(⟨x, an, cn, ak, ck⟩ : Nc)] rfl rfl rd1 (by omega) (by omega) HSA.out.chg.size ?_
     intro v7 w7 ho hgr hblk
     obtain ⟨a7, c7, hv7, _, _, _⟩ := view_owns encNc_len ho
     subst hv7
     have SM := (HSA.out.grow 1 rfl hgr ho hblk).drop 0
     have SM2 : Sep W0 w7 (plRow 89 7 encNc (.slice a7 (G ++ [(⟨x, an, cn, ak, ck⟩ : Nc)]).length c7) (G ++ [(⟨x, an, cn, ak, ck⟩ : Nc)]) :: plRow 3 1 encInt1 (.slice (some ⟨gn, 0, none⟩) T.length T.length) (numL p (k + 1) T.length) :: plRow 3 1 encInt1 (.slice (some ⟨bl, ol, none⟩) (cntL T.length (kids T)).length lc) (cntL T.length (kids T)) :: plNd (.slice (some ⟨g, 0, none⟩) T.length cap) vs T :: H) := SM
     have HSM := Lib.hid SM2
     clear ho hgr hblk rd1 SM SM2 HSA c0 c1 c2 c3 c4 c5 c6 dl
     obtain ⟨G2, hG2⟩ : ∃ G2, G2 = G ++ [(⟨x, an, cn, ak, ck⟩ : Nc)] := ⟨_, rfl⟩
     rw [← hG2] at HSM HGn ⊢
     clear hG2
     go_wp2
     go_roundw
     case rel => exact ⟨k + 1, a7, c7, G2, by omega, by go_num, rfl, HGn.out, HSM.out⟩
     case measure => simp [intOf]; omega
    ·have hsel : k = p := Classical.byContradiction (fun h => (hsl.2 h).elim h0 hc)
     have t0 : ((k : Int) == 0) = false := by simp; omega
     have hci : ¬ (0 : Int) < ((kids T).count (k : Int) : Int) := by omega
     have hkv : vs[k]? = some vs[k] := List.getElem?_eq_getElem (by omega)
     have HGn : Hid (G = (vs.take (k + 1)).eraseIdx p) := Lib.hid (by rw [HG.out, ← hsel]; exact era_skipT hkv)
     have HS := Lib.hid S
     clear hsl hc h0 hsel hkv S
     generalize (kids T).count (k : Int) = cnt at *
     go_wp2
     go_roundw
     case rel => exact ⟨k + 1, ao, co, G, by omega, by go_num, rfl, HGn.out, HS.out⟩
     case measure => simp [intOf]; omega
  ·obtain rfl : k = T.length := by omega
   have hni : ¬ (T.length : Int) < (T.length : Int) := by omega
   have eG : G = vs.eraseIdx p := by rw [HG.out, ← hvl, List.take_length]
   subst eG
   have S5 : Sep W0 wr (plNd (.slice ao (vs.eraseIdx p).length co) (vs.eraseIdx p) (T.eraseIdx p) :: plRow 3 1 encInt1 (.slice (some ⟨gn, 0, none⟩) T.length T.length) (numL p T.length T.length) :: plRow 3 1 encInt1 (.slice la (cntL T.length (kids T)).length lc) (cntL T.length (kids T)) :: H) := (S.perm (List.Perm.cons _ ((List.Perm.cons _ (List.Perm.swap ..)).trans (List.Perm.swap ..)))).gMove
   have hle : (vs.eraseIdx p).length = (T.eraseIdx p).length := by rw [List.length_eraseIdx, List.length_eraseIdx, hvl]
   have h2p : 0 < (T.eraseIdx p).length := by rw [List.length_eraseIdx]; split <;> omega
   have h2m : (T.eraseIdx p).length ≤ 16 := Nat.le_trans (List.eraseIdx_sublist ..).length_le hmax
   have HT2 : Hid (∀ y ∈ T.eraseIdx p, SmN 1048576 y ∧ ∀ q ∈ y.K, 1 ≤ q ∧ q < T.length) := Lib.hid (fun y hy => by
    have hy' := (List.eraseIdx_sublist ..).subset hy
    obtain ⟨l, hl⟩ := List.getElem?_of_mem hy'
    exact ⟨HT.out y hy', HKd.out l y hl⟩)
   rw [hle] at S5 ⊢
   obtain ⟨g2, rfl⟩ : ∃ g2, ao = some ⟨g2, 0, none⟩ := by
    have h := S5.gRow 0 rfl
    rw [hle] at h
    obtain ⟨g2, h2⟩ := row_blk encNc_len (by rw [hle]; exact h) (by omega)
    exact ⟨g2, h2⟩
   have HS5 := Lib.hid S5
   clear S S5 HG HSel hle hvl
   generalize vs.eraseIdx p = v2 at *
   generalize hT2e : T.eraseIdx p = T2 at *
   have HT2e := Lib.hid hT2e
   clear hT2e
   go_wp2
   obtain ⟨RL, hRL⟩ : ∃ RL, RL = plRow 3 1 encInt1 (.slice (some ⟨gn, 0, none⟩) T.length T.length) (numL p T.length T.length) :: plRow 3 1 encInt1 (.slice la (cntL T.length (kids T)).length lc) (cntL T.length (kids T)) :: H := ⟨_, rfl⟩
   have hR0 : RL[0]? = some (plRow 3 1 encInt1 (.slice (some ⟨gn, 0, none⟩) T.length T.length) (numL p T.length T.length)) := by rw [hRL]; rfl
   have HRL := Lib.hid hRL
   rw [← hRL] at HS5
   clear hRL
   go_loopw [7, 8] (fun ix _ wz => ∃ (q : Nat) (v3 : List Nc), q ≤ T2.length ∧ ix = .int .i64 q ∧ Sep W0 wz (plNd (.slice (some ⟨g2, 0, none⟩) T2.length co) v3 (mapMix (renNd p) T2 q) :: RL)) (fun ix _ _ => T2.length - (intOf ix).toNat)
   case atStart => exact ⟨0, v2, Nat.zero_le _, rfl, by rw [mm_zero]; exact HS5.out⟩
   case round =>
    clear HS5
    obtain ⟨q, v3, hq, rfl, S⟩ := hrel
    by_cases hlt2 : q < T2.length
    rotate_left
    ·obtain rfl : q = T2.length := by omega
     have hni2 : ¬ (T2.length : Int) < (T2.length : Int) := by omega
     rw [mm_full, HRL.out] at S
     have HS := Lib.hid (S.keep (plNd (.slice (some ⟨g2, 0, none⟩) T2.length co) v3 (T2.map (renNd p)) :: H) (List.Sublist.cons_cons _ (List.Sublist.cons _ (List.Sublist.cons _ (List.Sublist.refl _)))))
     clear S
     go_wp2
     go_ret
     first | exact ⟨_, v3, rfl, by rw [HT2e.out]; exact HS.out⟩ | exact ⟨_, rfl, v3, by rw [HT2e.out]; exact HS.out⟩
    ·obtain ⟨x2, hx2⟩ : ∃ x2, T2[q]? = some x2 := ⟨_, List.getElem?_eq_getElem hlt2⟩
     have Hx2 := Lib.hid hx2
     have hxm : (mapMix (renNd p) T2 q)[q]? = some x2 := by rw [mm_at (by omega)]; exact hx2
     obtain ⟨c, g', cap', hu, _, hck, hcn, hcell, _, _, hsk, _, hckl, hrN, hrK⟩ := S.ndAt 0 (u := .slice (some ⟨g2, 0, none⟩) T2.length co) rfl hxm
     obtain ⟨rfl, rfl⟩ : g2 = g' ∧ co = cap' := by simp only [Value.slice.injEq, Option.some.injEq, Addr.mk.injEq, and_true, true_and] at hu; exact ⟨hu.1, hu.2.2⟩
     obtain ⟨x2', an2, cn2, ak2, ck2⟩ := c
     dsimp only at hcn hckl hsk hrK
     subst hcn
     obtain ⟨x2, hxx⟩ : ∃ z, z = x2' := ⟨_, rfl⟩
     subst hxx
     have HK16 := Lib.hid (HT2.out x2 (List.mem_of_getElem? hx2)).2
     have hKl : x2.K.length ≤ 1048576 := (HT2.out x2 (List.mem_of_getElem? hx2)).1.2.2.2
     have iq : (q : Int) < (T2.length : Int) := by omega
     have HSk := Lib.hid hsk
     have Hm := Lib.hid hxm
     have Hcl := Lib.hid hckl
     have HSB : Hid (∃ v4 : List Nc, v4[q]? = some ⟨kidNd x2 (mapMix (renum p) x2.K 0), an2, cn2, ak2, ck2⟩ ∧ Sep W0 wr (plNd (.slice (some ⟨g2, 0, none⟩) T2.length co) v4 ((mapMix (renNd p) T2 q).set q (kidNd x2 (mapMix (renum p) x2.K 0))) :: RL)) := Lib.hid ⟨v3, by rw [mm_zero]; exact hck, by
      rw [mm_zero]
      have e : (mapMix (renNd p) T2 q).set q (kidNd x2 x2.K) = mapMix (renNd p) T2 q := by
       apply List.ext_getElem?
       intro j
       by_cases hj : q = j
       ·subst hj; rw [List.getElem?_set_self (List.getElem?_eq_some_iff.1 Hm.out).1, Hm.out]; rfl
       ·rw [List.getElem?_set_ne hj]
      rw [e]; exact S⟩
     clear hcell hu hck hrN hrK hx2 hxm S hsk hckl
     go_wp2
     go_loopw [8] (fun jx wz => ∃ (j : Nat) (v4 : List Nc), j ≤ x2.K.length ∧ jx = .int .i64 j ∧ v4[q]? = some ⟨kidNd x2 (mapMix (renum p) x2.K j), an2, cn2, ak2, ck2⟩ ∧ Sep W0 wz (plNd (.slice (some ⟨g2, 0, none⟩) T2.length co) v4 ((mapMix (renNd p) T2 q).set q (kidNd x2 (mapMix (renum p) x2.K j))) :: RL)) (fun jx _ => x2.K.length - (intOf jx).toNat)
     case atStart =>
      obtain ⟨v4, h1, h2⟩ := HSB.out
      exact ⟨0, v4, Nat.zero_le _, rfl, h1, h2⟩
     case round =>
      clear HSB
      obtain ⟨j, v4, hj, rfl, hc4, S⟩ := hrel
      have hqm : q < (mapMix (renNd p) T2 q).length := (List.getElem?_eq_some_iff.1 Hm.out).1
      have hx4 : ((mapMix (renNd p) T2 q).set q (kidNd x2 (mapMix (renum p) x2.K j)))[q]? = some (kidNd x2 (mapMix (renum p) x2.K j)) := List.getElem?_set_self hqm
      have hml : (mapMix (renum p) x2.K j).length = x2.K.length := mm_len (by omega)
      obtain ⟨c5, g5, cap5, hu5, _, hck5, _, hcell5, _, _, _, _, _, _, hrK5⟩ := S.ndAt 0 (u := .slice (some ⟨g2, 0, none⟩) T2.length co) rfl hx4
      obtain ⟨rfl, rfl⟩ : g2 = g5 ∧ co = cap5 := by simp only [Value.slice.injEq, Option.some.injEq, Addr.mk.injEq, and_true, true_and] at hu5; exact ⟨hu5.1, hu5.2.2⟩
      obtain rfl : c5 = ⟨kidNd x2 (mapMix (renum p) x2.K j), an2, cn2, ak2, ck2⟩ := Option.some.inj (hck5.symm.trans hc4)
      have c6 : wr.cell? ⟨g2, q * 7 + 6, none⟩ = some (.slice ak2 x2.K.length ck2) := by
       have h := hcell5 6 (.slice ak2 (mapMix (renum p) x2.K j).length ck2) rfl
       rw [hml] at h
       exact h
      clear hcell5 hu5
      by_cases hjl : j < x2.K.length
      rotate_left
      ·obtain rfl : j = x2.K.length := by omega
       have hni3 : ¬ (x2.K.length : Int) < (x2.K.length : Int) := by omega
       have S5 : Sep W0 wr (plNd (.slice (some ⟨g2, 0, none⟩) T2.length co) v4 (mapMix (renNd p) T2 (q + 1)) :: RL) := by
        have h := S
        rw [mm_full] at h
        have e := mm_set (f := renNd p) Hx2.out
        rw [← e]
        exact h
       have HS5 := Lib.hid S5
       clear S S5 hx4 hc4 hck5 hrK5 hml
       go_wp2
       go_roundw
       case rel => exact ⟨q + 1, v4, by omega, by go_num, HS5.out⟩
       case measure => simp [intOf]; omega
      ·obtain ⟨y, hy⟩ : ∃ y, x2.K[j]? = some y := ⟨_, List.getElem?_eq_getElem hjl⟩
       have hym : (mapMix (renum p) x2.K j)[j]? = some y := by rw [mm_at (by omega)]; exact hy
       obtain ⟨y', bk2, ok2, hy', hbk2, dk2⟩ := atInt hrK5 (show j < (kidNd x2 (mapMix (renum p) x2.K j)).K.length by show j < (mapMix (renum p) x2.K j).length; omega)
       obtain rfl : y = y' := Option.some.inj (hym.symm.trans hy')
       have hak : ∃ gk2, ak2 = some ⟨gk2, 0, none⟩ := by
        rcases HSk.out with ⟨h1, h2, h3⟩ | ⟨g2, h2⟩
        ·have := Hcl.out
         omega
        ·exact ⟨g2, h2⟩
       obtain ⟨gk2, rfl⟩ := hak
       obtain ⟨rfl, rfl⟩ : gk2 = bk2 ∧ 0 = ok2 := by simpa using hbk2
       rw [Nat.zero_add] at dk2
       have iji : (j : Int) < (x2.K.length : Int) := by omega
       have hy16 := HK16.out y (List.mem_of_getElem? hy)
       obtain ⟨m, rfl⟩ : ∃ m : Nat, y = (m : Int) := ⟨y.toNat, by omega⟩
       obtain ⟨ym, bm, om, hym2, hbm, dm⟩ := atInt (S.rd 1 encInt1_len (a := some ⟨gn, 0, none⟩) (cap := T.length) (n := T.length) (l := numL p T.length T.length) (by rw [List.getElem?_cons_succ]; exact hR0) (numL_len ..).symm) (show m < (numL p T.length T.length).length by rw [numL_len]; omega)
       obtain ⟨rfl, rfl⟩ : gn = bm ∧ 0 = om := by simpa using hbm
       rw [Nat.zero_add] at dm
       obtain rfl : ym = renum p (m : Int) := Option.some.inj (hym2.symm.trans (numL_get (by omega)))
       have im : (m : Int) < (T.length : Int) := by omega
       have HSp := Lib.hid S
       have Hx4 := Lib.hid hx4
       have Hc4 := Lib.hid hc4
       have Hy := Lib.hid hy
       clear S hx4 hc4 hy hck5 hrK5 hy' hym hym2 hml
       go_wp2_with fail
       go_still_tail 17, (by kernel_rfl)
       change wpList _ _ _ _ _ wr.drew
       generalize hw2 : wr.drew = wD
       have he2 : Ext wr wD := by rw [← hw2]; exact (Ext.refl wr).drew
       have S := HSp.out.step he2
       have hx4 := Hx4.out
       have hc4 := Hc4.out
       have hy := Hy.out
       replace dk2 := cell_ext he2 dk2
       clear c6 dm hw2 he2 HSp Hx4 Hc4 Hy
       have S6 := S.ndKid 0 (g := g2) (n := T2.length) (cap := co) rfl hc4 hx4 rfl j (renum p (m : Int)) (by show j < (mapMix (renum p) x2.K j).length; rw [mm_len (by omega)]; exact hjl)
       have pKj := (S.nd_pin' 0 rfl hc4 hx4).2.1
       obtain ⟨_, fk⟩ := owns_there pKj j (by rw [Nat.mul_one]; show j < (mapMix (renum p) x2.K j).length; rw [mm_len (by omega)]; exact hjl)
       have e1 : (mapMix (renum p) x2.K j).set j (renum p (m : Int)) = mapMix (renum p) x2.K (j + 1) := mm_set (f := renum p) hy
       have HS6 : Hid (∃ v5 : List Nc, v5[q]? = some ⟨kidNd x2 (mapMix (renum p) x2.K (j + 1)), an2, cn2, some ⟨gk2, 0, none⟩, ck2⟩ ∧ Sep W0 (wD.setCell ⟨gk2, j, none⟩ (.int .i64 (renum p (m : Int)))) (plNd (.slice (some ⟨g2, 0, none⟩) T2.length co) v5 ((mapMix (renNd p) T2 q).set q (kidNd x2 (mapMix (renum p) x2.K (j + 1)))) :: RL)) := Lib.hid ⟨_, List.getElem?_set_self (List.getElem?_eq_some_iff.1 hc4).1 |>.trans (by rw [← e1]), by
        rw [List.set_cons_zero, List.set_set] at S6
        rw [← e1]
        exact S6⟩
       generalize renum p (m : Int) = rm at *
       clear S S6 hx4 hc4 hy e1 pKj
       go_wp2
       go_roundw
       case rel =>
        obtain ⟨v5, h1, h2⟩ := HS6.out
        exact ⟨j + 1, v5, by omega, by go_num, h1, h2⟩
       case measure => simp [intOf]; omega
set_option maxRecDepth 10000 in
set_option maxHeartbeats 16000000 in
theorem specMayDrop (a : Option Addr) (cap : Nat) (T : List Nd) (c : Cr) (s : ByteArray) (w : World) (hs : s.size ≤ 1048576) (hl : T.length ≤ 1048576) (hT : ∀ x ∈ T, SmN 1048576 x) (hc : RdN w a T) :
  Calls Tryz.prog 70 #[.slice a T.length cap, .agg #[.int .i64 c.r, .int .i64 c.a, .int .i64 c.s, .int .i64 c.g], .string s] w (RetI (mayDropF T c s false) w) := by
 obtain ⟨cr, ca, cs, cg⟩ := c
 have HT := Lib.hid hT
 clear hT
 dsimp only
 go_enter Tryz.func70, Tryz.ntmps70
 have S := Sep.start w
 replace S : Sep w (w.alloc (.cells #[.int .i64 cr, .int .i64 ca, .int .i64 cs, .int .i64 cg] 29)) [plBox w.heap.size #[.int .i64 cr, .int .i64 ca, .int .i64 cs, .int .i64 cg] 29] := S.alloc_at (by simp) _ _
 go_wp2_with fail
 generalize (w.alloc (.cells #[.int .i64 cr, .int .i64 ca, .int .i64 cs, .int .i64 cg] 29)) = w1 at *
 refine (specAboveOf s w1 hs).mono ?_
 rintro e w2 ⟨rfl, hE⟩
 replace S := S.step hE
 clear hE
 obtain ⟨⟨bc0, bf0⟩, ⟨bc1, bf1⟩, ⟨bc2, bf2⟩, ⟨bc3, bf3⟩⟩ := bx4 (S.box 0 rfl)
 have hab := abOf_size s
 go_wp2_with fail
 refine (specFindNode a cap T ⟨cr, ca, cs, cg⟩ (abOf s) w2 (by omega) hl HT.out (hc.ext S.ext)).mono ?_
 rintro e w3 ⟨rfl, hE⟩
 clear bc0 bf0 bc1 bf1 bc2 bf2 bc3 bf3
 replace S := S.step hE
 clear hE
 cases hso : (aboveOf s).isSome with
 | false =>
  have HX := Lib.hid (md_fault (T := T) (c := ⟨cr, ca, cs, cg⟩) (full := false) (by decide) (fa_no hso))
  clear hso
  go_wp2
  go_ret
  exact ⟨by rw [HX.out]; rfl, S.ext⟩
 | true =>
  rcases find_cases T ⟨cr, ca, cs, cg⟩ (abOf s) with ⟨m, hF, hm, hTr, hCo⟩ | ⟨f, hf, hF⟩
  rotate_left
  ·have HX := Lib.hid (md_fault (full := false) hf ((fa_fault (T := T) (c := ⟨cr, ca, cs, cg⟩) hso (by rw [hF]; exact hf)).trans (by rw [hF])))
   rw [hF]
   have tf : (f == 0) = false := by simpa using hf
   clear hso hF hf
   dsimp only
   go_wp2
   go_ret
   exact ⟨by rw [HX.out]; rfl, S.ext⟩
  ·obtain ⟨x, b', off, an, cn, ak, ck, hx, rfl, c0, c1, c2, c3, c4, c5, c6, hcn, hck, hrn, hrk⟩ := atNd hc hm
   have Hx := Lib.hid hx
   have hN := hTr.nodes m x hx
   have HNl := Lib.hid hN.len
   have hsx := HT.out x (List.mem_of_getElem? hx)
   have hNl : x.N.length ≤ 1048576 := hsx.2.1
   have HP := Lib.hid (fa_at (T := T) (c := ⟨cr, ca, cs, cg⟩) hso hF hx)
   have HKp := Lib.hid (fun h => kid_place hN (s := lastOf s) h)
   rw [hF]
   have i1 : (m : Int) < (T.length : Int) := by omega
   have hE := S.ext
   have d0 := cell_ext hE c0
   have d1 := cell_ext hE c1
   have d2 := cell_ext hE c2
   have d3 := cell_ext hE c3
   have d4 := cell_ext hE c4
   have d5 := cell_ext hE c5
   have d6 := cell_ext hE c6
   have Hrn := Lib.hid (hrn.ext hE)
   have Hrk := Lib.hid (hrk.ext hE)
   have HT9 := Lib.hid (And.intro hTr hCo)
   have Hso := Lib.hid (And.intro hso hF)
   clear hx hN hsx c0 c1 c2 c3 c4 c5 c6 hcn hck hrn hrk hE hF hTr hso hCo
   dsimp only
   cases hf : x.fold with
   | false =>
    have HX := Lib.hid (md_fault (full := false) (by decide) (HP.out.trans (if_pos hf)))
    rw [hf] at d0
    clear hf
    go_wp2
    go_ret
    exact ⟨by rw [HX.out]; rfl, S.ext⟩
   | true =>
    have Hf := Lib.hid hf
    have HQ := Lib.hid (HP.out.trans (if_neg (by simp [hf])))
    clear HP
    obtain ⟨⟨bc0, bf0⟩, ⟨bc1, bf1⟩, ⟨bc2, bf2⟩, ⟨bc3, bf3⟩⟩ := bx4 (S.box 0 rfl)
    have HM : Hid (∀ s : ExtW w3, Calls Tryz.prog 74 #[.agg #[.int .i64 cr, .int .i64 ca, .int .i64 cs, .int .i64 cg], .agg #[.bool true, .int .i64 x.own, .int .i64 x.grp, .int .i64 x.mode, .string x.text, .slice an x.N.length cn, .slice ak x.K.length ck], .int .i64 3] s.x fun e w'' => e = .returned (.bool (Cr.may ⟨cr, ca, cs, cg⟩ x 3)) ∧ ∃ s' : ExtW w3, w'' = s'.x) := Lib.hid (fun s => by
     have hC := specMay cr ca cs cg 3 x an ak cn ck s.x
     rw [hf] at hC
     exact Calls.at_e hC)
    rw [hf] at d0
    clear hf
    go_wp2_with fail
    have q0 := ExtW.cell d0
    have q1 := ExtW.cell d1
    have q2 := ExtW.cell d2
    have q3 := ExtW.cell d3
    have q4 := ExtW.cell d4
    have q5 := ExtW.cell d5
    have q6 := ExtW.cell d6
    have bl := ExtW.lt d0
    have r0 := ExtW.cell bc0
    have r1 := ExtW.cell bc1
    have r2 := ExtW.cell bc2
    have r3 := ExtW.cell bc3
    have br := ExtW.lt bc0
    have S9 := Lib.hid S
    clear d0 d1 d2 d3 d4 d5 d6 bc0 bc1 bc2 bc3 bf0 bf1 bf2 bf3 S
    cases hmay : Cr.may ⟨cr, ca, cs, cg⟩ x 3 with
    | false =>
     have HX := Lib.hid (md_fault (full := false) (by decide) (HQ.out.trans (if_pos hmay)))
     rw [hmay] at HM
     clear hmay
     (refine wp_region_quiet_ext (by kernel_rfl) (by kernel_rfl) ?_; (repeat (go_big_quiet_step ((go_at_call 74; exact HM.out _)))); refine wpQuiet_nil ?_; intro _ hw'; obtain ⟨sq, hw''⟩ := hw'; subst hw'')
     obtain ⟨w5, hw5⟩ := sq
     go_wp2
     go_ret
     exact ⟨by rw [HX.out]; rfl, S9.out.ext.trans hw5⟩
    | true =>
     have HQ2 := Lib.hid (HQ.out.trans (if_neg (by simp [hmay])))
     have hnm : NameOk (lastOf s) := by
      rcases fa_cases T ⟨cr, ca, cs, cg⟩ s with ⟨n2, x2, h2⟩ | ⟨f2, hf2, h2⟩
      ·exact h2.name
      ·have h3 := HQ2.out.symm.trans h2
       simp at h3
     have HF : Hid (FaOk T ⟨cr, ca, cs, cg⟩ s m x) := Lib.hid ⟨HQ2.out, Hx.out, Hf.out, hmay, Hso.out.1, Hso.out.2, HT9.out.1, HT9.out.2, hnm⟩
     clear HQ hnm
     rw [hmay] at HM
     clear hmay
     (refine wp_region_quiet_ext (by kernel_rfl) (by kernel_rfl) ?_; (repeat (go_big_quiet_step ((go_at_call 74; exact HM.out _)))); refine wpQuiet_nil ?_; intro _ hw'; obtain ⟨sq, hw''⟩ := hw'; subst hw'')
     obtain ⟨w5, hw5⟩ := sq
     have p0 := q0 ⟨w5, hw5⟩
     have p1 := q1 ⟨w5, hw5⟩
     have p2 := q2 ⟨w5, hw5⟩
     have p3 := q3 ⟨w5, hw5⟩
     have p4 := q4 ⟨w5, hw5⟩
     have p5 := q5 ⟨w5, hw5⟩
     have p6 := q6 ⟨w5, hw5⟩
     have S := S9.out.step hw5
     have hC := specKid x an ak cn ck (lastOf s) w5 hNl HNl.out (Hrn.out.ext hw5) (Hrk.out.ext hw5)
     rw [Hf.out] at hC
     have HC := Lib.hid hC
     clear q0 q1 q2 q3 q4 q5 q6 bl r0 r1 r2 r3 br S9 HM hC
     go_wp2_with fail
     refine HC.out.mono ?_
     rintro e w6 ⟨rfl, hw6⟩
     have d0 := cell_ext hw6 p0
     have d1 := cell_ext hw6 p1
     have d3 := cell_ext hw6 p3
     clear p0 p1 p2 p3 p4 p5 p6 HC
     replace S := S.step hw6
     by_cases hkid : kidOf x.N x.K (lastOf s) < 0
     ·have HX := Lib.hid (md_miss (full := false) HF.out hkid)
      clear d0 d1 d3
      go_wp2
      go_ret
      exact ⟨by rw [HX.out]; rfl, S.ext⟩
     ·obtain ⟨_, _, _, k4, k5, _⟩ := HKp.out (by omega)
      obtain ⟨kid, hkd⟩ : ∃ kid : Nat, kidOf x.N x.K (lastOf s) = (kid : Int) := ⟨_, (Int.toNat_of_nonneg (by omega)).symm⟩
      obtain ⟨z, b2, off2, zan, zcn, zak, zck, hz, hzb, _, y1, _, _, _, y5, _⟩ := atNd (hc.ext S.ext) (show kid < T.length by omega)
      obtain ⟨rfl, rfl⟩ : b' = b2 ∧ off = off2 := by simpa using hzb
      have HK := Lib.hid (md_kid (full := false) HF.out hkd hz)
      have i2 : (kid : Int) < (T.length : Int) := by omega
      rw [hkd] at hkid ⊢
      have z1 := y1
      have z5 := y5
      clear y1 y5 k4 k5 hkd hz hzb HKp HF HQ2
      obtain ⟨⟨bc0, bf0⟩, ⟨bc1, bf1⟩, ⟨bc2, bf2⟩, ⟨bc3, bf3⟩⟩ := bx4 (S.box 0 rfl)
      rcases stuck_cases ⟨cr, ca, cs, cg⟩ x z with ⟨h1, hst⟩ | ⟨h1, h2, hst⟩ | ⟨h1, h2, h3, hst⟩ | ⟨h1, h2, h3, h4, hst⟩ | ⟨h1, h2, h3, h4, hst⟩
      ·have Hst := Lib.hid hst
       have tm : (decide ((512 : Int) ≤ x.mode)) = false := decide_eq_false h1
       have tm2 : x.mode < 512 := by omega
       clear h1 hst
       go_wp2_with fail
       have q0 := ExtW.cell d0
       have q1 := ExtW.cell d1
       have q3 := ExtW.cell d3
       have qz1 := ExtW.cell z1
       have qz5 := ExtW.cell z5
       have bl := ExtW.lt d0
       have r0 := ExtW.cell bc0
       have r1 := ExtW.cell bc1
       have br := ExtW.lt bc0
       have HSx := Lib.hid S
       clear d0 d1 d3 z1 z5 bc0 bc1 bc2 bc3 bf0 bf1 bf2 bf3 S
       (refine wp_region_quiet_ext (by kernel_rfl) (by kernel_rfl) ?_; (repeat (go_big_quiet_step ((fail)))); refine wpQuiet_nil ?_; intro _ hw'; obtain ⟨sq, hw''⟩ := hw'; subst hw'')
       obtain ⟨w9, hw9⟩ := sq
       have pz5 := qz5 ⟨w9, hw9⟩
       clear q0 q1 q3 qz1 qz5 bl r0 r1 br
       by_cases hz0 : 0 < z.N.length
       ·have HX := Lib.hid (HK.out.trans (by rw [if_neg (by rw [Hst.out]; decide), if_pos (by first | exact ⟨rfl, hz0⟩ | exact ⟨trivial, hz0⟩)]))
        have hzi : (0 : Int) < (z.N.length : Int) := by omega
        go_wp2
        go_ret
        exact ⟨by rw [HX.out]; rfl, HSx.out.ext.trans hw9⟩
       ·have HX := Lib.hid (HK.out.trans (by rw [if_neg (by rw [Hst.out]; decide), if_neg (fun h => hz0 h.2)]))
        have hzi : ¬ (0 : Int) < (z.N.length : Int) := by omega
        go_wp2
        go_ret
        exact ⟨by rw [HX.out]; rfl, HSx.out.ext.trans hw9⟩
      ·have Hst := Lib.hid hst
       have tm : (512 : Int) ≤ x.mode := h1
       have ta : ca = 0 := h2
       subst ta
       clear h1 hst
       go_wp2_with fail
       have q0 := ExtW.cell d0
       have q1 := ExtW.cell d1
       have q3 := ExtW.cell d3
       have qz1 := ExtW.cell z1
       have qz5 := ExtW.cell z5
       have bl := ExtW.lt d0
       have r0 := ExtW.cell bc0
       have r1 := ExtW.cell bc1
       have br := ExtW.lt bc0
       have HSx := Lib.hid S
       clear d0 d1 d3 z1 z5 bc0 bc1 bc2 bc3 bf0 bf1 bf2 bf3 S
       (refine wp_region_quiet_ext (by kernel_rfl) (by kernel_rfl) ?_; (repeat (go_big_quiet_step ((fail)))); refine wpQuiet_nil ?_; intro _ hw'; obtain ⟨sq, hw''⟩ := hw'; subst hw'')
       obtain ⟨w9, hw9⟩ := sq
       have pz5 := qz5 ⟨w9, hw9⟩
       clear q0 q1 q3 qz1 qz5 bl r0 r1 br
       by_cases hz0 : 0 < z.N.length
       ·have HX := Lib.hid (HK.out.trans (by rw [if_neg (by rw [Hst.out]; decide), if_pos (by first | exact ⟨rfl, hz0⟩ | exact ⟨trivial, hz0⟩)]))
        have hzi : (0 : Int) < (z.N.length : Int) := by omega
        go_wp2
        go_ret
        exact ⟨by rw [HX.out]; rfl, HSx.out.ext.trans hw9⟩
       ·have HX := Lib.hid (HK.out.trans (by rw [if_neg (by rw [Hst.out]; decide), if_neg (fun h => hz0 h.2)]))
        have hzi : ¬ (0 : Int) < (z.N.length : Int) := by omega
        go_wp2
        go_ret
        exact ⟨by rw [HX.out]; rfl, HSx.out.ext.trans hw9⟩
      ·have Hst := Lib.hid hst
       have tm : (512 : Int) ≤ x.mode := h1
       have ta : (ca != 0) = true := by simpa using h2
       have to_ : (ca != x.own) = false := by simpa using h3
       clear h1 h2 h3 hst
       go_wp2_with fail
       have q0 := ExtW.cell d0
       have q1 := ExtW.cell d1
       have q3 := ExtW.cell d3
       have qz1 := ExtW.cell z1
       have qz5 := ExtW.cell z5
       have bl := ExtW.lt d0
       have r0 := ExtW.cell bc0
       have r1 := ExtW.cell bc1
       have br := ExtW.lt bc0
       have HSx := Lib.hid S
       clear d0 d1 d3 z1 z5 bc0 bc1 bc2 bc3 bf0 bf1 bf2 bf3 S
       (refine wp_region_quiet_ext (by kernel_rfl) (by kernel_rfl) ?_; (repeat (go_big_quiet_step ((fail)))); refine wpQuiet_nil ?_; intro _ hw'; obtain ⟨sq, hw''⟩ := hw'; subst hw'')
       obtain ⟨w9, hw9⟩ := sq
       have pz5 := qz5 ⟨w9, hw9⟩
       clear q0 q1 q3 qz1 qz5 bl r0 r1 br
       by_cases hz0 : 0 < z.N.length
       ·have HX := Lib.hid (HK.out.trans (by rw [if_neg (by rw [Hst.out]; decide), if_pos (by first | exact ⟨rfl, hz0⟩ | exact ⟨trivial, hz0⟩)]))
        have hzi : (0 : Int) < (z.N.length : Int) := by omega
        go_wp2
        go_ret
        exact ⟨by rw [HX.out]; rfl, HSx.out.ext.trans hw9⟩
       ·have HX := Lib.hid (HK.out.trans (by rw [if_neg (by rw [Hst.out]; decide), if_neg (fun h => hz0 h.2)]))
        have hzi : ¬ (0 : Int) < (z.N.length : Int) := by omega
        go_wp2
        go_ret
        exact ⟨by rw [HX.out]; rfl, HSx.out.ext.trans hw9⟩
      ·have Hst := Lib.hid hst
       have tm : (512 : Int) ≤ x.mode := h1
       have ta : (ca != 0) = true := by simpa using h2
       have to_ : (ca != x.own) = true := by simpa using h3
       have tz : (ca != z.own) = false := by simpa using h4
       clear h1 h2 h3 h4 hst
       go_wp2_with fail
       have q0 := ExtW.cell d0
       have q1 := ExtW.cell d1
       have q3 := ExtW.cell d3
       have qz1 := ExtW.cell z1
       have qz5 := ExtW.cell z5
       have bl := ExtW.lt d0
       have r0 := ExtW.cell bc0
       have r1 := ExtW.cell bc1
       have br := ExtW.lt bc0
       have HSx := Lib.hid S
       clear d0 d1 d3 z1 z5 bc0 bc1 bc2 bc3 bf0 bf1 bf2 bf3 S
       (refine wp_region_quiet_ext (by kernel_rfl) (by kernel_rfl) ?_; (repeat (go_big_quiet_step ((fail)))); refine wpQuiet_nil ?_; intro _ hw'; obtain ⟨sq, hw''⟩ := hw'; subst hw'')
       obtain ⟨w9, hw9⟩ := sq
       have pz5 := qz5 ⟨w9, hw9⟩
       clear q0 q1 q3 qz1 qz5 bl r0 r1 br
       by_cases hz0 : 0 < z.N.length
       ·have HX := Lib.hid (HK.out.trans (by rw [if_neg (by rw [Hst.out]; decide), if_pos (by first | exact ⟨rfl, hz0⟩ | exact ⟨trivial, hz0⟩)]))
        have hzi : (0 : Int) < (z.N.length : Int) := by omega
        go_wp2
        go_ret
        exact ⟨by rw [HX.out]; rfl, HSx.out.ext.trans hw9⟩
       ·have HX := Lib.hid (HK.out.trans (by rw [if_neg (by rw [Hst.out]; decide), if_neg (fun h => hz0 h.2)]))
        have hzi : ¬ (0 : Int) < (z.N.length : Int) := by omega
        go_wp2
        go_ret
        exact ⟨by rw [HX.out]; rfl, HSx.out.ext.trans hw9⟩
      ·have Hst := Lib.hid hst
       have tm : (512 : Int) ≤ x.mode := h1
       have ta : (ca != 0) = true := by simpa using h2
       have to_ : (ca != x.own) = true := by simpa using h3
       have tz : (ca != z.own) = true := by simpa using h4
       clear h1 h2 h3 h4 hst
       go_wp2_with fail
       have q0 := ExtW.cell d0
       have q1 := ExtW.cell d1
       have q3 := ExtW.cell d3
       have qz1 := ExtW.cell z1
       have qz5 := ExtW.cell z5
       have bl := ExtW.lt d0
       have r0 := ExtW.cell bc0
       have r1 := ExtW.cell bc1
       have br := ExtW.lt bc0
       have HSx := Lib.hid S
       clear d0 d1 d3 z1 z5 bc0 bc1 bc2 bc3 bf0 bf1 bf2 bf3 S
       (refine wp_region_quiet_ext (by kernel_rfl) (by kernel_rfl) ?_; (repeat (go_big_quiet_step ((fail)))); refine wpQuiet_nil ?_; intro _ hw'; obtain ⟨sq, hw''⟩ := hw'; subst hw'')
       obtain ⟨w9, hw9⟩ := sq
       have pz5 := qz5 ⟨w9, hw9⟩
       clear q0 q1 q3 qz1 qz5 bl r0 r1 br
       have HX := Lib.hid (HK.out.trans (by rw [if_pos Hst.out]))
       go_wp2
       go_ret
       exact ⟨by rw [HX.out]; rfl, HSx.out.ext.trans hw9⟩
set_option maxRecDepth 10000 in
set_option maxHeartbeats 16000000 in
theorem specDropName (a : Option Addr) (cap : Nat) (T : List Nd) (c : Cr) (s : ByteArray) (w : World) (hs : s.size ≤ 1048576) (hl : T.length ≤ 1048576) (hT : ∀ x ∈ T, SmN 1048576 x) (hNB : NB 1000000 T) (hc : RdN w a T) :
  Calls Tryz.prog 33 #[.slice a T.length cap, .agg #[.int .i64 c.r, .int .i64 c.a, .int .i64 c.s, .int .i64 c.g], .string s] w (RetMk (dropName T c s) w) := by
 obtain ⟨cr, ca, cs, cg⟩ := c
 have HT := Lib.hid hT
 have HNB := Lib.hid hNB
 clear hT hNB
 dsimp only
 go_enter Tryz.func33, Tryz.ntmps33
 have S := Sep.start w
 replace S : Sep w (w.alloc (.cells #[.int .i64 cr, .int .i64 ca, .int .i64 cs, .int .i64 cg] 29)) [plBox w.heap.size #[.int .i64 cr, .int .i64 ca, .int .i64 cs, .int .i64 cg] 29] := S.alloc_at (by simp) _ _
 go_wp2_with fail
 generalize (w.alloc (.cells #[.int .i64 cr, .int .i64 ca, .int .i64 cs, .int .i64 cg] 29)) = w1 at *
 refine (specMayDrop a cap T ⟨cr, ca, cs, cg⟩ s w1 hs hl HT.out (hc.ext S.ext)).mono ?_
 rintro e w2 ⟨rfl, hE⟩
 replace S := S.step hE
 clear hE
 by_cases hmd : mayDropF T ⟨cr, ca, cs, cg⟩ s false = 0
 rotate_left
 ·have HX := Lib.hid (dn_bad hmd rfl)
  have tf : (mayDropF T ⟨cr, ca, cs, cg⟩ s false == 0) = false := by simpa using hmd
  clear hmd
  generalize mayDropF T ⟨cr, ca, cs, cg⟩ s false = f at *
  go_wp2
  go_ret2
  exact RetMk.empty S.ext HX.out
 ·rcases md_cases T ⟨cr, ca, cs, cg⟩ s with ⟨m, kid, x, z, hD, _, h7, _⟩ | ⟨f, hf, _, _, h⟩
  rotate_left
  ·exact absurd (h.symm.trans hmd) hf
  ·have h0 : z.N.length = 0 := by
    by_cases h0 : z.N.length = 0
    ·exact h0
    ·have := (h7 (by omega)).symm.trans hmd; cases this
   have HX := Lib.hid (dn_ok hD hmd)
   have HDr := Lib.hid (md_drop hD h0)
   have HD := Lib.hid hD
   have HTr := Lib.hid hD.fa.tree
   have Hx := Lib.hid hD.fa.hx
   rw [hmd]
   clear hmd hD h7 h0
   go_wp2_with fail
   refine (specAboveOf s w2 hs).mono ?_
   rintro e w3 ⟨rfl, hE⟩
   replace S := S.step hE
   clear hE
   have hab := abOf_size s
   obtain ⟨⟨bc0, bf0⟩, ⟨bc1, bf1⟩, ⟨bc2, bf2⟩, ⟨bc3, bf3⟩⟩ := bx4 (S.box 0 rfl)
   go_wp2_with fail
   clear bc0 bf0 bc1 bf1 bc2 bf2 bc3 bf3
   refine (specFindNode a cap T ⟨cr, ca, cs, cg⟩ (abOf s) w3 (by omega) hl HT.out (hc.ext S.ext)).mono ?_
   rintro e w4 ⟨rfl, hE⟩
   replace S := S.step hE
   clear hE
   rw [HD.out.fa.find]
   dsimp only
   go_wp2_with fail
   refine (specCopy a cap T w4 hl HT.out (hc.ext S.ext)).mono ?_
   rintro e w5 ⟨u, vs, rfl, S4⟩
   replace S : Sep w w5 [plNd u vs T, plBox w.heap.size #[.int .i64 cr, .int .i64 ca, .int .i64 cs, .int .i64 cg] 29] := S.call S4
   clear S4
   obtain ⟨xc, g, cap2, rfl, hcap2, hxc, hxn, hcell, hfz, hsn, hsk, hcn, hck, hrn, hrk⟩ := S.ndAt 0 rfl Hx.out
   obtain ⟨x', an, cn, ak, ck⟩ := xc
   dsimp only at hxn hsn hsk hcn hck hrn hrk
   subst hxn
   have d0 : w5.cell? ⟨g, m * 7, none⟩ = some (.bool x'.fold) := hcell 0 _ rfl
   have d1 : w5.cell? ⟨g, m * 7 + 1, none⟩ = some (.int .i64 x'.own) := hcell 1 _ rfl
   have d2 : w5.cell? ⟨g, m * 7 + 2, none⟩ = some (.int .i64 x'.grp) := hcell 2 _ rfl
   have d3 : w5.cell? ⟨g, m * 7 + 3, none⟩ = some (.int .i64 x'.mode) := hcell 3 _ rfl
   have d4 : w5.cell? ⟨g, m * 7 + 4, none⟩ = some (.string x'.text) := hcell 4 _ rfl
   have d5 : w5.cell? ⟨g, m * 7 + 5, none⟩ = some (.slice an x'.N.length cn) := hcell 5 _ rfl
   have d6 : w5.cell? ⟨g, m * 7 + 6, none⟩ = some (.slice ak x'.K.length ck) := hcell 6 _ rfl
   have hN := HTr.out.nodes m x' Hx.out
   have hNl := HNB.out x' (List.mem_of_getElem? Hx.out)
   have Htake := Lib.hid (specTake x' an ak cn ck (lastOf s) w5 (node_asc hN) (kid_place hN (s := lastOf s) (by rw [HD.out.kd]; omega)).2.1 (by omega) hN.len hrn hrk)
   have i0 : (m : Int) < (T.length : Int) := by have := (List.getElem?_eq_some_iff.1 Hx.out).1; omega
   clear hcell hN hNl hcn hck hsn hsk hrn hrk hxc
   go_wp2_with fail
   refine Htake.out.mono ?_
   rintro e w6 ⟨an2, cn2, ak2, ck2, rfl, S5⟩
   have g0 := cell_ext S5.ext d0
   have g1 := cell_ext S5.ext d1
   have g2 := cell_ext S5.ext d2
   have g3 := cell_ext S5.ext d3
   have g4 := cell_ext S5.ext d4
   have g5 := cell_ext S5.ext d5
   have g6 := cell_ext S5.ext d6
   obtain ⟨X2, hX2⟩ : ∃ X2, X2 = takeNd x' (lastOf s) := ⟨_, rfl⟩
   have HX2 := Lib.hid hX2
   rw [← hX2] at S5
   rw [← hX2]
   clear hX2 d0 d1 d2 d3 d4 d5 d6 Htake hfz
   replace S : Sep w w6 [plRow 3 1 encInt1 (.slice ak2 X2.K.length ck2) X2.K, plRow 9 1 encStr1 (.slice an2 X2.N.length cn2) X2.N, plNd (.slice (some ⟨g, 0, none⟩) T.length cap2) vs T, plBox w.heap.size #[.int .i64 cr, .int .i64 ca, .int .i64 cs, .int .i64 cg] 29] := S.call S5
   clear S5
   have hvl := plG_len (S.at_ 2 rfl)
   have hrow := S.gRow 2 rfl
   rw [hvl] at hrow
   have hfz := hrow.frozenAt
   clear hrow
   have S6 := S.ofRows 1 0 (⟨X2, an2, cn2, ak2, ck2⟩ : Nc) rfl rfl (by decide)
   have S7 := S6.gPut 1 0 encNc_len rfl rfl (by decide) (k := m) (by have := (List.getElem?_eq_some_iff.1 Hx.out).1; omega)
   have S8 : Sep w (((((((w6.setCell ⟨g, m * 7, none⟩ (.bool X2.fold)).setCell ⟨g, m * 7 + 1, none⟩ (.int .i64 X2.own)).setCell ⟨g, m * 7 + 2, none⟩ (.int .i64 X2.grp)).setCell ⟨g, m * 7 + 3, none⟩ (.int .i64 X2.mode)).setCell ⟨g, m * 7 + 4, none⟩ (.string X2.text)).setCell ⟨g, m * 7 + 5, none⟩ (.slice an2 X2.N.length cn2)).setCell ⟨g, m * 7 + 6, none⟩ (.slice ak2 X2.K.length ck2)) [plNd (.slice (some ⟨g, 0, none⟩) T.length cap2) (vs.set m ⟨X2, an2, cn2, ak2, ck2⟩) (T.set m X2), plBox w.heap.size #[.int .i64 cr, .int .i64 ca, .int .i64 cs, .int .i64 cg] 29] := S7
   have S9 := S8.drop 1
   have HS8 := Lib.hid S9
   clear S S6 S7 S8 S9 hvl
   have HA : Hid (AlmostOk (T.set m X2) kid) := Lib.hid (by rw [HX2.out]; exact take_almost HDr.out)
   obtain ⟨kd1, kd2, kd3, _, _⟩ := drop_kid HDr.out
   have HT2 : Hid (∀ y ∈ T.set m X2, SmN 1048576 y) := Lib.hid (fun y hy => by
    rcases List.mem_or_eq_of_mem_set hy with hy | rfl
    ·exact HT.out y hy
    ·rw [HX2.out]; exact sm_era (HT.out x' (List.mem_of_getElem? Hx.out)))
   have HR : Hid (dropName T ⟨cr, ca, cs, cg⟩ s = (if 0 < (kids (T.set m X2)).count (kid : Int) then T.set m X2 else ((T.set m X2).eraseIdx kid).map (renNd kid), 0)) := Lib.hid (by rw [HX.out, HX2.out]; rfl)
   clear HX HDr
   go_upto_region 11 with fail
   have SC := HS8.out
   generalize (((((((w6.setCell ⟨g, m * 7, none⟩ (.bool X2.fold)).setCell ⟨g, m * 7 + 1, none⟩ (.int .i64 X2.own)).setCell ⟨g, m * 7 + 2, none⟩ (.int .i64 X2.grp)).setCell ⟨g, m * 7 + 3, none⟩ (.int .i64 X2.mode)).setCell ⟨g, m * 7 + 4, none⟩ (.string X2.text)).setCell ⟨g, m * 7 + 5, none⟩ (.slice an2 X2.N.length cn2)).setCell ⟨g, m * 7 + 6, none⟩ (.slice ak2 X2.K.length ck2)) = w7 at *
   clear HS8 g0 g1 g2 g3 g4 g5 g6 hfz
   generalize vs.set m (⟨X2, an2, cn2, ak2, ck2⟩ : Nc) = v2 at *
   have hl2 : T.length = (T.set m X2).length := by rw [List.length_set]
   generalize T.set m X2 = T2 at *
   rw [hl2] at SC kd3 ⊢
   have HSC := Lib.hid SC
   have Hl2 := Lib.hid hl2
   clear SC hl2
   go_wp2_with fail
   refine (specClean HSC.out HA.out (by omega) kd3 HT2.out).mono ?_
   rintro e w8 ⟨u', vs', rfl, S8⟩
   have HS9 := Lib.hid S8
   clear S8 HSC
   go_wp2
   go_ret2
   exact ⟨u', vs', by rw [HR.out]; rfl, by rw [HR.out]; exact HS9.out⟩
end Go.Proofs.YtnibbldfohbfkaaGreatDoor
