/- Parts of one proof: each says below what it proves and on what conditions. -/
import Derived.OwnWalk
import Derived.Deep.Cut
import Derived.Test.YtnibbldfohbfkaaGreatDoorMy5
set_option linter.unusedVariables false
set_option linter.unusedSimpArgs false
/- Paths: contract of the reference's JoinPath. Condition: lists and texts shorter than 2^63. -/
namespace Go.Proofs.YtnibbldfohbfkaaGreatDoor
open Go.RowKit
def joinB (P : List ByteArray) : ByteArray := P.foldl (fun o p => o ++ ⟨#[47]⟩ ++ p) ⟨#[]⟩
def PartsOk (P : List ByteArray) : Prop := (∀ p ∈ P, NameOk p) ∧ P.length ≤ 6
noncomputable def joinPath (P : List ByteArray) : ByteArray := open Classical in if P = [] then ⟨#[47]⟩ else if PartsOk P then joinB P else ⟨#[]⟩
theorem joinB_step {P : List ByteArray} {k : Nat} {p : ByteArray} (h : P[k]? = some p) : joinB (P.take (k + 1)) = joinB (P.take k) ++ ⟨#[47]⟩ ++ p := by
 rw [List.take_add_one, h]
 simp [joinB, List.foldl_append]
theorem joinB_size_pos {P : List ByteArray} (h : P ≠ []) : 0 < (joinB P).size := by
 obtain ⟨Q, p, rfl⟩ : ∃ Q p, P = Q ++ [p] := ⟨P.dropLast, P.getLast h, (List.dropLast_concat_getLast h).symm⟩
 simp only [joinB, List.foldl_append, List.foldl_cons, List.foldl_nil, ByteArray.size_append]
 show 0 < _ + 1 + _
 omega
theorem isEmpty_pos {s : ByteArray} (h : 0 < s.size) : s.toList.isEmpty = false := by
 rw [ByteArray.toList_eq]
 obtain ⟨⟨x⟩⟩ := s
 cases x
 ·simp [ByteArray.size] at h
 ·simp
set_option maxHeartbeats 4000000 in
theorem specJoinPath (a : Option Addr) (cap : Nat) (P : List ByteArray) (w : World) (hl : P.length ≤ 9223372036854775807) (hs : ∀ p ∈ P, p.size ≤ 9223372036854775807) (hc : Rd 1 encStr1 w a P) :
  Calls Tryz.prog 107 #[.slice a P.length cap] w (RetV (fun v _ => v = .string (joinPath P)) w) := by
 have HS := Lib.hid hs
 clear hs
 go_enter Tryz.func107, Tryz.ntmps107
 go_wp2
 go_loopw [3, 4] (fun o i wr => ∃ k : Nat, k ≤ P.length ∧ i = .int .i64 k ∧ o = .string (joinB (P.take k)) ∧ (joinB (P.take k)).size ≤ 9 * k ∧ (∀ (j : Nat) p, j < k → P[j]? = some p → NameOk p) ∧ (k = 0 ∨ P.length ≤ 6) ∧ Ext w wr) (fun _ i _ => P.length - (intOf i).toNat)
 case atStart => exact ⟨0, Nat.zero_le _, rfl, rfl, by simp [joinB, ByteArray.size], fun _ _ h => absurd h (Nat.not_lt_zero _), .inl rfl, Ext.refl _⟩
 case round =>
  obtain ⟨k, hk, rfl, rfl, hz, hpre, h6, hb⟩ := hrel
  have Hpre := Lib.hid hpre
  have H6 := Lib.hid h6
  clear hpre h6
  by_cases hlt : k < P.length
  rotate_left
  ·obtain rfl : k = P.length := by omega
   have hni : ¬ (P.length : Int) < (P.length : Int) := by omega
   rw [List.take_length] at hz ⊢
   by_cases hP : P = []
   ·subst hP
    have HR : Hid (joinPath [] = ⟨#[47]⟩) := Lib.hid (by simp [joinPath])
    have te : (joinB []).toList.isEmpty = true := by simp [joinB, ByteArray.toList_eq]
    simp only [List.length_nil] at hni ⊢
    go_wp2
    go_ret
    exact RetV.mk (by rw [HR.out]; rfl) hb
   ·have HR : Hid (joinPath P = joinB P) := Lib.hid (by
     rw [joinPath, if_neg hP, if_pos]
     refine ⟨fun p hp => ?_, H6.out.elim (fun h => absurd (List.eq_nil_of_length_eq_zero h) hP) (fun h => h)⟩
     obtain ⟨j, hj⟩ := List.getElem?_of_mem hp
     exact Hpre.out j p (List.getElem?_eq_some_iff.1 hj).1 hj)
    have te := isEmpty_pos (joinB_size_pos hP)
    clear hP
    generalize joinB P = o at *
    go_wp2
    go_ret
    exact RetV.mk (by rw [HR.out]; rfl) hb
  ·obtain ⟨x, b, off, hx, rfl, c0⟩ := atStr (hc.ext hb) hlt
   have Hx := Lib.hid hx
   have hsx := HS.out x (List.mem_of_getElem? hx)
   have i0 : (k : Int) < (P.length : Int) := by omega
   have Hst := Lib.hid (joinB_step hx)
   have HP : Hid (¬ PartsOk P → joinPath P = ⟨#[]⟩) := Lib.hid (fun h => by rw [joinPath, if_neg (fun e => by subst e; simp at hlt), if_neg h])
   clear hx
   generalize joinB (P.take k) = o at *
   go_wp2_with fail
   refine (specNameValid x wr hsx).mono ?_
   rintro e w2 ⟨v, rfl, hv, hE⟩
   have Hv := Lib.hid hv
   have hb2 := hb.trans hE
   have d0 := cell_ext hE c0
   clear hv c0
   cases v with
   | false =>
    have HR := Lib.hid (HP.out (fun h => Bool.noConfusion (Hv.out.2 (h.1 x (List.mem_of_getElem? Hx.out)))))
    go_wp2
    go_ret
    exact RetV.mk (by rw [HR.out]; rfl) hb2
   | true =>
    have HN := Lib.hid (Hv.out.1 rfl)
    clear Hv
    by_cases hl6 : P.length ≤ 6
    rotate_left
    ·have t6 : (6 : Int) < (P.length : Int) := by omega
     have HR := Lib.hid (HP.out (fun h => hl6 h.2))
     go_wp2
     go_ret
     exact RetV.mk (by rw [HR.out]; rfl) hb2
    ·have t6 : ¬ (6 : Int) < (P.length : Int) := by omega
     have h8 : x.size ≤ 8 := HN.out.2.2
     have hsz : o.size + (⟨#[47]⟩ : ByteArray).size ≤ 9223372036854775807 := by
      show o.size + 1 ≤ _
      omega
     have hsz2 : (o ++ ⟨#[47]⟩ : ByteArray).size + x.size ≤ 9223372036854775807 := by
      rw [ByteArray.size_append]
      show o.size + 1 + _ ≤ _
      omega
     have HZ : Hid ((o ++ ⟨#[47]⟩ ++ x : ByteArray).size ≤ 9 * (k + 1)) := Lib.hid (by
      rw [ByteArray.size_append, ByteArray.size_append]
      show o.size + 1 + _ ≤ _
      omega)
     have Hnext : Hid (∀ (j : Nat) p, j < k + 1 → P[j]? = some p → NameOk p) := Lib.hid (fun j p hj hp => by
      rcases Nat.lt_succ_iff_lt_or_eq.1 hj with h' | rfl
      ·exact Hpre.out j p h' hp
      ·rw [Hx.out] at hp; cases hp; exact HN.out)
     go_wp2
     go_roundw
     case rel => exact ⟨k + 1, by omega, by go_num, by rw [Hst.out], by rw [Hst.out]; exact HZ.out, Hnext.out, .inr hl6, hb2⟩
     case measure => simp [intOf]; omega
def stepP (out : List ByteArray) (c : UInt8) : List ByteArray := if c = 47 then out ++ [⟨#[]⟩] else match out.getLast? with
 | none => []
 | some l => out.dropLast ++ [l ++ ⟨#[c]⟩]
def cutP (s : List UInt8) : List ByteArray := s.foldl stepP []
theorem stepP_slash (Q : List ByteArray) : stepP Q 47 = Q ++ [⟨#[]⟩] := by simp [stepP]
theorem stepP_char (Q : List ByteArray) (p : ByteArray) {c : UInt8} (h : c ≠ 47) : stepP (Q ++ [p]) c = Q ++ [p ++ ⟨#[c]⟩] := by simp [stepP, h]
theorem step_name (Q : List ByteArray) : ∀ (l : List UInt8) (p0 : ByteArray), (∀ c ∈ l, c ≠ 47) → l.foldl stepP (Q ++ [p0]) = Q ++ [p0 ++ ⟨l.toArray⟩]
 | [], p0, _ => by
  have : p0 ++ (⟨#[]⟩ : ByteArray) = p0 := by apply ByteArray.ext; simp [ByteArray.data_append]
  simp [this]
 | c :: l, p0, h => by
  rw [List.foldl_cons, stepP_char Q p0 (h c (List.mem_cons_self ..)), step_name Q l _ (fun d hd => h d (List.mem_cons_of_mem _ hd))]
  congr 2
  apply ByteArray.ext
  simp [ByteArray.data_append]
theorem name_noslash {p : ByteArray} (h : NameOk p) : ∀ c ∈ p.data.toList, c ≠ 47 := fun c hc e => by
 obtain ⟨i, hi, he⟩ := List.getElem_of_mem hc
 have hi' : i < p.size := by rw [Array.length_toList] at hi; exact hi
 have h1 := h.1 i hi'
 have h2 : p[i] = c := by rw [← he]; rfl
 rw [h2, e] at h1
 unfold NameChar at h1
 have : (47 : UInt8).toNat = 47 := rfl
 omega
theorem cut_join_take {P : List ByteArray} (h : ∀ p ∈ P, NameOk p) : ∀ k, k ≤ P.length → cutP (joinB (P.take k)).data.toList = P.take k
 | 0, _ => by simp [joinB, cutP]
 | k + 1, hk => by
  have hx : P[k]? = some P[k] := List.getElem?_eq_getElem (by omega)
  have ih := cut_join_take h k (by omega)
  rw [joinB_step hx, List.take_add_one, hx]
  unfold cutP at ih ⊢
  have e : (joinB (P.take k) ++ ⟨#[47]⟩ ++ P[k] : ByteArray).data.toList = (joinB (P.take k)).data.toList ++ ([47] ++ P[k].data.toList) := by simp [ByteArray.data_append]
  rw [e, List.foldl_append, ih, List.foldl_append, List.foldl_cons, List.foldl_nil, stepP_slash, step_name _ _ _ (name_noslash (h _ (List.getElem_mem _)))]
  congr 2
theorem cut_join {P : List ByteArray} (h : ∀ p ∈ P, NameOk p) : cutP (joinB P).data.toList = P := by
 have := cut_join_take h P.length (Nat.le_refl _)
 rwa [List.take_length] at this
def PartsR (s : ByteArray) (P : List ByteArray) (ok : Bool) : Prop := (ok = true ∧ PartsOk P ∧ joinPath P = s) ∨ (ok = false ∧ P = [] ∧ ∀ Q, PartsOk Q → joinPath Q ≠ s)
theorem joinPath_ok {P : List ByteArray} (h : PartsOk P) (hn : P ≠ []) : joinPath P = joinB P := by rw [joinPath, if_neg hn, if_pos h]
theorem joinPath_inj {P Q : List ByteArray} (h : PartsOk P) (k : PartsOk Q) (e : joinPath P = joinPath Q) : P = Q := by
 have one : ∀ R : List ByteArray, PartsOk R → R ≠ [] → joinB R ≠ ⟨#[47]⟩ := fun R hR hn he => by
  have h1 := cut_join hR.1
  rw [he] at h1
  have h2 : R = [⟨#[]⟩] := by rw [← h1]; simp [cutP, stepP]
  have h3 := (hR.1 ⟨#[]⟩ (by rw [h2]; simp)).2.1
  exact absurd h3 (by decide)
 by_cases hP : P = []
 ·by_cases hQ : Q = []
  ·rw [hP, hQ]
  ·rw [joinPath_ok k hQ, hP] at e
   exact absurd e.symm (by simpa [joinPath] using one Q k hQ)
 ·by_cases hQ : Q = []
  ·rw [joinPath_ok h hP, hQ] at e
   exact absurd e (by simpa [joinPath] using one P h hP)
  ·rw [joinPath_ok h hP, joinPath_ok k hQ] at e
   rw [← cut_join h.1, ← cut_join k.1, e]
structure Cr where
 r : Int
 a : Int
 s : Int
 g : Int
def Cr.ok (c : Cr) : Prop := CredOk c.r c.a c.s c.g
def Cr.may (c : Cr) (x : Nd) (want : Int) : Bool := mayDo c.r c.a c.s c.g x.own x.grp x.mode want
noncomputable def partsOf (s : ByteArray) : Option (List ByteArray) := open Classical in if h : ∃ P, PartsOk P ∧ joinPath P = s then some h.choose else none
theorem partsOf_some {s : ByteArray} {P : List ByteArray} (h : PartsOk P) (e : joinPath P = s) : partsOf s = some P := by
 have hx : ∃ P, PartsOk P ∧ joinPath P = s := ⟨P, h, e⟩
 rw [partsOf, dif_pos hx]
 exact congrArg some (joinPath_inj hx.choose_spec.1 h (hx.choose_spec.2.trans e.symm))
theorem partsOf_none {s : ByteArray} (h : ∀ Q, PartsOk Q → joinPath Q ≠ s) : partsOf s = none := by
 rw [partsOf, dif_neg]
 rintro ⟨P, h1, h2⟩
 exact h P h1 h2
theorem partsOf_ok {s : ByteArray} {P : List ByteArray} (h : partsOf s = some P) : PartsOk P ∧ joinPath P = s := by
 rw [partsOf] at h
 split at h
 ·rename_i hx; cases h; exact hx.choose_spec
 ·cases h
theorem partsR_of {s : ByteArray} {P : List ByteArray} {ok : Bool} (h : PartsR s P ok) : partsOf s = if ok = true then some P else none := by
 rcases h with ⟨rfl, h1, h2⟩ | ⟨rfl, _, h2⟩
 ·rw [if_pos rfl]; exact partsOf_some h1 h2
 ·rw [if_neg (by simp)]; exact partsOf_none h2
noncomputable def aboveOf (s : ByteArray) : Option (ByteArray × ByteArray) := match partsOf s with
 | none => none
 | some P => match P.getLast? with
  | none => none
  | some l => some (joinPath P.dropLast, l)
theorem aboveOf_name {s a n : ByteArray} (h : aboveOf s = some (a, n)) : NameOk n := by
 rw [aboveOf] at h
 split at h
 ·cases h
 ·rename_i P hP
  split at h
  ·cases h
  ·rename_i l hl
   cases h
   exact (partsOf_ok hP).1.1 n (List.mem_of_getLast? hl)
noncomputable def findFrom (T : List Nd) (c : Cr) : List ByteArray → Int → Int × Int
 | [], i => (i, 0)
 | p :: P, i => match T[i.toNat]? with
  | none => (-1, 2)
  | some x => if x.fold = false then (-1, 4) else if c.may x 1 = false then (-1, 3) else if kidOf x.N x.K p < 0 then (-1, 2) else findFrom T c P (kidOf x.N x.K p)
theorem kidOf_in {T : List Nd} (h : TreeOk T) {k : Nat} {x : Nd} (hx : T[k]? = some x) {p : ByteArray} (hp : 0 ≤ kidOf x.N x.K p) : kidOf x.N x.K p < T.length := by
 have := inB_iff.1 (nodeOk_kid (h.nodes k x hx) (kidOf_mem _ _ _ hp))
 omega
theorem findFrom_in {T : List Nd} (h : TreeOk T) (c : Cr) : ∀ (P : List ByteArray) (i : Int), 0 ≤ i → i < T.length → ((findFrom T c P i).2 = 0 ∧ 0 ≤ (findFrom T c P i).1 ∧ (findFrom T c P i).1 < T.length) ∨ ((findFrom T c P i).2 ≠ 0 ∧ (findFrom T c P i).1 = -1)
 | [], i, h0, h1 => .inl ⟨rfl, h0, h1⟩
 | p :: P, i, h0, h1 => by
  have hx : T[i.toNat]? = some T[i.toNat] := List.getElem?_eq_getElem (by omega)
  rw [findFrom, hx]
  dsimp only
  split
  ·exact .inr ⟨by simp, rfl⟩
  ·split
   ·exact .inr ⟨by simp, rfl⟩
   ·split
    ·exact .inr ⟨by simp, rfl⟩
    ·rename_i hk
     have hk0 : 0 ≤ kidOf T[i.toNat].N T[i.toNat].K p := by omega
     exact findFrom_in h c P _ hk0 (kidOf_in h hx hk0)
noncomputable def findNode (T : List Nd) (c : Cr) (s : ByteArray) : Int × Int := open Classical in match partsOf s with
 | none => (-1, 1)
 | some P => if TreeOk T ∧ c.ok then findFrom T c P 0 else (-1, 1)
theorem findNode_in (T : List Nd) (c : Cr) (s : ByteArray) : ((findNode T c s).2 = 0 ∧ 0 ≤ (findNode T c s).1 ∧ (findNode T c s).1 < T.length ∧ TreeOk T ∧ c.ok) ∨ ((findNode T c s).2 ≠ 0 ∧ (findNode T c s).1 = -1) := by
 rw [findNode]
 split
 ·exact .inr ⟨by simp, rfl⟩
 ·rename_i P hP
  split
  ·rename_i hT
   have hpos := hT.1.pos
   rcases findFrom_in hT.1 c P 0 (by omega) (by omega) with ⟨h1, h2, h3⟩ | h
   ·exact .inl ⟨h1, h2, h3, hT⟩
   ·exact .inr h
  ·exact .inr ⟨by simp, rfl⟩
noncomputable def placeFor (T : List Nd) (c : Cr) (s : ByteArray) : Int × Int := match aboveOf s with
 | none => (-1, 1)
 | some (ab, nm) => if (findNode T c ab).2 ≠ 0 then (-1, (findNode T c ab).2) else match T[(findNode T c ab).1.toNat]? with
  | none => (-1, 1)
  | some x => if x.fold = false then (-1, 4) else if c.may x 3 = false then (-1, 3) else if 0 ≤ kidOf x.N x.K nm then (-1, 5) else ((findNode T c ab).1, 0)
theorem placeFor_in (T : List Nd) (c : Cr) (s : ByteArray) : (∃ ab nm n x, placeFor T c s = (((n : Nat) : Int), 0) ∧ aboveOf s = some (ab, nm) ∧ NameOk nm ∧ T[n]? = some x ∧ x.fold = true ∧ nm ∉ x.N ∧ TreeOk T ∧ c.ok) ∨ ((placeFor T c s).2 ≠ 0 ∧ (placeFor T c s).1 = -1) := by
 rw [placeFor]
 split
 ·exact .inr ⟨by simp, rfl⟩
 ·rename_i ab nm hab
  have hF := findNode_in T c ab
  generalize findNode T c ab = F at *
  obtain ⟨n, f⟩ := F
  dsimp only at hF ⊢
  split
  ·rename_i hf; exact .inr ⟨hf, rfl⟩
  ·rename_i hf
   obtain ⟨h1, h2, h3, h4, h5⟩ := hF.resolve_right (fun h => hf h.1)
   have hx : T[n.toNat]? = some T[n.toNat] := List.getElem?_eq_getElem (by omega)
   rw [hx]
   dsimp only
   split
   ·exact .inr ⟨by simp, rfl⟩
   ·split
    ·exact .inr ⟨by simp, rfl⟩
    ·split
     ·exact .inr ⟨by simp, rfl⟩
     ·rename_i g1 g2 g3
      have hN := h4.nodes _ _ hx
      refine .inl ⟨ab, nm, n.toNat, T[n.toNat], by rw [show ((n.toNat : Nat) : Int) = n by omega], hab, aboveOf_name hab, hx, by simpa using g1, kidOf_none _ _ _ hN.len (fun y hy => ?_) (by omega), h4, h5⟩
      have := inB_iff.1 (nodeOk_kid hN hy); omega
noncomputable def lastOf (s : ByteArray) : ByteArray := match aboveOf s with
 | none => ⟨#[]⟩
 | some (_, n) => n
def newNd (folder : Bool) (own grp mode : Int) : Nd := ⟨folder, own, grp, mode, ⟨#[]⟩, [], []⟩
noncomputable def makeNode (T : List Nd) (c : Cr) (s : ByteArray) (folder : Bool) (mode : Int) : List Nd × Int :=
 if inB mode 0 1023 = false then ([], 1) else if (placeFor T c s).2 ≠ 0 then ([], (placeFor T c s).2) else if T.length = 16 then ([], 6) else match T[(placeFor T c s).1.toNat]? with
  | none => ([], 1)
  | some x => (T.set (placeFor T c s).1.toNat (putNd x (lastOf s) (T.length : Int)) ++ [newNd folder c.a x.grp mode], 0)
theorem makeNode_ok (T : List Nd) (c : Cr) (s : ByteArray) (folder : Bool) (mode : Int) : ((makeNode T c s folder mode).2 = 0 ∧ TreeOk T ∧ TreeOk (makeNode T c s folder mode).1 ∧ (makeNode T c s folder mode).1.length = T.length + 1 ∧ ∃ g, (makeNode T c s folder mode).1[T.length]? = some (newNd folder c.a g mode)) ∨ ((makeNode T c s folder mode).2 ≠ 0 ∧ (makeNode T c s folder mode).1 = []) := by
 rw [makeNode]
 split
 ·exact .inr ⟨by simp, rfl⟩
 ·rename_i hm
  split
  ·rename_i hf; exact .inr ⟨hf, rfl⟩
  ·rename_i hf
   rcases placeFor_in T c s with ⟨ab, nm, n, x, hp, hab, hn, hx, hxf, hni, hT, hc⟩ | h
   ·rw [hp]
    split
    ·exact .inr ⟨by simp, rfl⟩
    ·rename_i h16
     dsimp only
     rw [Int.toNat_natCast, hx]
     have hmax := hT.max
     have e : lastOf s = nm := by rw [lastOf, hab]
     rw [e]
     refine .inl ⟨rfl, hT, tree_make hT hx hxf hn hni (by omega) ?_ rfl, by simp, x.grp, by simp⟩
     have hN := hT.nodes n x hx
     refine ⟨hc.2.1, hN.grp, ?_, rfl, fun _ => rfl, fun _ => ?_, Nat.zero_le _, fun k hk => absurd hk (Nat.not_lt_zero _)⟩
     ·have hm2 : ¬ inB mode 0 1023 = false := hm
      simpa [newNd] using hm2
     ·exact isEmpty_size.2 rfl
   ·exact absurd h.1 hf
noncomputable def linkName (T : List Nd) (c : Cr) (src dst : ByteArray) : List Nd × Int :=
 if (findNode T c src).2 ≠ 0 then ([], (findNode T c src).2) else match T[(findNode T c src).1.toNat]? with
  | none => ([], 1)
  | some z => if z.fold = true then ([], 4) else if (placeFor T c dst).2 ≠ 0 then ([], (placeFor T c dst).2) else match T[(placeFor T c dst).1.toNat]? with
   | none => ([], 1)
   | some x => (T.set (placeFor T c dst).1.toNat (putNd x (lastOf dst) (findNode T c src).1), 0)
theorem linkName_ok (T : List Nd) (c : Cr) (src dst : ByteArray) : ((linkName T c src dst).2 = 0 ∧ TreeOk T ∧ TreeOk (linkName T c src dst).1 ∧ (linkName T c src dst).1.length = T.length) ∨ ((linkName T c src dst).2 ≠ 0 ∧ (linkName T c src dst).1 = []) := by
 rw [linkName]
 split
 ·rename_i hf; exact .inr ⟨hf, rfl⟩
 ·rename_i hf
  have hF := findNode_in T c src
  generalize findNode T c src = F at *
  obtain ⟨kd, f⟩ := F
  dsimp only at hF hf ⊢
  obtain ⟨h1, h2, h3, h4, h5⟩ := hF.resolve_right (fun h => hf h.1)
  have hz : T[kd.toNat]? = some T[kd.toNat] := List.getElem?_eq_getElem (by omega)
  rw [hz]
  dsimp only
  split
  ·exact .inr ⟨by simp, rfl⟩
  ·rename_i hzf
   split
   ·rename_i hf; exact .inr ⟨hf, rfl⟩
   ·rename_i hf2
    rcases placeFor_in T c dst with ⟨ab, nm, n, x, hp, hab, hn, hx, hxf, hni, hT, hc⟩ | h
    ·rw [hp]
     dsimp only
     rw [Int.toNat_natCast, hx]
     have e : lastOf dst = nm := by rw [lastOf, hab]
     rw [e]
     have ek : kd = ((kd.toNat : Nat) : Int) := by omega
     rw [ek]
     exact .inl ⟨rfl, hT, tree_link_ok hT hx hxf hn hni hz (by simpa using hzf), by simp⟩
    ·exact absurd h.1 hf2
section
variable {P : Program} {α : Type}
theorem run_append_blk (w : World) (base : Nat) (t ty e : TypeId) (i : TypeInfo) (z : Value) (size bytes : Nat) (ht : P.underlying t = some (.slice e)) (hi : P.info? e = some i) (hz : i.zero = some z)
  (hsize : i.size = size) (hby : i.bytes = bytes) (hzs : z.cells.size = size) (hsz : 0 < size)
  (v : Value) (n : Nat) (xs : List Value) (hown : w.ownsRow base e size v n xs)
  (a : Addr) (m c : Nat) (news : List Value) (hl : news.length = m * size) (hnews : ∀ j u, news[j]? = some u → w.cell? (a.add j) = some u) (h1 : ∀ u ∈ news, u.oneCell' = true)
  (h63 : n + m ≤ maxLen) (hbytes : (n + m) * bytes ≤ 140737488355328) (hbase : base ≤ w.heap.size) :
  ∃ v' w', (Builtin.append_ #[t, t] ty #[v, .slice (some a) m c]).run P w = .ok v' w' ∧ w'.ownsRow base e size v' (n + m) (xs ++ news) ∧ w.grownBy w' v.ownBlock ∧
   (∀ b, v'.ownBlock = some b → v.ownBlock = some b ∨ w.heap.size ≤ b) := by
 obtain ⟨v', w', hr, ho, hg, _⟩ := run_append_own (P := P) w base t ty e i z size bytes ht hi hz hsize hby hzs hsz v n xs hown a m c news hl hnews h1 h63 hbytes hbase
 refine ⟨v', w', hr, ho, hg, fun b hb => ?_⟩
 rcases hown.2 with ⟨rfl, rfl⟩ | ⟨g, cap, cur, rfl, hbg, hgg, hnc, hcm, hcs, htake⟩
 ·have hx : xs = [] := List.eq_nil_of_length_eq_zero (by simpa using hown.1)
  subst hx
  obtain ⟨v2, w2, hr2, ho2, _⟩ := run_append_own (P := P) w w.heap.size t ty e i z size bytes ht hi hz hsize hby hzs hsz _ 0 [] (World.ownsRow_nil w w.heap.size e size) a m c news hl hnews h1 h63 hbytes (Nat.le_refl _)
  rw [hr] at hr2
  cases hr2
  exact .inr (World.ownsRow.lt ho2 b hb).1
 ·by_cases hroom : n + m ≤ cap
  ·obtain ⟨w2, hr2, _⟩ := run_append_fits (P := P) w base t ty e i size ht hi hsize g n cap xs hown a m c news hl hnews h1 hroom
   rw [hr] at hr2
   cases hr2
   exact .inl hb
  ·subst hsize hby
   have hsmall : n + m ≤ 9223372036854775807 := by simp only [maxLen] at h63; omega
   have holds : ∀ j u, xs[j]? = some u → w.cell? ((⟨g, 0, none⟩ : Addr).add j) = some u := hown.cells (g := g) rfl
   have hr2 := run_append_grow (P := P) w t ty e i z ht hi hz ⟨g, 0, none⟩ n cap xs hown.1 holds a m c news hl hnews (by omega) (by omega) (growslice_fits (by omega) hbytes)
   rw [hr] at hr2
   cases hr2
   simp only [Value.ownBlock, Option.some.injEq] at hb
   exact .inr (by omega)
theorem wpList_append_b {w : World} {ops : Array Oper} {rest : List Oper} {o : Oper} {a : Act} {Q : Exit → Act → World → Prop} (hgd : o.guard = none) (s x : Operand) (t : TypeId)
  (ho : o.op = .call { callee := .builtin .append, args := #[s, x], argTypes := #[t, t] })
  (base : Nat) (e : TypeId) (z : Value) (size bytes : Nat) (ht : P.underlying t = some (.slice e)) (hinfo : (P.info? e).map (fun i => (i.zero, i.size, i.bytes)) = some (some z, size, bytes))
  (hzs : z.cells.size = size) (hsz : 0 < size)
  {enc : α → List Value} (hn : ∀ x, (enc x).length = size) (h1 : ∀ x, ∀ u ∈ enc x, u.oneCell' = true)
  (v : Value) (n : Nat) (L : List α) (hs : a.eval s = v) (hown : w.ownsRow base e size v n (L.flatMap enc)) (hnL : n = L.length)
  (ao : Option Addr) (m c : Nat) (l : List α) (hx : a.eval x = .slice ao m c) (hm : m = l.length) (hrd : Rd size enc w ao l)
  (h63 : n + m ≤ 1000000000) (hbytes : bytes ≤ 1000) (hbase : base ≤ w.heap.size)
  (h : ∀ v' w', w'.ownsRow base e size v' (L ++ l).length ((L ++ l).flatMap enc) → w.grownBy w' v.ownBlock → (∀ b, v'.ownBlock = some b → v.ownBlock = some b ∨ w.heap.size ≤ b) → wpList P ops Q rest (a.put o.dst v') w') : wpList P ops Q (o :: rest) a w := by
 obtain ⟨i, hi, hz, hsize, hby⟩ := info_parts hinfo
 subst hm hnL
 cases ao with
 | some ad =>
  obtain ⟨v', w', hr, h2, h3, h4⟩ := run_append_blk (P := P) w base t o.type e i z size bytes ht hi hz hsize hby hzs hsz v L.length (L.flatMap enc) hown ad l.length c (l.flatMap enc) (flatMap_length hn l) (rd_flat hn hrd) (by
   intro u hu
   obtain ⟨y, _, hy⟩ := List.mem_flatMap.1 hu
   exact h1 y u hy) (by unfold maxLen; omega) (by
   have : (L.length + l.length) * bytes ≤ 1000000000 * 1000 := Nat.mul_le_mul h63 hbytes
   omega) hbase
  refine wpList_plain hgd fun K hK => ?_
  unfold Oper.wp execOp
  simp only [ho, resolve, invoke, builtin, Sem.run_bind, Sem.run_pure, Result.andThen_ok, List.map_toArray, List.map_cons, List.map_nil, hs, hx, hr]
  exact hK _ _ (h v' w' (by rw [List.length_append, List.flatMap_append]; exact h2) h3 h4)
 | none =>
  have hl : l = [] := by
   cases l with
   | nil => rfl
   | cons y l => obtain ⟨b, off, h0, _⟩ := hrd 0 (by simp); cases h0
  subst hl
  refine wpList_plain hgd fun K hK => ?_
  have hr := run_append_none (P := P) w base t o.type e i size ht hi v L.length c _ hown
  have h2 := h v w (by simpa using hown) ⟨rfl, rfl, rfl, Nat.le_refl _, fun _ _ _ => rfl⟩ (fun b hb => .inl hb)
  unfold Oper.wp execOp
  simp only [ho, resolve, invoke, builtin, Sem.run_bind, Sem.run_pure, Result.andThen_ok, List.map_toArray, List.map_cons, List.map_nil, hs, hx, List.length_nil, hr]
  exact hK _ _ h2
end
theorem cutP_step {s : ByteArray} {k : Nat} (h : k < s.size) : cutP (s.data.toList.take (k + 1)) = stepP (cutP (s.data.toList.take k)) s[k] := by
 have h' : k < s.data.toList.length := by rw [Array.length_toList]; exact h
 rw [List.take_add_one, List.getElem?_eq_getElem h']
 unfold cutP
 rw [List.foldl_append]
 rfl
theorem cutP_len : ∀ (l : List UInt8), (cutP l).length ≤ l.length := fun l => by
 unfold cutP
 suffices h : ∀ (l : List UInt8) (Q : List ByteArray), (l.foldl stepP Q).length ≤ Q.length + l.length by simpa using h l []
 intro l
 induction l with
 | nil => intro Q; simp
 | cons c l ih =>
  intro Q
  rw [List.foldl_cons]
  have h1 := ih (stepP Q c)
  have h2 : (stepP Q c).length ≤ Q.length + 1 := by
   unfold stepP
   split
   ·simp
   ·split
    ·simp
    ·simp
  simp only [List.length_cons]
  omega
theorem joinPath_size (P : List ByteArray) : (joinPath P).size ≤ 54 := by
 have key : ∀ (Q : List ByteArray) (o : ByteArray), (∀ p ∈ Q, p.size ≤ 8) → (Q.foldl (fun o p => o ++ ⟨#[47]⟩ ++ p) o).size ≤ o.size + 9 * Q.length := by
  intro Q
  induction Q with
  | nil => intro o _; simp
  | cons p Q ih =>
   intro o h
   have h1 := ih (o ++ ⟨#[47]⟩ ++ p) (fun q hq => h q (List.mem_cons_of_mem _ hq))
   have h2 := h p (List.mem_cons_self ..)
   rw [ByteArray.size_append, ByteArray.size_append] at h1
   have h3 : (⟨#[47]⟩ : ByteArray).size = 1 := rfl
   rw [List.foldl_cons, List.length_cons]
   omega
 rw [joinPath]
 split
 ·show 1 ≤ 54; omega
 ·split
  ·rename_i h
   have h1 := key P ⟨#[]⟩ (fun p hp => (h.1 p hp).2.2)
   have h2 := h.2
   have h3 : (⟨#[]⟩ : ByteArray).size = 0 := rfl
   unfold joinB
   omega
  ·show 0 ≤ 54; omega
theorem joinPath_pos {Q : List ByteArray} (h : PartsOk Q) : 0 < (joinPath Q).size := by
 by_cases hQ : Q = []
 ·rw [joinPath, if_pos hQ]; show 0 < 1; omega
 ·rw [joinPath_ok h hQ]; exact joinB_size_pos hQ
theorem parts_root {s : ByteArray} (h : s = ⟨#[47]⟩) : PartsR s [] true := .inl ⟨rfl, ⟨fun p hp => (by cases hp), Nat.zero_le _⟩, by rw [h]; simp [joinPath]⟩
theorem parts_of_join {s : ByteArray} {Q : List ByteArray} (hs : s ≠ ⟨#[47]⟩) (h : PartsOk Q) (e : joinPath Q = s) : cutP s.data.toList = Q := by
 have hQ : Q ≠ [] := fun hq => hs (by rw [← e, joinPath, if_pos hq])
 rw [← e, joinPath_ok h hQ]
 exact cut_join h.1
theorem parts_yes {s : ByteArray} {X : List ByteArray} (hs : s ≠ ⟨#[47]⟩) (hp : 0 < s.size) (h : joinPath X = s) : PartsR s X true := by
 have hX : X ≠ [] := fun hx => hs (by rw [← h, joinPath, if_pos hx])
 refine .inl ⟨rfl, ?_, h⟩
 rw [joinPath, if_neg hX] at h
 split at h
 ·rename_i ho; exact ho
 ·rw [← h] at hp; exact absurd hp (by decide)
theorem parts_no {s : ByteArray} {X : List ByteArray} (hs : s ≠ ⟨#[47]⟩) (hX : X = cutP s.data.toList) (h : joinPath X ≠ s) : PartsR s [] false := .inr ⟨rfl, rfl, fun Q hQ e => h (by rw [hX, parts_of_join hs hQ e]; exact e)⟩
theorem parts_empty {s : ByteArray} (h : s.size = 0) : PartsR s [] false := .inr ⟨rfl, rfl, fun Q hQ e => by have := joinPath_pos hQ; rw [e] at this; omega⟩
theorem stepP_last {Q : List ByteArray} {c : UInt8} {l : ByteArray} {m : Nat} (hc : c ≠ 47) (hm : Q.length = m + 1) (hl : Q[m]? = some l) : stepP Q c = Q.set m (l ++ ⟨#[c]⟩) := by
 obtain ⟨R, y, rfl⟩ : ∃ R y, Q = R ++ [y] := ⟨Q.dropLast, Q.getLast (by intro e; rw [e] at hm; simp at hm), (List.dropLast_concat_getLast _).symm⟩
 have hR : R.length = m := by simpa using hm
 subst hR
 rw [List.getElem?_append_right (Nat.le_refl _), Nat.sub_self] at hl
 simp only [List.getElem?_cons_zero, Option.some.injEq] at hl
 subst hl
 rw [stepP_char _ _ hc, List.set_append, if_neg (Nat.lt_irrefl _), Nat.sub_self]
 rfl
theorem stepP_none {c : UInt8} (hc : c ≠ 47) : stepP [] c = [] := by simp [stepP, hc]
theorem ext_one {s : ByteArray} {k : Nat} (h : k < s.size) : s.extract k (k + 1) = ⟨#[s[k]]⟩ := by
 apply ByteArray.ext
 rw [ByteArray.data_extract]
 apply Array.ext
 ·simp only [Array.size_extract, List.size_toArray, List.length_singleton]
  have : s.data.size = s.size := rfl
  omega
 ·intro i h1 h2
  have : i = 0 := by simpa using h2
  subst this
  simp
  rfl
theorem infoStr1 : (Tryz.prog.info? 9).map (fun i => (i.zero, i.size, i.bytes)) = some (some (.string ByteArray.empty), 1, 16) := by kernel_rfl
theorem row_blk {α : Type} {w : World} {base e nf : Nat} {enc : α → List Value} {a : Option Addr} {n cap : Nat} {l : List α} (hn : ∀ x, (enc x).length = nf) (h : w.ownsRow base e nf (.slice a n cap) l.length (l.flatMap enc)) (hl : 0 < l.length) : ∃ g, a = some ⟨g, 0, none⟩ := by
 obtain ⟨a', c', hv, _, _, h2⟩ := view_owns hn h
 simp only [Value.slice.injEq] at hv
 rw [hv.1]
 rcases h2 with ⟨_, h3, _⟩ | ⟨g, h3, _⟩
 ·rw [h3] at hl; exact absurd hl (Nat.lt_irrefl 0)
 ·exact ⟨g, h3⟩
def RetParts (s : ByteArray) (w : World) (e : Ending) (w' : World) : Prop := ∃ u P ok, e = .returned (.tuple #[u, .bool ok]) ∧ PartsR s P ok ∧ Sep w w' [plRow 9 1 encStr1 u P]
theorem RetParts.mk {s : ByteArray} {w w' : World} {u : Value} {P : List ByteArray} (ok : Bool) (h : PartsR s P ok) (S : Sep w w' [plRow 9 1 encStr1 u P]) : RetParts s w (.returned (.tuple #[u, .bool ok])) w' := ⟨u, P, ok, rfl, h, S⟩
set_option maxRecDepth 10000 in
set_option maxHeartbeats 8000000 in
theorem specPathParts (s : ByteArray) (w : World) (hs : s.size ≤ 1048576) :
  Calls Tryz.prog 106 #[.string s] w (RetParts s w) := by
 by_cases hr : s = ⟨#[47]⟩
 ·have HR := Lib.hid (parts_root hr)
  subst hr
  go_enter Tryz.func106, Tryz.ntmps106
  have S := Sep.start w
  replace S : Sep w (w.alloc (.cells #[] 9)) [plRow 9 1 encStr1 (.slice (some ⟨w.heap.size, 0, none⟩) 0 0) []] := S.lit0 (by simp) _ _ _
  go_wp2
  go_ret2
  exact RetParts.mk true HR.out S
 have tr : (s.toList == [47]) = false := Bool.eq_false_iff.2 (fun h => hr (bytes_eq.1 (by rw [eq_of_beq h, ByteArray.toList_eq])))
 have HRt := Lib.hid hr
 have HT := Lib.hid tr
 clear hr
 go_enter Tryz.func106, Tryz.ntmps106
 have S := Sep.start w
 replace S : Sep w (w.alloc (.cells #[] 9)) [plRow 9 1 encStr1 (.slice (some ⟨w.heap.size, 0, none⟩) 0 0) []] := S.lit0 (by simp) _ _ _
 go_wp2
 generalize (w.alloc (.cells #[] 9)) = w1 at *
 clear tr
 go_loopw [4, 5] (fun o i wr => ∃ (k : Nat) (a : Option Addr) (c : Nat) (X : List ByteArray), k ≤ s.size ∧ i = .int .i64 k ∧ o = .slice a X.length c ∧ X = cutP (s.data.toList.take k) ∧ (∀ x ∈ X, x.size ≤ k) ∧ Sep w wr [plRow 9 1 encStr1 (.slice a X.length c) X]) (fun _ i _ => s.size - (intOf i).toNat)
 case atStart => exact ⟨0, some ⟨w.heap.size, 0, none⟩, 0, [], Nat.zero_le _, rfl, rfl, by simp [cutP], fun x hx => (by cases hx), S⟩
 case round =>
  clear S
  obtain ⟨k, a, c, X, hk, rfl, rfl, hX, hF, S⟩ := hrel
  have hXl : X.length ≤ k := by
   have h1 := cutP_len (s.data.toList.take k)
   rw [← hX, List.length_take] at h1
   omega
  have HX := Lib.hid hX
  have HF := Lib.hid hF
  clear hX hF
  by_cases hlt : k < s.size
  rotate_left
  ·obtain rfl : k = s.size := by omega
   have hni : ¬ (s.size : Int) < (s.size : Int) := by omega
   have hXe : Hid (X = cutP s.data.toList) := Lib.hid (by rw [HX.out, List.take_of_length_le (by rw [Array.length_toList]; exact Nat.le_refl _)])
   by_cases h0 : s.size = 0
   ·have HR := Lib.hid (parts_empty h0)
    have te : s.toList.isEmpty = true := isEmpty_size.2 h0
    go_wp2
    have SM := S.cons (p := plRow 9 1 encStr1 (.slice (some ⟨wr.heap.size, 0, none⟩) 0 0) []) ((Ext.refl wr).alloc (.cells #[] 9)) (by
     exact ⟨by simp, .inr ⟨wr.heap.size, 0, #[], rfl, Nat.zero_le _, heap_alloc_new wr _, Nat.le_refl _, Nat.zero_le _, by simp, by simp⟩⟩) (fun b hb => by
     have : wr.heap.size = b := Option.some.inj hb
     omega)
    have SD := SM.drop 1
    go_ret2
    exact RetParts.mk false HR.out SD
   ·have te : s.toList.isEmpty = false := isEmpty_pos (by omega)
    have HP : Hid (0 < s.size) := Lib.hid (by omega)
    have hr1 : Rd 1 encStr1 wr a X := S.rd 0 encStr1_len rfl rfl
    go_wp2_with fail
    refine (specJoinPath a c X wr (by omega) (fun x hx => by have := HF.out x hx; omega) hr1).mono ?_
    rintro e w2 ⟨v, rfl, rfl, hE⟩
    replace S := S.step hE
    clear hE
    clear hr1
    by_cases hj : joinPath X = s
    ·have HR := Lib.hid (parts_yes HRt.out HP.out hj)
     rw [hj]
     clear hj
     go_wp2
     go_ret2
     exact RetParts.mk true HR.out S
    ·have HR := Lib.hid (parts_no HRt.out hXe.out hj)
     have tj : ((joinPath X).toList == s.toList) = false := by simpa [bytes_eq] using hj
     clear hj
     generalize joinPath X = J at *
     go_wp2
     have SM := S.cons (p := plRow 9 1 encStr1 (.slice (some ⟨w2.heap.size, 0, none⟩) 0 0) []) ((Ext.refl w2).alloc (.cells #[] 9)) (by
      exact ⟨by simp, .inr ⟨w2.heap.size, 0, #[], rfl, Nat.zero_le _, heap_alloc_new w2 _, Nat.le_refl _, Nat.zero_le _, by simp, by simp⟩⟩) (fun b hb => by
      have : w2.heap.size = b := Option.some.inj hb
      omega)
     have SD := SM.drop 1
     go_ret2
     exact RetParts.mk false HR.out SD
  ·have i0 : (k : Int) < (s.size : Int) := by omega
   have i00 : (0 : Int) ≤ (k : Int) := by omega
   have HS1 := Lib.hid (cutP_step hlt)
   by_cases hc : s[k].toNat = 47
   ·have hc8 : s[k] = 47 := UInt8.toNat_inj.1 hc
    have tc : (s[k].toNat : Int) = 47 := by omega
    have HN : Hid (X ++ [⟨#[]⟩] = cutP (s.data.toList.take (k + 1))) := Lib.hid (by rw [HS1.out, hc8, stepP_slash, ← HX.out])
    have HFN : Hid (∀ x ∈ X ++ [(⟨#[]⟩ : ByteArray)], x.size ≤ k + 1) := Lib.hid (fun x hx => by
     rcases List.mem_append.1 hx with hx | hx
     ·have := HF.out x hx; omega
     ·rw [List.mem_singleton.1 hx]; exact Nat.zero_le _)
    clear hc8 hc HS1
    have SA := S.alloc #[.string ⟨#[]⟩] 9
    have rd1 : Rd 1 encStr1 (wr.alloc (.cells #[.string ⟨#[]⟩] 9)) (some ⟨wr.heap.size, 0, none⟩) [(⟨#[]⟩ : ByteArray)] := rd_lit_new [(⟨#[]⟩ : ByteArray)] encStr1_len rfl
    go_wp2_with (at_builtin; refine Hid.out (?_ : Hid _))
    unfold Hid
    refine wpList_append_b rfl _ _ 39 rfl w.heap.size 9 _ 1 _ Tryz.underlying39 infoStr1 rfl (by decide) encStr1_len encStr1_one _ X.length X rfl (SA.row (0 + 1) rfl) rfl (some ⟨wr.heap.size, 0, none⟩) 1 1 [(⟨#[]⟩ : ByteArray)] rfl rfl rd1 (by omega) (by omega) SA.chg.size ?_
    intro v7 w7 ho hgr hblk
    obtain ⟨G, hG⟩ : ∃ G, G = X ++ [(⟨#[]⟩ : ByteArray)] := ⟨_, rfl⟩
    rw [← hG] at ho HN HFN
    obtain ⟨a7, c7, hv7, hk7, _, _⟩ := view_owns encStr1_len ho
    subst hv7
    have SM := (SA.grow (0 + 1) rfl hgr ho hblk).drop 0
    clear ho hgr hblk SA rd1 S hG
    go_wp2
    go_roundw
    case rel => exact ⟨k + 1, a7, c7, G, by omega, by go_num, rfl, HN.out, HFN.out, SM⟩
    case measure => simp [intOf]; omega
   ·have hc8 : s[k] ≠ 47 := fun h => hc (by rw [h]; rfl)
    have tc : ((s[k].toNat : Int) == 47) = false := by simp; omega
    by_cases h0 : X = []
    ·have HN : Hid (X = cutP (s.data.toList.take (k + 1))) := Lib.hid (by rw [HS1.out, ← HX.out, h0, stepP_none hc8])
     have HFN : Hid (∀ x ∈ X, x.size ≤ k + 1) := Lib.hid (fun x hx => by have := HF.out x hx; omega)
     have t0 : ¬ (0 : Int) < (X.length : Int) := by rw [h0]; simp
     clear hc8 hc HS1
     go_wp2
     go_roundw
     case rel => exact ⟨k + 1, a, c, X, by omega, by go_num, rfl, HN.out, HFN.out, S⟩
     case measure => simp [intOf]; omega
    ·obtain ⟨m, hm⟩ : ∃ m, X.length = m + 1 := ⟨X.length - 1, by have := List.length_pos_iff.2 h0; omega⟩
     have hx : X[m]? = some X[m] := List.getElem?_eq_getElem (by omega)
     obtain ⟨l, hl⟩ : ∃ l, l = X[m] := ⟨_, rfl⟩
     rw [← hl] at hx
     have hrow := S.row 0 rfl
     obtain ⟨g, rfl⟩ := row_blk encStr1_len hrow (by omega)
     have g0 : wr.cell? ⟨g, m, none⟩ = some (.string l) := by
      have := owns_at encStr1_len hrow m (by omega) 0 (.string l) (by rw [← hl]; rfl)
      simpa using this
     have hls := HF.out l (List.mem_of_getElem? hx)
     have HN : Hid (X.set m (l ++ s.extract k (k + 1)) = cutP (s.data.toList.take (k + 1))) := Lib.hid (by rw [HS1.out, ← HX.out, stepP_last hc8 hm hx, ext_one hlt])
     have hE1 : (s.extract k (k + 1)).size = 1 := by rw [ext_one hlt]; rfl
     have HFN : Hid (∀ x ∈ X.set m (l ++ s.extract k (k + 1)), x.size ≤ k + 1) := Lib.hid (fun x hx => by
      rcases List.mem_or_eq_of_mem_set hx with hx | rfl
      ·have := HF.out x hx; omega
      ·rw [ByteArray.size_append]; omega)
     have hml : m < X.length := by omega
     have t0 : (0 : Int) < (X.length : Int) := by omega
     have HXm := Lib.hid hm
     have hw1 : IntKind.i64.wrap ((X.length : Int) - 1) = (m : Int) := by rw [show (X.length : Int) - 1 = m by omega]; exact IntWalk.i64_in _ (by omega)
     have hmi : (m : Int) < (X.length : Int) := by omega
     have hwk : IntKind.i64.wrap ((k : Int) + 1) = (k : Int) + 1 := IntWalk.i64_in _ (by omega)
     have hsz : ¬ 9223372036854775807 < l.size + 1 := by omega
     have hkt : ((k : Int) + 1).toNat = k + 1 := by omega
     have hk1 : (k : Int) + 1 ≤ (s.size : Int) := by omega
     have hk2 : (k : Int) ≤ (k : Int) + 1 := by omega
     have hk3 : (0 : Int) ≤ (k : Int) + 1 := by omega
     clear hc8 hc HS1 hl hx h0 hm
     go_wp2_with fail
     go_still_tail 17, (by kernel_rfl)
     change wpList _ _ _ _ _ wr.drew
     generalize hw2 : wr.drew = w2
     have he2 : Ext wr w2 := by rw [← hw2]; exact (Ext.refl wr).drew
     have SM := (S.step he2).rowSet 0 encStr1_len rfl rfl m 0 (.string (l ++ s.extract k (k + 1))) (l ++ s.extract k (k + 1)) hml (by omega) rfl
     have f0 := (S.step he2).row 0 rfl |>.frozenAt
     have g2 := cell_ext he2 g0
     have HSM := Lib.hid SM
     clear SM S g0 hw2 hrow
     go_wp2
     go_roundw
     case rel => exact ⟨k + 1, some ⟨g, 0, none⟩, c, X.set m (l ++ s.extract k (k + 1)), by omega, by go_num, by rw [List.length_set], HN.out, HFN.out, by simpa using HSM.out⟩
     case measure => simp [intOf]; omega
set_option maxRecDepth 10000 in
set_option maxHeartbeats 8000000 in
theorem specLinksOf (a : Option Addr) (cap : Nat) (T : List Nd) (w : World) (hl : T.length ≤ 1048576) (hs : ∀ x ∈ T, SmN 1048576 x) (hc : RdN w a T) :
  Calls Tryz.prog 105 #[.slice a T.length cap] w (RetV (fun v w' => ∃ L, w'.ownsRow w.heap.size 3 1 v L.length (L.flatMap encInt1) ∧ LinksR T L) w) := by
 obtain ⟨i0, hi, hz0, hz1, hz2⟩ := info_parts infoInt
 have HS := Lib.hid hs
 clear hs
 go_enter Tryz.func105, Tryz.ntmps105
 go_wp2_with (at_make; refine wpList_make_full _ rfl _ _ 86 rfl w.heap.size 3 i0 _ 1 Tryz.underlying86 hi hz0 hz1 _ _ _ _ T.length rfl rfl rfl rfl ?b1 ?b2 ?b3 ?_)
 case b1 => rw [hz2]; omega
 case b2 => unfold maxLen; omega
 case b3 => exact Nat.le_refl _
 intro w1 hown1 hgr1
 have hE := ext_of_grown hgr1
 clear hgr1
 by_cases h16 : T.length ≤ 16
 rotate_left
 ·have h16i : (16 : Int) < (T.length : Int) := by omega
  have HR : Hid (LinksR T []) := Lib.hid (.inr ⟨fun h => h16 h.1, rfl⟩)
  have HO := Lib.hid (owns_lit0 hE)
  clear hown1
  go_wp2
  go_ret
  exact RetV.mk ⟨[], HO.out, HR.out⟩ (hE.alloc _)
 ·have h16i : (T.length : Int) ≤ 16 := by omega
  go_wp2
  go_loopw [4] (fun i wr => ∃ k : Nat, k ≤ T.length ∧ i = .int .i64 k ∧ wr.ownsRow w.heap.size 3 1 (.slice (some ⟨w.heap.size, 0, none⟩) T.length T.length) T.length ((cntL T.length (kids (T.take k))).flatMap encInt1) ∧ (∀ x ∈ kids (T.take k), inB x 0 ((T.length : Int) - 1) = true) ∧ Ext w wr) (fun i _ => T.length - (intOf i).toNat)
  case atStart =>
   refine ⟨0, Nat.zero_le _, rfl, ?_, fun x hx => by simp [kids] at hx, hE⟩
   rw [List.take_zero, show kids [] = [] from rfl, cntL_zero, ← madeInt]
   exact hown1
  case round =>
   clear hown1 hE
   obtain ⟨k, hk, rfl, hown, hpre, hb⟩ := hrel
   have Hpre := Lib.hid hpre
   clear hpre
   by_cases hlt : k < T.length
   rotate_left
   ·obtain rfl : k = T.length := by omega
    have hni : ¬ (T.length : Int) < (T.length : Int) := by omega
    rw [List.take_length] at hown Hpre
    have hown2 : wr.ownsRow w.heap.size 3 1 (.slice (some ⟨w.heap.size, 0, none⟩) T.length T.length) (cntL T.length (kids T)).length ((cntL T.length (kids T)).flatMap encInt1) := by rw [cntL_len]; exact hown
    have HO := Lib.hid hown2
    have HR : Hid (LinksR T (cntL T.length (kids T))) := Lib.hid (.inl ⟨⟨h16, Hpre.out⟩, rfl⟩)
    clear hown hown2
    go_wp2
    go_ret
    exact RetV.mk ⟨_, HO.out, HR.out⟩ hb
   ·obtain ⟨x, b, off, an, cn, ak, ck, hx, rfl, c0, c1, c2, c3, c4, c5, c6, hcn, hck, hrn, hrk⟩ := atNd hc hlt
    have Hx := Lib.hid hx
    have hkl := (HS.out x (List.mem_of_getElem? hx)).2.2.2
    have i0 : (k : Int) < (T.length : Int) := by omega
    clear hx c0 c1 c2 c3 c4 c5 hcn hck hrn
    have HA := Lib.hid hown
    have HB := Lib.hid hb
    have C6 := Lib.hid c6
    clear hown hb c6
    go_wp2
    go_loopw [5] (fun i wr => ∃ m : Nat, m ≤ x.K.length ∧ i = .int .i64 m ∧ wr.ownsRow w.heap.size 3 1 (.slice (some ⟨w.heap.size, 0, none⟩) T.length T.length) T.length ((cntL T.length (kids (T.take k) ++ x.K.take m)).flatMap encInt1) ∧ (∀ y ∈ kids (T.take k) ++ x.K.take m, inB y 0 ((T.length : Int) - 1) = true) ∧ Ext w wr) (fun i _ => x.K.length - (intOf i).toNat)
    case atStart =>
     refine ⟨0, Nat.zero_le _, rfl, ?_, ?_, HB.out⟩
     ·rw [List.take_zero, List.append_nil]
      exact HA.out
     ·rw [List.take_zero, List.append_nil]
      exact Hpre.out
    case round =>
     clear HA HB
     obtain ⟨m, hm, rfl, hown, hpre2, hb⟩ := hrel
     have Hpre2 := Lib.hid hpre2
     have d6 := cell_ext hb C6.out
     clear hpre2
     by_cases hlm : m < x.K.length
     rotate_left
     ·obtain rfl : m = x.K.length := by omega
      have hni : ¬ (x.K.length : Int) < (x.K.length : Int) := by omega
      rw [List.take_length, kids_step Hx.out] at hown Hpre2
      have HO := Lib.hid hown
      clear hown
      go_wp2
      go_roundw
      case rel => exact ⟨k + 1, by omega, by go_num, HO.out, Hpre2.out, hb⟩
      case measure => simp [intOf]; omega
     ·obtain ⟨y, b2, off2, hy, rfl, e0⟩ := atInt (hrk.ext hb) hlm
      have Hy := Lib.hid hy
      have j0 : (m : Int) < (x.K.length : Int) := by omega
      have s1 : IntKind.i64.wrap ((T.length : Int) - 1) = (T.length : Int) - 1 := IntWalk.i64_in _ (by omega)
      clear hy
      cases hI : inB y 0 ((T.length : Int) - 1) with
      | false =>
       have HI := Lib.hid hI
       have HR : Hid (LinksR T []) := Lib.hid (.inr ⟨fun h => Bool.noConfusion (hI.symm.trans (h.2 y (kids_mem Hx.out (List.mem_of_getElem? Hy.out)))), rfl⟩)
       have HO := Lib.hid (owns_lit0 hb)
       clear hI hown
       go_wp2_with (go_at_call 68; refine (l1In_is HI.out _).mono ?_; rintro e w' ⟨rfl, rfl⟩)
       go_ret
       exact RetV.mk ⟨[], HO.out, HR.out⟩ (hb.alloc _)
      | true =>
       have HI := Lib.hid hI
       obtain ⟨i, rfl, hiM⟩ := in_cast hI
       clear hI
       have hkm : i < (cntL T.length (kids (T.take k) ++ x.K.take m)).length := by rw [cntL_len]; exact hiM
       have g0 : wr.cell? ⟨w.heap.size, i, none⟩ = some (.int .i64 (cntL T.length (kids (T.take k) ++ x.K.take m))[i]) := by simpa using owns_at encInt1_len hown i hkm 0 _ rfl
       rw [cntL_at hkm] at g0
       have hcl : (kids (T.take k) ++ x.K.take m).count (i : Int) ≤ 100000000 := Nat.le_trans List.count_le_length (pre_len HS.out Hx.out m h16)
       have Hin : Hid (∀ y ∈ kids (T.take k) ++ x.K.take (m + 1), inB y 0 ((T.length : Int) - 1) = true) := Lib.hid (fun z hz => by
        rw [take_next Hy.out] at hz
        rcases List.mem_append.1 hz with hz | hz
        ·exact Hpre2.out z hz
        ·rw [List.mem_singleton.1 hz]; exact HI.out)
       have k0 : (i : Int) < (T.length : Int) := by omega
       have Hnx := Lib.hid (cntL_step (M := T.length) (P := kids (T.take k) ++ x.K.take m) (i := i))
       rw [← take_next Hy.out] at Hnx
       obtain ⟨L, hL⟩ : ∃ L, L = cntL T.length (kids (T.take k) ++ x.K.take m) := ⟨_, rfl⟩
       rw [← hL] at hown hkm Hnx
       clear hL
       generalize (kids (T.take k) ++ x.K.take m).count (i : Int) = c at *
       have Hkm := Lib.hid hkm
       have Hown := Lib.hid hown
       clear hkm hown
       go_wp2_with (go_at_call 68; refine (l1In_is HI.out _).mono ?_; rintro e w' ⟨rfl, rfl⟩)
       go_still_tail 22, (by kernel_rfl)
       change wpList _ _ _ _ _ wr.drew
       generalize hw2 : wr.drew = w2
       have he2 : Ext wr w2 := by rw [← hw2]; exact (Ext.refl wr).drew
       have hb2 := hb.trans he2
       have hown2 := ownsRow_ext Hown.out he2
       have g2 := cell_ext he2 g0
       have f0 := hown2.frozenAt
       have h3 := owns_put encInt1_len hown2 i ((c : Int) + 1) Hkm.out
       rw [Hnx.out] at h3
       have H3 := Lib.hid h3
       have HE := Lib.hid (Ext.setCells (Nat.le_refl _) (encInt1 ((c : Int) + 1)) (i * 1) hb2)
       clear hw2 he2 hb hb2 hown2 h3 g0 d6 e0
       go_wp2
       go_roundw
       case rel => exact ⟨m + 1, by omega, by go_num, by simpa [setCells, encInt1] using H3.out, Hin.out, by simpa [setCells, encInt1] using HE.out⟩
       case measure => simp [intOf]; omega
end Go.Proofs.YtnibbldfohbfkaaGreatDoor
