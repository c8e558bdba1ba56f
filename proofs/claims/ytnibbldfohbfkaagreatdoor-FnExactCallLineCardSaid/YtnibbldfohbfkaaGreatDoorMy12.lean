/- Parts of one proof: each says below what it proves and on what conditions. -/
import Derived.Lib.Split
import Derived.Lib.Join
import Derived.Test.YtnibbldfohbfkaaGreatDoorMy11
set_option linter.unusedVariables false
set_option linter.unusedSimpArgs false
/- Paths: what the program's way of cutting gives, in plain words. No condition. -/
namespace Go.Proofs.YtnibbldfohbfkaaGreatDoor
open Go.RowKit
theorem idx_at {A R : List UInt8} {c : UInt8} (h : c ∉ A) : Lib.index (A ++ c :: R) [c] = A.length := by
 refine Lib.index_first (by simp) (by simp [Lib.occAt, List.isPrefixOf]) (fun j hj => ?_)
 cases ho : Lib.occAt (A ++ c :: R) [c] j with
 | false => rfl
 | true =>
  have h1 := Lib.occAt_head rfl ho
  rw [List.getElem?_append_left hj] at h1
  exact absurd (List.mem_of_getElem? h1) h
theorem idx_no {A : List UInt8} {c : UInt8} (h : c ∉ A) : Lib.index A [c] = -1 := by
 refine Lib.index_none (fun j _ => ?_)
 cases ho : Lib.occAt A [c] j with
 | false => rfl
 | true => exact absurd (List.mem_of_getElem? (Lib.occAt_head rfl ho)) h
theorem join_two (c : UInt8) (a b : List UInt8) (r : List (List UInt8)) : Lib.join (a :: b :: r) [c] = a ++ c :: Lib.join (b :: r) [c] := by
 rw [Lib.join_cons, Lib.join_cons]
 simp [Lib.joinTail]
theorem split_of_join (c : UInt8) : ∀ (ls : List (List UInt8)) (k : Nat), ls ≠ [] → ls.length ≤ k + 1 → (∀ a ∈ ls, c ∉ a) → Lib.splitK [c] 0 k (Lib.join ls [c]) = ls
 | [], _, h, _, _ => absurd rfl h
 | [a], k, _, _, h => by
  rw [Lib.join_one]
  cases k with
  | zero => rfl
  | succ k => simp [Lib.splitK, idx_no (h a (by simp))]
 | a :: b :: r, 0, _, hl, _ => by simp at hl
 | a :: b :: r, k + 1, _, hl, h => by
  rw [join_two]
  have h1 := idx_at (R := Lib.join (b :: r) [c]) (h a (by simp))
  have ih := split_of_join c (b :: r) k (by simp) (by simp only [List.length_cons] at hl ⊢; omega) (fun x hx => h x (List.mem_cons_of_mem _ hx))
  have hne : ¬ ((a.length : Int) == -1) = true := by simp
  unfold Lib.splitK
  rw [h1, if_neg hne]
  simp [ih]
theorem joinB_app (P : List ByteArray) (o : ByteArray) : (P.foldl (fun o p => o ++ ⟨#[47]⟩ ++ p) o).data.toList = o.data.toList ++ (P.map (fun p => 47 :: p.data.toList)).flatten := by
 induction P generalizing o with
 | nil => simp
 | cons p P ih => rw [List.foldl_cons, ih]; simp [ByteArray.data_append]
theorem joinB_lib {P : List ByteArray} (h : P ≠ []) : joinB P = ⟨#[47]⟩ ++ ⟨(Lib.join (P.map (·.data.toList)) [47]).toArray⟩ := by
 cases P with
 | nil => exact absurd rfl h
 | cons p P =>
  apply ByteArray.ext
  apply Array.toList_inj.1
  unfold joinB
  rw [joinB_app, List.map_cons, List.map_cons, Lib.join_cons]
  simp [Lib.joinTail, ByteArray.data_append, List.map_map, Function.comp_def]
theorem joinB_head {P : List ByteArray} (h : P ≠ []) : ∃ t, joinB P = ⟨#[47]⟩ ++ t := ⟨_, joinB_lib h⟩
theorem joinPath_head {Q : List ByteArray} (h : PartsOk Q) : ∃ t : ByteArray, joinPath Q = ⟨#[47]⟩ ++ t := by
 by_cases hQ : Q = []
 ·refine ⟨⟨#[]⟩, ?_⟩
  rw [joinPath, if_pos hQ]
  apply ByteArray.ext
  simp [ByteArray.data_append]
 ·obtain ⟨t, ht⟩ := joinB_head hQ
  exact ⟨t, by rw [joinPath_ok h hQ, ht]⟩
theorem ba_eq {a b : ByteArray} (h : a.data.toList = b.data.toList) : a = b := ByteArray.ext (Array.toList_inj.1 h)
theorem parts_head {s : ByteArray} (h : ∀ t, s ≠ ⟨#[47]⟩ ++ t) : PartsR s [] false := .inr ⟨rfl, rfl, fun Q hQ e => by
 obtain ⟨t, ht⟩ := joinPath_head hQ
 exact h t (by rw [← e, ht])⟩
theorem split_path {t : ByteArray} {Q : List ByteArray} (h : PartsOk Q) (hQ : Q ≠ []) (e : joinPath Q = ⟨#[47]⟩ ++ t) : Lib.splitB ⟨#[47]⟩ 0 (min 7 (t.size + 1) - 1) t = Q := by
 have e2 : t.data.toList = Lib.join (Q.map (·.data.toList)) [47] := by
  rw [joinPath_ok h hQ, joinB_lib hQ] at e
  have := congrArg (fun x : ByteArray => x.data.toList) e
  simp [ByteArray.data_append] at this
  exact this.symm
 have hlen : Q.length ≤ min 7 (t.size + 1) - 1 + 1 := by
  have h1 : t.size = (Lib.join (Q.map (·.data.toList)) [47]).length := by rw [← e2, Array.length_toList]; rfl
  have h2 : Q.length ≤ t.size + 1 := by
   rw [h1]
   clear e e2 h1 h
   cases Q with
   | nil => simp
   | cons p Q =>
    rw [List.map_cons, Lib.join_cons, List.length_append, Lib.joinTail_length, List.length_map]
    simp only [List.length_cons, List.length_nil, Nat.zero_add, Nat.one_mul]
    omega
  have := h.2
  omega
 have h1 := Lib.splitB_data ⟨#[47]⟩ 0 (min 7 (t.size + 1) - 1) t
 rw [e2] at h1
 have h2 : (⟨#[47]⟩ : ByteArray).data.toList = [47] := rfl
 rw [h2, split_of_join 47 _ _ (by simpa using hQ) (by rw [List.length_map]; exact hlen) (fun a ha => by
  obtain ⟨p, hp, rfl⟩ := List.mem_map.1 ha
  exact fun hm => name_noslash (h.1 p hp) 47 hm rfl)] at h1
 have inj : Function.Injective (fun x : ByteArray => x.data.toList) := fun a b hab => ba_eq hab
 exact (List.map_inj_right (fun a b hab => inj hab)).1 h1
theorem parts_split_yes {t : ByteArray} {X : List ByteArray} (ht : 0 < t.size) (h : joinPath X = ⟨#[47]⟩ ++ t) : PartsR (⟨#[47]⟩ ++ t) X true := by
 have hsz : (⟨#[47]⟩ ++ t : ByteArray).size = 1 + t.size := by rw [ByteArray.size_append]; rfl
 refine parts_yes (fun e => ?_) (by omega) h
 have := congrArg ByteArray.size e
 rw [hsz] at this
 have h1 : (⟨#[47]⟩ : ByteArray).size = 1 := rfl
 omega
theorem parts_split_no {t : ByteArray} (ht : 0 < t.size) (h : joinPath (Lib.splitB ⟨#[47]⟩ 0 (min 7 (t.size + 1) - 1) t) ≠ ⟨#[47]⟩ ++ t) : PartsR (⟨#[47]⟩ ++ t) [] false := .inr ⟨rfl, rfl, fun Q hQ e => by
 by_cases hn : Q = []
 ·rw [joinPath, if_pos hn] at e
  have := congrArg ByteArray.size e
  rw [ByteArray.size_append] at this
  have h1 : (⟨#[47]⟩ : ByteArray).size = 1 := rfl
  omega
 ·rw [split_path hQ hn e] at h
  exact h e⟩
theorem split_small (t : ByteArray) (k : Nat) : ∀ p ∈ Lib.splitB ⟨#[47]⟩ 0 k t, p.size ≤ t.size := by
 induction k generalizing t with
 | zero => intro p hp; rw [List.mem_singleton.1 (show p ∈ [t] from hp)]; exact Nat.le_refl _
 | succ k ih =>
  intro p hp
  unfold Lib.splitB at hp
  split at hp
  ·rw [List.mem_singleton.1 hp]; exact Nat.le_refl _
  ·rcases List.mem_cons.1 hp with rfl | hp
   ·rw [ByteArray.size_extract]; omega
   ·have := ih _ p hp
    rw [ByteArray.size_extract] at this
    omega
def stepW (out : List ByteArray) (c : UInt8) : List ByteArray := if c = 32 then out ++ [⟨#[]⟩] else match out.getLast? with
 | none => []
 | some l => out.dropLast ++ [l ++ ⟨#[c]⟩]
def wordsL (s : List UInt8) : List ByteArray := s.foldl stepW [⟨#[]⟩]
def wordsB (s : ByteArray) : List ByteArray := wordsL s.data.toList
theorem stepW_sp (Q : List ByteArray) : stepW Q 32 = Q ++ [⟨#[]⟩] := by simp [stepW]
theorem snoc_of {X : List ByteArray} {m : Nat} {l : ByteArray} (hm : X.length = m + 1) (hx : X[m]? = some l) : X = X.take m ++ [l] := by
 have e : X.take (m + 1) = X.take m ++ [l] := by rw [List.take_add_one, hx]; rfl
 rw [← e, List.take_of_length_le (by omega)]
theorem stepW_char (Q : List ByteArray) (p : ByteArray) {c : UInt8} (h : c ≠ 32) : stepW (Q ++ [p]) c = Q ++ [p ++ ⟨#[c]⟩] := by simp [stepW, h]
theorem stepW_last {X : List ByteArray} {m : Nat} {l : ByteArray} {c : UInt8} (h : c ≠ 32) (hm : X.length = m + 1) (hx : X[m]? = some l) : stepW X c = X.set m (l ++ ⟨#[c]⟩) := by
 have e := snoc_of hm hx
 have hl : (X.take m).length = m := by rw [List.length_take]; omega
 rw [e, stepW_char _ _ h, List.set_append, hl, if_neg (by omega), Nat.sub_self]
 rfl
theorem words_step {s : ByteArray} {k : Nat} (h : k < s.size) : wordsL (s.data.toList.take (k + 1)) = stepW (wordsL (s.data.toList.take k)) s[k] := by
 have h' : k < s.data.toList.length := by rw [Array.length_toList]; exact h
 rw [List.take_add_one, List.getElem?_eq_getElem h']
 unfold wordsL
 rw [List.foldl_append]
 rfl
theorem join_snoc (c : UInt8) (a : List UInt8) : ∀ ls : List (List UInt8), ls ≠ [] → Lib.join (ls ++ [a]) [c] = Lib.join ls [c] ++ c :: a
 | [], h => absurd rfl h
 | [x], _ => by show Lib.join [x, a] [c] = _; rw [join_two]; simp [Lib.join]
 | x :: y :: r, _ => by
  show Lib.join (x :: y :: (r ++ [a])) [c] = _
  rw [join_two, join_two]
  have := join_snoc c a (y :: r) (by simp)
  rw [List.cons_append] at this
  rw [this]
  simp
theorem join_last (c : UInt8) (a b : List UInt8) : ∀ ls : List (List UInt8), Lib.join (ls ++ [a ++ b]) [c] = Lib.join (ls ++ [a]) [c] ++ b
 | [] => by simp [Lib.join]
 | x :: r => by
  rw [join_snoc c _ (x :: r) (by simp), join_snoc c _ (x :: r) (by simp)]
  simp
structure WInv (Q : List ByteArray) (l : List UInt8) : Prop where
 ne : Q ≠ []
 join : Lib.join (Q.map (·.data.toList)) [32] = l
 no : ∀ p ∈ Q, (32 : UInt8) ∉ p.data.toList
 sz : ∀ p ∈ Q, p.size ≤ l.length
 len : Q.length ≤ l.length + 1
theorem winv_step {Q : List ByteArray} {l : List UInt8} (h : WInv Q l) (c : UInt8) : WInv (stepW Q c) (l ++ [c]) := by
 by_cases hc : c = 32
 ·subst hc
  rw [stepW_sp]
  refine ⟨by simp, ?_, fun p hp => ?_, fun p hp => ?_, ?_⟩
  ·rw [List.map_append, List.map_singleton, join_snoc 32 _ _ (by simpa using h.ne), h.join]
  ·rcases List.mem_append.1 hp with hp | hp
   ·exact h.no p hp
   ·rw [List.mem_singleton.1 hp]; exact List.not_mem_nil
  ·rw [List.length_append]
   rcases List.mem_append.1 hp with hp | hp
   ·have := h.sz p hp; omega
   ·rw [List.mem_singleton.1 hp]; exact Nat.zero_le _
  ·simp only [List.length_append, List.length_singleton]; have := h.len; omega
 ·obtain ⟨m, hm⟩ : ∃ m, Q.length = m + 1 := ⟨Q.length - 1, by have := List.length_pos_iff.2 h.ne; omega⟩
  have hx : Q[m]? = some Q[m] := List.getElem?_eq_getElem (by omega)
  have e := snoc_of hm hx
  have hq : Q[m] ∈ Q := List.getElem_mem _
  generalize Q[m] = x at *
  have hsub : ∀ p ∈ Q.take m, p ∈ Q := fun p hp => List.mem_of_mem_take hp
  have h2 := h.join
  rw [e] at h2 ⊢
  rw [stepW_char _ _ hc]
  have hd : (x ++ ⟨#[c]⟩ : ByteArray).data.toList = x.data.toList ++ [c] := by simp [ByteArray.data_append]
  have hs : (x ++ ⟨#[c]⟩ : ByteArray).size = x.size + 1 := by rw [ByteArray.size_append]; rfl
  refine ⟨by simp, ?_, fun p hp => ?_, fun p hp => ?_, ?_⟩
  ·rw [List.map_append, List.map_singleton, hd, join_last]
   rw [List.map_append, List.map_singleton] at h2
   rw [h2]
  ·rcases List.mem_append.1 hp with hp | hp
   ·exact h.no p (hsub p hp)
   ·rw [List.mem_singleton.1 hp, hd]
    intro hm
    rcases List.mem_append.1 hm with hm | hm
    ·exact h.no x hq hm
    ·exact hc (List.mem_singleton.1 hm).symm
  ·rw [List.length_append, List.length_singleton]
   rcases List.mem_append.1 hp with hp | hp
   ·have := h.sz p (hsub p hp); omega
   ·rw [List.mem_singleton.1 hp, hs]
    have := h.sz x hq; omega
  ·have := h.len
   simp only [List.length_append, List.length_singleton, List.length_take]
   omega
theorem winv (l : List UInt8) : WInv (wordsL l) l := by
 suffices h : ∀ (l2 : List UInt8) (Q : List ByteArray) (l : List UInt8), WInv Q l → WInv (l2.foldl stepW Q) (l ++ l2) by
  have := h l [⟨#[]⟩] [] ⟨by simp, by simp [Lib.join], fun p hp => by rw [List.mem_singleton.1 hp]; exact List.not_mem_nil, fun p hp => by rw [List.mem_singleton.1 hp]; exact Nat.le_refl _, by simp⟩
  rwa [List.nil_append] at this
 intro l2
 induction l2 with
 | nil => intro Q l h; rw [List.append_nil]; exact h
 | cons c l2 ih =>
  intro Q l h
  have := ih _ _ (winv_step h c)
  rwa [List.append_assoc, List.singleton_append] at this
theorem words_len (s : ByteArray) : (wordsB s).length ≤ s.size + 1 := by
 have h := (winv s.data.toList).len
 rw [Array.length_toList] at h
 exact h
theorem words_size {s : ByteArray} {p : ByteArray} (hp : p ∈ wordsB s) : p.size ≤ s.size := by
 have h := (winv s.data.toList).sz p hp
 rw [Array.length_toList] at h
 exact h
theorem words_pos (s : ByteArray) : 1 ≤ (wordsB s).length := List.length_pos_iff.2 (winv s.data.toList).ne
theorem count_lib (c : UInt8) : ∀ ls : List (List UInt8), ls ≠ [] → (∀ a ∈ ls, c ∉ a) → Lib.count (Lib.join ls [c]) [c] + 1 = ls.length
 | [], h, _ => absurd rfl h
 | [a], _, h => by
  have e : Lib.join [a] [c] = a := by simp [Lib.join]
  rw [e, Lib.count_miss (idx_no (h a (List.mem_cons_self ..)))]
  rfl
 | a :: b :: r, _, h => by
  have ih := count_lib c (b :: r) (by simp) (fun x hx => h x (List.mem_cons_of_mem _ hx))
  rw [join_two, Lib.count_hit (by simp) (idx_at (h a (List.mem_cons_self ..)))]
  have e : (a ++ c :: Lib.join (b :: r) [c]).drop (a.length + [c].length) = Lib.join (b :: r) [c] := by
   rw [List.length_singleton, List.drop_append]
   simp
  rw [e]
  simp only [List.length_cons] at ih ⊢
  omega
theorem split_words (s : ByteArray) : Lib.splitB ⟨#[32]⟩ 0 (Lib.countB s ⟨#[32]⟩) s = wordsB s := by
 have hw := winv s.data.toList
 have h1 := Lib.splitB_data ⟨#[32]⟩ 0 (Lib.countB s ⟨#[32]⟩) s
 have hne : (wordsL s.data.toList).map (·.data.toList) ≠ [] := by simpa using hw.ne
 have hno : ∀ a ∈ (wordsL s.data.toList).map (·.data.toList), (32 : UInt8) ∉ a := fun a ha => by
  obtain ⟨p, hp, rfl⟩ := List.mem_map.1 ha
  exact hw.no p hp
 have hcnt := count_lib 32 _ hne hno
 rw [hw.join] at hcnt
 have h2 := split_of_join 32 _ (Lib.countB s ⟨#[32]⟩) hne (by show _ ≤ Lib.count s.data.toList [32] + 1; omega) hno
 rw [hw.join] at h2
 have h3 : (Lib.splitB ⟨#[32]⟩ 0 (Lib.countB s ⟨#[32]⟩) s).map (·.data.toList) = (wordsB s).map (·.data.toList) := h1.trans h2
 exact (List.map_inj_right (fun a b h => ba_eq h)).1 h3
section
variable {T : List Nd} {c : Cr} {src dst : ByteArray} {n k : Nat} {x z : Nd}
theorem lk_fault (hf : (findNode T c src).2 ≠ 0) : linkName T c src dst = ([], (findNode T c src).2) := by rw [linkName, if_pos hf]
theorem lk_dir (hF : findNode T c src = ((k : Int), 0)) (hz : T[k]? = some z) (h : z.fold = true) : linkName T c src dst = ([], 4) := by
  rw [linkName, if_neg (by rw [hF]; simp), hF]
  dsimp only
  rw [Int.toNat_natCast, hz]
  dsimp only
  rw [if_pos h]
theorem lk_file (hF : findNode T c src = ((k : Int), 0)) (hz : T[k]? = some z) (h : z.fold = false) : linkName T c src dst = if (placeFor T c dst).2 ≠ 0 then ([], (placeFor T c dst).2) else match T[(placeFor T c dst).1.toNat]? with
      | none => ([], 1)
      | some x => (T.set (placeFor T c dst).1.toNat (putNd x (lastOf dst) (k : Int)), 0) := by
  rw [linkName, if_neg (by rw [hF]; simp), hF]
  dsimp only
  rw [Int.toNat_natCast, hz]
  dsimp only
  rw [if_neg (by simp [h])]
  rfl
theorem lk_place (hF : findNode T c src = ((k : Int), 0)) (hz : T[k]? = some z) (h : z.fold = false) (hf : (placeFor T c dst).2 ≠ 0) : linkName T c src dst = ([], (placeFor T c dst).2) := by rw [lk_file hF hz h, if_pos hf]
theorem lk_ok (hF : findNode T c src = ((k : Int), 0)) (hz : T[k]? = some z) (h : z.fold = false) (hp : placeFor T c dst = ((n : Int), 0)) (hx : T[n]? = some x) : linkName T c src dst = (T.set n (putNd x (lastOf dst) (k : Int)), 0) := by
  rw [lk_file hF hz h, if_neg (by rw [hp]; simp), hp]
  dsimp only
  rw [Int.toNat_natCast, hx]
end
set_option maxRecDepth 10000 in
set_option maxHeartbeats 16000000 in
theorem specLinkName (a : Option Addr) (cap : Nat) (T : List Nd) (c : Cr) (src dst : ByteArray) (w : World) (hs : src.size ≤ 1048576) (hd : dst.size ≤ 1048576) (hl : T.length ≤ 1048576) (hT : ∀ x ∈ T, SmN 1048576 x) (hc : RdN w a T) :
    Calls Tryz.prog 40 #[.slice a T.length cap, .agg #[.int .i64 c.r, .int .i64 c.a, .int .i64 c.s, .int .i64 c.g], .string src, .string dst] w (RetMk (linkName T c src dst) w) := by
  obtain ⟨cr, ca, cs, cg⟩ := c
  have HT := Lib.hid hT
  clear hT
  dsimp only
  go_enter Tryz.func40, Tryz.ntmps40
  have S := Sep.start w
  replace S : Sep w (w.alloc (.cells #[.int .i64 cr, .int .i64 ca, .int .i64 cs, .int .i64 cg] 29)) [plBox w.heap.size #[.int .i64 cr, .int .i64 ca, .int .i64 cs, .int .i64 cg] 29] := S.alloc_at (by simp) _ _
  go_wp2_with fail
  generalize (w.alloc (.cells #[.int .i64 cr, .int .i64 ca, .int .i64 cs, .int .i64 cg] 29)) = w1 at *
  refine (specFindNode a cap T ⟨cr, ca, cs, cg⟩ src w1 hs hl HT.out (hc.ext S.ext)).mono ?_
  rintro e w2 ⟨rfl, hE⟩
  replace S := S.step hE
  clear hE
  rcases find_cases T ⟨cr, ca, cs, cg⟩ src with ⟨k, hF, hk, _, _⟩ | ⟨f, hf, hF⟩
  rotate_left
  · have HX := Lib.hid (lk_fault (T := T) (c := ⟨cr, ca, cs, cg⟩) (dst := dst) (by rw [hF]; exact hf))
    rw [hF] at HX ⊢
    have tf : (f == 0) = false := by simpa using hf
    clear hF hf
    dsimp only at HX ⊢
    go_wp2
    go_ret2
    exact RetMk.empty S.ext HX.out
  · rw [hF]
    dsimp only
    obtain ⟨z, bt, off, zan, zcn, zak, zck, hz, rfl, c0, _⟩ := atNd hc hk
    have d0 := cell_ext S.ext c0
    have i1 : (k : Int) < (T.length : Int) := by omega
    have Hz := Lib.hid hz
    clear c0 hz
    cases hzf : z.fold with
    | true =>
      have HX := Lib.hid (lk_dir (dst := dst) hF Hz.out hzf)
      rw [hzf] at d0
      clear hF hzf
      go_wp2
      go_ret2
      exact RetMk.empty S.ext HX.out
    | false =>
      rw [hzf] at d0
      have HF := Lib.hid hF
      have Hzf := Lib.hid hzf
      clear hF hzf
      obtain ⟨⟨bc0, bf0⟩, ⟨bc1, bf1⟩, ⟨bc2, bf2⟩, ⟨bc3, bf3⟩⟩ := bx4 (S.box 0 rfl)
      go_wp2_with fail
      refine (specPlaceFor (some ⟨bt, off, none⟩) cap T ⟨cr, ca, cs, cg⟩ dst w2 hd hl HT.out (hc.ext S.ext)).mono ?_
      rintro e w3 ⟨rfl, hE⟩
      clear bc0 bf0 bc1 bf1 bc2 bf2 bc3 bf3
      replace S := S.step hE
      clear hE
      clear d0
      rcases place_cases T ⟨cr, ca, cs, cg⟩ dst with ⟨n, x, hp, hx, hTr⟩ | ⟨f, hf, hp⟩
      rotate_left
      · have HX := Lib.hid (lk_place (dst := dst) HF.out Hz.out Hzf.out (by rw [hp]; exact hf))
        rw [hp] at HX ⊢
        have tf : (f == 0) = false := by simpa using hf
        clear hp hf
        dsimp only at HX ⊢
        go_wp2
        go_ret2
        exact RetMk.empty S.ext HX.out
      · have HX := Lib.hid (lk_ok HF.out Hz.out Hzf.out hp hx)
        have Hx := Lib.hid hx
        have hn := (List.getElem?_eq_some_iff.1 hx).1
        have HTr := Lib.hid hTr
        rw [hp]
        clear hp hx hTr
        dsimp only
        go_wp2_with fail
        refine (specAboveOf dst w3 hd).mono ?_
        rintro e w3b ⟨rfl, hE⟩
        replace S := S.step hE
        clear hE
        go_wp2_with fail
        refine (specCopy (some ⟨bt, off, none⟩) cap T w3b hl HT.out (hc.ext S.ext)).mono ?_
        rintro e w4 ⟨u, vs, rfl, S4⟩
        replace S : Sep w w4 [plNd u vs T, plBox w.heap.size #[.int .i64 cr, .int .i64 ca, .int .i64 cs, .int .i64 cg] 29] := S.call S4
        clear S4
        obtain ⟨xc, g, cap2, rfl, hcap2, hxc, hxn, hcell, hfz, hsn, hsk, hcn, hck, hrn, hrk⟩ := S.ndAt 0 rfl Hx.out
        obtain ⟨x', an, cn, ak, ck⟩ := xc
        dsimp only at hxn hsn hsk hcn hck hrn hrk
        subst hxn
        have d0 : w4.cell? ⟨g, n * 7, none⟩ = some (.bool x'.fold) := hcell 0 _ rfl
        have d1 : w4.cell? ⟨g, n * 7 + 1, none⟩ = some (.int .i64 x'.own) := hcell 1 _ rfl
        have d2 : w4.cell? ⟨g, n * 7 + 2, none⟩ = some (.int .i64 x'.grp) := hcell 2 _ rfl
        have d3 : w4.cell? ⟨g, n * 7 + 3, none⟩ = some (.int .i64 x'.mode) := hcell 3 _ rfl
        have d4 : w4.cell? ⟨g, n * 7 + 4, none⟩ = some (.string x'.text) := hcell 4 _ rfl
        have d5 : w4.cell? ⟨g, n * 7 + 5, none⟩ = some (.slice an x'.N.length cn) := hcell 5 _ rfl
        have d6 : w4.cell? ⟨g, n * 7 + 6, none⟩ = some (.slice ak x'.K.length ck) := hcell 6 _ rfl
        have hN := HTr.out.nodes n x' Hx.out
        have hsx := HT.out x' (List.mem_of_getElem? Hx.out)
        have hNl := hsx.2.1
        have Hput := Lib.hid (specPut x' an ak cn ck (lastOf dst) (k : Int) w4 hNl hN.len hcn hck hsn hsk hrn hrk)
        have i0 : (n : Int) < (T.length : Int) := by omega
        clear hcell hN hsx hNl hcn hck hsn hsk hrn hrk hxc
        go_wp2_with fail
        refine Hput.out.mono ?_
        rintro e w5 ⟨an2, cn2, ak2, ck2, rfl, S5⟩
        have g0 := cell_ext S5.ext d0
        have g1 := cell_ext S5.ext d1
        have g2 := cell_ext S5.ext d2
        have g3 := cell_ext S5.ext d3
        have g4 := cell_ext S5.ext d4
        have g5 := cell_ext S5.ext d5
        have g6 := cell_ext S5.ext d6
        obtain ⟨X2, hX2⟩ : ∃ X2, X2 = putNd x' (lastOf dst) (k : Int) := ⟨_, rfl⟩
        rw [← hX2] at S5 HX
        rw [← hX2]
        clear hX2 d0 d1 d2 d3 d4 d5 d6 Hput hfz
        replace S : Sep w w5 [plRow 3 1 encInt1 (.slice ak2 X2.K.length ck2) X2.K, plRow 9 1 encStr1 (.slice an2 X2.N.length cn2) X2.N, plNd (.slice (some ⟨g, 0, none⟩) T.length cap2) vs T, plBox w.heap.size #[.int .i64 cr, .int .i64 ca, .int .i64 cs, .int .i64 cg] 29] := S.call S5
        clear S5
        have hvl := plG_len (S.at_ 2 rfl)
        have hrow := S.gRow 2 rfl
        rw [hvl] at hrow
        have hfz := hrow.frozenAt
        clear hrow
        have S6 := S.ofRows 1 0 (⟨X2, an2, cn2, ak2, ck2⟩ : Nc) rfl rfl (by decide)
        have S7 := S6.gPut 1 0 encNc_len rfl rfl (by decide) (k := n) (by omega)
        have S8 : Sep w (((((((w5.setCell ⟨g, n * 7, none⟩ (.bool X2.fold)).setCell ⟨g, n * 7 + 1, none⟩ (.int .i64 X2.own)).setCell ⟨g, n * 7 + 2, none⟩ (.int .i64 X2.grp)).setCell ⟨g, n * 7 + 3, none⟩ (.int .i64 X2.mode)).setCell ⟨g, n * 7 + 4, none⟩ (.string X2.text)).setCell ⟨g, n * 7 + 5, none⟩ (.slice an2 X2.N.length cn2)).setCell ⟨g, n * 7 + 6, none⟩ (.slice ak2 X2.K.length ck2)) [plNd (.slice (some ⟨g, 0, none⟩) T.length cap2) (vs.set n ⟨X2, an2, cn2, ak2, ck2⟩) (T.set n X2), plBox w.heap.size #[.int .i64 cr, .int .i64 ca, .int .i64 cs, .int .i64 cg] 29] := S7
        have S9 := S8.drop 1
        have HS8 := Lib.hid S9
        clear S S6 S7 S8 S9 hvl
        go_wp2
        go_ret2
        exact ⟨_, _, by rw [HX.out]; rfl, by rw [HX.out]; exact HS8.out⟩
def joinW (N : List ByteArray) : ByteArray := ⟨(Lib.join (N.map (·.data.toList)) [32]).toArray⟩
def doneT (T : List Nd) (r : List Nd × Int) : List Nd × ByteArray := if r.2 = 0 then (r.1, faultText 0) else (T, faultText r.2)
open Classical in
noncomputable def changeF (T : List Nd) (c : Cr) : List ByteArray → Option (List Nd × Int)
 | [a, x] => if a = ⟨#[102, 111, 108, 100, 101, 114]⟩ then some (makeNode T c x true 493) else if a = ⟨#[102, 105, 108, 101]⟩ then some (makeNode T c x false 420) else if a = ⟨#[100, 114, 111, 112]⟩ then some (dropName T c x) else none
 | [a, x, y] => if a = ⟨#[119, 114, 105, 116, 101]⟩ then some (writeFile T c x y) else if a = ⟨#[109, 111, 100, 101]⟩ then (if (readMode y).2 = true then some (changeMode T c x (readMode y).1) else some ([], 1))
   else if a = ⟨#[108, 105, 110, 107]⟩ then some (linkName T c x y) else if a = ⟨#[109, 111, 118, 101]⟩ then some (moveName T c x y) else none
 | _ => none
open Classical in
noncomputable def tellF (T : List Nd) (c : Cr) : List ByteArray → ByteArray
 | [a, x] => if a = ⟨#[114, 101, 97, 100]⟩ then (if (readFile T c x).2 = 0 then ⟨#[61]⟩ ++ (readFile T c x).1 else faultText (readFile T c x).2) else if a = ⟨#[108, 105, 115, 116]⟩ then (if (listNames T c x).2 = 0 then ⟨#[61]⟩ ++ joinW (listNames T c x).1 else faultText (listNames T c x).2) else faultText 1
 | _ => faultText 1
noncomputable def callF (T : List Nd) (c : Cr) (W : List ByteArray) : List Nd × ByteArray := match changeF T c W with
 | some r => doneT T r
 | none => (T, tellF T c W)
open Classical in
noncomputable def callLine (T : List Nd) (c : Cr) (line : ByteArray) : List Nd × ByteArray := if TreeOk T ∧ c.ok then callF T c (wordsB line) else ([], ⟨#[]⟩)
theorem done_ok {T : List Nd} (hT : TreeOk T) {r : List Nd × Int} (h : r.2 = 0 → TreeOk r.1) : TreeOk (doneT T r).1 := by
 unfold doneT
 split
 ·rename_i h0; exact h h0
 ·exact hT
theorem cf_folder (T : List Nd) (c : Cr) (x : ByteArray) : callF T c [⟨#[102, 111, 108, 100, 101, 114]⟩, x] = doneT T (makeNode T c x true 493) := by
 have h : changeF T c [⟨#[102, 111, 108, 100, 101, 114]⟩, x] = some (makeNode T c x true 493) := by
  unfold changeF
  dsimp only
  rw [if_pos rfl]
 unfold callF
 rw [h]
theorem cf_file (T : List Nd) (c : Cr) (x : ByteArray) : callF T c [⟨#[102, 105, 108, 101]⟩, x] = doneT T (makeNode T c x false 420) := by
 have h : changeF T c [⟨#[102, 105, 108, 101]⟩, x] = some (makeNode T c x false 420) := by
  unfold changeF
  dsimp only
  rw [if_neg (by decide), if_pos rfl]
 unfold callF
 rw [h]
theorem cf_drop (T : List Nd) (c : Cr) (x : ByteArray) : callF T c [⟨#[100, 114, 111, 112]⟩, x] = doneT T (dropName T c x) := by
 have h : changeF T c [⟨#[100, 114, 111, 112]⟩, x] = some (dropName T c x) := by
  unfold changeF
  dsimp only
  rw [if_neg (by decide), if_neg (by decide), if_pos rfl]
 unfold callF
 rw [h]
theorem cf_write (T : List Nd) (c : Cr) (x y : ByteArray) : callF T c [⟨#[119, 114, 105, 116, 101]⟩, x, y] = doneT T (writeFile T c x y) := by
 have h : changeF T c [⟨#[119, 114, 105, 116, 101]⟩, x, y] = some (writeFile T c x y) := by
  unfold changeF
  dsimp only
  rw [if_pos rfl]
 unfold callF
 rw [h]
theorem cf_link (T : List Nd) (c : Cr) (x y : ByteArray) : callF T c [⟨#[108, 105, 110, 107]⟩, x, y] = doneT T (linkName T c x y) := by
 have h : changeF T c [⟨#[108, 105, 110, 107]⟩, x, y] = some (linkName T c x y) := by
  unfold changeF
  dsimp only
  rw [if_neg (by decide), if_neg (by decide), if_pos rfl]
 unfold callF
 rw [h]
theorem cf_move (T : List Nd) (c : Cr) (x y : ByteArray) : callF T c [⟨#[109, 111, 118, 101]⟩, x, y] = doneT T (moveName T c x y) := by
 have h : changeF T c [⟨#[109, 111, 118, 101]⟩, x, y] = some (moveName T c x y) := by
  unfold changeF
  dsimp only
  rw [if_neg (by decide), if_neg (by decide), if_neg (by decide), if_pos rfl]
 unfold callF
 rw [h]
theorem cf_len (T : List Nd) (c : Cr) {W : List ByteArray} (h2 : W.length ≠ 2) (h3 : W.length ≠ 3) : callF T c W = (T, faultText 1) := by
 match W, h2, h3 with
 | [], _, _ => rfl
 | [_], _, _ => rfl
 | [_, _], h, _ => exact absurd rfl h
 | [_, _, _], _, h => exact absurd rfl h
 | _ :: _ :: _ :: _ :: _, _, _ => rfl
theorem cf_two (T : List Nd) (c : Cr) {a : ByteArray} (x : ByteArray) (h0 : a ≠ ⟨#[102, 111, 108, 100, 101, 114]⟩) (h1 : a ≠ ⟨#[102, 105, 108, 101]⟩) (h2 : a ≠ ⟨#[100, 114, 111, 112]⟩) (h3 : a ≠ ⟨#[114, 101, 97, 100]⟩) (h4 : a ≠ ⟨#[108, 105, 115, 116]⟩) : callF T c [a, x] = (T, faultText 1) := by
 have h : changeF T c [a, x] = none := by
  unfold changeF
  dsimp only
  rw [if_neg h0, if_neg h1, if_neg h2]
 unfold callF
 rw [h]
 dsimp only
 unfold tellF
 dsimp only
 rw [if_neg h3, if_neg h4]
theorem cf_three (T : List Nd) (c : Cr) {a : ByteArray} (x y : ByteArray) (h0 : a ≠ ⟨#[119, 114, 105, 116, 101]⟩) (h1 : a ≠ ⟨#[109, 111, 100, 101]⟩) (h2 : a ≠ ⟨#[108, 105, 110, 107]⟩) (h3 : a ≠ ⟨#[109, 111, 118, 101]⟩) : callF T c [a, x, y] = (T, faultText 1) := by
 have h : changeF T c [a, x, y] = none := by
  unfold changeF
  dsimp only
  rw [if_neg h0, if_neg h1, if_neg h2, if_neg h3]
 unfold callF
 rw [h]
 rfl
theorem SepM.putM {M : Nat → Prop} {w0 w w' : World} {H : List Pl} (S : SepM M w0 w H) (i : Nat) {p q : Pl} (h : H[i]? = some p) (hg : Chg (fun b => M b ∨ p.own b) w w') (hq : q.ok w') (hblk : ∀ b, q.own b → p.own b ∨ w.heap.size ≤ b) : SepM M w0 w' (H.set i q) := by
 have hm := List.mem_of_getElem? h
 have hi := (List.getElem?_eq_some_iff.1 h).1
 have hok : ∀ j r, H[j]? = some r → j ≠ i → r.ok w' := fun j r hj hne =>
  r.frame w w' (S.at_ j hj) (fun b hb => hg.block b (S.lt (List.mem_of_getElem? hj) hb).2 (fun e => e.elim (fun e => by have h1 := S.small b e; have h2 := (S.lt (List.mem_of_getElem? hj) hb).1; omega) (fun e => S.ne h hj (fun e => hne e.symm) e hb)))
 refine ⟨⟨hg.os.trans S.chg.os, hg.tape.trans S.chg.tape, hg.output.trans S.chg.output, Nat.le_trans S.chg.size hg.size, fun k hk hn => (hg.block k (Nat.lt_of_lt_of_le hk S.chg.size) (fun hs => hs.elim hn (fun hs => by have := (S.lt hm hs).1; omega))).trans (S.chg.block k hk hn)⟩, S.small, fun r hr => ?_, fun r hr b hb => ?_, ?_⟩
 ·obtain ⟨j, hj⟩ := List.getElem?_of_mem hr
  by_cases hji : i = j
  ·subst hji
   rw [List.getElem?_set_self hi] at hj
   cases hj; exact hq
  ·rw [List.getElem?_set_ne hji] at hj
   exact hok j r hj (fun e => hji e.symm)
 ·obtain ⟨j, hj⟩ := List.getElem?_of_mem hr
  by_cases hji : i = j
  ·subst hji
   rw [List.getElem?_set_self hi] at hj
   cases hj
   rcases hblk b hb with h2 | h2
   ·exact (S.lt hm h2).1
   ·exact Nat.le_trans S.chg.size h2
  ·rw [List.getElem?_set_ne hji] at hj
   exact S.base r (List.mem_of_getElem? hj) b hb
 ·rw [List.pairwise_iff_getElem]
  intro j k hj hk hjk b hb
  simp only [List.length_set] at hj hk
  rw [List.getElem_set] at hb ⊢
  have h1 := List.pairwise_iff_getElem.1 S.apart j k hj hk hjk
  by_cases e1 : i = j
  ·subst e1
   rw [if_pos rfl] at hb
   rw [if_neg (by omega)]
   rcases hblk b hb with h2 | h2
   ·exact S.ne h (List.getElem?_eq_getElem hk) (by omega) h2
   ·intro e
    have := (S.lt (List.getElem_mem hk) e).2
    omega
  ·rw [if_neg e1] at hb
   by_cases e2 : i = k
   ·subst e2
    rw [if_pos rfl]
    intro e
    rcases hblk b e with h2 | h2
    ·exact S.ne (List.getElem?_eq_getElem hj) h (by omega) hb h2
    ·have := (S.lt (List.getElem_mem hj) hb).2
     omega
   ·rw [if_neg e2]
    exact h1 b hb
section
variable {M : Nat → Prop} {w0 w w' : World} {H : List Pl} {g n cap : Nat} {vs : List Nc} {T : List Nd} {k : Nat} {c c' : Nc} {x x' : Nd}
theorem SepM.ndPut (S : SepM M w0 w H) (i : Nat) (hi : H[i]? = some (plNd (.slice (some ⟨g, 0, none⟩) n cap) vs T)) (hc : vs[k]? = some c) (hg : Chg (fun b => M b ∨ (b = g ∨ pinNd.own c b)) w w')
  (hr : w'.ownsRow 0 89 7 (.slice (some ⟨g, 0, none⟩) n cap) vs.length ((vs.set k c').flatMap encNc)) (hp : pinNd.ok c' x' w') (ho : ∀ b, pinNd.own c' b → pinNd.own c b ∨ w.heap.size ≤ b) :
  SepM M w0 w' (H.set i (plNd (.slice (some ⟨g, 0, none⟩) n cap) (vs.set k c') (T.set k x'))) := by
 obtain ⟨h1, h2, h3, h4, h5⟩ := S.at_ i hi
 have him := List.mem_of_getElem? hi
 have hcm := List.mem_of_getElem? hc
 have hk := (List.getElem?_eq_some_iff.1 hc).1
 have hlt : ∀ s ∈ vs, ∀ b, pinNd.own s b → w0.heap.size ≤ b ∧ b < w.heap.size := fun s hs b hb => S.lt him (show (plNd (.slice (some ⟨g, 0, none⟩) n cap) vs T).own b from .inr ⟨s, hs, hb⟩)
 have hgl : g < w.heap.size := (S.lt him (show (plNd (.slice (some ⟨g, 0, none⟩) n cap) vs T).own g from .inl rfl)).2
 refine S.putM i hi (hg.mono (fun b hb _ => ?_)) ⟨by rw [List.length_set]; exact hr, by simp [h2], fun l s2 t2 hs2 ht2 => ?_, fun s2 hs2 b hb hb2 => ?_, fun l m s2 s3 hlm hs2 hs3 b hb hb3 => ?_⟩ (fun b hb => ?_)
 ·rcases hb with hb | rfl | hb
  ·exact .inl hb
  ·exact .inr (.inl rfl)
  ·exact .inr (.inr ⟨c, hcm, hb⟩)
 ·by_cases hlk : k = l
  ·subst hlk
   rw [List.getElem?_set_self hk] at hs2
   rw [List.getElem?_set_self (by omega)] at ht2
   cases hs2; cases ht2
   exact hp
  ·rw [List.getElem?_set_ne hlk] at hs2 ht2
   have h6 := h3 l s2 t2 hs2 ht2
   exact pinNd.frame s2 t2 w w' h6 (fun b hb => hg.block b (pinNd.lt s2 t2 w b h6 hb) (fun e => by
    rcases e with e | e | e
    ·have h7 := S.small b e
     have h8 := (hlt s2 (List.mem_of_getElem? hs2) b hb).1
     omega
    ·exact h4 s2 (List.mem_of_getElem? hs2) b hb (by rw [e]; rfl)
    ·exact h5 l k s2 c (fun e => hlk e.symm) hs2 hc b hb e))
 ·rcases List.mem_or_eq_of_mem_set hs2 with hs2 | rfl
  ·exact h4 s2 hs2 b hb hb2
  ·rcases ho b hb with h | h
   ·exact h4 c hcm b h hb2
   ·obtain rfl : g = b := by simpa [Value.ownBlock] using hb2
    omega
 ·by_cases hlk : k = l
  ·subst hlk
   rw [List.getElem?_set_self hk] at hs2
   cases hs2
   rw [List.getElem?_set_ne hlm] at hs3
   rcases ho b hb with h | h
   ·exact h5 k m c s3 hlm hc hs3 b h hb3
   ·have := (hlt s3 (List.mem_of_getElem? hs3) b hb3).2; omega
  ·rw [List.getElem?_set_ne hlk] at hs2
   by_cases hmk : k = m
   ·subst hmk
    rw [List.getElem?_set_self hk] at hs3
    cases hs3
    rcases ho b hb3 with h | h
    ·exact h5 l k s2 c hlm hs2 hc b hb h
    ·have := (hlt s2 (List.mem_of_getElem? hs2) b hb).2; omega
   ·rw [List.getElem?_set_ne hmk] at hs3
    exact h5 l m s2 s3 hlm hs2 hs3 b hb hb3
 ·rcases hb with hb | ⟨s2, hs2, hb⟩
  ·exact .inl (.inl hb)
  ·rcases List.mem_or_eq_of_mem_set hs2 with hs2 | rfl
   ·exact .inl (.inr ⟨s2, hs2, hb⟩)
   ·rcases ho b hb with h | h
    ·exact .inl (.inr ⟨c, hcm, h⟩)
    ·exact .inr h
theorem SepM.ndSet (S : SepM M w0 w H) (i : Nat) (hi : H[i]? = some (plNd (.slice (some ⟨g, 0, none⟩) n cap) vs T)) (hc : vs[k]? = some c) (hx : T[k]? = some x) (j : Nat) (v : Value) (hj : j < 7)
  (he : encNc ⟨x', c.an, c.cn, c.ak, c.ck⟩ = (encNc c).set j v) (hN : x'.N = x.N) (hK : x'.K = x.K) :
  SepM M w0 (w.setCell ⟨g, k * 7 + j, none⟩ v) (H.set i (plNd (.slice (some ⟨g, 0, none⟩) n cap) (vs.set k ⟨x', c.an, c.cn, c.ak, c.ck⟩) (T.set k x'))) := by
 obtain ⟨h1, h2, h3, h4, h5⟩ := S.at_ i hi
 obtain ⟨hk, hck⟩ := List.getElem?_eq_some_iff.1 hc
 have hpin := h3 k c x hc hx
 have hlen : n = vs.length := by
  rcases h1.2 with ⟨e, _⟩ | ⟨g', cap', cur, e, _⟩
  ·simp at e
  ·simp only [Value.slice.injEq] at e; exact e.2.1
 have hset := owns_set encNc_len (show w.ownsRow 0 89 7 (.slice (some ⟨g, 0, none⟩) n cap) n (vs.flatMap encNc) by rw [hlen]; rw [hlen] at h1; exact h1) k j v (⟨x', c.an, c.cn, c.ak, c.ck⟩ : Nc) hk hj (by rw [he, hck])
 have hch := Chg.setCell w g (k * 7 + j) v
 have hpin2 := pinNd.frame c x w (w.setCell ⟨g, k * 7 + j, none⟩ v) hpin (fun b hb => hch.block b (pinNd.lt c x w b hpin hb) (fun e => h4 c (List.mem_of_getElem? hc) b hb (by rw [e]; rfl)))
 obtain ⟨e1, p1, p2, p3⟩ := hpin2
 have hN2 : x'.N = c.n.N := by rw [e1]; exact hN
 have hK2 : x'.K = c.n.K := by rw [e1]; exact hK
 refine S.ndPut i hi hc (hch.mono (fun b hb _ => .inr (.inl hb))) (by rw [hlen] at hset ⊢; exact hset) ⟨rfl, ?_, ?_, ?_⟩ (fun b hb => .inl ?_)
 ·show World.ownsRow _ _ _ _ (.slice c.an x'.N.length c.cn) x'.N.length (x'.N.flatMap encStr1)
  rw [hN2]; exact p1
 ·show World.ownsRow _ _ _ _ (.slice c.ak x'.K.length c.ck) x'.K.length (x'.K.flatMap encInt1)
  rw [hK2]; exact p2
 ·show ∀ b : Nat, (Value.slice c.an x'.N.length c.cn).ownBlock = some b → (Value.slice c.ak x'.K.length c.ck).ownBlock ≠ some b
  rw [hN2, hK2]; exact p3
 ·have hb' : (Value.slice c.an x'.N.length c.cn).ownBlock = some b ∨ (Value.slice c.ak x'.K.length c.ck).ownBlock = some b := hb
  rw [hN2, hK2] at hb'
  exact hb'
end
def NB (b : Nat) (T : List Nd) : Prop := ∀ x ∈ T, x.N.length ≤ b
theorem putNd_len (x : Nd) (s : ByteArray) (y : Int) : (putNd x s y).N.length = x.N.length + 1 := by
 have := posOf_le x.N s
 show (x.N.take _ ++ s :: x.N.drop _).length = _
 simp only [List.length_append, List.length_take, List.length_cons, List.length_drop]
 omega
theorem nb_set {T : List Nd} {b n : Nat} {x z : Nd} (h : NB b T) (hx : T[n]? = some x) (hz : z.N.length ≤ x.N.length + 1) : NB (b + 1) (T.set n z) := fun y hy => by
 rcases List.mem_or_eq_of_mem_set hy with hy | rfl
 ·have := h y hy; omega
 ·have := h x (List.mem_of_getElem? hx); omega
theorem nb_same {T : List Nd} {b n : Nat} {x z : Nd} (h : NB b T) (hx : T[n]? = some x) (hz : z.N = x.N) : NB b (T.set n z) := fun y hy => by
 rcases List.mem_or_eq_of_mem_set hy with hy | rfl
 ·exact h y hy
 ·rw [hz]; exact h x (List.mem_of_getElem? hx)
theorem makeNode_nb {T : List Nd} {b : Nat} (h : NB b T) (c : Cr) (s : ByteArray) (fo : Bool) (md : Int) : NB (b + 1) (makeNode T c s fo md).1 := by
 have nil : NB (b + 1) [] := fun x hx => by cases hx
 rw [makeNode]
 split
 ·exact nil
 ·split
  ·exact nil
  ·split
   ·exact nil
   ·split
    ·exact nil
    ·rename_i x hx
     intro y hy
     rcases List.mem_append.1 hy with hy | hy
     ·exact nb_set h hx (by rw [putNd_len]; exact Nat.le_refl _) y hy
     ·rw [List.mem_singleton.1 hy]; exact Nat.zero_le _
theorem linkName_nb {T : List Nd} {b : Nat} (h : NB b T) (c : Cr) (src dst : ByteArray) : NB (b + 1) (linkName T c src dst).1 := by
 have nil : NB (b + 1) [] := fun x hx => by cases hx
 rw [linkName]
 split
 ·exact nil
 ·split
  ·exact nil
  ·split
   ·exact nil
   ·split
    ·exact nil
    ·split
     ·exact nil
     ·rename_i x hx
      exact nb_set h hx (by rw [putNd_len]; exact Nat.le_refl _)
theorem cf_read (T : List Nd) (c : Cr) (x : ByteArray) : callF T c [⟨#[114, 101, 97, 100]⟩, x] = (T, if (readFile T c x).2 = 0 then ⟨#[61]⟩ ++ (readFile T c x).1 else faultText (readFile T c x).2) := by
 have h : changeF T c [⟨#[114, 101, 97, 100]⟩, x] = none := by
  unfold changeF
  dsimp only
  rw [if_neg (by decide), if_neg (by decide), if_neg (by decide)]
 unfold callF
 rw [h]
 dsimp only
 unfold tellF
 dsimp only
 rw [if_pos rfl]
theorem cf_list (T : List Nd) (c : Cr) (x : ByteArray) : callF T c [⟨#[108, 105, 115, 116]⟩, x] = (T, if (listNames T c x).2 = 0 then ⟨#[61]⟩ ++ joinW (listNames T c x).1 else faultText (listNames T c x).2) := by
 have h : changeF T c [⟨#[108, 105, 115, 116]⟩, x] = none := by
  unfold changeF
  dsimp only
  rw [if_neg (by decide), if_neg (by decide), if_neg (by decide)]
 unfold callF
 rw [h]
 dsimp only
 unfold tellF
 dsimp only
 rw [if_neg (by decide), if_pos rfl]
theorem cf_mode (T : List Nd) (c : Cr) (x y : ByteArray) (h : (readMode y).2 = true) : callF T c [⟨#[109, 111, 100, 101]⟩, x, y] = doneT T (changeMode T c x (readMode y).1) := by
 have h : changeF T c [⟨#[109, 111, 100, 101]⟩, x, y] = some (changeMode T c x (readMode y).1) := by
  unfold changeF
  dsimp only
  rw [if_neg (by decide), if_pos rfl, if_pos h]
 unfold callF
 rw [h]
theorem cf_nomode (T : List Nd) (c : Cr) (x y : ByteArray) (h : (readMode y).2 = false) : callF T c [⟨#[109, 111, 100, 101]⟩, x, y] = (T, faultText 1) := by
 have h : changeF T c [⟨#[109, 111, 100, 101]⟩, x, y] = some ([], 1) := by
  unfold changeF
  dsimp only
  rw [if_neg (by decide), if_pos rfl, if_neg (by rw [h]; decide)]
 unfold callF
 rw [h]
 rfl
theorem joinW_nil : joinW [] = ⟨#[]⟩ := rfl
theorem joinW_one (a : ByteArray) : joinW [a] = a := by
 unfold joinW
 rw [List.map_cons, List.map_nil, Lib.join_one]
theorem joinW_take {N : List ByteArray} {j : Nat} {a : ByteArray} (h : N[j]? = some a) (hj : 0 < j) : joinW (N.take (j + 1)) = joinW (N.take j) ++ ⟨#[32]⟩ ++ a := by
 cases N with
 | nil => simp at h
 | cons b N =>
  obtain ⟨k, rfl⟩ : ∃ k, j = k + 1 := ⟨j - 1, by omega⟩
  rw [List.getElem?_cons_succ] at h
  unfold joinW
  rw [List.take_succ_cons, List.take_succ_cons, List.map_cons, List.map_cons, Lib.join_cons, Lib.join_cons, List.map_take, List.map_take, Lib.joinTail_take_succ _ _ k a.data.toList (by rw [List.getElem?_map, h]; rfl)]
  apply ByteArray.ext
  apply Array.toList_inj.1
  simp [ByteArray.data_append, List.append_assoc]
theorem joinW_size {N : List ByteArray} {M : Nat} (h : ∀ p ∈ N, p.size ≤ M) : (joinW N).size ≤ N.length * (M + 1) := by
 cases N with
 | nil => simp [joinW_nil, ByteArray.size]
 | cons b N =>
  unfold joinW
  rw [ByteArray.size, List.size_toArray, List.map_cons, Lib.join_cons, List.length_append, Lib.joinTail_length]
  have hb := h b (by simp)
  have hs : ∀ L : List ByteArray, (∀ p ∈ L, p.size ≤ M) → Lib.lens (L.map (·.data.toList)) ≤ L.length * M := fun L => by
   induction L with
   | nil => intro _; simp [Lib.lens]
   | cons p L ih =>
    intro hL
    have h1 := ih (fun q hq => hL q (List.mem_cons_of_mem _ hq))
    have h2 : p.data.toList.length ≤ M := by have := hL p (by simp); rw [Array.length_toList]; exact this
    simp only [Lib.lens, List.map_cons, List.sum_cons, List.length_cons] at h1 ⊢
    rw [Nat.succ_mul]
    omega
  have h3 := hs N (fun q hq => h q (List.mem_cons_of_mem _ hq))
  have h4 : b.data.toList.length ≤ M := by rw [Array.length_toList]; exact hb
  simp only [List.length_map, List.length_cons, List.length_nil] at h3 ⊢
  have h5 : (N.length + 1) * (M + 1) = N.length * M + N.length + M + 1 := by rw [Nat.add_mul, Nat.mul_add]; omega
  rw [h5]
  omega
theorem nb_more {T : List Nd} {b d : Nat} (h : NB b T) (hd : b ≤ d) : NB d T := fun x hx => Nat.le_trans (h x hx) hd
theorem nb_nil (b : Nat) : NB b [] := fun x hx => by cases hx
theorem writeFile_nb {T : List Nd} {b : Nat} (h : NB b T) (c : Cr) (s t : ByteArray) : NB b (writeFile T c s t).1 := by
 rcases gate_cases T c s false 2 with ⟨n, x, hg, hx, hf, hT⟩ | ⟨f, hf, hg⟩
 ·by_cases ht : 40 < t.size
  ·rw [wf_full hg ht]; exact nb_nil b
  ·rw [wf_ok hg ht hx]; exact nb_same h hx rfl
 ·rw [wf_bad hf hg]; exact nb_nil b
theorem changeMode_nb {T : List Nd} {b : Nat} (h : NB b T) (c : Cr) (s : ByteArray) (md : Int) : NB b (changeMode T c s md).1 := by
 cases hm : inB md 0 1023 with
 | false => rw [cm_mode hm]; exact nb_nil b
 | true =>
  rcases find_cases T c s with ⟨n, hF, hn, hT, _⟩ | ⟨f, hf, hF⟩
  ·have hx : T[n]? = some T[n] := List.getElem?_eq_getElem hn
   rw [cm_at hm hF hx]
   split
   ·exact nb_nil b
   ·exact nb_same h hx rfl
  ·rw [cm_fault hm hf hF]; exact nb_nil b
theorem nb_take {T : List Nd} {b m : Nat} {x : Nd} (h : NB b T) (hx : T[m]? = some x) (s : ByteArray) : NB b (T.set m (takeNd x s)) := fun y hy => by
 rcases List.mem_or_eq_of_mem_set hy with hy | rfl
 ·exact h y hy
 ·exact Nat.le_trans (List.eraseIdx_sublist ..).length_le (h x (List.mem_of_getElem? hx))
theorem dropName_nb {T : List Nd} {b : Nat} (h : NB b T) (c : Cr) (s : ByteArray) : NB b (dropName T c s).1 := by
 rcases md_cases T c s with ⟨m, kid, x, z, hD, _, h2, h3⟩ | ⟨f, hf, _, _, hd⟩
 ·by_cases h0 : z.N.length = 0
  ·rw [dn_ok hD (h3 h0)]
   show NB b (dropT T m x (lastOf s) kid)
   unfold dropT
   split
   ·exact nb_take h hD.fa.hx _
   ·intro y hy
    obtain ⟨q, hq, rfl⟩ := List.mem_map.1 hy
    exact nb_take h hD.fa.hx (lastOf s) q ((List.eraseIdx_sublist ..).subset hq)
  ·rw [dn_bad (by decide) (h2 (by omega))]; exact nb_nil b
 ·rw [dn_bad hf hd]; exact nb_nil b
theorem move_cases (T : List Nd) (c : Cr) (src dst : ByteArray) : (∃ m n kid x y z, moveName T c src dst = (moveT T m n x y (lastOf src) (lastOf dst) kid, 0) ∧ TreeOk T ∧ T[m]? = some x ∧ kidOf x.N x.K (lastOf src) = ((kid : Nat) : Int) ∧ T[kid]? = some z ∧ (T.set m (takeNd x (lastOf src)))[n]? = some y ∧ y.fold = true ∧ NameOk (lastOf dst) ∧ lastOf dst ∉ y.N ∧ (z.fold = false ∨ m = n)) ∨ ∃ f : Int, f ≠ 0 ∧ moveName T c src dst = ([], f) := by
 rcases md_cases T c src with ⟨m, kid, x, z, hD, hd0, _, _⟩ | ⟨f, hf, _, hd0, _⟩
 ·rcases placeFor_in T c dst with ⟨ab, nm, n, q, hp, hab, hnm, hq, hqf, hqn, hT, _⟩ | ⟨h1, h2⟩
  ·have hl : lastOf dst = nm := by rw [lastOf, hab]
   have hn : n < T.length := (List.getElem?_eq_some_iff.1 hq).1
   by_cases hz : z.fold = false ∨ m = n
   ·have hy : (T.set m (takeNd x (lastOf src)))[n]? = some ((T.set m (takeNd x (lastOf src)))[n]'(by rw [List.length_set]; exact hn)) := List.getElem?_eq_getElem _
    generalize (T.set m (takeNd x (lastOf src)))[n]'(by rw [List.length_set]; exact hn) = y at hy
    have hyy : y.fold = true ∧ nm ∉ y.N := by
     by_cases e : m = n
     ·subst e
      rw [List.getElem?_set_self (by exact hn)] at hy
      cases hy
      rw [hD.fa.hx] at hq
      cases hq
      exact ⟨hqf, fun hm => hqn ((List.eraseIdx_sublist ..).subset hm)⟩
     ·rw [List.getElem?_set_ne e, hq] at hy
      cases hy
      exact ⟨hqf, hqn⟩
    exact .inl ⟨m, n, kid, x, y, z, mv_ok hd0 hD hp hz hy, hT, hD.fa.hx, hD.kd, hD.hz, hy, hyy.1, by rw [hl]; exact hnm, by rw [hl]; exact hyy.2, hz⟩
   ·refine .inr ⟨4, by decide, mv_kind hd0 hD hp ?_ (fun e => hz (.inr e))⟩
    cases hzf : z.fold with
    | true => rfl
    | false => exact absurd (.inl hzf) hz
  ·exact .inr ⟨_, h1, mv_place hd0 h1 (Prod.ext h2 rfl)⟩
 ·exact .inr ⟨f, hf, mv_bad hf hd0⟩
theorem moveName_ok (T : List Nd) (c : Cr) (src dst : ByteArray) : ((moveName T c src dst).2 = 0 ∧ TreeOk (moveName T c src dst).1) ∨ ((moveName T c src dst).2 ≠ 0 ∧ (moveName T c src dst).1 = []) := by
 rcases move_cases T c src dst with ⟨m, n, kid, x, y, z, e, hT, hx, hk, hz, hy, hyf, hd, hnd, hzf⟩ | ⟨f, hf, e⟩
 ·rw [e]; exact .inl ⟨rfl, moveT_ok hT hx hk hz hy hyf hd hnd hzf⟩
 ·rw [e]; exact .inr ⟨hf, rfl⟩
theorem moveName_nb {T : List Nd} {b : Nat} (h : NB b T) (c : Cr) (src dst : ByteArray) : NB (b + 1) (moveName T c src dst).1 := by
 rcases move_cases T c src dst with ⟨m, n, kid, x, y, z, e, hT, hx, hk, hz, hy, hyf, hd, hnd, hzf⟩ | ⟨f, hf, e⟩
 ·rw [e]; exact nb_set (nb_take h hx _) hy (by rw [putNd_len]; exact Nat.le_refl _)
 ·rw [e]; exact nb_nil _
theorem changeF_ok {T : List Nd} {b : Nat} (h : NB b T) (c : Cr) (W : List ByteArray) {r : List Nd × Int} (hr : changeF T c W = some r) : (r.2 = 0 → TreeOk r.1) ∧ NB (b + 1) r.1 := by
 have g : ∀ {q : List Nd × Int} {P : Prop}, ((q.2 = 0 ∧ TreeOk T ∧ TreeOk q.1 ∧ P) ∨ (q.2 ≠ 0 ∧ q.1 = [])) → (q.2 = 0 → TreeOk q.1) := fun hq h0 => by
  rcases hq with hq | hq
  ·exact hq.2.2.1
  ·exact absurd h0 hq.1
 unfold changeF at hr
 split at hr
 ·split at hr
  ·cases hr; exact ⟨g (makeNode_ok ..), makeNode_nb h c _ _ _⟩
  ·split at hr
   ·cases hr; exact ⟨g (makeNode_ok ..), makeNode_nb h c _ _ _⟩
   ·split at hr
    ·cases hr; exact ⟨g (dropName_ok ..), nb_more (dropName_nb h c _) (by omega)⟩
    ·cases hr
 ·split at hr
  ·cases hr; exact ⟨g (writeFile_ok ..), nb_more (writeFile_nb h c _ _) (by omega)⟩
  ·split at hr
   ·split at hr
    ·cases hr; exact ⟨g (changeMode_ok ..), nb_more (changeMode_nb h c _ _) (by omega)⟩
    ·cases hr; exact ⟨fun e => by simp at e, nb_nil _⟩
   ·split at hr
    ·cases hr; exact ⟨g (linkName_ok ..), linkName_nb h c _ _⟩
    ·split at hr
     ·cases hr
      refine ⟨fun e => ?_, moveName_nb h c _ _⟩
      rcases moveName_ok T c _ _ with hq | hq
      ·exact hq.2
      ·exact absurd e hq.1
     ·cases hr
 ·cases hr
theorem callF_ok {T : List Nd} {b : Nat} (hT : TreeOk T) (h : NB b T) (c : Cr) (W : List ByteArray) : TreeOk (callF T c W).1 ∧ NB (b + 1) (callF T c W).1 := by
 unfold callF
 split
 ·rename_i r hr
  have h1 := changeF_ok h c W hr
  refine ⟨done_ok hT h1.1, ?_⟩
  unfold doneT
  split
  ·exact h1.2
  ·exact nb_more h (by omega)
 ·exact ⟨hT, nb_more h (by omega)⟩
theorem tree_sm20 {T : List Nd} (h : TreeOk T) {b : Nat} (hb : NB b T) (h20 : b ≤ 1000000) : ∀ x ∈ T, SmN 1048576 x := fun x hx => by
 obtain ⟨k, hk⟩ := List.getElem?_of_mem hx
 have hN := h.nodes k x hk
 have hl := hb x hx
 refine ⟨by have := hN.short; omega, by omega, fun s hs => ?_, by have := hN.len; omega⟩
 obtain ⟨j, hj⟩ := List.getElem?_of_mem hs
 have := ((hN.at_ j (List.getElem?_eq_some_iff.1 hj).1).1 s hj).1.2.2
 omega
theorem rf_size (T : List Nd) (c : Cr) (s : ByteArray) (h : ∀ x ∈ T, SmN 1048576 x) : (readFile T c s).1.size ≤ 1048576 := by
 unfold readFile
 split
 ·exact Nat.zero_le _
 ·split
  ·exact Nat.zero_le _
  ·rename_i x hx
   exact (h x (List.mem_of_getElem? hx)).1
theorem li_size (T : List Nd) (c : Cr) (s : ByteArray) (h : ∀ x ∈ T, SmN 1048576 x) : (listNames T c s).1.length ≤ 1048576 ∧ ∀ p ∈ (listNames T c s).1, p.size ≤ 1048576 := by
 unfold listNames
 split
 ·exact ⟨Nat.zero_le _, fun p hp => by cases hp⟩
 ·split
  ·exact ⟨Nat.zero_le _, fun p hp => by cases hp⟩
  ·rename_i x hx
   have h1 := h x (List.mem_of_getElem? hx)
   exact ⟨h1.2.1, h1.2.2.1⟩
def preJ (N : List ByteArray) (k : Nat) : ByteArray := ⟨#[61]⟩ ++ joinW (N.take k)
theorem ba_nil (a : ByteArray) : a ++ ⟨#[]⟩ = a := ByteArray.ext (by simp [ByteArray.data_append])
theorem ba_assoc (a b c : ByteArray) : a ++ (b ++ c) = a ++ b ++ c := ByteArray.ext (by simp [ByteArray.data_append, Array.append_assoc])
theorem preJ_zero (N : List ByteArray) : preJ N 0 = ⟨#[61]⟩ := by
 unfold preJ
 rw [List.take_zero, joinW_nil, ba_nil]
theorem preJ_one {N : List ByteArray} {a : ByteArray} (h : N[0]? = some a) : preJ N 0 ++ a = preJ N 1 := by
 rw [preJ_zero]
 unfold preJ
 cases N with
 | nil => simp at h
 | cons b N =>
  simp only [List.getElem?_cons_zero, Option.some.injEq] at h
  subst h
  rw [List.take_succ_cons, List.take_zero, joinW_one]
theorem preJ_more {N : List ByteArray} {k : Nat} {a : ByteArray} (h : N[k]? = some a) (hk : 0 < k) : preJ N k ++ ⟨#[32]⟩ ++ a = preJ N (k + 1) := by
 unfold preJ
 rw [joinW_take h hk, ba_assoc, ba_assoc]
theorem preJ_size {N : List ByteArray} (h : ∀ p ∈ N, p.size ≤ 1048576) (k : Nat) (hk : k ≤ 1048576) : (preJ N k).size ≤ 1099512676353 := by
 unfold preJ
 have h1 := joinW_size (N := N.take k) (M := 1048576) (fun p hp => h p (List.mem_of_mem_take hp))
 have h2 : (N.take k).length ≤ 1048576 := by rw [List.length_take]; omega
 have h3 : (N.take k).length * (1048576 + 1) ≤ 1048576 * (1048576 + 1) := Nat.mul_le_mul_right _ h2
 rw [ByteArray.size_append]
 show 1 + _ ≤ _
 omega
theorem ch_folder (T : List Nd) (c : Cr) (x : ByteArray) : changeF T c [⟨#[102, 111, 108, 100, 101, 114]⟩, x] = some (makeNode T c x true 493) := by
 unfold changeF
 dsimp only
 rw [if_pos rfl]
theorem ch_file (T : List Nd) (c : Cr) (x : ByteArray) : changeF T c [⟨#[102, 105, 108, 101]⟩, x] = some (makeNode T c x false 420) := by
 unfold changeF
 dsimp only
 rw [if_neg (by decide), if_pos rfl]
theorem ch_drop (T : List Nd) (c : Cr) (x : ByteArray) : changeF T c [⟨#[100, 114, 111, 112]⟩, x] = some (dropName T c x) := by
 unfold changeF
 dsimp only
 rw [if_neg (by decide), if_neg (by decide), if_pos rfl]
theorem ch_write (T : List Nd) (c : Cr) (x y : ByteArray) : changeF T c [⟨#[119, 114, 105, 116, 101]⟩, x, y] = some (writeFile T c x y) := by
 unfold changeF
 dsimp only
 rw [if_pos rfl]
theorem ch_mode (T : List Nd) (c : Cr) (x y : ByteArray) : changeF T c [⟨#[109, 111, 100, 101]⟩, x, y] = if (readMode y).2 = true then some (changeMode T c x (readMode y).1) else some ([], 1) := by
 unfold changeF
 dsimp only
 rw [if_neg (by decide), if_pos rfl]
theorem ch_link (T : List Nd) (c : Cr) (x y : ByteArray) : changeF T c [⟨#[108, 105, 110, 107]⟩, x, y] = some (linkName T c x y) := by
 unfold changeF
 dsimp only
 rw [if_neg (by decide), if_neg (by decide), if_pos rfl]
theorem ch_move (T : List Nd) (c : Cr) (x y : ByteArray) : changeF T c [⟨#[109, 111, 118, 101]⟩, x, y] = some (moveName T c x y) := by
 unfold changeF
 dsimp only
 rw [if_neg (by decide), if_neg (by decide), if_neg (by decide), if_pos rfl]
theorem ch_two (T : List Nd) (c : Cr) {a : ByteArray} (x : ByteArray) (h0 : a ≠ ⟨#[102, 111, 108, 100, 101, 114]⟩) (h1 : a ≠ ⟨#[102, 105, 108, 101]⟩) (h2 : a ≠ ⟨#[100, 114, 111, 112]⟩) : changeF T c [a, x] = none := by
 unfold changeF
 dsimp only
 rw [if_neg h0, if_neg h1, if_neg h2]
theorem ch_three (T : List Nd) (c : Cr) {a : ByteArray} (x y : ByteArray) (h0 : a ≠ ⟨#[119, 114, 105, 116, 101]⟩) (h1 : a ≠ ⟨#[109, 111, 100, 101]⟩) (h2 : a ≠ ⟨#[108, 105, 110, 107]⟩) (h3 : a ≠ ⟨#[109, 111, 118, 101]⟩) : changeF T c [a, x, y] = none := by
 unfold changeF
 dsimp only
 rw [if_neg h0, if_neg h1, if_neg h2, if_neg h3]
theorem ch_len (T : List Nd) (c : Cr) {W : List ByteArray} (h2 : W.length ≠ 2) (h3 : W.length ≠ 3) : changeF T c W = none := by
 match W, h2, h3 with
 | [], _, _ => rfl
 | [_], _, _ => rfl
 | [_, _], h, _ => exact absurd rfl h
 | [_, _, _], _, h => exact absurd rfl h
 | _ :: _ :: _ :: _ :: _, _, _ => rfl
theorem te_read (T : List Nd) (c : Cr) (x : ByteArray) : tellF T c [⟨#[114, 101, 97, 100]⟩, x] = if (readFile T c x).2 = 0 then ⟨#[61]⟩ ++ (readFile T c x).1 else faultText (readFile T c x).2 := by
 unfold tellF
 dsimp only
 rw [if_pos rfl]
theorem te_list (T : List Nd) (c : Cr) (x : ByteArray) : tellF T c [⟨#[108, 105, 115, 116]⟩, x] = if (listNames T c x).2 = 0 then ⟨#[61]⟩ ++ joinW (listNames T c x).1 else faultText (listNames T c x).2 := by
 unfold tellF
 dsimp only
 rw [if_neg (by decide), if_pos rfl]
theorem te_two (T : List Nd) (c : Cr) {a : ByteArray} (x : ByteArray) (h0 : a ≠ ⟨#[114, 101, 97, 100]⟩) (h1 : a ≠ ⟨#[108, 105, 115, 116]⟩) : tellF T c [a, x] = faultText 1 := by
 unfold tellF
 dsimp only
 rw [if_neg h0, if_neg h1]
theorem te_len (T : List Nd) (c : Cr) {W : List ByteArray} (h2 : W.length ≠ 2) : tellF T c W = faultText 1 := by
 match W, h2 with
 | [], _ => rfl
 | [_], _ => rfl
 | [_, _], h => exact absurd rfl h
 | _ :: _ :: _ :: _, _ => rfl
theorem callLine_ok {T : List Nd} {c : Cr} (h : TreeOk T ∧ c.ok) (s : ByteArray) : callLine T c s = callF T c (wordsB s) := by unfold callLine; rw [if_pos h]
end Go.Proofs.YtnibbldfohbfkaaGreatDoor
