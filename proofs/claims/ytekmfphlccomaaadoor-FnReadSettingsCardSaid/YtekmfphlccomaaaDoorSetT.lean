/- ReadSettings: what it answers; texts of valid settings can be read in one way. No condition. -/
import Derived.Test.YtekmfphlccomaaaDoorSetZ
import Derived.Lib.Split
namespace Go.Proofs.YtekmfphlccomaaaDoor
open Go.RowKit

theorem index_at {A R : List UInt8} {c : UInt8} (h : c ∉ A) : Lib.index (A ++ c :: R) [c] = A.length := by
  refine Lib.index_first (by simp) (by simp [Lib.occAt, List.isPrefixOf]) (fun j hj => ?_)
  cases ho : Lib.occAt (A ++ c :: R) [c] j with
  | false => rfl
  | true =>
    have h1 := Lib.occAt_head rfl ho
    rw [List.getElem?_append_left hj] at h1
    exact absurd (List.mem_of_getElem? h1) h
theorem index_no {A : List UInt8} {c : UInt8} (h : c ∉ A) : Lib.index A [c] = -1 := by
  refine Lib.index_none (fun j _ => ?_)
  cases ho : Lib.occAt A [c] j with
  | false => rfl
  | true => exact absurd (List.mem_of_getElem? (Lib.occAt_head rfl ho)) h
theorem join2 (a b : List UInt8) (r : List (List UInt8)) : Lib.join (a :: b :: r) [59] = a ++ 59 :: Lib.join (b :: r) [59] := by
  rw [Lib.join_cons, Lib.join_cons]
  simp [Lib.joinTail]
theorem split_join : ∀ (ls : List (List UInt8)) (k : Nat), ls ≠ [] → ls.length ≤ k + 1 → (∀ a ∈ ls, (59 : UInt8) ∉ a) → Lib.splitK [59] 0 k (Lib.join ls [59]) = ls
  | [], _, h, _, _ => absurd rfl h
  | [a], k, _, _, h => by
    rw [Lib.join_one]
    cases k with
    | zero => rfl
    | succ k => simp [Lib.splitK, index_no (h a (by simp))]
  | a :: b :: r, 0, _, hl, _ => by simp at hl
  | a :: b :: r, k + 1, _, hl, h => by
    rw [join2]
    have h1 := index_at (R := Lib.join (b :: r) [59]) (h a (by simp))
    have ih := split_join (b :: r) k (by simp) (by simp only [List.length_cons] at hl ⊢; omega) (fun x hx => h x (List.mem_cons_of_mem _ hx))
    have hne : ¬ ((a.length : Int) == -1) = true := by simp
    unfold Lib.splitK
    rw [h1, if_neg hne]
    simp [ih]
theorem cut_at {A B : List UInt8} (h : (61 : UInt8) ∉ A) : Lib.cut (A ++ 61 :: B) [61] = (A, B, true) := by
  unfold Lib.cut
  rw [index_at h, if_pos (by omega)]
  simp
theorem line_data (x : Set) : (lineB x).data.toList = x.name.data.toList ++ 61 :: x.text.data.toList := by simp [lineB]
theorem mem_ba {s : ByteArray} {c : UInt8} (h : c ∈ s.data.toList) : ∃ k, ∃ h : k < s.size, s[k] = c := by
  obtain ⟨k, hk, e⟩ := List.mem_iff_getElem.1 h
  exact ⟨k, hk, e⟩
theorem name_no {s : ByteArray} (h : NameOk s) (c : UInt8) (hc : c.toNat < 97 ∧ ¬ (48 ≤ c.toNat ∧ c.toNat ≤ 57)) : c ∉ s.data.toList := fun hm => by
  obtain ⟨k, hk, rfl⟩ := mem_ba hm
  have h1 := h.1 k hk
  unfold NameChar at h1
  omega
theorem text_no {s : ByteArray} (h : TextOk s) : (59 : UInt8) ∉ s.data.toList := fun hm => by
  obtain ⟨k, hk, e⟩ := mem_ba hm
  have h1 := h.1 k hk
  rw [e] at h1
  exact h1.2.2 rfl
theorem line_no {x : Set} (h : okSet x) : (59 : UInt8) ∉ (lineB x).data.toList := fun hm => by
  rw [line_data] at hm
  rcases List.mem_append.1 hm with hm | hm
  · exact name_no h.1 59 (by decide) hm
  · rcases List.mem_cons.1 hm with hm | hm
    · cases hm
    · exact text_no h.2 hm
theorem line_ne (x : Set) : (lineB x).data.toList ≠ [] := by rw [line_data]; simp
def cutS (p : List UInt8) : Set := ⟨⟨(Lib.cut p [61]).1.toArray⟩, ⟨(Lib.cut p [61]).2.1.toArray⟩⟩
theorem cutS_line {x : Set} (h : okSet x) : cutS (lineB x).data.toList = x := by
  unfold cutS
  rw [line_data, cut_at (name_no h.1 61 (by decide))]
theorem sets_all {L : List Set} (h : SetsOk L) {x : Set} (hx : x ∈ L) : okSet x := by
  obtain ⟨k, hk⟩ := List.getElem?_of_mem hx
  exact (h.1 k (List.getElem?_eq_some_iff.1 hk).1 x hk).1
theorem parse_text {L : List Set} (h : SetsOk L) (hne : L ≠ []) {k : Nat} (hk : L.length ≤ k + 1) : (Lib.splitK [59] 0 k (textL L)).map cutS = L := by
  unfold textL
  rw [split_join _ k (by simpa using hne) (by simpa using hk) (fun a ha => by
    obtain ⟨x, hx, rfl⟩ := List.mem_map.1 ha
    exact line_no (sets_all h hx)), List.map_map]
  rw [List.map_congr_left (f := cutS ∘ fun x => (lineB x).data.toList) (g := id) (fun x hx => cutS_line (sets_all h hx))]
  simp
theorem textL_cons (x : Set) (r : List Set) : textL (x :: r) = (lineB x).data.toList ++ (match r with | [] => [] | y :: r => 59 :: textL (y :: r)) := by
  cases r with
  | nil => simp [textL, Lib.join_one]
  | cons y r => exact join2 _ _ _
theorem textL_ne {L : List Set} (h : L ≠ []) : textL L ≠ [] := by
  cases L with
  | nil => exact absurd rfl h
  | cons x r =>
    rw [textL_cons]
    intro e
    exact line_ne x (List.append_eq_nil_iff.1 e).1
theorem textL_many {L : List Set} : L.length ≤ (textL L).length := by
  induction L with
  | nil => simp
  | cons x r ih =>
    rw [textL_cons]
    have h1 : 1 ≤ (lineB x).data.toList.length := List.length_pos_iff.2 (line_ne x)
    cases r with
    | nil => simp only [List.length_append, List.length_cons, List.length_nil]; omega
    | cons y r =>
      simp only [List.length_append, List.length_cons] at ih ⊢
      omega
theorem textL_inj {L M : List Set} (h : SetsOk L) (h' : SetsOk M) (e : textL L = textL M) : L = M := by
  by_cases hL : L = []
  · subst hL
    by_cases hM : M = []
    · exact hM.symm
    · exact absurd e.symm (textL_ne hM)
  · by_cases hM : M = []
    · subst hM; exact absurd e (textL_ne hL)
    · rw [← parse_text h hL (k := 8) (by have := h.2; omega), ← parse_text h' hM (k := 8) (by have := h'.2; omega), e]
def textB (L : List Set) : ByteArray := ⟨(textL L).toArray⟩
theorem textB_data (L : List Set) : (textB L).data.toList = textL L := by simp [textB]
theorem textB_eq {L : List Set} {s : ByteArray} : textB L = s ↔ textL L = s.data.toList := by
  constructor
  · rintro rfl; exact (textB_data L).symm
  · intro h
    apply ByteArray.ext
    simp [textB, h]
def ReadSR (s : ByteArray) (X : List Set) (ok : Bool) : Prop := (ok = true ∧ SetsOk X ∧ s = textB X) ∨ (ok = false ∧ X = [] ∧ ∀ L, SetsOk L → textB L ≠ s)
theorem readSR_fun {s : ByteArray} {X Y : List Set} {ok ok' : Bool} (h : ReadSR s X ok) (h' : ReadSR s Y ok') : X = Y ∧ ok = ok' := by
  rcases h with ⟨e, h1, h2⟩ | ⟨e, h1, h2⟩ <;> rcases h' with ⟨e', k1, k2⟩ | ⟨e', k1, k2⟩
  · refine ⟨textL_inj h1 k1 ?_, e.trans e'.symm⟩
    have h3 : textB X = textB Y := h2.symm.trans k2
    rw [← textB_data, h3, textB_data]
  · exact absurd h2.symm (k2 X h1)
  · exact absurd k2.symm (h2 Y k1)
  · exact ⟨h1.trans k1.symm, e.trans e'.symm⟩
theorem readSR_len {s : ByteArray} {X : List Set} {ok : Bool} (h : ReadSR s X ok) : X.length ≤ 8 := by
  rcases h with ⟨_, h, _⟩ | ⟨_, h, _⟩
  · exact h.2
  · rw [h]; simp
theorem sets_fits {X : List Set} (h : SetsOk X) : FitsS X := fun x hx => by
  have hok := sets_all h hx
  have h1 : x.name.size ≤ 8 := hok.1.2.2
  have h2 : x.text.size ≤ 16 := hok.2.2
  exact ⟨by omega, by omega⟩
theorem readSR_fits {s : ByteArray} {X : List Set} {ok : Bool} (h : ReadSR s X ok) : FitsS X := by
  rcases h with ⟨_, h, _⟩ | ⟨_, h, _⟩
  · exact sets_fits h
  · rw [h]; intro x hx; simp at hx
/-- What is read first, judged by its own text. -/
theorem readSR_judge {s t : ByteArray} {X : List Set} (hT : TextR X t) (hall : ∀ L, SetsOk L → textB L = s → X = L) : (SetsOk X → t = s → ReadSR s X true) ∧ (SetsOk X → t ≠ s → ReadSR s [] false) ∧ (¬ SetsOk X → ReadSR s [] false) := by
  refine ⟨fun hv e => .inl ⟨rfl, hv, ?_⟩, fun hv hne => .inr ⟨rfl, rfl, fun L hL e => ?_⟩, fun hv => .inr ⟨rfl, rfl, fun L hL e => ?_⟩⟩
  · rw [← e]; exact hT.1 hv
  · have h1 := hall L hL e
    subst h1
    exact hne ((hT.1 hv).trans e)
  · have h1 := hall L hL e
    subst h1
    exact hv hL

/-! ### The program: cut at the semicolons, nine pieces at most -/
def readI (s : ByteArray) : List Set := (Lib.splitB ⟨#[59]⟩ 0 (min 9 (s.size + 1) - 1) s).map (fun p => cutS p.data.toList)
theorem readI_eq (s : ByteArray) : readI s = (Lib.splitK [59] 0 (min 9 (s.size + 1) - 1) s.data.toList).map cutS := by
  have h := Lib.splitB_data ⟨#[59]⟩ 0 (min 9 (s.size + 1) - 1) s
  have e : (⟨#[59]⟩ : ByteArray).data.toList = [59] := rfl
  rw [e] at h
  rw [← h, List.map_map]
  rfl
theorem readI_all {s : ByteArray} (hs : s.size ≠ 0) : ∀ L, SetsOk L → textB L = s → readI s = L := fun L hL e => by
  have e2 := textB_eq.1 e
  have hne : L ≠ [] := fun h => by
    subst h
    have h1 : s.data.toList.length = 0 := by rw [← e2]; rfl
    rw [← Lib.size_eq] at h1
    exact hs h1
  have hm := textL_many (L := L)
  rw [e2, ← Lib.size_eq] at hm
  rw [readI_eq, ← e2]
  exact parse_text hL hne (by have := hL.2; omega)
theorem splitK_le : ∀ (k : Nat) (t : List UInt8), ∀ p ∈ Lib.splitK [59] 0 k t, p.length ≤ t.length
  | 0, t, p, hp => by simp [Lib.splitK] at hp; rw [hp]; exact Nat.le_refl _
  | k + 1, t, p, hp => by
    unfold Lib.splitK at hp
    split at hp
    · simp at hp; rw [hp]; exact Nat.le_refl _
    · rcases List.mem_cons.1 hp with rfl | hp
      · simp only [List.length_take]; omega
      · have := splitK_le k _ p hp
        simp only [List.length_drop] at this
        omega
theorem cutS_le (p : List UInt8) : (cutS p).name.size ≤ p.length ∧ (cutS p).text.size ≤ p.length := by
  have h1 : (cutS p).name.size = (Lib.cut p [61]).1.length := by simp [cutS, ByteArray.size]
  have h2 : (cutS p).text.size = (Lib.cut p [61]).2.1.length := by simp [cutS, ByteArray.size]
  rw [h1, h2]
  unfold Lib.cut
  split
  · simp only [List.length_take, List.length_drop]; omega
  · simp
theorem readI_fits {s : ByteArray} (hs : s.size ≤ 9223372036854775807) : FitsS (readI s) := fun x hx => by
  rw [readI_eq] at hx
  obtain ⟨p, hp, rfl⟩ := List.mem_map.1 hx
  have h1 := splitK_le _ _ p hp
  rw [← Lib.size_eq] at h1
  have h2 := cutS_le p
  exact ⟨by omega, by omega⟩
theorem readI_len (s : ByteArray) : (readI s).length ≤ 9 := by
  unfold readI
  rw [List.length_map]
  have := Lib.splitB_length_le ⟨#[59]⟩ 0 (min 9 (s.size + 1) - 1) s
  omega

/-! ### The reference: one after the other -/
theorem cut_unique {c : UInt8} : ∀ {A B R Q : List UInt8}, A ++ R = B ++ Q → c ∉ A → c ∉ B → (R = [] ∨ ∃ R', R = c :: R') → (Q = [] ∨ ∃ Q', Q = c :: Q') → A = B ∧ R = Q
  | [], [], R, Q, h, _, _, _, _ => ⟨rfl, h⟩
  | [], b :: B, R, Q, h, _, hB, hR, _ => by
    rcases hR with rfl | ⟨R', rfl⟩
    · simp at h
    · simp only [List.nil_append, List.cons_append, List.cons.injEq] at h
      exact absurd (by simp [h.1]) hB
  | a :: A, [], R, Q, h, hA, _, _, hQ => by
    rcases hQ with rfl | ⟨Q', rfl⟩
    · simp at h
    · simp only [List.nil_append, List.cons_append, List.cons.injEq] at h
      exact absurd (by simp [h.1]) hA
  | a :: A, b :: B, R, Q, h, hA, hB, hR, hQ => by
    simp only [List.cons_append, List.cons.injEq] at h
    obtain ⟨rfl, rfl⟩ := cut_unique h.2 (fun hm => hA (List.mem_cons_of_mem _ hm)) (fun hm => hB (List.mem_cons_of_mem _ hm)) hR hQ
    exact ⟨by rw [h.1], rfl⟩
/-- What has been read of t up to place a, whatever valid settings it is the text of. -/
def InvS (t : List UInt8) (a : Nat) (X : List Set) : Prop := ∀ L, SetsOk L → textL L = t → ∃ k, k ≤ L.length ∧ X = L.take k ∧ (k < L.length → t.drop a = textL (L.drop k)) ∧ (k = L.length → t.length ≤ a)
theorem invS_start (t : List UInt8) : InvS t 0 [] := fun L hL e => ⟨0, Nat.zero_le _, by simp, fun _ => by simpa using e.symm, fun h => by
  have : L = [] := List.eq_nil_of_length_eq_zero h.symm
  subst this
  rw [← e]; simp [textL_nil]⟩
theorem invS_end {t : List UInt8} {a : Nat} {X : List Set} (h : InvS t a X) (ha : t.length ≤ a) : ∀ L, SetsOk L → textL L = t → X = L := fun L hL e => by
  obtain ⟨k, hk, rfl, h1, _⟩ := h L hL e
  rcases Nat.lt_or_eq_of_le hk with c | c
  · have h2 := h1 c
    rw [List.drop_eq_nil_of_le ha] at h2
    exact absurd h2.symm (textL_ne (by intro e; have := congrArg List.length e; simp at this; omega))
  · rw [c, List.take_length]
/-- The place of the end and the sign, in words of lists. -/
structure AtS (s : ByteArray) (a g e : Nat) : Prop where
  lt : a < s.size
  ag : a ≤ g
  ge : g ≤ e
  es : e ≤ s.size
  noE : ∀ j, a ≤ j → j < e → ∀ h : j < s.size, s[j] ≠ 59
  isE : e = s.size ∨ ∃ h : e < s.size, s[e] = 59
  noG : ∀ j, a ≤ j → j < g → ∀ h : j < s.size, s[j] ≠ 61
  isG : g = e ∨ ∃ h : g < s.size, s[g] = 61
theorem drop_take_no {s : ByteArray} {a b : Nat} {c : UInt8} (h : ∀ j, a ≤ j → j < b → ∀ h : j < s.size, s[j] ≠ c) : c ∉ (s.data.toList.drop a).take (b - a) := fun hm => by
  obtain ⟨i, hi⟩ := List.getElem?_of_mem hm
  rw [List.getElem?_take] at hi
  split at hi
  · rw [List.getElem?_drop] at hi
    obtain ⟨h1, h2⟩ := List.getElem?_eq_some_iff.1 hi
    exact h (a + i) (by omega) (by omega) h1 h2
  · cases hi
theorem drop_is {s : ByteArray} {e : Nat} {c : UInt8} (h : e < s.size) (hc : s[e] = c) : s.data.toList.drop e = c :: s.data.toList.drop (e + 1) := by
  have h1 : e < s.data.toList.length := h
  rw [List.drop_eq_getElem_cons h1]
  exact congrArg (· :: _) hc
theorem extract_ba (s : ByteArray) (a b : Nat) : (s.extract a b).data.toList = (s.data.toList.drop a).take (b - a) := by
  rw [Lib.extract_eq]
theorem invS_parts {s : ByteArray} {a g e : Nat} {X : List Set} (h : InvS s.data.toList a X) (H : AtS s a g e) : ∀ L, SetsOk L → textL L = s.data.toList → ∃ k x, k < L.length ∧ X = L.take k ∧ L[k]? = some x ∧ (s.data.toList.drop a).take (e - a) = (lineB x).data.toList ∧
    (s.data.toList.drop e = [] ∨ k + 1 < L.length ∧ s.data.toList.drop (e + 1) = textL (L.drop (k + 1))) ∧ (s.data.toList.drop e = [] → k + 1 = L.length) := fun L hL el => by
  obtain ⟨k, hk, hX, h1, h2⟩ := h L hL el
  have hal : a < s.data.toList.length := H.lt
  have hkl : k < L.length := by
    rcases Nat.lt_or_eq_of_le hk with c | c
    · exact c
    · have := h2 c; omega
  have hx : L[k]? = some L[k] := List.getElem?_eq_getElem hkl
  have e1 : s.data.toList.drop a = (s.data.toList.drop a).take (e - a) ++ s.data.toList.drop e := by
    conv => lhs; rw [← List.take_append_drop (e - a) (s.data.toList.drop a)]
    rw [List.drop_drop, show a + (e - a) = e by have := H.ag; have := H.ge; omega]
  have e2 := h1 hkl
  rw [List.drop_eq_getElem_cons hkl, textL_cons, e1] at e2
  have hR : s.data.toList.drop e = [] ∨ ∃ R', s.data.toList.drop e = 59 :: R' := by
    rcases H.isE with c | ⟨c, c2⟩
    · exact .inl (List.drop_eq_nil_of_le (by rw [c]; exact Nat.le_refl _))
    · exact .inr ⟨_, drop_is c c2⟩
  have hn1 := drop_take_no H.noE
  have hn2 := line_no (sets_all hL (List.getElem_mem hkl))
  rcases hr : L.drop (k + 1) with _ | ⟨y, r⟩
  · rw [hr] at e2
    obtain ⟨h3, h4⟩ := cut_unique e2 hn1 hn2 hR (.inl rfl)
    have h5 : k + 1 = L.length := by
      have := congrArg List.length hr
      simp at this; omega
    exact ⟨k, L[k], hkl, hX, hx, h3, .inl h4, fun _ => h5⟩
  · rw [hr] at e2
    obtain ⟨h3, h4⟩ := cut_unique e2 hn1 hn2 hR (.inr ⟨_, rfl⟩)
    have h5 : k + 1 < L.length := by
      have := congrArg List.length hr
      simp at this; omega
    refine ⟨k, L[k], hkl, hX, hx, h3, .inr ⟨h5, ?_⟩, fun h6 => ?_⟩
    · have h7 : s.data.toList.drop (e + 1) = (s.data.toList.drop e).drop 1 := by rw [List.drop_drop]
      rw [h7, h4, hr]
      rfl
    · rw [h6] at h4; cases h4
theorem take_take_le {t : List UInt8} {m n : Nat} (h : m ≤ n) : (t.take n).take m = t.take m := by rw [List.take_take, Nat.min_eq_left h]
theorem invS_none {s : ByteArray} {a e : Nat} {X : List Set} (h : InvS s.data.toList a X) (H : AtS s a e e) : ∀ L, SetsOk L → textB L ≠ s := fun L hL el => by
  obtain ⟨k, x, hkl, _, hx, h3, _⟩ := invS_parts h H L hL (textB_eq.1 el)
  have h4 := drop_take_no H.noG
  rw [h3, line_data] at h4
  exact h4 (by simp)
theorem invS_step {s : ByteArray} {a g e : Nat} {X : List Set} (h : InvS s.data.toList a X) (H : AtS s a g e) (hge : g < e) : InvS s.data.toList (e + 1) (X ++ [⟨s.extract a g, s.extract (g + 1) e⟩]) := fun L hL el => by
  obtain ⟨k, x, hkl, hX, hx, h3, h4, h5⟩ := invS_parts h H L hL el
  obtain ⟨hgs, hg⟩ := H.isG.resolve_left (by omega)
  have hag := H.ag
  have hok := sets_all hL (List.mem_of_getElem? hx)
  -- the line, cut at the sign
  have e1 : (s.data.toList.drop a).take (e - a) = (s.data.toList.drop a).take (g - a) ++ 61 :: (s.data.toList.drop (g + 1)).take (e - (g + 1)) := by
    conv => lhs; rw [← List.take_append_drop (g - a) ((s.data.toList.drop a).take (e - a))]
    rw [take_take_le (by omega), List.drop_take, List.drop_drop, show a + (g - a) = g by omega, drop_is hgs hg, show e - a - (g - a) = (e - (g + 1)) + 1 by omega, List.take_succ_cons]
  rw [e1, line_data] at h3
  obtain ⟨h6, h7⟩ := cut_unique h3 (drop_take_no H.noG) (name_no hok.1 61 (by decide)) (.inr ⟨_, rfl⟩) (.inr ⟨_, rfl⟩)
  have h8 : (⟨s.extract a g, s.extract (g + 1) e⟩ : Set) = x := by
    have n1 : s.extract a g = x.name := by
      apply ByteArray.ext
      apply Array.toList_inj.1
      rw [extract_ba, h6]
    have n2 : s.extract (g + 1) e = x.text := by
      apply ByteArray.ext
      apply Array.toList_inj.1
      rw [extract_ba]
      exact (List.cons.inj h7).2
    rw [n1, n2]
  refine ⟨k + 1, by omega, ?_, fun hl => ?_, fun hl => ?_⟩
  · obtain ⟨h9, h10⟩ := List.getElem?_eq_some_iff.1 hx
    rw [List.take_succ_eq_append_getElem hkl, ← hX, h8, h10]
  · rcases h4 with h4 | ⟨_, h4⟩
    · have := h5 h4; omega
    · exact h4
  · have h6 : s.data.toList.drop e = [] := by
      rcases h4 with h4 | ⟨h4, _⟩
      · exact h4
      · omega
    have := List.drop_eq_nil_iff.1 h6
    omega
/-- A text of settings never ends in a semicolon. -/
theorem text_end {L : List Set} (h : SetsOk L) (A : List UInt8) : textL L ≠ A ++ [59] := by
  have key : ∀ M : List Set, (∀ x ∈ M, okSet x) → M ≠ [] → ∃ B z, textL M = B ++ [z] ∧ z ≠ 59 := by
    intro M
    induction M with
    | nil => intro _ hne; exact absurd rfl hne
    | cons x r ih =>
      intro hM _
      cases r with
      | nil =>
        refine ⟨(lineB x).data.toList.dropLast, (lineB x).data.toList.getLast (line_ne x), ?_, fun e => line_no (hM x (by simp)) (by rw [← e]; exact List.getLast_mem _)⟩
        rw [textL_cons, List.append_nil, List.dropLast_concat_getLast]
      | cons y r =>
        obtain ⟨B, z, h1, h2⟩ := ih (fun u hu => hM u (List.mem_cons_of_mem _ hu)) (by simp)
        exact ⟨(lineB x).data.toList ++ 59 :: B, z, by rw [textL_cons]; simp only [h1]; simp, h2⟩
  intro e
  by_cases hL : L = []
  · subst hL
    rw [textL_nil] at e
    have := congrArg List.length e
    simp at this
  · obtain ⟨B, z, h1, h2⟩ := key L (fun x hx => sets_all h hx) hL
    rw [h1] at e
    have := List.append_inj_right' e rfl
    simp at this
    exact h2 this
end Go.Proofs.YtekmfphlccomaaaDoor
