/- append, in words of lists: what is owned, and a read-only view that is put behind it. No condition but the sizes that the model asks. -/
import Derived.Test.YtnibbldfohbfkaaBase
import Derived.Test.YtnibbldfohbfkaaOrd
namespace Go.Proofs.Ytnibbldfohbfkaa
open Go.RowKit

section
variable {P : Program} {α : Type}

theorem rd_flat {nf : Nat} {enc : α → List Value} (hn : ∀ x, (enc x).length = nf) {w : World} {ad : Addr} {l : List α} (h : Rd nf enc w (some ad) l) : ∀ j u, (l.flatMap enc)[j]? = some u → w.cell? (ad.add j) = some u := by
  intro j u hu
  have hj := (List.getElem?_eq_some_iff.1 hu).1
  rw [flatMap_length hn] at hj
  have hp : 0 < nf := by
    rcases Nat.eq_zero_or_pos nf with h0 | h0
    · subst h0; simp at hj
    · exact h0
  have e : j = j / nf * nf + j % nf := by rw [Nat.mul_comm]; exact (Nat.div_add_mod j nf).symm
  have hm := Nat.mod_lt j hp
  have hd : j / nf < l.length := (Nat.div_lt_iff_lt_mul hp).2 hj
  obtain ⟨b, off, ha, hc⟩ := h _ hd
  obtain rfl := Option.some.inj ha
  rw [e, flatMap_at hn _ _ _ hm, List.getElem?_eq_getElem hd, Option.bind_some] at hu
  rw [Addr.add_lit]
  have := hc _ u hu
  rw [Nat.add_assoc, ← e] at this
  exact this

theorem run_append_none (w : World) (base : Nat) (t ty e : TypeId) (i : TypeInfo) (size : Nat) (ht : P.underlying t = some (.slice e)) (hi : P.info? e = some i) (v : Value) (n c : Nat) (xs : List Value) (hown : w.ownsRow base e size v n xs) :
    (Builtin.append_ #[t, t] ty #[v, .slice none 0 c]).run P w = .ok v w := by
  rcases hown.2 with ⟨rfl, rfl⟩ | ⟨g, cap, cur, rfl, _, _, hnc, _⟩
  · simp [Builtin.append_, run_underlying ht, sizeOf, typeInfo, hi, Builtin.lenOf, Builtin.firstCells]
  · simp [Builtin.append_, run_underlying ht, sizeOf, typeInfo, hi, Builtin.lenOf, Builtin.firstCells, hnc, storeCells]

theorem wpList_append_rd {w : World} {ops : Array Oper} {rest : List Oper} {o : Oper} {a : Act} {Q : Exit → Act → World → Prop} (hgd : o.guard = none) (s x : Operand) (t : TypeId)
    (ho : o.op = .call { callee := .builtin .append, args := #[s, x], argTypes := #[t, t] })
    (base : Nat) (e : TypeId) (z : Value) (size bytes : Nat) (ht : P.underlying t = some (.slice e)) (hinfo : (P.info? e).map (fun i => (i.zero, i.size, i.bytes)) = some (some z, size, bytes))
    (hzs : z.cells.size = size) (hsz : 0 < size)
    {enc : α → List Value} (hn : ∀ x, (enc x).length = size) (h1 : ∀ x, ∀ u ∈ enc x, u.oneCell' = true)
    (v : Value) (n : Nat) (L : List α) (hs : a.eval s = v) (hown : w.ownsRow base e size v n (L.flatMap enc)) (hnL : n = L.length)
    (ao : Option Addr) (m c : Nat) (l : List α) (hx : a.eval x = .slice ao m c) (hm : m = l.length) (hrd : Rd size enc w ao l)
    (h63 : n + m ≤ 1000000000) (hbytes : bytes ≤ 1000) (hbase : base ≤ w.heap.size)
    (h : ∀ v' w', w'.ownsRow base e size v' (L ++ l).length ((L ++ l).flatMap enc) → w.grownBy w' v.ownBlock → wpList P ops Q rest (a.put o.dst v') w') : wpList P ops Q (o :: rest) a w := by
  obtain ⟨i, hi, hz, hsize, hby⟩ := info_parts hinfo
  subst hm hnL
  cases ao with
  | some ad =>
    refine wpList_append_own w hgd s x t ho base e i z size bytes ht hi hz hsize hby hzs hsz v L.length (L.flatMap enc) hs hown ad l.length c (l.flatMap enc) hx (flatMap_length hn l) (rd_flat hn hrd) (by
      intro u hu
      obtain ⟨y, _, hy⟩ := List.mem_flatMap.1 hu
      exact h1 y u hy) (by unfold maxLen; omega) (by
      have : (L.length + l.length) * bytes ≤ 1000000000 * 1000 := Nat.mul_le_mul h63 hbytes
      omega) hbase (fun v' w' h2 h3 _ => h v' w' (by rw [List.length_append, List.flatMap_append]; exact h2) h3)
  | none =>
    have hl : l = [] := by
      cases l with
      | nil => rfl
      | cons y l => obtain ⟨b, off, h0, _⟩ := hrd 0 (by simp); cases h0
    subst hl
    refine wpList_plain hgd fun K hK => ?_
    have hr := run_append_none (P := P) w base t o.type e i size ht hi v L.length c _ hown
    have h2 := h v w (by simpa using hown) ⟨rfl, rfl, rfl, Nat.le_refl _, fun _ _ _ => rfl⟩
    unfold Oper.wp execOp
    simp only [ho, resolve, invoke, builtin, Sem.run_bind, Sem.run_pure, Result.andThen_ok, List.map_toArray, List.map_cons, List.map_nil, hs, hx, List.length_nil, hr]
    exact hK _ _ h2

theorem run_append_fresh (w : World) (base : Nat) (t ty e : TypeId) (i : TypeInfo) (z : Value) (size bytes : Nat) (ht : P.underlying t = some (.slice e)) (hi : P.info? e = some i) (hz : i.zero = some z)
    (hsize : i.size = size) (hby : i.bytes = bytes) (hzs : z.cells.size = size) (hsz : 0 < size) (g : Nat) (hg : w.heap[g]? = some (.cells #[] e (0, 0))) (hbg : base ≤ g)
    (a : Addr) (m c : Nat) (news : List Value) (hl : news.length = m * size) (hnews : ∀ j u, news[j]? = some u → w.cell? (a.add j) = some u) (h1 : ∀ u ∈ news, u.oneCell' = true)
    (h63 : m ≤ maxLen) (hbytes : m * bytes ≤ 140737488355328) (hbase : base ≤ w.heap.size) :
    ∃ v' w', (Builtin.append_ #[t, t] ty #[.slice (some ⟨g, 0, none⟩) 0 0, .slice (some a) m c]).run P w = .ok v' w' ∧ w'.ownsRow base e size v' m news ∧ Ext w w' := by
  subst hsize hby
  by_cases hm : m = 0
  · subst hm
    have hn : news = [] := List.eq_nil_of_length_eq_zero (by simpa using hl)
    subst hn
    have hr := run_append_room (P := P) w t ty e i ht hi g 0 0 #[] hg a 0 c [] (by simp) (by simp) (by simp) (by omega) (by simp)
    refine ⟨_, _, hr, ⟨by simp, .inr ⟨g, 0, _, rfl, hbg, setRow_heap w g #[] _ e _ hg, Nat.le_refl _, by simp, by simp, by simp⟩⟩, ⟨rfl, rfl, rfl, by simp, fun k _ => ?_⟩⟩
    by_cases hk : k = g
    · subst hk
      rw [setRow_heap w k #[] _ e _ hg, hg]
      simp
    · exact setRow_other w g k _ hk
  · have hsmall : m ≤ 9223372036854775807 := by simp only [maxLen] at h63; omega
    have hr := run_append_grow (P := P) w t ty e i z ht hi hz ⟨g, 0, none⟩ 0 0 [] (by simp) (by simp) a m c news hl hnews (by omega) (by omega) (growslice_fits (by omega) (by simpa using hbytes))
    simp only [Nat.zero_add] at hr
    have hge := grownCap_ge w m 0 e
    have hcm : grownCap w m 0 e ≤ maxLen := grownCap_le_maxLen w m 0 e h63
    refine ⟨_, _, hr, ⟨hl, .inr ⟨w.heap.size, _, _, rfl, hbase, heap_alloc_new w.drew _, by omega, hcm, ?_, ?_⟩⟩, ⟨rfl, rfl, rfl, by simp, fun k hk => Below.heap_alloc w.drew _ k hk⟩⟩
    · simp only [Array.size_append, List.size_toArray, size_zeroCells, hzs, List.length_nil, Nat.zero_add, hl, ← Nat.add_mul]
      congr 1
      omega
    · simp only [Array.toList_append, List.append_assoc, List.nil_append]
      rw [← hl]
      exact List.take_left

/-- 'append(T{}, list...)': what it leaves lies in new memory. -/
theorem wpList_append_lit {w : World} {ops : Array Oper} {rest : List Oper} {o : Oper} {a : Act} {Q : Exit → Act → World → Prop} (hgd : o.guard = none) (s x : Operand) (t : TypeId)
    (ho : o.op = .call { callee := .builtin .append, args := #[s, x], argTypes := #[t, t] })
    (base : Nat) (e : TypeId) (z : Value) (size bytes : Nat) (ht : P.underlying t = some (.slice e)) (hinfo : (P.info? e).map (fun i => (i.zero, i.size, i.bytes)) = some (some z, size, bytes))
    (hzs : z.cells.size = size) (hsz : 0 < size)
    {enc : α → List Value} (hn : ∀ x, (enc x).length = size) (h1 : ∀ x, ∀ u ∈ enc x, u.oneCell' = true)
    (g : Nat) (hs : a.eval s = .slice (some ⟨g, 0, none⟩) 0 0) (hg : w.heap[g]? = some (.cells #[] e (0, 0))) (hbg : base ≤ g)
    (ao : Option Addr) (m c : Nat) (l : List α) (hx : a.eval x = .slice ao m c) (hm : m = l.length) (hrd : Rd size enc w ao l)
    (h63 : m ≤ 1000000000) (hbytes : bytes ≤ 1000) (hbase : base ≤ w.heap.size)
    (h : ∀ v' w', w'.ownsRow base e size v' l.length (l.flatMap enc) → Ext w w' → wpList P ops Q rest (a.put o.dst v') w') : wpList P ops Q (o :: rest) a w := by
  obtain ⟨i, hi, hz, hsize, hby⟩ := info_parts hinfo
  subst hm
  refine wpList_plain hgd fun K hK => ?_
  cases ao with
  | some ad =>
    obtain ⟨v', w', hr, h2, h3⟩ := run_append_fresh (P := P) w base t o.type e i z size bytes ht hi hz hsize hby hzs hsz g hg hbg ad l.length c (l.flatMap enc) (flatMap_length hn l) (rd_flat hn hrd) (by
      intro u hu
      obtain ⟨y, _, hy⟩ := List.mem_flatMap.1 hu
      exact h1 y u hy) (by unfold maxLen; omega) (by
      have : l.length * bytes ≤ 1000000000 * 1000 := Nat.mul_le_mul h63 hbytes
      omega) hbase
    unfold Oper.wp execOp
    simp only [ho, resolve, invoke, builtin, Sem.run_bind, Sem.run_pure, Result.andThen_ok, List.map_toArray, List.map_cons, List.map_nil, hs, hx, hr]
    exact hK _ _ (h v' w' h2 h3)
  | none =>
    have hl : l = [] := by
      cases l with
      | nil => rfl
      | cons y l => obtain ⟨b, off, h0, _⟩ := hrd 0 (by simp); cases h0
    subst hl
    have hown : w.ownsRow base e size (.slice (some ⟨g, 0, none⟩) 0 0) 0 [] := ⟨by simp, .inr ⟨g, 0, #[], rfl, hbg, hg, Nat.le_refl _, by simp, by simp, by simp⟩⟩
    have hr := run_append_none (P := P) w base t o.type e i size ht hi _ 0 c _ hown
    have h2 := h _ w hown (Ext.refl w)
    unfold Oper.wp execOp
    simp only [ho, resolve, invoke, builtin, Sem.run_bind, Sem.run_pure, Result.andThen_ok, List.map_toArray, List.map_cons, List.map_nil, hs, hx, List.length_nil, hr]
    exact hK _ _ h2

/-- A literal's cells, read. -/
theorem rd_lit {nf : Nat} {enc : α → List Value} {w : World} {g : Nat} {C : Array Value} {e : TypeId} {fz : Nat × Nat} (l : List α) (hn : ∀ x, (enc x).length = nf) (hg : w.heap[g]? = some (.cells C e fz)) (hC : C.toList = l.flatMap enc) : Rd nf enc w (some ⟨g, 0, none⟩) l := by
  intro i hi
  refine ⟨g, 0, rfl, fun j u hu => ?_⟩
  have hj : j < nf := by
    have := (List.getElem?_eq_some_iff.1 hu).1
    rwa [hn] at this
  have h := flatMap_at hn l i j hj
  rw [List.getElem?_eq_getElem hi, Option.bind_some, hu, ← hC] at h
  simp only [World.cell?, hg, Nat.zero_add]
  simpa using h
theorem rd_lit_new {nf : Nat} {enc : α → List Value} {w : World} {C : Array Value} {e : TypeId} (l : List α) (hn : ∀ x, (enc x).length = nf) (hC : C.toList = l.flatMap enc) : Rd nf enc (w.alloc (.cells C e)) (some ⟨w.heap.size, 0, none⟩) l :=
  rd_lit l hn (heap_alloc_new w _) hC
theorem owns_lit_new {nf e : Nat} {enc : α → List Value} {w : World} {C : Array Value} {base n : Nat} (l : List α) (hn : ∀ x, (enc x).length = nf) (hC : C.toList = l.flatMap enc) (hl : n = l.length) (hsmall : n ≤ 1000000000) (hb : base ≤ w.heap.size) :
    (w.alloc (.cells C e)).ownsRow base e nf (.slice (some ⟨w.heap.size, 0, none⟩) n n) n (l.flatMap enc) := by
  rw [← hC]
  refine World.ownsRow_lit w C n hb (by unfold maxLen; omega) ?_
  rw [← Array.length_toList, hC, flatMap_length hn, hl]
end
end Go.Proofs.Ytnibbldfohbfkaa
