/- Parts of one proof: each says below what it proves and on what conditions. -/
import Derived.BigQuiet
import Derived.Test.YtnibbldfohbfkaaGreatDoorMy1
set_option linter.unusedVariables false
set_option linter.unusedSimpArgs false
/- append, in words of lists: what is owned, and a read-only view that is put behind it. No condition but the sizes that the model asks. -/
namespace Go.Proofs.YtnibbldfohbfkaaGreatDoor
open Go.RowKit
section
variable {P : Program} {α : Type}
theorem rd_flat {nf : Nat} {enc : α → List Value} (hn : ∀ x, (enc x).length = nf) {w : World} {ad : Addr} {l : List α} (h : Rd nf enc w (some ad) l) : ∀ j u, (l.flatMap enc)[j]? = some u → w.cell? (ad.add j) = some u := by
 intro j u hu
 have hj := (List.getElem?_eq_some_iff.1 hu).1
 rw [flatMap_length hn] at hj
 have hp : 0 < nf := by
  rcases Nat.eq_zero_or_pos nf with h0 | h0
  ·subst h0; simp at hj
  ·exact h0
 have e : j = j / nf * nf + j % nf := by rw [Nat.mul_comm]; exact (Nat.div_add_mod j nf).symm
 have hm := Nat.mod_lt j hp
 have hd : j / nf < l.length := (Nat.div_lt_iff_lt_mul hp).2 hj
 obtain ⟨b, off, ha, hc⟩ := h _ hd
 obtain rfl := Option.some.inj ha
 rw [e, flatMap_at hn _ _ _ hm, List.getElem?_eq_getElem hd, Option.bind_some] at hu
 rw [Addr.add_lit]
 have := hc _ u hu
 rw [Nat.add_assoc, ← e] at this
 exact this
theorem run_append_none (w : World) (base : Nat) (t ty e : TypeId) (i : TypeInfo) (size : Nat) (ht : P.underlying t = some (.slice e)) (hi : P.info? e = some i) (v : Value) (n c : Nat) (xs : List Value) (hown : w.ownsRow base e size v n xs) :
  (Builtin.append_ #[t, t] ty #[v, .slice none 0 c]).run P w = .ok v w := by
 rcases hown.2 with ⟨rfl, rfl⟩ | ⟨g, cap, cur, rfl, _, _, hnc, _⟩
 ·simp [Builtin.append_, run_underlying ht, sizeOf, typeInfo, hi, Builtin.lenOf, Builtin.firstCells]
 ·simp [Builtin.append_, run_underlying ht, sizeOf, typeInfo, hi, Builtin.lenOf, Builtin.firstCells, hnc, storeCells]
theorem wpList_append_rd {w : World} {ops : Array Oper} {rest : List Oper} {o : Oper} {a : Act} {Q : Exit → Act → World → Prop} (hgd : o.guard = none) (s x : Operand) (t : TypeId)
  (ho : o.op = .call { callee := .builtin .append, args := #[s, x], argTypes := #[t, t] })
  (base : Nat) (e : TypeId) (z : Value) (size bytes : Nat) (ht : P.underlying t = some (.slice e)) (hinfo : (P.info? e).map (fun i => (i.zero, i.size, i.bytes)) = some (some z, size, bytes))
  (hzs : z.cells.size = size) (hsz : 0 < size)
  {enc : α → List Value} (hn : ∀ x, (enc x).length = size) (h1 : ∀ x, ∀ u ∈ enc x, u.oneCell' = true)
  (v : Value) (n : Nat) (L : List α) (hs : a.eval s = v) (hown : w.ownsRow base e size v n (L.flatMap enc)) (hnL : n = L.length)
  (ao : Option Addr) (m c : Nat) (l : List α) (hx : a.eval x = .slice ao m c) (hm : m = l.length) (hrd : Rd size enc w ao l)
  (h63 : n + m ≤ 1000000000) (hbytes : bytes ≤ 1000) (hbase : base ≤ w.heap.size)
  (h : ∀ v' w', w'.ownsRow base e size v' (L ++ l).length ((L ++ l).flatMap enc) → w.grownBy w' v.ownBlock → wpList P ops Q rest (a.put o.dst v') w') : wpList P ops Q (o :: rest) a w := by
 obtain ⟨i, hi, hz, hsize, hby⟩ := info_parts hinfo
 subst hm hnL
 cases ao with
 | some ad =>
  refine wpList_append_own w hgd s x t ho base e i z size bytes ht hi hz hsize hby hzs hsz v L.length (L.flatMap enc) hs hown ad l.length c (l.flatMap enc) hx (flatMap_length hn l) (rd_flat hn hrd) (by
   intro u hu
   obtain ⟨y, _, hy⟩ := List.mem_flatMap.1 hu
   exact h1 y u hy) (by unfold maxLen; omega) (by
   have : (L.length + l.length) * bytes ≤ 1000000000 * 1000 := Nat.mul_le_mul h63 hbytes
   omega) hbase (fun v' w' h2 h3 _ => h v' w' (by rw [List.length_append, List.flatMap_append]; exact h2) h3)
 | none =>
  have hl : l = [] := by
   cases l with
   | nil => rfl
   | cons y l => obtain ⟨b, off, h0, _⟩ := hrd 0 (by simp); cases h0
  subst hl
  refine wpList_plain hgd fun K hK => ?_
  have hr := run_append_none (P := P) w base t o.type e i size ht hi v L.length c _ hown
  have h2 := h v w (by simpa using hown) ⟨rfl, rfl, rfl, Nat.le_refl _, fun _ _ _ => rfl⟩
  unfold Oper.wp execOp
  simp only [ho, resolve, invoke, builtin, Sem.run_bind, Sem.run_pure, Result.andThen_ok, List.map_toArray, List.map_cons, List.map_nil, hs, hx, List.length_nil, hr]
  exact hK _ _ h2
theorem run_append_fresh (w : World) (base : Nat) (t ty e : TypeId) (i : TypeInfo) (z : Value) (size bytes : Nat) (ht : P.underlying t = some (.slice e)) (hi : P.info? e = some i) (hz : i.zero = some z)
  (hsize : i.size = size) (hby : i.bytes = bytes) (hzs : z.cells.size = size) (hsz : 0 < size) (g : Nat) (hg : w.heap[g]? = some (.cells #[] e (0, 0))) (hbg : base ≤ g)
  (a : Addr) (m c : Nat) (news : List Value) (hl : news.length = m * size) (hnews : ∀ j u, news[j]? = some u → w.cell? (a.add j) = some u) (h1 : ∀ u ∈ news, u.oneCell' = true)
  (h63 : m ≤ maxLen) (hbytes : m * bytes ≤ 140737488355328) (hbase : base ≤ w.heap.size) :
  ∃ v' w', (Builtin.append_ #[t, t] ty #[.slice (some ⟨g, 0, none⟩) 0 0, .slice (some a) m c]).run P w = .ok v' w' ∧ w'.ownsRow base e size v' m news ∧ Ext w w' := by
 subst hsize hby
 by_cases hm : m = 0
 ·subst hm
  have hn : news = [] := List.eq_nil_of_length_eq_zero (by simpa using hl)
  subst hn
  have hr := run_append_room (P := P) w t ty e i ht hi g 0 0 #[] hg a 0 c [] (by simp) (by simp) (by simp) (by omega) (by simp)
  refine ⟨_, _, hr, ⟨by simp, .inr ⟨g, 0, _, rfl, hbg, setRow_heap w g #[] _ e _ hg, Nat.le_refl _, by simp, by simp, by simp⟩⟩, ⟨rfl, rfl, rfl, by simp, fun k _ => ?_⟩⟩
  by_cases hk : k = g
  ·subst hk
   rw [setRow_heap w k #[] _ e _ hg, hg]
   simp
  ·exact setRow_other w g k _ hk
 ·have hsmall : m ≤ 9223372036854775807 := by simp only [maxLen] at h63; omega
  have hr := run_append_grow (P := P) w t ty e i z ht hi hz ⟨g, 0, none⟩ 0 0 [] (by simp) (by simp) a m c news hl hnews (by omega) (by omega) (growslice_fits (by omega) (by simpa using hbytes))
  simp only [Nat.zero_add] at hr
  have hge := grownCap_ge w m 0 e
  have hcm : grownCap w m 0 e ≤ maxLen := grownCap_le_maxLen w m 0 e h63
  refine ⟨_, _, hr, ⟨hl, .inr ⟨w.heap.size, _, _, rfl, hbase, heap_alloc_new w.drew _, by omega, hcm, ?_, ?_⟩⟩, ⟨rfl, rfl, rfl, by simp, fun k hk => Below.heap_alloc w.drew _ k hk⟩⟩
  ·simp only [Array.size_append, List.size_toArray, size_zeroCells, hzs, List.length_nil, Nat.zero_add, hl, ← Nat.add_mul]
   congr 1
   omega
  ·simp only [Array.toList_append, List.append_assoc, List.nil_append]
   rw [← hl]
   exact List.take_left
theorem wpList_append_lit {w : World} {ops : Array Oper} {rest : List Oper} {o : Oper} {a : Act} {Q : Exit → Act → World → Prop} (hgd : o.guard = none) (s x : Operand) (t : TypeId)
  (ho : o.op = .call { callee := .builtin .append, args := #[s, x], argTypes := #[t, t] })
  (base : Nat) (e : TypeId) (z : Value) (size bytes : Nat) (ht : P.underlying t = some (.slice e)) (hinfo : (P.info? e).map (fun i => (i.zero, i.size, i.bytes)) = some (some z, size, bytes))
  (hzs : z.cells.size = size) (hsz : 0 < size)
  {enc : α → List Value} (hn : ∀ x, (enc x).length = size) (h1 : ∀ x, ∀ u ∈ enc x, u.oneCell' = true)
  (g : Nat) (hs : a.eval s = .slice (some ⟨g, 0, none⟩) 0 0) (hg : w.heap[g]? = some (.cells #[] e (0, 0))) (hbg : base ≤ g)
  (ao : Option Addr) (m c : Nat) (l : List α) (hx : a.eval x = .slice ao m c) (hm : m = l.length) (hrd : Rd size enc w ao l)
  (h63 : m ≤ 1000000000) (hbytes : bytes ≤ 1000) (hbase : base ≤ w.heap.size)
  (h : ∀ v' w', w'.ownsRow base e size v' l.length (l.flatMap enc) → Ext w w' → wpList P ops Q rest (a.put o.dst v') w') : wpList P ops Q (o :: rest) a w := by
 obtain ⟨i, hi, hz, hsize, hby⟩ := info_parts hinfo
 subst hm
 refine wpList_plain hgd fun K hK => ?_
 cases ao with
 | some ad =>
  obtain ⟨v', w', hr, h2, h3⟩ := run_append_fresh (P := P) w base t o.type e i z size bytes ht hi hz hsize hby hzs hsz g hg hbg ad l.length c (l.flatMap enc) (flatMap_length hn l) (rd_flat hn hrd) (by
   intro u hu
   obtain ⟨y, _, hy⟩ := List.mem_flatMap.1 hu
   exact h1 y u hy) (by unfold maxLen; omega) (by
   have : l.length * bytes ≤ 1000000000 * 1000 := Nat.mul_le_mul h63 hbytes
   omega) hbase
  unfold Oper.wp execOp
  simp only [ho, resolve, invoke, builtin, Sem.run_bind, Sem.run_pure, Result.andThen_ok, List.map_toArray, List.map_cons, List.map_nil, hs, hx, hr]
  exact hK _ _ (h v' w' h2 h3)
 | none =>
  have hl : l = [] := by
   cases l with
   | nil => rfl
   | cons y l => obtain ⟨b, off, h0, _⟩ := hrd 0 (by simp); cases h0
  subst hl
  have hown : w.ownsRow base e size (.slice (some ⟨g, 0, none⟩) 0 0) 0 [] := ⟨by simp, .inr ⟨g, 0, #[], rfl, hbg, hg, Nat.le_refl _, by simp, by simp, by simp⟩⟩
  have hr := run_append_none (P := P) w base t o.type e i size ht hi _ 0 c _ hown
  have h2 := h _ w hown (Ext.refl w)
  unfold Oper.wp execOp
  simp only [ho, resolve, invoke, builtin, Sem.run_bind, Sem.run_pure, Result.andThen_ok, List.map_toArray, List.map_cons, List.map_nil, hs, hx, List.length_nil, hr]
  exact hK _ _ h2
theorem rd_lit {nf : Nat} {enc : α → List Value} {w : World} {g : Nat} {C : Array Value} {e : TypeId} {fz : Nat × Nat} (l : List α) (hn : ∀ x, (enc x).length = nf) (hg : w.heap[g]? = some (.cells C e fz)) (hC : C.toList = l.flatMap enc) : Rd nf enc w (some ⟨g, 0, none⟩) l := by
 intro i hi
 refine ⟨g, 0, rfl, fun j u hu => ?_⟩
 have hj : j < nf := by
  have := (List.getElem?_eq_some_iff.1 hu).1
  rwa [hn] at this
 have h := flatMap_at hn l i j hj
 rw [List.getElem?_eq_getElem hi, Option.bind_some, hu, ← hC] at h
 simp only [World.cell?, hg, Nat.zero_add]
 simpa using h
theorem rd_lit_new {nf : Nat} {enc : α → List Value} {w : World} {C : Array Value} {e : TypeId} (l : List α) (hn : ∀ x, (enc x).length = nf) (hC : C.toList = l.flatMap enc) : Rd nf enc (w.alloc (.cells C e)) (some ⟨w.heap.size, 0, none⟩) l :=
 rd_lit l hn (heap_alloc_new w _) hC
theorem owns_lit_new {nf e : Nat} {enc : α → List Value} {w : World} {C : Array Value} {base n : Nat} (l : List α) (hn : ∀ x, (enc x).length = nf) (hC : C.toList = l.flatMap enc) (hl : n = l.length) (hsmall : n ≤ 1000000000) (hb : base ≤ w.heap.size) :
  (w.alloc (.cells C e)).ownsRow base e nf (.slice (some ⟨w.heap.size, 0, none⟩) n n) n (l.flatMap enc) := by
 rw [← hC]
 refine World.ownsRow_lit w C n hb (by unfold maxLen; omega) ?_
 rw [← Array.length_toList, hC, flatMap_length hn, hl]
end
theorem view_owns {α : Type} {w : World} {base e nf : Nat} {enc : α → List Value} (hn : ∀ x, (enc x).length = nf) {v : Value} {l : List α} (h : w.ownsRow base e nf v l.length (l.flatMap enc)) :
  ∃ a cap, v = .slice a l.length cap ∧ l.length ≤ cap ∧ Rd nf enc w a l ∧ ((a = none ∧ l = [] ∧ cap = 0) ∨ ∃ g, a = some ⟨g, 0, none⟩ ∧ base ≤ g) := by
 obtain ⟨a, cap, hv, hr⟩ := rd_of_owns hn h rfl
 subst hv
 refine ⟨a, cap, rfl, ?_, hr, ?_⟩
 ·rcases h.2 with ⟨h1, h2⟩ | ⟨g, cap', cur, h1, _, _, h2, _⟩
  ·simp only [Value.slice.injEq] at h1; omega
  ·simp only [Value.slice.injEq] at h1; omega
 ·rcases h.2 with ⟨h1, h2⟩ | ⟨g, cap', cur, h1, hb, _, h2, _⟩
  ·simp only [Value.slice.injEq] at h1
   exact .inl ⟨h1.1, List.eq_nil_of_length_eq_zero h1.2.1, h1.2.2⟩
  ·simp only [Value.slice.injEq] at h1
   exact .inr ⟨g, h1.1, hb⟩
theorem Rd.drop {α : Type} {nf : Nat} {enc : α → List Value} {w : World} {b off : Nat} {l : List α} (h : Rd nf enc w (some ⟨b, off, none⟩) l) (k : Nat) : Rd nf enc w (some ⟨b, off + k * nf, none⟩) (l.drop k) := by
 intro i hi
 rw [List.length_drop] at hi
 obtain ⟨b', off', ha, hc⟩ := h (k + i) (by omega)
 simp only [Option.some.injEq, Addr.mk.injEq, and_true] at ha
 obtain ⟨rfl, rfl⟩ := ha
 refine ⟨b, off + k * nf, rfl, fun j u hu => ?_⟩
 rw [List.getElem_drop] at hu
 have := hc j u hu
 rwa [Nat.add_mul, ← Nat.add_assoc] at this
theorem Rd.nil {α : Type} {nf : Nat} {enc : α → List Value} {w : World} {a : Option Addr} : Rd nf enc w a ([] : List α) := fun i hi => by simp at hi
structure ExtW (w : World) where
 x : World
 h : Ext w x
instance (w : World) : Nonempty (ExtW w) := ⟨⟨w, Ext.refl w⟩⟩
theorem wp_region_quiet_ext {P : Program} {id : Nat} {Q : Exit → Act → World → Prop} {a : Act} {w : World} {l : List Oper} (hm : P.follows .mixedOrders = true) (hB : Region.lexB .any l.toArray = true)
  (h : wpQuiet P l.toArray (fun w' => ∃ s : ExtW w, w' = s.x) (fun a' => ∀ w', (∃ s : ExtW w, w' = s.x) → Q .normal a' w') l a) : (Code.region id l.toArray true).wp P Q a w :=
 wp_region_quiet (C := fun w' => ∃ s : ExtW w, w' = s.x) hm hB ⟨⟨w.drew, (Ext.refl w).drew⟩, rfl⟩ (by simpa using h)
theorem ExtW.cell {w : World} {b o : Nat} {v : Value} (h : w.cell? ⟨b, o, none⟩ = some v) : ∀ s : ExtW w, s.x.cell? ⟨b, o, none⟩ = some v := fun s => cell_ext s.h h
theorem ExtW.lt {w : World} {b o : Nat} {v : Value} (h : w.cell? ⟨b, o, none⟩ = some v) : ∀ s : ExtW w, b < s.x.heap.size := fun s => Nat.lt_of_lt_of_le (World.block_lt_of_cell? w ⟨b, o, none⟩ h) s.h.size
theorem Calls.at_b {P : Program} {f : FuncId} {args : Array Value} {w : World} {s : ExtW w} {T : Prop} (b : Bool) (hT : (b = true ↔ T)) (h : Calls P f args s.x (RetB T s.x)) : Calls P f args s.x fun e w'' => e = .returned (.bool b) ∧ ∃ s' : ExtW w, w'' = s'.x :=
 h.mono fun e w2 ⟨b', he, hb, hE⟩ => by
  obtain rfl : b' = b := Bool.eq_iff_iff.2 (hb.trans hT.symm)
  exact ⟨he, ⟨w2, s.h.trans hE⟩, rfl⟩
theorem Calls.at_same {P : Program} {f : FuncId} {args : Array Value} {w : World} {s : ExtW w} {v : Value} (h : Calls P f args s.x fun e w' => e = .returned v ∧ s.x = w') : Calls P f args s.x fun e w'' => e = .returned v ∧ ∃ s' : ExtW w, w'' = s'.x :=
 h.mono fun e w2 ⟨he, hw⟩ => ⟨he, s, hw.symm⟩
theorem Rd.take {α : Type} {nf : Nat} {enc : α → List Value} {w : World} {a : Option Addr} {l : List α} (h : Rd nf enc w a l) (k : Nat) : Rd nf enc w a (l.take k) := by
 intro i hi
 have hi' : i < l.length := by simp at hi; omega
 obtain ⟨b, off, ha, hc⟩ := h i hi'
 exact ⟨b, off, ha, fun j u hu => hc j u (by simpa using hu)⟩
theorem encInt1_len (x : Int) : (encInt1 x).length = 1 := rfl
theorem encInt1_one (x : Int) : ∀ u ∈ encInt1 x, u.oneCell' = true := by simp [encInt1, Value.oneCell']
theorem atInt {w : World} {a : Option Addr} {l : List Int} (h : Rd 1 encInt1 w a l) {k : Nat} (hk : k < l.length) :
  ∃ x b off, l[k]? = some x ∧ a = some ⟨b, off, none⟩ ∧ w.cell? ⟨b, off + k, none⟩ = some (.int .i64 x) := by
 obtain ⟨b, off, ha, hc⟩ := h k hk
 exact ⟨l[k], b, off, List.getElem?_eq_getElem hk, ha, by simpa using hc 0 _ rfl⟩
theorem madeInt (n : Nat) : (madeCells #[Value.int .i64 0] n).toList = (List.replicate n (0 : Int)).flatMap encInt1 := by
 apply List.ext_getElem?
 intro j
 by_cases hj : j < n
 ·have h := flatMap_at encInt1_len (List.replicate n (0 : Int)) j 0 (by omega)
  rw [Nat.mul_one, Nat.add_zero] at h
  rw [h]
  simp [madeCells, hj, encInt1, Nat.mod_one]
 ·rw [List.getElem?_eq_none (by simp [madeCells]; omega), List.getElem?_eq_none (by rw [flatMap_length encInt1_len]; simp; omega)]
def mixInt (l : List Int) (k : Nat) : List Int := l.take k ++ List.replicate (l.length - k) 0
theorem mixInt_len (l : List Int) (k : Nat) (hk : k ≤ l.length) : (mixInt l k).length = l.length := by simp [mixInt]; omega
theorem mixInt_zero (l : List Int) : mixInt l 0 = List.replicate l.length 0 := by simp [mixInt]
theorem mixInt_full (l : List Int) : mixInt l l.length = l := by simp [mixInt]
theorem mixInt_set (l : List Int) (k : Nat) (x : Int) (hx : l[k]? = some x) : (mixInt l k).set k x = mixInt l (k + 1) := by
 obtain ⟨hk, rfl⟩ := List.getElem?_eq_some_iff.1 hx
 unfold mixInt
 obtain ⟨r, hr⟩ : ∃ r, l.length - k = r + 1 := ⟨l.length - k - 1, by omega⟩
 rw [hr, List.replicate_succ, show l.length - (k + 1) = r by omega, List.set_append, if_neg (by simp; omega), List.take_succ_eq_append_getElem hk, List.length_take, Nat.min_eq_left (Nat.le_of_lt hk), Nat.sub_self, List.set_cons_zero, List.append_assoc]
 rfl
set_option maxHeartbeats 1000000 in
theorem toIntS_any (a : Option Addr) (cap : Nat) (l : List Int) (w : World) (hl : l.length ≤ 1048576) (hc : Rd 1 encInt1 w a l) :
  Calls Tryz.prog 109 #[.slice a l.length cap] w (RetV (fun v w' => w'.ownsRow w.heap.size 3 1 v l.length (l.flatMap encInt1) ∧ v = .slice (some ⟨w.heap.size, 0, none⟩) l.length l.length) w) := by
 obtain ⟨i0, hi, hz0, hz1, hz2⟩ := info_parts infoInt
 go_enter Tryz.func109, Tryz.ntmps109
 go_wp2_with (at_make; refine wpList_make_full _ rfl _ _ 86 rfl w.heap.size 3 i0 _ 1 Tryz.underlying86 hi hz0 hz1 _ _ _ _ l.length rfl rfl rfl rfl ?b1 ?b2 ?b3 ?_)
 case b1 => rw [hz2]; omega
 case b2 => unfold maxLen; omega
 case b3 => exact Nat.le_refl _
 intro w1 hown1 hgr1
 have hE := ext_of_grown hgr1
 clear hgr1
 go_wp2
 go_loopw [4] (fun i wr => ∃ k : Nat, k ≤ l.length ∧ i = .int .i64 k ∧ wr.ownsRow w.heap.size 3 1 (.slice (some ⟨w.heap.size, 0, none⟩) l.length l.length) l.length ((mixInt l k).flatMap encInt1) ∧ Ext w wr) (fun i _ => l.length - (intOf i).toNat)
 case atStart => exact ⟨0, Nat.zero_le _, rfl, by rw [mixInt_zero, ← madeInt]; exact hown1, hE⟩
 case round =>
  obtain ⟨k, hk, rfl, hown, hb⟩ := hrel
  clear hown1 hE
  by_cases hlt : k < l.length
  ·obtain ⟨x, b, off, hx, rfl, c0⟩ := atInt (hc.ext hb) hlt
   have Hx := Lib.hid hx
   clear hx
   have hkm : k < (mixInt l k).length := by rw [mixInt_len _ _ hk]; exact hlt
   have g0 : wr.cell? ⟨w.heap.size, k, none⟩ = some (.int .i64 (mixInt l k)[k]) := by simpa using owns_at encInt1_len hown k hkm 0 _ rfl
   have f0 := hown.frozenAt
   have h3 := owns_put encInt1_len hown k x hkm
   rw [mixInt_set l k x Hx.out] at h3
   have H3 := Lib.hid h3
   have HE := Lib.hid (Ext.setCells (Nat.le_refl _) (encInt1 x) (k * 1) hb)
   clear h3
   go_wp2
   go_roundw
   case rel => exact ⟨k + 1, by omega, by go_num, by simpa [setCells, encInt1] using H3.out, by simpa [setCells, encInt1] using HE.out⟩
   case measure => simp [intOf]; omega
  ·obtain rfl : k = l.length := by omega
   rw [mixInt_full] at hown
   go_wp2
   go_ret
   exact RetV.mk ⟨hown, rfl⟩ hb
theorem extInt {l m : List Int} (hl : l.length = m.length) (h : ∀ j, j < l.length → l[j]? = m[j]?) : l = m := by
 apply List.ext_getElem?
 intro j
 by_cases hj : j < l.length
 ·exact h j hj
 ·rw [List.getElem?_eq_none (by omega), List.getElem?_eq_none (by omega)]
set_option maxHeartbeats 2000000 in
theorem eqIntS_any (a a' : Option Addr) (cap cap' : Nat) (l m : List Int) (w : World) (hl : l.length ≤ 9223372036854775807) (hm : m.length ≤ 9223372036854775807) (hc : Rd 1 encInt1 w a l) (hd : Rd 1 encInt1 w a' m) :
  Calls Tryz.prog 132 #[.slice a l.length cap, .slice a' m.length cap'] w (RetB (l = m) w) := by
 by_cases hlen : l.length = m.length
 ·have ht : ((l.length : Int) != (m.length : Int)) = false := by simp; omega
  have Hlen := Lib.hid hlen
  clear hlen
  go_enter Tryz.func132, Tryz.ntmps132
  go_wp2
  go_loopw [5] (fun i wr => ∃ k : Nat, k ≤ l.length ∧ i = .int .i64 k ∧ (∀ j, j < k → l[j]? = m[j]?) ∧ Ext w wr) (fun i _ => l.length - (intOf i).toNat)
  case atStart => exact ⟨0, Nat.zero_le _, rfl, fun _ h => absurd h (Nat.not_lt_zero _), Ext.refl _⟩
  case round =>
   obtain ⟨k, hk, rfl, hpre, hb⟩ := hrel
   have Hpre := Lib.hid hpre
   clear hpre
   by_cases hlt : k < l.length
   ·have hltm : k < m.length := by have := Hlen.out; omega
    obtain ⟨x, b, off, hx, rfl, c0⟩ := atInt (hc.ext hb) hlt
    obtain ⟨y, b', off', hy, rfl, d0⟩ := atInt (hd.ext hb) hltm
    have Hx := Lib.hid hx
    have Hy := Lib.hid hy
    clear hx hy ht
    by_cases hxy : x = y
    ·have txy : (x != y) = false := by simpa using hxy
     have Hxy := Lib.hid hxy
     clear hxy
     go_wp2
     go_quiet (fail)
     go_wp2
     go_roundw
     case rel => exact ⟨k + 1, by omega, by go_num, fun j hj => (Nat.lt_succ_iff_lt_or_eq.1 hj).elim (Hpre.out j) (fun e => by rw [e, Hx.out, Hy.out, Hxy.out]), hb.drewN _⟩
     case measure => simp [intOf]; omega
    ·have txy : (x != y) = true := by simpa using hxy
     have Hxy := Lib.hid hxy
     clear hxy
     go_wp2
     go_quiet (fail)
     go_wp2
     go_ret
     exact RetB.mk false rfl (by simp only [Bool.false_eq_true, false_iff]; intro h; subst h; have h1 := Hx.out; rw [Hy.out] at h1; cases h1; exact Hxy.out rfl) (hb.drewN _)
   ·go_wp2
    go_ret
    exact RetB.mk true rfl (by simp only [true_iff]; exact extInt Hlen.out (fun j hj => Hpre.out j (by omega))) hb
 ·have ht : ((l.length : Int) != (m.length : Int)) = true := by simp; omega
  have Hlen := Lib.hid hlen
  clear hlen
  go_enter Tryz.func132, Tryz.ntmps132
  go_wp2
  go_ret
  exact RetB.mk false rfl (by simp only [Bool.false_eq_true, false_iff]; intro h; exact Hlen.out (by rw [h])) (Ext.refl _)
theorem infoStr : (Tryz.prog.info? 9).map (fun i => (i.zero, i.size, i.bytes)) = some (some (.string ByteArray.empty), 1, 16) := by kernel_rfl
theorem encStr1_len (x : ByteArray) : (encStr1 x).length = 1 := rfl
theorem encStr1_one (x : ByteArray) : ∀ u ∈ encStr1 x, u.oneCell' = true := by simp [encStr1, Value.oneCell']
theorem atStr {w : World} {a : Option Addr} {l : List ByteArray} (h : Rd 1 encStr1 w a l) {k : Nat} (hk : k < l.length) :
  ∃ x b off, l[k]? = some x ∧ a = some ⟨b, off, none⟩ ∧ w.cell? ⟨b, off + k, none⟩ = some (.string x) := by
 obtain ⟨b, off, ha, hc⟩ := h k hk
 exact ⟨l[k], b, off, List.getElem?_eq_getElem hk, ha, by simpa using hc 0 _ rfl⟩
theorem madeStr (n : Nat) : (madeCells #[Value.string ByteArray.empty] n).toList = (List.replicate n ByteArray.empty).flatMap encStr1 := by
 apply List.ext_getElem?
 intro j
 by_cases hj : j < n
 ·have h := flatMap_at encStr1_len (List.replicate n ByteArray.empty) j 0 (by omega)
  rw [Nat.mul_one, Nat.add_zero] at h
  rw [h]
  simp [madeCells, hj, encStr1, Nat.mod_one]
 ·rw [List.getElem?_eq_none (by simp [madeCells]; omega), List.getElem?_eq_none (by rw [flatMap_length encStr1_len]; simp; omega)]
def mixStr (l : List ByteArray) (k : Nat) : List ByteArray := l.take k ++ List.replicate (l.length - k) ByteArray.empty
theorem mixStr_len (l : List ByteArray) (k : Nat) (hk : k ≤ l.length) : (mixStr l k).length = l.length := by simp [mixStr]; omega
theorem mixStr_zero (l : List ByteArray) : mixStr l 0 = List.replicate l.length ByteArray.empty := by simp [mixStr]
theorem mixStr_full (l : List ByteArray) : mixStr l l.length = l := by simp [mixStr]
theorem mixStr_set (l : List ByteArray) (k : Nat) (x : ByteArray) (hx : l[k]? = some x) : (mixStr l k).set k x = mixStr l (k + 1) := by
 obtain ⟨hk, rfl⟩ := List.getElem?_eq_some_iff.1 hx
 unfold mixStr
 obtain ⟨r, hr⟩ : ∃ r, l.length - k = r + 1 := ⟨l.length - k - 1, by omega⟩
 rw [hr, List.replicate_succ, show l.length - (k + 1) = r by omega, List.set_append, if_neg (by simp; omega), List.take_succ_eq_append_getElem hk, List.length_take, Nat.min_eq_left (Nat.le_of_lt hk), Nat.sub_self, List.set_cons_zero, List.append_assoc]
 rfl
set_option maxHeartbeats 1000000 in
theorem toStr_any (a : Option Addr) (cap : Nat) (l : List ByteArray) (w : World) (hl : l.length ≤ 1048576) (hc : Rd 1 encStr1 w a l) :
  Calls Tryz.prog 22 #[.slice a l.length cap] w (RetV (fun v w' => w'.ownsRow w.heap.size 9 1 v l.length (l.flatMap encStr1) ∧ v = .slice (some ⟨w.heap.size, 0, none⟩) l.length l.length) w) := by
 obtain ⟨i0, hi, hz0, hz1, hz2⟩ := info_parts infoStr
 go_enter Tryz.func22, Tryz.ntmps22
 go_wp2_with (at_make; refine wpList_make_full _ rfl _ _ 39 rfl w.heap.size 9 i0 _ 1 Tryz.underlying39 hi hz0 hz1 _ _ _ _ l.length rfl rfl rfl rfl ?b1 ?b2 ?b3 ?_)
 case b1 => rw [hz2]; omega
 case b2 => unfold maxLen; omega
 case b3 => exact Nat.le_refl _
 intro w1 hown1 hgr1
 have hE := ext_of_grown hgr1
 clear hgr1
 go_wp2
 go_loopw [4] (fun i wr => ∃ k : Nat, k ≤ l.length ∧ i = .int .i64 k ∧ wr.ownsRow w.heap.size 9 1 (.slice (some ⟨w.heap.size, 0, none⟩) l.length l.length) l.length ((mixStr l k).flatMap encStr1) ∧ Ext w wr) (fun i _ => l.length - (intOf i).toNat)
 case atStart => exact ⟨0, Nat.zero_le _, rfl, by rw [mixStr_zero, ← madeStr]; exact hown1, hE⟩
 case round =>
  obtain ⟨k, hk, rfl, hown, hb⟩ := hrel
  clear hown1 hE
  by_cases hlt : k < l.length
  ·obtain ⟨x, b, off, hx, rfl, c0⟩ := atStr (hc.ext hb) hlt
   have Hx := Lib.hid hx
   clear hx
   have hkm : k < (mixStr l k).length := by rw [mixStr_len _ _ hk]; exact hlt
   have g0 : wr.cell? ⟨w.heap.size, k, none⟩ = some (.string (mixStr l k)[k]) := by simpa using owns_at encStr1_len hown k hkm 0 _ rfl
   have f0 := hown.frozenAt
   have h3 := owns_put encStr1_len hown k x hkm
   rw [mixStr_set l k x Hx.out] at h3
   have H3 := Lib.hid h3
   have HE := Lib.hid (Ext.setCells (Nat.le_refl _) (encStr1 x) (k * 1) hb)
   clear h3
   go_wp2
   go_roundw
   case rel => exact ⟨k + 1, by omega, by go_num, by simpa [setCells, encStr1] using H3.out, by simpa [setCells, encStr1] using HE.out⟩
   case measure => simp [intOf]; omega
  ·obtain rfl : k = l.length := by omega
   rw [mixStr_full] at hown
   go_wp2
   go_ret
   exact RetV.mk ⟨hown, rfl⟩ hb
theorem extStr {l m : List ByteArray} (hl : l.length = m.length) (h : ∀ j, j < l.length → l[j]? = m[j]?) : l = m := by
 apply List.ext_getElem?
 intro j
 by_cases hj : j < l.length
 ·exact h j hj
 ·rw [List.getElem?_eq_none (by omega), List.getElem?_eq_none (by omega)]
set_option maxHeartbeats 2000000 in
theorem eqStr_any (a a' : Option Addr) (cap cap' : Nat) (l m : List ByteArray) (w : World) (hl : l.length ≤ 9223372036854775807) (hm : m.length ≤ 9223372036854775807) (hc : Rd 1 encStr1 w a l) (hd : Rd 1 encStr1 w a' m) :
  Calls Tryz.prog 23 #[.slice a l.length cap, .slice a' m.length cap'] w (RetB (l = m) w) := by
 by_cases hlen : l.length = m.length
 ·have ht : ((l.length : Int) != (m.length : Int)) = false := by simp; omega
  have Hlen := Lib.hid hlen
  clear hlen
  go_enter Tryz.func23, Tryz.ntmps23
  go_wp2
  go_loopw [5] (fun i wr => ∃ k : Nat, k ≤ l.length ∧ i = .int .i64 k ∧ (∀ j, j < k → l[j]? = m[j]?) ∧ Ext w wr) (fun i _ => l.length - (intOf i).toNat)
  case atStart => exact ⟨0, Nat.zero_le _, rfl, fun _ h => absurd h (Nat.not_lt_zero _), Ext.refl _⟩
  case round =>
   obtain ⟨k, hk, rfl, hpre, hb⟩ := hrel
   have Hpre := Lib.hid hpre
   clear hpre
   by_cases hlt : k < l.length
   ·have hltm : k < m.length := by have := Hlen.out; omega
    obtain ⟨x, b, off, hx, rfl, c0⟩ := atStr (hc.ext hb) hlt
    obtain ⟨y, b', off', hy, rfl, d0⟩ := atStr (hd.ext hb) hltm
    have Hx := Lib.hid hx
    have Hy := Lib.hid hy
    clear hx hy ht
    by_cases hxy : x = y
    ·have txy : (x.toList == y.toList) = true := by simpa [bytes_eq] using hxy
     have Hxy := Lib.hid hxy
     clear hxy
     go_wp2
     go_quiet (fail)
     go_wp2
     go_roundw
     case rel => exact ⟨k + 1, by omega, by go_num, fun j hj => (Nat.lt_succ_iff_lt_or_eq.1 hj).elim (Hpre.out j) (fun e => by rw [e, Hx.out, Hy.out, Hxy.out]), hb.drewN _⟩
     case measure => simp [intOf]; omega
    ·have txy : (x.toList == y.toList) = false := by simpa [bytes_eq] using hxy
     have Hxy := Lib.hid hxy
     clear hxy
     go_wp2
     go_quiet (fail)
     go_wp2
     go_ret
     exact RetB.mk false rfl (by simp only [Bool.false_eq_true, false_iff]; intro h; subst h; have h1 := Hx.out; rw [Hy.out] at h1; cases h1; exact Hxy.out rfl) (hb.drewN _)
   ·go_wp2
    go_ret
    exact RetB.mk true rfl (by simp only [true_iff]; exact extStr Hlen.out (fun j hj => Hpre.out j (by omega))) hb
 ·have ht : ((l.length : Int) != (m.length : Int)) = true := by simp; omega
  have Hlen := Lib.hid hlen
  clear hlen
  go_enter Tryz.func23, Tryz.ntmps23
  go_wp2
  go_ret
  exact RetB.mk false rfl (by simp only [Bool.false_eq_true, false_iff]; intro h; exact Hlen.out (by rw [h])) (Ext.refl _)
structure Pl where
 own : Nat → Prop
 ok : World → Prop
 frame : ∀ w w', ok w → (∀ b, own b → w'.heap[b]? = w.heap[b]?) → ok w'
 lt : ∀ w b, ok w → own b → b < w.heap.size
structure Chg (S : Nat → Prop) (w w' : World) : Prop where
 os : w'.os = w.os
 tape : w'.tape = w.tape
 output : w'.output = w.output
 size : w.heap.size ≤ w'.heap.size
 block : ∀ k, k < w.heap.size → ¬ S k → w'.heap[k]? = w.heap[k]?
theorem Chg.refl (S : Nat → Prop) (w : World) : Chg S w w := ⟨rfl, rfl, rfl, Nat.le_refl _, fun _ _ _ => rfl⟩
theorem Chg.of_ext {S : Nat → Prop} {w w' : World} (h : Ext w w') : Chg S w w' := ⟨h.os, h.tape, h.output, h.size, fun k hk _ => h.block k hk⟩
theorem Chg.trans {S : Nat → Prop} {a b c : World} (h : Chg S a b) (k : Chg S b c) : Chg S a c :=
 ⟨k.os.trans h.os, k.tape.trans h.tape, k.output.trans h.output, Nat.le_trans h.size k.size, fun i hi hn => (k.block i (Nat.lt_of_lt_of_le hi h.size) hn).trans (h.block i hi hn)⟩
theorem Chg.mono {S S' : Nat → Prop} {w w' : World} (h : Chg S w w') (hs : ∀ k, S k → k < w.heap.size → S' k) : Chg S' w w' :=
 ⟨h.os, h.tape, h.output, h.size, fun k hk hn => h.block k hk (fun hS => hn (hs k hS hk))⟩
theorem Chg.of_grown {w w' : World} {v : Value} (h : w.grownBy w' v.ownBlock) : Chg (fun b => v.ownBlock = some b) w w' := ⟨h.os, h.tape, h.output, h.size, fun k hk hn => h.block k hk (fun e => hn e.symm)⟩
theorem Chg.of_row {w w' : World} {row : Option Nat} (h : w.grownBy w' row) : Chg (fun b => row = some b) w w' := ⟨h.os, h.tape, h.output, h.size, fun k hk hn => h.block k hk (fun e => hn e.symm)⟩
theorem Chg.grown {w w' : World} {row : Option Nat} (h : Chg (fun b => row = some b) w w') : w.grownBy w' row := ⟨h.os, h.tape, h.output, h.size, fun k hk hn => h.block k hk (fun e => hn e.symm)⟩
theorem Chg.setCell (w : World) (b o : Nat) (u : Value) : Chg (fun k => k = b) w (w.setCell ⟨b, o, none⟩ u) :=
 ⟨rfl, rfl, rfl, by simp [World.setCell], fun k _ hn => Below.heap_setCell _ _ _ _ (fun e => hn e)⟩
theorem Chg.ext {S : Nat → Prop} {w0 w w' : World} (h : Ext w0 w) (hc : Chg S w w') (hS : ∀ k, S k → w0.heap.size ≤ k) : Ext w0 w' :=
 ⟨hc.os.trans h.os, hc.tape.trans h.tape, hc.output.trans h.output, Nat.le_trans h.size hc.size, fun k hk => (hc.block k (Nat.lt_of_lt_of_le hk h.size) (fun hs => by have := hS k hs; omega)).trans (h.block k hk)⟩
def plBox (b : Nat) (C : Array Value) (t : TypeId) : Pl where
 own k := k = b
 ok w := w.heap[b]? = some (.cells C t)
 frame := fun w w' h hf => (hf b rfl).trans h
 lt := fun w k h e => by
  subst e
  rcases Nat.lt_or_ge k w.heap.size with h3 | h3
  ·exact h3
  ·rw [Array.getElem?_eq_none h3] at h; cases h
def plRow {α : Type} (e nf : Nat) (enc : α → List Value) (u : Value) (l : List α) : Pl where
 own k := u.ownBlock = some k
 ok w := w.ownsRow 0 e nf u l.length (l.flatMap enc)
 frame := fun w w' h hf => by
  refine ⟨h.1, ?_⟩
  rcases h.2 with h2 | ⟨g, cap, cur, hv, hb, hh, r⟩
  ·exact .inl h2
  ·exact .inr ⟨g, cap, cur, hv, hb, by rw [hf g (by rw [hv]; rfl)]; exact hh, r⟩
 lt := fun w k h e => (World.ownsRow.lt h k e).2
structure SepM (M : Nat → Prop) (w0 w : World) (H : List Pl) : Prop where
 chg : Chg M w0 w
 small : ∀ b, M b → b < w0.heap.size
 ok : ∀ p ∈ H, p.ok w
 base : ∀ p ∈ H, ∀ b, p.own b → w0.heap.size ≤ b
 apart : H.Pairwise (fun p q => ∀ b, p.own b → ¬ q.own b)
abbrev Sep (w0 w : World) (H : List Pl) : Prop := SepM (fun _ => False) w0 w H
theorem SepM.ext {w0 w : World} {H : List Pl} (S : Sep w0 w H) : Ext w0 w := ⟨S.chg.os, S.chg.tape, S.chg.output, S.chg.size, fun k hk => S.chg.block k hk (fun h => h)⟩
theorem Sep.start (w : World) : Sep w w [] := ⟨Chg.refl _ w, by simp, by simp, by simp, .nil⟩
theorem Sep.of_ext {w0 w : World} (h : Ext w0 w) : Sep w0 w [] := ⟨Chg.of_ext h, by simp, by simp, by simp, .nil⟩
theorem SepM.lt {M : Nat → Prop} {w0 w : World} {H : List Pl} (S : SepM M w0 w H) {p : Pl} (hp : p ∈ H) {b : Nat} (hb : p.own b) : w0.heap.size ≤ b ∧ b < w.heap.size := ⟨S.base p hp b hb, p.lt w b (S.ok p hp) hb⟩
theorem SepM.step {M : Nat → Prop} {w0 w w' : World} {H : List Pl} (S : SepM M w0 w H) (hE : Ext w w') : SepM M w0 w' H :=
 ⟨S.chg.trans (Chg.of_ext hE), S.small, fun p hp => p.frame w w' (S.ok p hp) (fun b hb => hE.block b (S.lt hp hb).2), S.base, S.apart⟩
theorem SepM.drew {M : Nat → Prop} {w0 w : World} {H : List Pl} (S : SepM M w0 w H) : SepM M w0 w.drew H := S.step (Ext.refl w).drew
theorem SepM.drewN {M : Nat → Prop} {w0 w : World} {H : List Pl} (S : SepM M w0 w H) (n : Nat) : SepM M w0 (w.drewN n) H := S.step ((Ext.refl w).drewN n)
theorem SepM.call {M : Nat → Prop} {w0 w w' : World} {H H' : List Pl} (S : SepM M w0 w H) (T : Sep w w' H') : SepM M w0 w' (H' ++ H) :=
 ⟨S.chg.trans (Chg.of_ext T.ext), S.small, fun p hp => by
  rcases List.mem_append.1 hp with h | h
  ·exact T.ok p h
  ·exact (S.step T.ext).ok p h, fun p hp b hb => by
  rcases List.mem_append.1 hp with h | h
  ·exact Nat.le_trans S.chg.size (T.base p h b hb)
  ·exact S.base p h b hb, List.pairwise_append.2 ⟨T.apart, S.apart, fun p hp q hq b hb hc => by
  have h1 := T.base p hp b hb
  have h2 := (S.lt hq hc).2
  omega⟩⟩
theorem SepM.cons {M : Nat → Prop} {w0 w w' : World} {H : List Pl} {p : Pl} (S : SepM M w0 w H) (hE : Ext w w') (hp : p.ok w') (hn : ∀ b, p.own b → w.heap.size ≤ b) : SepM M w0 w' (p :: H) :=
 S.call (H' := [p]) ⟨Chg.of_ext hE, by simp, fun q hq => by rw [List.mem_singleton.1 hq]; exact hp, fun q hq b hb => by rw [List.mem_singleton.1 hq] at hb; exact hn b hb, List.pairwise_singleton _ _⟩
theorem Sep.one {w w' : World} {p : Pl} (hE : Ext w w') (hp : p.ok w') (hn : ∀ b, p.own b → w.heap.size ≤ b) : Sep w w' [p] := (Sep.start w).cons hE hp hn
theorem SepM.alloc {M : Nat → Prop} {w0 w : World} {H : List Pl} (S : SepM M w0 w H) (C : Array Value) (t : TypeId) : SepM M w0 (w.alloc (.cells C t)) (plBox w.heap.size C t :: H) :=
 S.cons ((Ext.refl w).alloc _) (heap_alloc_new w _) (fun b hb => by
  have : b = w.heap.size := hb
  omega)
theorem SepM.alloc_at {M : Nat → Prop} {w0 w : World} {H : List Pl} {n : Nat} (S : SepM M w0 w H) (hn : n = w.heap.size) (C : Array Value) (t : TypeId) : SepM M w0 (w.alloc (.cells C t)) (plBox n C t :: H) := by subst hn; exact S.alloc C t
theorem SepM.owned {α : Type} {M : Nat → Prop} {w0 w w' : World} {H : List Pl} (S : SepM M w0 w H) (hE : Ext w w') {base e nf : Nat} {enc : α → List Value} {v : Value} {l : List α} (hb : w.heap.size ≤ base) (h : w'.ownsRow base e nf v l.length (l.flatMap enc)) : SepM M w0 w' (plRow e nf enc v l :: H) :=
 S.cons hE (ownsRow_base h (Nat.zero_le _)) (fun b hb2 => Nat.le_trans hb (World.ownsRow.lt h b hb2).1)
theorem SepM.lit0 {α : Type} {M : Nat → Prop} {w0 w : World} {H : List Pl} (S : SepM M w0 w H) {n : Nat} (hn : n = w.heap.size) (e nf : Nat) (enc : α → List Value) : SepM M w0 (w.alloc (.cells #[] e)) (plRow e nf enc (.slice (some ⟨n, 0, none⟩) 0 0) [] :: H) := by
 subst hn
 exact S.cons (p := plRow e nf enc (.slice (some ⟨w.heap.size, 0, none⟩) 0 0) []) ((Ext.refl w).alloc _) ⟨by simp, .inr ⟨w.heap.size, 0, #[], rfl, Nat.zero_le _, heap_alloc_new w _, Nat.le_refl _, Nat.zero_le _, by simp, by simp⟩⟩ (fun b hb => by
  have : w.heap.size = b := Option.some.inj hb
  omega)
theorem SepM.nil {α : Type} {M : Nat → Prop} {w0 w : World} {H : List Pl} (S : SepM M w0 w H) (e nf : Nat) (enc : α → List Value) : SepM M w0 w (plRow e nf enc (.slice none 0 0) [] :: H) :=
 S.cons (Ext.refl w) (World.ownsRow_nil _ _ _ _) (fun b hb => by cases hb)
theorem SepM.lit {α : Type} {M : Nat → Prop} {w0 w : World} {H : List Pl} (S : SepM M w0 w H) {n : Nat} (hn : n = w.heap.size) (e nf : Nat) {enc : α → List Value} (hlen : ∀ x, (enc x).length = nf) (l : List α) {C : Array Value} {m : Nat} (hC : C.toList = l.flatMap enc) (hm : m = l.length) (hsm : m ≤ 1000000000) : SepM M w0 (w.alloc (.cells C e)) (plRow e nf enc (.slice (some ⟨n, 0, none⟩) m m) l :: H) := by
 subst hn hm
 exact S.cons (p := plRow e nf enc (.slice (some ⟨w.heap.size, 0, none⟩) l.length l.length) l) ((Ext.refl w).alloc _) (by
  have hsz : C.size = l.length * nf := by rw [← Array.length_toList, hC, flatMap_length hlen]
  refine ⟨flatMap_length hlen l, .inr ⟨w.heap.size, l.length, C, rfl, Nat.zero_le _, heap_alloc_new w _, Nat.le_refl _, by unfold maxLen; omega, hsz, ?_⟩⟩
  rw [hC, List.take_of_length_le (by rw [flatMap_length hlen]; exact Nat.le_refl _)]) (fun b hb => by
  have : w.heap.size = b := Option.some.inj hb
  omega)
theorem SepM.at_ {M : Nat → Prop} {w0 w : World} {H : List Pl} (S : SepM M w0 w H) (i : Nat) {p : Pl} (h : H[i]? = some p) : p.ok w := S.ok p (List.mem_of_getElem? h)
theorem SepM.box {M : Nat → Prop} {w0 w : World} {H : List Pl} (S : SepM M w0 w H) (i : Nat) {b : Nat} {C : Array Value} {t : TypeId} (h : H[i]? = some (plBox b C t)) : w.heap[b]? = some (.cells C t) := S.at_ i h
theorem SepM.row {α : Type} {M : Nat → Prop} {w0 w : World} {H : List Pl} (S : SepM M w0 w H) (i : Nat) {e nf : Nat} {enc : α → List Value} {v : Value} {l : List α} (h : H[i]? = some (plRow e nf enc v l)) : w.ownsRow w0.heap.size e nf v l.length (l.flatMap enc) := by
 have h0 : w.ownsRow 0 e nf v l.length (l.flatMap enc) := S.at_ i h
 refine ⟨h0.1, ?_⟩
 rcases h0.2 with h2 | ⟨g, cap, cur, hv, hb, r⟩
 ·exact .inl h2
 ·exact .inr ⟨g, cap, cur, hv, (S.lt (List.mem_of_getElem? h) (show v.ownBlock = some g by rw [hv]; rfl)).1, r⟩
theorem SepM.ne {M : Nat → Prop} {w0 w : World} {H : List Pl} (S : SepM M w0 w H) {i j : Nat} {p q : Pl} (hi : H[i]? = some p) (hj : H[j]? = some q) (hij : i ≠ j) {b : Nat} (hb : p.own b) : ¬ q.own b := by
 have hp := List.pairwise_iff_getElem.1 S.apart
 obtain ⟨i1, i2⟩ := List.getElem?_eq_some_iff.1 hi
 obtain ⟨j1, j2⟩ := List.getElem?_eq_some_iff.1 hj
 rcases Nat.lt_or_gt_of_ne hij with h | h
 ·have := hp i j i1 j1 h b (by rw [i2]; exact hb)
  rwa [j2] at this
 ·intro e
  have := hp j i j1 i1 h b (by rw [j2]; exact e)
  rw [i2] at this
  exact this hb
theorem SepM.bne {M : Nat → Prop} {w0 w : World} {H : List Pl} (S : SepM M w0 w H) (i j : Nat) {b c : Nat} {C D : Array Value} {t s : TypeId} (hi : H[i]? = some (plBox b C t)) (hj : H[j]? = some (plBox c D s)) (hij : i ≠ j) : b ≠ c := fun e => S.ne hi hj hij (show b = b from rfl) e
theorem SepM.put {M : Nat → Prop} {w0 w w' : World} {H : List Pl} (S : SepM M w0 w H) (i : Nat) {p q : Pl} (h : H[i]? = some p) (hg : Chg p.own w w') (hq : q.ok w') (hblk : ∀ b, q.own b → p.own b ∨ w.heap.size ≤ b) : SepM M w0 w' (H.set i q) := by
 have hm := List.mem_of_getElem? h
 have hi := (List.getElem?_eq_some_iff.1 h).1
 have hok : ∀ j r, H[j]? = some r → j ≠ i → r.ok w' := fun j r hj hne =>
  r.frame w w' (S.at_ j hj) (fun b hb => hg.block b (S.lt (List.mem_of_getElem? hj) hb).2 (fun e => S.ne h hj (fun e => hne e.symm) e hb))
 refine ⟨⟨hg.os.trans S.chg.os, hg.tape.trans S.chg.tape, hg.output.trans S.chg.output, Nat.le_trans S.chg.size hg.size, fun k hk hn => (hg.block k (Nat.lt_of_lt_of_le hk S.chg.size) (fun hs => by have := (S.lt hm hs).1; omega)).trans (S.chg.block k hk hn)⟩, S.small, fun r hr => ?_, fun r hr b hb => ?_, ?_⟩
 ·obtain ⟨j, hj⟩ := List.getElem?_of_mem hr
  by_cases hji : i = j
  ·subst hji
   rw [List.getElem?_set_self hi] at hj
   cases hj; exact hq
  ·rw [List.getElem?_set_ne hji] at hj
   exact hok j r hj (fun e => hji e.symm)
 ·obtain ⟨j, hj⟩ := List.getElem?_of_mem hr
  by_cases hji : i = j
  ·subst hji
   rw [List.getElem?_set_self hi] at hj
   cases hj
   rcases hblk b hb with h2 | h2
   ·exact (S.lt hm h2).1
   ·exact Nat.le_trans S.chg.size h2
  ·rw [List.getElem?_set_ne hji] at hj
   exact S.base r (List.mem_of_getElem? hj) b hb
 ·rw [List.pairwise_iff_getElem]
  intro j k hj hk hjk b hb
  simp only [List.length_set] at hj hk
  rw [List.getElem_set] at hb ⊢
  have h1 := List.pairwise_iff_getElem.1 S.apart j k hj hk hjk
  by_cases e1 : i = j
  ·subst e1
   rw [if_pos rfl] at hb
   rw [if_neg (by omega)]
   rcases hblk b hb with h2 | h2
   ·exact S.ne h (List.getElem?_eq_getElem hk) (by omega) h2
   ·intro e
    have := (S.lt (List.getElem_mem hk) e).2
    omega
  ·rw [if_neg e1] at hb
   by_cases e2 : i = k
   ·subst e2
    rw [if_pos rfl]
    intro e
    rcases hblk b e with h2 | h2
    ·exact S.ne (List.getElem?_eq_getElem hj) h (by omega) hb h2
    ·have := (S.lt (List.getElem_mem hj) hb).2
     omega
   ·rw [if_neg e2]
    exact h1 b hb
theorem SepM.set {M : Nat → Prop} {w0 w : World} {H : List Pl} (S : SepM M w0 w H) (i : Nat) {b : Nat} {C : Array Value} {t : TypeId} (h : H[i]? = some (plBox b C t)) (o : Nat) (u : Value) : SepM M w0 (w.setCell ⟨b, o, none⟩ u) (H.set i (plBox b (C.setIfInBounds o u) t)) :=
 S.put i h (Chg.setCell w b o u) (by
  have := S.box i h
  show (w.setCell ⟨b, o, none⟩ u).heap[b]? = _
  simp [World.setCell, Array.getElem?_modify, this]) (fun c hc => .inl hc)
theorem SepM.grow {α : Type} {M : Nat → Prop} {w0 w w' : World} {H : List Pl} (S : SepM M w0 w H) (i : Nat) {base e nf : Nat} {enc : α → List Value} {v v' : Value} {l l' : List α} (h : H[i]? = some (plRow e nf enc v l)) (hg : w.grownBy w' v.ownBlock) (ho : w'.ownsRow base e nf v' l'.length (l'.flatMap enc)) (hblk : ∀ b, v'.ownBlock = some b → v.ownBlock = some b ∨ w.heap.size ≤ b) : SepM M w0 w' (H.set i (plRow e nf enc v' l')) :=
 S.put i h (Chg.of_grown hg) (ownsRow_base ho (Nat.zero_le _)) hblk
theorem SepM.rowSet {α : Type} {M : Nat → Prop} {w0 w : World} {H : List Pl} (S : SepM M w0 w H) (i : Nat) {e nf : Nat} {enc : α → List Value} (hn : ∀ x, (enc x).length = nf) {g n cap : Nat} {L : List α} (h : H[i]? = some (plRow e nf enc (.slice (some ⟨g, 0, none⟩) n cap) L)) (hnL : n = L.length) (k j : Nat) (u : Value) (x' : α) (hk : k < L.length) (hj : j < nf) (hx : enc x' = (enc L[k]).set j u) :
  SepM M w0 (w.setCell ⟨g, k * nf + j, none⟩ u) (H.set i (plRow e nf enc (.slice (some ⟨g, 0, none⟩) n cap) (L.set k x'))) := by
 subst hnL
 have h0 := S.row i h
 refine S.put i h ((Chg.setCell w g (k * nf + j) u).mono (fun b hb _ => by show some g = some b; rw [hb])) ?_ (fun b hb => .inl hb)
 have := owns_set hn (ownsRow_base h0 (Nat.zero_le _)) k j u x' hk hj hx
 show World.ownsRow _ 0 e nf _ (L.set k x').length _
 rw [List.length_set]
 exact this
theorem SepM.keep {M : Nat → Prop} {w0 w : World} {H : List Pl} (S : SepM M w0 w H) (H' : List Pl) (h : H'.Sublist H) : SepM M w0 w H' :=
 ⟨S.chg, S.small, fun p hp => S.ok p (h.subset hp), fun p hp => S.base p (h.subset hp), S.apart.sublist h⟩
theorem SepM.drop {M : Nat → Prop} {w0 w : World} {H : List Pl} (S : SepM M w0 w H) (i : Nat) : SepM M w0 w (H.eraseIdx i) := S.keep _ (List.eraseIdx_sublist ..)
theorem SepM.perm {M : Nat → Prop} {w0 w : World} {H H' : List Pl} (S : SepM M w0 w H) (h : H.Perm H') : SepM M w0 w H' :=
 ⟨S.chg, S.small, fun p hp => S.ok p (h.mem_iff.2 hp), fun p hp => S.base p (h.mem_iff.2 hp), S.apart.perm h (fun hab b hb ha => hab b ha hb)⟩
theorem Sep.since {w0 w1 w : World} {H : List Pl} (S : Sep w1 w H) (hE : Ext w0 w1) : Sep w0 w H := by
 have := (Sep.of_ext hE).call S
 rwa [List.append_nil] at this
theorem bx {w : World} {b : Nat} {C : Array Value} {t : TypeId} (h : w.heap[b]? = some (.cells C t)) (o : Nat) {v : Value} (hv : C[o]? = some v) : w.cell? ⟨b, o, none⟩ = some v ∧ w.frozen? ⟨b, o, none⟩ = false := by
 refine ⟨?_, ?_⟩
 ·simp [World.cell?, h, hv]
 ·simp [World.frozen?, h]
theorem bx2 {w : World} {b t : Nat} {a0 a1 : Value} (h : w.heap[b]? = some (.cells #[a0, a1] t)) : (w.cell? ⟨b, 0, none⟩ = some a0 ∧ w.frozen? ⟨b, 0, none⟩ = false) ∧ (w.cell? ⟨b, 1, none⟩ = some a1 ∧ w.frozen? ⟨b, 1, none⟩ = false) :=
 ⟨bx h 0 rfl, bx h 1 rfl⟩
theorem bx3 {w : World} {b t : Nat} {a0 a1 a2 : Value} (h : w.heap[b]? = some (.cells #[a0, a1, a2] t)) : (w.cell? ⟨b, 0, none⟩ = some a0 ∧ w.frozen? ⟨b, 0, none⟩ = false) ∧ (w.cell? ⟨b, 1, none⟩ = some a1 ∧ w.frozen? ⟨b, 1, none⟩ = false) ∧ (w.cell? ⟨b, 2, none⟩ = some a2 ∧ w.frozen? ⟨b, 2, none⟩ = false) :=
 ⟨bx h 0 rfl, bx h 1 rfl, bx h 2 rfl⟩
theorem bx4 {w : World} {b t : Nat} {a0 a1 a2 a3 : Value} (h : w.heap[b]? = some (.cells #[a0, a1, a2, a3] t)) : (w.cell? ⟨b, 0, none⟩ = some a0 ∧ w.frozen? ⟨b, 0, none⟩ = false) ∧ (w.cell? ⟨b, 1, none⟩ = some a1 ∧ w.frozen? ⟨b, 1, none⟩ = false) ∧ (w.cell? ⟨b, 2, none⟩ = some a2 ∧ w.frozen? ⟨b, 2, none⟩ = false) ∧ (w.cell? ⟨b, 3, none⟩ = some a3 ∧ w.frozen? ⟨b, 3, none⟩ = false) :=
 ⟨bx h 0 rfl, bx h 1 rfl, bx h 2 rfl, bx h 3 rfl⟩
theorem bx5 {w : World} {b t : Nat} {a0 a1 a2 a3 a4 : Value} (h : w.heap[b]? = some (.cells #[a0, a1, a2, a3, a4] t)) : (w.cell? ⟨b, 0, none⟩ = some a0 ∧ w.frozen? ⟨b, 0, none⟩ = false) ∧ (w.cell? ⟨b, 1, none⟩ = some a1 ∧ w.frozen? ⟨b, 1, none⟩ = false) ∧ (w.cell? ⟨b, 2, none⟩ = some a2 ∧ w.frozen? ⟨b, 2, none⟩ = false) ∧ (w.cell? ⟨b, 3, none⟩ = some a3 ∧ w.frozen? ⟨b, 3, none⟩ = false) ∧ (w.cell? ⟨b, 4, none⟩ = some a4 ∧ w.frozen? ⟨b, 4, none⟩ = false) :=
 ⟨bx h 0 rfl, bx h 1 rfl, bx h 2 rfl, bx h 3 rfl, bx h 4 rfl⟩
theorem bx6 {w : World} {b t : Nat} {a0 a1 a2 a3 a4 a5 : Value} (h : w.heap[b]? = some (.cells #[a0, a1, a2, a3, a4, a5] t)) : (w.cell? ⟨b, 0, none⟩ = some a0 ∧ w.frozen? ⟨b, 0, none⟩ = false) ∧ (w.cell? ⟨b, 1, none⟩ = some a1 ∧ w.frozen? ⟨b, 1, none⟩ = false) ∧ (w.cell? ⟨b, 2, none⟩ = some a2 ∧ w.frozen? ⟨b, 2, none⟩ = false) ∧ (w.cell? ⟨b, 3, none⟩ = some a3 ∧ w.frozen? ⟨b, 3, none⟩ = false) ∧ (w.cell? ⟨b, 4, none⟩ = some a4 ∧ w.frozen? ⟨b, 4, none⟩ = false) ∧ (w.cell? ⟨b, 5, none⟩ = some a5 ∧ w.frozen? ⟨b, 5, none⟩ = false) :=
 ⟨bx h 0 rfl, bx h 1 rfl, bx h 2 rfl, bx h 3 rfl, bx h 4 rfl, bx h 5 rfl⟩
theorem bx7 {w : World} {b t : Nat} {a0 a1 a2 a3 a4 a5 a6 : Value} (h : w.heap[b]? = some (.cells #[a0, a1, a2, a3, a4, a5, a6] t)) : (w.cell? ⟨b, 0, none⟩ = some a0 ∧ w.frozen? ⟨b, 0, none⟩ = false) ∧ (w.cell? ⟨b, 1, none⟩ = some a1 ∧ w.frozen? ⟨b, 1, none⟩ = false) ∧ (w.cell? ⟨b, 2, none⟩ = some a2 ∧ w.frozen? ⟨b, 2, none⟩ = false) ∧ (w.cell? ⟨b, 3, none⟩ = some a3 ∧ w.frozen? ⟨b, 3, none⟩ = false) ∧ (w.cell? ⟨b, 4, none⟩ = some a4 ∧ w.frozen? ⟨b, 4, none⟩ = false) ∧ (w.cell? ⟨b, 5, none⟩ = some a5 ∧ w.frozen? ⟨b, 5, none⟩ = false) ∧ (w.cell? ⟨b, 6, none⟩ = some a6 ∧ w.frozen? ⟨b, 6, none⟩ = false) :=
 ⟨bx h 0 rfl, bx h 1 rfl, bx h 2 rfl, bx h 3 rfl, bx h 4 rfl, bx h 5 rfl, bx h 6 rfl⟩
theorem Sep.of_owns {α : Type} {w w' : World} {e nf : Nat} {enc : α → List Value} {v : Value} {l : List α} (hE : Ext w w') (h : w'.ownsRow w.heap.size e nf v l.length (l.flatMap enc)) : Sep w w' [plRow e nf enc v l] :=
 (Sep.start w).owned hE (Nat.le_refl _) h
theorem SepM.rd {α : Type} {M : Nat → Prop} {w0 w : World} {H : List Pl} (S : SepM M w0 w H) (i : Nat) {e nf : Nat} {enc : α → List Value} (hn : ∀ x, (enc x).length = nf) {a : Option Addr} {cap n : Nat} {l : List α} (h : H[i]? = some (plRow e nf enc (.slice a n cap) l)) (hl : n = l.length) : Rd nf enc w a l := by
 subst hl
 exact rd_owns hn (S.row i h) rfl
theorem SepM.other {M : Nat → Prop} {w0 w w' : World} {H : List Pl} (S : SepM M w0 w H) (hc : Chg M w w') : SepM M w0 w' H :=
 ⟨S.chg.trans hc, S.small, fun p hp => p.frame w w' (S.ok p hp) (fun b hb => hc.block b (S.lt hp hb).2 (fun hm => by
  have h1 := S.small b hm
  have h2 := (S.lt hp hb).1
  omega)), S.base, S.apart⟩
def RetSep (Q : Value → List Pl → Prop) (w : World) (e : Ending) (w' : World) : Prop := ∃ v H, e = .returned v ∧ Q v H ∧ Sep w w' H
theorem RetSep.mk {Q : Value → List Pl → Prop} {w w' : World} {v : Value} {H : List Pl} (h : Q v H) (S : Sep w w' H) : RetSep Q w (.returned v) w' := ⟨v, H, rfl, h, S⟩
end Go.Proofs.YtnibbldfohbfkaaGreatDoor
