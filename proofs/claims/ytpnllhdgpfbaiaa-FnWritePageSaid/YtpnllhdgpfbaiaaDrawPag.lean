/- The draw of memories. No condition but small sizes. -/
import Derived.Test.YtpnllhdgpfbaiaaPagD0
import Derived.Test.YtpnllhdgpfbaiaaDrawF
import Derived.Test.YtpnllhdgpfbaiaaOwnCap
import Derived.Deep.Cut
namespace Go.Proofs.Ytpnllhdgpfbaiaa
open Go.RowKit

def V6 (g B b0 base : Nat) (af : Option Addr) (nF cf : Nat) (F : List Int) : Nat → Value → List Value → World → Prop := fun i v _ wv => match i with
  | 0 => v = .pointer (some ⟨B, 0, none⟩)
  | 1 => v = .slice af nF cf
  | 2 => v = .pointer (some ⟨g, 0, none⟩)
  | 3 => (CT.int 0 99).has v
  | 4 => ∃ g9, ∃ x : Int, v = .slice (some ⟨g9, 0, none⟩) 1 1 ∧ base ≤ g9 ∧ wv.heap[g9]? = some (.cells #[.int .i64 x] 3)
  | 5 => ∃ x : Int, wv.ownsRow b0 3 1 v (F ++ [x]).length ((F ++ [x]).flatMap encInt1) ∧ ∀ b, v.ownBlock = some b → (Value.slice af nF cf).ownBlock = some b ∨ base ≤ b
  | 6 => v = .pointer (some ⟨B, 0, none⟩)
  | 7 => wv.ownsRow b0 3 1 (.slice af nF cf) F.length (F.flatMap encInt1)
  | _ => True
theorem V6.ext {g B b0 base : Nat} {af : Option Addr} {nF cf : Nat} {F : List Int} (i : Nat) (v : Value) (us : List Value) (w1 w2 : World) (h : V6 g B b0 base af nF cf F i v us w1) (hE : Ext w1 w2) : V6 g B b0 base af nF cf F i v us w2 := by
  match i with
  | 0 => exact h
  | 1 => exact h
  | 2 => exact h
  | 3 => exact h
  | 4 => obtain ⟨g9, x, h1, h2, h3⟩ := h; exact ⟨g9, x, h1, h2, heapx hE h3⟩
  | 5 => obtain ⟨x, h1, h2⟩ := h; exact ⟨x, ownsRow_ext h1 hE, h2⟩
  | 6 => exact h
  | 7 => exact ownsRow_ext (show w1.ownsRow _ _ _ _ _ _ from h) hE
  | (n + 8) => trivial
theorem V6.step {g B b0 base : Nat} {af : Option Addr} {nF cf : Nat} {F : List Int} (hb : g < b0) (hbb : b0 ≤ base) (i : Nat) (v : Value) (us : List Value) (w1 w2 : World) (h : V6 g B b0 base af nF cf F i v us w1) (hE : Step g w1 w2) : V6 g B b0 base af nF cf F i v us w2 := by
  match i with
  | 0 => exact h
  | 1 => exact h
  | 2 => exact h
  | 3 => exact h
  | 4 => obtain ⟨g9, x, h1, h2, h3⟩ := h; exact ⟨g9, x, h1, h2, (heap_step hE (by omega) (Array.getElem?_eq_some_iff.1 h3).1).trans h3⟩
  | 5 => obtain ⟨x, h1, h2⟩ := h; exact ⟨x, ownsRow_step h1 hE hb, h2⟩
  | 6 => exact h
  | 7 => exact ownsRow_step (show w1.ownsRow _ _ _ _ _ _ from h) hE hb
  | (n + 8) => trivial
def V21 (g B b0 base : Nat) (af : Option Addr) (nF cf : Nat) (F : List Int) : Nat → Value → List Value → World → Prop := fun i v _ wv => match i with
  | 0 => v = .pointer (some ⟨B, 0, none⟩)
  | 1 => v = .slice af nF cf
  | 2 => LitC base 2 [CT.int (-1) 10001] v wv
  | 3 => v = .pointer (some ⟨g, 0, none⟩)
  | 4 => (CT.int 0 1).has v
  | 5 => PtrC base [CT.int (-1) 10001] v wv
  | 6 => (CT.int (-1) 10001).has v
  | 7 => ∃ g9, ∃ x : Int, v = .slice (some ⟨g9, 0, none⟩) 1 1 ∧ base ≤ g9 ∧ wv.heap[g9]? = some (.cells #[.int .i64 x] 3)
  | 8 => ∃ x : Int, wv.ownsRow b0 3 1 v (F ++ [x]).length ((F ++ [x]).flatMap encInt1) ∧ ∀ b, v.ownBlock = some b → (Value.slice af nF cf).ownBlock = some b ∨ base ≤ b
  | 9 => v = .pointer (some ⟨B, 0, none⟩)
  | 10 => wv.ownsRow b0 3 1 (.slice af nF cf) F.length (F.flatMap encInt1)
  | _ => True
theorem V21.ext {g B b0 base : Nat} {af : Option Addr} {nF cf : Nat} {F : List Int} (i : Nat) (v : Value) (us : List Value) (w1 w2 : World) (h : V21 g B b0 base af nF cf F i v us w1) (hE : Ext w1 w2) : V21 g B b0 base af nF cf F i v us w2 := by
  match i with
  | 0 => exact h
  | 1 => exact h
  | 2 => exact LitC.chg (S := fun _ => False) h (Chg.of_ext hE) (fun b e => e.elim)
  | 3 => exact h
  | 4 => exact h
  | 5 => exact PtrC.chg (S := fun _ => False) h (Chg.of_ext hE) (fun b e => e.elim)
  | 6 => exact h
  | 7 => obtain ⟨g9, x, h1, h2, h3⟩ := h; exact ⟨g9, x, h1, h2, heapx hE h3⟩
  | 8 => obtain ⟨x, h1, h2⟩ := h; exact ⟨x, ownsRow_ext h1 hE, h2⟩
  | 9 => exact h
  | 10 => exact ownsRow_ext (show w1.ownsRow _ _ _ _ _ _ from h) hE
  | (n + 11) => trivial
theorem V21.step {g B b0 base : Nat} {af : Option Addr} {nF cf : Nat} {F : List Int} (hb : g < b0) (hbb : b0 ≤ base) (i : Nat) (v : Value) (us : List Value) (w1 w2 : World) (h : V21 g B b0 base af nF cf F i v us w1) (hE : Step g w1 w2) : V21 g B b0 base af nF cf F i v us w2 := by
  match i with
  | 0 => exact h
  | 1 => exact h
  | 2 => exact LitC.chg h (Chg.of_step hE) (fun b e => by omega)
  | 3 => exact h
  | 4 => exact h
  | 5 => exact PtrC.chg h (Chg.of_step hE) (fun b e => by omega)
  | 6 => exact h
  | 7 => obtain ⟨g9, x, h1, h2, h3⟩ := h; exact ⟨g9, x, h1, h2, (heap_step hE (by omega) (Array.getElem?_eq_some_iff.1 h3).1).trans h3⟩
  | 8 => obtain ⟨x, h1, h2⟩ := h; exact ⟨x, ownsRow_step h1 hE hb, h2⟩
  | 9 => exact h
  | 10 => exact ownsRow_step (show w1.ownsRow _ _ _ _ _ _ from h) hE hb
  | (n + 11) => trivial
def V5 (B gT cT : Nat) (af : Option Addr) (cf nF : Nat) (s : Sl) (t : List Int) (b0 base : Nat) : Nat → Value → World → Prop := fun i v wv => match i with
  | 0 => v = .pointer (some ⟨B, 1, none⟩)
  | 1 => v = .slice (some ⟨gT, 0, none⟩) 1 cT
  | 2 => v = .pointer (some ⟨B, 1, none⟩)
  | 3 => v = .slice (some ⟨gT, 0, none⟩) 1 cT
  | 4 => v = .pointer (some ⟨gT, 0, none⟩)
  | 5 => v = s.v
  | 6 => v = .pointer (some ⟨B, 0, none⟩)
  | 7 => v = .slice af nF cf
  | 8 => v = .int .i64 (nF : Int)
  | 9 => ∃ g9, v = .slice (some ⟨g9, 0, none⟩) 1 1 ∧ base ≤ g9 ∧ wv.heap[g9]? = some (.cells #[.int .i64 (nF : Int)] 3)
  | 10 => wv.ownsRow b0 3 1 v (t ++ [(nF : Int)]).length ((t ++ [(nF : Int)]).flatMap encInt1) ∧ ∀ b, v.ownBlock = some b → s.v.ownBlock = some b ∨ base ≤ b
  | 11 => v = .pointer (some ⟨gT, 0, none⟩)
  | 12 => wv.ownsRow b0 3 1 s.v t.length (t.flatMap encInt1)
  | _ => True
theorem V5.ext {B gT cT : Nat} {af : Option Addr} {cf nF : Nat} {s : Sl} {t : List Int} {b0 base : Nat} (i : Nat) (v : Value) (w1 w2 : World) (h : V5 B gT cT af cf nF s t b0 base i v w1) (hE : Ext w1 w2) : V5 B gT cT af cf nF s t b0 base i v w2 := by
  match i with
  | 0 | 1 | 2 | 3 | 4 | 5 | 6 | 7 | 8 | 11 => exact h
  | 9 => obtain ⟨g9, h1, h2, h3⟩ := h; exact ⟨g9, h1, h2, heapx hE h3⟩
  | 10 => obtain ⟨h1, h2⟩ := h; exact ⟨ownsRow_ext h1 hE, h2⟩
  | 12 => exact ownsRow_ext (show w1.ownsRow _ _ _ _ _ _ from h) hE
  | (n + 13) => trivial
/-- What WritePage gives: a tuple; its memory. -/
def MemT (base : Nat) (v : Value) (w : World) : Prop := ∃ a1 c1 F a2 c2 vs T, ∃ ok : Bool, v = .tuple #[.agg #[.slice a1 F.length c1, .slice a2 T.length c2], .bool ok] ∧ MemI base a1 c1 F a2 c2 vs T w
def MemA (base : Nat) (v : Value) (w : World) : Prop := ∃ a1 c1 F a2 c2 vs T, v = .agg #[.slice a1 F.length c1, .slice a2 T.length c2] ∧ MemI base a1 c1 F a2 c2 vs T w
theorem MemT.step {g base : Nat} {v : Value} {w w' : World} (h : MemT base v w) (k : Step g w w') (hg : g < base) : MemT base v w' := by
  obtain ⟨a1, c1, F, a2, c2, vs, T, ok, h1, h2⟩ := h
  exact ⟨a1, c1, F, a2, c2, vs, T, ok, h1, h2.step k hg⟩
theorem MemA.step {g base : Nat} {v : Value} {w w' : World} (h : MemA base v w) (k : Step g w w') (hg : g < base) : MemA base v w' := by
  obtain ⟨a1, c1, F, a2, c2, vs, T, h1, h2⟩ := h
  exact ⟨a1, c1, F, a2, c2, vs, T, h1, h2.step k hg⟩
def BoxM (base : Nat) (v : Value) (w : World) : Prop := ∃ b C, v = .pointer (some ⟨b, 0, none⟩) ∧ w.heap[b]? = some (.cells C 28) ∧ C.size = 2 ∧ base ≤ b
theorem BoxM.step {g base : Nat} {v : Value} {w w' : World} (h : BoxM base v w) (k : Step g w w') (hg : g < base) : BoxM base v w' := by
  obtain ⟨b, C, h1, h2, h3, h4⟩ := h
  exact ⟨b, C, h1, (heap_step k (by omega) (Array.getElem?_eq_some_iff.1 h2).1).trans h2, h3, h4⟩
def V14 (g base : Nat) (af : Option Addr) (nF cf : Nat) (at0 : Option Addr) (nT ct : Nat) (who : Int) : Nat → Value → List Value → World → Prop := fun i v us wv => match i with
  | 0 => v = .agg #[.slice af nF cf, .slice at0 nT ct]
  | 1 => v = .int .i64 who
  | 2 => v = .pointer (some ⟨g, 0, none⟩)
  | 3 => (CT.int 0 3).has v
  | 4 => v = .pointer (some ⟨g, 0, none⟩)
  | 5 => (CT.int 0 99).has v
  | 6 => MemT base v wv
  | 7 => MemT base v wv
  | 8 => MemA base v wv
  | 9 => ∃ b : Bool, v = .bool b
  | 10 => BoxM base v wv
  | 11 => match us with
    | [y10, y8] => ∃ b x y, y10 = .pointer (some ⟨b, 0, none⟩) ∧ y8 = .agg #[x, y] ∧ wv.heap[b]? = some (.cells #[x, y] 28) ∧ base ≤ b
    | _ => False
  | _ => True
def cons14 (i : Nat) : Option Nat := if i = 10 then some 11 else none
def dep14 (i : Nat) : List Nat := if i = 11 then [10, 8] else []
theorem V14.step {g base : Nat} {af : Option Addr} {nF cf : Nat} {at0 : Option Addr} {nT ct : Nat} {who : Int} (hg : g < base) (i : Nat) (v : Value) (us : List Value) (w w' : World) (h : V14 g base af nF cf at0 nT ct who i v us w) (hE : Step g w w') : V14 g base af nF cf at0 nT ct who i v us w' := by
  match i with
  | 0 | 1 | 2 | 3 | 4 | 5 | 9 => exact h
  | 6 => exact MemT.step h hE hg
  | 7 => exact MemT.step h hE hg
  | 8 => exact MemA.step h hE hg
  | 10 => exact BoxM.step h hE hg
  | 11 =>
    match us, h with
    | [y10, y8], h =>
      obtain ⟨b, x, y, h1, h2, h3, h4⟩ := h
      exact ⟨b, x, y, h1, h2, (heap_step hE (by omega) (Array.getElem?_eq_some_iff.1 h3).1).trans h3, h4⟩
  | (n + 12) => trivial
theorem V14.ext {g base : Nat} {af : Option Addr} {nF cf : Nat} {at0 : Option Addr} {nT ct : Nat} {who : Int} (hg : g < base) (i : Nat) (v : Value) (us : List Value) (w w' : World) (h : V14 g base af nF cf at0 nT ct who i v us w) (hE : Ext w w') : V14 g base af nF cf at0 nT ct who i v us w' := V14.step hg i v us w w' h (.of_ext hE)
/-- Two cells, whatever they are. -/
theorem two_cells {w : World} {b : Nat} {C : Array Value} {t : TypeId} (h : w.heap[b]? = some (.cells C t)) (hC : C.size = 2) : (∃ x, w.cell? ⟨b, 0, none⟩ = some x) ∧ (∃ y, w.cell? ⟨b, 1, none⟩ = some y) ∧ w.frozen? ⟨b, 0, none⟩ = false ∧ w.frozen? ⟨b, 1, none⟩ = false := by
  obtain ⟨c0, f0⟩ := bx h 0 (Array.getElem?_eq_getElem (show 0 < C.size by omega))
  obtain ⟨c1, f1⟩ := bx h 1 (Array.getElem?_eq_getElem (show 1 < C.size by omega))
  exact ⟨⟨_, c0⟩, ⟨_, c1⟩, f0, f1⟩
theorem two_set {w : World} {b : Nat} {C : Array Value} {t : TypeId} (h : w.heap[b]? = some (.cells C t)) (hC : C.size = 2) (x y : Value) : ((w.setCell ⟨b, 0, none⟩ x).setCell ⟨b, 1, none⟩ y).heap[b]? = some (.cells #[x, y] t) := by
  have h1 := box_set (box_set h 0 x) 1 y
  rw [h1]
  match C, hC with
  | ⟨[p, q]⟩, _ => simp
/-- One piece is written anew, and blocks of M. -/
theorem SepM.putM {M : Nat → Prop} {w0 w w' : World} {H : List Pl} (S : SepM M w0 w H) (i : Nat) {p q : Pl} (h : H[i]? = some p) (hg : Chg (fun b => M b ∨ p.own b) w w') (hq : q.ok w') (hblk : ∀ b, q.own b → p.own b ∨ w.heap.size ≤ b) : SepM M w0 w' (H.set i q) := by
  have hm := List.mem_of_getElem? h
  have hi := (List.getElem?_eq_some_iff.1 h).1
  have hok : ∀ j r, H[j]? = some r → j ≠ i → r.ok w' := fun j r hj hne =>
    r.frame w w' (S.at_ j hj) (fun b hb => hg.block b (S.lt (List.mem_of_getElem? hj) hb).2 (fun e => e.elim (fun e => by have h1 := S.small b e; have h2 := (S.lt (List.mem_of_getElem? hj) hb).1; omega) (fun e => S.ne h hj (fun e => hne e.symm) e hb)))
  refine ⟨⟨hg.os.trans S.chg.os, hg.tape.trans S.chg.tape, hg.output.trans S.chg.output, Nat.le_trans S.chg.size hg.size, fun k hk hn => (hg.block k (Nat.lt_of_lt_of_le hk S.chg.size) (fun hs => hs.elim hn (fun hs => by have := (S.lt hm hs).1; omega))).trans (S.chg.block k hk hn)⟩, S.small, fun r hr => ?_, fun r hr b hb => ?_, ?_⟩
  · obtain ⟨j, hj⟩ := List.getElem?_of_mem hr
    by_cases hji : i = j
    · subst hji
      rw [List.getElem?_set_self hi] at hj
      cases hj; exact hq
    · rw [List.getElem?_set_ne hji] at hj
      exact hok j r hj (fun e => hji e.symm)
  · obtain ⟨j, hj⟩ := List.getElem?_of_mem hr
    by_cases hji : i = j
    · subst hji
      rw [List.getElem?_set_self hi] at hj
      cases hj
      rcases hblk b hb with h2 | h2
      · exact (S.lt hm h2).1
      · exact Nat.le_trans S.chg.size h2
    · rw [List.getElem?_set_ne hji] at hj
      exact S.base r (List.mem_of_getElem? hj) b hb
  · rw [List.pairwise_iff_getElem]
    intro j k hj hk hjk b hb
    simp only [List.length_set] at hj hk
    rw [List.getElem_set] at hb ⊢
    have h1 := List.pairwise_iff_getElem.1 S.apart j k hj hk hjk
    by_cases e1 : i = j
    · subst e1
      rw [if_pos rfl] at hb
      rw [if_neg (by omega)]
      rcases hblk b hb with h2 | h2
      · exact S.ne h (List.getElem?_eq_getElem hk) (by omega) h2
      · intro e
        have := (S.lt (List.getElem_mem hk) e).2
        omega
    · rw [if_neg e1] at hb
      by_cases e2 : i = k
      · subst e2
        rw [if_pos rfl]
        intro e
        rcases hblk b e with h2 | h2
        · exact S.ne (List.getElem?_eq_getElem hj) h (by omega) hb h2
        · have := (S.lt (List.getElem_mem hj) hb).2
          omega
      · rw [if_neg e2]
        exact h1 b hb
theorem SepM.boxNe {M : Nat → Prop} {w0 w : World} {H : List Pl} (S : SepM M w0 w H) {i j : Nat} {e nf : Nat} {α : Type} {enc : α → List Value} {v : Value} {l : List α} {B : Nat} {C : Array Value} {t : TypeId} (hi : H[i]? = some (plRow e nf enc v l)) (hj : H[j]? = some (plBox B C t)) (hij : i ≠ j) : ∀ b, v.ownBlock = some b → w0.heap.size ≤ b ∧ b < w.heap.size ∧ b ≠ B := fun b hb =>
  ⟨(S.lt (List.mem_of_getElem? hi) (show (plRow e nf enc v l).own b from hb)).1, (S.lt (List.mem_of_getElem? hi) (show (plRow e nf enc v l).own b from hb)).2, fun he => S.ne hi hj hij (show (plRow e nf enc v l).own b from hb) he⟩

theorem tab_cap {w : World} {a : Option Addr} {n cap : Nat} {vs : List Sl} {T : List (List Int)} (h : (plTab (.slice a n cap) vs T).ok w) : n ≤ cap := by
  obtain ⟨a', cap', hu, hc, _, _⟩ := tab_view h
  simp only [Value.slice.injEq] at hu
  omega
/-- A drawn memory. -/
def DrawnM (g : Nat) (P : Int) (w : World) (e : Ending) (w' : World) : Prop :=
  ∃ a1 c1 F a2 c2 vs T, e = .returned (.agg #[.slice a1 F.length c1, .slice a2 T.length c2]) ∧ F.length ≤ 14 ∧ T.length ≤ 6 ∧ (∀ t ∈ T, t.length ≤ 4) ∧ F.length ≤ c1 ∧ T.length ≤ c2 ∧ Src g P w' ∧ SepM (fun b => b = g) w w' [plTab (.slice a2 T.length c2) vs T, plRow 3 1 encInt1 (.slice a1 F.length c1) F]

set_option maxRecDepth 10000 in
set_option maxHeartbeats 16000000 in
theorem drawMemory (g : Nat) (P n : Int) (w : World) (hs : Src g P w) (hP : P ≤ 800000) (hn : n ≤ 1000000) :
    Calls Try.prog 51 #[.pointer (some ⟨g, 0, none⟩), .int .i64 n] w (DrawnM g (P + 300) w) := by
  have hg := hs.lt
  go_enter Try.func51, Try.ntmps51
  have S := SepM.begin (fun b => b = g) w (fun b h => h ▸ hg)
  replace S : SepM (fun b => b = g) w (w.alloc (.cells #[.slice none 0 0, .slice none 0 0] 28)) [plBox w.heap.size #[.slice none 0 0, .slice none 0 0] 28] := S.alloc_at (by simp) _ _
  replace S : SepM (fun b => b = g) w ((w.alloc (.cells #[.slice none 0 0, .slice none 0 0] 28)).alloc (.cells #[] 3)) [plRow 3 1 encInt1 (.slice (some ⟨(w.heap.size + 1), 0, none⟩) 0 0) [], plBox w.heap.size #[.slice none 0 0, .slice none 0 0] 28] := S.lit0 (by simp) _ _ _
  replace S : SepM (fun b => b = g) w (((w.alloc (.cells #[.slice none 0 0, .slice none 0 0] 28)).alloc (.cells #[] 3)).alloc (.cells #[] 3)) [plRow 3 1 encInt1 (.slice (some ⟨(w.heap.size + 2), 0, none⟩) 0 0) [], plRow 3 1 encInt1 (.slice (some ⟨(w.heap.size + 1), 0, none⟩) 0 0) [], plBox w.heap.size #[.slice none 0 0, .slice none 0 0] 28] := S.lit0 (by simp) _ _ _
  replace S : SepM (fun b => b = g) w ((((w.alloc (.cells #[.slice none 0 0, .slice none 0 0] 28)).alloc (.cells #[] 3)).alloc (.cells #[] 3)).alloc (.cells #[.slice (some ⟨w.heap.size + 2, 0, none⟩) 0 0] 22)) [plRow 22 1 encSl (.slice (some ⟨(w.heap.size + 3), 0, none⟩) 1 1) ([⟨some ⟨w.heap.size + 2, 0, none⟩, 0, 0⟩] : List Sl), plRow 3 1 encInt1 (.slice (some ⟨(w.heap.size + 2), 0, none⟩) 0 0) [], plRow 3 1 encInt1 (.slice (some ⟨(w.heap.size + 1), 0, none⟩) 0 0) [], plBox w.heap.size #[.slice none 0 0, .slice none 0 0] 28] := S.lit (by simp) _ _ encSl_len ([⟨some ⟨w.heap.size + 2, 0, none⟩, 0, 0⟩] : List Sl) rfl rfl (by omega)
  replace S : SepM (fun b => b = g) w (((((w.alloc (.cells #[.slice none 0 0, .slice none 0 0] 28)).alloc (.cells #[] 3)).alloc (.cells #[] 3)).alloc (.cells #[.slice (some ⟨w.heap.size + 2, 0, none⟩) 0 0] 22)).alloc (.cells #[.slice (some ⟨w.heap.size + 1, 0, none⟩) 0 0, .slice (some ⟨w.heap.size + 3, 0, none⟩) 1 1] 28)) [plBox (w.heap.size + 4) #[.slice (some ⟨w.heap.size + 1, 0, none⟩) 0 0, .slice (some ⟨w.heap.size + 3, 0, none⟩) 1 1] 28, plRow 22 1 encSl (.slice (some ⟨(w.heap.size + 3), 0, none⟩) 1 1) ([⟨some ⟨w.heap.size + 2, 0, none⟩, 0, 0⟩] : List Sl), plRow 3 1 encInt1 (.slice (some ⟨(w.heap.size + 2), 0, none⟩) 0 0) [], plRow 3 1 encInt1 (.slice (some ⟨(w.heap.size + 1), 0, none⟩) 0 0) [], plBox w.heap.size #[.slice none 0 0, .slice none 0 0] 28] := S.alloc_at (by simp) _ _
  have hs1 : Src g P (((((w.alloc (.cells #[.slice none 0 0, .slice none 0 0] 28)).alloc (.cells #[] 3)).alloc (.cells #[] 3)).alloc (.cells #[.slice (some ⟨w.heap.size + 2, 0, none⟩) 0 0] 22)).alloc (.cells #[.slice (some ⟨w.heap.size + 1, 0, none⟩) 0 0, .slice (some ⟨w.heap.size + 3, 0, none⟩) 1 1] 28)) := hs.ext ((((((Ext.refl w).alloc _).alloc _).alloc _).alloc _).alloc _)
  go_wp2_with fail
  generalize (((((w.alloc (.cells #[.slice none 0 0, .slice none 0 0] 28)).alloc (.cells #[] 3)).alloc (.cells #[] 3)).alloc (.cells #[.slice (some ⟨w.heap.size + 2, 0, none⟩) 0 0] 22)).alloc (.cells #[.slice (some ⟨w.heap.size + 1, 0, none⟩) 0 0, .slice (some ⟨w.heap.size + 3, 0, none⟩) 1 1] 28)) = w1 at *
  have S2 := S.tabOf1 1 2 (s := ⟨some ⟨w.heap.size + 2, 0, none⟩, 0, 0⟩) (t := []) rfl rfl (by omega)
  have S3 : SepM (fun b => b = g) w w1 [plTab (.slice (some ⟨w.heap.size + 3, 0, none⟩) 1 1) [⟨some ⟨w.heap.size + 2, 0, none⟩, 0, 0⟩] [[]], plRow 3 1 encInt1 (.slice (some ⟨w.heap.size + 1, 0, none⟩) 0 0) [], plBox (w.heap.size + 4) #[.slice (some ⟨w.heap.size + 1, 0, none⟩) 0 0, .slice (some ⟨w.heap.size + 3, 0, none⟩) 1 1] 28, plBox w.heap.size #[.slice none 0 0, .slice none 0 0] 28] :=
    S2.perm ((List.Perm.swap _ _ _).trans (List.Perm.cons _ (List.Perm.swap _ _ _)))
  clear S S2
  refine (pick_any g P 5 _ hs1 (by omega)).mono ?_
  rintro e w2 ⟨v, rfl, ⟨q, rfl, q0, q1, _⟩, hs2, hS⟩
  have S := S3.other (Chg.of_step hS)
  have q5 : q < 5 := q1 (by omega)
  clear S3 hS hs1 hs q1
  have hBg : w.heap.size + 4 ≠ g := by omega
  have hBl : w.heap.size ≤ w.heap.size + 4 := by omega
  generalize w.heap.size + 4 = B at *
  obtain ⟨kq, rfl⟩ : ∃ k : Nat, q = k := ⟨q.toNat, by omega⟩
  have hk4 : kq ≤ 4 := by omega
  clear q0 q5
  go_wp2
  go_loopw [6] (fun i wr => ∃ (k : Nat) (F t : List Int) (af : Option Addr) (cf gT cT : Nat) (s : Sl), k + F.length ≤ 4 ∧ k + t.length ≤ 4 ∧ i = .int .i64 k ∧ F.length ≤ cf ∧ Src g (P + 61 - 15 * (k : Int)) wr ∧ SepM (fun b => b = g) w wr [plTab (.slice (some ⟨gT, 0, none⟩) 1 cT) [s] [t], plRow 3 1 encInt1 (.slice af F.length cf) F, plBox B #[.slice af F.length cf, .slice (some ⟨gT, 0, none⟩) 1 cT] 28, plBox w.heap.size #[.slice none 0 0, .slice none 0 0] 28]) (fun i _ => (intOf i).toNat)
  case atStart => exact ⟨kq, [], [], some ⟨w.heap.size + 1, 0, none⟩, 0, w.heap.size + 3, 1, ⟨some ⟨w.heap.size + 2, 0, none⟩, 0, 0⟩, by simp; omega, by simp; omega, rfl, by simp, hs2.mono (by omega), S⟩
  case round =>
    clear S hs2 hk4
    obtain ⟨k, F, t, af, cf, gT, cT, s, hkF, hkt, rfl, hcf, hs3, S⟩ := hrel
    by_cases h0 : 0 < k
    · obtain ⟨m, rfl⟩ : ∃ m, k = m + 1 := ⟨k - 1, by omega⟩
      have h0' : (0 : Int) < ((m + 1 : Nat) : Int) := by omega
      have hw : IntKind.i64.wrap (((m + 1 : Nat) : Int) - 1) = (m : Int) := by rw [show ((m + 1 : Nat) : Int) - 1 = m by omega]; exact IntWalk.i64_in _ (by omega)
      have hBc := (bx (S.box 2 rfl) 0 rfl).1
      have hBc1 := (bx (S.box 2 rfl) 1 rfl).1
      obtain ⟨s0, hs0, hin5⟩ := S.tabInner 0 rfl (k := 0) (t := t) rfl
      obtain rfl : s = s0 := by simpa using hs0
      obtain ⟨gT', cT', s0, hu, hs0', _, _, hTc, hTfz, _⟩ := tab_at (S.at_ 0 rfl) (k := 0) (t := t) rfl
      obtain rfl : s = s0 := by simpa using hs0'
      obtain ⟨rfl, rfl⟩ : gT = gT' ∧ cT = cT' := by simpa using hu
      have hsvn : s.v = .slice s.a t.length s.c := by
        obtain ⟨_, _, hv, _, _, _⟩ := view_owns encInt1_len hin5
        simp only [Sl.v, Value.slice.injEq] at hv ⊢
        exact ⟨trivial, hv.2.1, trivial⟩
      rw [← hsvn] at hTc
      clear hs0 hs0' hu hsvn
      have hgT : w.heap.size ≤ gT ∧ gT < wr.heap.size := S.lt (p := plTab (.slice (some ⟨gT, 0, none⟩) 1 cT) [s] [t]) (by simp) (.inl rfl)
      have hsb : ∀ b, s.v.ownBlock = some b → w.heap.size ≤ b ∧ b ≠ B ∧ b < wr.heap.size ∧ b ≠ gT := fun b hb => by
        have ho : (plTab (.slice (some ⟨gT, 0, none⟩) 1 cT) [s] [t]).own b := .inr ⟨s, by simp, hb⟩
        have h1 := S.lt (p := plTab (.slice (some ⟨gT, 0, none⟩) 1 cT) [s] [t]) (by simp) ho
        refine ⟨h1.1, fun e => S.ne (i := 0) (j := 2) rfl rfl (by omega) ho e, h1.2, fun e => ?_⟩
        subst e
        exact (S.at_ 0 rfl).2.2.2.1 s (by simp) b hb rfl
      have hF4 : F.length ≤ 4 := by omega
      have ht4 : t.length ≤ 4 := by omega
      have h01 : (0 : Int) < 1 := by omega
      go_upto_region 5 with fail
      have hBk : ∀ wv, Chg (fun b => s.v.ownBlock = some b) (World.drew wr) wv → wv.cell? ⟨B, 0, none⟩ = some (.slice af F.length cf) ∧ wv.cell? ⟨B, 1, none⟩ = some (.slice (some ⟨gT, 0, none⟩) 1 cT) ∧ wv.cell? ⟨gT, 0, none⟩ = some s.v := fun wv hc => ⟨cell_chg (show (World.drew wr).cell? _ = _ from hBc) hc (fun h => (hsb B h).2.1 rfl), cell_chg (show (World.drew wr).cell? _ = _ from hBc1) hc (fun h => (hsb B h).2.1 rfl), cell_chg (show (World.drew wr).cell? _ = _ from hTc) hc (fun h => (hsb gT h).2.2.2 rfl)⟩
      refine wp_region_c (V := V5 B gT cT af cf F.length s t w.heap.size wr.heap.size) (Chg (fun b => s.v.ownBlock = some b) (World.drew wr)) (fun i => if i = 12 then some 10 else none) [] 12 1 rfl (by decide) (by kernel_rfl) (by kernel_rfl) (by kernel_rfl) (by kernel_rfl) (Chg.refl _ _) (fun r hr => match r, hr with | 0, _ => ownsRow_ext hin5 (Ext.refl _).drew) ?_ ?_
      · intro i o hi ho vz w4 hvl hI hd hrest
        have hsz : wr.heap.size ≤ w4.heap.size := hI.size
        obtain ⟨cB0, cB1, cT0⟩ := hBk w4 hI
        match vz, hvl with
        | [y0, y1, y2, y3, y4, y5, y6, y7, y8, y9, y10, y11], _ =>
        rcases (show i = 0 ∨ i = 1 ∨ i = 2 ∨ i = 3 ∨ i = 4 ∨ i = 5 ∨ i = 6 ∨ i = 7 ∨ i = 8 ∨ i = 9 ∨ i = 10 ∨ i = 11 by omega) with rfl | rfl | rfl | rfl | rfl | rfl | rfl | rfl | rfl | rfl | rfl | rfl
        all_goals
          simp only [List.getElem?_cons_zero, List.getElem?_cons_succ, Option.some.injEq] at ho
          subst ho
        · clear hd hrest
          simp [putAll, Act.put]
          go_wp2
          exact OneC.mk (V := V5 B gT cT af cf F.length s t w.heap.size wr.heap.size) V5.ext rfl rfl hI (Ext.refl _)
        · have q0 : y0 = .pointer (some ⟨B, 1, none⟩) := hd ⟨0, .data⟩ (by simp) rfl (by decide)
          subst q0
          clear hd hrest
          simp [putAll, Act.put]
          go_wp2
          exact OneC.mk (V := V5 B gT cT af cf F.length s t w.heap.size wr.heap.size) V5.ext rfl rfl hI (Ext.refl _)
        · clear hd hrest
          simp [putAll, Act.put]
          go_wp2
          exact OneC.mk (V := V5 B gT cT af cf F.length s t w.heap.size wr.heap.size) V5.ext rfl rfl hI (Ext.refl _)
        · have q2 : y2 = .pointer (some ⟨B, 1, none⟩) := hd ⟨2, .data⟩ (by simp) rfl (by decide)
          subst q2
          clear hd hrest
          simp [putAll, Act.put]
          go_wp2
          exact OneC.mk (V := V5 B gT cT af cf F.length s t w.heap.size wr.heap.size) V5.ext rfl rfl hI (Ext.refl _)
        · have q3 : y3 = .slice (some ⟨gT, 0, none⟩) 1 cT := hd ⟨3, .data⟩ (by simp) rfl (by decide)
          subst q3
          clear hd hrest
          simp [putAll, Act.put]
          go_wp2
          exact OneC.mk (V := V5 B gT cT af cf F.length s t w.heap.size wr.heap.size) V5.ext rfl rfl hI (Ext.refl _)
        · have q4 : y4 = .pointer (some ⟨gT, 0, none⟩) := hd ⟨4, .data⟩ (by simp) rfl (by decide)
          subst q4
          clear hd hrest
          simp [putAll, Act.put]
          go_wp2
          exact OneC.mk (V := V5 B gT cT af cf F.length s t w.heap.size wr.heap.size) V5.ext rfl rfl hI (Ext.refl _)
        · clear hd hrest
          simp [putAll, Act.put]
          go_wp2
          exact OneC.mk (V := V5 B gT cT af cf F.length s t w.heap.size wr.heap.size) V5.ext rfl rfl hI (Ext.refl _)
        · have q6 : y6 = .pointer (some ⟨B, 0, none⟩) := hd ⟨6, .data⟩ (by simp) rfl (by decide)
          subst q6
          clear hd hrest
          simp [putAll, Act.put]
          go_wp2
          exact OneC.mk (V := V5 B gT cT af cf F.length s t w.heap.size wr.heap.size) V5.ext rfl rfl hI (Ext.refl _)
        · have q7 : y7 = .slice af F.length cf := hd ⟨7, .data⟩ (by simp) rfl (by decide)
          subst q7
          clear hd hrest
          simp [putAll, Act.put]
          go_wp2
          exact OneC.mk (V := V5 B gT cT af cf F.length s t w.heap.size wr.heap.size) V5.ext rfl rfl hI (Ext.refl _)
        · have q8 : y8 = .int .i64 (F.length : Int) := hd ⟨8, .data⟩ (by simp) rfl (by decide)
          subst q8
          clear hd hrest
          simp [putAll, Act.put]
          go_wp2
          exact OneC.mk (V := V5 B gT cT af cf F.length s t w.heap.size wr.heap.size) V5.ext rfl ⟨_, rfl, hsz, heap_alloc_new w4 _⟩ (hI.trans (Chg.of_ext ((Ext.refl w4).alloc _))) ((Ext.refl _).alloc _)
        · have q5 : s.v = y5 := (show y5 = s.v from hd ⟨5, .data⟩ (by simp) rfl (by decide)).symm
          obtain ⟨g9, q9, hg1, hg2⟩ : ∃ g9, y9 = .slice (some ⟨g9, 0, none⟩) 1 1 ∧ wr.heap.size ≤ g9 ∧ w4.heap[g9]? = some (.cells #[.int .i64 (F.length : Int)] 3) := hd ⟨9, .data⟩ (by simp) rfl (by decide)
          have hrow : w4.ownsRow w.heap.size 3 1 s.v t.length (t.flatMap encInt1) := hrest 0 (by omega) (.inr rfl)
          have hrd : Rd 1 encInt1 w4 (some ⟨g9, 0, none⟩) [(F.length : Int)] := rd_lit [(F.length : Int)] encInt1_len hg2 rfl
          subst q5 q9
          clear hd hrest
          simp [putAll, Act.put]
          refine wpList_append_b rfl _ _ 22 rfl w.heap.size 3 _ 1 _ Try.underlying22 infoInt rfl (by decide) encInt1_len encInt1_one _ t.length t rfl hrow rfl (some ⟨g9, 0, none⟩) 1 1 [(F.length : Int)] rfl rfl hrd (by omega) (by omega) (by omega) ?_
          intro v5 w5 ho5 hgr hblk
          have hch : Chg (fun b => s.v.ownBlock = some b) w4 w5 := Chg.of_grown hgr
          have hnB : ∀ b, wr.heap.size ≤ b → ¬ s.v.ownBlock = some b := fun b h1 h2 => by
            have := (hsb b h2).2.2.1
            omega
          clear hrow hrd hgr
          go_wp2
          refine ⟨rfl, _, rfl, ⟨ho5, fun b hb => (hblk b hb).imp id (fun h => by omega)⟩, hI.trans hch, fun i u hi hne hcon hnd hnc hv => ?_⟩
          match i with
          | 0 | 1 | 2 | 3 | 4 | 5 | 6 | 7 | 8 | 11 => exact hv
          | 9 => obtain ⟨g1, h1, h2, h3⟩ := hv; exact ⟨g1, h1, h2, heap_chg h3 hch (hnB g1 h2)⟩
          | 10 => exact absurd rfl hne
          | 12 => exact absurd rfl hcon
          | (n + 13) => trivial
        · have q1 : y1 = .slice (some ⟨gT, 0, none⟩) 1 cT := hd ⟨1, .data⟩ (by simp) rfl (by decide)
          subst q1
          clear hd hrest
          simp [putAll, Act.put]
          go_wp2
          exact OneC.mk (V := V5 B gT cT af cf F.length s t w.heap.size wr.heap.size) V5.ext rfl rfl hI (Ext.refl _)
      intro vz w11 hvl hI hV _
      match vz, hvl with
      | [y0, y1, y2, y3, y4, y5, y6, y7, y8, y9, y10, y11], _ =>
      obtain ⟨e10, e10b⟩ : w11.ownsRow w.heap.size 3 1 y10 (t ++ [(F.length : Int)]).length ((t ++ [(F.length : Int)]).flatMap encInt1) ∧ ∀ b, y10.ownBlock = some b → s.v.ownBlock = some b ∨ wr.heap.size ≤ b := hV 10 (by omega) rfl
      have e11 : y11 = .pointer (some ⟨gT, 0, none⟩) := hV 11 (by omega) rfl
      obtain ⟨_, _, cT11⟩ := hBk w11 hI
      clear hV hBk
      subst e11
      obtain ⟨t2, ht2⟩ : ∃ t2, t2 = t ++ [(F.length : Int)] := ⟨_, rfl⟩
      rw [← ht2] at e10
      have ht2l : t2.length = t.length + 1 := by rw [ht2]; simp
      have Ht2l := Lib.hid ht2l
      clear ht2 ht2l
      obtain ⟨a10, c10, hv10, hk10, _, _⟩ := view_owns encInt1_len e10
      subst hv10
      simp only [putAll, Act.put, List.take_succ_cons, List.take_zero, List.drop_succ_cons, List.drop_zero]
      simp
      have hTf : w11.frozen? ⟨gT, 0, none⟩ = false := by
        rw [World.frozen?_of_block (w := World.drew wr) (hI.block gT (show gT < wr.heap.size from hgT.2) (fun h => (hsb gT h).2.2.2 rfl))]
        exact hTfz
      have S2 := (S.drew).tabGrow 0 rfl (k := 0) (s := s) (s' := ⟨a10, t2.length, c10⟩) rfl hI e10 e10b
      have hs4 := ((hs3.ext (Ext.refl wr).drew).row hI.grown (fun i h => by have := (hsb i h).1; omega)).setCell (p := ⟨gT, 0, none⟩) (by show g < gT; omega) (.slice a10 t2.length c10)
      clear hs3 hBc hBc1 hTc hTfz hin5 hsb e10 e10b hI S
      go_upto_region 6 with fail
      replace S2 : SepM (fun b => b = g) w (w11.setCell ⟨gT, 0, none⟩ (.slice a10 t2.length c10)) [plTab (.slice (some ⟨gT, 0, none⟩) 1 cT) [⟨a10, t2.length, c10⟩] [t2], plRow 3 1 encInt1 (.slice af F.length cf) F, plBox B #[.slice af F.length cf, .slice (some ⟨gT, 0, none⟩) 1 cT] 28, plBox w.heap.size #[.slice none 0 0, .slice none 0 0] 28] := S2
      clear cT11 hTf
      generalize (w11.setCell ⟨gT, 0, none⟩ (.slice a10 t2.length c10)) = w6 at *
      have S := S2
      clear S2
      have hBc := (bx (S.box 2 rfl) 0 rfl).1
      have hin := S.row 1 rfl
      have hrowb := S.boxNe (i := 1) (j := 2) rfl rfl (by omega)
      have hgb : g < w.heap.size := hg
      have hb0 : w.heap.size ≤ w6.heap.size := S.chg.size
      obtain ⟨P1, hP1⟩ : ∃ P1, P1 = P + 61 - 15 * ((m + 1 : Nat) : Int) := ⟨_, rfl⟩
      have hs3 : Src g P1 w6.drew := by rw [hP1]; exact hs4.ext (Ext.refl _).drew
      clear hs4
      have hP1a : P1 ≤ 900000 := by omega
      have hP1b : P1 + 14 ≤ P + 61 - 15 * (m : Int) := by omega
      clear hP1
      have hfb : ∀ b, (Value.slice af F.length cf).ownBlock = some b → w.heap.size ≤ b ∧ b < w6.heap.size ∧ b ≠ B := hrowb
      have hBk : ∀ wv, Chg (fun b => b = g ∨ (Value.slice af F.length cf).ownBlock = some b) (World.drew w6) wv → wv.cell? ⟨B, 0, none⟩ = some (.slice af F.length cf) := fun wv hc => cell_chg (show (World.drew w6).cell? _ = _ from hBc) hc (fun h => h.elim (fun h => hBg h) (fun h => (hfb B h).2.2 rfl))
      refine wp_region_d (V := V6 g B w.heap.size w6.heap.size af F.length cf F) (fun _ => []) (fun k wv => Chg (fun b => b = g ∨ (Value.slice af F.length cf).ownBlock = some b) (World.drew w6) wv ∧ Src g (P1 + (k : Int)) wv) (fun i => if i = 7 then some 5 else none) [] 7 1 rfl (by decide) (by kernel_rfl) (by kernel_rfl) (by kernel_rfl) (by kernel_rfl) (by kernel_rfl) ⟨Chg.refl _ _, by simpa using hs3⟩ (fun r hr => match r, hr with | 0, _ => ownsRow_ext hin (Ext.refl _).drew) ?_ ?_
      · intro i o hi ho k hk vz w4 hvl hI0 hd hrest
        obtain ⟨hI, hsk⟩ := hI0
        have hsk1 : Src g (P1 + ((k + 1 : Nat) : Int)) w4 := hsk.mono (by omega)
        have hsz : w6.heap.size ≤ w4.heap.size := hI.size
        match vz, hvl with
        | [y0, y1, y2, y3, y4, y5, y6], _ =>
        rcases (show i = 0 ∨ i = 1 ∨ i = 2 ∨ i = 3 ∨ i = 4 ∨ i = 5 ∨ i = 6 by omega) with rfl | rfl | rfl | rfl | rfl | rfl | rfl
        all_goals
          simp only [List.getElem?_cons_zero, List.getElem?_cons_succ, Option.some.injEq] at ho
          subst ho
        · clear hd hrest
          simp [putAll, Act.put]
          go_wp2
          exact OneD.mk (V := V6 g B w.heap.size w6.heap.size af F.length cf F) V6.ext rfl rfl ⟨hI, hsk1⟩ (Ext.refl _)
        · have q0 : y0 = .pointer (some ⟨B, 0, none⟩) := hd ⟨0, .data⟩ (by simp) rfl (by decide)
          subst q0
          have c0 := hBk w4 hI
          clear hd hrest
          simp [putAll, Act.put]
          go_wp2
          exact OneD.mk (V := V6 g B w.heap.size w6.heap.size af F.length cf F) V6.ext rfl rfl ⟨hI, hsk1⟩ (Ext.refl _)
        · clear hd hrest
          simp [putAll, Act.put]
          go_wp2
          exact OneD.mk (V := V6 g B w.heap.size w6.heap.size af F.length cf F) V6.ext rfl rfl ⟨hI, hsk1⟩ (Ext.refl _)
        · have q0 : y2 = .pointer (some ⟨g, 0, none⟩) := hd ⟨2, .data⟩ (by simp) rfl (by decide)
          clear hd hrest
          subst q0
          simp [putAll, Act.put]
          go_wp2_with fail
          refine (pick_any _ _ 100 _ hsk (by omega)).mono ?_
          rintro e w5 ⟨v5, rfl, ⟨z, rfl, z0, z1, _⟩, hs5, hS5⟩
          have hz := z1 (by omega)
          clear z1
          go_wp2
          exact ⟨rfl, _, rfl, CT.int_mk, ⟨hI.trans ((Chg.of_step hS5).mono (fun b h _ => .inl h)), hs5.mono (by omega)⟩, fun i u us _ _ _ _ _ hv => V6.step hgb hb0 i u us _ _ hv hS5⟩
        · have q0 : (CT.int 0 99).has y3 := hd ⟨3, .data⟩ (by simp) rfl (by decide)
          obtain ⟨z, rfl, _, _⟩ := q0
          clear hd hrest
          simp [putAll, Act.put]
          go_wp2
          exact OneD.mk (V := V6 g B w.heap.size w6.heap.size af F.length cf F) V6.ext rfl ⟨_, z, rfl, hsz, heap_alloc_new w4 _⟩ ⟨(hI.trans (Chg.of_ext ((Ext.refl w4).alloc _))), hsk1.ext ((Ext.refl _).alloc _)⟩ ((Ext.refl _).alloc _)
        · have q0 : .slice af F.length cf = y1 := (show y1 = .slice af F.length cf from hd ⟨1, .data⟩ (by simp) rfl (by decide)).symm
          obtain ⟨g9, x, q1, hg1, hg2⟩ : ∃ g9, ∃ x : Int, y4 = .slice (some ⟨g9, 0, none⟩) 1 1 ∧ w6.heap.size ≤ g9 ∧ w4.heap[g9]? = some (.cells #[.int .i64 x] 3) := hd ⟨4, .data⟩ (by simp) rfl (by decide)
          have hrow : w4.ownsRow w.heap.size 3 1 (.slice af F.length cf) F.length (F.flatMap encInt1) := hrest 0 (by omega) (.inr rfl)
          have hrd : Rd 1 encInt1 w4 (some ⟨g9, 0, none⟩) [x] := rd_lit [x] encInt1_len hg2 rfl
          subst q0 q1
          clear hd hrest
          simp [putAll, Act.put]
          refine wpList_append_b rfl _ _ 22 rfl w.heap.size 3 _ 1 _ Try.underlying22 infoInt rfl (by decide) encInt1_len encInt1_one _ F.length F rfl hrow rfl (some ⟨g9, 0, none⟩) 1 1 [x] rfl rfl hrd (by omega) (by omega) (by omega) ?_
          intro v5 w5 ho5 hgr hblk
          have hch : Chg (fun b => (Value.slice af F.length cf).ownBlock = some b) w4 w5 := Chg.of_grown hgr
          have hs5 := hsk1.row hgr (fun i h => by have := hfb i h; omega)
          have hnB : ∀ b, w6.heap.size ≤ b → ¬ (Value.slice af F.length cf).ownBlock = some b := fun b h1 h2 => by
            have := hfb b h2
            omega
          clear hrow hrd hgr
          go_wp2
          refine ⟨rfl, _, rfl, ⟨x, ho5, fun b hb => (hblk b hb).imp id (fun h => by omega)⟩, ⟨hI.trans (hch.mono (fun b h _ => .inr h)), hs5⟩, fun i u us hi hne hcon hnd hnc hv => ?_⟩
          match i with
          | 0 => exact hv
          | 1 => exact hv
          | 2 => exact hv
          | 3 => exact hv
          | 4 => obtain ⟨g1, z1, h1, h2, h3⟩ := hv; exact ⟨g1, z1, h1, h2, heap_chg h3 hch (hnB g1 h2)⟩
          | 5 => exact absurd rfl hne
          | 6 => exact hv
          | 7 => exact absurd rfl hcon
          | (n + 8) => trivial
        · clear hd hrest
          simp [putAll, Act.put]
          go_wp2
          exact OneD.mk (V := V6 g B w.heap.size w6.heap.size af F.length cf F) V6.ext rfl rfl ⟨hI, hsk1⟩ (Ext.refl _)
      intro vz w11 hvl hI0 hV _
      obtain ⟨hI, hs4⟩ := hI0
      match vz, hvl with
      | [y0, y1, y2, y3, y4, y5, y6], _ =>
      obtain ⟨x, e8, e8b⟩ : ∃ x : Int, w11.ownsRow w.heap.size 3 1 y5 (F ++ [x]).length ((F ++ [x]).flatMap encInt1) ∧ ∀ b, y5.ownBlock = some b → (Value.slice af F.length cf).ownBlock = some b ∨ w6.heap.size ≤ b := hV 5 (by omega) rfl
      have e9 : y6 = .pointer (some ⟨B, 0, none⟩) := hV 6 (by omega) rfl
      have hB11 := hBk w11 hI
      clear hV hBk
      subst e9
      obtain ⟨F2, hF2⟩ : ∃ F2, F2 = F ++ [x] := ⟨_, rfl⟩
      rw [← hF2] at e8
      have hF2l : F2.length = F.length + 1 := by rw [hF2]; simp
      have HF2l := Lib.hid hF2l
      clear hF2 hF2l
      obtain ⟨a8, c8, hv8, hk8, _, _⟩ := view_owns encInt1_len e8
      subst hv8
      simp only [putAll, Act.put, List.take_succ_cons, List.take_zero, List.drop_succ_cons, List.drop_zero]
      simp
      have S2 := (S.drew).putM 1 rfl (q := plRow 3 1 encInt1 (.slice a8 F2.length c8) F2) hI (ownsRow_base e8 (Nat.zero_le _)) e8b
      replace S : SepM (fun b => b = g) w w11 [plTab (.slice (some ⟨gT, 0, none⟩) 1 cT) [⟨a10, t2.length, c10⟩] [t2], plRow 3 1 encInt1 (.slice a8 F2.length c8) F2, plBox B #[.slice af F.length cf, .slice (some ⟨gT, 0, none⟩) 1 cT] 28, plBox w.heap.size #[.slice none 0 0, .slice none 0 0] 28] := S2
      clear S2 hBc hin hrowb hs3 hI e8 e8b hB11 hfb
      obtain ⟨mbc0, mbf0⟩ : w11.cell? ⟨B, 0, none⟩ = some (.slice af F.length cf) ∧ w11.frozen? ⟨B, 0, none⟩ = false := bx (S.box 2 rfl) 0 rfl
      obtain ⟨mbc1, mbf1⟩ : w11.cell? ⟨B, 1, none⟩ = some (.slice (some ⟨gT, 0, none⟩) 1 cT) ∧ w11.frozen? ⟨B, 1, none⟩ = false := bx (S.box 2 rfl) 1 rfl
      go_wp2
      clear mbc0 mbf0 mbc1 mbf1
      replace S : SepM (fun b => b = g) w (w11.setCell ⟨B, 0, none⟩ (.slice a8 F2.length c8)) [plTab (.slice (some ⟨gT, 0, none⟩) 1 cT) [⟨a10, t2.length, c10⟩] [t2], plRow 3 1 encInt1 (.slice a8 F2.length c8) F2, plBox B #[.slice a8 F2.length c8, .slice (some ⟨gT, 0, none⟩) 1 cT] 28, plBox w.heap.size #[.slice none 0 0, .slice none 0 0] 28] := S.set 2 rfl 0 _
      have hs5 := hs4.setCell (p := ⟨B, 0, none⟩) (by show g < B; omega) (.slice a8 F2.length c8)
      go_roundw
      case rel => exact ⟨m, F2, t2, a8, c8, gT, cT, ⟨a10, t2.length, c10⟩, by have := HF2l.out; omega, by have := Ht2l.out; omega, by go_num, hk8, hs5.mono (by omega), S⟩
      case measure => simp [intOf]
    · obtain rfl : k = 0 := by omega
      clear h0
      go_wp2_with fail
      refine (pick_any g _ 7 _ hs3 (by omega)).mono ?_
      rintro e w2 ⟨v, rfl, ⟨q, rfl, q0, q1, _⟩, hs4, hS⟩
      have q7 : q < 7 := q1 (by omega)
      replace S : SepM (fun b => b = g) w w2 [plTab (.slice (some ⟨gT, 0, none⟩) 1 cT) [s] [t], plRow 3 1 encInt1 (.slice af F.length cf) F, plBox B #[.slice af F.length cf, .slice (some ⟨gT, 0, none⟩) 1 cT] 28, plBox w.heap.size #[.slice none 0 0, .slice none 0 0] 28] := (S.other (Chg.of_step hS))
      clear hS q1 hs3
      obtain ⟨kq, rfl⟩ : ∃ k : Nat, q = k := ⟨q.toNat, by omega⟩
      have hk6 : kq ≤ 6 := by omega
      clear q0 q7
      go_wp2
      go_loopw [7, 8, 9, 10, 11, 12] (fun i _ _ _ _ _ wr => ∃ (k : Nat) (F : List Int) (T : List (List Int)) (af : Option Addr) (cf : Nat) (at0 : Option Addr) (ct : Nat) (vs : List Sl), k ≤ 6 ∧ Small F T ∧ i = .int .i64 k ∧ F.length ≤ cf ∧ T.length ≤ ct ∧ Src g (P + 250 - 20 * (k : Int)) wr ∧ SepM (fun b => b = g) w wr [plTab (.slice at0 T.length ct) vs T, plRow 3 1 encInt1 (.slice af F.length cf) F, plBox B #[.slice af F.length cf, .slice at0 T.length ct] 28, plBox w.heap.size #[.slice none 0 0, .slice none 0 0] 28]) (fun i _ _ _ _ _ _ => (intOf i).toNat)
      case atStart =>
        have hct : 1 ≤ cT := by
          obtain ⟨_, _, hu, hc, _, _⟩ := S.tab 0 rfl
          simp only [Value.slice.injEq] at hu
          rw [hu.2.2]; exact hc
        exact ⟨kq, F, [t], af, cf, some ⟨gT, 0, none⟩, cT, [s], hk6, ⟨by omega, by simp, fun u hu => by rw [List.mem_singleton.1 hu]; omega⟩, rfl, hcf, hct, hs4.mono (by omega), S⟩
      case round =>
        clear S hs4 hk6 hkF hkt hcf
        clear F t af cf gT cT s
        obtain ⟨k, F, T, af, cf, at0, ct, vs, hk6, hsm, rfl, hcf, hct, hs3, S⟩ := hrel
        have hF13 : F.length ≤ 13 := hsm.1
        have hT5 : T.length ≤ 5 := hsm.2.1
        have Hsm := Lib.hid hsm
        clear hsm
        by_cases h0 : 0 < k
        · obtain ⟨m, rfl⟩ : ∃ m, k = m + 1 := ⟨k - 1, by omega⟩
          have h0' : (0 : Int) < ((m + 1 : Nat) : Int) := by omega
          have hw : IntKind.i64.wrap (((m + 1 : Nat) : Int) - 1) = (m : Int) := by rw [show ((m + 1 : Nat) : Int) - 1 = m by omega]; exact IntWalk.i64_in _ (by omega)
          obtain ⟨mbc0, mbf0⟩ : wr.cell? ⟨B, 0, none⟩ = some (.slice af F.length cf) ∧ wr.frozen? ⟨B, 0, none⟩ = false := bx (S.box 2 rfl) 0 rfl
          obtain ⟨mbc1, mbf1⟩ : wr.cell? ⟨B, 1, none⟩ = some (.slice at0 T.length ct) ∧ wr.frozen? ⟨B, 1, none⟩ = false := bx (S.box 2 rfl) 1 rfl
          go_wp2_with fail
          clear mbc0 mbf0 mbc1 mbf1
          refine (pick_any g _ (T.length : Int) _ hs3 (by omega)).mono ?_
          rintro e w4 ⟨v, rfl, ⟨who, rfl, _, _, _⟩, hs4, hS⟩
          replace S : SepM (fun b => b = g) w w4 [plTab (.slice at0 T.length ct) vs T, plRow 3 1 encInt1 (.slice af F.length cf) F, plBox B #[.slice af F.length cf, .slice at0 T.length ct] 28, plBox w.heap.size #[.slice none 0 0, .slice none 0 0] 28] := (S.other (Chg.of_step hS))
          clear hS hs3
          go_wp2_with fail
          refine (pick_any g _ 3 _ hs4 (by omega)).mono ?_
          rintro e w5 ⟨v, rfl, ⟨z, rfl, z0, z1, _⟩, hs5, hS⟩
          replace S : SepM (fun b => b = g) w w5 [plTab (.slice at0 T.length ct) vs T, plRow 3 1 encInt1 (.slice af F.length cf) F, plBox B #[.slice af F.length cf, .slice at0 T.length ct] 28, plBox w.heap.size #[.slice none 0 0, .slice none 0 0] 28] := (S.other (Chg.of_step hS))
          clear hS hs4 z1 z0
          by_cases hz : z = 0
          · have tz : (z == 0) = true := by simpa using hz
            clear hz
            obtain ⟨mbc0, mbf0⟩ : w5.cell? ⟨B, 0, none⟩ = some (.slice af F.length cf) ∧ w5.frozen? ⟨B, 0, none⟩ = false := bx (S.box 2 rfl) 0 rfl
            obtain ⟨mbc1, mbf1⟩ : w5.cell? ⟨B, 1, none⟩ = some (.slice at0 T.length ct) ∧ w5.frozen? ⟨B, 1, none⟩ = false := bx (S.box 2 rfl) 1 rfl
            go_wp2_with fail
            clear mbc0 mbf0 mbc1 mbf1
            refine (specForkMemory af cf F at0 ct T who w5 (by omega) (by omega) (S.rd 1 encInt1_len rfl rfl) (S.rdt 0 rfl)).mono ?_
            rintro e w6 ⟨a1, c1, F2, a2, c2, vs2, T2, ok2, rfl, hR, U⟩
            have hsm2 := forkR_small hR
            have hs6 := hs5.ext U.ext
            have hc1 := owns_cap (U.row 1 rfl)
            have hc2 := tab_cap (U.at_ 0 rfl)
            replace S : SepM (fun b => b = g) w w6 [plTab (.slice a2 T2.length c2) vs2 T2, plRow 3 1 encInt1 (.slice a1 F2.length c1) F2, plTab (.slice at0 T.length ct) vs T, plRow 3 1 encInt1 (.slice af F.length cf) F, plBox B #[.slice af F.length cf, .slice at0 T.length ct] 28, plBox w.heap.size #[.slice none 0 0, .slice none 0 0] 28] := S.call U
            clear U
            clear hR hs5
            replace S : SepM (fun b => b = g) w (w6.alloc (.cells #[.slice a1 F2.length c1, .slice a2 T2.length c2] 28)) [plBox w6.heap.size #[.slice a1 F2.length c1, .slice a2 T2.length c2] 28, plTab (.slice a2 T2.length c2) vs2 T2, plRow 3 1 encInt1 (.slice a1 F2.length c1) F2, plTab (.slice at0 T.length ct) vs T, plRow 3 1 encInt1 (.slice af F.length cf) F, plBox B #[.slice af F.length cf, .slice at0 T.length ct] 28, plBox w.heap.size #[.slice none 0 0, .slice none 0 0] 28] := S.alloc_at (by simp) _ _
            have hs7 := hs6.ext ((Ext.refl w6).alloc (.cells #[.slice a1 F2.length c1, .slice a2 T2.length c2] 28))
            clear hs6
            replace S : SepM (fun b => b = g) w (w6.alloc (.cells #[.slice a1 F2.length c1, .slice a2 T2.length c2] 28)) [plBox w6.heap.size #[.slice a1 F2.length c1, .slice a2 T2.length c2] 28, plTab (.slice a2 T2.length c2) vs2 T2, plRow 3 1 encInt1 (.slice a1 F2.length c1) F2, plRow 3 1 encInt1 (.slice af F.length cf) F, plBox B #[.slice af F.length cf, .slice at0 T.length ct] 28, plBox w.heap.size #[.slice none 0 0, .slice none 0 0] 28] := S.drop 3
            replace S : SepM (fun b => b = g) w (w6.alloc (.cells #[.slice a1 F2.length c1, .slice a2 T2.length c2] 28)) [plBox w6.heap.size #[.slice a1 F2.length c1, .slice a2 T2.length c2] 28, plTab (.slice a2 T2.length c2) vs2 T2, plRow 3 1 encInt1 (.slice a1 F2.length c1) F2, plBox B #[.slice af F.length cf, .slice at0 T.length ct] 28, plBox w.heap.size #[.slice none 0 0, .slice none 0 0] 28] := S.drop 3
            obtain ⟨mbc0, mbf0⟩ : (w6.alloc (.cells #[.slice a1 F2.length c1, .slice a2 T2.length c2] 28)).cell? ⟨B, 0, none⟩ = some (.slice af F.length cf) ∧ (w6.alloc (.cells #[.slice a1 F2.length c1, .slice a2 T2.length c2] 28)).frozen? ⟨B, 0, none⟩ = false := bx (S.box 3 rfl) 0 rfl
            obtain ⟨mbc1, mbf1⟩ : (w6.alloc (.cells #[.slice a1 F2.length c1, .slice a2 T2.length c2] 28)).cell? ⟨B, 1, none⟩ = some (.slice at0 T.length ct) ∧ (w6.alloc (.cells #[.slice a1 F2.length c1, .slice a2 T2.length c2] 28)).frozen? ⟨B, 1, none⟩ = false := bx (S.box 3 rfl) 1 rfl
            go_wp2
            clear mbc0 mbf0 mbc1 mbf1
            replace S : SepM (fun b => b = g) w ((w6.alloc (.cells #[.slice a1 F2.length c1, .slice a2 T2.length c2] 28)).setCell ⟨B, 0, none⟩ (.slice a1 F2.length c1)) [plBox w6.heap.size #[.slice a1 F2.length c1, .slice a2 T2.length c2] 28, plTab (.slice a2 T2.length c2) vs2 T2, plRow 3 1 encInt1 (.slice a1 F2.length c1) F2, plBox B #[.slice a1 F2.length c1, .slice at0 T.length ct] 28, plBox w.heap.size #[.slice none 0 0, .slice none 0 0] 28] := S.set 3 rfl 0 _
            replace S : SepM (fun b => b = g) w (((w6.alloc (.cells #[.slice a1 F2.length c1, .slice a2 T2.length c2] 28)).setCell ⟨B, 0, none⟩ (.slice a1 F2.length c1)).setCell ⟨B, 1, none⟩ (.slice a2 T2.length c2)) [plBox w6.heap.size #[.slice a1 F2.length c1, .slice a2 T2.length c2] 28, plTab (.slice a2 T2.length c2) vs2 T2, plRow 3 1 encInt1 (.slice a1 F2.length c1) F2, plBox B #[.slice a1 F2.length c1, .slice a2 T2.length c2] 28, plBox w.heap.size #[.slice none 0 0, .slice none 0 0] 28] := S.set 3 rfl 1 _
            replace S : SepM (fun b => b = g) w (((w6.alloc (.cells #[.slice a1 F2.length c1, .slice a2 T2.length c2] 28)).setCell ⟨B, 0, none⟩ (.slice a1 F2.length c1)).setCell ⟨B, 1, none⟩ (.slice a2 T2.length c2)) [plTab (.slice a2 T2.length c2) vs2 T2, plRow 3 1 encInt1 (.slice a1 F2.length c1) F2, plBox B #[.slice a1 F2.length c1, .slice a2 T2.length c2] 28, plBox w.heap.size #[.slice none 0 0, .slice none 0 0] 28] := S.drop 0
            have hs8 := (hs7.setCell (p := ⟨B, 0, none⟩) (by show g < B; omega) (.slice a1 F2.length c1)).setCell (p := ⟨B, 1, none⟩) (by show g < B; omega) (.slice a2 T2.length c2)
            go_roundw
            case rel => exact ⟨m, F2, T2, a1, c1, a2, c2, vs2, by omega, hsm2, by go_num, hc1, hc2, hs8.mono (by omega), S⟩
            case measure => simp [intOf]
          · have tz : (z == 0) = false := by simpa using hz
            clear hz
            have hBc := (bx (S.box 2 rfl) 0 rfl).1
            have hBc1 := (bx (S.box 2 rfl) 1 rfl).1
            have hgw := hs5.lt
            obtain ⟨P1, hP1⟩ : ∃ P1, P1 = P + 250 - 20 * ((m + 1 : Nat) : Int) + 2 := ⟨_, rfl⟩
            replace hs5 : Src g P1 w5.drew := by rw [hP1]; exact (hs5.mono (by omega)).ext (Ext.refl _).drew
            have hP1a : P1 ≤ 900000 := by omega
            have hP1b : P1 + 14 ≤ P + 250 - 20 * (m : Int) := by omega
            clear hP1
            have hview : ∀ wv, Step g (World.drew w5) wv → Rd 1 encInt1 wv af F ∧ RdT wv at0 T := fun wv hI => ⟨((S.drew).other (Chg.of_step hI)).rd 1 encInt1_len rfl rfl, ((S.drew).other (Chg.of_step hI)).rdt 0 rfl⟩
            go_upto_region 14 with fail
            refine wp_region_d (V := V14 g w5.heap.size af F.length cf at0 T.length ct who) dep14 (fun k wv => Step g (World.drew w5) wv ∧ Src g (P1 + (k : Int)) wv) cons14 [] 12 0 rfl (by decide) (by kernel_rfl) (by kernel_rfl) (by kernel_rfl) (by kernel_rfl) (by kernel_rfl) ⟨Step.refl _ _, by simpa using hs5⟩ (fun r hr => by omega) ?_ ?_
            · intro i o hi ho k hk vz w4 hvl hI0 hd _
              obtain ⟨hI, hsk⟩ := hI0
              have hsk1 : Src g (P1 + ((k + 1 : Nat) : Int)) w4 := hsk.mono (by omega)
              match vz, hvl with
              | [y0, y1, y2, y3, y4, y5, y6, y7, y8, y9, y10, y11], _ =>
              rcases (show i = 0 ∨ i = 1 ∨ i = 2 ∨ i = 3 ∨ i = 4 ∨ i = 5 ∨ i = 6 ∨ i = 7 ∨ i = 8 ∨ i = 9 ∨ i = 10 ∨ i = 11 by omega) with rfl | rfl | rfl | rfl | rfl | rfl | rfl | rfl | rfl | rfl | rfl | rfl
              all_goals
                simp only [List.getElem?_cons_zero, List.getElem?_cons_succ, Option.some.injEq] at ho
                subst ho
              · have d0 := cell_step hI hBg (show (World.drew w5).cell? _ = _ from hBc)
                have d1 := cell_step hI hBg (show (World.drew w5).cell? _ = _ from hBc1)
                simp [putAll, Act.put]
                go_wp2
                exact OneD.mk (V := V14 g w5.heap.size af F.length cf at0 T.length ct who) (V14.ext hgw) rfl rfl ⟨hI, hsk1⟩ (Ext.refl _)
              · simp [putAll, Act.put]
                go_wp2
                exact OneD.mk (V := V14 g w5.heap.size af F.length cf at0 T.length ct who) (V14.ext hgw) rfl rfl ⟨hI, hsk1⟩ (Ext.refl _)
              · simp [putAll, Act.put]
                go_wp2
                exact OneD.mk (V := V14 g w5.heap.size af F.length cf at0 T.length ct who) (V14.ext hgw) rfl rfl ⟨hI, hsk1⟩ (Ext.refl _)
              · have q2 : y2 = .pointer (some ⟨g, 0, none⟩) := hd ⟨2, .data⟩ (by simp) rfl (by decide)
                clear hd
                subst q2
                simp [putAll, Act.put]
                go_wp2_with fail
                refine (pick_any _ _ 4 _ hsk (by omega)).mono ?_
                rintro e w6 ⟨v6, rfl, ⟨z, rfl, z0, z1, _⟩, hs6, hS6⟩
                have hz := z1 (by omega)
                clear z1
                go_wp2
                exact ⟨rfl, _, rfl, CT.int_mk, ⟨hI.trans hS6, hs6.mono (by omega)⟩, fun i u us _ _ _ _ _ hv => V14.step hgw i u us _ _ hv hS6⟩
              · simp [putAll, Act.put]
                go_wp2
                exact OneD.mk (V := V14 g w5.heap.size af F.length cf at0 T.length ct who) (V14.ext hgw) rfl rfl ⟨hI, hsk1⟩ (Ext.refl _)
              · have q4 : y4 = .pointer (some ⟨g, 0, none⟩) := hd ⟨4, .data⟩ (by simp) rfl (by decide)
                clear hd
                subst q4
                simp [putAll, Act.put]
                go_wp2_with fail
                refine (pick_any _ _ 100 _ hsk (by omega)).mono ?_
                rintro e w6 ⟨v6, rfl, ⟨z, rfl, z0, z1, _⟩, hs6, hS6⟩
                have hz := z1 (by omega)
                clear z1
                go_wp2
                exact ⟨rfl, _, rfl, CT.int_mk, ⟨hI.trans hS6, hs6.mono (by omega)⟩, fun i u us _ _ _ _ _ hv => V14.step hgw i u us _ _ hv hS6⟩
              · have q0 : y0 = .agg #[.slice af F.length cf, .slice at0 T.length ct] := hd ⟨0, .data⟩ (by simp) rfl (by decide)
                have q1 : y1 = .int .i64 who := hd ⟨1, .data⟩ (by simp) rfl (by decide)
                have q3 : (CT.int 0 3).has y3 := hd ⟨3, .data⟩ (by simp) rfl (by decide)
                have q5 : (CT.int 0 99).has y5 := hd ⟨5, .data⟩ (by simp) rfl (by decide)
                clear hd
                subst q0 q1
                obtain ⟨z3, rfl, _, _⟩ := q3
                obtain ⟨z5, rfl, _, _⟩ := q5
                obtain ⟨hr1, hr2⟩ := hview w4 hI
                have hsz : w5.heap.size ≤ w4.heap.size := (show w5.drew.heap.size ≤ w4.heap.size from Step.size hI)
                simp [putAll, Act.put]
                go_wp2_with fail
                refine (specWritePage af cf F at0 ct T who z3 z5 w4 (by omega) (by omega) hr1 hr2).mono ?_
                rintro e w6 ⟨a1, c1, F2, a2, c2, vs2, T2, ok2, rfl, hR, U⟩
                have hq : MemT w5.heap.size (.tuple #[.agg #[.slice a1 F2.length c1, .slice a2 T2.length c2], .bool ok2]) w6 := ⟨a1, c1, F2, a2, c2, vs2, T2, ok2, rfl, MemI.of_sep (writeR_small hR) U hsz⟩
                have hE5 := U.ext
                clear hR U
                go_wp2
                exact OneD.mk (V := V14 g w5.heap.size af F.length cf at0 T.length ct who) (V14.ext hgw) rfl hq ⟨hI.ext hE5, hsk1.ext hE5⟩ hE5
              · have q6 : MemT w5.heap.size y6 w4 := hd ⟨6, .data⟩ (by simp) rfl (by decide)
                clear hd
                simp [putAll, Act.put]
                go_wp2
                exact OneD.mk (V := V14 g w5.heap.size af F.length cf at0 T.length ct who) (V14.ext hgw) rfl q6 ⟨hI, hsk1⟩ (Ext.refl _)
              · obtain ⟨a1, c1, F2, a2, c2, vs2, T2, ok2, rfl, h7⟩ : MemT w5.heap.size y7 w4 := hd ⟨7, .data⟩ (by simp) rfl (by decide)
                clear hd
                have hq : MemA w5.heap.size (.agg #[.slice a1 F2.length c1, .slice a2 T2.length c2]) w4 := ⟨a1, c1, F2, a2, c2, vs2, T2, rfl, h7⟩
                clear h7
                simp [putAll, Act.put]
                go_wp2
                exact OneD.mk (V := V14 g w5.heap.size af F.length cf at0 T.length ct who) (V14.ext hgw) rfl hq ⟨hI, hsk1⟩ (Ext.refl _)
              · obtain ⟨a1, c1, F2, a2, c2, vs2, T2, ok2, rfl, h7⟩ : MemT w5.heap.size y7 w4 := hd ⟨7, .data⟩ (by simp) rfl (by decide)
                clear hd h7
                simp [putAll, Act.put]
                go_wp2
                exact OneD.mk (V := V14 g w5.heap.size af F.length cf at0 T.length ct who) (V14.ext hgw) rfl ⟨_, rfl⟩ ⟨hI, hsk1⟩ (Ext.refl _)
              · have hsz : w5.heap.size ≤ w4.heap.size := (show w5.drew.heap.size ≤ w4.heap.size from Step.size hI)
                simp [putAll, Act.put]
                go_wp2
                exact OneD.mk (V := V14 g w5.heap.size af F.length cf at0 T.length ct who) (V14.ext hgw) rfl ⟨_, _, rfl, heap_alloc_new w4 _, rfl, hsz⟩ ⟨hI.alloc _, hsk1.ext ((Ext.refl _).alloc _)⟩ ((Ext.refl _).alloc _)
              · obtain ⟨B9, C9, rfl, hB9, hC9, hB9b⟩ : BoxM w5.heap.size y10 w4 := hd ⟨10, .data⟩ (by simp) rfl (by decide)
                obtain ⟨a1, c1, F2, a2, c2, vs2, T2, rfl, h8⟩ : MemA w5.heap.size y8 w4 := hd ⟨8, .data⟩ (by simp) rfl (by decide)
                clear hd h8
                obtain ⟨⟨z0, k0⟩, ⟨z1, k1⟩, f0, f1⟩ := two_cells hB9 hC9
                simp [putAll, Act.put]
                go_wp2
                have hB10 := two_set hB9 hC9 (.slice a1 F2.length c1) (.slice a2 T2.length c2)
                have hV9 : V14 g w5.heap.size af F.length cf at0 T.length ct who 11 undef [.pointer (some ⟨B9, 0, none⟩), .agg #[.slice a1 F2.length c1, .slice a2 T2.length c2]] ((w4.setCell ⟨B9, 0, none⟩ (.slice a1 F2.length c1)).setCell ⟨B9, 1, none⟩ (.slice a2 T2.length c2)) := ⟨B9, _, _, rfl, rfl, hB10, hB9b⟩
                refine ⟨rfl, undef, rfl, hV9, ⟨(hI.setCell (p := ⟨B9, 0, none⟩) hB9b _).setCell (p := ⟨B9, 1, none⟩) hB9b _, (hsk1.setCell (p := ⟨B9, 0, none⟩) (Nat.lt_of_lt_of_le hgw hB9b) _).setCell (p := ⟨B9, 1, none⟩) (Nat.lt_of_lt_of_le hgw hB9b) _⟩, fun i u us hi hne hcon hnd _ hv => ?_⟩
                match i with
                | 0 | 1 | 2 | 3 | 4 | 5 | 9 => exact hv
                | 6 => obtain ⟨b1, d1, G, b2, d2, us2, U2, ok3, h1, h2⟩ := hv; exact ⟨b1, d1, G, b2, d2, us2, U2, ok3, h1, h2.set hB9 _ _⟩
                | 7 => obtain ⟨b1, d1, G, b2, d2, us2, U2, ok3, h1, h2⟩ := hv; exact ⟨b1, d1, G, b2, d2, us2, U2, ok3, h1, h2.set hB9 _ _⟩
                | 8 => obtain ⟨b1, d1, G, b2, d2, us2, U2, h1, h2⟩ := hv; exact ⟨b1, d1, G, b2, d2, us2, U2, h1, h2.set hB9 _ _⟩
                | 10 => exact absurd rfl hcon
                | 11 => exact absurd rfl hne
                | (n + 12) => trivial
            intro vz w11 hvl hI0 hV _
            obtain ⟨hI, hs6⟩ := hI0
            match vz, hvl with
            | [y0, y1, y2, y3, y4, y5, y6, y7, y8, y9, y10, y11], _ =>
            obtain ⟨a1, c1, F2, a2, c2, vs2, T2, rfl, hM8⟩ : MemA w5.heap.size y8 w11 := hV 8 (by omega) rfl
            obtain ⟨n9, rfl⟩ : ∃ b : Bool, y9 = .bool b := hV 9 (by omega) rfl
            obtain ⟨B9, x9, z9, rfl, e9, hB9, hB9b⟩ : ∃ b x y, y10 = .pointer (some ⟨b, 0, none⟩) ∧ Value.agg #[.slice a1 F2.length c1, .slice a2 T2.length c2] = .agg #[x, y] ∧ w11.heap[b]? = some (.cells #[x, y] 28) ∧ w5.heap.size ≤ b := hV 11 (by omega) rfl
            obtain ⟨rfl, rfl⟩ : x9 = .slice a1 F2.length c1 ∧ z9 = .slice a2 T2.length c2 := by simpa [eq_comm] using e9
            clear hV e9
            simp only [putAll, Act.put, List.take_succ_cons, List.take_zero, List.drop_succ_cons, List.drop_zero]
            simp
            have hsm2 := hM8.small
            have hc1 := owns_cap (show w11.ownsRow 0 3 1 (.slice a1 F2.length c1) F2.length (F2.flatMap encInt1) from hM8.row)
            have hc2 := tab_cap hM8.tab
            have hBlt := (S.ge 2 rfl).2
            replace S : SepM (fun b => b = g) w w11 [plTab (.slice a2 T2.length c2) vs2 T2, plRow 3 1 encInt1 (.slice a1 F2.length c1) F2, plTab (.slice at0 T.length ct) vs T, plRow 3 1 encInt1 (.slice af F.length cf) F, plBox B #[.slice af F.length cf, .slice at0 T.length ct] 28, plBox w.heap.size #[.slice none 0 0, .slice none 0 0] 28] := (S.ofMemI ((Chg.of_ext (Ext.refl w5).drew).trans (Chg.of_step hI)) hM8 (Nat.le_refl _))
            have hB9n : B9 ≠ B := by omega
            obtain ⟨k0, _⟩ := bx hB9 0 rfl
            obtain ⟨k1, _⟩ := bx hB9 1 rfl
            clear hM8 hI hview hBc hBc1 hs5 hB9
            replace S : SepM (fun b => b = g) w w11 [plTab (.slice a2 T2.length c2) vs2 T2, plRow 3 1 encInt1 (.slice a1 F2.length c1) F2, plRow 3 1 encInt1 (.slice af F.length cf) F, plBox B #[.slice af F.length cf, .slice at0 T.length ct] 28, plBox w.heap.size #[.slice none 0 0, .slice none 0 0] 28] := S.drop 2
            replace S : SepM (fun b => b = g) w w11 [plTab (.slice a2 T2.length c2) vs2 T2, plRow 3 1 encInt1 (.slice a1 F2.length c1) F2, plBox B #[.slice af F.length cf, .slice at0 T.length ct] 28, plBox w.heap.size #[.slice none 0 0, .slice none 0 0] 28] := S.drop 2
            obtain ⟨mbc0, mbf0⟩ : w11.cell? ⟨B, 0, none⟩ = some (.slice af F.length cf) ∧ w11.frozen? ⟨B, 0, none⟩ = false := bx (S.box 2 rfl) 0 rfl
            obtain ⟨mbc1, mbf1⟩ : w11.cell? ⟨B, 1, none⟩ = some (.slice at0 T.length ct) ∧ w11.frozen? ⟨B, 1, none⟩ = false := bx (S.box 2 rfl) 1 rfl
            go_wp2
            clear mbc0 mbf0 mbc1 mbf1
            replace S : SepM (fun b => b = g) w (w11.setCell ⟨B, 0, none⟩ (.slice a1 F2.length c1)) [plTab (.slice a2 T2.length c2) vs2 T2, plRow 3 1 encInt1 (.slice a1 F2.length c1) F2, plBox B #[.slice a1 F2.length c1, .slice at0 T.length ct] 28, plBox w.heap.size #[.slice none 0 0, .slice none 0 0] 28] := S.set 2 rfl 0 _
            replace S : SepM (fun b => b = g) w ((w11.setCell ⟨B, 0, none⟩ (.slice a1 F2.length c1)).setCell ⟨B, 1, none⟩ (.slice a2 T2.length c2)) [plTab (.slice a2 T2.length c2) vs2 T2, plRow 3 1 encInt1 (.slice a1 F2.length c1) F2, plBox B #[.slice a1 F2.length c1, .slice a2 T2.length c2] 28, plBox w.heap.size #[.slice none 0 0, .slice none 0 0] 28] := S.set 2 rfl 1 _
            have hs8 := (hs6.setCell (p := ⟨B, 0, none⟩) (by show g < B; omega) (.slice a1 F2.length c1)).setCell (p := ⟨B, 1, none⟩) (by show g < B; omega) (.slice a2 T2.length c2)
            go_roundw
            case rel => exact ⟨m, F2, T2, a1, c1, a2, c2, vs2, by omega, hsm2, by go_num, hc1, hc2, hs8.mono (by omega), S⟩
            case measure => simp [intOf]
        · obtain rfl : k = 0 := by omega
          clear h0 hk6
          go_wp2_with fail
          refine (odd_any g _ n wr hs3 (by omega) hn).mono ?_
          rintro e w4 ⟨v, rfl, ⟨b, rfl, hb⟩, hs4, hS4⟩
          replace S : SepM (fun b => b = g) w w4 [plTab (.slice at0 T.length ct) vs T, plRow 3 1 encInt1 (.slice af F.length cf) F, plBox B #[.slice af F.length cf, .slice at0 T.length ct] 28, plBox w.heap.size #[.slice none 0 0, .slice none 0 0] 28] := (S.other (Chg.of_step hS4))
          clear hS4 hs3 hb
          cases b with
          | false =>
            obtain ⟨mbc0, mbf0⟩ : w4.cell? ⟨B, 0, none⟩ = some (.slice af F.length cf) ∧ w4.frozen? ⟨B, 0, none⟩ = false := bx (S.box 2 rfl) 0 rfl
            obtain ⟨mbc1, mbf1⟩ : w4.cell? ⟨B, 1, none⟩ = some (.slice at0 T.length ct) ∧ w4.frozen? ⟨B, 1, none⟩ = false := bx (S.box 2 rfl) 1 rfl
            obtain ⟨rbc0, rbf0⟩ : w4.cell? ⟨w.heap.size, 0, none⟩ = some (.slice none 0 0) ∧ w4.frozen? ⟨w.heap.size, 0, none⟩ = false := bx (S.box 3 rfl) 0 rfl
            obtain ⟨rbc1, rbf1⟩ : w4.cell? ⟨w.heap.size, 1, none⟩ = some (.slice none 0 0) ∧ w4.frozen? ⟨w.heap.size, 1, none⟩ = false := bx (S.box 3 rfl) 1 rfl
            go_wp2
            try simp only [Exit.inBlock, Exit.then]
            refine bodyPost_ret (v := .agg #[.slice af F.length cf, .slice at0 T.length ct]) (by simp [results, Try.results51, go_sem, rbc0, rbc1]) rfl ?_
            clear mbc0 mbf0 mbc1 mbf1 rbc0 rbf0 rbc1 rbf1
            replace S : SepM (fun b => b = g) w (w4.setCell ⟨w.heap.size, 0, none⟩ (.slice af F.length cf)) [plTab (.slice at0 T.length ct) vs T, plRow 3 1 encInt1 (.slice af F.length cf) F, plBox B #[.slice af F.length cf, .slice at0 T.length ct] 28, plBox w.heap.size #[.slice af F.length cf, .slice none 0 0] 28] := S.set 3 rfl 0 _
            replace S : SepM (fun b => b = g) w ((w4.setCell ⟨w.heap.size, 0, none⟩ (.slice af F.length cf)).setCell ⟨w.heap.size, 1, none⟩ (.slice at0 T.length ct)) [plTab (.slice at0 T.length ct) vs T, plRow 3 1 encInt1 (.slice af F.length cf) F, plBox B #[.slice af F.length cf, .slice at0 T.length ct] 28, plBox w.heap.size #[.slice af F.length cf, .slice at0 T.length ct] 28] := S.set 3 rfl 1 _
            replace S : SepM (fun b => b = g) w ((w4.setCell ⟨w.heap.size, 0, none⟩ (.slice af F.length cf)).setCell ⟨w.heap.size, 1, none⟩ (.slice at0 T.length ct)) [plTab (.slice at0 T.length ct) vs T, plRow 3 1 encInt1 (.slice af F.length cf) F, plBox B #[.slice af F.length cf, .slice at0 T.length ct] 28] := S.drop 3
            replace S : SepM (fun b => b = g) w ((w4.setCell ⟨w.heap.size, 0, none⟩ (.slice af F.length cf)).setCell ⟨w.heap.size, 1, none⟩ (.slice at0 T.length ct)) [plTab (.slice at0 T.length ct) vs T, plRow 3 1 encInt1 (.slice af F.length cf) F] := S.drop 2
            exact ⟨af, cf, F, at0, ct, vs, T, rfl, by omega, by omega, Hsm.out.2.2, hcf, hct, ((hs4.setCell (p := ⟨w.heap.size, 0, none⟩) hg (.slice af F.length cf)).setCell (p := ⟨w.heap.size, 1, none⟩) hg (.slice at0 T.length ct)).mono (by omega), S⟩
          | true =>
            go_wp2_with fail
            refine (pick_any g _ 3 _ hs4 (by omega)).mono ?_
            rintro e w6 ⟨v, rfl, ⟨z, rfl, z0, z1, _⟩, hs5, hS⟩
            replace S : SepM (fun b => b = g) w w6 [plTab (.slice at0 T.length ct) vs T, plRow 3 1 encInt1 (.slice af F.length cf) F, plBox B #[.slice af F.length cf, .slice at0 T.length ct] 28, plBox w.heap.size #[.slice none 0 0, .slice none 0 0] 28] := (S.other (Chg.of_step hS))
            have z3 : z < 3 := z1 (by omega)
            clear hS hs4 z1
            obtain ⟨P1, hP1⟩ : ∃ P1, P1 = P + 252 := ⟨_, rfl⟩
            replace hs5 : Src g P1 w6 := by rw [hP1]; exact hs5.mono (by omega)
            have hP1a : P1 ≤ 900000 := by omega
            have hP1b : P1 + 20 ≤ P + 300 := by omega
            clear hP1
            rcases (show z = 0 ∨ z = 1 ∨ z = 2 by omega) with rfl | rfl | rfl
            · have hBc := (bx (S.box 2 rfl) 0 rfl).1
              have hin := S.row 1 rfl
              have hrowb := S.boxNe (i := 1) (j := 2) rfl rfl (by omega)
              have hgb : g < w.heap.size := hg
              have hb0 : w.heap.size ≤ w6.heap.size := S.chg.size
              have hs3 : Src g P1 w6.drew := hs5.ext (Ext.refl _).drew
              clear hs5
              go_upto_region 21 with fail
              have hfb : ∀ b, (Value.slice af F.length cf).ownBlock = some b → w.heap.size ≤ b ∧ b < w6.heap.size ∧ b ≠ B := hrowb
              have hBk : ∀ wv, Chg (fun b => b = g ∨ (Value.slice af F.length cf).ownBlock = some b) (World.drew w6) wv → wv.cell? ⟨B, 0, none⟩ = some (.slice af F.length cf) := fun wv hc => cell_chg (show (World.drew w6).cell? _ = _ from hBc) hc (fun h => h.elim (fun h => hBg h) (fun h => (hfb B h).2.2 rfl))
              refine wp_region_d (V := V21 g B w.heap.size w6.heap.size af F.length cf F) (fun _ => []) (fun k wv => Chg (fun b => b = g ∨ (Value.slice af F.length cf).ownBlock = some b) (World.drew w6) wv ∧ Src g (P1 + (k : Int)) wv) (fun i => if i = 10 then some 8 else none) [] 10 1 rfl (by decide) (by kernel_rfl) (by kernel_rfl) (by kernel_rfl) (by kernel_rfl) (by kernel_rfl) ⟨Chg.refl _ _, by simpa using hs3⟩ (fun r hr => match r, hr with | 0, _ => ownsRow_ext hin (Ext.refl _).drew) ?_ ?_
              · intro i o hi ho k hk vz w4 hvl hI0 hd hrest
                obtain ⟨hI, hsk⟩ := hI0
                have hsk1 : Src g (P1 + ((k + 1 : Nat) : Int)) w4 := hsk.mono (by omega)
                have hsz : w6.heap.size ≤ w4.heap.size := hI.size
                match vz, hvl with
                | [y0, y1, y2, y3, y4, y5, y6, y7, y8, y9], _ =>
                rcases (show i = 0 ∨ i = 1 ∨ i = 2 ∨ i = 3 ∨ i = 4 ∨ i = 5 ∨ i = 6 ∨ i = 7 ∨ i = 8 ∨ i = 9 by omega) with rfl | rfl | rfl | rfl | rfl | rfl | rfl | rfl | rfl | rfl
                all_goals
                  simp only [List.getElem?_cons_zero, List.getElem?_cons_succ, Option.some.injEq] at ho
                  subst ho
                · clear hd hrest
                  simp [putAll, Act.put]
                  go_wp2
                  exact OneD.mk (V := V21 g B w.heap.size w6.heap.size af F.length cf F) V21.ext rfl rfl ⟨hI, hsk1⟩ (Ext.refl _)
                · have q0 : y0 = .pointer (some ⟨B, 0, none⟩) := hd ⟨0, .data⟩ (by simp) rfl (by decide)
                  subst q0
                  have c0 := hBk w4 hI
                  clear hd hrest
                  simp [putAll, Act.put]
                  go_wp2
                  exact OneD.mk (V := V21 g B w.heap.size w6.heap.size af F.length cf F) V21.ext rfl rfl ⟨hI, hsk1⟩ (Ext.refl _)
                · clear hd hrest
                  simp [putAll, Act.put]
                  go_wp2
                  exact OneD.mk (V := V21 g B w.heap.size w6.heap.size af F.length cf F) V21.ext rfl (LitC.mk hsz ⟨CT.int_mk (by omega), CT.int_mk (by omega), trivial⟩ rfl) ⟨(hI.trans (Chg.of_ext ((Ext.refl w4).alloc _))), hsk1.ext ((Ext.refl _).alloc _)⟩ ((Ext.refl _).alloc _)
                · clear hd hrest
                  simp [putAll, Act.put]
                  go_wp2
                  exact OneD.mk (V := V21 g B w.heap.size w6.heap.size af F.length cf F) V21.ext rfl rfl ⟨hI, hsk1⟩ (Ext.refl _)
                · have q0 : y3 = .pointer (some ⟨g, 0, none⟩) := hd ⟨3, .data⟩ (by simp) rfl (by decide)
                  clear hd hrest
                  subst q0
                  simp [putAll, Act.put]
                  go_wp2_with fail
                  refine (pick_any _ _ 2 _ hsk (by omega)).mono ?_
                  rintro e w5 ⟨v5, rfl, ⟨z, rfl, z0, z1, _⟩, hs5, hS5⟩
                  have hz := z1 (by omega)
                  clear z1
                  go_wp2
                  exact ⟨rfl, _, rfl, CT.int_mk, ⟨hI.trans ((Chg.of_step hS5).mono (fun b h _ => .inl h)), hs5.mono (by omega)⟩, fun i u us _ _ _ _ _ hv => V21.step hgb hb0 i u us _ _ hv hS5⟩
                · have q0 : LitC (w6.heap.size) 2 [CT.int (-1) 10001] y2 w4 := hd ⟨2, .data⟩ (by simp) rfl (by decide)
                  have q1 : (CT.int 0 1).has y4 := hd ⟨4, .data⟩ (by simp) rfl (by decide)
                  obtain ⟨bb, hbb⟩ : ∃ bb, y2 = .slice (some ⟨bb, 0, none⟩) 2 2 := (let ⟨b, _, _, h, _⟩ := q0; ⟨b, h⟩)
                  subst hbb
                  obtain ⟨z, rfl, z0, z1⟩ := q1
                  obtain ⟨j, rfl⟩ : ∃ j : Nat, z = j := ⟨z.toNat, by omega⟩
                  have hp := LitC.ptr (nf := 1) rfl q0 (k := j) (by omega)
                  have hj : (j : Int) < 2 := by omega
                  clear q0
                  have hp2 : PtrC (w6.heap.size) [CT.int (-1) 10001] (.pointer (some ⟨bb, j, none⟩)) w4 := by simpa using hp
                  clear hd hrest
                  simp [putAll, Act.put]
                  go_wp2
                  exact OneD.mk (V := V21 g B w.heap.size w6.heap.size af F.length cf F) V21.ext rfl hp2 ⟨hI, hsk1⟩ (Ext.refl _)
                · have q0 : PtrC (w6.heap.size) [CT.int (-1) 10001] y5 w4 := hd ⟨5, .data⟩ (by simp) rfl (by decide)
                  obtain ⟨b, o, rfl, hb, hlt, hc⟩ := q0
                  obtain ⟨u0, c0, ht0⟩ := hc 0 _ rfl
                  obtain ⟨x0, rfl, x0a, x0b⟩ := ht0
                  rw [Nat.add_zero] at c0
                  clear hc
                  clear hd hrest
                  simp [putAll, Act.put]
                  go_wp2
                  exact OneD.mk (V := V21 g B w.heap.size w6.heap.size af F.length cf F) V21.ext rfl (CT.int_mk ⟨x0a, x0b⟩) ⟨hI, hsk1⟩ (Ext.refl _)
                · have q0 : (CT.int (-1) 10001).has y6 := hd ⟨6, .data⟩ (by simp) rfl (by decide)
                  obtain ⟨z, rfl, _, _⟩ := q0
                  clear hd hrest
                  simp [putAll, Act.put]
                  go_wp2
                  exact OneD.mk (V := V21 g B w.heap.size w6.heap.size af F.length cf F) V21.ext rfl ⟨_, z, rfl, hsz, heap_alloc_new w4 _⟩ ⟨(hI.trans (Chg.of_ext ((Ext.refl w4).alloc _))), hsk1.ext ((Ext.refl _).alloc _)⟩ ((Ext.refl _).alloc _)
                · have q0 : .slice af F.length cf = y1 := (show y1 = .slice af F.length cf from hd ⟨1, .data⟩ (by simp) rfl (by decide)).symm
                  obtain ⟨g9, x, q1, hg1, hg2⟩ : ∃ g9, ∃ x : Int, y7 = .slice (some ⟨g9, 0, none⟩) 1 1 ∧ w6.heap.size ≤ g9 ∧ w4.heap[g9]? = some (.cells #[.int .i64 x] 3) := hd ⟨7, .data⟩ (by simp) rfl (by decide)
                  have hrow : w4.ownsRow w.heap.size 3 1 (.slice af F.length cf) F.length (F.flatMap encInt1) := hrest 0 (by omega) (.inr rfl)
                  have hrd : Rd 1 encInt1 w4 (some ⟨g9, 0, none⟩) [x] := rd_lit [x] encInt1_len hg2 rfl
                  subst q0 q1
                  clear hd hrest
                  simp [putAll, Act.put]
                  refine wpList_append_b rfl _ _ 22 rfl w.heap.size 3 _ 1 _ Try.underlying22 infoInt rfl (by decide) encInt1_len encInt1_one _ F.length F rfl hrow rfl (some ⟨g9, 0, none⟩) 1 1 [x] rfl rfl hrd (by omega) (by omega) (by omega) ?_
                  intro v5 w5 ho5 hgr hblk
                  have hch : Chg (fun b => (Value.slice af F.length cf).ownBlock = some b) w4 w5 := Chg.of_grown hgr
                  have hs5 := hsk1.row hgr (fun i h => by have := hfb i h; omega)
                  have hnB : ∀ b, w6.heap.size ≤ b → ¬ (Value.slice af F.length cf).ownBlock = some b := fun b h1 h2 => by
                    have := hfb b h2
                    omega
                  clear hrow hrd hgr
                  go_wp2
                  refine ⟨rfl, _, rfl, ⟨x, ho5, fun b hb => (hblk b hb).imp id (fun h => by omega)⟩, ⟨hI.trans (hch.mono (fun b h _ => .inr h)), hs5⟩, fun i u us hi hne hcon hnd hnc hv => ?_⟩
                  match i with
                  | 0 => exact hv
                  | 1 => exact hv
                  | 2 => exact LitC.chg hv (hch.mono (fun b h _ => h)) (fun b e => (hfb b e).2.1)
                  | 3 => exact hv
                  | 4 => exact hv
                  | 5 => exact PtrC.chg hv (hch.mono (fun b h _ => h)) (fun b e => (hfb b e).2.1)
                  | 6 => exact hv
                  | 7 => obtain ⟨g1, z1, h1, h2, h3⟩ := hv; exact ⟨g1, z1, h1, h2, heap_chg h3 hch (hnB g1 h2)⟩
                  | 8 => exact absurd rfl hne
                  | 9 => exact hv
                  | 10 => exact absurd rfl hcon
                  | (n + 11) => trivial
                · clear hd hrest
                  simp [putAll, Act.put]
                  go_wp2
                  exact OneD.mk (V := V21 g B w.heap.size w6.heap.size af F.length cf F) V21.ext rfl rfl ⟨hI, hsk1⟩ (Ext.refl _)
              intro vz w11 hvl hI0 hV _
              obtain ⟨hI, hs4⟩ := hI0
              match vz, hvl with
              | [y0, y1, y2, y3, y4, y5, y6, y7, y8, y9], _ =>
              obtain ⟨x, e8, e8b⟩ : ∃ x : Int, w11.ownsRow w.heap.size 3 1 y8 (F ++ [x]).length ((F ++ [x]).flatMap encInt1) ∧ ∀ b, y8.ownBlock = some b → (Value.slice af F.length cf).ownBlock = some b ∨ w6.heap.size ≤ b := hV 8 (by omega) rfl
              have e9 : y9 = .pointer (some ⟨B, 0, none⟩) := hV 9 (by omega) rfl
              have hB11 := hBk w11 hI
              clear hV hBk
              subst e9
              obtain ⟨F2, hF2⟩ : ∃ F2, F2 = F ++ [x] := ⟨_, rfl⟩
              rw [← hF2] at e8
              have hF2l : F2.length = F.length + 1 := by rw [hF2]; simp
              have HF2l := Lib.hid hF2l
              clear hF2 hF2l
              obtain ⟨a8, c8, hv8, hk8, _, _⟩ := view_owns encInt1_len e8
              subst hv8
              simp only [putAll, Act.put, List.take_succ_cons, List.take_zero, List.drop_succ_cons, List.drop_zero]
              simp
              have S2 := (S.drew).putM 1 rfl (q := plRow 3 1 encInt1 (.slice a8 F2.length c8) F2) hI (ownsRow_base e8 (Nat.zero_le _)) e8b
              replace S : SepM (fun b => b = g) w w11 [plTab (.slice at0 T.length ct) vs T, plRow 3 1 encInt1 (.slice a8 F2.length c8) F2, plBox B #[.slice af F.length cf, .slice at0 T.length ct] 28, plBox w.heap.size #[.slice none 0 0, .slice none 0 0] 28] := S2
              clear S2 hBc hin hrowb hs3 hI e8 e8b hB11 hfb
              have hnb := S.bne 2 3 rfl rfl (by omega)
              obtain ⟨mbc0, mbf0⟩ : w11.cell? ⟨B, 0, none⟩ = some (.slice af F.length cf) ∧ w11.frozen? ⟨B, 0, none⟩ = false := bx (S.box 2 rfl) 0 rfl
              obtain ⟨mbc1, mbf1⟩ : w11.cell? ⟨B, 1, none⟩ = some (.slice at0 T.length ct) ∧ w11.frozen? ⟨B, 1, none⟩ = false := bx (S.box 2 rfl) 1 rfl
              obtain ⟨rbc0, rbf0⟩ : w11.cell? ⟨w.heap.size, 0, none⟩ = some (.slice none 0 0) ∧ w11.frozen? ⟨w.heap.size, 0, none⟩ = false := bx (S.box 3 rfl) 0 rfl
              obtain ⟨rbc1, rbf1⟩ : w11.cell? ⟨w.heap.size, 1, none⟩ = some (.slice none 0 0) ∧ w11.frozen? ⟨w.heap.size, 1, none⟩ = false := bx (S.box 3 rfl) 1 rfl
              go_wp2
              try simp only [Exit.inBlock, Exit.then]
              refine bodyPost_ret (v := .agg #[.slice a8 F2.length c8, .slice at0 T.length ct]) (by simp [results, Try.results51, go_sem, rbc0, rbc1]) rfl ?_
              clear mbc0 mbf0 mbc1 mbf1 rbc0 rbf0 rbc1 rbf1
              replace S : SepM (fun b => b = g) w (w11.setCell ⟨B, 0, none⟩ (.slice a8 F2.length c8)) [plTab (.slice at0 T.length ct) vs T, plRow 3 1 encInt1 (.slice a8 F2.length c8) F2, plBox B #[.slice a8 F2.length c8, .slice at0 T.length ct] 28, plBox w.heap.size #[.slice none 0 0, .slice none 0 0] 28] := S.set 2 rfl 0 _
              replace S : SepM (fun b => b = g) w ((w11.setCell ⟨B, 0, none⟩ (.slice a8 F2.length c8)).setCell ⟨w.heap.size, 0, none⟩ (.slice a8 F2.length c8)) [plTab (.slice at0 T.length ct) vs T, plRow 3 1 encInt1 (.slice a8 F2.length c8) F2, plBox B #[.slice a8 F2.length c8, .slice at0 T.length ct] 28, plBox w.heap.size #[.slice a8 F2.length c8, .slice none 0 0] 28] := S.set 3 rfl 0 _
              replace S : SepM (fun b => b = g) w (((w11.setCell ⟨B, 0, none⟩ (.slice a8 F2.length c8)).setCell ⟨w.heap.size, 0, none⟩ (.slice a8 F2.length c8)).setCell ⟨w.heap.size, 1, none⟩ (.slice at0 T.length ct)) [plTab (.slice at0 T.length ct) vs T, plRow 3 1 encInt1 (.slice a8 F2.length c8) F2, plBox B #[.slice a8 F2.length c8, .slice at0 T.length ct] 28, plBox w.heap.size #[.slice a8 F2.length c8, .slice at0 T.length ct] 28] := S.set 3 rfl 1 _
              replace S : SepM (fun b => b = g) w (((w11.setCell ⟨B, 0, none⟩ (.slice a8 F2.length c8)).setCell ⟨w.heap.size, 0, none⟩ (.slice a8 F2.length c8)).setCell ⟨w.heap.size, 1, none⟩ (.slice at0 T.length ct)) [plTab (.slice at0 T.length ct) vs T, plRow 3 1 encInt1 (.slice a8 F2.length c8) F2, plBox B #[.slice a8 F2.length c8, .slice at0 T.length ct] 28] := S.drop 3
              replace S : SepM (fun b => b = g) w (((w11.setCell ⟨B, 0, none⟩ (.slice a8 F2.length c8)).setCell ⟨w.heap.size, 0, none⟩ (.slice a8 F2.length c8)).setCell ⟨w.heap.size, 1, none⟩ (.slice at0 T.length ct)) [plTab (.slice at0 T.length ct) vs T, plRow 3 1 encInt1 (.slice a8 F2.length c8) F2] := S.drop 2
              exact ⟨a8, c8, F2, at0, ct, vs, T, rfl, by have := HF2l.out; omega, by omega, Hsm.out.2.2, hk8, hct, (((hs4.setCell (p := ⟨B, 0, none⟩) (by show g < B; omega) (.slice a8 F2.length c8)).setCell (p := ⟨w.heap.size, 0, none⟩) hg (.slice a8 F2.length c8)).setCell (p := ⟨w.heap.size, 1, none⟩) hg (.slice at0 T.length ct)).mono (by omega), S⟩
            · obtain ⟨mbc0, mbf0⟩ : w6.cell? ⟨B, 0, none⟩ = some (.slice af F.length cf) ∧ w6.frozen? ⟨B, 0, none⟩ = false := bx (S.box 2 rfl) 0 rfl
              obtain ⟨mbc1, mbf1⟩ : w6.cell? ⟨B, 1, none⟩ = some (.slice at0 T.length ct) ∧ w6.frozen? ⟨B, 1, none⟩ = false := bx (S.box 2 rfl) 1 rfl
              replace S : SepM (fun b => b = g) w (w6.alloc (.cells #[.int .i64 (F.length : Int)] 3)) [plRow 3 1 encInt1 (.slice (some ⟨w6.heap.size, 0, none⟩) 1 1) ([(F.length : Int)] : List Int), plTab (.slice at0 T.length ct) vs T, plRow 3 1 encInt1 (.slice af F.length cf) F, plBox B #[.slice af F.length cf, .slice at0 T.length ct] 28, plBox w.heap.size #[.slice none 0 0, .slice none 0 0] 28] := S.lit (by simp) _ _ encInt1_len ([(F.length : Int)] : List Int) rfl rfl (by omega)
              replace S : SepM (fun b => b = g) w ((w6.alloc (.cells #[.int .i64 (F.length : Int)] 3)).alloc (.cells #[.slice (some ⟨w6.heap.size, 0, none⟩) 1 1] 22)) [plRow 22 1 encSl (.slice (some ⟨(w6.heap.size + 1), 0, none⟩) 1 1) ([⟨some ⟨w6.heap.size, 0, none⟩, 1, 1⟩] : List Sl), plRow 3 1 encInt1 (.slice (some ⟨w6.heap.size, 0, none⟩) 1 1) ([(F.length : Int)] : List Int), plTab (.slice at0 T.length ct) vs T, plRow 3 1 encInt1 (.slice af F.length cf) F, plBox B #[.slice af F.length cf, .slice at0 T.length ct] 28, plBox w.heap.size #[.slice none 0 0, .slice none 0 0] 28] := S.lit (by simp) _ _ encSl_len ([⟨some ⟨w6.heap.size, 0, none⟩, 1, 1⟩] : List Sl) rfl rfl (by omega)
              have hs7 : Src g P1 ((w6.alloc (.cells #[.int .i64 (F.length : Int)] 3)).alloc (.cells #[.slice (some ⟨w6.heap.size, 0, none⟩) 1 1] 22)) := hs5.ext (((Ext.refl w6).alloc _).alloc _)
              clear hs5
              have hvl := tab_len (S.at_ 2 rfl)
              have hrow := S.tabRow 2 rfl
              have hrd := S.rd 0 encSl_len rfl rfl
              have hvs : vs.length ≤ 5 := by omega
              have Hvl := Lib.hid hvl
              clear hvl
              go_wp2_with (at_builtin; refine Hid.out (?_ : Hid _))
              unfold Hid
              clear mbc0 mbf0 mbc1 mbf1
              refine wpList_append_b rfl _ _ 23 rfl w.heap.size 22 _ 1 _ Try.underlying23 infoSl rfl (by decide) encSl_len encSl_one _ vs.length vs rfl hrow rfl (some ⟨w6.heap.size + 1, 0, none⟩) 1 1 [⟨some ⟨w6.heap.size, 0, none⟩, 1, 1⟩] rfl rfl hrd (by omega) (by omega) S.chg.size ?_
              intro v7 w7 ho hgr hblk
              have S2 := S.tabPush 2 1 (s := ⟨some ⟨w6.heap.size, 0, none⟩, 1, 1⟩) (t := [(F.length : Int)]) rfl rfl (by omega) hgr ho hblk
              have hs8 := hs7.row hgr (fun i h => by have := (World.ownsRow.lt hrow i h).1; omega)
              obtain ⟨T7, hT7⟩ : ∃ T7, T7 = T ++ [[(F.length : Int)]] := ⟨_, rfl⟩
              have hT7l : T7.length = T.length + 1 := by rw [hT7]; simp
              have HT4 : Hid (∀ t ∈ T7, t.length ≤ 4) := Lib.hid (by
                rw [hT7]
                intro t ht
                rcases List.mem_append.1 ht with ht | ht
                · exact Hsm.out.2.2 t ht
                · rw [List.mem_singleton.1 ht]; simp)
              rw [← hT7] at S2
              have HT7l := Lib.hid hT7l
              clear hT7 hT7l ho hgr hblk hrow hrd hs7 S
              generalize vs ++ [(⟨some ⟨w6.heap.size, 0, none⟩, 1, 1⟩ : Sl)] = vs7 at *
              obtain ⟨a7, c7, hv7, hk7, _, _⟩ := S2.tab 1 rfl
              subst hv7
              have S : SepM (fun b => b = g) w w7 [plTab (.slice a7 T7.length c7) vs7 T7, plRow 3 1 encInt1 (.slice af F.length cf) F, plBox B #[.slice af F.length cf, .slice at0 T.length ct] 28, plBox w.heap.size #[.slice none 0 0, .slice none 0 0] 28] := S2.drop 0
              clear S2
              have hnb := S.bne 2 3 rfl rfl (by omega)
              obtain ⟨mbc0, mbf0⟩ : w7.cell? ⟨B, 0, none⟩ = some (.slice af F.length cf) ∧ w7.frozen? ⟨B, 0, none⟩ = false := bx (S.box 2 rfl) 0 rfl
              obtain ⟨mbc1, mbf1⟩ : w7.cell? ⟨B, 1, none⟩ = some (.slice at0 T.length ct) ∧ w7.frozen? ⟨B, 1, none⟩ = false := bx (S.box 2 rfl) 1 rfl
              obtain ⟨rbc0, rbf0⟩ : w7.cell? ⟨w.heap.size, 0, none⟩ = some (.slice none 0 0) ∧ w7.frozen? ⟨w.heap.size, 0, none⟩ = false := bx (S.box 3 rfl) 0 rfl
              obtain ⟨rbc1, rbf1⟩ : w7.cell? ⟨w.heap.size, 1, none⟩ = some (.slice none 0 0) ∧ w7.frozen? ⟨w.heap.size, 1, none⟩ = false := bx (S.box 3 rfl) 1 rfl
              go_wp2
              try simp only [Exit.inBlock, Exit.then]
              refine bodyPost_ret (v := .agg #[.slice af F.length cf, .slice a7 T7.length c7]) (by simp [results, Try.results51, go_sem, rbc0, rbc1]) rfl ?_
              clear mbc0 mbf0 mbc1 mbf1 rbc0 rbf0 rbc1 rbf1
              replace S : SepM (fun b => b = g) w (w7.setCell ⟨B, 1, none⟩ (.slice a7 T7.length c7)) [plTab (.slice a7 T7.length c7) vs7 T7, plRow 3 1 encInt1 (.slice af F.length cf) F, plBox B #[.slice af F.length cf, .slice a7 T7.length c7] 28, plBox w.heap.size #[.slice none 0 0, .slice none 0 0] 28] := S.set 2 rfl 1 _
              replace S : SepM (fun b => b = g) w ((w7.setCell ⟨B, 1, none⟩ (.slice a7 T7.length c7)).setCell ⟨w.heap.size, 0, none⟩ (.slice af F.length cf)) [plTab (.slice a7 T7.length c7) vs7 T7, plRow 3 1 encInt1 (.slice af F.length cf) F, plBox B #[.slice af F.length cf, .slice a7 T7.length c7] 28, plBox w.heap.size #[.slice af F.length cf, .slice none 0 0] 28] := S.set 3 rfl 0 _
              replace S : SepM (fun b => b = g) w (((w7.setCell ⟨B, 1, none⟩ (.slice a7 T7.length c7)).setCell ⟨w.heap.size, 0, none⟩ (.slice af F.length cf)).setCell ⟨w.heap.size, 1, none⟩ (.slice a7 T7.length c7)) [plTab (.slice a7 T7.length c7) vs7 T7, plRow 3 1 encInt1 (.slice af F.length cf) F, plBox B #[.slice af F.length cf, .slice a7 T7.length c7] 28, plBox w.heap.size #[.slice af F.length cf, .slice a7 T7.length c7] 28] := S.set 3 rfl 1 _
              replace S : SepM (fun b => b = g) w (((w7.setCell ⟨B, 1, none⟩ (.slice a7 T7.length c7)).setCell ⟨w.heap.size, 0, none⟩ (.slice af F.length cf)).setCell ⟨w.heap.size, 1, none⟩ (.slice a7 T7.length c7)) [plTab (.slice a7 T7.length c7) vs7 T7, plRow 3 1 encInt1 (.slice af F.length cf) F, plBox B #[.slice af F.length cf, .slice a7 T7.length c7] 28] := S.drop 3
              replace S : SepM (fun b => b = g) w (((w7.setCell ⟨B, 1, none⟩ (.slice a7 T7.length c7)).setCell ⟨w.heap.size, 0, none⟩ (.slice af F.length cf)).setCell ⟨w.heap.size, 1, none⟩ (.slice a7 T7.length c7)) [plTab (.slice a7 T7.length c7) vs7 T7, plRow 3 1 encInt1 (.slice af F.length cf) F] := S.drop 2
              exact ⟨af, cf, F, a7, c7, vs7, T7, rfl, by omega, by have := HT7l.out; omega, HT4.out, hcf, hk7, (((hs8.setCell (p := ⟨B, 1, none⟩) (by show g < B; omega) (.slice a7 T7.length c7)).setCell (p := ⟨w.heap.size, 0, none⟩) hg (.slice af F.length cf)).setCell (p := ⟨w.heap.size, 1, none⟩) hg (.slice a7 T7.length c7)).mono (by omega), S⟩
            · obtain ⟨mbc0, mbf0⟩ : w6.cell? ⟨B, 0, none⟩ = some (.slice af F.length cf) ∧ w6.frozen? ⟨B, 0, none⟩ = false := bx (S.box 2 rfl) 0 rfl
              obtain ⟨mbc1, mbf1⟩ : w6.cell? ⟨B, 1, none⟩ = some (.slice at0 T.length ct) ∧ w6.frozen? ⟨B, 1, none⟩ = false := bx (S.box 2 rfl) 1 rfl
              replace S : SepM (fun b => b = g) w (w6.alloc (.cells #[.int .i64 1] 3)) [plRow 3 1 encInt1 (.slice (some ⟨w6.heap.size, 0, none⟩) 1 1) ([1] : List Int), plTab (.slice at0 T.length ct) vs T, plRow 3 1 encInt1 (.slice af F.length cf) F, plBox B #[.slice af F.length cf, .slice at0 T.length ct] 28, plBox w.heap.size #[.slice none 0 0, .slice none 0 0] 28] := S.lit (by simp) _ _ encInt1_len ([1] : List Int) rfl rfl (by omega)
              have hs7 : Src g P1 (w6.alloc (.cells #[.int .i64 1] 3)) := hs5.ext ((Ext.refl w6).alloc _)
              clear hs5
              have hrow := S.row 2 rfl
              have hrd := S.rd 0 encInt1_len rfl rfl
              go_wp2_with (at_builtin; refine Hid.out (?_ : Hid _))
              unfold Hid
              clear mbc0 mbf0 mbc1 mbf1
              refine wpList_append_b rfl _ _ 22 rfl w.heap.size 3 _ 1 _ Try.underlying22 infoInt rfl (by decide) encInt1_len encInt1_one _ F.length F rfl hrow rfl (some ⟨w6.heap.size, 0, none⟩) 1 1 [1] rfl rfl hrd (by omega) (by omega) S.chg.size ?_
              intro v7 w7 ho hgr hblk
              obtain ⟨F7, hF7⟩ : ∃ F7, F7 = F ++ [1] := ⟨_, rfl⟩
              rw [← hF7] at ho
              have hF7l : F7.length = F.length + 1 := by rw [hF7]; simp
              have HF7l := Lib.hid hF7l
              clear hF7 hF7l
              have hs8 := hs7.row hgr (fun i h => by have := (World.ownsRow.lt hrow i h).1; omega)
              obtain ⟨a7, c7, hv7, hk7, _, _⟩ := view_owns encInt1_len ho
              subst hv7
              replace S : SepM (fun b => b = g) w w7 [plRow 3 1 encInt1 (.slice (some ⟨w6.heap.size, 0, none⟩) 1 1) ([1] : List Int), plTab (.slice at0 T.length ct) vs T, plRow 3 1 encInt1 (.slice a7 F7.length c7) F7, plBox B #[.slice af F.length cf, .slice at0 T.length ct] 28, plBox w.heap.size #[.slice none 0 0, .slice none 0 0] 28] := S.grow 2 rfl hgr ho hblk
              replace S : SepM (fun b => b = g) w w7 [plTab (.slice at0 T.length ct) vs T, plRow 3 1 encInt1 (.slice a7 F7.length c7) F7, plBox B #[.slice af F.length cf, .slice at0 T.length ct] 28, plBox w.heap.size #[.slice none 0 0, .slice none 0 0] 28] := S.drop 0
              clear ho hgr hblk hrow hrd hs7
              obtain ⟨mbc0, mbf0⟩ : w7.cell? ⟨B, 0, none⟩ = some (.slice af F.length cf) ∧ w7.frozen? ⟨B, 0, none⟩ = false := bx (S.box 2 rfl) 0 rfl
              obtain ⟨mbc1, mbf1⟩ : w7.cell? ⟨B, 1, none⟩ = some (.slice at0 T.length ct) ∧ w7.frozen? ⟨B, 1, none⟩ = false := bx (S.box 2 rfl) 1 rfl
              go_upto_region 19 with fail
              clear mbc0 mbf0 mbc1 mbf1
              replace S : SepM (fun b => b = g) w (w7.setCell ⟨B, 0, none⟩ (.slice a7 F7.length c7)) [plTab (.slice at0 T.length ct) vs T, plRow 3 1 encInt1 (.slice a7 F7.length c7) F7, plBox B #[.slice a7 F7.length c7, .slice at0 T.length ct] 28, plBox w.heap.size #[.slice none 0 0, .slice none 0 0] 28] := S.set 2 rfl 0 _
              have hs9 := hs8.setCell (p := ⟨B, 0, none⟩) (by show g < B; omega) (.slice a7 F7.length c7)
              clear hs8
              generalize (w7.setCell ⟨B, 0, none⟩ (.slice a7 F7.length c7)) = w8 at *
              obtain ⟨mbc0, mbf0⟩ : w8.cell? ⟨B, 0, none⟩ = some (.slice a7 F7.length c7) ∧ w8.frozen? ⟨B, 0, none⟩ = false := bx (S.box 2 rfl) 0 rfl
              obtain ⟨mbc1, mbf1⟩ : w8.cell? ⟨B, 1, none⟩ = some (.slice at0 T.length ct) ∧ w8.frozen? ⟨B, 1, none⟩ = false := bx (S.box 2 rfl) 1 rfl
              replace S : SepM (fun b => b = g) w (w8.alloc (.cells #[.int .i64 0, .int .i64 0] 3)) [plRow 3 1 encInt1 (.slice (some ⟨w8.heap.size, 0, none⟩) 2 2) ([0, 0] : List Int), plTab (.slice at0 T.length ct) vs T, plRow 3 1 encInt1 (.slice a7 F7.length c7) F7, plBox B #[.slice a7 F7.length c7, .slice at0 T.length ct] 28, plBox w.heap.size #[.slice none 0 0, .slice none 0 0] 28] := S.lit (by simp) _ _ encInt1_len ([0, 0] : List Int) rfl rfl (by omega)
              replace S : SepM (fun b => b = g) w ((w8.alloc (.cells #[.int .i64 0, .int .i64 0] 3)).alloc (.cells #[.slice (some ⟨w8.heap.size, 0, none⟩) 2 2] 22)) [plRow 22 1 encSl (.slice (some ⟨(w8.heap.size + 1), 0, none⟩) 1 1) ([⟨some ⟨w8.heap.size, 0, none⟩, 2, 2⟩] : List Sl), plRow 3 1 encInt1 (.slice (some ⟨w8.heap.size, 0, none⟩) 2 2) ([0, 0] : List Int), plTab (.slice at0 T.length ct) vs T, plRow 3 1 encInt1 (.slice a7 F7.length c7) F7, plBox B #[.slice a7 F7.length c7, .slice at0 T.length ct] 28, plBox w.heap.size #[.slice none 0 0, .slice none 0 0] 28] := S.lit (by simp) _ _ encSl_len ([⟨some ⟨w8.heap.size, 0, none⟩, 2, 2⟩] : List Sl) rfl rfl (by omega)
              have hs7 : Src g P1 ((w8.alloc (.cells #[.int .i64 0, .int .i64 0] 3)).alloc (.cells #[.slice (some ⟨w8.heap.size, 0, none⟩) 2 2] 22)) := hs9.ext (((Ext.refl w8).alloc _).alloc _)
              clear hs9
              have hvl := tab_len (S.at_ 2 rfl)
              have hrow := S.tabRow 2 rfl
              have hrd := S.rd 0 encSl_len rfl rfl
              have hvs : vs.length ≤ 5 := by omega
              have Hvl := Lib.hid hvl
              clear hvl
              go_wp2_with (at_builtin; refine Hid.out (?_ : Hid _))
              unfold Hid
              clear mbc0 mbf0 mbc1 mbf1
              refine wpList_append_b rfl _ _ 23 rfl w.heap.size 22 _ 1 _ Try.underlying23 infoSl rfl (by decide) encSl_len encSl_one _ vs.length vs rfl hrow rfl (some ⟨w8.heap.size + 1, 0, none⟩) 1 1 [⟨some ⟨w8.heap.size, 0, none⟩, 2, 2⟩] rfl rfl hrd (by omega) (by omega) S.chg.size ?_
              intro v9 w9 ho hgr hblk
              have S2 := S.tabPush 2 1 (s := ⟨some ⟨w8.heap.size, 0, none⟩, 2, 2⟩) (t := [0, 0]) rfl rfl (by omega) hgr ho hblk
              have hs8 := hs7.row hgr (fun i h => by have := (World.ownsRow.lt hrow i h).1; omega)
              obtain ⟨T7, hT7⟩ : ∃ T7, T7 = T ++ [[0, 0]] := ⟨_, rfl⟩
              have hT7l : T7.length = T.length + 1 := by rw [hT7]; simp
              have HT4 : Hid (∀ t ∈ T7, t.length ≤ 4) := Lib.hid (by
                rw [hT7]
                intro t ht
                rcases List.mem_append.1 ht with ht | ht
                · exact Hsm.out.2.2 t ht
                · rw [List.mem_singleton.1 ht]; simp)
              rw [← hT7] at S2
              have HT7l := Lib.hid hT7l
              clear hT7 hT7l ho hgr hblk hrow hrd hs7 S
              generalize vs ++ [(⟨some ⟨w8.heap.size, 0, none⟩, 2, 2⟩ : Sl)] = vs7 at *
              obtain ⟨a9, c9, hv9, hk9, _, _⟩ := S2.tab 1 rfl
              subst hv9
              have S : SepM (fun b => b = g) w w9 [plTab (.slice a9 T7.length c9) vs7 T7, plRow 3 1 encInt1 (.slice a7 F7.length c7) F7, plBox B #[.slice a7 F7.length c7, .slice at0 T.length ct] 28, plBox w.heap.size #[.slice none 0 0, .slice none 0 0] 28] := S2.drop 0
              clear S2
              have hnb := S.bne 2 3 rfl rfl (by omega)
              obtain ⟨mbc0, mbf0⟩ : w9.cell? ⟨B, 0, none⟩ = some (.slice a7 F7.length c7) ∧ w9.frozen? ⟨B, 0, none⟩ = false := bx (S.box 2 rfl) 0 rfl
              obtain ⟨mbc1, mbf1⟩ : w9.cell? ⟨B, 1, none⟩ = some (.slice at0 T.length ct) ∧ w9.frozen? ⟨B, 1, none⟩ = false := bx (S.box 2 rfl) 1 rfl
              obtain ⟨rbc0, rbf0⟩ : w9.cell? ⟨w.heap.size, 0, none⟩ = some (.slice none 0 0) ∧ w9.frozen? ⟨w.heap.size, 0, none⟩ = false := bx (S.box 3 rfl) 0 rfl
              obtain ⟨rbc1, rbf1⟩ : w9.cell? ⟨w.heap.size, 1, none⟩ = some (.slice none 0 0) ∧ w9.frozen? ⟨w.heap.size, 1, none⟩ = false := bx (S.box 3 rfl) 1 rfl
              go_wp2
              try simp only [Exit.inBlock, Exit.then]
              refine bodyPost_ret (v := .agg #[.slice a7 F7.length c7, .slice a9 T7.length c9]) (by simp [results, Try.results51, go_sem, rbc0, rbc1]) rfl ?_
              clear mbc0 mbf0 mbc1 mbf1 rbc0 rbf0 rbc1 rbf1
              replace S : SepM (fun b => b = g) w (w9.setCell ⟨B, 1, none⟩ (.slice a9 T7.length c9)) [plTab (.slice a9 T7.length c9) vs7 T7, plRow 3 1 encInt1 (.slice a7 F7.length c7) F7, plBox B #[.slice a7 F7.length c7, .slice a9 T7.length c9] 28, plBox w.heap.size #[.slice none 0 0, .slice none 0 0] 28] := S.set 2 rfl 1 _
              replace S : SepM (fun b => b = g) w ((w9.setCell ⟨B, 1, none⟩ (.slice a9 T7.length c9)).setCell ⟨w.heap.size, 0, none⟩ (.slice a7 F7.length c7)) [plTab (.slice a9 T7.length c9) vs7 T7, plRow 3 1 encInt1 (.slice a7 F7.length c7) F7, plBox B #[.slice a7 F7.length c7, .slice a9 T7.length c9] 28, plBox w.heap.size #[.slice a7 F7.length c7, .slice none 0 0] 28] := S.set 3 rfl 0 _
              replace S : SepM (fun b => b = g) w (((w9.setCell ⟨B, 1, none⟩ (.slice a9 T7.length c9)).setCell ⟨w.heap.size, 0, none⟩ (.slice a7 F7.length c7)).setCell ⟨w.heap.size, 1, none⟩ (.slice a9 T7.length c9)) [plTab (.slice a9 T7.length c9) vs7 T7, plRow 3 1 encInt1 (.slice a7 F7.length c7) F7, plBox B #[.slice a7 F7.length c7, .slice a9 T7.length c9] 28, plBox w.heap.size #[.slice a7 F7.length c7, .slice a9 T7.length c9] 28] := S.set 3 rfl 1 _
              replace S : SepM (fun b => b = g) w (((w9.setCell ⟨B, 1, none⟩ (.slice a9 T7.length c9)).setCell ⟨w.heap.size, 0, none⟩ (.slice a7 F7.length c7)).setCell ⟨w.heap.size, 1, none⟩ (.slice a9 T7.length c9)) [plTab (.slice a9 T7.length c9) vs7 T7, plRow 3 1 encInt1 (.slice a7 F7.length c7) F7, plBox B #[.slice a7 F7.length c7, .slice a9 T7.length c9] 28] := S.drop 3
              replace S : SepM (fun b => b = g) w (((w9.setCell ⟨B, 1, none⟩ (.slice a9 T7.length c9)).setCell ⟨w.heap.size, 0, none⟩ (.slice a7 F7.length c7)).setCell ⟨w.heap.size, 1, none⟩ (.slice a9 T7.length c9)) [plTab (.slice a9 T7.length c9) vs7 T7, plRow 3 1 encInt1 (.slice a7 F7.length c7) F7] := S.drop 2
              exact ⟨a7, c7, F7, a9, c9, vs7, T7, rfl, by have := HF7l.out; omega, by have := HT7l.out; omega, HT4.out, hk7, hk9, (((hs8.setCell (p := ⟨B, 1, none⟩) (by show g < B; omega) (.slice a9 T7.length c9)).setCell (p := ⟨w.heap.size, 0, none⟩) hg (.slice a7 F7.length c7)).setCell (p := ⟨w.heap.size, 1, none⟩) hg (.slice a9 T7.length c9)).mono (by omega), S⟩
end Go.Proofs.Ytpnllhdgpfbaiaa
