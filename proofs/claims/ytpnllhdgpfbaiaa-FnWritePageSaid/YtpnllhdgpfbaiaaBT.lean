/- What a draw's operations leave: values within bounds, literals of such, places in them. No condition. -/
import Derived.Test.YtpnllhdgpfbaiaaDraw
import Derived.Test.YtpnllhdgpfbaiaaOrdS
import Derived.Test.YtpnllhdgpfbaiaaSep
namespace Go.Proofs.Ytpnllhdgpfbaiaa
open Go.RowKit

/-- A cell's kind and bounds. -/
inductive CT where
  | int (lo hi : Int)
  | str (n : Nat)
  | bool
def CT.has : CT → Value → Prop
  | .int lo hi, v => ∃ x : Int, v = .int .i64 x ∧ lo ≤ x ∧ x ≤ hi
  | .str n, v => ∃ s : ByteArray, v = .string s ∧ s.size ≤ n
  | .bool, v => ∃ b, v = .bool b
theorem CT.int_mk {lo hi x : Int} (h : lo ≤ x ∧ x ≤ hi := by omega) : (CT.int lo hi).has (.int .i64 x) := ⟨x, rfl, h.1, h.2⟩
theorem CT.str_mk {n : Nat} {s : ByteArray} (h : s.size ≤ n := by decide) : (CT.str n).has (.string s) := ⟨s, rfl, h⟩
theorem CT.bool_mk {b : Bool} : CT.bool.has (.bool b) := ⟨b, rfl⟩

def HasAll : List CT → List Value → Prop
  | [], [] => True
  | t :: ts, v :: vs => t.has v ∧ HasAll ts vs
  | _, _ => False
theorem HasAll.length : ∀ {ts : List CT} {vs : List Value}, HasAll ts vs → ts.length = vs.length
  | [], [], _ => rfl
  | _ :: _, _ :: _, h => by simp [h.2.length]
theorem HasAll.at_ : ∀ {ts : List CT} {vs : List Value}, HasAll ts vs → ∀ {j : Nat} {t : CT}, ts[j]? = some t → ∃ v, vs[j]? = some v ∧ t.has v
  | _ :: _, v :: _, h, 0, t, hj => by
    simp only [List.getElem?_cons_zero, Option.some.injEq] at hj
    subst hj
    exact ⟨v, rfl, h.1⟩
  | _ :: ts, _ :: vs, h, j + 1, t, hj => by
    simp only [List.getElem?_cons_succ] at hj ⊢
    exact h.2.at_ hj

/-- ts, n times. -/
def many (n : Nat) (ts : List CT) : List CT := match n with | 0 => [] | n + 1 => ts ++ many n ts
theorem many_at {ts : List CT} {nf : Nat} (hn : ts.length = nf) : ∀ {n k j : Nat} {t : CT}, k < n → ts[j]? = some t → (many n ts)[k * nf + j]? = some t
  | n + 1, 0, j, t, _, hj => by
    have := (List.getElem?_eq_some_iff.1 hj).1
    simp only [many, Nat.zero_mul, Nat.zero_add]
    rw [List.getElem?_append_left this]; exact hj
  | n + 1, k + 1, j, t, hk, hj => by
    have e : (k + 1) * nf + j = nf + (k * nf + j) := by rw [Nat.add_mul]; omega
    simp only [many]
    rw [e, List.getElem?_append_right (by omega), show nf + (k * nf + j) - ts.length = k * nf + j by omega]
    exact many_at hn (by omega) hj

/-- A literal of n elements, in new memory. -/
def LitC (base n : Nat) (ts : List CT) (v : Value) (w : World) : Prop := ∃ b C T, v = .slice (some ⟨b, 0, none⟩) n n ∧ w.heap[b]? = some (.cells C T) ∧ base ≤ b ∧ HasAll (many n ts) C.toList
theorem LitC.chg {base n : Nat} {ts : List CT} {v : Value} {w w' : World} {S : Nat → Prop} (h : LitC base n ts v w) (k : Chg S w w') (hS : ∀ b, S b → b < base) : LitC base n ts v w' := by
  obtain ⟨b, C, T, h1, h2, h3, h4⟩ := h
  exact ⟨b, C, T, h1, (k.block b (Array.getElem?_eq_some_iff.1 h2).1 (fun e => by have := hS b e; omega)).trans h2, h3, h4⟩
theorem LitC.mk {base n b : Nat} {ts : List CT} {w : World} {C : Array Value} {T : TypeId} (hg : base ≤ w.heap.size) (h : HasAll (many n ts) C.toList) (hb : b = w.heap.size) : LitC base n ts (.slice (some ⟨b, 0, none⟩) n n) (w.alloc (.cells C T)) :=
  ⟨b, C, T, rfl, by rw [hb]; exact heap_alloc_new w _, by omega, h⟩
/-- A place in one. -/
def PtrC (base : Nat) (ts : List CT) (v : Value) (w : World) : Prop := ∃ b o, v = .pointer (some ⟨b, o, none⟩) ∧ base ≤ b ∧ b < w.heap.size ∧ ∀ j t, ts[j]? = some t → ∃ u, w.cell? ⟨b, o + j, none⟩ = some u ∧ t.has u
theorem PtrC.chg {base : Nat} {ts : List CT} {v : Value} {w w' : World} {S : Nat → Prop} (h : PtrC base ts v w) (k : Chg S w w') (hS : ∀ b, S b → b < base) : PtrC base ts v w' := by
  obtain ⟨b, o, h1, h2, h3, h4⟩ := h
  refine ⟨b, o, h1, h2, Nat.lt_of_lt_of_le h3 k.size, fun j t hj => ?_⟩
  obtain ⟨u, hu, ht⟩ := h4 j t hj
  exact ⟨u, by rw [World.cell?_of_block (w := w) (k.block b h3 (fun e => by have := hS b e; omega))]; exact hu, ht⟩
theorem LitC.ptr {base n b : Nat} {ts : List CT} {nf : Nat} {w : World} (hn : ts.length = nf) (h : LitC base n ts (.slice (some ⟨b, 0, none⟩) n n) w) {k : Nat} (hk : k < n) : PtrC base ts (.pointer (some ⟨b, k * nf, none⟩)) w := by
  obtain ⟨b', C, T, h1, h2, h3, h4⟩ := h
  simp only [Value.slice.injEq, Option.some.injEq, Addr.mk.injEq, true_and, and_true] at h1
  subst h1
  refine ⟨b, k * nf, rfl, h3, (Array.getElem?_eq_some_iff.1 h2).1, fun j t hj => ?_⟩
  obtain ⟨u, hu, ht⟩ := h4.at_ (many_at hn hk hj)
  refine ⟨u, ?_, ht⟩
  simp only [World.cell?, h2]
  simpa using hu
/-- A struct of cells. -/
def AggC (ts : List CT) (v : Value) : Prop := ∃ vs : List Value, v = .agg vs.toArray ∧ HasAll ts vs
/-- The reader went on; nothing of ours is the reader. -/
theorem SepM.readD {w0 w w' : World} {H : List Pl} {g : Nat} (S : Sep w0 w H) (hS : Step g w w') (hg : w0.heap.size ≤ g) (hn : ∀ p ∈ H, ¬ p.own g) : Sep w0 w' H :=
  ⟨Chg.of_ext (Step.toExt S.ext hS hg), by simp, fun p hp => p.frame w w' (S.ok p hp) (fun b hb => heap_step hS (fun e => hn p hp (by rw [← e]; exact hb)) (S.lt hp hb).2), S.base, S.apart⟩
theorem SepM.readOwn {α : Type} {w0 w w' : World} {H : List Pl} {g base e nf : Nat} {enc : α → List Value} {v : Value} {l : List α} (S : Sep w0 w H) (hS : Step g w w') (hg : w0.heap.size ≤ g) (hn : ∀ p ∈ H, ¬ p.own g)
    (ho : w'.ownsRow base e nf v l.length (l.flatMap enc)) (hb : w.heap.size ≤ base) : Sep w0 w' (plRow e nf enc v l :: H) := by
  have S' := S.readD hS hg hn
  have hlt : ∀ b, v.ownBlock = some b → w.heap.size ≤ b := fun b h => Nat.le_trans hb (World.ownsRow.lt ho b h).1
  refine ⟨S'.chg, by simp, fun p hp => ?_, fun p hp b h => ?_, List.pairwise_cons.2 ⟨fun q hq b h h2 => ?_, S.apart⟩⟩
  · rcases List.mem_cons.1 hp with rfl | hp
    · exact ownsRow_base ho (Nat.zero_le _)
    · exact S'.ok p hp
  · rcases List.mem_cons.1 hp with rfl | hp
    · exact Nat.le_trans S.ext.size (hlt b h)
    · exact S.base p hp b h
  · have h3 := (S.lt hq h2).2
    have h4 := hlt b h
    omega
theorem Chg.of_step {g : Nat} {w w' : World} (h : Step g w w') : Chg (fun b => b = g) w w' := ⟨h.os, h.tape, h.output, World.grownBy.size h, fun k hk hn => heap_step h hn hk⟩
theorem Chg.step {g : Nat} {w w' : World} (h : Chg (fun b => b = g) w w') : Step g w w' := ⟨h.os, h.tape, h.output, h.size, fun k hk hn => h.block k hk (fun e => hn (by rw [e]))⟩
/-- Blocks of ours that are none of these pieces' were written. -/
theorem SepM.others {S' : Nat → Prop} {w0 w w' : World} {H : List Pl} (S : Sep w0 w H) (hc : Chg S' w w') (hS : ∀ b, S' b → w0.heap.size ≤ b) (hn : ∀ p ∈ H, ∀ b, p.own b → ¬ S' b) : Sep w0 w' H :=
  ⟨Chg.of_ext (Chg.ext S.ext hc hS), by simp, fun p hp => p.frame w w' (S.ok p hp) (fun b hb => hc.block b (S.lt hp hb).2 (hn p hp b hb)), S.base, S.apart⟩
theorem box_set {w : World} {B : Nat} {C : Array Value} {t : TypeId} (h : w.heap[B]? = some (.cells C t)) (o : Nat) (u : Value) : (w.setCell ⟨B, o, none⟩ u).heap[B]? = some (.cells (C.setIfInBounds o u) t) := by
  simp [World.setCell, Array.getElem?_modify, h]
/-- A box that is not the reader and holds no bytes was written. -/
theorem Src.chgBox {g B : Nat} {P : Int} {w w' : World} {C : Array Value} {t : TypeId} (h : Src g P w) (hc : Chg (fun b => b = B) w w') (hne : B ≠ g) (hb : w.heap[B]? = some (.cells C t)) (hC : ∀ (o : Nat) (x : Int), C[o]? ≠ some (.int .u8 x)) : Src g P w' := by
  obtain ⟨ab, cb, l, p, hg, h0, h1, h2, h3, h4, h5⟩ := h
  refine ⟨ab, cb, l, p, (hc.block g (Array.getElem?_eq_some_iff.1 hg).1 (fun e => hne e.symm)).trans hg, h0, h1, h2, h3, fun i hi => ?_, h5⟩
  obtain ⟨b, off, ha, hcs⟩ := h4 i hi
  refine ⟨b, off, ha, fun j u hu => ?_⟩
  have hcu := hcs j u hu
  have hlt := World.block_lt_of_cell? _ _ hcu
  have hu8 : ∃ x : Int, u = .int .u8 x := by
    match j, hu with
    | 0, hu => exact ⟨_, (Option.some.inj hu).symm⟩
    | (n + 1), hu => simp [encU8] at hu
  obtain ⟨x, rfl⟩ := hu8
  have hnb : b ≠ B := fun e => by
    subst e
    simp only [World.cell?, hb] at hcu
    exact hC _ x (by simpa using hcu)
  rw [World.cell?_of_block (w := w) (hc.block b hlt hnb)]
  exact hcu
/-- From a draw's callee to the draw: the reader is new. -/
theorem SepM.toSep {g : Nat} {w w1 w2 : World} {H : List Pl} (S : SepM (fun b => b = g) w1 w2 H) (hE : Ext w w1) (hg : w.heap.size ≤ g) : Sep w w2 H :=
  ⟨Chg.of_ext (Chg.ext hE S.chg (fun k h => by rw [h]; exact hg)), by simp, S.ok, fun p hp b hb => Nat.le_trans hE.size (S.base p hp b hb), S.apart⟩
/-- .. onto what the draw has already. -/
theorem SepM.readCall {g : Nat} {w0 w w' : World} {H H' : List Pl} (S : Sep w0 w H) (T : SepM (fun b => b = g) w w' H') (hg : w0.heap.size ≤ g) (hn : ∀ p ∈ H, ¬ p.own g) : Sep w0 w' (H' ++ H) := by
  have hS : Step g w w' := T.chg.step
  have S' := S.readD hS hg hn
  refine ⟨S'.chg, by simp, fun p hp => ?_, fun p hp b h => ?_, List.pairwise_append.2 ⟨T.apart, S.apart, fun p hp q hq b h h2 => ?_⟩⟩
  · rcases List.mem_append.1 hp with hp | hp
    · exact T.ok p hp
    · exact S'.ok p hp
  · rcases List.mem_append.1 hp with hp | hp
    · exact Nat.le_trans S.ext.size (T.base p hp b h)
    · exact S.base p hp b h
  · have h3 := (S.lt hq h2).2
    have h4 := T.base p hp b h
    omega
end Go.Proofs.Ytpnllhdgpfbaiaa
