/- What a draw's operations leave: values within bounds, literals of such, places in them. No condition. -/
import Derived.Test.YtlbnfnfaojjpaaaDraw
import Derived.Test.YtlbnfnfaojjpaaaOrdS
import Derived.Test.YtlbnfnfaojjpaaaSep
namespace Go.Proofs.Ytlbnfnfaojjpaaa
open Go.RowKit

/-- A cell's kind and bounds. -/
inductive CT where
  | int (lo hi : Int)
  | str (n : Nat)
  | bool
def CT.has : CT → Value → Prop
  | .int lo hi, v => ∃ x : Int, v = .int .i64 x ∧ lo ≤ x ∧ x ≤ hi
  | .str n, v => ∃ s : ByteArray, v = .string s ∧ s.size ≤ n
  | .bool, v => ∃ b, v = .bool b
theorem CT.int_mk {lo hi x : Int} (h : lo ≤ x ∧ x ≤ hi := by omega) : (CT.int lo hi).has (.int .i64 x) := ⟨x, rfl, h.1, h.2⟩
theorem CT.str_mk {n : Nat} {s : ByteArray} (h : s.size ≤ n := by decide) : (CT.str n).has (.string s) := ⟨s, rfl, h⟩
theorem CT.bool_mk {b : Bool} : CT.bool.has (.bool b) := ⟨b, rfl⟩

def HasAll : List CT → List Value → Prop
  | [], [] => True
  | t :: ts, v :: vs => t.has v ∧ HasAll ts vs
  | _, _ => False
theorem HasAll.length : ∀ {ts : List CT} {vs : List Value}, HasAll ts vs → ts.length = vs.length
  | [], [], _ => rfl
  | _ :: _, _ :: _, h => by simp [h.2.length]
theorem HasAll.at_ : ∀ {ts : List CT} {vs : List Value}, HasAll ts vs → ∀ {j : Nat} {t : CT}, ts[j]? = some t → ∃ v, vs[j]? = some v ∧ t.has v
  | _ :: _, v :: _, h, 0, t, hj => by
    simp only [List.getElem?_cons_zero, Option.some.injEq] at hj
    subst hj
    exact ⟨v, rfl, h.1⟩
  | _ :: ts, _ :: vs, h, j + 1, t, hj => by
    simp only [List.getElem?_cons_succ] at hj ⊢
    exact h.2.at_ hj

/-- ts, n times. -/
def many (n : Nat) (ts : List CT) : List CT := match n with | 0 => [] | n + 1 => ts ++ many n ts
theorem many_at {ts : List CT} {nf : Nat} (hn : ts.length = nf) : ∀ {n k j : Nat} {t : CT}, k < n → ts[j]? = some t → (many n ts)[k * nf + j]? = some t
  | n + 1, 0, j, t, _, hj => by
    have := (List.getElem?_eq_some_iff.1 hj).1
    simp only [many, Nat.zero_mul, Nat.zero_add]
    rw [List.getElem?_append_left this]; exact hj
  | n + 1, k + 1, j, t, hk, hj => by
    have e : (k + 1) * nf + j = nf + (k * nf + j) := by rw [Nat.add_mul]; omega
    simp only [many]
    rw [e, List.getElem?_append_right (by omega), show nf + (k * nf + j) - ts.length = k * nf + j by omega]
    exact many_at hn (by omega) hj

/-- A literal of n elements, apart from the reader. -/
def LitC (g n : Nat) (ts : List CT) (v : Value) (w : World) : Prop := ∃ b C T, v = .slice (some ⟨b, 0, none⟩) n n ∧ w.heap[b]? = some (.cells C T) ∧ b ≠ g ∧ HasAll (many n ts) C.toList
theorem LitC.step {g n : Nat} {ts : List CT} {v : Value} {w w' : World} (h : LitC g n ts v w) (k : Step g w w') : LitC g n ts v w' := by
  obtain ⟨b, C, T, h1, h2, h3, h4⟩ := h
  exact ⟨b, C, T, h1, (heap_step k h3 (Array.getElem?_eq_some_iff.1 h2).1).trans h2, h3, h4⟩
theorem LitC.mk {g n b : Nat} {ts : List CT} {w : World} {C : Array Value} {T : TypeId} (hg : g < w.heap.size) (h : HasAll (many n ts) C.toList) (hb : b = w.heap.size) : LitC g n ts (.slice (some ⟨b, 0, none⟩) n n) (w.alloc (.cells C T)) :=
  ⟨b, C, T, rfl, by rw [hb]; exact heap_alloc_new w _, by omega, h⟩
/-- A place in one. -/
def PtrC (g : Nat) (ts : List CT) (v : Value) (w : World) : Prop := ∃ b o, v = .pointer (some ⟨b, o, none⟩) ∧ b ≠ g ∧ b < w.heap.size ∧ ∀ j t, ts[j]? = some t → ∃ u, w.cell? ⟨b, o + j, none⟩ = some u ∧ t.has u
theorem PtrC.step {g : Nat} {ts : List CT} {v : Value} {w w' : World} (h : PtrC g ts v w) (k : Step g w w') : PtrC g ts v w' := by
  obtain ⟨b, o, h1, h2, h3, h4⟩ := h
  refine ⟨b, o, h1, h2, Nat.lt_of_lt_of_le h3 k.size, fun j t hj => ?_⟩
  obtain ⟨u, hu, ht⟩ := h4 j t hj
  exact ⟨u, cell_step k h2 hu, ht⟩
theorem LitC.ptr {g n b : Nat} {ts : List CT} {nf : Nat} {w : World} (hn : ts.length = nf) (h : LitC g n ts (.slice (some ⟨b, 0, none⟩) n n) w) {k : Nat} (hk : k < n) : PtrC g ts (.pointer (some ⟨b, k * nf, none⟩)) w := by
  obtain ⟨b', C, T, h1, h2, h3, h4⟩ := h
  simp only [Value.slice.injEq, Option.some.injEq, Addr.mk.injEq, true_and, and_true] at h1
  subst h1
  refine ⟨b, k * nf, rfl, h3, (Array.getElem?_eq_some_iff.1 h2).1, fun j t hj => ?_⟩
  obtain ⟨u, hu, ht⟩ := h4.at_ (many_at hn hk hj)
  refine ⟨u, ?_, ht⟩
  simp only [World.cell?, h2]
  simpa using hu
/-- A struct of cells. -/
def AggC (ts : List CT) (v : Value) : Prop := ∃ vs : List Value, v = .agg vs.toArray ∧ HasAll ts vs
/-- The reader went on; nothing of ours is the reader. -/
theorem Sep.readD {w0 w w' : World} {H : List Pl} {g : Nat} (S : Sep w0 w H) (hS : Step g w w') (hg : w0.heap.size ≤ g) (hn : ∀ p ∈ H, ¬ p.own g) : Sep w0 w' H :=
  ⟨Step.toExt S.ext hS hg, fun p hp => p.frame w w' (S.ok p hp) (fun b hb => heap_step hS (fun e => hn p hp (by rw [← e]; exact hb)) (S.lt hp hb).2), S.base, S.apart⟩
theorem Sep.readOwn {α : Type} {w0 w w' : World} {H : List Pl} {g base e nf : Nat} {enc : α → List Value} {v : Value} {l : List α} (S : Sep w0 w H) (hS : Step g w w') (hg : w0.heap.size ≤ g) (hn : ∀ p ∈ H, ¬ p.own g)
    (ho : w'.ownsRow base e nf v l.length (l.flatMap enc)) (hb : w.heap.size ≤ base) : Sep w0 w' (plRow e nf enc v l :: H) := by
  have S' := S.readD hS hg hn
  have hlt : ∀ b, v.ownBlock = some b → w.heap.size ≤ b := fun b h => Nat.le_trans hb (World.ownsRow.lt ho b h).1
  refine ⟨S'.ext, fun p hp => ?_, fun p hp b h => ?_, List.pairwise_cons.2 ⟨fun q hq b h h2 => ?_, S.apart⟩⟩
  · rcases List.mem_cons.1 hp with rfl | hp
    · exact ownsRow_base ho (Nat.zero_le _)
    · exact S'.ok p hp
  · rcases List.mem_cons.1 hp with rfl | hp
    · exact Nat.le_trans S.ext.size (hlt b h)
    · exact S.base p hp b h
  · have h3 := (S.lt hq h2).2
    have h4 := hlt b h
    omega
end Go.Proofs.Ytlbnfnfaojjpaaa
