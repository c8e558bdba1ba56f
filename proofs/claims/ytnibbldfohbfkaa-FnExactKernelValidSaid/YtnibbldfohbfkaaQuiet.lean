/- A region that draws its order, whose operations read and whose callees may make memory: one walk in the order of the text, in every world that has only grown. No condition. -/
import Derived.Test.YtnibbldfohbfkaaBase
import Derived.BigQuiet
namespace Go.Proofs.Ytnibbldfohbfkaa
open Go.RowKit

/-- A world that has grown out of w. -/
structure ExtW (w : World) where
  x : World
  h : Ext w x

instance (w : World) : Nonempty (ExtW w) := ⟨⟨w, Ext.refl w⟩⟩

theorem wp_region_quiet_ext {P : Program} {id : Nat} {Q : Exit → Act → World → Prop} {a : Act} {w : World} {l : List Oper} (hm : P.follows .mixedOrders = true) (hB : Region.lexB .any l.toArray = true)
    (h : wpQuiet P l.toArray (fun w' => ∃ s : ExtW w, w' = s.x) (fun a' => ∀ w', (∃ s : ExtW w, w' = s.x) → Q .normal a' w') l a) : (Code.region id l.toArray true).wp P Q a w :=
  wp_region_quiet (C := fun w' => ∃ s : ExtW w, w' = s.x) hm hB ⟨⟨w.drew, (Ext.refl w).drew⟩, rfl⟩ (by simpa using h)

theorem ExtW.cell {w : World} {b o : Nat} {v : Value} (h : w.cell? ⟨b, o, none⟩ = some v) : ∀ s : ExtW w, s.x.cell? ⟨b, o, none⟩ = some v := fun s => cell_ext s.h h
theorem ExtW.lt {w : World} {b o : Nat} {v : Value} (h : w.cell? ⟨b, o, none⟩ = some v) : ∀ s : ExtW w, b < s.x.heap.size := fun s => Nat.lt_of_lt_of_le (World.block_lt_of_cell? w ⟨b, o, none⟩ h) s.h.size
theorem Calls.at_b {P : Program} {f : FuncId} {args : Array Value} {w : World} {s : ExtW w} {T : Prop} (b : Bool) (hT : (b = true ↔ T)) (h : Calls P f args s.x (RetB T s.x)) : Calls P f args s.x fun e w'' => e = .returned (.bool b) ∧ ∃ s' : ExtW w, w'' = s'.x :=
  h.mono fun e w2 ⟨b', he, hb, hE⟩ => by
    obtain rfl : b' = b := Bool.eq_iff_iff.2 (hb.trans hT.symm)
    exact ⟨he, ⟨w2, s.h.trans hE⟩, rfl⟩
theorem Calls.at_same {P : Program} {f : FuncId} {args : Array Value} {w : World} {s : ExtW w} {v : Value} (h : Calls P f args s.x fun e w' => e = .returned v ∧ s.x = w') : Calls P f args s.x fun e w'' => e = .returned v ∧ ∃ s' : ExtW w, w'' = s'.x :=
  h.mono fun e w2 ⟨he, hw⟩ => ⟨he, s, hw.symm⟩

theorem Rd.take {α : Type} {nf : Nat} {enc : α → List Value} {w : World} {a : Option Addr} {l : List α} (h : Rd nf enc w a l) (k : Nat) : Rd nf enc w a (l.take k) := by
  intro i hi
  have hi' : i < l.length := by simp at hi; omega
  obtain ⟨b, off, ha, hc⟩ := h i hi'
  exact ⟨b, off, ha, fun j u hu => hc j u (by simpa using hu)⟩

theorem app1 (a b : Value) : (#[a] ++ #[b] : Array Value) = #[a, b] := rfl

end Go.Proofs.Ytnibbldfohbfkaa
