/- What lasts where blocks of one kind change; a piece that comes to others below a bound. No condition. -/
import Derived.Test.YtpnllhdgpfbaiaaTab
namespace Go.Proofs.Ytpnllhdgpfbaiaa
open Go.RowKit

theorem heapx {w w' : World} {b : Nat} {o : Obj} (hE : Ext w w') (h : w.heap[b]? = some o) : w'.heap[b]? = some o := by
  rw [hE.block b (Array.getElem?_eq_some_iff.1 h).1]; exact h
theorem heap_chg {S : Nat → Prop} {w w' : World} {b : Nat} {o : Obj} (h : w.heap[b]? = some o) (hc : Chg S w w') (hn : ¬ S b) : w'.heap[b]? = some o :=
  (hc.block b (Array.getElem?_eq_some_iff.1 h).1 hn).trans h
theorem cell_chg {S : Nat → Prop} {w w' : World} {b o : Nat} {v : Value} (h : w.cell? ⟨b, o, none⟩ = some v) (hc : Chg S w w') (hn : ¬ S b) : w'.cell? ⟨b, o, none⟩ = some v := by
  rw [World.cell?_of_block (w := w) (hc.block b (World.block_lt_of_cell? w ⟨b, o, none⟩ h) hn)]; exact h
theorem ownsRow_chg {S : Nat → Prop} {w w' : World} {base e nf : Nat} {v : Value} {n : Nat} {xs : List Value} (h : w.ownsRow base e nf v n xs) (hc : Chg S w w') (hS : ∀ b, base ≤ b → ¬ S b) : w'.ownsRow base e nf v n xs := by
  refine ⟨h.1, ?_⟩
  rcases h.2 with h2 | ⟨b, cap, cur, hv, hb, hh, r⟩
  · exact .inl h2
  · exact .inr ⟨b, cap, cur, hv, hb, heap_chg hh hc (hS b hb), r⟩
theorem SepM.consAt {M : Nat → Prop} {w0 w : World} {H : List Pl} {p : Pl} {B : Nat} (S : SepM M w0 w H) (hp : p.ok w) (hB : w0.heap.size ≤ B) (hn : ∀ b, p.own b → B ≤ b) (hH : ∀ q ∈ H, ∀ b, q.own b → b < B) : SepM M w0 w (p :: H) :=
  ⟨S.chg, S.small, fun q hq => by
    rcases List.mem_cons.1 hq with rfl | hq
    · exact hp
    · exact S.ok q hq, fun q hq b hb => by
    rcases List.mem_cons.1 hq with rfl | hq
    · exact Nat.le_trans hB (hn b hb)
    · exact S.base q hq b hb, List.pairwise_cons.2 ⟨fun q hq b h h2 => by
    have h3 := hn b h
    have h4 := hH q hq b h2
    omega, S.apart⟩⟩
end Go.Proofs.Ytpnllhdgpfbaiaa
