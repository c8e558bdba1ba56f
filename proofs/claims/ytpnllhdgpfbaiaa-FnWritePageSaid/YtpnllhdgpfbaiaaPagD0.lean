/- Memories that a draw builds: a row of the rows grows; memories as values. No condition. -/
import Derived.Test.YtpnllhdgpfbaiaaPagY
import Derived.Test.YtpnllhdgpfbaiaaBT
import Derived.Test.YtpnllhdgpfbaiaaOrdD
namespace Go.Proofs.Ytpnllhdgpfbaiaa
open Go.RowKit

section
variable {M : Nat → Prop} {w0 w w' : World} {H : List Pl}
/-- One of the rows grows: its slice is written anew. -/
theorem SepM.tabGrow (S : SepM M w0 w H) (i : Nat) {g n cap : Nat} {vs : List Sl} {T : List (List Int)} (hi : H[i]? = some (plTab (.slice (some ⟨g, 0, none⟩) n cap) vs T)) {k base : Nat} {s s' : Sl} {t' : List Int} (hs : vs[k]? = some s)
    (hg : Chg (fun b => s.v.ownBlock = some b) w w') (ho : w'.ownsRow base 3 1 s'.v t'.length (t'.flatMap encInt1)) (hblk : ∀ b, s'.v.ownBlock = some b → s.v.ownBlock = some b ∨ w.heap.size ≤ b) :
    SepM M w0 (w'.setCell ⟨g, k, none⟩ s'.v) (H.set i (plTab (.slice (some ⟨g, 0, none⟩) n cap) (vs.set k s') (T.set k t'))) := by
  obtain ⟨h1, h2, h3, h4, h5⟩ := S.at_ i hi
  have him := List.mem_of_getElem? hi
  have hk := (List.getElem?_eq_some_iff.1 hs).1
  have hsm := List.mem_of_getElem? hs
  have hlen : n = vs.length := by
    rcases h1.2 with ⟨e, _⟩ | ⟨g', cap', cur, e, _⟩
    · simp at e
    · simp only [Value.slice.injEq] at e; exact e.2.1
  have hgb : g < w.heap.size := (S.lt him (show (plTab (.slice (some ⟨g, 0, none⟩) n cap) vs T).own g from .inl rfl)).2
  have hltv : ∀ s2 ∈ vs, ∀ b, s2.v.ownBlock = some b → b < w.heap.size := fun s2 hs2 b hb => (S.lt him (show (plTab (.slice (some ⟨g, 0, none⟩) n cap) vs T).own b from .inr ⟨s2, hs2, hb⟩)).2
  have row1 := (plRow 22 1 encSl (.slice (some ⟨g, 0, none⟩) n cap) vs).frame w w' h1 (fun b hb => hg.block b ((plRow 22 1 encSl (.slice (some ⟨g, 0, none⟩) n cap) vs).lt w b h1 hb) (fun e => h4 s hsm b e hb))
  have hset := owns_set encSl_len (show w'.ownsRow 0 22 1 (.slice (some ⟨g, 0, none⟩) n cap) n (vs.flatMap encSl) by rw [hlen]; have := row1; rw [hlen] at this; exact this) k 0 s'.v s' hk (by omega) rfl
  rw [Nat.mul_one, Nat.add_zero] at hset
  have hch : Chg (fun b => s.v.ownBlock = some b ∨ b = g) w (w'.setCell ⟨g, k, none⟩ s'.v) := (hg.mono (fun b hb _ => .inl hb)).trans ((Chg.setCell w' g k s'.v).mono (fun b hb _ => .inr hb))
  have hng : ∀ b, s'.v.ownBlock = some b → b ≠ g := fun b hb e => by
    subst e
    rcases hblk b hb with h | h
    · exact h4 s hsm b h rfl
    · omega
  refine S.put i hi (hch.mono (fun b hb _ => hb.elim (fun h => .inr ⟨s, hsm, h⟩) (fun h => .inl (by rw [h]; rfl)))) ⟨by rw [List.length_set, ← hlen]; exact hset, by simp [h2], fun l s2 t2 hs2 ht2 => ?_, fun s2 hs2 b hb hb2 => ?_, fun l m s2 s3 hlm hs2 hs3 b hb hb3 => ?_⟩ (fun b hb => ?_)
  · by_cases hlk : k = l
    · subst hlk
      rw [List.getElem?_set_self hk] at hs2
      rw [List.getElem?_set_self (by omega)] at ht2
      cases hs2; cases ht2
      exact (plRow 3 1 encInt1 s'.v t').frame w' _ (ownsRow_base ho (Nat.zero_le _)) (fun b hb => (Chg.setCell w' g k s'.v).block b (World.ownsRow.lt ho b hb).2 (hng b hb))
    · rw [List.getElem?_set_ne hlk] at hs2 ht2
      have h6 := h3 l s2 t2 hs2 ht2
      exact (plRow 3 1 encInt1 s2.v t2).frame w _ h6 (fun b hb => hch.block b (hltv s2 (List.mem_of_getElem? hs2) b hb) (fun e => e.elim (fun e => h5 k l s s2 hlk hs hs2 b e hb) (fun e => h4 s2 (List.mem_of_getElem? hs2) b hb (by rw [e]; rfl))))
  · rcases List.mem_or_eq_of_mem_set hs2 with hs2 | rfl
    · exact h4 s2 hs2 b hb hb2
    · exact hng b hb (Option.some.inj hb2).symm
  · by_cases hlk : k = l
    · subst hlk
      rw [List.getElem?_set_self hk] at hs2
      cases hs2
      rw [List.getElem?_set_ne hlm] at hs3
      rcases hblk b hb with h | h
      · exact h5 k m s s3 hlm hs hs3 b h hb3
      · have := hltv s3 (List.mem_of_getElem? hs3) b hb3; omega
    · rw [List.getElem?_set_ne hlk] at hs2
      by_cases hmk : k = m
      · subst hmk
        rw [List.getElem?_set_self hk] at hs3
        cases hs3
        rcases hblk b hb3 with h | h
        · exact h5 k l s s2 hlk hs hs2 b h hb
        · have := hltv s2 (List.mem_of_getElem? hs2) b hb; omega
      · rw [List.getElem?_set_ne hmk] at hs3
        exact h5 l m s2 s3 hlm hs2 hs3 b hb hb3
  · rcases hb with hb | ⟨s2, hs2, hb⟩
    · exact .inl (.inl hb)
    · rcases List.mem_or_eq_of_mem_set hs2 with hs2 | rfl
      · exact .inl (.inr ⟨s2, hs2, hb⟩)
      · rcases hblk b hb with h | h
        · exact .inl (.inr ⟨s, hsm, h⟩)
        · exact .inr h
end

/-- A memory of few short rows, all of it new. -/
structure MemI (base : Nat) (a1 : Option Addr) (c1 : Nat) (F : List Int) (a2 : Option Addr) (c2 : Nat) (vs : List Sl) (T : List (List Int)) (w : World) : Prop where
  small : Small F T
  tab : (plTab (.slice a2 T.length c2) vs T).ok w
  row : (plRow 3 1 encInt1 (.slice a1 F.length c1) F).ok w
  tabB : ∀ b, (plTab (.slice a2 T.length c2) vs T).own b → base ≤ b
  rowB : ∀ b, (plRow 3 1 encInt1 (.slice a1 F.length c1) F).own b → base ≤ b
  apart : ∀ b, (plTab (.slice a2 T.length c2) vs T).own b → ¬ (plRow 3 1 encInt1 (.slice a1 F.length c1) F).own b
theorem MemI.of_sep {w w' : World} {a1 : Option Addr} {c1 : Nat} {F : List Int} {a2 : Option Addr} {c2 : Nat} {vs : List Sl} {T : List (List Int)} {base : Nat} (h : Small F T) (S : Sep w w' [plTab (.slice a2 T.length c2) vs T, plRow 3 1 encInt1 (.slice a1 F.length c1) F]) (hb : base ≤ w.heap.size) : MemI base a1 c1 F a2 c2 vs T w' :=
  ⟨h, S.at_ 0 rfl, S.at_ 1 rfl, fun b ho => Nat.le_trans hb (S.base _ (by simp) b ho), fun b ho => Nat.le_trans hb (S.base (plRow 3 1 encInt1 (.slice a1 F.length c1) F) (by simp) b ho), fun b ho => S.ne (i := 0) (j := 1) rfl rfl (by omega) ho⟩
theorem MemI.frame {base : Nat} {a1 : Option Addr} {c1 : Nat} {F : List Int} {a2 : Option Addr} {c2 : Nat} {vs : List Sl} {T : List (List Int)} {w w' : World} (h : MemI base a1 c1 F a2 c2 vs T w) (hf : ∀ b, base ≤ b → ((plTab (.slice a2 T.length c2) vs T).own b ∨ (plRow 3 1 encInt1 (.slice a1 F.length c1) F).own b) → b < w.heap.size → w'.heap[b]? = w.heap[b]?) : MemI base a1 c1 F a2 c2 vs T w' :=
  ⟨h.small, (plTab (.slice a2 T.length c2) vs T).frame w w' h.tab (fun b hb => hf b (h.tabB b hb) (.inl hb) ((plTab (.slice a2 T.length c2) vs T).lt w b h.tab hb)), (plRow 3 1 encInt1 (.slice a1 F.length c1) F).frame w w' h.row (fun b hb => hf b (h.rowB b hb) (.inr hb) ((plRow 3 1 encInt1 (.slice a1 F.length c1) F).lt w b h.row hb)), h.tabB, h.rowB, h.apart⟩
theorem MemI.step {g base : Nat} {a1 : Option Addr} {c1 : Nat} {F : List Int} {a2 : Option Addr} {c2 : Nat} {vs : List Sl} {T : List (List Int)} {w w' : World} (h : MemI base a1 c1 F a2 c2 vs T w) (k : Step g w w') (hg : g < base) : MemI base a1 c1 F a2 c2 vs T w' :=
  h.frame (fun b hb _ hlt => heap_step k (by omega) hlt)
/-- A box of another type is none of its blocks. -/
theorem MemI.notBox {base B : Nat} {a1 : Option Addr} {c1 : Nat} {F : List Int} {a2 : Option Addr} {c2 : Nat} {vs : List Sl} {T : List (List Int)} {w : World} {C : Array Value} (h : MemI base a1 c1 F a2 c2 vs T w) (hB : w.heap[B]? = some (.cells C 28)) :
    ¬ (plTab (.slice a2 T.length c2) vs T).own B ∧ ¬ (plRow 3 1 encInt1 (.slice a1 F.length c1) F).own B := by
  refine ⟨fun ho => ?_, fun ho => blk_type h.row hB (by decide) ho⟩
  obtain ⟨h1, h2, h3, _⟩ := h.tab
  rcases ho with ho | ⟨s, hs, ho⟩
  · exact blk_type h1 hB (by decide) ho
  · obtain ⟨i, hi⟩ := List.getElem?_of_mem hs
    have hil := (List.getElem?_eq_some_iff.1 hi).1
    exact blk_type (h3 i s T[i] hi (List.getElem?_eq_getElem (by omega))) hB (by decide) ho
theorem MemI.set {base B : Nat} {a1 : Option Addr} {c1 : Nat} {F : List Int} {a2 : Option Addr} {c2 : Nat} {vs : List Sl} {T : List (List Int)} {w : World} {C : Array Value} (h : MemI base a1 c1 F a2 c2 vs T w) (hB : w.heap[B]? = some (.cells C 28)) (x y : Value) : MemI base a1 c1 F a2 c2 vs T ((w.setCell ⟨B, 0, none⟩ x).setCell ⟨B, 1, none⟩ y) := by
  obtain ⟨n1, n2⟩ := h.notBox hB
  refine h.frame (fun b _ ho hlt => ?_)
  have hne : b ≠ B := fun e => by subst e; exact ho.elim n1 n2
  exact (Below.heap_setCell _ _ _ _ (fun e => hne e)).trans (Below.heap_setCell _ _ _ _ (fun e => hne e))
/-- As the pieces of one fact. -/
theorem SepM.ofMemI {g base : Nat} {a1 : Option Addr} {c1 : Nat} {F : List Int} {a2 : Option Addr} {c2 : Nat} {vs : List Sl} {T : List (List Int)} {w0 w w' : World} {H : List Pl} (S : SepM (fun b => b = g) w0 w H) (hc : Chg (fun b => b = g) w w') (h : MemI base a1 c1 F a2 c2 vs T w') (hb : w.heap.size ≤ base) :
    SepM (fun b => b = g) w0 w' (plTab (.slice a2 T.length c2) vs T :: plRow 3 1 encInt1 (.slice a1 F.length c1) F :: H) :=
  S.otherCall [plTab (.slice a2 T.length c2) vs T, plRow 3 1 encInt1 (.slice a1 F.length c1) F] hc (by simp only [List.mem_cons, List.not_mem_nil, or_false, forall_eq_or_imp, forall_eq]; exact ⟨h.tab, h.row⟩) (by simp only [List.mem_cons, List.not_mem_nil, or_false, forall_eq_or_imp, forall_eq]; exact ⟨fun b ho => Nat.le_trans hb (h.tabB b ho), fun b ho => Nat.le_trans hb (h.rowB b ho)⟩) (by simp only [List.pairwise_cons, List.mem_singleton, forall_eq]; exact ⟨h.apart, by simp⟩)
end Go.Proofs.Ytpnllhdgpfbaiaa
