/- The draws of gates. No condition but small sizes. -/
import Derived.Test.YtcnghlmndahfpaaGateM
import Derived.Test.YtcnghlmndahfpaaDrawF
import Derived.Test.YtcnghlmndahfpaaBT
import Derived.Test.YtcnghlmndahfpaaOrdD
namespace Go.Proofs.Ytcnghlmndahfpaa
open Go.RowKit

/-- A gate in new memory, and a number beside it. -/
def GateG (base K : Nat) (v : Value) (w : World) : Prop := ∃ f u, ∃ L : List Int, v = .agg #[.int .i64 f, u] ∧ L.length ≤ K ∧ w.ownsRow base 3 1 u L.length (L.flatMap encInt1)
def GateT (base K : Nat) (v : Value) (w : World) : Prop := ∃ f u, ∃ L : List Int, ∃ n, v = .tuple #[.agg #[.int .i64 f, u], .int .i64 n] ∧ L.length ≤ K ∧ w.ownsRow base 3 1 u L.length (L.flatMap encInt1)
theorem entR_le {f : Int} {l : List Int} {who f' n : Int} {L : List Int} (h : EntR f l who f' L n) : L.length ≤ l.length + 1 := by
  rcases h with ⟨_, _, rfl, _⟩ | ⟨c, ⟨_, _, rfl, _⟩ | ⟨_, _, _, rfl, _⟩ | ⟨_, _, _, rfl, _⟩⟩ <;> simp
theorem leaR_le {f : Int} {l : List Int} {f' n : Int} {L : List Int} (h : LeaR f l f' L n) : L.length ≤ l.length := by
  rcases h with ⟨_, _, rfl, _⟩ | ⟨_, ⟨x, t, rfl, _, rfl, _⟩ | ⟨_, _, _, rfl, _⟩ | ⟨_, _, _, rfl, _⟩⟩ <;> simp
/-- A row, to be read alone. -/
theorem SepM.toView {α : Type} {M : Nat → Prop} {w0 w : World} {H : List Pl} {e nf : Nat} {enc : α → List Value} (hn : ∀ x, (enc x).length = nf) {a : Option Addr} {cap : Nat} {l : List α} (S : SepM M w0 w (plRow e nf enc (.slice a l.length cap) l :: H)) : SepM M w0 w (plView nf enc a l :: H) :=
  S.put (q := plView nf enc a l) 0 rfl (Chg.refl _ _) ⟨S.rd 0 hn rfl rfl, fun b off h => (S.lt (p := plRow e nf enc (.slice a l.length cap) l) (by simp) (show (Value.slice a l.length cap).ownBlock = some b by rw [h]; rfl)).2⟩ (fun b ⟨off, h⟩ => .inl (by rw [h]; rfl))

def DrawnG (g : Nat) (P : Int) (w : World) (e : Ending) (w' : World) : Prop :=
  ∃ f a l cap, e = .returned (.agg #[.int .i64 f, .slice a l.length cap]) ∧ l.length ≤ 12 ∧ l.length ≤ cap ∧ Src g P w' ∧ SepM (fun b => b = g) w w' [plView 1 encInt1 a l]
theorem DrawnG.mk {g : Nat} {P : Int} {w w' : World} {f : Int} {a : Option Addr} {m cap : Nat} (l : List Int) (hm : m = l.length) (h1 : l.length ≤ 12) (h2 : m ≤ cap) (hs : Src g P w') (S : SepM (fun b => b = g) w w' [plView 1 encInt1 a l]) : DrawnG g P w (.returned (.agg #[.int .i64 f, .slice a m cap])) w' := by subst hm; exact ⟨f, a, l, cap, rfl, h1, h2, hs, S⟩

theorem GateT.step {g base K : Nat} {v : Value} {w w' : World} (h : GateT base K v w) (k : Step g w w') (hg : g < base) : GateT base K v w' := by
  obtain ⟨f, u, L, n, h1, h2, h3⟩ := h
  exact ⟨f, u, L, n, h1, h2, ownsRow_step h3 k hg⟩
theorem GateG.step {g base K : Nat} {v : Value} {w w' : World} (h : GateG base K v w) (k : Step g w w') (hg : g < base) : GateG base K v w' := by
  obtain ⟨f, u, L, h1, h2, h3⟩ := h
  exact ⟨f, u, L, h1, h2, ownsRow_step h3 k hg⟩
theorem BoxO.step {g base : Nat} {v : Value} {w w' : World} (h : BoxO base v w) (k : Step g w w') (hg : g < base) : BoxO base v w' := by
  obtain ⟨b, h1, h2, h3⟩ := h
  exact ⟨b, h1, (heap_step k (by omega) (Array.getElem?_eq_some_iff.1 h2).1).trans h2, h3⟩
theorem GateG.set {base K B : Nat} {v x y : Value} {w : World} {C : Array Value} (h : GateG base K v w) (hB : w.heap[B]? = some (.cells C 27)) (hb : base ≤ B) : GateG base K v ((w.setCell ⟨B, 0, none⟩ x).setCell ⟨B, 1, none⟩ y) := by
  obtain ⟨f, u, L, h1, h2, h3⟩ := h
  have hne := owns_ne h3 hB (by decide)
  exact ⟨f, u, L, h1, h2, ownsRow_setCell_other (ownsRow_setCell_other h3 (a := ⟨B, 0, none⟩) hne x) (a := ⟨B, 1, none⟩) hne y⟩
theorem GateT.set {base K B : Nat} {v x y : Value} {w : World} {C : Array Value} (h : GateT base K v w) (hB : w.heap[B]? = some (.cells C 27)) (hb : base ≤ B) : GateT base K v ((w.setCell ⟨B, 0, none⟩ x).setCell ⟨B, 1, none⟩ y) := by
  obtain ⟨f, u, L, n, h1, h2, h3⟩ := h
  have hne := owns_ne h3 hB (by decide)
  exact ⟨f, u, L, n, h1, h2, ownsRow_setCell_other (ownsRow_setCell_other h3 (a := ⟨B, 0, none⟩) hne x) (a := ⟨B, 1, none⟩) hne y⟩
/-- What EnterGate's statement leaves, operation by operation. -/
def VGe (g B : Nat) (P : Int) (base : Nat) (f : Int) (a : Option Addr) (cap : Nat) (l : List Int) : Nat → Value → List Value → World → Prop := fun i v us wv => match i with
  | 0 => v = .agg #[.int .i64 f, .slice a l.length cap]
  | 1 => v = .pointer (some ⟨g, 0, none⟩)
  | 2 => (CT.int 0 11).has v
  | 3 => (CT.int 1 12).has v
  | 4 => GateT base (l.length + 1) v wv
  | 5 => GateT base (l.length + 1) v wv
  | 6 => GateG base (l.length + 1) v wv
  | 7 => ∃ n : Int, v = .int .i64 n
  | 8 => BoxO base v wv
  | 9 => match us with
    | [y8, y6] => ∃ b f u, y8 = .pointer (some ⟨b, 0, none⟩) ∧ y6 = .agg #[.int .i64 f, u] ∧ wv.heap[b]? = some (.cells #[.int .i64 f, u] 27) ∧ base ≤ b
    | _ => False
  | _ => True
def consGe (i : Nat) : Option Nat := if i = 8 then some 9 else none
def depGe (i : Nat) : List Nat := if i = 9 then [8, 6] else []
theorem VGe.ext {g B : Nat} {P : Int} {base : Nat} {f : Int} {a : Option Addr} {cap : Nat} {l : List Int} (hg : g < base) (i : Nat) (v : Value) (us : List Value) (w w' : World) (h : VGe g B P base f a cap l i v us w) (hE : Ext w w') : VGe g B P base f a cap l i v us w' := by
  match i with
  | 0 | 1 | 2 | 3 | 7 => exact h
  | 4 => exact GateT.step (g := g) h (.of_ext hE) hg
  | 5 => exact GateT.step (g := g) h (.of_ext hE) hg
  | 6 => exact GateG.step (g := g) h (.of_ext hE) hg
  | 8 => exact BoxO.step (g := g) h (.of_ext hE) hg
  | 9 =>
    match us, h with
    | [y8, y6], h =>
      obtain ⟨b, f, u, h1, h2, h3, h4⟩ := h
      exact ⟨b, f, u, h1, h2, heap_ext hE h3, h4⟩
  | (n + 10) => trivial

theorem VGe.step9 {g B : Nat} {P : Int} {base : Nat} {f : Int} {a : Option Addr} {cap : Nat} {l : List Int} {v : Value} {us : List Value} {w w' : World} (hg : g < base) (h : VGe g B P base f a cap l 9 v us w) (k : Step g w w') : VGe g B P base f a cap l 9 v us w' := by
  match us, h with
  | [y8, y6], h =>
    obtain ⟨b, f, u, h1, h2, h3, h4⟩ := h
    exact ⟨b, f, u, h1, h2, (heap_step k (by omega) (Array.getElem?_eq_some_iff.1 h3).1).trans h3, h4⟩

set_option maxHeartbeats 8000000 in
theorem drawGate (g : Nat) (P n : Int) (w : World) (hs : Src g P w) (hP : P ≤ 800000) (hn : n ≤ 1000000) :
    Calls Try.prog 33 #[.pointer (some ⟨g, 0, none⟩), .int .i64 n] w (DrawnG g (P + 200) w) := by
  have hg := hs.lt
  go_enter Try.func33, Try.ntmps33
  have S := SepM.begin (fun b => b = g) w (fun b h => h ▸ hg)
  replace S : SepM (fun b => b = g) w (w.alloc (.cells #[.int .i64 0, .slice none 0 0] 27)) [plBox w.heap.size #[.int .i64 0, .slice none 0 0] 27] := S.alloc_at (by simp) _ _
  go_wp2_with fail
  replace hs := hs.ext ((Ext.refl w).alloc (.cells #[.int .i64 0, .slice none 0 0] 27))
  generalize (w.alloc (.cells #[.int .i64 0, .slice none 0 0] 27)) = w1 at *
  refine (pick_any g P 3 _ hs (by omega)).mono ?_
  rintro e w2 ⟨v, rfl, ⟨q, rfl, q0, q1, _⟩, hs2, hS⟩
  replace S : SepM (fun b => b = g) w w2 [plBox w.heap.size #[.int .i64 0, .slice none 0 0] 27] := (S.other (Chg.of_step hS))
  clear q1 hS hs
  have hgrb := S.ge 0 rfl
  replace S : SepM (fun b => b = g) w (w2.alloc (.cells #[.int .i64 q, .slice none 0 0] 27)) [plBox w2.heap.size #[.int .i64 q, .slice none 0 0] 27, plBox w.heap.size #[.int .i64 0, .slice none 0 0] 27] := S.alloc_at (by simp) _ _
  replace hs2 := hs2.ext ((Ext.refl w2).alloc (.cells #[.int .i64 q, .slice none 0 0] 27))
  go_wp2_with fail
  generalize (w2.alloc (.cells #[.int .i64 q, .slice none 0 0] 27)) = w3 at *
  generalize w2.heap.size = B at *
  refine (pick_any g _ 12 _ hs2 (by omega)).mono ?_
  rintro e w4 ⟨v, rfl, ⟨q', rfl, q0', q1', _⟩, hs3, hS⟩
  replace S : SepM (fun b => b = g) w w4 [plBox B #[.int .i64 q, .slice none 0 0] 27, plBox w.heap.size #[.int .i64 0, .slice none 0 0] 27] := (S.other (Chg.of_step hS))
  have q9 : q' < 12 := q1' (by omega)
  clear q1' hS hs2
  have Sv : SepM (fun b => b = g) w w4 [plView 1 encInt1 none [], plBox B #[.int .i64 q, .slice none 0 0] 27, plBox w.heap.size #[.int .i64 0, .slice none 0 0] 27] :=
    S.cons (p := plView 1 encInt1 none []) (Ext.refl _) ⟨Rd.nil, fun b off h => by cases h⟩ (fun b ⟨off, h⟩ => by cases h)
  clear S
  go_wp2
  go_loopw [6] (fun i wr => ∃ (k : Nat) (f : Int) (a : Option Addr) (l : List Int) (cap : Nat), k + l.length ≤ 11 ∧ l.length ≤ cap ∧ i = .int .i64 k ∧ Src g (P + 160 - 12 * (k : Int)) wr ∧ SepM (fun b => b = g) w wr [plView 1 encInt1 a l, plBox B #[.int .i64 f, .slice a l.length cap] 27, plBox w.heap.size #[.int .i64 0, .slice none 0 0] 27]) (fun i _ => (intOf i).toNat)
  case atStart => exact ⟨q'.toNat, q, none, [], 0, by simp; omega, by simp, by rw [Int.toNat_of_nonneg q0'], hs3.mono (by omega), Sv⟩
  case round =>
    obtain ⟨k, f, a, l, cap, hkl, hcap, rfl, hs3, S⟩ := hrel
    have hgt := S.ge 1 rfl
    have hrbt := S.ge 2 rfl
    have hne := S.bne 1 2 rfl rfl (by omega)
    have hg5 : B ≠ g := by omega
    by_cases h0 : 0 < k
    · obtain ⟨m, rfl⟩ : ∃ m, k = m + 1 := ⟨k - 1, by omega⟩
      have h0' : (0 : Int) < ((m + 1 : Nat) : Int) := by omega
      have hw : IntKind.i64.wrap (((m + 1 : Nat) : Int) - 1) = (m : Int) := by rw [show ((m + 1 : Nat) : Int) - 1 = m by omega]; exact IntWalk.i64_in _ (by omega)
      go_wp2_with fail
      refine (pick_any g _ 4 _ hs3 (by omega)).mono ?_
      rintro e w5 ⟨v, rfl, ⟨z, rfl, z0, z1, _⟩, hs4, hS⟩
      replace S : SepM (fun b => b = g) w w5 [plView 1 encInt1 a l, plBox B #[.int .i64 f, .slice a l.length cap] 27, plBox w.heap.size #[.int .i64 0, .slice none 0 0] 27] := (S.other (Chg.of_step hS))
      clear hS hs3 z1
      by_cases hz : z = 0
      · have tz : (z == 0) = true := by simpa using hz
        clear hz
        obtain ⟨gtc0, gtf0⟩ : w5.cell? ⟨B, 0, none⟩ = some (.int .i64 f) ∧ w5.frozen? ⟨B, 0, none⟩ = false := bx (S.box 1 rfl) 0 rfl
        obtain ⟨gtc1, gtf1⟩ : w5.cell? ⟨B, 1, none⟩ = some (.slice a l.length cap) ∧ w5.frozen? ⟨B, 1, none⟩ = false := bx (S.box 1 rfl) 1 rfl
        go_wp2_with fail
        refine (specLeaveGate f a cap l w5 (by omega) (S.see 0 rfl)).mono ?_
        rintro e w6 ⟨f6, a6, L6, c6, n6, rfl, hR6, hr6, hb6, hk6, hE⟩
        have hL6 := leaR_le hR6
        have T := Sep.of_view hE hr6 hb6
        replace hs4 := hs4.ext hE
        clear hE hr6 hb6 hR6
        clear gtc0 gtf0 gtc1 gtf1
        replace S : SepM (fun b => b = g) w w6 [plView 1 encInt1 a6 L6, plView 1 encInt1 a l, plBox B #[.int .i64 f, .slice a l.length cap] 27, plBox w.heap.size #[.int .i64 0, .slice none 0 0] 27] := S.call T
        clear T
        replace S : SepM (fun b => b = g) w w6 [plView 1 encInt1 a6 L6, plBox B #[.int .i64 f, .slice a l.length cap] 27, plBox w.heap.size #[.int .i64 0, .slice none 0 0] 27] := S.drop 1
        replace S : SepM (fun b => b = g) w (w6.alloc (.cells #[.int .i64 f6, .slice a6 L6.length c6] 27)) [plBox w6.heap.size #[.int .i64 f6, .slice a6 L6.length c6] 27, plView 1 encInt1 a6 L6, plBox B #[.int .i64 f, .slice a l.length cap] 27, plBox w.heap.size #[.int .i64 0, .slice none 0 0] 27] := S.alloc_at (by simp) _ _
        replace hs4 := hs4.ext ((Ext.refl w6).alloc (.cells #[.int .i64 f6, .slice a6 L6.length c6] 27))
        obtain ⟨gtc0, gtf0⟩ : (w6.alloc (.cells #[.int .i64 f6, .slice a6 L6.length c6] 27)).cell? ⟨B, 0, none⟩ = some (.int .i64 f) ∧ (w6.alloc (.cells #[.int .i64 f6, .slice a6 L6.length c6] 27)).frozen? ⟨B, 0, none⟩ = false := bx (S.box 2 rfl) 0 rfl
        obtain ⟨gtc1, gtf1⟩ : (w6.alloc (.cells #[.int .i64 f6, .slice a6 L6.length c6] 27)).cell? ⟨B, 1, none⟩ = some (.slice a l.length cap) ∧ (w6.alloc (.cells #[.int .i64 f6, .slice a6 L6.length c6] 27)).frozen? ⟨B, 1, none⟩ = false := bx (S.box 2 rfl) 1 rfl
        go_wp2
        replace S : SepM (fun b => b = g) w ((w6.alloc (.cells #[.int .i64 f6, .slice a6 L6.length c6] 27)).setCell ⟨B, 0, none⟩ (.int .i64 f6)) [plBox w6.heap.size #[.int .i64 f6, .slice a6 L6.length c6] 27, plView 1 encInt1 a6 L6, plBox B #[.int .i64 f6, .slice a l.length cap] 27, plBox w.heap.size #[.int .i64 0, .slice none 0 0] 27] := S.set 2 rfl 0 _
        replace S : SepM (fun b => b = g) w (((w6.alloc (.cells #[.int .i64 f6, .slice a6 L6.length c6] 27)).setCell ⟨B, 0, none⟩ (.int .i64 f6)).setCell ⟨B, 1, none⟩ (.slice a6 L6.length c6)) [plBox w6.heap.size #[.int .i64 f6, .slice a6 L6.length c6] 27, plView 1 encInt1 a6 L6, plBox B #[.int .i64 f6, .slice a6 L6.length c6] 27, plBox w.heap.size #[.int .i64 0, .slice none 0 0] 27] := S.set 2 rfl 1 _
        replace S : SepM (fun b => b = g) w (((w6.alloc (.cells #[.int .i64 f6, .slice a6 L6.length c6] 27)).setCell ⟨B, 0, none⟩ (.int .i64 f6)).setCell ⟨B, 1, none⟩ (.slice a6 L6.length c6)) [plView 1 encInt1 a6 L6, plBox B #[.int .i64 f6, .slice a6 L6.length c6] 27, plBox w.heap.size #[.int .i64 0, .slice none 0 0] 27] := S.drop 0
        replace hs4 := (hs4.setCell (p := ⟨B, 0, none⟩) (by show g < B; omega) (.int .i64 f6)).setCell (p := ⟨B, 1, none⟩) (by show g < B; omega) (.slice a6 L6.length c6)
        go_roundw
        case rel => exact ⟨m, f6, a6, L6, c6, by omega, hk6, by go_num, hs4.mono (by omega), S⟩
        case measure => simp [intOf]
      · have tz : (z == 0) = false := by simpa using hz
        clear hz
        obtain ⟨gtc0, gtf0⟩ : w5.cell? ⟨B, 0, none⟩ = some (.int .i64 f) ∧ w5.frozen? ⟨B, 0, none⟩ = false := bx (S.box 1 rfl) 0 rfl
        obtain ⟨gtc1, gtf1⟩ : w5.cell? ⟨B, 1, none⟩ = some (.slice a l.length cap) ∧ w5.frozen? ⟨B, 1, none⟩ = false := bx (S.box 1 rfl) 1 rfl
        have hview := (S.see 0 rfl).ext (Ext.refl w5).drew
        have hgw := hs4.lt
        obtain ⟨P1, hP1⟩ : ∃ P1, P1 = P + 160 - 12 * ((m + 1 : Nat) : Int) + 1 := ⟨_, rfl⟩
        have hs5 : Src g P1 w5.drew := by rw [hP1]; exact hs4.ext (Ext.refl _).drew
        clear hs4
        have hP1a : P1 ≤ 900000 := by omega
        have hP1b : P1 + 10 ≤ P + 160 - 12 * (m : Int) := by omega
        clear hP1
        have hgv : l ≠ [] → ∀ b off, a = some ⟨b, off, none⟩ → b ≠ g := fun _ b off h => by
          have := (S.lt (p := plView 1 encInt1 a l) (by simp) ⟨off, h⟩).1
          omega
        go_upto_region 8 with fail
        refine wp_region_d (V := VGe g B P1 w5.heap.size f a cap l) depGe (fun k wv => Step g w5.drew wv ∧ Src g (P1 + (k : Int)) wv) consGe [] 10 0 rfl (by decide) (by kernel_rfl) (by kernel_rfl) (by kernel_rfl) (by kernel_rfl) (by kernel_rfl) ⟨Step.refl _ _, by simpa using hs5⟩ (fun r hr => by omega) ?_ ?_
        · intro i o hi ho k hk vs w4 hvl hI0 hd _
          obtain ⟨hI, hsk⟩ := hI0
          have hsk1 : Src g (P1 + ((k + 1 : Nat) : Int)) w4 := hsk.mono (by omega)
          match vs, hvl with
          | [y0, y1, y2, y3, y4, y5, y6, y7, y8, y9], _ =>
          rcases (show i = 0 ∨ i = 1 ∨ i = 2 ∨ i = 3 ∨ i = 4 ∨ i = 5 ∨ i = 6 ∨ i = 7 ∨ i = 8 ∨ i = 9 by omega) with rfl | rfl | rfl | rfl | rfl | rfl | rfl | rfl | rfl | rfl
          all_goals
            simp only [List.getElem?_cons_zero, List.getElem?_cons_succ, Option.some.injEq] at ho
            subst ho
          · have d0 := cell_step hI hg5 (show w5.drew.cell? _ = _ from gtc0)
            have d1 := cell_step hI hg5 (show w5.drew.cell? _ = _ from gtc1)
            simp [putAll, Act.put]
            go_wp2
            exact OneD.mk (V := VGe g B P1 w5.heap.size f a cap l) (VGe.ext hgw) rfl rfl ⟨hI, hsk1⟩ (Ext.refl _)
          · simp [putAll, Act.put]
            go_wp2
            exact OneD.mk (V := VGe g B P1 w5.heap.size f a cap l) (VGe.ext hgw) rfl rfl ⟨hI, hsk1⟩ (Ext.refl _)
          · have q1 : y1 = .pointer (some ⟨g, 0, none⟩) := hd ⟨1, .data⟩ (by simp) rfl (by decide)
            clear hd
            subst q1
            simp [putAll, Act.put]
            go_wp2_with fail
            refine (pick_any _ _ 12 _ hsk (by omega)).mono ?_
            rintro e w6 ⟨v6, rfl, ⟨z, rfl, z0, z1, _⟩, hs6, hS6⟩
            have hz := z1 (by omega)
            clear z1
            go_wp2
            refine ⟨rfl, _, rfl, CT.int_mk, ⟨hI.trans hS6, hs6.mono (by omega)⟩, fun i u us hi hne hcon hnd _ hv => ?_⟩
            match i with
            | 0 | 1 | 3 | 7 => exact hv
            | 2 => exact absurd rfl hne
            | 4 => exact GateT.step (g := g) hv hS6 hgw
            | 5 => exact GateT.step (g := g) hv hS6 hgw
            | 6 => exact GateG.step (g := g) hv hS6 hgw
            | 8 => exact BoxO.step (g := g) hv hS6 hgw
            | 9 => exact VGe.step9 hgw hv hS6
            | (n + 10) => trivial
          · have q2 : (CT.int 0 11).has y2 := hd ⟨2, .data⟩ (by simp) rfl (by decide)
            clear hd
            obtain ⟨z1, rfl, z1a, z1b⟩ := q2
            have hw : IntKind.i64.wrap (1 + z1) = 1 + z1 := IntWalk.i64_in _ (by omega)
            simp [putAll, Act.put]
            go_wp2
            exact OneD.mk (V := VGe g B P1 w5.heap.size f a cap l) (VGe.ext hgw) rfl (CT.int_mk (by omega)) ⟨hI, hsk1⟩ (Ext.refl _)
          · have q0 : y0 = .agg #[.int .i64 f, .slice a l.length cap] := hd ⟨0, .data⟩ (by simp) rfl (by decide)
            have q3 : (CT.int 1 12).has y3 := hd ⟨3, .data⟩ (by simp) rfl (by decide)
            clear hd
            subst q0
            obtain ⟨z, rfl, z0, z1⟩ := q3
            have hrd4 := hview.step hI hgv
            have hsz : w5.heap.size ≤ w4.heap.size := (show w5.drew.heap.size ≤ w4.heap.size from Step.size hI)
            simp [putAll, Act.put]
            go_wp2_with fail
            refine (specEnterGate f a cap l z w4 (by omega) hrd4).mono ?_
            rintro e w6 ⟨f5, u5, L5, n5, rfl, hR5, ho5, hE5⟩
            have hq : GateT w5.heap.size (l.length + 1) (.tuple #[.agg #[.int .i64 f5, u5], .int .i64 n5]) w6 := ⟨f5, u5, L5, n5, rfl, entR_le hR5, ownsRow_base ho5 hsz⟩
            clear hR5 ho5
            go_wp2
            exact OneD.mk (V := VGe g B P1 w5.heap.size f a cap l) (VGe.ext hgw) rfl hq ⟨hI.ext hE5, hsk1.ext hE5⟩ hE5
          · have q4 : GateT w5.heap.size (l.length + 1) y4 w4 := hd ⟨4, .data⟩ (by simp) rfl (by decide)
            clear hd
            simp [putAll, Act.put]
            go_wp2
            exact OneD.mk (V := VGe g B P1 w5.heap.size f a cap l) (VGe.ext hgw) rfl q4 ⟨hI, hsk1⟩ (Ext.refl _)
          · obtain ⟨f5, u5, L5, n5, rfl, h5, ho5⟩ : GateT w5.heap.size (l.length + 1) y5 w4 := hd ⟨5, .data⟩ (by simp) rfl (by decide)
            clear hd
            have hq : GateG w5.heap.size (l.length + 1) (.agg #[.int .i64 f5, u5]) w4 := ⟨f5, u5, L5, rfl, h5, ho5⟩
            clear ho5
            simp [putAll, Act.put]
            go_wp2
            exact OneD.mk (V := VGe g B P1 w5.heap.size f a cap l) (VGe.ext hgw) rfl hq ⟨hI, hsk1⟩ (Ext.refl _)
          · obtain ⟨f5, u5, L5, n5, rfl, h5, ho5⟩ : GateT w5.heap.size (l.length + 1) y5 w4 := hd ⟨5, .data⟩ (by simp) rfl (by decide)
            clear hd ho5
            simp [putAll, Act.put]
            go_wp2
            exact OneD.mk (V := VGe g B P1 w5.heap.size f a cap l) (VGe.ext hgw) rfl ⟨_, rfl⟩ ⟨hI, hsk1⟩ (Ext.refl _)
          · have hsz : w5.heap.size ≤ w4.heap.size := (show w5.drew.heap.size ≤ w4.heap.size from Step.size hI)
            simp [putAll, Act.put]
            go_wp2
            exact OneD.mk (V := VGe g B P1 w5.heap.size f a cap l) (VGe.ext hgw) rfl ⟨_, rfl, heap_alloc_new w4 _, hsz⟩ ⟨hI.alloc _, hsk1.ext ((Ext.refl _).alloc _)⟩ ((Ext.refl _).alloc _)
          · obtain ⟨B9, rfl, hB9, hB9b⟩ : BoxO w5.heap.size y8 w4 := hd ⟨8, .data⟩ (by simp) rfl (by decide)
            obtain ⟨f6, u6, L6, rfl, h6, ho6⟩ : GateG w5.heap.size (l.length + 1) y6 w4 := hd ⟨6, .data⟩ (by simp) rfl (by decide)
            clear hd
            obtain ⟨a6, c6, hv6, _, _, _⟩ := view_owns encInt1_len ho6
            subst hv6
            obtain ⟨z0, z1, z2, z3⟩ := cells2 hB9
            simp [putAll, Act.put]
            go_wp2
            have hB10 : ((w4.setCell ⟨B9, 0, none⟩ (.int .i64 f6)).setCell ⟨B9, 1, none⟩ (.slice a6 L6.length c6)).heap[B9]? = some (.cells #[.int .i64 f6, .slice a6 L6.length c6] 27) := heap_set (heap_set hB9 (o := 0) (.int .i64 f6)) (o := 1) (.slice a6 L6.length c6)
            have hV9 : VGe g B P1 w5.heap.size f a cap l 9 undef [.pointer (some ⟨B9, 0, none⟩), .agg #[.int .i64 f6, .slice a6 L6.length c6]] ((w4.setCell ⟨B9, 0, none⟩ (.int .i64 f6)).setCell ⟨B9, 1, none⟩ (.slice a6 L6.length c6)) := ⟨B9, f6, _, rfl, rfl, hB10, hB9b⟩
            refine ⟨rfl, undef, rfl, hV9, ⟨(hI.setCell (p := ⟨B9, 0, none⟩) hB9b _).setCell (p := ⟨B9, 1, none⟩) hB9b _, (hsk1.setCell (p := ⟨B9, 0, none⟩) (Nat.lt_of_lt_of_le hgw hB9b) _).setCell (p := ⟨B9, 1, none⟩) (Nat.lt_of_lt_of_le hgw hB9b) _⟩, fun i u us hi hne hcon hnd _ hv => ?_⟩
            match i with
            | 0 | 1 | 2 | 3 | 7 => exact hv
            | 4 => exact GateT.set hv hB9 hB9b
            | 5 => exact GateT.set hv hB9 hB9b
            | 6 => exact GateG.set hv hB9 hB9b
            | 8 => exact absurd rfl hcon
            | 9 => exact absurd rfl hne
            | (n + 10) => trivial
        intro vs w4 hvl hI0 hV _
        obtain ⟨hI, hs6⟩ := hI0
        match vs, hvl with
        | [y0, y1, y2, y3, y4, y5, y6, y7, y8, y9], _ =>
        obtain ⟨f6, u6, L6, rfl, h6, ho6⟩ : GateG w5.heap.size (l.length + 1) y6 w4 := hV 6 (by omega) rfl
        obtain ⟨n6, rfl⟩ : ∃ n : Int, y7 = .int .i64 n := hV 7 (by omega) rfl
        obtain ⟨B9, f7, u7, rfl, e7, hB9, hB9b⟩ : ∃ b f u, y8 = .pointer (some ⟨b, 0, none⟩) ∧ Value.agg #[.int .i64 f6, u6] = .agg #[.int .i64 f, u] ∧ w4.heap[b]? = some (.cells #[.int .i64 f, u] 27) ∧ w5.heap.size ≤ b := hV 9 (by omega) rfl
        obtain ⟨rfl, rfl⟩ : f6 = f7 ∧ u6 = u7 := by simpa using e7
        clear hV e7
        obtain ⟨a6, c6, hv6, hk6, _, _⟩ := view_owns encInt1_len ho6
        subst hv6
        have hc : Chg (fun b => b = g) w5 w4 := (Chg.of_ext (Ext.refl w5).drew).trans (Chg.of_step hI)
        have hap := owns_ne ho6 hB9 (by decide)
        have hs7 := hs6
        clear hview hgv hs5 hs6
        clear gtc0 gtf0 gtc1 gtf1
        replace S : SepM (fun b => b = g) w w4 [plRow 3 1 encInt1 (.slice a6 L6.length c6) L6, plBox B9 #[.int .i64 f6, .slice a6 L6.length c6] 27, plView 1 encInt1 a l, plBox B #[.int .i64 f, .slice a l.length cap] 27, plBox w.heap.size #[.int .i64 0, .slice none 0 0] 27] := (S.otherCall [plRow 3 1 encInt1 (.slice a6 L6.length c6) L6, plBox B9 #[.int .i64 f6, .slice a6 L6.length c6] 27] hc (by simp only [List.mem_cons, List.not_mem_nil, or_false, forall_eq_or_imp, forall_eq]; exact ⟨ownsRow_base ho6 (Nat.zero_le _), hB9⟩) (by simp only [List.mem_cons, List.not_mem_nil, or_false, forall_eq_or_imp, forall_eq]; exact ⟨fun b h => (World.ownsRow.lt ho6 b h).1, fun b h => h ▸ hB9b⟩) (by simp only [List.pairwise_cons, List.mem_singleton, forall_eq]; exact ⟨fun b h h2 => hap (h2 ▸ h), by simp⟩))
        clear hc hap ho6 hB9 hI
        have hB9g : g < B9 := by omega
        simp only [putAll, Act.put, List.take_succ_cons, List.take_zero, List.drop_succ_cons, List.drop_zero]
        simp
        replace S : SepM (fun b => b = g) w w4 [plRow 3 1 encInt1 (.slice a6 L6.length c6) L6, plBox B9 #[.int .i64 f6, .slice a6 L6.length c6] 27, plBox B #[.int .i64 f, .slice a l.length cap] 27, plBox w.heap.size #[.int .i64 0, .slice none 0 0] 27] := S.drop 2
        obtain ⟨t9c0, t9f0⟩ : w4.cell? ⟨B9, 0, none⟩ = some (.int .i64 f6) ∧ w4.frozen? ⟨B9, 0, none⟩ = false := bx (S.box 1 rfl) 0 rfl
        obtain ⟨t9c1, t9f1⟩ : w4.cell? ⟨B9, 1, none⟩ = some (.slice a6 L6.length c6) ∧ w4.frozen? ⟨B9, 1, none⟩ = false := bx (S.box 1 rfl) 1 rfl
        obtain ⟨gtc0, gtf0⟩ : w4.cell? ⟨B, 0, none⟩ = some (.int .i64 f) ∧ w4.frozen? ⟨B, 0, none⟩ = false := bx (S.box 2 rfl) 0 rfl
        obtain ⟨gtc1, gtf1⟩ : w4.cell? ⟨B, 1, none⟩ = some (.slice a l.length cap) ∧ w4.frozen? ⟨B, 1, none⟩ = false := bx (S.box 2 rfl) 1 rfl
        go_wp2
        replace S : SepM (fun b => b = g) w (w4.setCell ⟨B, 0, none⟩ (.int .i64 f6)) [plRow 3 1 encInt1 (.slice a6 L6.length c6) L6, plBox B9 #[.int .i64 f6, .slice a6 L6.length c6] 27, plBox B #[.int .i64 f6, .slice a l.length cap] 27, plBox w.heap.size #[.int .i64 0, .slice none 0 0] 27] := S.set 2 rfl 0 _
        replace S : SepM (fun b => b = g) w ((w4.setCell ⟨B, 0, none⟩ (.int .i64 f6)).setCell ⟨B, 1, none⟩ (.slice a6 L6.length c6)) [plRow 3 1 encInt1 (.slice a6 L6.length c6) L6, plBox B9 #[.int .i64 f6, .slice a6 L6.length c6] 27, plBox B #[.int .i64 f6, .slice a6 L6.length c6] 27, plBox w.heap.size #[.int .i64 0, .slice none 0 0] 27] := S.set 2 rfl 1 _
        replace S : SepM (fun b => b = g) w ((w4.setCell ⟨B, 0, none⟩ (.int .i64 f6)).setCell ⟨B, 1, none⟩ (.slice a6 L6.length c6)) [plRow 3 1 encInt1 (.slice a6 L6.length c6) L6, plBox B #[.int .i64 f6, .slice a6 L6.length c6] 27, plBox w.heap.size #[.int .i64 0, .slice none 0 0] 27] := S.drop 1
        have hs8 := (hs7.setCell (p := ⟨B, 0, none⟩) (by show g < B; omega) (.int .i64 f6)).setCell (p := ⟨B, 1, none⟩) (by show g < B; omega) (.slice a6 L6.length c6)
        go_roundw
        case rel => exact ⟨m, f6, a6, L6, c6, by omega, hk6, by go_num, hs8.mono (by omega), S.toView encInt1_len⟩
        case measure => simp [intOf]
    · obtain rfl : k = 0 := by omega
      go_wp2_with fail
      refine (odd_any g _ n wr hs3 (by omega) hn).mono ?_
      rintro e w4 ⟨v, rfl, ⟨b, rfl, hb⟩, hs4, hS4⟩
      replace S : SepM (fun b => b = g) w w4 [plView 1 encInt1 a l, plBox B #[.int .i64 f, .slice a l.length cap] 27, plBox w.heap.size #[.int .i64 0, .slice none 0 0] 27] := (S.other (Chg.of_step hS4))
      clear hS4 hs3 hb
      cases b with
      | false =>
        obtain ⟨gtc0, gtf0⟩ : w4.cell? ⟨B, 0, none⟩ = some (.int .i64 f) ∧ w4.frozen? ⟨B, 0, none⟩ = false := bx (S.box 1 rfl) 0 rfl
        obtain ⟨gtc1, gtf1⟩ : w4.cell? ⟨B, 1, none⟩ = some (.slice a l.length cap) ∧ w4.frozen? ⟨B, 1, none⟩ = false := bx (S.box 1 rfl) 1 rfl
        obtain ⟨rbc0, rbf0⟩ : w4.cell? ⟨w.heap.size, 0, none⟩ = some (.int .i64 0) ∧ w4.frozen? ⟨w.heap.size, 0, none⟩ = false := bx (S.box 2 rfl) 0 rfl
        obtain ⟨rbc1, rbf1⟩ : w4.cell? ⟨w.heap.size, 1, none⟩ = some (.slice none 0 0) ∧ w4.frozen? ⟨w.heap.size, 1, none⟩ = false := bx (S.box 2 rfl) 1 rfl
        go_wp2
        try simp only [Exit.inBlock, Exit.then]
        refine bodyPost_ret (v := .agg #[.int .i64 f, .slice a l.length cap]) (by simp [results, Try.results33, go_sem, rbc0, rbc1]) rfl ?_
        replace S : SepM (fun b => b = g) w (w4.setCell ⟨w.heap.size, 0, none⟩ (.int .i64 f)) [plView 1 encInt1 a l, plBox B #[.int .i64 f, .slice a l.length cap] 27, plBox w.heap.size #[.int .i64 f, .slice none 0 0] 27] := S.set 2 rfl 0 _
        replace S : SepM (fun b => b = g) w ((w4.setCell ⟨w.heap.size, 0, none⟩ (.int .i64 f)).setCell ⟨w.heap.size, 1, none⟩ (.slice a l.length cap)) [plView 1 encInt1 a l, plBox B #[.int .i64 f, .slice a l.length cap] 27, plBox w.heap.size #[.int .i64 f, .slice a l.length cap] 27] := S.set 2 rfl 1 _
        replace S : SepM (fun b => b = g) w ((w4.setCell ⟨w.heap.size, 0, none⟩ (.int .i64 f)).setCell ⟨w.heap.size, 1, none⟩ (.slice a l.length cap)) [plView 1 encInt1 a l, plBox B #[.int .i64 f, .slice a l.length cap] 27] := S.drop 2
        replace S : SepM (fun b => b = g) w ((w4.setCell ⟨w.heap.size, 0, none⟩ (.int .i64 f)).setCell ⟨w.heap.size, 1, none⟩ (.slice a l.length cap)) [plView 1 encInt1 a l] := S.drop 1
        exact DrawnG.mk l rfl (by omega) hcap (((hs4.setCell (p := ⟨w.heap.size, 0, none⟩) hg (.int .i64 f)).setCell (p := ⟨w.heap.size, 1, none⟩) hg (.slice a l.length cap)).mono (by omega)) S
      | true =>
        replace S : SepM (fun b => b = g) w w4 [plBox B #[.int .i64 f, .slice a l.length cap] 27, plBox w.heap.size #[.int .i64 0, .slice none 0 0] 27] := S.drop 0
        replace S : SepM (fun b => b = g) w w4 [plBox w.heap.size #[.int .i64 0, .slice none 0 0] 27] := S.drop 0
        replace hs4 := ((((hs4.ext ((Ext.refl w4).alloc (.cells #[.int .i64 5] 3))).ext ((Ext.refl _).alloc (.cells #[.int .i64 5, .int .i64 5] 3))).ext ((Ext.refl _).alloc (.cells #[.int .i64 0] 3))).ext ((Ext.refl _).alloc (.cells #[.int .i64 (-1), .slice none 0 0, .int .i64 10, .slice none 0 0, .int .i64 1, .slice (some ⟨w4.heap.size, 0, none⟩) 1 1, .int .i64 0, .slice (some ⟨w4.heap.size + 1, 0, none⟩) 2 2, .int .i64 0, .slice (some ⟨w4.heap.size + 2, 0, none⟩) 1 1] 27)))
        replace S : SepM (fun b => b = g) w (w4.alloc (.cells #[.int .i64 5] 3)) [plRow 3 1 encInt1 (.slice (some ⟨w4.heap.size, 0, none⟩) 1 1) ([5] : List Int), plBox w.heap.size #[.int .i64 0, .slice none 0 0] 27] := S.lit (by simp) _ _ encInt1_len ([5] : List Int) rfl rfl (by omega)
        replace S : SepM (fun b => b = g) w ((w4.alloc (.cells #[.int .i64 5] 3)).alloc (.cells #[.int .i64 5, .int .i64 5] 3)) [plRow 3 1 encInt1 (.slice (some ⟨(w4.heap.size + 1), 0, none⟩) 2 2) ([5, 5] : List Int), plRow 3 1 encInt1 (.slice (some ⟨w4.heap.size, 0, none⟩) 1 1) ([5] : List Int), plBox w.heap.size #[.int .i64 0, .slice none 0 0] 27] := S.lit (by simp) _ _ encInt1_len ([5, 5] : List Int) rfl rfl (by omega)
        replace S : SepM (fun b => b = g) w (((w4.alloc (.cells #[.int .i64 5] 3)).alloc (.cells #[.int .i64 5, .int .i64 5] 3)).alloc (.cells #[.int .i64 0] 3)) [plRow 3 1 encInt1 (.slice (some ⟨(w4.heap.size + 2), 0, none⟩) 1 1) ([0] : List Int), plRow 3 1 encInt1 (.slice (some ⟨(w4.heap.size + 1), 0, none⟩) 2 2) ([5, 5] : List Int), plRow 3 1 encInt1 (.slice (some ⟨w4.heap.size, 0, none⟩) 1 1) ([5] : List Int), plBox w.heap.size #[.int .i64 0, .slice none 0 0] 27] := S.lit (by simp) _ _ encInt1_len ([0] : List Int) rfl rfl (by omega)
        replace S : SepM (fun b => b = g) w ((((w4.alloc (.cells #[.int .i64 5] 3)).alloc (.cells #[.int .i64 5, .int .i64 5] 3)).alloc (.cells #[.int .i64 0] 3)).alloc (.cells #[.int .i64 (-1), .slice none 0 0, .int .i64 10, .slice none 0 0, .int .i64 1, .slice (some ⟨w4.heap.size, 0, none⟩) 1 1, .int .i64 0, .slice (some ⟨w4.heap.size + 1, 0, none⟩) 2 2, .int .i64 0, .slice (some ⟨w4.heap.size + 2, 0, none⟩) 1 1] 27)) [plBox (w4.heap.size + 3) #[.int .i64 (-1), .slice none 0 0, .int .i64 10, .slice none 0 0, .int .i64 1, .slice (some ⟨w4.heap.size, 0, none⟩) 1 1, .int .i64 0, .slice (some ⟨w4.heap.size + 1, 0, none⟩) 2 2, .int .i64 0, .slice (some ⟨w4.heap.size + 2, 0, none⟩) 1 1] 27, plRow 3 1 encInt1 (.slice (some ⟨(w4.heap.size + 2), 0, none⟩) 1 1) ([0] : List Int), plRow 3 1 encInt1 (.slice (some ⟨(w4.heap.size + 1), 0, none⟩) 2 2) ([5, 5] : List Int), plRow 3 1 encInt1 (.slice (some ⟨w4.heap.size, 0, none⟩) 1 1) ([5] : List Int), plBox w.heap.size #[.int .i64 0, .slice none 0 0] 27] := S.alloc_at (by simp) _ _
        go_wp2_with fail
        generalize ((((w4.alloc (.cells #[.int .i64 5] 3)).alloc (.cells #[.int .i64 5, .int .i64 5] 3)).alloc (.cells #[.int .i64 0] 3)).alloc (.cells #[.int .i64 (-1), .slice none 0 0, .int .i64 10, .slice none 0 0, .int .i64 1, .slice (some ⟨w4.heap.size, 0, none⟩) 1 1, .int .i64 0, .slice (some ⟨w4.heap.size + 1, 0, none⟩) 2 2, .int .i64 0, .slice (some ⟨w4.heap.size + 2, 0, none⟩) 1 1] 27)) = w6 at *
        refine (pick_any g _ 5 _ hs4 (by omega)).mono ?_
        rintro e w7 ⟨v, rfl, ⟨z, rfl, z0, z1, _⟩, hs5, hS⟩
        replace S : SepM (fun b => b = g) w w7 [plBox (w4.heap.size + 3) #[.int .i64 (-1), .slice none 0 0, .int .i64 10, .slice none 0 0, .int .i64 1, .slice (some ⟨w4.heap.size, 0, none⟩) 1 1, .int .i64 0, .slice (some ⟨w4.heap.size + 1, 0, none⟩) 2 2, .int .i64 0, .slice (some ⟨w4.heap.size + 2, 0, none⟩) 1 1] 27, plRow 3 1 encInt1 (.slice (some ⟨(w4.heap.size + 2), 0, none⟩) 1 1) ([0] : List Int), plRow 3 1 encInt1 (.slice (some ⟨(w4.heap.size + 1), 0, none⟩) 2 2) ([5, 5] : List Int), plRow 3 1 encInt1 (.slice (some ⟨w4.heap.size, 0, none⟩) 1 1) ([5] : List Int), plBox w.heap.size #[.int .i64 0, .slice none 0 0] 27] := (S.other (Chg.of_step hS))
        have z5 := z1 (by omega)
        clear hS hs4 z1
        have hs6 : Src g (P + 200) w7 := hs5.mono (by omega)
        clear hs5
        rcases (show z = 0 ∨ z = 1 ∨ z = 2 ∨ z = 3 ∨ z = 4 by omega) with rfl | rfl | rfl | rfl | rfl
        · obtain ⟨ldc0, ldf0⟩ : w7.cell? ⟨(w4.heap.size + 3), 0, none⟩ = some (.int .i64 (-1)) ∧ w7.frozen? ⟨(w4.heap.size + 3), 0, none⟩ = false := bx (S.box 0 rfl) 0 rfl
          obtain ⟨ldc1, ldf1⟩ : w7.cell? ⟨(w4.heap.size + 3), 1, none⟩ = some (.slice none 0 0) ∧ w7.frozen? ⟨(w4.heap.size + 3), 1, none⟩ = false := bx (S.box 0 rfl) 1 rfl
          obtain ⟨ldc2, ldf2⟩ : w7.cell? ⟨(w4.heap.size + 3), 2, none⟩ = some (.int .i64 10) ∧ w7.frozen? ⟨(w4.heap.size + 3), 2, none⟩ = false := bx (S.box 0 rfl) 2 rfl
          obtain ⟨ldc3, ldf3⟩ : w7.cell? ⟨(w4.heap.size + 3), 3, none⟩ = some (.slice none 0 0) ∧ w7.frozen? ⟨(w4.heap.size + 3), 3, none⟩ = false := bx (S.box 0 rfl) 3 rfl
          obtain ⟨ldc4, ldf4⟩ : w7.cell? ⟨(w4.heap.size + 3), 4, none⟩ = some (.int .i64 1) ∧ w7.frozen? ⟨(w4.heap.size + 3), 4, none⟩ = false := bx (S.box 0 rfl) 4 rfl
          obtain ⟨ldc5, ldf5⟩ : w7.cell? ⟨(w4.heap.size + 3), 5, none⟩ = some (.slice (some ⟨w4.heap.size, 0, none⟩) 1 1) ∧ w7.frozen? ⟨(w4.heap.size + 3), 5, none⟩ = false := bx (S.box 0 rfl) 5 rfl
          obtain ⟨ldc6, ldf6⟩ : w7.cell? ⟨(w4.heap.size + 3), 6, none⟩ = some (.int .i64 0) ∧ w7.frozen? ⟨(w4.heap.size + 3), 6, none⟩ = false := bx (S.box 0 rfl) 6 rfl
          obtain ⟨ldc7, ldf7⟩ : w7.cell? ⟨(w4.heap.size + 3), 7, none⟩ = some (.slice (some ⟨w4.heap.size + 1, 0, none⟩) 2 2) ∧ w7.frozen? ⟨(w4.heap.size + 3), 7, none⟩ = false := bx (S.box 0 rfl) 7 rfl
          obtain ⟨ldc8, ldf8⟩ : w7.cell? ⟨(w4.heap.size + 3), 8, none⟩ = some (.int .i64 0) ∧ w7.frozen? ⟨(w4.heap.size + 3), 8, none⟩ = false := bx (S.box 0 rfl) 8 rfl
          obtain ⟨ldc9, ldf9⟩ : w7.cell? ⟨(w4.heap.size + 3), 9, none⟩ = some (.slice (some ⟨w4.heap.size + 2, 0, none⟩) 1 1) ∧ w7.frozen? ⟨(w4.heap.size + 3), 9, none⟩ = false := bx (S.box 0 rfl) 9 rfl
          obtain ⟨rbc0, rbf0⟩ : w7.cell? ⟨w.heap.size, 0, none⟩ = some (.int .i64 0) ∧ w7.frozen? ⟨w.heap.size, 0, none⟩ = false := bx (S.box 4 rfl) 0 rfl
          obtain ⟨rbc1, rbf1⟩ : w7.cell? ⟨w.heap.size, 1, none⟩ = some (.slice none 0 0) ∧ w7.frozen? ⟨w.heap.size, 1, none⟩ = false := bx (S.box 4 rfl) 1 rfl
          go_wp2
          try simp only [Exit.inBlock, Exit.then]
          refine bodyPost_ret (v := .agg #[.int .i64 (-1), .slice none 0 0]) (by simp [results, Try.results33, go_sem, rbc0, rbc1]) rfl ?_
          replace S : SepM (fun b => b = g) w (w7.setCell ⟨w.heap.size, 0, none⟩ (.int .i64 (-1))) [plBox (w4.heap.size + 3) #[.int .i64 (-1), .slice none 0 0, .int .i64 10, .slice none 0 0, .int .i64 1, .slice (some ⟨w4.heap.size, 0, none⟩) 1 1, .int .i64 0, .slice (some ⟨w4.heap.size + 1, 0, none⟩) 2 2, .int .i64 0, .slice (some ⟨w4.heap.size + 2, 0, none⟩) 1 1] 27, plRow 3 1 encInt1 (.slice (some ⟨(w4.heap.size + 2), 0, none⟩) 1 1) ([0] : List Int), plRow 3 1 encInt1 (.slice (some ⟨(w4.heap.size + 1), 0, none⟩) 2 2) ([5, 5] : List Int), plRow 3 1 encInt1 (.slice (some ⟨w4.heap.size, 0, none⟩) 1 1) ([5] : List Int), plBox w.heap.size #[.int .i64 (-1), .slice none 0 0] 27] := S.set 4 rfl 0 _
          replace S : SepM (fun b => b = g) w ((w7.setCell ⟨w.heap.size, 0, none⟩ (.int .i64 (-1))).setCell ⟨w.heap.size, 1, none⟩ (.slice none 0 0)) [plBox (w4.heap.size + 3) #[.int .i64 (-1), .slice none 0 0, .int .i64 10, .slice none 0 0, .int .i64 1, .slice (some ⟨w4.heap.size, 0, none⟩) 1 1, .int .i64 0, .slice (some ⟨w4.heap.size + 1, 0, none⟩) 2 2, .int .i64 0, .slice (some ⟨w4.heap.size + 2, 0, none⟩) 1 1] 27, plRow 3 1 encInt1 (.slice (some ⟨(w4.heap.size + 2), 0, none⟩) 1 1) ([0] : List Int), plRow 3 1 encInt1 (.slice (some ⟨(w4.heap.size + 1), 0, none⟩) 2 2) ([5, 5] : List Int), plRow 3 1 encInt1 (.slice (some ⟨w4.heap.size, 0, none⟩) 1 1) ([5] : List Int), plBox w.heap.size #[.int .i64 (-1), .slice none 0 0] 27] := S.set 4 rfl 1 _
          replace S : SepM (fun b => b = g) w ((w7.setCell ⟨w.heap.size, 0, none⟩ (.int .i64 (-1))).setCell ⟨w.heap.size, 1, none⟩ (.slice none 0 0)) [plBox (w4.heap.size + 3) #[.int .i64 (-1), .slice none 0 0, .int .i64 10, .slice none 0 0, .int .i64 1, .slice (some ⟨w4.heap.size, 0, none⟩) 1 1, .int .i64 0, .slice (some ⟨w4.heap.size + 1, 0, none⟩) 2 2, .int .i64 0, .slice (some ⟨w4.heap.size + 2, 0, none⟩) 1 1] 27, plRow 3 1 encInt1 (.slice (some ⟨(w4.heap.size + 2), 0, none⟩) 1 1) ([0] : List Int), plRow 3 1 encInt1 (.slice (some ⟨(w4.heap.size + 1), 0, none⟩) 2 2) ([5, 5] : List Int), plRow 3 1 encInt1 (.slice (some ⟨w4.heap.size, 0, none⟩) 1 1) ([5] : List Int)] := S.drop 4
          replace S : SepM (fun b => b = g) w ((w7.setCell ⟨w.heap.size, 0, none⟩ (.int .i64 (-1))).setCell ⟨w.heap.size, 1, none⟩ (.slice none 0 0)) [plRow 3 1 encInt1 (.slice (some ⟨(w4.heap.size + 2), 0, none⟩) 1 1) ([0] : List Int), plRow 3 1 encInt1 (.slice (some ⟨(w4.heap.size + 1), 0, none⟩) 2 2) ([5, 5] : List Int), plRow 3 1 encInt1 (.slice (some ⟨w4.heap.size, 0, none⟩) 1 1) ([5] : List Int)] := S.drop 0
          replace S : SepM (fun b => b = g) w ((w7.setCell ⟨w.heap.size, 0, none⟩ (.int .i64 (-1))).setCell ⟨w.heap.size, 1, none⟩ (.slice none 0 0)) [plRow 3 1 encInt1 (.slice (some ⟨(w4.heap.size + 2), 0, none⟩) 1 1) ([0] : List Int), plRow 3 1 encInt1 (.slice (some ⟨(w4.heap.size + 1), 0, none⟩) 2 2) ([5, 5] : List Int)] := S.drop 2
          replace S : SepM (fun b => b = g) w ((w7.setCell ⟨w.heap.size, 0, none⟩ (.int .i64 (-1))).setCell ⟨w.heap.size, 1, none⟩ (.slice none 0 0)) [plRow 3 1 encInt1 (.slice (some ⟨(w4.heap.size + 2), 0, none⟩) 1 1) ([0] : List Int)] := S.drop 1
          replace S : SepM (fun b => b = g) w ((w7.setCell ⟨w.heap.size, 0, none⟩ (.int .i64 (-1))).setCell ⟨w.heap.size, 1, none⟩ (.slice none 0 0)) [] := S.drop 0
          have S := S.nil 3 1 encInt1
          exact DrawnG.mk ([] : List Int) rfl (by simp) (by simp) ((hs6.setCell (p := ⟨w.heap.size, 0, none⟩) hg (.int .i64 (-1))).setCell (p := ⟨w.heap.size, 1, none⟩) hg (.slice none 0 0)) (S.toView (l := ([] : List Int)) (e := 3) encInt1_len)
        · obtain ⟨ldc0, ldf0⟩ : w7.cell? ⟨(w4.heap.size + 3), 0, none⟩ = some (.int .i64 (-1)) ∧ w7.frozen? ⟨(w4.heap.size + 3), 0, none⟩ = false := bx (S.box 0 rfl) 0 rfl
          obtain ⟨ldc1, ldf1⟩ : w7.cell? ⟨(w4.heap.size + 3), 1, none⟩ = some (.slice none 0 0) ∧ w7.frozen? ⟨(w4.heap.size + 3), 1, none⟩ = false := bx (S.box 0 rfl) 1 rfl
          obtain ⟨ldc2, ldf2⟩ : w7.cell? ⟨(w4.heap.size + 3), 2, none⟩ = some (.int .i64 10) ∧ w7.frozen? ⟨(w4.heap.size + 3), 2, none⟩ = false := bx (S.box 0 rfl) 2 rfl
          obtain ⟨ldc3, ldf3⟩ : w7.cell? ⟨(w4.heap.size + 3), 3, none⟩ = some (.slice none 0 0) ∧ w7.frozen? ⟨(w4.heap.size + 3), 3, none⟩ = false := bx (S.box 0 rfl) 3 rfl
          obtain ⟨ldc4, ldf4⟩ : w7.cell? ⟨(w4.heap.size + 3), 4, none⟩ = some (.int .i64 1) ∧ w7.frozen? ⟨(w4.heap.size + 3), 4, none⟩ = false := bx (S.box 0 rfl) 4 rfl
          obtain ⟨ldc5, ldf5⟩ : w7.cell? ⟨(w4.heap.size + 3), 5, none⟩ = some (.slice (some ⟨w4.heap.size, 0, none⟩) 1 1) ∧ w7.frozen? ⟨(w4.heap.size + 3), 5, none⟩ = false := bx (S.box 0 rfl) 5 rfl
          obtain ⟨ldc6, ldf6⟩ : w7.cell? ⟨(w4.heap.size + 3), 6, none⟩ = some (.int .i64 0) ∧ w7.frozen? ⟨(w4.heap.size + 3), 6, none⟩ = false := bx (S.box 0 rfl) 6 rfl
          obtain ⟨ldc7, ldf7⟩ : w7.cell? ⟨(w4.heap.size + 3), 7, none⟩ = some (.slice (some ⟨w4.heap.size + 1, 0, none⟩) 2 2) ∧ w7.frozen? ⟨(w4.heap.size + 3), 7, none⟩ = false := bx (S.box 0 rfl) 7 rfl
          obtain ⟨ldc8, ldf8⟩ : w7.cell? ⟨(w4.heap.size + 3), 8, none⟩ = some (.int .i64 0) ∧ w7.frozen? ⟨(w4.heap.size + 3), 8, none⟩ = false := bx (S.box 0 rfl) 8 rfl
          obtain ⟨ldc9, ldf9⟩ : w7.cell? ⟨(w4.heap.size + 3), 9, none⟩ = some (.slice (some ⟨w4.heap.size + 2, 0, none⟩) 1 1) ∧ w7.frozen? ⟨(w4.heap.size + 3), 9, none⟩ = false := bx (S.box 0 rfl) 9 rfl
          obtain ⟨rbc0, rbf0⟩ : w7.cell? ⟨w.heap.size, 0, none⟩ = some (.int .i64 0) ∧ w7.frozen? ⟨w.heap.size, 0, none⟩ = false := bx (S.box 4 rfl) 0 rfl
          obtain ⟨rbc1, rbf1⟩ : w7.cell? ⟨w.heap.size, 1, none⟩ = some (.slice none 0 0) ∧ w7.frozen? ⟨w.heap.size, 1, none⟩ = false := bx (S.box 4 rfl) 1 rfl
          go_wp2
          try simp only [Exit.inBlock, Exit.then]
          refine bodyPost_ret (v := .agg #[.int .i64 10, .slice none 0 0]) (by simp [results, Try.results33, go_sem, rbc0, rbc1]) rfl ?_
          replace S : SepM (fun b => b = g) w (w7.setCell ⟨w.heap.size, 0, none⟩ (.int .i64 10)) [plBox (w4.heap.size + 3) #[.int .i64 (-1), .slice none 0 0, .int .i64 10, .slice none 0 0, .int .i64 1, .slice (some ⟨w4.heap.size, 0, none⟩) 1 1, .int .i64 0, .slice (some ⟨w4.heap.size + 1, 0, none⟩) 2 2, .int .i64 0, .slice (some ⟨w4.heap.size + 2, 0, none⟩) 1 1] 27, plRow 3 1 encInt1 (.slice (some ⟨(w4.heap.size + 2), 0, none⟩) 1 1) ([0] : List Int), plRow 3 1 encInt1 (.slice (some ⟨(w4.heap.size + 1), 0, none⟩) 2 2) ([5, 5] : List Int), plRow 3 1 encInt1 (.slice (some ⟨w4.heap.size, 0, none⟩) 1 1) ([5] : List Int), plBox w.heap.size #[.int .i64 10, .slice none 0 0] 27] := S.set 4 rfl 0 _
          replace S : SepM (fun b => b = g) w ((w7.setCell ⟨w.heap.size, 0, none⟩ (.int .i64 10)).setCell ⟨w.heap.size, 1, none⟩ (.slice none 0 0)) [plBox (w4.heap.size + 3) #[.int .i64 (-1), .slice none 0 0, .int .i64 10, .slice none 0 0, .int .i64 1, .slice (some ⟨w4.heap.size, 0, none⟩) 1 1, .int .i64 0, .slice (some ⟨w4.heap.size + 1, 0, none⟩) 2 2, .int .i64 0, .slice (some ⟨w4.heap.size + 2, 0, none⟩) 1 1] 27, plRow 3 1 encInt1 (.slice (some ⟨(w4.heap.size + 2), 0, none⟩) 1 1) ([0] : List Int), plRow 3 1 encInt1 (.slice (some ⟨(w4.heap.size + 1), 0, none⟩) 2 2) ([5, 5] : List Int), plRow 3 1 encInt1 (.slice (some ⟨w4.heap.size, 0, none⟩) 1 1) ([5] : List Int), plBox w.heap.size #[.int .i64 10, .slice none 0 0] 27] := S.set 4 rfl 1 _
          replace S : SepM (fun b => b = g) w ((w7.setCell ⟨w.heap.size, 0, none⟩ (.int .i64 10)).setCell ⟨w.heap.size, 1, none⟩ (.slice none 0 0)) [plBox (w4.heap.size + 3) #[.int .i64 (-1), .slice none 0 0, .int .i64 10, .slice none 0 0, .int .i64 1, .slice (some ⟨w4.heap.size, 0, none⟩) 1 1, .int .i64 0, .slice (some ⟨w4.heap.size + 1, 0, none⟩) 2 2, .int .i64 0, .slice (some ⟨w4.heap.size + 2, 0, none⟩) 1 1] 27, plRow 3 1 encInt1 (.slice (some ⟨(w4.heap.size + 2), 0, none⟩) 1 1) ([0] : List Int), plRow 3 1 encInt1 (.slice (some ⟨(w4.heap.size + 1), 0, none⟩) 2 2) ([5, 5] : List Int), plRow 3 1 encInt1 (.slice (some ⟨w4.heap.size, 0, none⟩) 1 1) ([5] : List Int)] := S.drop 4
          replace S : SepM (fun b => b = g) w ((w7.setCell ⟨w.heap.size, 0, none⟩ (.int .i64 10)).setCell ⟨w.heap.size, 1, none⟩ (.slice none 0 0)) [plRow 3 1 encInt1 (.slice (some ⟨(w4.heap.size + 2), 0, none⟩) 1 1) ([0] : List Int), plRow 3 1 encInt1 (.slice (some ⟨(w4.heap.size + 1), 0, none⟩) 2 2) ([5, 5] : List Int), plRow 3 1 encInt1 (.slice (some ⟨w4.heap.size, 0, none⟩) 1 1) ([5] : List Int)] := S.drop 0
          replace S : SepM (fun b => b = g) w ((w7.setCell ⟨w.heap.size, 0, none⟩ (.int .i64 10)).setCell ⟨w.heap.size, 1, none⟩ (.slice none 0 0)) [plRow 3 1 encInt1 (.slice (some ⟨(w4.heap.size + 2), 0, none⟩) 1 1) ([0] : List Int), plRow 3 1 encInt1 (.slice (some ⟨(w4.heap.size + 1), 0, none⟩) 2 2) ([5, 5] : List Int)] := S.drop 2
          replace S : SepM (fun b => b = g) w ((w7.setCell ⟨w.heap.size, 0, none⟩ (.int .i64 10)).setCell ⟨w.heap.size, 1, none⟩ (.slice none 0 0)) [plRow 3 1 encInt1 (.slice (some ⟨(w4.heap.size + 2), 0, none⟩) 1 1) ([0] : List Int)] := S.drop 1
          replace S : SepM (fun b => b = g) w ((w7.setCell ⟨w.heap.size, 0, none⟩ (.int .i64 10)).setCell ⟨w.heap.size, 1, none⟩ (.slice none 0 0)) [] := S.drop 0
          have S := S.nil 3 1 encInt1
          exact DrawnG.mk ([] : List Int) rfl (by simp) (by simp) ((hs6.setCell (p := ⟨w.heap.size, 0, none⟩) hg (.int .i64 10)).setCell (p := ⟨w.heap.size, 1, none⟩) hg (.slice none 0 0)) (S.toView (l := ([] : List Int)) (e := 3) encInt1_len)
        · obtain ⟨ldc0, ldf0⟩ : w7.cell? ⟨(w4.heap.size + 3), 0, none⟩ = some (.int .i64 (-1)) ∧ w7.frozen? ⟨(w4.heap.size + 3), 0, none⟩ = false := bx (S.box 0 rfl) 0 rfl
          obtain ⟨ldc1, ldf1⟩ : w7.cell? ⟨(w4.heap.size + 3), 1, none⟩ = some (.slice none 0 0) ∧ w7.frozen? ⟨(w4.heap.size + 3), 1, none⟩ = false := bx (S.box 0 rfl) 1 rfl
          obtain ⟨ldc2, ldf2⟩ : w7.cell? ⟨(w4.heap.size + 3), 2, none⟩ = some (.int .i64 10) ∧ w7.frozen? ⟨(w4.heap.size + 3), 2, none⟩ = false := bx (S.box 0 rfl) 2 rfl
          obtain ⟨ldc3, ldf3⟩ : w7.cell? ⟨(w4.heap.size + 3), 3, none⟩ = some (.slice none 0 0) ∧ w7.frozen? ⟨(w4.heap.size + 3), 3, none⟩ = false := bx (S.box 0 rfl) 3 rfl
          obtain ⟨ldc4, ldf4⟩ : w7.cell? ⟨(w4.heap.size + 3), 4, none⟩ = some (.int .i64 1) ∧ w7.frozen? ⟨(w4.heap.size + 3), 4, none⟩ = false := bx (S.box 0 rfl) 4 rfl
          obtain ⟨ldc5, ldf5⟩ : w7.cell? ⟨(w4.heap.size + 3), 5, none⟩ = some (.slice (some ⟨w4.heap.size, 0, none⟩) 1 1) ∧ w7.frozen? ⟨(w4.heap.size + 3), 5, none⟩ = false := bx (S.box 0 rfl) 5 rfl
          obtain ⟨ldc6, ldf6⟩ : w7.cell? ⟨(w4.heap.size + 3), 6, none⟩ = some (.int .i64 0) ∧ w7.frozen? ⟨(w4.heap.size + 3), 6, none⟩ = false := bx (S.box 0 rfl) 6 rfl
          obtain ⟨ldc7, ldf7⟩ : w7.cell? ⟨(w4.heap.size + 3), 7, none⟩ = some (.slice (some ⟨w4.heap.size + 1, 0, none⟩) 2 2) ∧ w7.frozen? ⟨(w4.heap.size + 3), 7, none⟩ = false := bx (S.box 0 rfl) 7 rfl
          obtain ⟨ldc8, ldf8⟩ : w7.cell? ⟨(w4.heap.size + 3), 8, none⟩ = some (.int .i64 0) ∧ w7.frozen? ⟨(w4.heap.size + 3), 8, none⟩ = false := bx (S.box 0 rfl) 8 rfl
          obtain ⟨ldc9, ldf9⟩ : w7.cell? ⟨(w4.heap.size + 3), 9, none⟩ = some (.slice (some ⟨w4.heap.size + 2, 0, none⟩) 1 1) ∧ w7.frozen? ⟨(w4.heap.size + 3), 9, none⟩ = false := bx (S.box 0 rfl) 9 rfl
          obtain ⟨rbc0, rbf0⟩ : w7.cell? ⟨w.heap.size, 0, none⟩ = some (.int .i64 0) ∧ w7.frozen? ⟨w.heap.size, 0, none⟩ = false := bx (S.box 4 rfl) 0 rfl
          obtain ⟨rbc1, rbf1⟩ : w7.cell? ⟨w.heap.size, 1, none⟩ = some (.slice none 0 0) ∧ w7.frozen? ⟨w.heap.size, 1, none⟩ = false := bx (S.box 4 rfl) 1 rfl
          go_wp2
          try simp only [Exit.inBlock, Exit.then]
          refine bodyPost_ret (v := .agg #[.int .i64 1, .slice (some ⟨w4.heap.size, 0, none⟩) 1 1]) (by simp [results, Try.results33, go_sem, rbc0, rbc1]) rfl ?_
          replace S : SepM (fun b => b = g) w (w7.setCell ⟨w.heap.size, 0, none⟩ (.int .i64 1)) [plBox (w4.heap.size + 3) #[.int .i64 (-1), .slice none 0 0, .int .i64 10, .slice none 0 0, .int .i64 1, .slice (some ⟨w4.heap.size, 0, none⟩) 1 1, .int .i64 0, .slice (some ⟨w4.heap.size + 1, 0, none⟩) 2 2, .int .i64 0, .slice (some ⟨w4.heap.size + 2, 0, none⟩) 1 1] 27, plRow 3 1 encInt1 (.slice (some ⟨(w4.heap.size + 2), 0, none⟩) 1 1) ([0] : List Int), plRow 3 1 encInt1 (.slice (some ⟨(w4.heap.size + 1), 0, none⟩) 2 2) ([5, 5] : List Int), plRow 3 1 encInt1 (.slice (some ⟨w4.heap.size, 0, none⟩) 1 1) ([5] : List Int), plBox w.heap.size #[.int .i64 1, .slice none 0 0] 27] := S.set 4 rfl 0 _
          replace S : SepM (fun b => b = g) w ((w7.setCell ⟨w.heap.size, 0, none⟩ (.int .i64 1)).setCell ⟨w.heap.size, 1, none⟩ (.slice (some ⟨w4.heap.size, 0, none⟩) 1 1)) [plBox (w4.heap.size + 3) #[.int .i64 (-1), .slice none 0 0, .int .i64 10, .slice none 0 0, .int .i64 1, .slice (some ⟨w4.heap.size, 0, none⟩) 1 1, .int .i64 0, .slice (some ⟨w4.heap.size + 1, 0, none⟩) 2 2, .int .i64 0, .slice (some ⟨w4.heap.size + 2, 0, none⟩) 1 1] 27, plRow 3 1 encInt1 (.slice (some ⟨(w4.heap.size + 2), 0, none⟩) 1 1) ([0] : List Int), plRow 3 1 encInt1 (.slice (some ⟨(w4.heap.size + 1), 0, none⟩) 2 2) ([5, 5] : List Int), plRow 3 1 encInt1 (.slice (some ⟨w4.heap.size, 0, none⟩) 1 1) ([5] : List Int), plBox w.heap.size #[.int .i64 1, .slice (some ⟨w4.heap.size, 0, none⟩) 1 1] 27] := S.set 4 rfl 1 _
          replace S : SepM (fun b => b = g) w ((w7.setCell ⟨w.heap.size, 0, none⟩ (.int .i64 1)).setCell ⟨w.heap.size, 1, none⟩ (.slice (some ⟨w4.heap.size, 0, none⟩) 1 1)) [plBox (w4.heap.size + 3) #[.int .i64 (-1), .slice none 0 0, .int .i64 10, .slice none 0 0, .int .i64 1, .slice (some ⟨w4.heap.size, 0, none⟩) 1 1, .int .i64 0, .slice (some ⟨w4.heap.size + 1, 0, none⟩) 2 2, .int .i64 0, .slice (some ⟨w4.heap.size + 2, 0, none⟩) 1 1] 27, plRow 3 1 encInt1 (.slice (some ⟨(w4.heap.size + 2), 0, none⟩) 1 1) ([0] : List Int), plRow 3 1 encInt1 (.slice (some ⟨(w4.heap.size + 1), 0, none⟩) 2 2) ([5, 5] : List Int), plRow 3 1 encInt1 (.slice (some ⟨w4.heap.size, 0, none⟩) 1 1) ([5] : List Int)] := S.drop 4
          replace S : SepM (fun b => b = g) w ((w7.setCell ⟨w.heap.size, 0, none⟩ (.int .i64 1)).setCell ⟨w.heap.size, 1, none⟩ (.slice (some ⟨w4.heap.size, 0, none⟩) 1 1)) [plRow 3 1 encInt1 (.slice (some ⟨(w4.heap.size + 2), 0, none⟩) 1 1) ([0] : List Int), plRow 3 1 encInt1 (.slice (some ⟨(w4.heap.size + 1), 0, none⟩) 2 2) ([5, 5] : List Int), plRow 3 1 encInt1 (.slice (some ⟨w4.heap.size, 0, none⟩) 1 1) ([5] : List Int)] := S.drop 0
          replace S : SepM (fun b => b = g) w ((w7.setCell ⟨w.heap.size, 0, none⟩ (.int .i64 1)).setCell ⟨w.heap.size, 1, none⟩ (.slice (some ⟨w4.heap.size, 0, none⟩) 1 1)) [plRow 3 1 encInt1 (.slice (some ⟨(w4.heap.size + 2), 0, none⟩) 1 1) ([0] : List Int), plRow 3 1 encInt1 (.slice (some ⟨w4.heap.size, 0, none⟩) 1 1) ([5] : List Int)] := S.drop 1
          replace S : SepM (fun b => b = g) w ((w7.setCell ⟨w.heap.size, 0, none⟩ (.int .i64 1)).setCell ⟨w.heap.size, 1, none⟩ (.slice (some ⟨w4.heap.size, 0, none⟩) 1 1)) [plRow 3 1 encInt1 (.slice (some ⟨w4.heap.size, 0, none⟩) 1 1) ([5] : List Int)] := S.drop 0
          exact DrawnG.mk ([5] : List Int) rfl (by simp) (by simp) ((hs6.setCell (p := ⟨w.heap.size, 0, none⟩) hg (.int .i64 1)).setCell (p := ⟨w.heap.size, 1, none⟩) hg (.slice (some ⟨w4.heap.size, 0, none⟩) 1 1)) (S.toView (l := ([5] : List Int)) encInt1_len)
        · obtain ⟨ldc0, ldf0⟩ : w7.cell? ⟨(w4.heap.size + 3), 0, none⟩ = some (.int .i64 (-1)) ∧ w7.frozen? ⟨(w4.heap.size + 3), 0, none⟩ = false := bx (S.box 0 rfl) 0 rfl
          obtain ⟨ldc1, ldf1⟩ : w7.cell? ⟨(w4.heap.size + 3), 1, none⟩ = some (.slice none 0 0) ∧ w7.frozen? ⟨(w4.heap.size + 3), 1, none⟩ = false := bx (S.box 0 rfl) 1 rfl
          obtain ⟨ldc2, ldf2⟩ : w7.cell? ⟨(w4.heap.size + 3), 2, none⟩ = some (.int .i64 10) ∧ w7.frozen? ⟨(w4.heap.size + 3), 2, none⟩ = false := bx (S.box 0 rfl) 2 rfl
          obtain ⟨ldc3, ldf3⟩ : w7.cell? ⟨(w4.heap.size + 3), 3, none⟩ = some (.slice none 0 0) ∧ w7.frozen? ⟨(w4.heap.size + 3), 3, none⟩ = false := bx (S.box 0 rfl) 3 rfl
          obtain ⟨ldc4, ldf4⟩ : w7.cell? ⟨(w4.heap.size + 3), 4, none⟩ = some (.int .i64 1) ∧ w7.frozen? ⟨(w4.heap.size + 3), 4, none⟩ = false := bx (S.box 0 rfl) 4 rfl
          obtain ⟨ldc5, ldf5⟩ : w7.cell? ⟨(w4.heap.size + 3), 5, none⟩ = some (.slice (some ⟨w4.heap.size, 0, none⟩) 1 1) ∧ w7.frozen? ⟨(w4.heap.size + 3), 5, none⟩ = false := bx (S.box 0 rfl) 5 rfl
          obtain ⟨ldc6, ldf6⟩ : w7.cell? ⟨(w4.heap.size + 3), 6, none⟩ = some (.int .i64 0) ∧ w7.frozen? ⟨(w4.heap.size + 3), 6, none⟩ = false := bx (S.box 0 rfl) 6 rfl
          obtain ⟨ldc7, ldf7⟩ : w7.cell? ⟨(w4.heap.size + 3), 7, none⟩ = some (.slice (some ⟨w4.heap.size + 1, 0, none⟩) 2 2) ∧ w7.frozen? ⟨(w4.heap.size + 3), 7, none⟩ = false := bx (S.box 0 rfl) 7 rfl
          obtain ⟨ldc8, ldf8⟩ : w7.cell? ⟨(w4.heap.size + 3), 8, none⟩ = some (.int .i64 0) ∧ w7.frozen? ⟨(w4.heap.size + 3), 8, none⟩ = false := bx (S.box 0 rfl) 8 rfl
          obtain ⟨ldc9, ldf9⟩ : w7.cell? ⟨(w4.heap.size + 3), 9, none⟩ = some (.slice (some ⟨w4.heap.size + 2, 0, none⟩) 1 1) ∧ w7.frozen? ⟨(w4.heap.size + 3), 9, none⟩ = false := bx (S.box 0 rfl) 9 rfl
          obtain ⟨rbc0, rbf0⟩ : w7.cell? ⟨w.heap.size, 0, none⟩ = some (.int .i64 0) ∧ w7.frozen? ⟨w.heap.size, 0, none⟩ = false := bx (S.box 4 rfl) 0 rfl
          obtain ⟨rbc1, rbf1⟩ : w7.cell? ⟨w.heap.size, 1, none⟩ = some (.slice none 0 0) ∧ w7.frozen? ⟨w.heap.size, 1, none⟩ = false := bx (S.box 4 rfl) 1 rfl
          go_wp2
          try simp only [Exit.inBlock, Exit.then]
          refine bodyPost_ret (v := .agg #[.int .i64 0, .slice (some ⟨w4.heap.size + 1, 0, none⟩) 2 2]) (by simp [results, Try.results33, go_sem, rbc0, rbc1]) rfl ?_
          replace S : SepM (fun b => b = g) w (w7.setCell ⟨w.heap.size, 0, none⟩ (.int .i64 0)) [plBox (w4.heap.size + 3) #[.int .i64 (-1), .slice none 0 0, .int .i64 10, .slice none 0 0, .int .i64 1, .slice (some ⟨w4.heap.size, 0, none⟩) 1 1, .int .i64 0, .slice (some ⟨w4.heap.size + 1, 0, none⟩) 2 2, .int .i64 0, .slice (some ⟨w4.heap.size + 2, 0, none⟩) 1 1] 27, plRow 3 1 encInt1 (.slice (some ⟨(w4.heap.size + 2), 0, none⟩) 1 1) ([0] : List Int), plRow 3 1 encInt1 (.slice (some ⟨(w4.heap.size + 1), 0, none⟩) 2 2) ([5, 5] : List Int), plRow 3 1 encInt1 (.slice (some ⟨w4.heap.size, 0, none⟩) 1 1) ([5] : List Int), plBox w.heap.size #[.int .i64 0, .slice none 0 0] 27] := S.set 4 rfl 0 _
          replace S : SepM (fun b => b = g) w ((w7.setCell ⟨w.heap.size, 0, none⟩ (.int .i64 0)).setCell ⟨w.heap.size, 1, none⟩ (.slice (some ⟨w4.heap.size + 1, 0, none⟩) 2 2)) [plBox (w4.heap.size + 3) #[.int .i64 (-1), .slice none 0 0, .int .i64 10, .slice none 0 0, .int .i64 1, .slice (some ⟨w4.heap.size, 0, none⟩) 1 1, .int .i64 0, .slice (some ⟨w4.heap.size + 1, 0, none⟩) 2 2, .int .i64 0, .slice (some ⟨w4.heap.size + 2, 0, none⟩) 1 1] 27, plRow 3 1 encInt1 (.slice (some ⟨(w4.heap.size + 2), 0, none⟩) 1 1) ([0] : List Int), plRow 3 1 encInt1 (.slice (some ⟨(w4.heap.size + 1), 0, none⟩) 2 2) ([5, 5] : List Int), plRow 3 1 encInt1 (.slice (some ⟨w4.heap.size, 0, none⟩) 1 1) ([5] : List Int), plBox w.heap.size #[.int .i64 0, .slice (some ⟨w4.heap.size + 1, 0, none⟩) 2 2] 27] := S.set 4 rfl 1 _
          replace S : SepM (fun b => b = g) w ((w7.setCell ⟨w.heap.size, 0, none⟩ (.int .i64 0)).setCell ⟨w.heap.size, 1, none⟩ (.slice (some ⟨w4.heap.size + 1, 0, none⟩) 2 2)) [plBox (w4.heap.size + 3) #[.int .i64 (-1), .slice none 0 0, .int .i64 10, .slice none 0 0, .int .i64 1, .slice (some ⟨w4.heap.size, 0, none⟩) 1 1, .int .i64 0, .slice (some ⟨w4.heap.size + 1, 0, none⟩) 2 2, .int .i64 0, .slice (some ⟨w4.heap.size + 2, 0, none⟩) 1 1] 27, plRow 3 1 encInt1 (.slice (some ⟨(w4.heap.size + 2), 0, none⟩) 1 1) ([0] : List Int), plRow 3 1 encInt1 (.slice (some ⟨(w4.heap.size + 1), 0, none⟩) 2 2) ([5, 5] : List Int), plRow 3 1 encInt1 (.slice (some ⟨w4.heap.size, 0, none⟩) 1 1) ([5] : List Int)] := S.drop 4
          replace S : SepM (fun b => b = g) w ((w7.setCell ⟨w.heap.size, 0, none⟩ (.int .i64 0)).setCell ⟨w.heap.size, 1, none⟩ (.slice (some ⟨w4.heap.size + 1, 0, none⟩) 2 2)) [plRow 3 1 encInt1 (.slice (some ⟨(w4.heap.size + 2), 0, none⟩) 1 1) ([0] : List Int), plRow 3 1 encInt1 (.slice (some ⟨(w4.heap.size + 1), 0, none⟩) 2 2) ([5, 5] : List Int), plRow 3 1 encInt1 (.slice (some ⟨w4.heap.size, 0, none⟩) 1 1) ([5] : List Int)] := S.drop 0
          replace S : SepM (fun b => b = g) w ((w7.setCell ⟨w.heap.size, 0, none⟩ (.int .i64 0)).setCell ⟨w.heap.size, 1, none⟩ (.slice (some ⟨w4.heap.size + 1, 0, none⟩) 2 2)) [plRow 3 1 encInt1 (.slice (some ⟨(w4.heap.size + 2), 0, none⟩) 1 1) ([0] : List Int), plRow 3 1 encInt1 (.slice (some ⟨(w4.heap.size + 1), 0, none⟩) 2 2) ([5, 5] : List Int)] := S.drop 2
          replace S : SepM (fun b => b = g) w ((w7.setCell ⟨w.heap.size, 0, none⟩ (.int .i64 0)).setCell ⟨w.heap.size, 1, none⟩ (.slice (some ⟨w4.heap.size + 1, 0, none⟩) 2 2)) [plRow 3 1 encInt1 (.slice (some ⟨(w4.heap.size + 1), 0, none⟩) 2 2) ([5, 5] : List Int)] := S.drop 0
          exact DrawnG.mk ([5, 5] : List Int) rfl (by simp) (by simp) ((hs6.setCell (p := ⟨w.heap.size, 0, none⟩) hg (.int .i64 0)).setCell (p := ⟨w.heap.size, 1, none⟩) hg (.slice (some ⟨w4.heap.size + 1, 0, none⟩) 2 2)) (S.toView (l := ([5, 5] : List Int)) encInt1_len)
        · obtain ⟨ldc0, ldf0⟩ : w7.cell? ⟨(w4.heap.size + 3), 0, none⟩ = some (.int .i64 (-1)) ∧ w7.frozen? ⟨(w4.heap.size + 3), 0, none⟩ = false := bx (S.box 0 rfl) 0 rfl
          obtain ⟨ldc1, ldf1⟩ : w7.cell? ⟨(w4.heap.size + 3), 1, none⟩ = some (.slice none 0 0) ∧ w7.frozen? ⟨(w4.heap.size + 3), 1, none⟩ = false := bx (S.box 0 rfl) 1 rfl
          obtain ⟨ldc2, ldf2⟩ : w7.cell? ⟨(w4.heap.size + 3), 2, none⟩ = some (.int .i64 10) ∧ w7.frozen? ⟨(w4.heap.size + 3), 2, none⟩ = false := bx (S.box 0 rfl) 2 rfl
          obtain ⟨ldc3, ldf3⟩ : w7.cell? ⟨(w4.heap.size + 3), 3, none⟩ = some (.slice none 0 0) ∧ w7.frozen? ⟨(w4.heap.size + 3), 3, none⟩ = false := bx (S.box 0 rfl) 3 rfl
          obtain ⟨ldc4, ldf4⟩ : w7.cell? ⟨(w4.heap.size + 3), 4, none⟩ = some (.int .i64 1) ∧ w7.frozen? ⟨(w4.heap.size + 3), 4, none⟩ = false := bx (S.box 0 rfl) 4 rfl
          obtain ⟨ldc5, ldf5⟩ : w7.cell? ⟨(w4.heap.size + 3), 5, none⟩ = some (.slice (some ⟨w4.heap.size, 0, none⟩) 1 1) ∧ w7.frozen? ⟨(w4.heap.size + 3), 5, none⟩ = false := bx (S.box 0 rfl) 5 rfl
          obtain ⟨ldc6, ldf6⟩ : w7.cell? ⟨(w4.heap.size + 3), 6, none⟩ = some (.int .i64 0) ∧ w7.frozen? ⟨(w4.heap.size + 3), 6, none⟩ = false := bx (S.box 0 rfl) 6 rfl
          obtain ⟨ldc7, ldf7⟩ : w7.cell? ⟨(w4.heap.size + 3), 7, none⟩ = some (.slice (some ⟨w4.heap.size + 1, 0, none⟩) 2 2) ∧ w7.frozen? ⟨(w4.heap.size + 3), 7, none⟩ = false := bx (S.box 0 rfl) 7 rfl
          obtain ⟨ldc8, ldf8⟩ : w7.cell? ⟨(w4.heap.size + 3), 8, none⟩ = some (.int .i64 0) ∧ w7.frozen? ⟨(w4.heap.size + 3), 8, none⟩ = false := bx (S.box 0 rfl) 8 rfl
          obtain ⟨ldc9, ldf9⟩ : w7.cell? ⟨(w4.heap.size + 3), 9, none⟩ = some (.slice (some ⟨w4.heap.size + 2, 0, none⟩) 1 1) ∧ w7.frozen? ⟨(w4.heap.size + 3), 9, none⟩ = false := bx (S.box 0 rfl) 9 rfl
          obtain ⟨rbc0, rbf0⟩ : w7.cell? ⟨w.heap.size, 0, none⟩ = some (.int .i64 0) ∧ w7.frozen? ⟨w.heap.size, 0, none⟩ = false := bx (S.box 4 rfl) 0 rfl
          obtain ⟨rbc1, rbf1⟩ : w7.cell? ⟨w.heap.size, 1, none⟩ = some (.slice none 0 0) ∧ w7.frozen? ⟨w.heap.size, 1, none⟩ = false := bx (S.box 4 rfl) 1 rfl
          go_wp2
          try simp only [Exit.inBlock, Exit.then]
          refine bodyPost_ret (v := .agg #[.int .i64 0, .slice (some ⟨w4.heap.size + 2, 0, none⟩) 1 1]) (by simp [results, Try.results33, go_sem, rbc0, rbc1]) rfl ?_
          replace S : SepM (fun b => b = g) w (w7.setCell ⟨w.heap.size, 0, none⟩ (.int .i64 0)) [plBox (w4.heap.size + 3) #[.int .i64 (-1), .slice none 0 0, .int .i64 10, .slice none 0 0, .int .i64 1, .slice (some ⟨w4.heap.size, 0, none⟩) 1 1, .int .i64 0, .slice (some ⟨w4.heap.size + 1, 0, none⟩) 2 2, .int .i64 0, .slice (some ⟨w4.heap.size + 2, 0, none⟩) 1 1] 27, plRow 3 1 encInt1 (.slice (some ⟨(w4.heap.size + 2), 0, none⟩) 1 1) ([0] : List Int), plRow 3 1 encInt1 (.slice (some ⟨(w4.heap.size + 1), 0, none⟩) 2 2) ([5, 5] : List Int), plRow 3 1 encInt1 (.slice (some ⟨w4.heap.size, 0, none⟩) 1 1) ([5] : List Int), plBox w.heap.size #[.int .i64 0, .slice none 0 0] 27] := S.set 4 rfl 0 _
          replace S : SepM (fun b => b = g) w ((w7.setCell ⟨w.heap.size, 0, none⟩ (.int .i64 0)).setCell ⟨w.heap.size, 1, none⟩ (.slice (some ⟨w4.heap.size + 2, 0, none⟩) 1 1)) [plBox (w4.heap.size + 3) #[.int .i64 (-1), .slice none 0 0, .int .i64 10, .slice none 0 0, .int .i64 1, .slice (some ⟨w4.heap.size, 0, none⟩) 1 1, .int .i64 0, .slice (some ⟨w4.heap.size + 1, 0, none⟩) 2 2, .int .i64 0, .slice (some ⟨w4.heap.size + 2, 0, none⟩) 1 1] 27, plRow 3 1 encInt1 (.slice (some ⟨(w4.heap.size + 2), 0, none⟩) 1 1) ([0] : List Int), plRow 3 1 encInt1 (.slice (some ⟨(w4.heap.size + 1), 0, none⟩) 2 2) ([5, 5] : List Int), plRow 3 1 encInt1 (.slice (some ⟨w4.heap.size, 0, none⟩) 1 1) ([5] : List Int), plBox w.heap.size #[.int .i64 0, .slice (some ⟨w4.heap.size + 2, 0, none⟩) 1 1] 27] := S.set 4 rfl 1 _
          replace S : SepM (fun b => b = g) w ((w7.setCell ⟨w.heap.size, 0, none⟩ (.int .i64 0)).setCell ⟨w.heap.size, 1, none⟩ (.slice (some ⟨w4.heap.size + 2, 0, none⟩) 1 1)) [plBox (w4.heap.size + 3) #[.int .i64 (-1), .slice none 0 0, .int .i64 10, .slice none 0 0, .int .i64 1, .slice (some ⟨w4.heap.size, 0, none⟩) 1 1, .int .i64 0, .slice (some ⟨w4.heap.size + 1, 0, none⟩) 2 2, .int .i64 0, .slice (some ⟨w4.heap.size + 2, 0, none⟩) 1 1] 27, plRow 3 1 encInt1 (.slice (some ⟨(w4.heap.size + 2), 0, none⟩) 1 1) ([0] : List Int), plRow 3 1 encInt1 (.slice (some ⟨(w4.heap.size + 1), 0, none⟩) 2 2) ([5, 5] : List Int), plRow 3 1 encInt1 (.slice (some ⟨w4.heap.size, 0, none⟩) 1 1) ([5] : List Int)] := S.drop 4
          replace S : SepM (fun b => b = g) w ((w7.setCell ⟨w.heap.size, 0, none⟩ (.int .i64 0)).setCell ⟨w.heap.size, 1, none⟩ (.slice (some ⟨w4.heap.size + 2, 0, none⟩) 1 1)) [plRow 3 1 encInt1 (.slice (some ⟨(w4.heap.size + 2), 0, none⟩) 1 1) ([0] : List Int), plRow 3 1 encInt1 (.slice (some ⟨(w4.heap.size + 1), 0, none⟩) 2 2) ([5, 5] : List Int), plRow 3 1 encInt1 (.slice (some ⟨w4.heap.size, 0, none⟩) 1 1) ([5] : List Int)] := S.drop 0
          replace S : SepM (fun b => b = g) w ((w7.setCell ⟨w.heap.size, 0, none⟩ (.int .i64 0)).setCell ⟨w.heap.size, 1, none⟩ (.slice (some ⟨w4.heap.size + 2, 0, none⟩) 1 1)) [plRow 3 1 encInt1 (.slice (some ⟨(w4.heap.size + 2), 0, none⟩) 1 1) ([0] : List Int), plRow 3 1 encInt1 (.slice (some ⟨(w4.heap.size + 1), 0, none⟩) 2 2) ([5, 5] : List Int)] := S.drop 2
          replace S : SepM (fun b => b = g) w ((w7.setCell ⟨w.heap.size, 0, none⟩ (.int .i64 0)).setCell ⟨w.heap.size, 1, none⟩ (.slice (some ⟨w4.heap.size + 2, 0, none⟩) 1 1)) [plRow 3 1 encInt1 (.slice (some ⟨(w4.heap.size + 2), 0, none⟩) 1 1) ([0] : List Int)] := S.drop 1
          exact DrawnG.mk ([0] : List Int) rfl (by simp) (by simp) ((hs6.setCell (p := ⟨w.heap.size, 0, none⟩) hg (.int .i64 0)).setCell (p := ⟨w.heap.size, 1, none⟩) hg (.slice (some ⟨w4.heap.size + 2, 0, none⟩) 1 1)) (S.toView (l := ([0] : List Int)) encInt1_len)
end Go.Proofs.Ytcnghlmndahfpaa
