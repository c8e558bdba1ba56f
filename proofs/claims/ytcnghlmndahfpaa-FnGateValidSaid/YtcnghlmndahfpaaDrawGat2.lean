/- The draws of the laws of gates. No condition but small sizes. -/
import Derived.Test.YtcnghlmndahfpaaDrawGate
namespace Go.Proofs.Ytcnghlmndahfpaa
open Go.RowKit

/-- A gate in new memory, to be read. -/
def RetGd (w : World) (e : Ending) (w' : World) : Prop := ∃ f a l cap, e = .returned (.agg #[.int .i64 f, .slice a l.length cap]) ∧ l.length ≤ 12 ∧ l.length ≤ cap ∧ Sep w w' [plView 1 encInt1 a l]

theorem drawGateValid (a : Option Addr) (cap : Nat) (l : List Int) (w : World) (hl : l.length ≤ 9223372036854775807) (hcap : l.length ≤ cap) (hu : ∀ x ∈ l, 0 ≤ x ∧ x ≤ 255) (hc : Rd 1 encU8 w a l) :
    Calls Try.prog 14 #[.slice a l.length cap] w (RetGd w) := by
  go_enter Try.func14, Try.ntmps14
  have S := Sep.start w
  replace S : Sep w (w.alloc (.cells #[.int .i64 0, .slice none 0 0] 27)) [plBox w.heap.size #[.int .i64 0, .slice none 0 0] 27] := S.alloc_at (by simp) _ _
  go_wp2_with fail
  generalize (w.alloc (.cells #[.int .i64 0, .slice none 0 0] 27)) = w1 at *
  refine (open_any a cap l w1 hl hcap hu (hc.ext S.ext)).mono ?_
  rintro e w2 ⟨v, rfl, ⟨rfl, hs⟩, hE⟩
  have hg1 := S.ge 0 rfl
  generalize w1.heap.size = g at *
  replace S : Sep w w2 [plBox w.heap.size #[.int .i64 0, .slice none 0 0] 27] := S.step hE
  clear hE
  go_wp2_with fail
  refine (drawGate g _ 2 w2 hs (by omega) (by omega)).mono ?_
  rintro e w3 ⟨f, b, L, c, rfl, h12, hc3, hs3, T⟩
  replace S : Sep w w3 [plView 1 encInt1 b L, plBox w.heap.size #[.int .i64 0, .slice none 0 0] 27] := (S.readCall T (by omega) (by simp [plBox]; omega))
  clear T
  obtain ⟨rbc0, rbf0⟩ : w3.cell? ⟨w.heap.size, 0, none⟩ = some (.int .i64 0) ∧ w3.frozen? ⟨w.heap.size, 0, none⟩ = false := bx (S.box 1 rfl) 0 rfl
  obtain ⟨rbc1, rbf1⟩ : w3.cell? ⟨w.heap.size, 1, none⟩ = some (.slice none 0 0) ∧ w3.frozen? ⟨w.heap.size, 1, none⟩ = false := bx (S.box 1 rfl) 1 rfl
  go_wp2
  try simp only [Exit.inBlock, Exit.then]
  refine bodyPost_ret (v := .agg #[.int .i64 f, .slice b L.length c]) (by simp [results, Try.results14, go_sem, rbc0, rbc1]) rfl ?_
  replace S : Sep w (w3.setCell ⟨w.heap.size, 0, none⟩ (.int .i64 f)) [plView 1 encInt1 b L, plBox w.heap.size #[.int .i64 f, .slice none 0 0] 27] := S.set 1 rfl 0 _
  replace S : Sep w ((w3.setCell ⟨w.heap.size, 0, none⟩ (.int .i64 f)).setCell ⟨w.heap.size, 1, none⟩ (.slice b L.length c)) [plView 1 encInt1 b L, plBox w.heap.size #[.int .i64 f, .slice b L.length c] 27] := S.set 1 rfl 1 _
  replace S : Sep w ((w3.setCell ⟨w.heap.size, 0, none⟩ (.int .i64 f)).setCell ⟨w.heap.size, 1, none⟩ (.slice b L.length c)) [plView 1 encInt1 b L] := S.drop 1
  exact ⟨f, b, L, c, rfl, h12, hc3, S⟩

def VDe (g B : Nat) (rbk : Nat) (f : Int) (a : Option Addr) (cap : Nat) (l : List Int) : Nat → Value → List Value → World → Prop := fun i v us wv => match i with
  | 0 => v = .agg #[.int .i64 f, .slice a l.length cap]
  | 1 => v = .pointer (some ⟨g, 0, none⟩)
  | 2 => (CT.int 0 11).has v
  | 3 => (CT.int 1 12).has v
  | 4 => LitC (B) 3 [CT.int 0 100] v wv
  | 5 => LitC (B) 7 [CT.int 0 2] v wv
  | 6 => v = .pointer (some ⟨g, 0, none⟩)
  | 7 => (CT.int 0 6).has v
  | 8 => PtrC (B) [CT.int 0 2] v wv
  | 9 => (CT.int 0 2).has v
  | 10 => PtrC (B) [CT.int 0 100] v wv
  | 11 => (CT.int 0 100).has v
  | 12 => wv.heap[rbk]? = some (.cells #[.int .i64 f, .slice a l.length cap] 27)
  | 13 => wv.heap[rbk]? = some (.cells #[.int .i64 0, .slice none 0 0] 27)
  | _ => True
theorem VDe.step {g B : Nat} {rbk : Nat} {f : Int} {a : Option Addr} {cap : Nat} {l : List Int} (hg : g < B) (hrg : rbk ≠ g) (i : Nat) (v : Value) (us : List Value) (w w' : World) (h : VDe g B rbk f a cap l i v us w) (hE : Step g w w') : VDe g B rbk f a cap l i v us w' := by
  match i with
  | 0 => exact h
  | 1 => exact h
  | 2 => exact h
  | 3 => exact h
  | 4 => exact LitC.chg h (Chg.of_step hE) (fun b e => e ▸ hg)
  | 5 => exact LitC.chg h (Chg.of_step hE) (fun b e => e ▸ hg)
  | 6 => exact h
  | 7 => exact h
  | 8 => exact PtrC.chg h (Chg.of_step hE) (fun b e => e ▸ hg)
  | 9 => exact h
  | 10 => exact PtrC.chg h (Chg.of_step hE) (fun b e => e ▸ hg)
  | 11 => exact h
  | 12 => exact (heap_step hE hrg (Array.getElem?_eq_some_iff.1 (show w.heap[_]? = _ from h)).1).trans h
  | 13 => exact (heap_step hE hrg (Array.getElem?_eq_some_iff.1 (show w.heap[_]? = _ from h)).1).trans h
  | (n + 14) => trivial
theorem VDe.box {g B rbk : Nat} {f : Int} {a : Option Addr} {cap : Nat} {l : List Int} (hB : rbk < B) (i : Nat) (v : Value) (us : List Value) (w w' : World) (h : VDe g B rbk f a cap l i v us w) (hE : Chg (fun b => b = rbk) w w') (hi : i < 13) (hs12 : i ≠ 12) : VDe g B rbk f a cap l i v us w' := by
  match i with
  | 0 => exact h
  | 1 => exact h
  | 2 => exact h
  | 3 => exact h
  | 4 => exact LitC.chg h hE (fun b e => e ▸ hB)
  | 5 => exact LitC.chg h hE (fun b e => e ▸ hB)
  | 6 => exact h
  | 7 => exact h
  | 8 => exact PtrC.chg h hE (fun b e => e ▸ hB)
  | 9 => exact h
  | 10 => exact PtrC.chg h hE (fun b e => e ▸ hB)
  | 11 => exact h
  | 12 => exact absurd rfl hs12
  | (n + 13) => omega

/-- A gate in new memory, to be read, and a number. -/
def RetGn (w : World) (e : Ending) (w' : World) : Prop := ∃ f a l cap n, e = .returned (.tuple #[.agg #[.int .i64 f, .slice a l.length cap], .int .i64 n]) ∧ l.length ≤ 12 ∧ l.length ≤ cap ∧ Sep w w' [plView 1 encInt1 a l]

set_option maxHeartbeats 4000000 in
theorem drawEnterGate (ac : Option Addr) (capc : Nat) (code : List Int) (w : World) (hl : code.length ≤ 9223372036854775807) (hcap : code.length ≤ capc) (hu : ∀ x ∈ code, 0 ≤ x ∧ x ≤ 255) (hc : Rd 1 encU8 w ac code) :
    Calls Try.prog 22 #[.slice ac code.length capc] w (RetGn w) := by
  go_enter Try.func22, Try.ntmps22
  have S := Sep.start w
  replace S : Sep w (w.alloc (.cells #[.int .i64 0, .slice none 0 0] 27)) [plBox w.heap.size #[.int .i64 0, .slice none 0 0] 27] := S.alloc_at (by simp) _ _
  go_wp2_with fail
  generalize (w.alloc (.cells #[.int .i64 0, .slice none 0 0] 27)) = w1 at *
  refine (open_any ac capc code w1 hl hcap hu (hc.ext S.ext)).mono ?_
  rintro e w2 ⟨v, rfl, ⟨rfl, hs⟩, hE⟩
  have hg1 := S.ge 0 rfl
  generalize w1.heap.size = g at *
  replace S : Sep w w2 [plBox w.heap.size #[.int .i64 0, .slice none 0 0] 27] := S.step hE
  clear hE
  go_wp2_with fail
  refine (drawGate g _ 9 w2 hs (by omega) (by omega)).mono ?_
  rintro e w3 ⟨f, a, l, cap, rfl, h12, hc3, hs3, T⟩
  have hvg : ∀ b off, a = some ⟨b, off, none⟩ → b ≠ g := fun b off h => by
    have h1 := T.base (plView 1 encInt1 a l) (by simp) b ⟨off, h⟩
    have h2 := hs.lt
    omega
  have Hvg := Lib.hid hvg
  clear hvg
  replace S : Sep w w3 [plView 1 encInt1 a l, plBox w.heap.size #[.int .i64 0, .slice none 0 0] 27] := (S.readCall T (by omega) (by simp [plBox]; omega))
  clear T hs
  have hg3 := hs3.lt
  replace S : Sep w (w3.alloc (.cells #[.int .i64 f, .slice a l.length cap] 27)) [plBox w3.heap.size #[.int .i64 f, .slice a l.length cap] 27, plView 1 encInt1 a l, plBox w.heap.size #[.int .i64 0, .slice none 0 0] 27] := S.alloc_at (by simp) _ _
  replace hs3 := hs3.ext ((Ext.refl w3).alloc (.cells #[.int .i64 f, .slice a l.length cap] 27))
  go_upto_region 3 with fail
  generalize (w3.alloc (.cells #[.int .i64 f, .slice a l.length cap] 27)) = wR at *
  have hgb3 := (S.ge 0 rfl).2
  generalize w3.heap.size = B3 at *
  have hs4 := hs3.ext (Ext.refl wR).drew
  obtain ⟨P1, hP1⟩ : ∃ P1 : Int, P1 = 0 + 200 := ⟨_, rfl⟩
  rw [← hP1] at hs4
  have hP2 : P1 ≤ 1000 := by omega
  clear hP1 hs3
  have gbk : ∀ wv, Chg (fun b => b = g ∨ b = w.heap.size) wR.drew wv → ∀ (o : Nat) (v : Value), (#[.int .i64 f, .slice a l.length cap] : Array Value)[o]? = some v → wv.cell? ⟨B3, o, none⟩ = some v := fun wv hc o v hv => by
    rw [World.cell?_of_block (w := wR.drew) (hc.block B3 (by exact hgb3) (by omega))]
    exact (bx (S.box 0 rfl) o hv).1
  have hrb0 : wR.drew.heap[w.heap.size]? = some (.cells #[.int .i64 0, .slice none 0 0] 27) := S.box 2 rfl
  have hrg : w.heap.size ≠ g := by omega
  have hrB : w.heap.size < wR.heap.size := (S.ge 2 rfl).2
  have hgb : g < wR.heap.size := hs4.lt
  refine wp_region_d (V := VDe (g) wR.heap.size (w.heap.size) f a cap l) (fun _ => []) (fun k wv => Chg (fun b => b = g ∨ b = w.heap.size) wR.drew wv ∧ Src (g) (P1 + (k : Int)) wv) (fun i => if i = 13 then some 12 else none) [] 13 1 rfl (by decide) (by kernel_rfl) (by kernel_rfl) (by kernel_rfl) (by kernel_rfl) (by kernel_rfl) ⟨Chg.refl _ _, by simpa using hs4⟩ (fun r hr => match r, hr with | 0, _ => hrb0) ?_ ?_
  · intro i o hi ho k hk vs w4 hvl hI0 hd hrest
    obtain ⟨hE, hsk⟩ := hI0
    have hsk1 : Src (g) (P1 + ((k + 1 : Nat) : Int)) w4 := hsk.mono (by omega)
    have hsz : wR.heap.size ≤ w4.heap.size := (show wR.drew.heap.size ≤ _ from hE.size)
    match vs, hvl with
    | [y0, y1, y2, y3, y4, y5, y6, y7, y8, y9, y10, y11, y12], _ =>
    rcases (show i = 0 ∨ i = 1 ∨ i = 2 ∨ i = 3 ∨ i = 4 ∨ i = 5 ∨ i = 6 ∨ i = 7 ∨ i = 8 ∨ i = 9 ∨ i = 10 ∨ i = 11 ∨ i = 12 by omega) with rfl | rfl | rfl | rfl | rfl | rfl | rfl | rfl | rfl | rfl | rfl | rfl | rfl
    all_goals
      simp only [List.getElem?_cons_zero, List.getElem?_cons_succ, Option.some.injEq] at ho
      subst ho
    · clear hrest
      have d0 := gbk w4 hE 0 _ rfl
      have d1 := gbk w4 hE 1 _ rfl
      simp [putAll, Act.put]
      go_wp2
      exact ⟨rfl, _, rfl, rfl, ⟨hE.trans ((Chg.of_step (Step.refl _ _)).mono (fun k hk _ => .inl hk)), hsk1⟩, fun i u us hi hne hcon hnd _ hv => VDe.step hgb hrg i u us _ _ hv (Step.refl _ _)⟩
    · clear hrest
      simp [putAll, Act.put]
      go_wp2
      exact ⟨rfl, _, rfl, rfl, ⟨hE.trans ((Chg.of_step (Step.refl _ _)).mono (fun k hk _ => .inl hk)), hsk1⟩, fun i u us hi hne hcon hnd _ hv => VDe.step hgb hrg i u us _ _ hv (Step.refl _ _)⟩
    · clear hrest
      have q1 : y1 = .pointer (some ⟨g, 0, none⟩) := hd ⟨1, .data⟩ (by simp) rfl (by decide)
      clear hd
      simp [putAll, Act.put, q1]
      go_wp2_with fail
      refine (pick_any _ _ 12 _ hsk (by omega)).mono ?_
      rintro e w5 ⟨v5, rfl, ⟨z, rfl, z0, z1, _⟩, hs5, hS5⟩
      have hs6 : Src (g) (P1 + ((k + 1 : Nat) : Int)) w5 := hs5.mono (by omega)
      have hz := z1 (by omega)
      clear z1
      go_wp2
      exact ⟨rfl, _, rfl, CT.int_mk, ⟨hE.trans ((Chg.of_step hS5).mono (fun k hk _ => .inl hk)), hs6⟩, fun i u us hi hne hcon hnd _ hv => VDe.step hgb hrg i u us _ _ hv hS5⟩
    · clear hrest
      have q2 : (CT.int 0 11).has y2 := hd ⟨2, .data⟩ (by simp) rfl (by decide)
      obtain ⟨z1, rfl, z1a, z1b⟩ := q2
      clear hd
      have hw : IntKind.i64.wrap (1 + z1) = 1 + z1 := IntWalk.i64_in _ (by omega)
      simp [putAll, Act.put]
      go_wp2
      exact ⟨rfl, _, rfl, CT.int_mk (by omega), ⟨hE.trans ((Chg.of_step (Step.refl _ _)).mono (fun k hk _ => .inl hk)), hsk1⟩, fun i u us hi hne hcon hnd _ hv => VDe.step hgb hrg i u us _ _ hv (Step.refl _ _)⟩
    · clear hrest
      have q3 : (CT.int 1 12).has y3 := hd ⟨3, .data⟩ (by simp) rfl (by decide)
      obtain ⟨z0, z0e, z0a, z0b⟩ := q3
      clear hd
      subst z0e
      simp [putAll, Act.put]
      go_wp2
      exact ⟨rfl, _, rfl, LitC.mk hsz ⟨CT.int_mk (by omega), CT.int_mk (by omega), CT.int_mk (by omega), trivial⟩ rfl, ⟨hE.trans ((Chg.of_step ((Step.refl _ _).alloc _)).mono (fun k hk _ => .inl hk)), hsk1.ext ((Ext.refl _).alloc _)⟩, fun i u us hi hne hcon hnd _ hv => VDe.step hgb hrg i u us _ _ hv ((Step.refl _ _).alloc _)⟩
    · clear hrest
      clear hd
      simp [putAll, Act.put]
      go_wp2
      exact ⟨rfl, _, rfl, LitC.mk hsz ⟨CT.int_mk (by omega), CT.int_mk (by omega), CT.int_mk (by omega), CT.int_mk (by omega), CT.int_mk (by omega), CT.int_mk (by omega), CT.int_mk (by omega), trivial⟩ rfl, ⟨hE.trans ((Chg.of_step ((Step.refl _ _).alloc _)).mono (fun k hk _ => .inl hk)), hsk1.ext ((Ext.refl _).alloc _)⟩, fun i u us hi hne hcon hnd _ hv => VDe.step hgb hrg i u us _ _ hv ((Step.refl _ _).alloc _)⟩
    · clear hrest
      simp [putAll, Act.put]
      go_wp2
      exact ⟨rfl, _, rfl, rfl, ⟨hE.trans ((Chg.of_step (Step.refl _ _)).mono (fun k hk _ => .inl hk)), hsk1⟩, fun i u us hi hne hcon hnd _ hv => VDe.step hgb hrg i u us _ _ hv (Step.refl _ _)⟩
    · clear hrest
      have q6 : y6 = .pointer (some ⟨g, 0, none⟩) := hd ⟨6, .data⟩ (by simp) rfl (by decide)
      clear hd
      simp [putAll, Act.put, q6]
      go_wp2_with fail
      refine (pick_any _ _ 7 _ hsk (by omega)).mono ?_
      rintro e w5 ⟨v5, rfl, ⟨z, rfl, z0, z1, _⟩, hs5, hS5⟩
      have hs6 : Src (g) (P1 + ((k + 1 : Nat) : Int)) w5 := hs5.mono (by omega)
      have hz := z1 (by omega)
      clear z1
      go_wp2
      exact ⟨rfl, _, rfl, CT.int_mk, ⟨hE.trans ((Chg.of_step hS5).mono (fun k hk _ => .inl hk)), hs6⟩, fun i u us hi hne hcon hnd _ hv => VDe.step hgb hrg i u us _ _ hv hS5⟩
    · clear hrest
      have q5 : LitC (wR.heap.size) 7 [CT.int 0 2] y5 w4 := hd ⟨5, .data⟩ (by simp) rfl (by decide)
      have q7 : (CT.int 0 6).has y7 := hd ⟨7, .data⟩ (by simp) rfl (by decide)
      clear hd
      obtain ⟨bb, hbb⟩ : ∃ bb, y5 = .slice (some ⟨bb, 0, none⟩) 7 7 := (let ⟨b, _, _, h, _⟩ := q5; ⟨b, h⟩)
      subst hbb
      obtain ⟨z, rfl, z0, z1⟩ := q7
      obtain ⟨j, rfl⟩ : ∃ j : Nat, z = j := ⟨z.toNat, by omega⟩
      have hp := LitC.ptr (nf := 1) rfl q5 (k := j) (by omega)
      have hj : (j : Int) < 7 := by omega
      clear q5
      have hp2 : PtrC (wR.heap.size) [CT.int 0 2] (.pointer (some ⟨bb, j, none⟩)) w4 := by simpa using hp
      simp [putAll, Act.put]
      go_wp2
      exact ⟨rfl, _, rfl, hp2, ⟨hE.trans ((Chg.of_step (Step.refl _ _)).mono (fun k hk _ => .inl hk)), hsk1⟩, fun i u us hi hne hcon hnd _ hv => VDe.step hgb hrg i u us _ _ hv (Step.refl _ _)⟩
    · clear hrest
      have q8 : PtrC (wR.heap.size) [CT.int 0 2] y8 w4 := hd ⟨8, .data⟩ (by simp) rfl (by decide)
      clear hd
      obtain ⟨b, o, rfl, hb, hlt, hc⟩ := q8
      obtain ⟨u0, c0, ht0⟩ := hc 0 _ rfl
      obtain ⟨x0, rfl, x0a, x0b⟩ := ht0
      rw [Nat.add_zero] at c0
      clear hc
      simp [putAll, Act.put]
      go_wp2
      exact ⟨rfl, _, rfl, CT.int_mk ⟨x0a, x0b⟩, ⟨hE.trans ((Chg.of_step (Step.refl _ _)).mono (fun k hk _ => .inl hk)), hsk1⟩, fun i u us hi hne hcon hnd _ hv => VDe.step hgb hrg i u us _ _ hv (Step.refl _ _)⟩
    · clear hrest
      have q4 : LitC (wR.heap.size) 3 [CT.int 0 100] y4 w4 := hd ⟨4, .data⟩ (by simp) rfl (by decide)
      have q9 : (CT.int 0 2).has y9 := hd ⟨9, .data⟩ (by simp) rfl (by decide)
      clear hd
      obtain ⟨bb, hbb⟩ : ∃ bb, y4 = .slice (some ⟨bb, 0, none⟩) 3 3 := (let ⟨b, _, _, h, _⟩ := q4; ⟨b, h⟩)
      subst hbb
      obtain ⟨z, rfl, z0, z1⟩ := q9
      obtain ⟨j, rfl⟩ : ∃ j : Nat, z = j := ⟨z.toNat, by omega⟩
      have hp := LitC.ptr (nf := 1) rfl q4 (k := j) (by omega)
      have hj : (j : Int) < 3 := by omega
      clear q4
      have hp2 : PtrC (wR.heap.size) [CT.int 0 100] (.pointer (some ⟨bb, j, none⟩)) w4 := by simpa using hp
      simp [putAll, Act.put]
      go_wp2
      exact ⟨rfl, _, rfl, hp2, ⟨hE.trans ((Chg.of_step (Step.refl _ _)).mono (fun k hk _ => .inl hk)), hsk1⟩, fun i u us hi hne hcon hnd _ hv => VDe.step hgb hrg i u us _ _ hv (Step.refl _ _)⟩
    · clear hrest
      have q10 : PtrC (wR.heap.size) [CT.int 0 100] y10 w4 := hd ⟨10, .data⟩ (by simp) rfl (by decide)
      clear hd
      obtain ⟨b, o, rfl, hb, hlt, hc⟩ := q10
      obtain ⟨u0, c0, ht0⟩ := hc 0 _ rfl
      obtain ⟨x0, rfl, x0a, x0b⟩ := ht0
      rw [Nat.add_zero] at c0
      clear hc
      simp [putAll, Act.put]
      go_wp2
      exact ⟨rfl, _, rfl, CT.int_mk ⟨x0a, x0b⟩, ⟨hE.trans ((Chg.of_step (Step.refl _ _)).mono (fun k hk _ => .inl hk)), hsk1⟩, fun i u us hi hne hcon hnd _ hv => VDe.step hgb hrg i u us _ _ hv (Step.refl _ _)⟩
    · obtain rfl : y0 = .agg #[.int .i64 f, .slice a l.length cap] := hd ⟨0, .data⟩ (by simp) rfl (by decide)
      have hb0 : w4.heap[w.heap.size]? = some (.cells #[.int .i64 0, .slice none 0 0] 27) := hrest 0 (by omega) (.inr rfl)
      clear hrest hd
      obtain ⟨z0, zf0⟩ : w4.cell? ⟨w.heap.size, 0, none⟩ = some (.int .i64 0) ∧ w4.frozen? ⟨w.heap.size, 0, none⟩ = false := bx hb0 0 rfl
      obtain ⟨z1, zf1⟩ : w4.cell? ⟨w.heap.size, 1, none⟩ = some (.slice none 0 0) ∧ w4.frozen? ⟨w.heap.size, 1, none⟩ = false := bx hb0 1 rfl
      have hb1 : ((w4.setCell ⟨w.heap.size, 0, none⟩ (.int .i64 f)).setCell ⟨w.heap.size, 1, none⟩ (.slice a l.length cap)).heap[w.heap.size]? = some (.cells #[.int .i64 f, .slice a l.length cap] 27) := (box_set (box_set hb0 0 (.int .i64 f)) 1 (.slice a l.length cap))
      have hch : Chg (fun b => b = w.heap.size) w4 ((w4.setCell ⟨w.heap.size, 0, none⟩ (.int .i64 f)).setCell ⟨w.heap.size, 1, none⟩ (.slice a l.length cap)) := ((Chg.refl (fun b => b = w.heap.size) w4).trans (Chg.setCell _ w.heap.size 0 (.int .i64 f))).trans (Chg.setCell _ w.heap.size 1 (.slice a l.length cap))
      have hsk2 : Src (g) (P1 + ((k + 1 : Nat) : Int)) ((w4.setCell ⟨w.heap.size, 0, none⟩ (.int .i64 f)).setCell ⟨w.heap.size, 1, none⟩ (.slice a l.length cap)) := Src.chgBox hsk1 hch hrg hb0 (by intro o x h; rcases o with _ | _ | o <;> simp at h)
      simp [putAll, Act.put]
      go_wp2
      refine ⟨rfl, undef, rfl, hb1, ⟨hE.trans (hch.mono (fun k hk _ => .inr hk)), hsk2⟩, fun i u us hi hne hcon hnd _ hv => ?_⟩
      rcases Nat.lt_or_ge i 13 with h9 | h9
      · exact VDe.box hrB i u us _ _ hv hch h9 hne
      · obtain rfl : i = 13 := by omega
        exact absurd rfl hcon
  intro vs w4 hvl hI0 hV hVr
  obtain ⟨hE, hsn⟩ := hI0
  match vs, hvl with
  | [y0, y1, y2, y3, y4, y5, y6, y7, y8, y9, y10, y11, y12], _ =>
  have e11 : (CT.int 0 100).has y11 := hV 11 (by omega) rfl
  have e12 : w4.heap[w.heap.size]? = some (.cells #[.int .i64 f, .slice a l.length cap] 27) := hV 12 (by omega) rfl
  clear hV hVr
  obtain ⟨n, rfl, _, _⟩ := e11
  simp only [putAll, Act.put, List.take_succ_cons, List.take_zero, List.drop_succ_cons, List.drop_zero]
  simp
  have hc9 : Chg (fun b => b = g ∨ b = w.heap.size) wR w4 := (Chg.of_ext (Ext.refl wR).drew).trans hE
  have hvr : ∀ b off, a = some ⟨b, off, none⟩ → b ≠ w.heap.size := fun b off h e => S.ne (i := 1) (j := 2) rfl rfl (by omega) (show (plView 1 encInt1 a l).own b from ⟨off, h⟩) e
  replace S : Sep w wR [plView 1 encInt1 a l, plBox w.heap.size #[.int .i64 0, .slice none 0 0] 27] := S.drop 0
  replace S : Sep w wR [plView 1 encInt1 a l] := S.drop 1
  replace S : Sep w w4 [plView 1 encInt1 a l] := (S.others hc9 (fun b h => by omega) (fun p hp b hb h => by rw [List.mem_singleton.1 hp] at hb; obtain ⟨off, hb⟩ := hb; rcases h with h | h; exact Hvg.out b off hb h; exact hvr b off hb h))
  obtain ⟨rbc0, rbf0⟩ := bx e12 0 rfl
  obtain ⟨rbc1, rbf1⟩ := bx e12 1 rfl
  clear hc9 hE hsn e12 gbk hrb0
  go_wp2
  try simp only [Exit.inBlock, Exit.then]
  refine bodyPost_ret (v := .tuple #[.agg #[.int .i64 f, .slice a l.length cap], .int .i64 n]) (by simp [results, Try.results22, go_sem, rbc0, rbc1]) rfl ?_
  exact ⟨f, a, l, cap, n, rfl, h12, hc3, S⟩

theorem drawLeaveGate (ac : Option Addr) (capc : Nat) (code : List Int) (w : World) (hl : code.length ≤ 9223372036854775807) (hcap : code.length ≤ capc) (hu : ∀ x ∈ code, 0 ≤ x ∧ x ≤ 255) (hc : Rd 1 encU8 w ac code) :
    Calls Try.prog 24 #[.slice ac code.length capc] w (RetGd w) := by
  go_enter Try.func24, Try.ntmps24
  have S := Sep.start w
  replace S : Sep w (w.alloc (.cells #[.int .i64 0, .slice none 0 0] 27)) [plBox w.heap.size #[.int .i64 0, .slice none 0 0] 27] := S.alloc_at (by simp) _ _
  go_wp2_with fail
  generalize (w.alloc (.cells #[.int .i64 0, .slice none 0 0] 27)) = w1 at *
  refine (open_any ac capc code w1 hl hcap hu (hc.ext S.ext)).mono ?_
  rintro e w2 ⟨v, rfl, ⟨rfl, hs⟩, hE⟩
  have hg1 := S.ge 0 rfl
  generalize w1.heap.size = g at *
  replace S : Sep w w2 [plBox w.heap.size #[.int .i64 0, .slice none 0 0] 27] := S.step hE
  clear hE
  go_wp2_with fail
  refine (odd_any g _ 9 w2 hs (by omega) (by omega)).mono ?_
  rintro e w3 ⟨v, rfl, ⟨b, rfl, hb⟩, hs3, hS⟩
  replace S : Sep w w3 [plBox w.heap.size #[.int .i64 0, .slice none 0 0] 27] := (S.readD hS (by omega) (by simp [plBox]; omega))
  clear hS hs hb
  cases b with
  | true =>
    obtain ⟨rbc0, rbf0⟩ : w3.cell? ⟨w.heap.size, 0, none⟩ = some (.int .i64 0) ∧ w3.frozen? ⟨w.heap.size, 0, none⟩ = false := bx (S.box 0 rfl) 0 rfl
    obtain ⟨rbc1, rbf1⟩ : w3.cell? ⟨w.heap.size, 1, none⟩ = some (.slice none 0 0) ∧ w3.frozen? ⟨w.heap.size, 1, none⟩ = false := bx (S.box 0 rfl) 1 rfl
    go_wp2
    try simp only [Exit.inBlock, Exit.then]
    refine bodyPost_ret (v := .agg #[.int .i64 9, .slice none 0 0]) (by simp [results, Try.results24, go_sem, rbc0, rbc1]) rfl ?_
    replace S : Sep w (w3.setCell ⟨w.heap.size, 0, none⟩ (.int .i64 9)) [plBox w.heap.size #[.int .i64 9, .slice none 0 0] 27] := S.set 0 rfl 0 _
    replace S : Sep w ((w3.setCell ⟨w.heap.size, 0, none⟩ (.int .i64 9)).setCell ⟨w.heap.size, 1, none⟩ (.slice none 0 0)) [plBox w.heap.size #[.int .i64 9, .slice none 0 0] 27] := S.set 0 rfl 1 _
    replace S : Sep w ((w3.setCell ⟨w.heap.size, 0, none⟩ (.int .i64 9)).setCell ⟨w.heap.size, 1, none⟩ (.slice none 0 0)) [] := S.drop 0
    exact ⟨9, none, [], 0, rfl, by simp, by simp, SepM.toView (e := 3) encInt1_len (S.nil 3 1 encInt1)⟩
  | false =>
    go_wp2_with fail
    refine (drawGate g _ 9 w3 hs3 (by omega) (by omega)).mono ?_
    rintro e w4 ⟨f, b, L, c, rfl, h12, hc3, hs4, T⟩
    replace S : Sep w w4 [plView 1 encInt1 b L, plBox w.heap.size #[.int .i64 0, .slice none 0 0] 27] := (S.readCall T (by omega) (by simp [plBox]; omega))
    clear T
    obtain ⟨rbc0, rbf0⟩ : w4.cell? ⟨w.heap.size, 0, none⟩ = some (.int .i64 0) ∧ w4.frozen? ⟨w.heap.size, 0, none⟩ = false := bx (S.box 1 rfl) 0 rfl
    obtain ⟨rbc1, rbf1⟩ : w4.cell? ⟨w.heap.size, 1, none⟩ = some (.slice none 0 0) ∧ w4.frozen? ⟨w.heap.size, 1, none⟩ = false := bx (S.box 1 rfl) 1 rfl
    go_wp2
    try simp only [Exit.inBlock, Exit.then]
    refine bodyPost_ret (v := .agg #[.int .i64 f, .slice b L.length c]) (by simp [results, Try.results24, go_sem, rbc0, rbc1]) rfl ?_
    replace S : Sep w (w4.setCell ⟨w.heap.size, 0, none⟩ (.int .i64 f)) [plView 1 encInt1 b L, plBox w.heap.size #[.int .i64 f, .slice none 0 0] 27] := S.set 1 rfl 0 _
    replace S : Sep w ((w4.setCell ⟨w.heap.size, 0, none⟩ (.int .i64 f)).setCell ⟨w.heap.size, 1, none⟩ (.slice b L.length c)) [plView 1 encInt1 b L, plBox w.heap.size #[.int .i64 f, .slice b L.length c] 27] := S.set 1 rfl 1 _
    replace S : Sep w ((w4.setCell ⟨w.heap.size, 0, none⟩ (.int .i64 f)).setCell ⟨w.heap.size, 1, none⟩ (.slice b L.length c)) [plView 1 encInt1 b L] := S.drop 1
    exact ⟨f, b, L, c, rfl, h12, hc3, S⟩
end Go.Proofs.Ytcnghlmndahfpaa
