/- The draws of the laws of memories. No condition but small sizes. -/
import Derived.Test.YtpnllhdgpfbaiaaDrawPag
namespace Go.Proofs.Ytpnllhdgpfbaiaa
open Go.RowKit

abbrev Tbl := List (List Int)
/-- A memory in new memory. -/
def MemR (w : World) (v : Value) (w' : World) : Prop := ∃ af cf F at0 ct vT T, v = .agg #[.slice af F.length cf, .slice at0 T.length ct] ∧ F.length ≤ 14 ∧ T.length ≤ 6 ∧ (∀ t ∈ T, t.length ≤ 4) ∧ F.length ≤ cf ∧ T.length ≤ ct ∧ Sep w w' [plTab (.slice at0 T.length ct) vT T, plRow 3 1 encInt1 (.slice af F.length cf) F]

set_option maxHeartbeats 4000000 in
theorem drawMemoryValid (ac : Option Addr) (capc : Nat) (code : List Int) (w : World) (hl : code.length ≤ 9223372036854775807) (hcap : code.length ≤ capc) (hu : ∀ x ∈ code, 0 ≤ x ∧ x ≤ 255) (hc : Rd 1 encU8 w ac code) :
    Calls Try.prog 20 #[.slice ac code.length capc] w (fun e w' => ∃ v, e = .returned v ∧ MemR w v w') := by
  go_enter Try.func20, Try.ntmps20
  have S := Sep.start w
  replace S : Sep w (w.alloc (.cells #[.slice none 0 0, .slice none 0 0] 28)) [plBox w.heap.size #[.slice none 0 0, .slice none 0 0] 28] := S.alloc_at (by simp) _ _
  go_wp2_with fail
  generalize (w.alloc (.cells #[.slice none 0 0, .slice none 0 0] 28)) = w1 at *
  refine (open_any ac capc code w1 hl hcap hu (hc.ext S.ext)).mono ?_
  rintro e w2 ⟨v, rfl, ⟨rfl, hs⟩, hE⟩
  have hg1 := S.ge 0 rfl
  generalize w1.heap.size = g at *
  replace S : Sep w w2 [plBox w.heap.size #[.slice none 0 0, .slice none 0 0] 28] := S.step hE
  clear hE
  go_wp2_with fail
  refine (drawMemory g _ 2 w2 hs (by omega) (by omega)).mono ?_
  rintro e w3 ⟨af, cf, F, at0, ct, vT, T, rfl, hF14, hT6, hT4, hcf, hct, hs3, U⟩
  have HT4 := Lib.hid hT4
  clear hT4
  replace S : Sep w w3 [plTab (.slice at0 T.length ct) vT T, plRow 3 1 encInt1 (.slice af F.length cf) F, plBox w.heap.size #[.slice none 0 0, .slice none 0 0] 28] := (S.readCall U (by omega) (by simp [plBox]; omega))
  clear U
  obtain ⟨rbc0, rbf0⟩ : w3.cell? ⟨w.heap.size, 0, none⟩ = some (.slice none 0 0) ∧ w3.frozen? ⟨w.heap.size, 0, none⟩ = false := bx (S.box 2 rfl) 0 rfl
  obtain ⟨rbc1, rbf1⟩ : w3.cell? ⟨w.heap.size, 1, none⟩ = some (.slice none 0 0) ∧ w3.frozen? ⟨w.heap.size, 1, none⟩ = false := bx (S.box 2 rfl) 1 rfl
  go_wp2
  try simp only [Exit.inBlock, Exit.then]
  refine bodyPost_ret (v := .agg #[.slice af F.length cf, .slice at0 T.length ct]) (by simp [results, Try.results20, go_sem, rbc0, rbc1]) rfl ?_
  replace S : Sep w (w3.setCell ⟨w.heap.size, 0, none⟩ (.slice af F.length cf)) [plTab (.slice at0 T.length ct) vT T, plRow 3 1 encInt1 (.slice af F.length cf) F, plBox w.heap.size #[.slice af F.length cf, .slice none 0 0] 28] := S.set 2 rfl 0 _
  replace S : Sep w ((w3.setCell ⟨w.heap.size, 0, none⟩ (.slice af F.length cf)).setCell ⟨w.heap.size, 1, none⟩ (.slice at0 T.length ct)) [plTab (.slice at0 T.length ct) vT T, plRow 3 1 encInt1 (.slice af F.length cf) F, plBox w.heap.size #[.slice af F.length cf, .slice at0 T.length ct] 28] := S.set 2 rfl 1 _
  replace S : Sep w ((w3.setCell ⟨w.heap.size, 0, none⟩ (.slice af F.length cf)).setCell ⟨w.heap.size, 1, none⟩ (.slice at0 T.length ct)) [plTab (.slice at0 T.length ct) vT T, plRow 3 1 encInt1 (.slice af F.length cf) F] := S.drop 2
  exact ⟨_, rfl, af, cf, F, at0, ct, vT, T, rfl, hF14, hT6, HT4.out, hcf, hct, S⟩

set_option maxHeartbeats 4000000 in
theorem drawFrameUses (ac : Option Addr) (capc : Nat) (code : List Int) (w : World) (hl : code.length ≤ 9223372036854775807) (hcap : code.length ≤ capc) (hu : ∀ x ∈ code, 0 ≤ x ∧ x ≤ 255) (hc : Rd 1 encU8 w ac code) :
    Calls Try.prog 29 #[.slice ac code.length capc] w (fun e w' => ∃ v, e = .returned v ∧ MemR w v w') := by
  go_enter Try.func29, Try.ntmps29
  have S := Sep.start w
  replace S : Sep w (w.alloc (.cells #[.slice none 0 0, .slice none 0 0] 28)) [plBox w.heap.size #[.slice none 0 0, .slice none 0 0] 28] := S.alloc_at (by simp) _ _
  go_wp2_with fail
  generalize (w.alloc (.cells #[.slice none 0 0, .slice none 0 0] 28)) = w1 at *
  refine (open_any ac capc code w1 hl hcap hu (hc.ext S.ext)).mono ?_
  rintro e w2 ⟨v, rfl, ⟨rfl, hs⟩, hE⟩
  have hg1 := S.ge 0 rfl
  generalize w1.heap.size = g at *
  replace S : Sep w w2 [plBox w.heap.size #[.slice none 0 0, .slice none 0 0] 28] := S.step hE
  clear hE
  go_wp2_with fail
  refine (drawMemory g _ 9 w2 hs (by omega) (by omega)).mono ?_
  rintro e w3 ⟨af, cf, F, at0, ct, vT, T, rfl, hF14, hT6, hT4, hcf, hct, hs3, U⟩
  have HT4 := Lib.hid hT4
  clear hT4
  replace S : Sep w w3 [plTab (.slice at0 T.length ct) vT T, plRow 3 1 encInt1 (.slice af F.length cf) F, plBox w.heap.size #[.slice none 0 0, .slice none 0 0] 28] := (S.readCall U (by omega) (by simp [plBox]; omega))
  clear U
  obtain ⟨rbc0, rbf0⟩ : w3.cell? ⟨w.heap.size, 0, none⟩ = some (.slice none 0 0) ∧ w3.frozen? ⟨w.heap.size, 0, none⟩ = false := bx (S.box 2 rfl) 0 rfl
  obtain ⟨rbc1, rbf1⟩ : w3.cell? ⟨w.heap.size, 1, none⟩ = some (.slice none 0 0) ∧ w3.frozen? ⟨w.heap.size, 1, none⟩ = false := bx (S.box 2 rfl) 1 rfl
  go_wp2
  try simp only [Exit.inBlock, Exit.then]
  refine bodyPost_ret (v := .agg #[.slice af F.length cf, .slice at0 T.length ct]) (by simp [results, Try.results29, go_sem, rbc0, rbc1]) rfl ?_
  replace S : Sep w (w3.setCell ⟨w.heap.size, 0, none⟩ (.slice af F.length cf)) [plTab (.slice at0 T.length ct) vT T, plRow 3 1 encInt1 (.slice af F.length cf) F, plBox w.heap.size #[.slice af F.length cf, .slice none 0 0] 28] := S.set 2 rfl 0 _
  replace S : Sep w ((w3.setCell ⟨w.heap.size, 0, none⟩ (.slice af F.length cf)).setCell ⟨w.heap.size, 1, none⟩ (.slice at0 T.length ct)) [plTab (.slice at0 T.length ct) vT T, plRow 3 1 encInt1 (.slice af F.length cf) F, plBox w.heap.size #[.slice af F.length cf, .slice at0 T.length ct] 28] := S.set 2 rfl 1 _
  replace S : Sep w ((w3.setCell ⟨w.heap.size, 0, none⟩ (.slice af F.length cf)).setCell ⟨w.heap.size, 1, none⟩ (.slice at0 T.length ct)) [plTab (.slice at0 T.length ct) vT T, plRow 3 1 encInt1 (.slice af F.length cf) F] := S.drop 2
  exact ⟨_, rfl, af, cf, F, at0, ct, vT, T, rfl, hF14, hT6, HT4.out, hcf, hct, S⟩

def VDf (g B : Nat) (rbk : Nat) (af : Option Addr) (cf : Nat) (F : List Int) (at0 : Option Addr) (ct : Nat) (T : Tbl) : Nat → Value → List Value → World → Prop := fun i v us wv => match i with
  | 0 => v = .agg #[.slice af F.length cf, .slice at0 T.length ct]
  | 1 => v = .pointer (some ⟨g, 0, none⟩)
  | 2 => (CT.int 0 3).has v
  | 3 => v = .pointer (some ⟨g, 0, none⟩)
  | 4 => (CT.int 0 13).has v
  | 5 => (CT.int 0 1).has v
  | 6 => (CT.int (-1) 3).has v
  | 7 => wv.heap[rbk]? = some (.cells #[.slice af F.length cf, .slice at0 T.length ct] 28)
  | 8 => wv.heap[rbk]? = some (.cells #[.slice none 0 0, .slice none 0 0] 28)
  | _ => True
theorem VDf.step {g B : Nat} {rbk : Nat} {af : Option Addr} {cf : Nat} {F : List Int} {at0 : Option Addr} {ct : Nat} {T : Tbl} (hg : g < B) (hrg : rbk ≠ g) (i : Nat) (v : Value) (us : List Value) (w w' : World) (h : VDf g B rbk af cf F at0 ct T i v us w) (hE : Step g w w') : VDf g B rbk af cf F at0 ct T i v us w' := by
  match i with
  | 0 => exact h
  | 1 => exact h
  | 2 => exact h
  | 3 => exact h
  | 4 => exact h
  | 5 => exact h
  | 6 => exact h
  | 7 => exact (heap_step hE hrg (Array.getElem?_eq_some_iff.1 (show w.heap[_]? = _ from h)).1).trans h
  | 8 => exact (heap_step hE hrg (Array.getElem?_eq_some_iff.1 (show w.heap[_]? = _ from h)).1).trans h
  | (n + 9) => trivial
theorem VDf.box {g B rbk : Nat} {af : Option Addr} {cf : Nat} {F : List Int} {at0 : Option Addr} {ct : Nat} {T : Tbl} (hB : rbk < B) (i : Nat) (v : Value) (us : List Value) (w w' : World) (h : VDf g B rbk af cf F at0 ct T i v us w) (hE : Chg (fun b => b = rbk) w w') (hi : i < 8) (hs7 : i ≠ 7) : VDf g B rbk af cf F at0 ct T i v us w' := by
  match i with
  | 0 => exact h
  | 1 => exact h
  | 2 => exact h
  | 3 => exact h
  | 4 => exact h
  | 5 => exact h
  | 6 => exact h
  | 7 => exact absurd rfl hs7
  | (n + 8) => omega

set_option maxHeartbeats 4000000 in
theorem drawForkMemory (ac : Option Addr) (capc : Nat) (code : List Int) (w : World) (hl : code.length ≤ 9223372036854775807) (hcap : code.length ≤ capc) (hu : ∀ x ∈ code, 0 ≤ x ∧ x ≤ 255) (hc : Rd 1 encU8 w ac code) :
    Calls Try.prog 34 #[.slice ac code.length capc] w (fun e w' => ∃ v n, e = .returned (.tuple #[v, .int .i64 n]) ∧ MemR w v w') := by
  go_enter Try.func34, Try.ntmps34
  have S := Sep.start w
  replace S : Sep w (w.alloc (.cells #[.slice none 0 0, .slice none 0 0] 28)) [plBox w.heap.size #[.slice none 0 0, .slice none 0 0] 28] := S.alloc_at (by simp) _ _
  go_wp2_with fail
  generalize (w.alloc (.cells #[.slice none 0 0, .slice none 0 0] 28)) = w1 at *
  refine (open_any ac capc code w1 hl hcap hu (hc.ext S.ext)).mono ?_
  rintro e w2 ⟨v, rfl, ⟨rfl, hs⟩, hE⟩
  have hg1 := S.ge 0 rfl
  generalize w1.heap.size = g at *
  replace S : Sep w w2 [plBox w.heap.size #[.slice none 0 0, .slice none 0 0] 28] := S.step hE
  clear hE
  go_wp2_with fail
  refine (drawMemory g _ 9 w2 hs (by omega) (by omega)).mono ?_
  rintro e w3 ⟨af, cf, F, at0, ct, vT, T, rfl, hF14, hT6, hT4, hcf, hct, hs3, U⟩
  have HT4 := Lib.hid hT4
  clear hT4
  have hown : ∀ p ∈ [plTab (.slice at0 T.length ct) vT T, plRow 3 1 encInt1 (.slice af F.length cf) F], ∀ b, p.own b → b ≠ g := fun p hp b hb e => by
    have h1 := U.base p hp b hb
    have h2 := hs.lt
    omega
  have Hown := Lib.hid hown
  clear hown
  replace S : Sep w w3 [plTab (.slice at0 T.length ct) vT T, plRow 3 1 encInt1 (.slice af F.length cf) F, plBox w.heap.size #[.slice none 0 0, .slice none 0 0] 28] := (S.readCall U (by omega) (by simp [plBox]; omega))
  clear U
  clear hs
  have hg3 := hs3.lt
  replace S : Sep w (w3.alloc (.cells #[.slice af F.length cf, .slice at0 T.length ct] 28)) [plBox w3.heap.size #[.slice af F.length cf, .slice at0 T.length ct] 28, plTab (.slice at0 T.length ct) vT T, plRow 3 1 encInt1 (.slice af F.length cf) F, plBox w.heap.size #[.slice none 0 0, .slice none 0 0] 28] := S.alloc_at (by simp) _ _
  replace hs3 := hs3.ext ((Ext.refl w3).alloc (.cells #[.slice af F.length cf, .slice at0 T.length ct] 28))
  go_upto_region 3 with fail
  generalize (w3.alloc (.cells #[.slice af F.length cf, .slice at0 T.length ct] 28)) = wR at *
  have hgb3 := (S.ge 0 rfl).2
  generalize w3.heap.size = B3 at *
  have hs4 := hs3.ext (Ext.refl wR).drew
  obtain ⟨P1, hP1⟩ : ∃ P1 : Int, P1 = 0 + 300 := ⟨_, rfl⟩
  replace hs4 : Src g P1 wR.drew := by rw [hP1]; exact hs4.mono (by omega)
  have hP2 : P1 ≤ 1000 := by omega
  clear hP1 hs3
  have gbk : ∀ wv, Chg (fun b => b = g ∨ b = w.heap.size) wR.drew wv → ∀ (o : Nat) (v : Value), (#[.slice af F.length cf, .slice at0 T.length ct] : Array Value)[o]? = some v → wv.cell? ⟨B3, o, none⟩ = some v := fun wv hc o v hv => by
    rw [World.cell?_of_block (w := wR.drew) (hc.block B3 (by exact hgb3) (by omega))]
    exact (bx (S.box 0 rfl) o hv).1
  have hrb0 : wR.drew.heap[w.heap.size]? = some (.cells #[.slice none 0 0, .slice none 0 0] 28) := S.box 3 rfl
  have hrg : w.heap.size ≠ g := by omega
  have hrB : w.heap.size < wR.heap.size := (S.ge 3 rfl).2
  have hgb : g < wR.heap.size := hs4.lt
  refine wp_region_d (V := VDf (g) wR.heap.size (w.heap.size) af cf F at0 ct T) (fun _ => []) (fun k wv => Chg (fun b => b = g ∨ b = w.heap.size) wR.drew wv ∧ Src (g) (P1 + (k : Int)) wv) (fun i => if i = 8 then some 7 else none) [] 8 1 rfl (by decide) (by kernel_rfl) (by kernel_rfl) (by kernel_rfl) (by kernel_rfl) (by kernel_rfl) ⟨Chg.refl _ _, by simpa using hs4⟩ (fun r hr => match r, hr with | 0, _ => hrb0) ?_ ?_
  · intro i o hi ho k hk vs w4 hvl hI0 hd hrest
    obtain ⟨hE, hsk⟩ := hI0
    have hsk1 : Src (g) (P1 + ((k + 1 : Nat) : Int)) w4 := hsk.mono (by omega)
    have hsz : wR.heap.size ≤ w4.heap.size := (show wR.drew.heap.size ≤ _ from hE.size)
    match vs, hvl with
    | [y0, y1, y2, y3, y4, y5, y6, y7], _ =>
    rcases (show i = 0 ∨ i = 1 ∨ i = 2 ∨ i = 3 ∨ i = 4 ∨ i = 5 ∨ i = 6 ∨ i = 7 by omega) with rfl | rfl | rfl | rfl | rfl | rfl | rfl | rfl
    all_goals
      simp only [List.getElem?_cons_zero, List.getElem?_cons_succ, Option.some.injEq] at ho
      subst ho
    · clear hrest
      have d0 := gbk w4 hE 0 _ rfl
      have d1 := gbk w4 hE 1 _ rfl
      simp [putAll, Act.put]
      go_wp2
      exact ⟨rfl, _, rfl, rfl, ⟨hE.trans ((Chg.of_step (Step.refl _ _)).mono (fun k hk _ => .inl hk)), hsk1⟩, fun i u us hi hne hcon hnd _ hv => VDf.step hgb hrg i u us _ _ hv (Step.refl _ _)⟩
    · clear hrest
      simp [putAll, Act.put]
      go_wp2
      exact ⟨rfl, _, rfl, rfl, ⟨hE.trans ((Chg.of_step (Step.refl _ _)).mono (fun k hk _ => .inl hk)), hsk1⟩, fun i u us hi hne hcon hnd _ hv => VDf.step hgb hrg i u us _ _ hv (Step.refl _ _)⟩
    · clear hrest
      have q1 : y1 = .pointer (some ⟨g, 0, none⟩) := hd ⟨1, .data⟩ (by simp) rfl (by decide)
      clear hd
      simp [putAll, Act.put, q1]
      go_wp2_with fail
      refine (pick_any _ _ 4 _ hsk (by omega)).mono ?_
      rintro e w5 ⟨v5, rfl, ⟨z, rfl, z0, z1, _⟩, hs5, hS5⟩
      have hs6 : Src (g) (P1 + ((k + 1 : Nat) : Int)) w5 := hs5.mono (by omega)
      have hz := z1 (by omega)
      clear z1
      go_wp2
      exact ⟨rfl, _, rfl, CT.int_mk, ⟨hE.trans ((Chg.of_step hS5).mono (fun k hk _ => .inl hk)), hs6⟩, fun i u us hi hne hcon hnd _ hv => VDf.step hgb hrg i u us _ _ hv hS5⟩
    · clear hrest
      simp [putAll, Act.put]
      go_wp2
      exact ⟨rfl, _, rfl, rfl, ⟨hE.trans ((Chg.of_step (Step.refl _ _)).mono (fun k hk _ => .inl hk)), hsk1⟩, fun i u us hi hne hcon hnd _ hv => VDf.step hgb hrg i u us _ _ hv (Step.refl _ _)⟩
    · clear hrest
      have q3 : y3 = .pointer (some ⟨g, 0, none⟩) := hd ⟨3, .data⟩ (by simp) rfl (by decide)
      clear hd
      simp [putAll, Act.put, q3]
      go_wp2_with fail
      refine (pick_any _ _ 14 _ hsk (by omega)).mono ?_
      rintro e w5 ⟨v5, rfl, ⟨z, rfl, z0, z1, _⟩, hs5, hS5⟩
      have hs6 : Src (g) (P1 + ((k + 1 : Nat) : Int)) w5 := hs5.mono (by omega)
      have hz := z1 (by omega)
      clear z1
      go_wp2
      exact ⟨rfl, _, rfl, CT.int_mk, ⟨hE.trans ((Chg.of_step hS5).mono (fun k hk _ => .inl hk)), hs6⟩, fun i u us hi hne hcon hnd _ hv => VDf.step hgb hrg i u us _ _ hv hS5⟩
    · clear hrest
      have q4 : (CT.int 0 13).has y4 := hd ⟨4, .data⟩ (by simp) rfl (by decide)
      obtain ⟨z0, rfl, z0a, z0b⟩ := q4
      clear hd
      simp [putAll, Act.put]
      go_wp2
      exact ⟨rfl, _, rfl, CT.int_mk (by omega), ⟨hE.trans ((Chg.of_step (Step.refl _ _)).mono (fun k hk _ => .inl hk)), hsk1⟩, fun i u us hi hne hcon hnd _ hv => VDf.step hgb hrg i u us _ _ hv (Step.refl _ _)⟩
    · clear hrest
      have q2 : (CT.int 0 3).has y2 := hd ⟨2, .data⟩ (by simp) rfl (by decide)
      obtain ⟨z0, rfl, z0a, z0b⟩ := q2
      have q5 : (CT.int 0 1).has y5 := hd ⟨5, .data⟩ (by simp) rfl (by decide)
      obtain ⟨z1, rfl, z1a, z1b⟩ := q5
      clear hd
      have hw : IntKind.i64.wrap (z0 - z1) = z0 - z1 := IntWalk.i64_in _ (by omega)
      simp [putAll, Act.put]
      go_wp2
      exact ⟨rfl, _, rfl, CT.int_mk (by omega), ⟨hE.trans ((Chg.of_step (Step.refl _ _)).mono (fun k hk _ => .inl hk)), hsk1⟩, fun i u us hi hne hcon hnd _ hv => VDf.step hgb hrg i u us _ _ hv (Step.refl _ _)⟩
    · obtain rfl : y0 = .agg #[.slice af F.length cf, .slice at0 T.length ct] := hd ⟨0, .data⟩ (by simp) rfl (by decide)
      have hb0 : w4.heap[w.heap.size]? = some (.cells #[.slice none 0 0, .slice none 0 0] 28) := hrest 0 (by omega) (.inr rfl)
      clear hrest hd
      obtain ⟨z0, zf0⟩ : w4.cell? ⟨w.heap.size, 0, none⟩ = some (.slice none 0 0) ∧ w4.frozen? ⟨w.heap.size, 0, none⟩ = false := bx hb0 0 rfl
      obtain ⟨z1, zf1⟩ : w4.cell? ⟨w.heap.size, 1, none⟩ = some (.slice none 0 0) ∧ w4.frozen? ⟨w.heap.size, 1, none⟩ = false := bx hb0 1 rfl
      have hb1 : ((w4.setCell ⟨w.heap.size, 0, none⟩ (.slice af F.length cf)).setCell ⟨w.heap.size, 1, none⟩ (.slice at0 T.length ct)).heap[w.heap.size]? = some (.cells #[.slice af F.length cf, .slice at0 T.length ct] 28) := (box_set (box_set hb0 0 (.slice af F.length cf)) 1 (.slice at0 T.length ct))
      have hch : Chg (fun b => b = w.heap.size) w4 ((w4.setCell ⟨w.heap.size, 0, none⟩ (.slice af F.length cf)).setCell ⟨w.heap.size, 1, none⟩ (.slice at0 T.length ct)) := ((Chg.refl (fun b => b = w.heap.size) w4).trans (Chg.setCell _ w.heap.size 0 (.slice af F.length cf))).trans (Chg.setCell _ w.heap.size 1 (.slice at0 T.length ct))
      have hsk2 : Src (g) (P1 + ((k + 1 : Nat) : Int)) ((w4.setCell ⟨w.heap.size, 0, none⟩ (.slice af F.length cf)).setCell ⟨w.heap.size, 1, none⟩ (.slice at0 T.length ct)) := Src.chgBox hsk1 hch hrg hb0 (by intro o x h; rcases o with _ | _ | o <;> simp at h)
      simp [putAll, Act.put]
      go_wp2
      refine ⟨rfl, undef, rfl, hb1, ⟨hE.trans (hch.mono (fun k hk _ => .inr hk)), hsk2⟩, fun i u us hi hne hcon hnd _ hv => ?_⟩
      rcases Nat.lt_or_ge i 8 with h9 | h9
      · exact VDf.box hrB i u us _ _ hv hch h9 hne
      · obtain rfl : i = 8 := by omega
        exact absurd rfl hcon
  intro vs w4 hvl hI0 hV hVr
  obtain ⟨hE, hsn⟩ := hI0
  match vs, hvl with
  | [y0, y1, y2, y3, y4, y5, y6, y7], _ =>
  have e6 : (CT.int (-1) 3).has y6 := hV 6 (by omega) rfl
  have e7 : w4.heap[w.heap.size]? = some (.cells #[.slice af F.length cf, .slice at0 T.length ct] 28) := hV 7 (by omega) rfl
  clear hV hVr
  obtain ⟨n, rfl, _, _⟩ := e6
  simp only [putAll, Act.put, List.take_succ_cons, List.take_zero, List.drop_succ_cons, List.drop_zero]
  simp
  have hc9 : Chg (fun b => b = g ∨ b = w.heap.size) wR w4 := (Chg.of_ext (Ext.refl wR).drew).trans hE
  have hvr : ∀ p ∈ [plTab (.slice at0 T.length ct) vT T, plRow 3 1 encInt1 (.slice af F.length cf) F], ∀ b, p.own b → b ≠ w.heap.size := fun p hp b hb e => by
    simp only [List.mem_cons, List.not_mem_nil, or_false] at hp
    rcases hp with rfl | rfl
    · exact S.ne (i := 1) (j := 3) rfl rfl (by omega) hb e
    · exact S.ne (i := 2) (j := 3) rfl rfl (by omega) hb e
  replace S : Sep w wR [plTab (.slice at0 T.length ct) vT T, plRow 3 1 encInt1 (.slice af F.length cf) F, plBox w.heap.size #[.slice none 0 0, .slice none 0 0] 28] := S.drop 0
  replace S : Sep w wR [plTab (.slice at0 T.length ct) vT T, plRow 3 1 encInt1 (.slice af F.length cf) F] := S.drop 2
  replace S : Sep w w4 [plTab (.slice at0 T.length ct) vT T, plRow 3 1 encInt1 (.slice af F.length cf) F] := (S.others hc9 (fun b h => by omega) (fun p hp b hb h => h.elim (fun h => Hown.out p hp b hb h) (fun h => hvr p hp b hb h)))
  obtain ⟨rbc0, rbf0⟩ := bx e7 0 rfl
  obtain ⟨rbc1, rbf1⟩ := bx e7 1 rfl
  clear hc9 hE hsn e7 gbk hrb0 hvr
  go_wp2
  try simp only [Exit.inBlock, Exit.then]
  refine bodyPost_ret (v := .tuple #[.agg #[.slice af F.length cf, .slice at0 T.length ct], .int .i64 n]) (by simp [results, Try.results34, go_sem, rbc0, rbc1]) rfl ?_
  exact ⟨_, n, rfl, af, cf, F, at0, ct, vT, T, rfl, hF14, hT6, HT4.out, hcf, hct, S⟩

def VDw (g B : Nat) (rbk : Nat) (af : Option Addr) (cf : Nat) (F : List Int) (at0 : Option Addr) (ct : Nat) (T : Tbl) (who page : Int) : Nat → Value → List Value → World → Prop := fun i v us wv => match i with
  | 0 => v = .agg #[.slice af F.length cf, .slice at0 T.length ct]
  | 1 => v = .int .i64 who
  | 2 => v = .int .i64 page
  | 3 => v = .pointer (some ⟨g, 0, none⟩)
  | 4 => (CT.int 0 99).has v
  | 5 => LitC (B) 3 [CT.int (-1) 10001] v wv
  | 6 => LitC (B) 7 [CT.int 0 2] v wv
  | 7 => v = .pointer (some ⟨g, 0, none⟩)
  | 8 => (CT.int 0 6).has v
  | 9 => PtrC (B) [CT.int 0 2] v wv
  | 10 => (CT.int 0 2).has v
  | 11 => PtrC (B) [CT.int (-1) 10001] v wv
  | 12 => (CT.int (-1) 10001).has v
  | 13 => wv.heap[rbk]? = some (.cells #[.slice af F.length cf, .slice at0 T.length ct] 28)
  | 14 => v = .int .i64 who
  | 15 => v = .int .i64 page
  | 16 => wv.heap[rbk]? = some (.cells #[.slice none 0 0, .slice none 0 0] 28)
  | _ => True
theorem VDw.step {g B : Nat} {rbk : Nat} {af : Option Addr} {cf : Nat} {F : List Int} {at0 : Option Addr} {ct : Nat} {T : Tbl} {who page : Int} (hg : g < B) (hrg : rbk ≠ g) (i : Nat) (v : Value) (us : List Value) (w w' : World) (h : VDw g B rbk af cf F at0 ct T who page i v us w) (hE : Step g w w') : VDw g B rbk af cf F at0 ct T who page i v us w' := by
  match i with
  | 0 => exact h
  | 1 => exact h
  | 2 => exact h
  | 3 => exact h
  | 4 => exact h
  | 5 => exact LitC.chg h (Chg.of_step hE) (fun b e => e ▸ hg)
  | 6 => exact LitC.chg h (Chg.of_step hE) (fun b e => e ▸ hg)
  | 7 => exact h
  | 8 => exact h
  | 9 => exact PtrC.chg h (Chg.of_step hE) (fun b e => e ▸ hg)
  | 10 => exact h
  | 11 => exact PtrC.chg h (Chg.of_step hE) (fun b e => e ▸ hg)
  | 12 => exact h
  | 13 => exact (heap_step hE hrg (Array.getElem?_eq_some_iff.1 (show w.heap[_]? = _ from h)).1).trans h
  | 14 => exact h
  | 15 => exact h
  | 16 => exact (heap_step hE hrg (Array.getElem?_eq_some_iff.1 (show w.heap[_]? = _ from h)).1).trans h
  | (n + 17) => trivial
theorem VDw.box {g B rbk : Nat} {af : Option Addr} {cf : Nat} {F : List Int} {at0 : Option Addr} {ct : Nat} {T : Tbl} {who page : Int} (hB : rbk < B) (i : Nat) (v : Value) (us : List Value) (w w' : World) (h : VDw g B rbk af cf F at0 ct T who page i v us w) (hE : Chg (fun b => b = rbk) w w') (hi : i < 16) (hs13 : i ≠ 13) : VDw g B rbk af cf F at0 ct T who page i v us w' := by
  match i with
  | 0 => exact h
  | 1 => exact h
  | 2 => exact h
  | 3 => exact h
  | 4 => exact h
  | 5 => exact LitC.chg h hE (fun b e => e ▸ hB)
  | 6 => exact LitC.chg h hE (fun b e => e ▸ hB)
  | 7 => exact h
  | 8 => exact h
  | 9 => exact PtrC.chg h hE (fun b e => e ▸ hB)
  | 10 => exact h
  | 11 => exact PtrC.chg h hE (fun b e => e ▸ hB)
  | 12 => exact h
  | 13 => exact absurd rfl hs13
  | 14 => exact h
  | 15 => exact h
  | (n + 16) => omega

set_option maxRecDepth 10000 in
set_option maxHeartbeats 8000000 in
theorem drawWritePage (ac : Option Addr) (capc : Nat) (code : List Int) (w : World) (hl : code.length ≤ 9223372036854775807) (hcap : code.length ≤ capc) (hu : ∀ x ∈ code, 0 ≤ x ∧ x ≤ 255) (hc : Rd 1 encU8 w ac code) :
    Calls Try.prog 36 #[.slice ac code.length capc] w (fun e w' => ∃ v a b c, e = .returned (.tuple #[v, .int .i64 a, .int .i64 b, .int .i64 c]) ∧ MemR w v w') := by
  go_enter Try.func36, Try.ntmps36
  have S := Sep.start w
  replace S : Sep w (w.alloc (.cells #[.slice none 0 0, .slice none 0 0] 28)) [plBox w.heap.size #[.slice none 0 0, .slice none 0 0] 28] := S.alloc_at (by simp) _ _
  go_wp2_with fail
  generalize (w.alloc (.cells #[.slice none 0 0, .slice none 0 0] 28)) = w1 at *
  refine (open_any ac capc code w1 hl hcap hu (hc.ext S.ext)).mono ?_
  rintro e w2 ⟨v, rfl, ⟨rfl, hs⟩, hE⟩
  have hg1 := S.ge 0 rfl
  generalize w1.heap.size = g at *
  replace S : Sep w w2 [plBox w.heap.size #[.slice none 0 0, .slice none 0 0] 28] := S.step hE
  clear hE
  go_wp2_with fail
  refine (drawMemory g _ 9 w2 hs (by omega) (by omega)).mono ?_
  rintro e w3 ⟨af, cf, F, at0, ct, vT, T, rfl, hF14, hT6, hT4, hcf, hct, hs3, U⟩
  have HT4 := Lib.hid hT4
  clear hT4
  have hown : ∀ p ∈ [plTab (.slice at0 T.length ct) vT T, plRow 3 1 encInt1 (.slice af F.length cf) F], ∀ b, p.own b → b ≠ g := fun p hp b hb e => by
    have h1 := U.base p hp b hb
    have h2 := hs.lt
    omega
  have Hown := Lib.hid hown
  clear hown
  replace S : Sep w w3 [plTab (.slice at0 T.length ct) vT T, plRow 3 1 encInt1 (.slice af F.length cf) F, plBox w.heap.size #[.slice none 0 0, .slice none 0 0] 28] := (S.readCall U (by omega) (by simp [plBox]; omega))
  clear U
  clear hs
  have hg3 := hs3.lt
  replace S : Sep w (w3.alloc (.cells #[.slice af F.length cf, .slice at0 T.length ct] 28)) [plBox w3.heap.size #[.slice af F.length cf, .slice at0 T.length ct] 28, plTab (.slice at0 T.length ct) vT T, plRow 3 1 encInt1 (.slice af F.length cf) F, plBox w.heap.size #[.slice none 0 0, .slice none 0 0] 28] := S.alloc_at (by simp) _ _
  replace hs3 := hs3.ext ((Ext.refl w3).alloc (.cells #[.slice af F.length cf, .slice at0 T.length ct] 28))
  obtain ⟨gbc0, gbf0⟩ : (w3.alloc (.cells #[.slice af F.length cf, .slice at0 T.length ct] 28)).cell? ⟨w3.heap.size, 0, none⟩ = some (.slice af F.length cf) ∧ (w3.alloc (.cells #[.slice af F.length cf, .slice at0 T.length ct] 28)).frozen? ⟨w3.heap.size, 0, none⟩ = false := bx (S.box 0 rfl) 0 rfl
  obtain ⟨gbc1, gbf1⟩ : (w3.alloc (.cells #[.slice af F.length cf, .slice at0 T.length ct] 28)).cell? ⟨w3.heap.size, 1, none⟩ = some (.slice at0 T.length ct) ∧ (w3.alloc (.cells #[.slice af F.length cf, .slice at0 T.length ct] 28)).frozen? ⟨w3.heap.size, 1, none⟩ = false := bx (S.box 0 rfl) 1 rfl
  go_wp2_with fail
  clear gbc0 gbf0 gbc1 gbf1
  generalize (w3.alloc (.cells #[.slice af F.length cf, .slice at0 T.length ct] 28)) = w4 at *
  have hgb3 := S.ge 0 rfl
  generalize w3.heap.size = B3 at *
  have hnog : ∀ p ∈ [plBox B3 #[.slice af F.length cf, .slice at0 T.length ct] 28, plTab (.slice at0 T.length ct) vT T, plRow 3 1 encInt1 (.slice af F.length cf) F, plBox w.heap.size #[.slice none 0 0, .slice none 0 0] 28], ¬ p.own g := by
    intro p hp ho
    simp only [List.mem_cons, List.not_mem_nil, or_false] at hp
    rcases hp with rfl | rfl | rfl | rfl
    · exact absurd (show g = B3 from ho) (by omega)
    · exact Hown.out _ (by simp) g ho rfl
    · exact Hown.out (plRow 3 1 encInt1 (.slice af F.length cf) F) (by simp) g ho rfl
    · exact absurd (show g = w.heap.size from ho) (by omega)
  have hTw : IntKind.i64.wrap ((T.length : Int) + 1) = (T.length : Int) + 1 := IntWalk.i64_in _ (by omega)
  try rw [hTw]
  refine (pick_any g _ ((T.length : Int) + 1) _ hs3 (by omega)).mono ?_
  rintro e w5 ⟨v, rfl, ⟨z, rfl, z0, z1, _⟩, hs5, hS⟩
  have z3 := z1 (by omega)
  replace S : Sep w w5 [plBox B3 #[.slice af F.length cf, .slice at0 T.length ct] 28, plTab (.slice at0 T.length ct) vT T, plRow 3 1 encInt1 (.slice af F.length cf) F, plBox w.heap.size #[.slice none 0 0, .slice none 0 0] 28] := (S.readD hS (by omega) hnog)
  clear hS hs3 z1
  go_wp2_with fail
  refine (pick_any g _ 14 _ hs5 (by omega)).mono ?_
  rintro e w6 ⟨v, rfl, ⟨q, rfl, q0, q1, _⟩, hs6, hS⟩
  have q3 := q1 (by omega)
  replace S : Sep w w6 [plBox B3 #[.slice af F.length cf, .slice at0 T.length ct] 28, plTab (.slice at0 T.length ct) vT T, plRow 3 1 encInt1 (.slice af F.length cf) F, plBox w.heap.size #[.slice none 0 0, .slice none 0 0] 28] := (S.readD hS (by omega) hnog)
  clear hS hs5 q1
  have hw1 : IntKind.i64.wrap (z - q / 13) = z - q / 13 := IntWalk.i64_in _ (by omega)
  go_wp2_with fail
  refine (pick_any g _ 5 _ hs6 (by omega)).mono ?_
  rintro e w7 ⟨v, rfl, ⟨y, rfl, y0, y1, _⟩, hs7, hS⟩
  have y3 := y1 (by omega)
  replace S : Sep w w7 [plBox B3 #[.slice af F.length cf, .slice at0 T.length ct] 28, plTab (.slice at0 T.length ct) vT T, plRow 3 1 encInt1 (.slice af F.length cf) F, plBox w.heap.size #[.slice none 0 0, .slice none 0 0] 28] := (S.readD hS (by omega) hnog)
  clear hS hs6 y1
  go_wp2_with fail
  refine (pick_any g _ 14 _ hs7 (by omega)).mono ?_
  rintro e w8 ⟨v, rfl, ⟨u, rfl, u0, u1, _⟩, hs3, hS⟩
  have u3 := u1 (by omega)
  replace S : Sep w w8 [plBox B3 #[.slice af F.length cf, .slice at0 T.length ct] 28, plTab (.slice at0 T.length ct) vT T, plRow 3 1 encInt1 (.slice af F.length cf) F, plBox w.heap.size #[.slice none 0 0, .slice none 0 0] 28] := (S.readD hS (by omega) hnog)
  clear hS hs7 u1 hnog
  have hw2 : IntKind.i64.wrap (y - u / 13) = y - u / 13 := IntWalk.i64_in _ (by omega)
  go_upto_region 5 with fail
  generalize w8 = wR at *
  generalize z - q / 13 = who at *
  generalize y - u / 13 = page at *
  clear hw1 hw2 z0 z3 q0 q3 y0 y3 u0 u3 hTw
  replace hgb3 := (S.ge 0 rfl).2
  have hs4 := hs3.ext (Ext.refl wR).drew
  obtain ⟨P1, hP1⟩ : ∃ P1 : Int, P1 = 0 + 320 := ⟨_, rfl⟩
  replace hs4 : Src g P1 wR.drew := by rw [hP1]; exact hs4.mono (by omega)
  have hP2 : P1 ≤ 1000 := by omega
  clear hP1 hs3
  have gbk : ∀ wv, Chg (fun b => b = g ∨ b = w.heap.size) wR.drew wv → ∀ (o : Nat) (v : Value), (#[.slice af F.length cf, .slice at0 T.length ct] : Array Value)[o]? = some v → wv.cell? ⟨B3, o, none⟩ = some v := fun wv hc o v hv => by
    rw [World.cell?_of_block (w := wR.drew) (hc.block B3 (by exact hgb3) (by omega))]
    exact (bx (S.box 0 rfl) o hv).1
  have hrb0 : wR.drew.heap[w.heap.size]? = some (.cells #[.slice none 0 0, .slice none 0 0] 28) := S.box 3 rfl
  have hrg : w.heap.size ≠ g := by omega
  have hrB : w.heap.size < wR.heap.size := (S.ge 3 rfl).2
  have hgb : g < wR.heap.size := hs4.lt
  refine wp_region_d (V := VDw (g) wR.heap.size (w.heap.size) af cf F at0 ct T who page) (fun _ => []) (fun k wv => Chg (fun b => b = g ∨ b = w.heap.size) wR.drew wv ∧ Src (g) (P1 + (k : Int)) wv) (fun i => if i = 16 then some 13 else none) [] 16 1 rfl (by decide) (by kernel_rfl) (by kernel_rfl) (by kernel_rfl) (by kernel_rfl) (by kernel_rfl) ⟨Chg.refl _ _, by simpa using hs4⟩ (fun r hr => match r, hr with | 0, _ => hrb0) ?_ ?_
  · intro i o hi ho k hk vs w4 hvl hI0 hd hrest
    obtain ⟨hE, hsk⟩ := hI0
    have hsk1 : Src (g) (P1 + ((k + 1 : Nat) : Int)) w4 := hsk.mono (by omega)
    have hsz : wR.heap.size ≤ w4.heap.size := (show wR.drew.heap.size ≤ _ from hE.size)
    match vs, hvl with
    | [y0, y1, y2, y3, y4, y5, y6, y7, y8, y9, y10, y11, y12, y13, y14, y15], _ =>
    rcases (show i = 0 ∨ i = 1 ∨ i = 2 ∨ i = 3 ∨ i = 4 ∨ i = 5 ∨ i = 6 ∨ i = 7 ∨ i = 8 ∨ i = 9 ∨ i = 10 ∨ i = 11 ∨ i = 12 ∨ i = 13 ∨ i = 14 ∨ i = 15 by omega) with rfl | rfl | rfl | rfl | rfl | rfl | rfl | rfl | rfl | rfl | rfl | rfl | rfl | rfl | rfl | rfl
    all_goals
      simp only [List.getElem?_cons_zero, List.getElem?_cons_succ, Option.some.injEq] at ho
      subst ho
    · clear hrest
      have d0 := gbk w4 hE 0 _ rfl
      have d1 := gbk w4 hE 1 _ rfl
      simp [putAll, Act.put]
      go_wp2
      exact ⟨rfl, _, rfl, rfl, ⟨hE.trans ((Chg.of_step (Step.refl _ _)).mono (fun k hk _ => .inl hk)), hsk1⟩, fun i u us hi hne hcon hnd _ hv => VDw.step hgb hrg i u us _ _ hv (Step.refl _ _)⟩
    · clear hrest
      simp [putAll, Act.put]
      go_wp2
      exact ⟨rfl, _, rfl, rfl, ⟨hE.trans ((Chg.of_step (Step.refl _ _)).mono (fun k hk _ => .inl hk)), hsk1⟩, fun i u us hi hne hcon hnd _ hv => VDw.step hgb hrg i u us _ _ hv (Step.refl _ _)⟩
    · clear hrest
      simp [putAll, Act.put]
      go_wp2
      exact ⟨rfl, _, rfl, rfl, ⟨hE.trans ((Chg.of_step (Step.refl _ _)).mono (fun k hk _ => .inl hk)), hsk1⟩, fun i u us hi hne hcon hnd _ hv => VDw.step hgb hrg i u us _ _ hv (Step.refl _ _)⟩
    · clear hrest
      simp [putAll, Act.put]
      go_wp2
      exact ⟨rfl, _, rfl, rfl, ⟨hE.trans ((Chg.of_step (Step.refl _ _)).mono (fun k hk _ => .inl hk)), hsk1⟩, fun i u us hi hne hcon hnd _ hv => VDw.step hgb hrg i u us _ _ hv (Step.refl _ _)⟩
    · clear hrest
      have q3 : y3 = .pointer (some ⟨g, 0, none⟩) := hd ⟨3, .data⟩ (by simp) rfl (by decide)
      clear hd
      simp [putAll, Act.put, q3]
      go_wp2_with fail
      refine (pick_any _ _ 100 _ hsk (by omega)).mono ?_
      rintro e w5 ⟨v5, rfl, ⟨z, rfl, z0, z1, _⟩, hs5, hS5⟩
      have hs6 : Src (g) (P1 + ((k + 1 : Nat) : Int)) w5 := hs5.mono (by omega)
      have hz := z1 (by omega)
      clear z1
      go_wp2
      exact ⟨rfl, _, rfl, CT.int_mk, ⟨hE.trans ((Chg.of_step hS5).mono (fun k hk _ => .inl hk)), hs6⟩, fun i u us hi hne hcon hnd _ hv => VDw.step hgb hrg i u us _ _ hv hS5⟩
    · clear hrest
      have q4 : (CT.int 0 99).has y4 := hd ⟨4, .data⟩ (by simp) rfl (by decide)
      obtain ⟨z0, z0e, z0a, z0b⟩ := q4
      clear hd
      subst z0e
      simp [putAll, Act.put]
      go_wp2
      exact ⟨rfl, _, rfl, LitC.mk hsz ⟨CT.int_mk (by omega), CT.int_mk (by omega), CT.int_mk (by omega), trivial⟩ rfl, ⟨hE.trans ((Chg.of_step ((Step.refl _ _).alloc _)).mono (fun k hk _ => .inl hk)), hsk1.ext ((Ext.refl _).alloc _)⟩, fun i u us hi hne hcon hnd _ hv => VDw.step hgb hrg i u us _ _ hv ((Step.refl _ _).alloc _)⟩
    · clear hrest
      clear hd
      simp [putAll, Act.put]
      go_wp2
      exact ⟨rfl, _, rfl, LitC.mk hsz ⟨CT.int_mk (by omega), CT.int_mk (by omega), CT.int_mk (by omega), CT.int_mk (by omega), CT.int_mk (by omega), CT.int_mk (by omega), CT.int_mk (by omega), trivial⟩ rfl, ⟨hE.trans ((Chg.of_step ((Step.refl _ _).alloc _)).mono (fun k hk _ => .inl hk)), hsk1.ext ((Ext.refl _).alloc _)⟩, fun i u us hi hne hcon hnd _ hv => VDw.step hgb hrg i u us _ _ hv ((Step.refl _ _).alloc _)⟩
    · clear hrest
      simp [putAll, Act.put]
      go_wp2
      exact ⟨rfl, _, rfl, rfl, ⟨hE.trans ((Chg.of_step (Step.refl _ _)).mono (fun k hk _ => .inl hk)), hsk1⟩, fun i u us hi hne hcon hnd _ hv => VDw.step hgb hrg i u us _ _ hv (Step.refl _ _)⟩
    · clear hrest
      have q7 : y7 = .pointer (some ⟨g, 0, none⟩) := hd ⟨7, .data⟩ (by simp) rfl (by decide)
      clear hd
      simp [putAll, Act.put, q7]
      go_wp2_with fail
      refine (pick_any _ _ 7 _ hsk (by omega)).mono ?_
      rintro e w5 ⟨v5, rfl, ⟨z, rfl, z0, z1, _⟩, hs5, hS5⟩
      have hs6 : Src (g) (P1 + ((k + 1 : Nat) : Int)) w5 := hs5.mono (by omega)
      have hz := z1 (by omega)
      clear z1
      go_wp2
      exact ⟨rfl, _, rfl, CT.int_mk, ⟨hE.trans ((Chg.of_step hS5).mono (fun k hk _ => .inl hk)), hs6⟩, fun i u us hi hne hcon hnd _ hv => VDw.step hgb hrg i u us _ _ hv hS5⟩
    · clear hrest
      have q6 : LitC (wR.heap.size) 7 [CT.int 0 2] y6 w4 := hd ⟨6, .data⟩ (by simp) rfl (by decide)
      have q8 : (CT.int 0 6).has y8 := hd ⟨8, .data⟩ (by simp) rfl (by decide)
      clear hd
      obtain ⟨bb, hbb⟩ : ∃ bb, y6 = .slice (some ⟨bb, 0, none⟩) 7 7 := (let ⟨b, _, _, h, _⟩ := q6; ⟨b, h⟩)
      subst hbb
      obtain ⟨z, rfl, z0, z1⟩ := q8
      obtain ⟨j, rfl⟩ : ∃ j : Nat, z = j := ⟨z.toNat, by omega⟩
      have hp := LitC.ptr (nf := 1) rfl q6 (k := j) (by omega)
      have hj : (j : Int) < 7 := by omega
      clear q6
      have hp2 : PtrC (wR.heap.size) [CT.int 0 2] (.pointer (some ⟨bb, j, none⟩)) w4 := by simpa using hp
      simp [putAll, Act.put]
      go_wp2
      exact ⟨rfl, _, rfl, hp2, ⟨hE.trans ((Chg.of_step (Step.refl _ _)).mono (fun k hk _ => .inl hk)), hsk1⟩, fun i u us hi hne hcon hnd _ hv => VDw.step hgb hrg i u us _ _ hv (Step.refl _ _)⟩
    · clear hrest
      have q9 : PtrC (wR.heap.size) [CT.int 0 2] y9 w4 := hd ⟨9, .data⟩ (by simp) rfl (by decide)
      clear hd
      obtain ⟨b, o, rfl, hb, hlt, hc⟩ := q9
      obtain ⟨u0, c0, ht0⟩ := hc 0 _ rfl
      obtain ⟨x0, rfl, x0a, x0b⟩ := ht0
      rw [Nat.add_zero] at c0
      clear hc
      simp [putAll, Act.put]
      go_wp2
      exact ⟨rfl, _, rfl, CT.int_mk ⟨x0a, x0b⟩, ⟨hE.trans ((Chg.of_step (Step.refl _ _)).mono (fun k hk _ => .inl hk)), hsk1⟩, fun i u us hi hne hcon hnd _ hv => VDw.step hgb hrg i u us _ _ hv (Step.refl _ _)⟩
    · clear hrest
      have q5 : LitC (wR.heap.size) 3 [CT.int (-1) 10001] y5 w4 := hd ⟨5, .data⟩ (by simp) rfl (by decide)
      have q10 : (CT.int 0 2).has y10 := hd ⟨10, .data⟩ (by simp) rfl (by decide)
      clear hd
      obtain ⟨bb, hbb⟩ : ∃ bb, y5 = .slice (some ⟨bb, 0, none⟩) 3 3 := (let ⟨b, _, _, h, _⟩ := q5; ⟨b, h⟩)
      subst hbb
      obtain ⟨z, rfl, z0, z1⟩ := q10
      obtain ⟨j, rfl⟩ : ∃ j : Nat, z = j := ⟨z.toNat, by omega⟩
      have hp := LitC.ptr (nf := 1) rfl q5 (k := j) (by omega)
      have hj : (j : Int) < 3 := by omega
      clear q5
      have hp2 : PtrC (wR.heap.size) [CT.int (-1) 10001] (.pointer (some ⟨bb, j, none⟩)) w4 := by simpa using hp
      simp [putAll, Act.put]
      go_wp2
      exact ⟨rfl, _, rfl, hp2, ⟨hE.trans ((Chg.of_step (Step.refl _ _)).mono (fun k hk _ => .inl hk)), hsk1⟩, fun i u us hi hne hcon hnd _ hv => VDw.step hgb hrg i u us _ _ hv (Step.refl _ _)⟩
    · clear hrest
      have q11 : PtrC (wR.heap.size) [CT.int (-1) 10001] y11 w4 := hd ⟨11, .data⟩ (by simp) rfl (by decide)
      clear hd
      obtain ⟨b, o, rfl, hb, hlt, hc⟩ := q11
      obtain ⟨u0, c0, ht0⟩ := hc 0 _ rfl
      obtain ⟨x0, rfl, x0a, x0b⟩ := ht0
      rw [Nat.add_zero] at c0
      clear hc
      simp [putAll, Act.put]
      go_wp2
      exact ⟨rfl, _, rfl, CT.int_mk ⟨x0a, x0b⟩, ⟨hE.trans ((Chg.of_step (Step.refl _ _)).mono (fun k hk _ => .inl hk)), hsk1⟩, fun i u us hi hne hcon hnd _ hv => VDw.step hgb hrg i u us _ _ hv (Step.refl _ _)⟩
    · obtain rfl : y0 = .agg #[.slice af F.length cf, .slice at0 T.length ct] := hd ⟨0, .data⟩ (by simp) rfl (by decide)
      have hb0 : w4.heap[w.heap.size]? = some (.cells #[.slice none 0 0, .slice none 0 0] 28) := hrest 0 (by omega) (.inr rfl)
      clear hrest hd
      obtain ⟨z0, zf0⟩ : w4.cell? ⟨w.heap.size, 0, none⟩ = some (.slice none 0 0) ∧ w4.frozen? ⟨w.heap.size, 0, none⟩ = false := bx hb0 0 rfl
      obtain ⟨z1, zf1⟩ : w4.cell? ⟨w.heap.size, 1, none⟩ = some (.slice none 0 0) ∧ w4.frozen? ⟨w.heap.size, 1, none⟩ = false := bx hb0 1 rfl
      have hb1 : ((w4.setCell ⟨w.heap.size, 0, none⟩ (.slice af F.length cf)).setCell ⟨w.heap.size, 1, none⟩ (.slice at0 T.length ct)).heap[w.heap.size]? = some (.cells #[.slice af F.length cf, .slice at0 T.length ct] 28) := (box_set (box_set hb0 0 (.slice af F.length cf)) 1 (.slice at0 T.length ct))
      have hch : Chg (fun b => b = w.heap.size) w4 ((w4.setCell ⟨w.heap.size, 0, none⟩ (.slice af F.length cf)).setCell ⟨w.heap.size, 1, none⟩ (.slice at0 T.length ct)) := ((Chg.refl (fun b => b = w.heap.size) w4).trans (Chg.setCell _ w.heap.size 0 (.slice af F.length cf))).trans (Chg.setCell _ w.heap.size 1 (.slice at0 T.length ct))
      have hsk2 : Src (g) (P1 + ((k + 1 : Nat) : Int)) ((w4.setCell ⟨w.heap.size, 0, none⟩ (.slice af F.length cf)).setCell ⟨w.heap.size, 1, none⟩ (.slice at0 T.length ct)) := Src.chgBox hsk1 hch hrg hb0 (by intro o x h; rcases o with _ | _ | o <;> simp at h)
      simp [putAll, Act.put]
      go_wp2
      refine ⟨rfl, undef, rfl, hb1, ⟨hE.trans (hch.mono (fun k hk _ => .inr hk)), hsk2⟩, fun i u us hi hne hcon hnd _ hv => ?_⟩
      rcases Nat.lt_or_ge i 16 with h9 | h9
      · exact VDw.box hrB i u us _ _ hv hch h9 hne
      · obtain rfl : i = 16 := by omega
        exact absurd rfl hcon
    · clear hrest
      have q1 : y1 = .int .i64 who := hd ⟨1, .data⟩ (by simp) rfl (by decide)
      clear hd
      simp [putAll, Act.put]
      go_wp2
      exact ⟨rfl, _, rfl, q1, ⟨hE.trans ((Chg.of_step (Step.refl _ _)).mono (fun k hk _ => .inl hk)), hsk1⟩, fun i u us hi hne hcon hnd _ hv => VDw.step hgb hrg i u us _ _ hv (Step.refl _ _)⟩
    · clear hrest
      have q2 : y2 = .int .i64 page := hd ⟨2, .data⟩ (by simp) rfl (by decide)
      clear hd
      simp [putAll, Act.put]
      go_wp2
      exact ⟨rfl, _, rfl, q2, ⟨hE.trans ((Chg.of_step (Step.refl _ _)).mono (fun k hk _ => .inl hk)), hsk1⟩, fun i u us hi hne hcon hnd _ hv => VDw.step hgb hrg i u us _ _ hv (Step.refl _ _)⟩
  intro vs w4 hvl hI0 hV hVr
  obtain ⟨hE, hsn⟩ := hI0
  match vs, hvl with
  | [y0, y1, y2, y3, y4, y5, y6, y7, y8, y9, y10, y11, y12, y13, y14, y15], _ =>
  have e12 : (CT.int (-1) 10001).has y12 := hV 12 (by omega) rfl
  have e13 : w4.heap[w.heap.size]? = some (.cells #[.slice af F.length cf, .slice at0 T.length ct] 28) := hV 13 (by omega) rfl
  have e14 : y14 = .int .i64 who := hV 14 (by omega) rfl
  have e15 : y15 = .int .i64 page := hV 15 (by omega) rfl
  clear hV hVr
  subst e14 e15
  obtain ⟨n, rfl, _, _⟩ := e12
  simp only [putAll, Act.put, List.take_succ_cons, List.take_zero, List.drop_succ_cons, List.drop_zero]
  simp
  have hc9 : Chg (fun b => b = g ∨ b = w.heap.size) wR w4 := (Chg.of_ext (Ext.refl wR).drew).trans hE
  have hvr : ∀ p ∈ [plTab (.slice at0 T.length ct) vT T, plRow 3 1 encInt1 (.slice af F.length cf) F], ∀ b, p.own b → b ≠ w.heap.size := fun p hp b hb e => by
    simp only [List.mem_cons, List.not_mem_nil, or_false] at hp
    rcases hp with rfl | rfl
    · exact S.ne (i := 1) (j := 3) rfl rfl (by omega) hb e
    · exact S.ne (i := 2) (j := 3) rfl rfl (by omega) hb e
  replace S : Sep w wR [plTab (.slice at0 T.length ct) vT T, plRow 3 1 encInt1 (.slice af F.length cf) F, plBox w.heap.size #[.slice none 0 0, .slice none 0 0] 28] := S.drop 0
  replace S : Sep w wR [plTab (.slice at0 T.length ct) vT T, plRow 3 1 encInt1 (.slice af F.length cf) F] := S.drop 2
  replace S : Sep w w4 [plTab (.slice at0 T.length ct) vT T, plRow 3 1 encInt1 (.slice af F.length cf) F] := (S.others hc9 (fun b h => by omega) (fun p hp b hb h => h.elim (fun h => Hown.out p hp b hb h) (fun h => hvr p hp b hb h)))
  obtain ⟨rbc0, rbf0⟩ := bx e13 0 rfl
  obtain ⟨rbc1, rbf1⟩ := bx e13 1 rfl
  clear hc9 hE hsn e13 gbk hrb0 hvr
  go_wp2
  try simp only [Exit.inBlock, Exit.then]
  refine bodyPost_ret (v := .tuple #[.agg #[.slice af F.length cf, .slice at0 T.length ct], .int .i64 who, .int .i64 page, .int .i64 n]) (by simp [results, Try.results36, go_sem, rbc0, rbc1]) rfl ?_
  exact ⟨_, who, page, n, rfl, af, cf, F, at0, ct, vT, T, rfl, hF14, hT6, HT4.out, hcf, hct, S⟩

set_option maxHeartbeats 4000000 in
theorem drawReadPage (ac : Option Addr) (capc : Nat) (code : List Int) (w : World) (hl : code.length ≤ 9223372036854775807) (hcap : code.length ≤ capc) (hu : ∀ x ∈ code, 0 ≤ x ∧ x ≤ 255) (hc : Rd 1 encU8 w ac code) :
    Calls Try.prog 28 #[.slice ac code.length capc] w (fun e w' => ∃ v a b, e = .returned (.tuple #[v, .int .i64 a, .int .i64 b]) ∧ MemR w v w') := by
  go_enter Try.func28, Try.ntmps28
  have S := Sep.start w
  replace S : Sep w (w.alloc (.cells #[.slice none 0 0, .slice none 0 0] 28)) [plBox w.heap.size #[.slice none 0 0, .slice none 0 0] 28] := S.alloc_at (by simp) _ _
  go_wp2_with fail
  generalize (w.alloc (.cells #[.slice none 0 0, .slice none 0 0] 28)) = w1 at *
  refine (drawWritePage ac capc code w1 hl hcap hu (hc.ext S.ext)).mono ?_
  rintro e w2 ⟨v, who, page, num, rfl, af, cf, F, at0, ct, vT, T, rfl, hF14, hT6, hT4, hcf, hct, U⟩
  have HT4 := Lib.hid hT4
  clear hT4
  replace S : Sep w w2 [plTab (.slice at0 T.length ct) vT T, plRow 3 1 encInt1 (.slice af F.length cf) F, plBox w.heap.size #[.slice none 0 0, .slice none 0 0] 28] := S.call U
  clear U
  replace S : Sep w (w2.alloc (.cells #[.slice af F.length cf, .slice at0 T.length ct] 28)) [plBox w2.heap.size #[.slice af F.length cf, .slice at0 T.length ct] 28, plTab (.slice at0 T.length ct) vT T, plRow 3 1 encInt1 (.slice af F.length cf) F, plBox w.heap.size #[.slice none 0 0, .slice none 0 0] 28] := S.alloc_at (by simp) _ _
  obtain ⟨rbc0, rbf0⟩ : (w2.alloc (.cells #[.slice af F.length cf, .slice at0 T.length ct] 28)).cell? ⟨w.heap.size, 0, none⟩ = some (.slice none 0 0) ∧ (w2.alloc (.cells #[.slice af F.length cf, .slice at0 T.length ct] 28)).frozen? ⟨w.heap.size, 0, none⟩ = false := bx (S.box 3 rfl) 0 rfl
  obtain ⟨rbc1, rbf1⟩ : (w2.alloc (.cells #[.slice af F.length cf, .slice at0 T.length ct] 28)).cell? ⟨w.heap.size, 1, none⟩ = some (.slice none 0 0) ∧ (w2.alloc (.cells #[.slice af F.length cf, .slice at0 T.length ct] 28)).frozen? ⟨w.heap.size, 1, none⟩ = false := bx (S.box 3 rfl) 1 rfl
  go_wp2
  try simp only [Exit.inBlock, Exit.then]
  refine bodyPost_ret (v := .tuple #[.agg #[.slice af F.length cf, .slice at0 T.length ct], .int .i64 who, .int .i64 page]) (by simp [results, Try.results28, go_sem, rbc0, rbc1]) rfl ?_
  replace S : Sep w ((w2.alloc (.cells #[.slice af F.length cf, .slice at0 T.length ct] 28)).setCell ⟨w.heap.size, 0, none⟩ (.slice af F.length cf)) [plBox w2.heap.size #[.slice af F.length cf, .slice at0 T.length ct] 28, plTab (.slice at0 T.length ct) vT T, plRow 3 1 encInt1 (.slice af F.length cf) F, plBox w.heap.size #[.slice af F.length cf, .slice none 0 0] 28] := S.set 3 rfl 0 _
  replace S : Sep w (((w2.alloc (.cells #[.slice af F.length cf, .slice at0 T.length ct] 28)).setCell ⟨w.heap.size, 0, none⟩ (.slice af F.length cf)).setCell ⟨w.heap.size, 1, none⟩ (.slice at0 T.length ct)) [plBox w2.heap.size #[.slice af F.length cf, .slice at0 T.length ct] 28, plTab (.slice at0 T.length ct) vT T, plRow 3 1 encInt1 (.slice af F.length cf) F, plBox w.heap.size #[.slice af F.length cf, .slice at0 T.length ct] 28] := S.set 3 rfl 1 _
  replace S : Sep w (((w2.alloc (.cells #[.slice af F.length cf, .slice at0 T.length ct] 28)).setCell ⟨w.heap.size, 0, none⟩ (.slice af F.length cf)).setCell ⟨w.heap.size, 1, none⟩ (.slice at0 T.length ct)) [plBox w2.heap.size #[.slice af F.length cf, .slice at0 T.length ct] 28, plTab (.slice at0 T.length ct) vT T, plRow 3 1 encInt1 (.slice af F.length cf) F] := S.drop 3
  replace S : Sep w (((w2.alloc (.cells #[.slice af F.length cf, .slice at0 T.length ct] 28)).setCell ⟨w.heap.size, 0, none⟩ (.slice af F.length cf)).setCell ⟨w.heap.size, 1, none⟩ (.slice at0 T.length ct)) [plTab (.slice at0 T.length ct) vT T, plRow 3 1 encInt1 (.slice af F.length cf) F] := S.drop 0
  exact ⟨_, who, page, rfl, af, cf, F, at0, ct, vT, T, rfl, hF14, hT6, HT4.out, hcf, hct, S⟩
end Go.Proofs.Ytpnllhdgpfbaiaa
