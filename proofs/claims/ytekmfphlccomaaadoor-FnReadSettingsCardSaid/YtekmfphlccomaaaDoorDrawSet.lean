/- The draws of settings: contracts of l20Settings and of the law's draw. No condition but small sizes. -/
import Derived.Test.YtekmfphlccomaaaDoorDrawF
import Derived.Test.YtekmfphlccomaaaDoorOrdS
import Derived.Test.YtekmfphlccomaaaDoorSetD
import Derived.Deep.Cut
namespace Go.Proofs.YtekmfphlccomaaaDoor
open Go.RowKit

def NumB (m : Int) (v : Value) : Prop := ∃ x : Int, v = .int .i64 x ∧ 0 ≤ x ∧ x < m
/-- Four short texts in a block behind the reader. -/
def FourV (g : Nat) (v : Value) (w : World) : Prop := ∃ (b : Nat) (L : List ByteArray), v = .slice (some ⟨b, 0, none⟩) 4 4 ∧ Rd 1 encStr1 w (some ⟨b, 0, none⟩) L ∧ L.length = 4 ∧ (∀ x ∈ L, x.size ≤ 17) ∧ g < b
def CellS (g : Nat) (v : Value) (w : World) : Prop := ∃ (b o : Nat) (u : ByteArray), v = .pointer (some ⟨b, o, none⟩) ∧ w.cell? ⟨b, o, none⟩ = some (.string u) ∧ u.size ≤ 17 ∧ g < b
def ShortV (v : Value) : Prop := ∃ u : ByteArray, v = .string u ∧ u.size ≤ 17
/-- A short list of short texts in memory from base on. -/
def SetsD (base : Nat) (v : Value) (w : World) : Prop := ∃ l : List Set, SmallS l ∧ w.ownsRow base 40 2 v l.length (l.flatMap encSet)
def TupS (base : Nat) (v : Value) (w : World) : Prop := ∃ (u : Value) (ok : Bool), v = .tuple #[u, .bool ok] ∧ SetsD base u w
def BoolV (v : Value) : Prop := ∃ ok : Bool, v = .bool ok
theorem FourV.step {g : Nat} {v : Value} {w w' : World} (h : FourV g v w) (k : Step g w w') : FourV g v w' := by
  obtain ⟨b, L, h1, h2, h3, h4, h5⟩ := h
  exact ⟨b, L, h1, h2.step k (fun _ b' off e => by cases e; omega), h3, h4, h5⟩
theorem CellS.step {g : Nat} {v : Value} {w w' : World} (h : CellS g v w) (k : Step g w w') : CellS g v w' := by
  obtain ⟨b, o, u, h1, h2, h3, h4⟩ := h
  exact ⟨b, o, u, h1, cell_step k (by omega) h2, h3, h4⟩
theorem SetsD.step {g base : Nat} {v : Value} {w w' : World} (h : SetsD base v w) (hg : g < base) (k : Step g w w') : SetsD base v w' := by
  obtain ⟨l, h1, h2⟩ := h
  exact ⟨l, h1, ownsRow_step h2 k hg⟩

set_option maxRecDepth 10000 in
set_option maxHeartbeats 16000000 in
theorem drawSettings (g : Nat) (P n : Int) (w : World) (hs : Src g P w) (hP : P ≤ 800000) (hn : n ≤ 1000000) :
    Calls Tryd.prog 18 #[.pointer (some ⟨g, 0, none⟩), .int .i64 n] w (RetD g P 200 (fun v w' => ∃ l : List Set, l.length ≤ 10 ∧ FitsS l ∧ w'.ownsRow w.heap.size 40 2 v l.length (l.flatMap encSet)) w) := by
  have hg := hs.lt
  go_enter Tryd.func18, Tryd.ntmps18
  go_wp2_with fail
  have hS0 := (Step.refl g w).alloc (.cells #[] 40)
  have hs1 := hs.ext ((Ext.refl w).alloc (.cells #[] 40))
  have hown : SetsD w.heap.size (.slice (some ⟨w.heap.size, 0, none⟩) 0 0) (w.alloc (.cells #[] 40)) := ⟨[], ⟨by simp, by simp⟩, owns_lit_new [] encSet_len rfl rfl (by omega) (Nat.le_refl _)⟩
  generalize (w.alloc (.cells #[] 40)) = w1 at *
  refine (pick_any g P 6 _ hs1 (by omega)).mono ?_
  rintro e w2 ⟨v, rfl, ⟨q, rfl, q0, q1, _⟩, hs2, hS⟩
  replace hS0 := hS0.trans hS
  replace hown := hown.step hg hS
  obtain ⟨qn, rfl⟩ : ∃ k : Nat, q = k := ⟨q.toNat, by omega⟩
  have q6 : qn < 6 := by have := q1 (by omega); omega
  clear q1 hS hs1 q0
  go_wp2
  go_loopw [5, 6, 7, 8] (fun vo i _ _ wr => ∃ k : Nat, k ≤ 5 ∧ i = .int .i64 (k : Int) ∧ SetsD w.heap.size vo wr ∧ Src g (P + 1 + (5 - (k : Int)) * 30) wr ∧ Step g w wr) (fun _ i _ _ _ => (intOf i).toNat)
  case atStart => exact ⟨qn, by omega, rfl, hown, hs2.mono (by omega), hS0⟩
  case round =>
    obtain ⟨k, hk5, rfl, hown, hs3, hS⟩ := hrel
    by_cases h0 : 0 < k
    · obtain ⟨m, rfl⟩ : ∃ m, k = m + 1 := ⟨k - 1, by omega⟩
      have h0' : (0 : Int) < ((m + 1 : Nat) : Int) := by omega
      have hw : IntKind.i64.wrap (((m + 1 : Nat) : Int) - 1) = (m : Int) := by rw [show ((m + 1 : Nat) : Int) - 1 = m by omega]; exact IntWalk.i64_in _ (by omega)
      go_upto_region 5 with fail
      obtain ⟨PP, hPP⟩ : ∃ PP, PP = P + 1 + (5 - ((m + 1 : Nat) : Int)) * 30 := ⟨_, rfl⟩
      rw [← hPP] at hs3
      have HPP := Lib.hid hPP
      have hPPb : PP ≤ 810000 := by omega
      clear hPP
      refine wp_region_s (fun a b => Step g a b) (fun k wv => Src g (PP + (k : Int)) wv ∧ Step g w wv) 16 (V := fun i v wv => match i with
        | 0 => SetsD w.heap.size v wv
        | 1 => FourV g v wv
        | 2 => v = .pointer (some ⟨g, 0, none⟩)
        | 3 => NumB 4 v
        | 4 => CellS g v wv
        | 5 => ShortV v
        | 6 => FourV g v wv
        | 7 => v = .pointer (some ⟨g, 0, none⟩)
        | 8 => NumB 4 v
        | 9 => CellS g v wv
        | 10 => ShortV v
        | 11 => TupS w.heap.size v wv
        | 12 => TupS w.heap.size v wv
        | 13 => SetsD w.heap.size v wv
        | 14 => BoolV v
        | 15 => SetsD w.heap.size v wv
        | _ => True) rfl (by decide) (by kernel_rfl) (by kernel_rfl) (by kernel_rfl) (Step.refl _ _) (fun _ _ _ h k => h.trans k) ⟨(hs3.mono (by omega)).ext (Ext.refl _).drew, hS.drew⟩ ?_ ?_ ?_
      · intro i v w2 w3 h hE
        match i with
        | 0 => exact h.step hg hE
        | 1 => exact h.step hE
        | 2 => exact h
        | 3 => exact h
        | 4 => exact h.step hE
        | 5 => exact h
        | 6 => exact h.step hE
        | 7 => exact h
        | 8 => exact h
        | 9 => exact h.step hE
        | 10 => exact h
        | 11 => obtain ⟨u, ok, h1, h2⟩ := h; exact ⟨u, ok, h1, h2.step hg hE⟩
        | 12 => obtain ⟨u, ok, h1, h2⟩ := h; exact ⟨u, ok, h1, h2.step hg hE⟩
        | 13 => exact h.step hg hE
        | 14 => exact h
        | 15 => exact h.step hg hE
        | (n + 16) => trivial
      · intro i o hi ho k hk vs w4 hvl hE ⟨hsk, hSk⟩ hd
        have hsk1 : Src g (PP + ((k + 1 : Nat) : Int)) w4 := hsk.mono (by omega)
        have hownd := hown.step hg ((Step.refl g _).drew.trans hE)
        match vs, hvl with
        | [y0, y1, y2, y3, y4, y5, y6, y7, y8, y9, y10, y11, y12, y13, y14, y15], _ =>
        rcases (show i = 0 ∨ i = 1 ∨ i = 2 ∨ i = 3 ∨ i = 4 ∨ i = 5 ∨ i = 6 ∨ i = 7 ∨ i = 8 ∨ i = 9 ∨ i = 10 ∨ i = 11 ∨ i = 12 ∨ i = 13 ∨ i = 14 ∨ i = 15 by omega) with rfl | rfl | rfl | rfl | rfl | rfl | rfl | rfl | rfl | rfl | rfl | rfl | rfl | rfl | rfl | rfl
        all_goals
          simp only [List.getElem?_cons_zero, List.getElem?_cons_succ, Option.some.injEq] at ho
          subst ho
          simp [Waits, Region.binds] at hd
        · simp [putAll, Act.put]
          go_wp2
          exact ⟨rfl, _, rfl, hownd, Step.refl _ _, hsk1, hSk⟩
        · simp [putAll, Act.put]
          go_wp2
          have hlt := hsk.lt
          exact ⟨rfl, _, rfl, ⟨w4.heap.size, ([⟨#[97]⟩, ⟨#[98]⟩, ⟨#[104, 111, 109, 101]⟩, ⟨#[112, 97, 116, 104]⟩] : List ByteArray), rfl, rd_lit_new _ (fun _ => rfl) rfl, rfl, by decide, by omega⟩, (Step.refl _ _).alloc _, hsk1.ext ((Ext.refl _).alloc _), hSk.alloc _⟩
        · simp [putAll, Act.put, hd]
          go_wp2
          exact ⟨rfl, _, rfl, rfl, Step.refl _ _, hsk1, hSk⟩
        · simp [putAll, Act.put, hd]
          go_wp2_with fail
          refine (pick_any _ _ 4 _ hsk (by omega)).mono ?_
          rintro e w5 ⟨v5, rfl, ⟨z, rfl, z0, z1, _⟩, hs5, hS5⟩
          have hs6 : Src g (PP + ((k + 1 : Nat) : Int)) w5 := hs5.mono (by omega)
          have hz := z1 (by omega)
          have hSS := hSk.trans hS5
          clear z1
          go_wp2
          exact ⟨rfl, _, rfl, ⟨z, rfl, z0, hz⟩, hS5, hs6, hSS⟩
        · obtain ⟨⟨b, LL, rfl, hrd, hll, hsz, hb⟩, z, rfl, z0, z1⟩ := hd
          obtain ⟨j, rfl⟩ : ∃ j : Nat, z = j := ⟨z.toNat, by omega⟩
          obtain ⟨u, hu, hcell⟩ := lit_at hrd (k := j) (by omega)
          have c0 : w4.cell? ⟨b, j, none⟩ = some (.string u) := by simpa using hcell 0 _ rfl
          have hu17 := hsz u hu
          clear hcell hrd hsz hu
          have hj4 : (j : Int) < 4 := by omega
          simp [putAll, Act.put]
          go_wp2
          exact ⟨rfl, _, rfl, ⟨b, j, u, rfl, c0, hu17, hb⟩, Step.refl _ _, hsk1, hSk⟩
        · obtain ⟨b, o, u, rfl, c0, hu, hb⟩ := hd
          simp [putAll, Act.put]
          go_wp2
          exact ⟨rfl, _, rfl, ⟨u, rfl, hu⟩, Step.refl _ _, hsk1, hSk⟩
        · simp [putAll, Act.put]
          go_wp2
          have hlt := hsk.lt
          exact ⟨rfl, _, rfl, ⟨w4.heap.size, ([⟨#[]⟩, ⟨#[120]⟩, ⟨#[47, 97, 61, 98]⟩, ⟨#[99, 32, 100]⟩] : List ByteArray), rfl, rd_lit_new _ (fun _ => rfl) rfl, rfl, by decide, by omega⟩, (Step.refl _ _).alloc _, hsk1.ext ((Ext.refl _).alloc _), hSk.alloc _⟩
        · simp [putAll, Act.put, hd]
          go_wp2
          exact ⟨rfl, _, rfl, rfl, Step.refl _ _, hsk1, hSk⟩
        · simp [putAll, Act.put, hd]
          go_wp2_with fail
          refine (pick_any _ _ 4 _ hsk (by omega)).mono ?_
          rintro e w5 ⟨v5, rfl, ⟨z, rfl, z0, z1, _⟩, hs5, hS5⟩
          have hs6 : Src g (PP + ((k + 1 : Nat) : Int)) w5 := hs5.mono (by omega)
          have hz := z1 (by omega)
          have hSS := hSk.trans hS5
          clear z1
          go_wp2
          exact ⟨rfl, _, rfl, ⟨z, rfl, z0, hz⟩, hS5, hs6, hSS⟩
        · obtain ⟨⟨b, LL, rfl, hrd, hll, hsz, hb⟩, z, rfl, z0, z1⟩ := hd
          obtain ⟨j, rfl⟩ : ∃ j : Nat, z = j := ⟨z.toNat, by omega⟩
          obtain ⟨u, hu, hcell⟩ := lit_at hrd (k := j) (by omega)
          have c0 : w4.cell? ⟨b, j, none⟩ = some (.string u) := by simpa using hcell 0 _ rfl
          have hu17 := hsz u hu
          clear hcell hrd hsz hu
          have hj4 : (j : Int) < 4 := by omega
          simp [putAll, Act.put]
          go_wp2
          exact ⟨rfl, _, rfl, ⟨b, j, u, rfl, c0, hu17, hb⟩, Step.refl _ _, hsk1, hSk⟩
        · obtain ⟨b, o, u, rfl, c0, hu, hb⟩ := hd
          simp [putAll, Act.put]
          go_wp2
          exact ⟨rfl, _, rfl, ⟨u, rfl, hu⟩, Step.refl _ _, hsk1, hSk⟩
        · obtain ⟨⟨l, hl, hol⟩, ⟨u1, rfl, hu1⟩, ⟨u2, rfl, hu2⟩⟩ : SetsD w.heap.size y0 w4 ∧ ShortV y5 ∧ ShortV y10 := by
            first | exact hd | exact ⟨hd.1, hd.2.1, hd.2.2⟩ | exact ⟨hd.1, hd.2.1, hd.2.2.1⟩ | exact ⟨hd.1.1, hd.1.2, hd.2⟩
          obtain ⟨a, cap, rfl, hlcap, hrd, hsh⟩ := view_owns encSet_len hol
          have hsh2 : (a = none ∧ l = [] ∧ cap = 0) ∨ ∃ g, a = some ⟨g, 0, none⟩ := hsh.imp_right (fun ⟨g, h, _⟩ => ⟨g, h⟩)
          simp [putAll, Act.put]
          go_wp2_with fail
          refine (specSetSetting a cap l u1 u2 w4 hl.1 hl.2 hu1 hu2 hlcap hsh2 hrd).mono ?_
          rintro e w5 ⟨v, L, ok, rfl, hR, hown5, hE5⟩
          have h9 : SetsD w.heap.size v w5 := ⟨L, hR, ownsRow_base hown5 hSk.size⟩
          have hs6 := hsk1.ext hE5
          have hSS := hSk.ext hE5
          go_wp2
          have hT : TupS w.heap.size (.tuple #[v, .bool ok]) w5 := ⟨v, ok, rfl, h9⟩
          exact ⟨rfl, _, rfl, hT, Step.of_ext hE5, hs6, hSS⟩
        · obtain ⟨u, ok, rfl, h9⟩ := hd
          have hT : TupS w.heap.size (.tuple #[u, .bool ok]) w4 := ⟨u, ok, rfl, h9⟩
          simp [putAll, Act.put]
          go_wp2
          exact ⟨rfl, _, rfl, hT, Step.refl _ _, hsk1, hSk⟩
        · obtain ⟨u, ok, rfl, h9⟩ := hd
          simp [putAll, Act.put]
          go_wp2
          exact ⟨rfl, _, rfl, h9, Step.refl _ _, hsk1, hSk⟩
        · obtain ⟨u, ok, rfl, h9⟩ := hd
          have hT : BoolV (.bool ok) := ⟨ok, rfl⟩
          simp [putAll, Act.put]
          go_wp2
          exact ⟨rfl, _, rfl, hT, Step.refl _ _, hsk1, hSk⟩
        · have h9 : SetsD w.heap.size y13 w4 := by first | exact hd | exact hd.1 | exact hd.2 | exact hd.2.1 | exact hd.2.2
          simp [putAll, Act.put]
          go_wp2
          exact ⟨rfl, _, rfl, h9, Step.refl _ _, hsk1, hSk⟩
      · intro vs w4 hvl hE ⟨hsn, hSn⟩ hV
        match vs, hvl with
        | [y0, y1, y2, y3, y4, y5, y6, y7, y8, y9, y10, y11, y12, y13, y14, y15], _ =>
        have h15 := hV 15 (by omega)
        obtain ⟨ok, e14⟩ := hV 14 (by omega)
        clear hV
        replace h15 : SetsD w.heap.size y15 w4 := h15
        simp at e14
        subst e14
        have hs9 : Src g (P + 1 + (5 - (m : Int)) * 30) w4 := hsn.mono (by have := HPP.out; omega)
        simp only [putAll, Act.put, List.take_succ_cons, List.take_zero, List.drop_succ_cons, List.drop_zero]
        simp
        go_wp2
        go_roundw
        case rel => exact ⟨m, by omega, by go_num, h15, hs9, hSn⟩
        case measure => simp [intOf]
    · obtain rfl : k = 0 := by omega
      go_wp2_with fail
      refine (odd_any g _ n wr hs3 (by omega) hn).mono ?_
      rintro e w4 ⟨v, rfl, ⟨b, rfl, hb⟩, hs4, hS4⟩
      replace hS := hS.trans hS4
      replace hown := hown.step hg hS4
      clear hS4 hs3 hb
      obtain ⟨l, hl, hol⟩ := hown
      cases b with
      | false =>
        go_wp2
        go_ret
        exact RetD.mk ⟨l, by have := hl.1; omega, fun x hx => by have := hl.2 x hx; omega, hol⟩ hs4 (by omega) hS
      | true =>
        go_wp2_with fail
        have hlit : Rd 2 encSet (w4.alloc (.cells #[.string ⟨#[]⟩, .string ⟨#[]⟩, .string ⟨#[65]⟩, .string ⟨#[]⟩, .string ⟨#[122]⟩, .string ⟨#[10]⟩, .string ⟨#[122]⟩, .string ⟨#[97, 59, 98]⟩, .string ⟨#[97]⟩, .string ⟨#[]⟩] 40)) (some ⟨w4.heap.size, 0, none⟩) ([⟨⟨#[]⟩, ⟨#[]⟩⟩, ⟨⟨#[65]⟩, ⟨#[]⟩⟩, ⟨⟨#[122]⟩, ⟨#[10]⟩⟩, ⟨⟨#[122]⟩, ⟨#[97, 59, 98]⟩⟩, ⟨⟨#[97]⟩, ⟨#[]⟩⟩] : List Set) := rd_lit_new _ encSet_len rfl
        have hE := (Ext.refl w4).alloc (.cells #[.string ⟨#[]⟩, .string ⟨#[]⟩, .string ⟨#[65]⟩, .string ⟨#[]⟩, .string ⟨#[122]⟩, .string ⟨#[10]⟩, .string ⟨#[122]⟩, .string ⟨#[97, 59, 98]⟩, .string ⟨#[97]⟩, .string ⟨#[]⟩] 40)
        have hne : w4.heap.size ≠ g := by have := hs4.lt; omega
        have hsz : ∀ x ∈ ([⟨⟨#[]⟩, ⟨#[]⟩⟩, ⟨⟨#[65]⟩, ⟨#[]⟩⟩, ⟨⟨#[122]⟩, ⟨#[10]⟩⟩, ⟨⟨#[122]⟩, ⟨#[97, 59, 98]⟩⟩, ⟨⟨#[97]⟩, ⟨#[]⟩⟩] : List Set), x.name.size ≤ 17 ∧ x.text.size ≤ 17 := by decide
        have hll : ([⟨⟨#[]⟩, ⟨#[]⟩⟩, ⟨⟨#[65]⟩, ⟨#[]⟩⟩, ⟨⟨#[122]⟩, ⟨#[10]⟩⟩, ⟨⟨#[122]⟩, ⟨#[97, 59, 98]⟩⟩, ⟨⟨#[97]⟩, ⟨#[]⟩⟩] : List Set).length = 5 := rfl
        generalize ([⟨⟨#[]⟩, ⟨#[]⟩⟩, ⟨⟨#[65]⟩, ⟨#[]⟩⟩, ⟨⟨#[122]⟩, ⟨#[10]⟩⟩, ⟨⟨#[122]⟩, ⟨#[97, 59, 98]⟩⟩, ⟨⟨#[97]⟩, ⟨#[]⟩⟩] : List Set) = LL at *
        replace hs4 := hs4.ext hE
        replace hS := hS.ext hE
        replace hol := ownsRow_ext hol hE
        generalize (w4.alloc (.cells #[.string ⟨#[]⟩, .string ⟨#[]⟩, .string ⟨#[65]⟩, .string ⟨#[]⟩, .string ⟨#[122]⟩, .string ⟨#[10]⟩, .string ⟨#[122]⟩, .string ⟨#[97, 59, 98]⟩, .string ⟨#[97]⟩, .string ⟨#[]⟩] 40)) = w5 at *
        refine (pick_any g _ 5 _ hs4 (by omega)).mono ?_
        rintro e w6 ⟨v, rfl, ⟨i, rfl, i0, i1, _⟩, hs5, hS4⟩
        replace hS := hS.trans hS4
        replace hol := ownsRow_step hol hS4 hg
        replace hlit := hlit.step hS4 (fun _ b off h => by cases h; exact hne)
        replace i1 := i1 (by omega)
        obtain ⟨j, rfl⟩ : ∃ k : Nat, i = k := ⟨i.toNat, by omega⟩
        obtain ⟨x, hx, hcell⟩ := lit_at hlit (k := j) (by omega)
        have c0 : w6.cell? ⟨w4.heap.size, j * 2, none⟩ = some (.string x.name) := hcell 0 _ rfl
        have c1 : w6.cell? ⟨w4.heap.size, j * 2 + 1, none⟩ = some (.string x.text) := hcell 1 _ rfl
        have hx17 := hsz x hx
        have Hx17 := Lib.hid hx17
        have HL := Lib.hid hl
        have hl8 : l.length ≤ 8 := hl.1
        clear hcell hlit hE hS4 hs4 hsz hx hx17 hl
        have E2 := (Ext.refl _).alloc (a := w6) (.cells #[.string x.name, .string x.text, .string ⟨#[97]⟩, .string ⟨#[]⟩] 40)
        have rdm : Rd 2 encSet (w6.alloc (.cells #[.string x.name, .string x.text, .string ⟨#[97]⟩, .string ⟨#[]⟩] 40)) (some ⟨w6.heap.size, 0, none⟩) [x, (⟨⟨#[97]⟩, ⟨#[]⟩⟩ : Set)] := rd_lit_new [x, (⟨⟨#[97]⟩, ⟨#[]⟩⟩ : Set)] encSet_len rfl
        replace hol := ownsRow_ext hol E2
        replace hS := hS.ext E2
        replace hs5 := hs5.ext E2
        go_wp2_with (at_builtin; refine wpList_append_rd rfl _ _ 23 rfl w.heap.size 40 _ 2 _ Tryd.underlying23 infoSet rfl (by decide) encSet_len encSet_one _ l.length l rfl hol rfl _ 2 2 [x, (⟨⟨#[97]⟩, ⟨#[]⟩⟩ : Set)] rfl rfl rdm (by omega) (by omega) hS.size ?_)
        intro v' w7 hown' hgr
        replace hS := hS.row hgr (fun i h => (hol.lt i h).1)
        replace hs5 := hs5.row hgr (fun i h => by have := (hol.lt i h).1; omega)
        have Hown : Hid (w7.ownsRow w.heap.size 40 2 v' (l ++ [x, (⟨⟨#[97]⟩, ⟨#[]⟩⟩ : Set)]).length ((l ++ [x, (⟨⟨#[97]⟩, ⟨#[]⟩⟩ : Set)]).flatMap encSet)) := Lib.hid (by simpa using hown')
        clear hown' hgr hol rdm E2
        go_wp2
        go_ret
        exact RetD.mk ⟨l ++ [x, (⟨⟨#[97]⟩, ⟨#[]⟩⟩ : Set)], by rw [List.length_append]; simp; omega, fun y hy => by
          rcases List.mem_append.1 hy with h | h
          · have := HL.out.2 y h; omega
          · simp only [List.mem_cons, List.mem_singleton, List.not_mem_nil, or_false] at h
            rcases h with rfl | rfl
            · have := Hx17.out; omega
            · exact ⟨by decide, by decide⟩, Hown.out⟩ hs5 (by omega) hS

end Go.Proofs.YtekmfphlccomaaaDoor
