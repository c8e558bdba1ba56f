/- The place of a name among sorted settings: cmp.Compare at strings, the closure of SetSetting, slices.BinarySearchFunc. Condition: at most 8 settings. -/
import Derived.Test.YtekmfphlccomaaaSetI
import Derived.Deep.Cut
import Derived.Sort.Walk0
namespace Go.Proofs.Ytekmfphlccomaaa
open Go.RowKit

def lt (a b : ByteArray) : Prop := Op.bytesLess a.toList b.toList = true
theorem less_tr (a b c : List UInt8) (h : Op.bytesLess a b = true) (h' : Op.bytesLess b c = true) : Op.bytesLess a c = true := by
  rw [bytesLess_eq] at *
  simp only [decide_eq_true_eq] at *
  exact List.lt_trans h h'
def cmpB (s t : ByteArray) : Int := if Op.bytesLess s.toList t.toList then -1 else if Op.bytesLess t.toList s.toList then 1 else 0

set_option maxHeartbeats 1000000 in
theorem cmpStr_any (s t : ByteArray) (w : World) : Calls Try.prog 37 #[.string s, .string t] w fun e w' => e = .returned (.int .i64 (cmpB s t)) ∧ Ext w w' := by
  go_enter Try.func37, Try.ntmps37
  rcases less_cases t.toList s.toList with ⟨h2, h1, h3⟩ | ⟨h2, h1⟩ | ⟨h2, h1, h3⟩
  · have e : cmpB s t = 1 := by simp [cmpB, h1, h2]
    rw [e]
    go_wp2
    go_ret
    exact ⟨rfl, Ext.refl _⟩
  · have e : cmpB s t = -1 := by simp [cmpB, h1]
    rw [e]
    go_wp2
    go_ret
    exact ⟨rfl, Ext.refl _⟩
  · have e : cmpB s t = 0 := by simp [cmpB, h1, h2]
    rw [e]
    go_wp2
    go_ret
    exact ⟨rfl, Ext.refl _⟩

set_option maxHeartbeats 1000000 in
theorem cmpSet_any (x : Set) (nm : ByteArray) (w : World) : Calls Try.prog 36 #[.agg #[.string x.name, .string x.text], .string nm] w fun e w' => e = .returned (.int .i64 (cmpB x.name nm)) ∧ Ext w w' := by
  go_enter Try.func36, Try.ntmps36
  go_wp2_with fail
  refine (cmpStr_any x.name nm _).mono ?_
  rintro e w2 ⟨rfl, hE⟩
  go_wp2
  go_ret
  exact ⟨rfl, ((Ext.refl w).alloc _).trans hE⟩

theorem cmpSet_call : ∀ args w, (callFunc 36 args).run Try.prog w = .ok (.enter 36 args) w := by intro args w; simp [go_sem]
theorem cmpB_neg {s t : ByteArray} : cmpB s t < 0 ↔ lt s t := by
  unfold cmpB lt
  by_cases h : Op.bytesLess s.toList t.toList = true
  · simp [h]
  · by_cases h2 : Op.bytesLess t.toList s.toList = true
    · simp [h, h2]
    · simp [h, h2]
theorem toList_inj {a b : ByteArray} (h : a.toList = b.toList) : a = b := by
  have h1 : ∀ s : ByteArray, s.toList = s.data.toList := fun s => ByteArray.toList_eq s
  rw [h1, h1] at h
  exact ByteArray.ext (Array.toList_inj.1 h)
theorem cmpB_zero {s t : ByteArray} : cmpB s t = 0 ↔ s = t := by
  unfold cmpB
  rcases less_cases s.toList t.toList with ⟨h1, h2, h3⟩ | ⟨h1, h2⟩ | ⟨h1, h2, h3⟩
  · simp only [h1, if_true]
    constructor
    · intro h; omega
    · intro h; subst h; simp at h3
  · simp only [h1, h2, if_true]
    constructor
    · intro h; simp at h
    · intro h; subst h; rw [h1] at h2; cases h2
  · simp only [h1, h2]
    constructor
    · intro _
      have h4 : t.toList = s.toList := by simpa using h3
      exact (toList_inj h4).symm
    · intro _; simp
theorem lt_mono {l : List Set} (h : SetsOk l) : ∀ (d i : Nat) x y, l[i]? = some x → l[i + d + 1]? = some y → lt x.name y.name := by
  intro d
  induction d with
  | zero =>
    intro i x y hx hy
    exact (h.1 (i + 1) (List.getElem?_eq_some_iff.1 hy).1 y hy).2 i x rfl hx
  | succ d ih =>
    intro i x y hx hy
    have hl := (List.getElem?_eq_some_iff.1 hy).1
    have hz : l[i + d + 1]? = some l[i + d + 1] := List.getElem?_eq_getElem (by omega)
    have h1 := ih i x _ hx hz
    have h2 : lt l[i + d + 1].name y.name := (h.1 _ hl y hy).2 (i + d + 1) _ rfl hz
    exact less_tr _ _ _ h1 h2
theorem lt_below {l : List Set} (h : SetsOk l) {nm : ByteArray} {m i : Nat} {x y : Set} (hx : l[m]? = some x) (hlt : lt x.name nm) (hi : i ≤ m) (hy : l[i]? = some y) : lt y.name nm := by
  rcases Nat.lt_or_eq_of_le hi with c | rfl
  · obtain ⟨d, rfl⟩ : ∃ d, m = i + d + 1 := ⟨m - i - 1, by omega⟩
    exact less_tr _ _ _ (lt_mono h d i y x hy hx) hlt
  · rw [hx] at hy; cases hy; exact hlt
theorem lt_above {l : List Set} (h : SetsOk l) {nm : ByteArray} {m i : Nat} {x y : Set} (hx : l[m]? = some x) (hlt : ¬ lt x.name nm) (hi : m ≤ i) (hy : l[i]? = some y) : ¬ lt y.name nm := fun hc => hlt (lt_below h hy hc hi hx)
/-- The place of a name, and whether it is there. -/
def PosS (l : List Set) (nm : ByteArray) (k : Nat) (b : Bool) : Prop := k ≤ l.length ∧ (∀ (m : Nat) x, m < k → l[m]? = some x → lt x.name nm) ∧ (∀ (m : Nat) x, k ≤ m → l[m]? = some x → ¬ lt x.name nm) ∧ (b = true ↔ ∃ x, l[k]? = some x ∧ x.name = nm)

set_option maxHeartbeats 4000000 in
theorem bsearch_any (a : Option Addr) (cap : Nat) (l : List Set) (nm : ByteArray) (w : World) (hok : SetsOk l) (hc : Rd 2 encSet w a l) :
    Calls Try.prog 35 #[.slice a l.length cap, .string nm, .func (.func 36) #[] #[]] w fun e w' => ∃ k b, e = .returned (.tuple #[.int .i64 (k : Nat), .bool b]) ∧ PosS l nm k b ∧ Ext w w' := by
  have Hok := Lib.hid hok
  have hl8 : l.length ≤ 8 := hok.2
  clear hok
  go_enter Try.func35, Try.ntmps35
  go_wp2
  go_loopw [9, 10, 11] (fun i j _ wr => ∃ (lo hi : Nat), i = .int .i64 lo ∧ j = .int .i64 hi ∧ lo ≤ hi ∧ hi ≤ l.length ∧ (∀ (m : Nat) x, m < lo → l[m]? = some x → lt x.name nm) ∧ (∀ (m : Nat) x, hi ≤ m → l[m]? = some x → ¬ lt x.name nm) ∧ Ext w wr) (fun i j _ _ => (intOf j).toNat - (intOf i).toNat)
  case atStart => exact ⟨0, l.length, rfl, rfl, Nat.zero_le _, Nat.le_refl _, fun m x h => absurd h (Nat.not_lt_zero _), fun m x h hx => absurd (List.getElem?_eq_some_iff.1 hx).1 (by omega), Ext.refl _⟩
  case round =>
    obtain ⟨lo, hi, rfl, rfl, hlh, hhl, hL, hH, hb⟩ := hrel
    have HL := Lib.hid hL
    have HH := Lib.hid hH
    clear hL hH
    by_cases hlt : lo < hi
    · have i1 : (lo : Int) < (hi : Int) := by omega
      have hml : (lo + hi) / 2 < l.length := by omega
      have hmb : lo ≤ (lo + hi) / 2 ∧ (lo + hi) / 2 < hi := by omega
      obtain ⟨x, p, off, hx, hpe, c0, c1⟩ := atSet (hc.ext hb) hml
      subst hpe
      have Hx := Lib.hid hx
      clear hx
      have hcf := cmpSet_call
      go_wp2_with fail
      refine (cmpSet_any x nm _).mono ?_
      rintro e w2 ⟨rfl, hE⟩
      have hb2 := hb.trans hE
      clear hE c0 c1
      by_cases hneg : cmpB x.name nm < 0
      · have HN : Hid (∀ (m : Nat) y, m < (lo + hi) / 2 + 1 → l[m]? = some y → lt y.name nm) := Lib.hid (fun m y hm hy => lt_below Hok.out Hx.out (cmpB_neg.1 hneg) (by omega) hy)
        go_wp2
        go_roundw
        case rel => exact ⟨(lo + hi) / 2 + 1, hi, by go_num, rfl, by omega, hhl, HN.out, HH.out, hb2⟩
        case measure => simp [intOf]; omega
      · have HN : Hid (∀ (m : Nat) y, (lo + hi) / 2 ≤ m → l[m]? = some y → ¬ lt y.name nm) := Lib.hid (fun m y hm hy => lt_above Hok.out Hx.out (fun h => hneg (cmpB_neg.2 h)) hm hy)
        go_wp2
        go_roundw
        case rel => exact ⟨lo, (lo + hi) / 2, rfl, by go_num, by omega, by omega, HL.out, HN.out, hb2⟩
        case measure => simp [intOf]; omega
    · obtain rfl : lo = hi := by omega
      have hni : ¬ (lo : Int) < (lo : Int) := by omega
      have hcf := cmpSet_call
      by_cases hend : lo < l.length
      · have i1 : (lo : Int) < (l.length : Int) := by omega
        have i0 : (0 : Int) ≤ (lo : Int) := by omega
        obtain ⟨x, p, off, hx, hpe, c0, c1⟩ := atSet (hc.ext hb) hend
        subst hpe
        have HP : Hid (PosS l nm lo (cmpB x.name nm == 0)) := Lib.hid ⟨hhl, HL.out, HH.out, by
          rw [beq_iff_eq, cmpB_zero]
          constructor
          · intro h; exact ⟨x, hx, h⟩
          · rintro ⟨y, hy, h⟩; rw [hx] at hy; cases hy; exact h⟩
        clear hx
        go_wp2_with fail
        refine (cmpSet_any x nm _).mono ?_
        rintro e w2 ⟨rfl, hE⟩
        have hb2 := hb.trans hE
        clear hE c0 c1
        go_wp2
        go_ret2
        first | exact ⟨lo, _, rfl, HP.out, hb2⟩ | exact ⟨lo, .inl ⟨rfl, HP.out, hb2⟩⟩ | (generalize (cmpB x.name nm == 0) = b9 at *; cases b9; exact ⟨lo, .inl ⟨rfl, HP.out, hb2⟩⟩; exact ⟨lo, .inr ⟨rfl, HP.out, hb2⟩⟩)
      · have i1 : ¬ (lo : Int) < (l.length : Int) := by omega
        have HP : Hid (PosS l nm lo false) := Lib.hid ⟨hhl, HL.out, HH.out, by
          constructor
          · intro h; cases h
          · rintro ⟨y, hy, h⟩; exact absurd (List.getElem?_eq_some_iff.1 hy).1 hend⟩
        go_wp2
        go_ret2
        first | exact ⟨lo, _, rfl, HP.out, hb⟩ | exact ⟨lo, .inl ⟨rfl, HP.out, hb⟩⟩
end Go.Proofs.Ytekmfphlccomaaa
