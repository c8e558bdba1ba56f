/- SettingsText: contracts of the reference's. Condition: lists and texts shorter than 2^63. -/
import Derived.Test.YtekmfphlccomaaaDoorSetI
import Derived.Test.YtekmfphlccomaaaDoorJoin
import Derived.Deep.Cut
namespace Go.Proofs.YtekmfphlccomaaaDoor
open Go.RowKit

def lineB (x : Set) : ByteArray := x.name ++ ⟨#[61]⟩ ++ x.text
def textL (xs : List Set) : List UInt8 := Lib.join (xs.map (fun x => (lineB x).data.toList)) [59]
theorem textL_nil : textL [] = [] := rfl
theorem textL_one {l : List Set} {x : Set} (hx : l[0]? = some x) : textL (l.take 1) = (lineB x).data.toList := by
  cases l with
  | nil => simp at hx
  | cons a r =>
    simp at hx; subst hx
    simp [textL, Lib.join_one]
theorem textL_succ {l : List Set} {x : Set} {k : Nat} (hk : 0 < k) (hx : l[k]? = some x) : textL (l.take (k + 1)) = textL (l.take k) ++ [59] ++ (lineB x).data.toList := by
  obtain ⟨m, rfl⟩ : ∃ m, k = m + 1 := ⟨k - 1, by omega⟩
  cases l with
  | nil => simp at hx
  | cons a r =>
    simp only [textL, List.take_succ_cons, List.map_cons, Lib.join_cons, List.append_assoc]
    rw [List.map_take, List.map_take, Lib.joinTail_take_succ [59] (r.map (fun x => (lineB x).data.toList)) m (lineB x).data.toList (by simp at hx; simp [hx])]
    simp only [List.append_assoc]
theorem step_pos {A : List UInt8} {s : ByteArray} (hs : s = ⟨A.toArray⟩) (x : Set) : s ++ ⟨#[59]⟩ ++ x.name ++ ⟨#[61]⟩ ++ x.text = ⟨(A ++ [59] ++ (lineB x).data.toList).toArray⟩ := by
  subst hs
  apply ByteArray.ext
  simp [lineB]
theorem step_zero {s : ByteArray} (hs : s = ⟨(textL []).toArray⟩) (x : Set) : s ++ x.name ++ ⟨#[61]⟩ ++ x.text = ⟨((lineB x).data.toList).toArray⟩ := by
  subst hs
  apply ByteArray.ext
  simp [lineB, textL_nil]
def TextR (l : List Set) (s : ByteArray) : Prop := (SetsOk l → s = ⟨(textL l).toArray⟩) ∧ (¬ SetsOk l → s = ⟨#[]⟩)
theorem textR_fun {l : List Set} {s t : ByteArray} (h : TextR l s) (h' : TextR l t) : s = t := by
  by_cases c : SetsOk l
  · rw [h.1 c, h'.1 c]
  · rw [h.2 c, h'.2 c]
theorem sets_nil : SetsOk [] := ⟨fun k hk => by simp at hk, by simp⟩

set_option maxRecDepth 10000 in
set_option maxHeartbeats 8000000 in
theorem specSettingsText (a : Option Addr) (cap : Nat) (l : List Set) (w : World) (hl : l.length ≤ 9223372036854775807) (hs : FitsS l) (hc : Rd 2 encSet w a l) :
    Calls Tryd.prog 8 #[.slice a l.length cap] w fun e w' => ∃ s, e = .returned (.string s) ∧ TextR l s ∧ Ext w w' := by
  have Hs := Lib.hid hs
  clear hs
  go_enter Tryd.func8, Tryd.ntmps8
  go_wp2
  go_loopw [3, 4] (fun o i wr => ∃ (k : Nat) (s : ByteArray), k ≤ l.length ∧ i = .int .i64 k ∧ o = .string s ∧ s = ⟨(textL (l.take k)).toArray⟩ ∧ (k = 0 ∨ SetsOk l) ∧ s.size ≤ 26 * k ∧ Ext w wr) (fun _ i _ => l.length - (intOf i).toNat)
  case atStart => exact ⟨0, ⟨#[]⟩, Nat.zero_le _, rfl, rfl, rfl, .inl rfl, Nat.zero_le _, Ext.refl _⟩
  case round =>
    obtain ⟨k, s, hk, rfl, rfl, hS, hK, hsz, hb⟩ := hrel
    have HS := Lib.hid hS
    have HK := Lib.hid hK
    clear hS hK
    by_cases hlt : k < l.length
    rotate_left
    · obtain rfl : k = l.length := by omega
      have hni : ¬ (l.length : Int) < (l.length : Int) := by omega
      have HR : Hid (TextR l s) := Lib.hid (by
        have h := HS.out
        rw [List.take_length] at h
        refine ⟨fun _ => h, fun hn => ?_⟩
        have h0 := HK.out.resolve_right hn
        rw [List.eq_nil_of_length_eq_zero h0] at h
        exact h)
      go_wp2
      go_ret
      exact ⟨s, rfl, HR.out, hb⟩
    · have i1 : (k : Int) < (l.length : Int) := by omega
      have i0 : (0 : Int) ≤ (k : Int) := by omega
      go_wp2_with fail
      refine (specSettingsValid a cap l wr hl Hs.out (hc.ext hb)).mono ?_
      rintro e w2 ⟨v0, rfl, hv0, hE⟩
      have Hv0 := Lib.hid hv0
      clear hv0
      replace hb := hb.trans hE
      clear hE
      cases v0 with
      | false =>
        have HR : Hid (TextR l s) := Lib.hid (by
          have hn : ¬ SetsOk l := fun h => Bool.noConfusion (Hv0.out.2 h)
          have h0 := HK.out.resolve_right hn
          have h := HS.out
          rw [h0] at h
          exact ⟨fun h => absurd h hn, fun _ => h⟩)
        go_wp2
        go_ret
        exact ⟨s, rfl, HR.out, hb⟩
      | true =>
        have HV := Lib.hid (Hv0.out.1 rfl)
        clear Hv0
        obtain ⟨x, p, off, hx, hpe, c0, c1⟩ := atSet (hc.ext hb) hlt
        subst hpe
        have Hx := Lib.hid hx
        have hok := (HV.out.1 k hlt x hx).1
        have hl8 : l.length ≤ 8 := HV.out.2
        have hn8 : x.name.size ≤ 8 := hok.1.2.2
        have ht16 : x.text.size ≤ 16 := hok.2.2
        clear hx hok
        rcases Nat.eq_zero_or_pos k with rfl | hpos
        · have HN : Hid (s ++ x.name ++ ⟨#[61]⟩ ++ x.text = ⟨(textL (l.take (0 + 1))).toArray⟩) := Lib.hid (by rw [textL_one Hx.out]; exact step_zero HS.out x)
          have Hsz : Hid ((s ++ x.name ++ ⟨#[61]⟩ ++ x.text).size ≤ 26 * (0 + 1)) := Lib.hid (by simp only [ByteArray.size_append]; show s.size + x.name.size + 1 + x.text.size ≤ _; omega)
          have hs0 : s.size = 0 := by omega
          simp only [Nat.zero_mul, Nat.add_zero] at c0 c1
          clear hsz
          go_wp2
          go_quiet (fail)
          go_wp2
          go_roundw
          case rel => exact ⟨0 + 1, _, by omega, by go_num, rfl, HN.out, .inr HV.out, Hsz.out, hb.drewN _⟩
          case measure => simp [intOf]; omega
        · have i2 : (0 : Int) < (k : Int) := by omega
          have HN : Hid (s ++ ⟨#[59]⟩ ++ x.name ++ ⟨#[61]⟩ ++ x.text = ⟨(textL (l.take (k + 1))).toArray⟩) := Lib.hid (by rw [textL_succ hpos Hx.out]; exact step_pos HS.out x)
          have Hsz : Hid ((s ++ ⟨#[59]⟩ ++ x.name ++ ⟨#[61]⟩ ++ x.text).size ≤ 26 * (k + 1)) := Lib.hid (by simp only [ByteArray.size_append]; show s.size + 1 + x.name.size + 1 + x.text.size ≤ _; omega)
          go_wp2
          go_quiet (fail)
          go_wp2
          go_roundw
          case rel => exact ⟨k + 1, _, by omega, by go_num, rfl, HN.out, .inr HV.out, Hsz.out, hb.drewN _⟩
          case measure => simp [intOf]; omega
end Go.Proofs.YtekmfphlccomaaaDoor
