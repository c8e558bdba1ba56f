/- markText: the text of a mark depends on its number alone. Condition: the number is at most 10^13. -/
import Derived.Test.YtekmfphlccomaaaDoorInts
namespace Go.Proofs.YtekmfphlccomaaaDoor
open Go.RowKit

def digsF : Nat → Int → List UInt8 → List UInt8
  | 0, _, out => out
  | f + 1, k, out => if 0 < k then digsF f (k / 10) (UInt8.ofNat (48 + k % 10).toNat :: out) else out
def markStr (c : Int) : ByteArray := if c ≤ 0 then ⟨#[109, 48]⟩ else ⟨(109 :: digsF 20 c []).toArray⟩

theorem conv1 (n : Int) (w : World) : (convert 22 9 (.slice (some ⟨w.heap.size, 0, none⟩) 1 1)).run Tryd.prog (w.alloc (.cells #[.int .u8 n] 5)) = .ok (.string ⟨#[UInt8.ofNat n.toNat]⟩) (w.alloc (.cells #[.int .u8 n] 5)) := by
  rw [run_convert_bytes_arg (P := Tryd.prog) _ 22 5 Tryd.underlying22 Tryd.underlying5 w.heap.size 0 1 1 [n] rfl (fun i hi => by
    obtain rfl : i = 0 := by omega
    simp) 9 Tryd.underlying9]
  rfl

theorem one_append (x : UInt8) (out : List UInt8) : (⟨#[x]⟩ : ByteArray) ++ (⟨out.toArray⟩ : ByteArray) = ⟨(x :: out).toArray⟩ := by
  apply ByteArray.ext
  simp [ByteArray.data_append]
theorem digsF_zero (f : Nat) (out : List UInt8) : digsF f 0 out = out := by cases f <;> simp [digsF]

set_option maxHeartbeats 1000000 in
theorem markText_any (c : Int) (w : World) (h0 : 0 ≤ c) (h1 : c ≤ 10000000000000) :
    Calls Tryd.prog 28 #[.int .i64 c] w (RetV (fun v _ => v = .string (markStr c)) w) := by
  by_cases hz : c ≤ 0
  · go_enter Tryd.func28, Tryd.ntmps28
    go_wp2
    go_ret
    exact RetV.mk (by simp [markStr, hz]) (Ext.refl _)
  · go_enter Tryd.func28, Tryd.ntmps28
    go_wp2
    go_loopw [0, 3] (fun q o wr => ∃ (f : Nat) (k : Int) (out : List UInt8), q = .int .i64 k ∧ o = .string ⟨out.toArray⟩ ∧ 0 ≤ k ∧ k < 10 ^ f ∧ k ≤ 10000000000000 ∧ f + out.length ≤ 20 ∧ digsF f k out = digsF 20 c [] ∧ Ext w wr) (fun q _ _ => (intOf q).toNat)
    case atStart => exact ⟨20, c, [], rfl, rfl, h0, by omega, h1, by simp, rfl, Ext.refl _⟩
    case round =>
      obtain ⟨f, k, out, rfl, rfl, hk0, hk1, hk2, hf, hd, hb⟩ := hrel
      have Hd := Lib.hid hd
      clear hd
      have Hk1 := Lib.hid hk1
      clear hk1
      by_cases hpos : 0 < k
      · have hcv := conv1 (48 + k % 10) wr
        have hsz : (⟨#[UInt8.ofNat (48 + k % 10).toNat]⟩ : ByteArray).size + (⟨out.toArray⟩ : ByteArray).size ≤ 9223372036854775807 := by
          show 1 + out.toArray.size ≤ _
          simp; omega
        go_wp2
        go_roundw
        case rel =>
          obtain ⟨g, rfl⟩ : ∃ g, f = g + 1 := by
            cases f with
            | zero => exfalso; have := Hk1.out; simp at this; omega
            | succ g => exact ⟨g, rfl⟩
          refine ⟨g, k / 10, UInt8.ofNat (48 + k % 10).toNat :: out, rfl, by rw [one_append], by omega, ?_, by omega, by simp only [List.length_cons]; omega, ?_, hb.alloc _⟩
          · have := Hk1.out
            rw [Int.pow_succ] at this
            omega
          · rw [← Hd.out]
            show _ = if 0 < k then _ else _
            rw [if_pos hpos]
        case measure => simp [intOf]; omega
      · have hk : k = 0 := by omega
        subst hk
        have hsz : (⟨#[109]⟩ : ByteArray).size + (⟨out.toArray⟩ : ByteArray).size ≤ 9223372036854775807 := by
          show 1 + out.toArray.size ≤ _
          simp; omega
        go_wp2
        go_ret
        exact RetV.mk (by rw [markStr, if_neg (by omega), ← Hd.out, digsF_zero, ← one_append]; rfl) hb
end Go.Proofs.YtekmfphlccomaaaDoor
