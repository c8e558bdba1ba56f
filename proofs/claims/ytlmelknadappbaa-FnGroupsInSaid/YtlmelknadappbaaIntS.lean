/- Slices of numbers: contracts of the functions that read, copy and compare them; slices.Index and slices.Contains. Condition: lists shorter than 2^63. -/
import Derived.Test.YtlmelknadappbaaInts
import Derived.Test.YtlmelknadappbaaApp
import Derived.Test.YtlmelknadappbaaDraw
import Derived.Test.YtlmelknadappbaaView
import Derived.Test.YtlmelknadappbaaQuiet
namespace Go.Proofs.Ytlmelknadappbaa
open Go.RowKit

theorem encInt1_len (x : Int) : (encInt1 x).length = 1 := rfl
theorem encInt1_one (x : Int) : ∀ u ∈ encInt1 x, u.oneCell' = true := by simp [encInt1, Value.oneCell']
theorem atInt {w : World} {a : Option Addr} {l : List Int} (h : Rd 1 encInt1 w a l) {k : Nat} (hk : k < l.length) :
    ∃ x b off, l[k]? = some x ∧ a = some ⟨b, off, none⟩ ∧ w.cell? ⟨b, off + k, none⟩ = some (.int .i64 x) := by
  obtain ⟨b, off, ha, hc⟩ := h k hk
  exact ⟨l[k], b, off, List.getElem?_eq_getElem hk, ha, by simpa using hc 0 _ rfl⟩


theorem madeInt (n : Nat) : (madeCells #[Value.int .i64 0] n).toList = (List.replicate n (0 : Int)).flatMap encInt1 := by
  apply List.ext_getElem?
  intro j
  by_cases hj : j < n
  · have h := flatMap_at encInt1_len (List.replicate n (0 : Int)) j 0 (by omega)
    rw [Nat.mul_one, Nat.add_zero] at h
    rw [h]
    simp [madeCells, hj, encInt1, Nat.mod_one]
  · rw [List.getElem?_eq_none (by simp [madeCells]; omega), List.getElem?_eq_none (by rw [flatMap_length encInt1_len]; simp; omega)]
def mixInt (l : List Int) (k : Nat) : List Int := l.take k ++ List.replicate (l.length - k) 0
theorem mixInt_len (l : List Int) (k : Nat) (hk : k ≤ l.length) : (mixInt l k).length = l.length := by simp [mixInt]; omega
theorem mixInt_zero (l : List Int) : mixInt l 0 = List.replicate l.length 0 := by simp [mixInt]
theorem mixInt_full (l : List Int) : mixInt l l.length = l := by simp [mixInt]
theorem mixInt_set (l : List Int) (k : Nat) (x : Int) (hx : l[k]? = some x) : (mixInt l k).set k x = mixInt l (k + 1) := by
  obtain ⟨hk, rfl⟩ := List.getElem?_eq_some_iff.1 hx
  unfold mixInt
  obtain ⟨r, hr⟩ : ∃ r, l.length - k = r + 1 := ⟨l.length - k - 1, by omega⟩
  rw [hr, List.replicate_succ, show l.length - (k + 1) = r by omega, List.set_append, if_neg (by simp; omega), List.take_succ_eq_append_getElem hk, List.length_take, Nat.min_eq_left (Nat.le_of_lt hk), Nat.sub_self, List.set_cons_zero, List.append_assoc]
  rfl


theorem extInt {l m : List Int} (hl : l.length = m.length) (h : ∀ j, j < l.length → l[j]? = m[j]?) : l = m := by
  apply List.ext_getElem?
  intro j
  by_cases hj : j < l.length
  · exact h j hj
  · rw [List.getElem?_eq_none (by omega), List.getElem?_eq_none (by omega)]

set_option maxHeartbeats 2000000 in
theorem eqIntS_any (a a' : Option Addr) (cap cap' : Nat) (l m : List Int) (w : World) (hl : l.length ≤ 9223372036854775807) (hm : m.length ≤ 9223372036854775807) (hc : Rd 1 encInt1 w a l) (hd : Rd 1 encInt1 w a' m) :
    Calls Try.prog 29 #[.slice a l.length cap, .slice a' m.length cap'] w (RetB (l = m) w) := by
  by_cases hlen : l.length = m.length
  · have ht : ((l.length : Int) != (m.length : Int)) = false := by simp; omega
    have Hlen := Lib.hid hlen
    clear hlen
    go_enter Try.func29, Try.ntmps29
    go_wp2
    go_loopw [5] (fun i wr => ∃ k : Nat, k ≤ l.length ∧ i = .int .i64 k ∧ (∀ j, j < k → l[j]? = m[j]?) ∧ Ext w wr) (fun i _ => l.length - (intOf i).toNat)
    case atStart => exact ⟨0, Nat.zero_le _, rfl, fun _ h => absurd h (Nat.not_lt_zero _), Ext.refl _⟩
    case round =>
      obtain ⟨k, hk, rfl, hpre, hb⟩ := hrel
      have Hpre := Lib.hid hpre
      clear hpre
      by_cases hlt : k < l.length
      · have hltm : k < m.length := by have := Hlen.out; omega
        obtain ⟨x, b, off, hx, rfl, c0⟩ := atInt (hc.ext hb) hlt
        obtain ⟨y, b', off', hy, rfl, d0⟩ := atInt (hd.ext hb) hltm
        have Hx := Lib.hid hx
        have Hy := Lib.hid hy
        clear hx hy ht
        by_cases hxy : x = y
        · have txy : (x != y) = false := by simpa using hxy
          have Hxy := Lib.hid hxy
          clear hxy
          go_wp2
          go_quiet (fail)
          go_wp2
          go_roundw
          case rel => exact ⟨k + 1, by omega, by go_num, fun j hj => (Nat.lt_succ_iff_lt_or_eq.1 hj).elim (Hpre.out j) (fun e => by rw [e, Hx.out, Hy.out, Hxy.out]), hb.drewN _⟩
          case measure => simp [intOf]; omega
        · have txy : (x != y) = true := by simpa using hxy
          have Hxy := Lib.hid hxy
          clear hxy
          go_wp2
          go_quiet (fail)
          go_wp2
          go_ret
          exact RetB.mk false rfl (by simp only [Bool.false_eq_true, false_iff]; intro h; subst h; have h1 := Hx.out; rw [Hy.out] at h1; cases h1; exact Hxy.out rfl) (hb.drewN _)
      · go_wp2
        go_ret
        exact RetB.mk true rfl (by simp only [true_iff]; exact extInt Hlen.out (fun j hj => Hpre.out j (by omega))) hb
  · have ht : ((l.length : Int) != (m.length : Int)) = true := by simp; omega
    have Hlen := Lib.hid hlen
    clear hlen
    go_enter Try.func29, Try.ntmps29
    go_wp2
    go_ret
    exact RetB.mk false rfl (by simp only [Bool.false_eq_true, false_iff]; intro h; exact Hlen.out (by rw [h])) (Ext.refl _)

def IdxQ (l : List Int) (x : Int) (r : Int) : Prop := (0 ≤ r ↔ x ∈ l)


end Go.Proofs.Ytlmelknadappbaa
