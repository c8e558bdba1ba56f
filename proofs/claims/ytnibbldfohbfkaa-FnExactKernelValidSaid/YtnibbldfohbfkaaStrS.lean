/- Slices of texts: contracts of the functions that count, copy and compare them. Condition: lists and texts shorter than 2^63. -/
import Derived.Test.YtnibbldfohbfkaaIntS
namespace Go.Proofs.Ytnibbldfohbfkaa
open Go.RowKit

theorem infoStr : (Try.prog.info? 9).map (fun i => (i.zero, i.size, i.bytes)) = some (some (.string ByteArray.empty), 1, 16) := by kernel_rfl
theorem encStr1_len (x : ByteArray) : (encStr1 x).length = 1 := rfl
theorem encStr1_one (x : ByteArray) : ∀ u ∈ encStr1 x, u.oneCell' = true := by simp [encStr1, Value.oneCell']
theorem atStr {w : World} {a : Option Addr} {l : List ByteArray} (h : Rd 1 encStr1 w a l) {k : Nat} (hk : k < l.length) :
    ∃ x b off, l[k]? = some x ∧ a = some ⟨b, off, none⟩ ∧ w.cell? ⟨b, off + k, none⟩ = some (.string x) := by
  obtain ⟨b, off, ha, hc⟩ := h k hk
  exact ⟨l[k], b, off, List.getElem?_eq_getElem hk, ha, by simpa using hc 0 _ rfl⟩

set_option maxHeartbeats 1000000 in
theorem szStr_any (a : Option Addr) (cap : Nat) (l : List ByteArray) (left : Int) (w : World) (h0 : 0 ≤ left) (h1 : left ≤ 1048576) (hl : l.length ≤ 9223372036854775807) (hs : ∀ x ∈ l, x.size ≤ 9223372036854775807) (hc : Rd 1 encStr1 w a l) :
    Calls Try.prog 36 #[.slice a l.length cap, .int .i64 left] w (RetSz left (fun _ => l.length ≤ 1048576 ∧ ∀ x ∈ l, x.size ≤ 1048576) w) := by
  by_cases h : left - l.length < 0
  · go_enter Try.func36, Try.ntmps36
    go_wp2
    go_ret
    exact RetSz.mk rfl (by omega) (by omega) (by omega) (Ext.refl _)
  · go_enter Try.func36, Try.ntmps36
    go_wp2
    go_loopw [1, 5] (fun q i wr => ∃ (k : Nat) (r : Int), k ≤ l.length ∧ i = .int .i64 k ∧ q = .int .i64 r ∧ 0 ≤ r ∧ r ≤ left ∧ (∀ j, j < k → ∀ x, l[j]? = some x → x.size ≤ 1048576) ∧ Ext w wr) (fun _ i _ => l.length - (intOf i).toNat)
    case atStart => exact ⟨0, left - l.length, Nat.zero_le _, rfl, rfl, by omega, by omega, fun _ h => absurd h (Nat.not_lt_zero _), Ext.refl _⟩
    case round =>
      obtain ⟨k, r, hk, rfl, rfl, hr0, hr1, hpre, hb⟩ := hrel
      have Hpre := Lib.hid hpre
      clear hpre
      have Hs := Lib.hid hs
      clear hs
      by_cases hlt : k < l.length
      · obtain ⟨x, b, off, hx, rfl, c0⟩ := atStr (hc.ext hb) hlt
        have hsx := Hs.out x (List.mem_of_getElem? hx)
        have Hx := Lib.hid hx
        have i0 : (k : Int) < (l.length : Int) := by omega
        clear hx
        by_cases hneg : r - (x.size : Int) < 0
        · go_wp2
          go_ret
          exact RetSz.mk rfl (by omega) (by omega) (by omega) hb
        · go_wp2
          go_roundw
          case rel => exact ⟨k + 1, r - (x.size : Int), by omega, by go_num, rfl, by omega, by omega, fun j hj y hy => (Nat.lt_succ_iff_lt_or_eq.1 hj).elim (fun h => Hpre.out j h y hy) (fun e => by subst e; rw [Hx.out] at hy; cases hy; omega), hb⟩
          case measure => simp [intOf]; omega
      · go_wp2
        go_ret
        exact RetSz.mk rfl (by omega) (by omega) (fun _ => ⟨by omega, fun x hx => by obtain ⟨j, hj⟩ := List.getElem?_of_mem hx; exact Hpre.out j (by have := (List.getElem?_eq_some_iff.1 hj).1; omega) x hj⟩) hb

theorem madeStr (n : Nat) : (madeCells #[Value.string ByteArray.empty] n).toList = (List.replicate n ByteArray.empty).flatMap encStr1 := by
  apply List.ext_getElem?
  intro j
  by_cases hj : j < n
  · have h := flatMap_at encStr1_len (List.replicate n ByteArray.empty) j 0 (by omega)
    rw [Nat.mul_one, Nat.add_zero] at h
    rw [h]
    simp [madeCells, hj, encStr1, Nat.mod_one]
  · rw [List.getElem?_eq_none (by simp [madeCells]; omega), List.getElem?_eq_none (by rw [flatMap_length encStr1_len]; simp; omega)]
def mixStr (l : List ByteArray) (k : Nat) : List ByteArray := l.take k ++ List.replicate (l.length - k) ByteArray.empty
theorem mixStr_len (l : List ByteArray) (k : Nat) (hk : k ≤ l.length) : (mixStr l k).length = l.length := by simp [mixStr]; omega
theorem mixStr_zero (l : List ByteArray) : mixStr l 0 = List.replicate l.length ByteArray.empty := by simp [mixStr]
theorem mixStr_full (l : List ByteArray) : mixStr l l.length = l := by simp [mixStr]
theorem mixStr_set (l : List ByteArray) (k : Nat) (x : ByteArray) (hx : l[k]? = some x) : (mixStr l k).set k x = mixStr l (k + 1) := by
  obtain ⟨hk, rfl⟩ := List.getElem?_eq_some_iff.1 hx
  unfold mixStr
  obtain ⟨r, hr⟩ : ∃ r, l.length - k = r + 1 := ⟨l.length - k - 1, by omega⟩
  rw [hr, List.replicate_succ, show l.length - (k + 1) = r by omega, List.set_append, if_neg (by simp; omega), List.take_succ_eq_append_getElem hk, List.length_take, Nat.min_eq_left (Nat.le_of_lt hk), Nat.sub_self, List.set_cons_zero, List.append_assoc]
  rfl

set_option maxHeartbeats 1000000 in
theorem toStr_any (a : Option Addr) (cap : Nat) (l : List ByteArray) (w : World) (hl : l.length ≤ 1048576) (hc : Rd 1 encStr1 w a l) :
    Calls Try.prog 39 #[.slice a l.length cap] w (RetV (fun v w' => w'.ownsRow w.heap.size 9 1 v l.length (l.flatMap encStr1) ∧ v = .slice (some ⟨w.heap.size, 0, none⟩) l.length l.length) w) := by
  obtain ⟨i0, hi, hz0, hz1, hz2⟩ := info_parts infoStr
  go_enter Try.func39, Try.ntmps39
  go_wp2_with (at_make; refine wpList_make_full _ rfl _ _ 52 rfl w.heap.size 9 i0 _ 1 Try.underlying52 hi hz0 hz1 _ _ _ _ l.length rfl rfl rfl rfl ?b1 ?b2 ?b3 ?_)
  case b1 => rw [hz2]; omega
  case b2 => unfold maxLen; omega
  case b3 => exact Nat.le_refl _
  intro w1 hown1 hgr1
  have hE := ext_of_grown hgr1
  clear hgr1
  go_wp2
  go_loopw [4] (fun i wr => ∃ k : Nat, k ≤ l.length ∧ i = .int .i64 k ∧ wr.ownsRow w.heap.size 9 1 (.slice (some ⟨w.heap.size, 0, none⟩) l.length l.length) l.length ((mixStr l k).flatMap encStr1) ∧ Ext w wr) (fun i _ => l.length - (intOf i).toNat)
  case atStart => exact ⟨0, Nat.zero_le _, rfl, by rw [mixStr_zero, ← madeStr]; exact hown1, hE⟩
  case round =>
    obtain ⟨k, hk, rfl, hown, hb⟩ := hrel
    clear hown1 hE
    by_cases hlt : k < l.length
    · obtain ⟨x, b, off, hx, rfl, c0⟩ := atStr (hc.ext hb) hlt
      have Hx := Lib.hid hx
      clear hx
      have hkm : k < (mixStr l k).length := by rw [mixStr_len _ _ hk]; exact hlt
      have g0 : wr.cell? ⟨w.heap.size, k, none⟩ = some (.string (mixStr l k)[k]) := by simpa using owns_at encStr1_len hown k hkm 0 _ rfl
      have f0 := hown.frozenAt
      have h3 := owns_put encStr1_len hown k x hkm
      rw [mixStr_set l k x Hx.out] at h3
      have H3 := Lib.hid h3
      have HE := Lib.hid (Ext.setCells (Nat.le_refl _) (encStr1 x) (k * 1) hb)
      clear h3
      go_wp2
      go_roundw
      case rel => exact ⟨k + 1, by omega, by go_num, by simpa [setCells, encStr1] using H3.out, by simpa [setCells, encStr1] using HE.out⟩
      case measure => simp [intOf]; omega
    · obtain rfl : k = l.length := by omega
      rw [mixStr_full] at hown
      go_wp2
      go_ret
      exact RetV.mk ⟨hown, rfl⟩ hb

theorem extStr {l m : List ByteArray} (hl : l.length = m.length) (h : ∀ j, j < l.length → l[j]? = m[j]?) : l = m := by
  apply List.ext_getElem?
  intro j
  by_cases hj : j < l.length
  · exact h j hj
  · rw [List.getElem?_eq_none (by omega), List.getElem?_eq_none (by omega)]

set_option maxHeartbeats 2000000 in
theorem eqStr_any (a a' : Option Addr) (cap cap' : Nat) (l m : List ByteArray) (w : World) (hl : l.length ≤ 9223372036854775807) (hm : m.length ≤ 9223372036854775807) (hc : Rd 1 encStr1 w a l) (hd : Rd 1 encStr1 w a' m) :
    Calls Try.prog 43 #[.slice a l.length cap, .slice a' m.length cap'] w (RetB (l = m) w) := by
  by_cases hlen : l.length = m.length
  · have ht : ((l.length : Int) != (m.length : Int)) = false := by simp; omega
    have Hlen := Lib.hid hlen
    clear hlen
    go_enter Try.func43, Try.ntmps43
    go_wp2
    go_loopw [5] (fun i wr => ∃ k : Nat, k ≤ l.length ∧ i = .int .i64 k ∧ (∀ j, j < k → l[j]? = m[j]?) ∧ Ext w wr) (fun i _ => l.length - (intOf i).toNat)
    case atStart => exact ⟨0, Nat.zero_le _, rfl, fun _ h => absurd h (Nat.not_lt_zero _), Ext.refl _⟩
    case round =>
      obtain ⟨k, hk, rfl, hpre, hb⟩ := hrel
      have Hpre := Lib.hid hpre
      clear hpre
      by_cases hlt : k < l.length
      · have hltm : k < m.length := by have := Hlen.out; omega
        obtain ⟨x, b, off, hx, rfl, c0⟩ := atStr (hc.ext hb) hlt
        obtain ⟨y, b', off', hy, rfl, d0⟩ := atStr (hd.ext hb) hltm
        have Hx := Lib.hid hx
        have Hy := Lib.hid hy
        clear hx hy ht
        by_cases hxy : x = y
        · have txy : (x.toList == y.toList) = true := by simpa [bytes_eq] using hxy
          have Hxy := Lib.hid hxy
          clear hxy
          go_wp2
          go_quiet (fail)
          go_wp2
          go_roundw
          case rel => exact ⟨k + 1, by omega, by go_num, fun j hj => (Nat.lt_succ_iff_lt_or_eq.1 hj).elim (Hpre.out j) (fun e => by rw [e, Hx.out, Hy.out, Hxy.out]), hb.drewN _⟩
          case measure => simp [intOf]; omega
        · have txy : (x.toList == y.toList) = false := by simpa [bytes_eq] using hxy
          have Hxy := Lib.hid hxy
          clear hxy
          go_wp2
          go_quiet (fail)
          go_wp2
          go_ret
          exact RetB.mk false rfl (by simp only [Bool.false_eq_true, false_iff]; intro h; subst h; have h1 := Hx.out; rw [Hy.out] at h1; cases h1; exact Hxy.out rfl) (hb.drewN _)
      · go_wp2
        go_ret
        exact RetB.mk true rfl (by simp only [true_iff]; exact extStr Hlen.out (fun j hj => Hpre.out j (by omega))) hb
  · have ht : ((l.length : Int) != (m.length : Int)) = true := by simp; omega
    have Hlen := Lib.hid hlen
    clear hlen
    go_enter Try.func43, Try.ntmps43
    go_wp2
    go_ret
    exact RetB.mk false rfl (by simp only [Bool.false_eq_true, false_iff]; intro h; exact Hlen.out (by rw [h])) (Ext.refl _)

end Go.Proofs.Ytnibbldfohbfkaa
