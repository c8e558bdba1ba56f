/- slices.Repeat of one number, 64 times: its contract. No condition. -/
import Derived.Test.YthajlaelaebmnaaAppB
import Derived.Test.YthajlaelaebmnaaIntS
import Derived.Test.YthajlaelaebmnaaSep
import Derived.Test.YthajlaelaebmnaaOrdC
import Derived.Laws.CopyOwn
import Derived.Deep.Cut
namespace Go.Proofs.Ythajlaelaebmnaa
open Go.RowKit

theorem mul64_any (w : World) : Calls Try.prog 50 #[.int .u64 1, .int .u64 64] w fun e w' => e = .returned (.tuple #[.int .u64 0, .int .u64 64]) ∧ w = w' := by
  go_enter Try.func50, Try.ntmps50
  go_wp2
  go_ret2
  exact ⟨rfl, rfl⟩
theorem mul_any (w : World) : Calls Try.prog 48 #[.int .u64 1, .int .u64 64] w fun e w' => e = .returned (.tuple #[.int .u64 0, .int .u64 64]) ∧ w = w' := by
  go_enter Try.func48, Try.ntmps48
  go_wp2_with (go_at_call 50; refine (mul64_any _).mono ?_; rintro e w' ⟨rfl, rfl⟩)
  go_ret2
  exact ⟨rfl, rfl⟩

def repC (x : Int) (n : Nat) : List Value := List.replicate n (.int .i64 x) ++ List.replicate (64 - n) (.int .i64 0)
theorem repC_len (x : Int) {n : Nat} (h : n ≤ 64) : (repC x n).length = 64 := by simp [repC]; omega
theorem repC_take (x : Int) {n : Nat} (h : n ≤ 64) : (repC x n).take n = List.replicate n (.int .i64 x) := by simp [repC]
theorem repC_at (x : Int) {n j : Nat} (h : j < n) : (repC x n)[j]? = some (.int .i64 x) := by simp [repC, List.getElem?_append, h]
theorem repC_dbl (x : Int) {n : Nat} (h : n + n ≤ 64) : (repC x n).take n ++ (List.replicate n (.int .i64 x) ++ (repC x n).drop (n + n)) = repC x (n + n) := by
  rw [repC_take x (by omega), repC, List.drop_append, List.length_replicate, repC, List.drop_eq_nil_of_le (by simp), List.nil_append, List.drop_replicate, ← List.append_assoc, List.replicate_append_replicate]
  congr 2
  omega
theorem repC_one (x : Int) : ([] : List Value) ++ ([Value.int .i64 x] ++ (List.replicate 64 (Value.int .i64 0)).drop 1) = repC x 1 := by simp [repC]
/-- The doubling's operations. -/
def VRp (g : Nat) (x : Int) (n : Nat) : Nat → Value → World → Prop := fun i v wv => match i with
  | 0 => v = .int .i64 n
  | 1 => v = .slice (some ⟨g, 0, none⟩) 64 64
  | 2 => v = .int .i64 n
  | 3 => v = .slice (some ⟨g, n, none⟩) (64 - n) (64 - n)
  | 4 => v = .slice (some ⟨g, 0, none⟩) 64 64
  | 5 => v = .int .i64 n
  | 6 => v = .slice (some ⟨g, 0, none⟩) n 64
  | 7 => v = .int .i64 n ∧ wv.heap[g]? = some (.cells (repC x (n + n)).toArray 3 (0, 0))
  | 8 => v = .int .i64 (n + n)
  | 9 => wv.heap[g]? = some (.cells (repC x n).toArray 3 (0, 0))
  | _ => True
theorem VRp.ext {g : Nat} {x : Int} {n : Nat} (i : Nat) (v : Value) (w w' : World) (h : VRp g x n i v w) (hE : Ext w w') : VRp g x n i v w' := by
  match i with
  | 0 | 1 | 2 | 3 | 4 | 5 | 6 | 8 => exact h
  | 7 => exact ⟨h.1, by rw [hE.block g (Array.getElem?_eq_some_iff.1 h.2).1]; exact h.2⟩
  | 9 => exact (hE.block g (Array.getElem?_eq_some_iff.1 (show w.heap[g]? = _ from h)).1).trans h
  | (n + 10) => trivial

set_option maxHeartbeats 4000000 in
theorem repeat_any (b off cap : Nat) (x : Int) (w : World) (hc : w.cell? ⟨b, off, none⟩ = some (.int .i64 x)) :
    Calls Try.prog 45 #[.slice (some ⟨b, off, none⟩) 1 cap, .int .i64 64] w (RetV (fun v w' => v = .slice (some ⟨w.heap.size, 0, none⟩) 64 64 ∧ w'.heap[w.heap.size]? = some (.cells (repC x 64).toArray 3 (0, 0))) w) := by
  obtain ⟨i0, hi, hz0, hz1, hz2⟩ := info_parts infoInt
  have hinfo : (Try.prog.info? 3).map (·.size) = some 1 := by rw [hi]; simp [hz1]
  go_enter Try.func45, Try.ntmps45
  go_wp2_with (first | (go_at_call 48; refine (mul_any _).mono ?_; rintro e w' ⟨rfl, rfl⟩) | (at_make; refine wpList_make_full _ rfl _ _ 57 rfl w.heap.size 3 i0 _ 1 Try.underlying57 hi hz0 hz1 _ _ _ _ 64 rfl rfl rfl rfl ?b1 ?b2 ?b3 ?_))
  case b1 => rw [hz2]; omega
  case b2 => unfold maxLen; omega
  case b3 => exact Nat.le_refl _
  intro w1 hown1 hgr1
  have hE1 := ext_of_grown hgr1
  obtain ⟨cur, hg, hcur⟩ : ∃ cur, w1.heap[w.heap.size]? = some (.cells cur 3 (0, 0)) ∧ cur.toList = List.replicate 64 (.int .i64 0) := by
    rcases hown1.2 with ⟨h, _⟩ | ⟨g, c, cur, h, _, hg, _, _, hs, ht⟩
    · cases h
    · simp only [Value.slice.injEq, Option.some.injEq, Addr.mk.injEq, and_true, true_and] at h
      obtain ⟨rfl, rfl⟩ := h
      refine ⟨cur, hg, ?_⟩
      rw [List.take_of_length_le (by simp; omega)] at ht
      rw [ht, madeInt]
      simp [encInt1]
  have hcx := cell_ext hE1 hc
  obtain rfl : cur = (List.replicate 64 (Value.int .i64 0)).toArray := by rw [← hcur]
  obtain ⟨Z, hZ⟩ : ∃ Z, Z = List.replicate 64 (Value.int .i64 0) := ⟨_, rfl⟩
  rw [← hZ] at hg
  have HZ := Lib.hid hZ
  have HG := Lib.hid hg
  have HC := Lib.hid hcx
  have hsrc : ∀ (j : Nat) (v : Value), [Value.int .i64 x][j]? = some v → w1.cell? ((⟨b, off, none⟩ : Addr).add j) = some v := fun j v hj => by
    match j, hj with
    | 0, hj => cases hj; exact HC.out
    | (n + 1), hj => simp at hj
  have Hsrc := Lib.hid hsrc
  clear hgr1 hown1 hcur hg hcx hsrc hZ
  go_wp2_with (with_reducible refine wpList_copy_splice rfl (.tmp 31) (.tmp 32) _ _ rfl 3 Try.underlying57 hinfo (some ⟨w.heap.size, 0, none⟩) (some ⟨b, off, none⟩) 64 64 1 cap rfl rfl w.heap.size 0 Z 3 HG.out [.int .i64 x] rfl (fun _ => ⟨rfl, _, rfl, Hsrc.out⟩) (by rw [HZ.out]; simp) (by simp [Value.oneCell']) w.heap.size w hE1 (Nat.le_refl _) ?_)
  intro w2 H2 hE2
  have H2' : Hid (w2.heap[w.heap.size]? = some (.cells (repC x 1).toArray 3 (0, 0))) := Lib.hid (by have := H2.out; rw [show splice Z 0 [.int .i64 x] = repC x 1 by rw [HZ.out]; simp [splice, repC]] at this; exact this)
  clear H2 HG HC
  go_wp2
  go_loopw [8] (fun i wr => ∃ n : Nat, (n = 1 ∨ n = 2 ∨ n = 4 ∨ n = 8 ∨ n = 16 ∨ n = 32 ∨ n = 64) ∧ i = .int .i64 n ∧ Hid (wr.heap[w.heap.size]? = some (.cells (repC x n).toArray 3 (0, 0))) ∧ Ext w wr) (fun i _ => 64 - (intOf i).toNat)
  case atStart => exact ⟨1, by omega, rfl, H2', hE2⟩
  case round =>
    obtain ⟨n, hn, rfl, HH, hb⟩ := hrel
    by_cases hlt : n < 64
    · have h2 : n + n ≤ 64 := by omega
      have h1 : 1 ≤ n := by omega
      have hn2 : (n + n = 1 ∨ n + n = 2 ∨ n + n = 4 ∨ n + n = 8 ∨ n + n = 16 ∨ n + n = 32 ∨ n + n = 64) := by omega
      have i1 : (n : Int) < 64 := by omega
      have hr0 : wr.drew.heap[w.heap.size]? = some (.cells (repC x n).toArray 3 (0, 0)) := HH.out
      clear hn H2' hE1 hE2
      go_upto_region 9 with fail
      refine wp_region_c (V := VRp w.heap.size x n) (Ext w) (fun i => if i = 9 then some 7 else none) [] 9 1 rfl (by decide) (by kernel_rfl) (by kernel_rfl) (by kernel_rfl) (by kernel_rfl) (hb.drew) (fun r hr => match r, hr with | 0, _ => hr0) ?_ ?_
      · intro i o hi ho vs w4 hvl hE hd hrest
        match vs, hvl with
        | [y0, y1, y2, y3, y4, y5, y6, y7, y8], _ =>
        rcases (show i = 0 ∨ i = 1 ∨ i = 2 ∨ i = 3 ∨ i = 4 ∨ i = 5 ∨ i = 6 ∨ i = 7 ∨ i = 8 by omega) with rfl | rfl | rfl | rfl | rfl | rfl | rfl | rfl | rfl
        all_goals
          simp only [List.getElem?_cons_zero, List.getElem?_cons_succ, Option.some.injEq] at ho
          subst ho
        · clear hd hrest hr0
          simp [putAll, Act.put]
          go_wp2
          exact OneC.mk VRp.ext rfl rfl hE (Ext.refl _)
        · clear hd hrest hr0
          simp [putAll, Act.put]
          go_wp2
          exact OneC.mk VRp.ext rfl rfl hE (Ext.refl _)
        · clear hd hrest hr0
          simp [putAll, Act.put]
          go_wp2
          exact OneC.mk VRp.ext rfl rfl hE (Ext.refl _)
        · have q1 : y1 = .slice (some ⟨w.heap.size, 0, none⟩) 64 64 := hd ⟨1, .data⟩ (by simp) rfl (by decide)
          have q2 : y2 = .int .i64 n := hd ⟨2, .data⟩ (by simp) rfl (by decide)
          clear hd hrest hr0
          subst q1 q2
          have hne : ¬ n = 64 := by omega
          simp [putAll, Act.put]
          go_wp2
          exact OneC.mk VRp.ext rfl rfl hE (Ext.refl _)
        · clear hd hrest hr0
          simp [putAll, Act.put]
          go_wp2
          exact OneC.mk VRp.ext rfl rfl hE (Ext.refl _)
        · clear hd hrest hr0
          simp [putAll, Act.put]
          go_wp2
          exact OneC.mk VRp.ext rfl rfl hE (Ext.refl _)
        · have q4 : y4 = .slice (some ⟨w.heap.size, 0, none⟩) 64 64 := hd ⟨4, .data⟩ (by simp) rfl (by decide)
          have q5 : y5 = .int .i64 n := hd ⟨5, .data⟩ (by simp) rfl (by decide)
          clear hd hrest hr0
          subst q4 q5
          simp [putAll, Act.put]
          go_wp2
          exact OneC.mk VRp.ext rfl rfl hE (Ext.refl _)
        · have q3 : y3 = .slice (some ⟨w.heap.size, n, none⟩) (64 - n) (64 - n) := hd ⟨3, .data⟩ (by simp) rfl (by decide)
          have q6 : y6 = .slice (some ⟨w.heap.size, 0, none⟩) n 64 := hd ⟨6, .data⟩ (by simp) rfl (by decide)
          have hb0 : w4.heap[w.heap.size]? = some (.cells (repC x n).toArray 3 (0, 0)) := hrest 0 (by omega) (.inr rfl)
          have hsr : ∀ (j : Nat) (v : Value), (List.replicate n (Value.int .i64 x))[j]? = some v → w4.cell? ((⟨w.heap.size, 0, none⟩ : Addr).add j) = some v := fun j v hj => by
            have hjn : j < n := by have := (List.getElem?_eq_some_iff.1 hj).1; simpa using this
            have hv : v = .int .i64 x := by rw [List.getElem?_replicate, if_pos hjn] at hj; exact (Option.some.inj hj).symm
            rw [Addr.add_lit]
            simp only [World.cell?, hb0, Nat.zero_add, hv]
            simpa using repC_at x hjn
          clear hd hrest hr0
          subst q3 q6
          simp [putAll, Act.put]
          refine wpList_copy_splice rfl _ _ _ _ rfl 3 Try.underlying57 hinfo (some ⟨w.heap.size, n, none⟩) (some ⟨w.heap.size, 0, none⟩) (64 - n) (64 - n) n 64 rfl rfl w.heap.size n (repC x n) 3 hb0 (List.replicate n (.int .i64 x)) (by rw [List.length_replicate]; exact (Nat.min_eq_left (by omega)).symm) (fun _ => ⟨rfl, _, rfl, hsr⟩) (by rw [repC_len x (by omega), List.length_replicate]; omega) (by simp [Value.oneCell']) w.heap.size w hE (Nat.le_refl _) ?_
          intro w5 H5 hE5
          have h9 : w5.heap[w.heap.size]? = some (.cells (repC x (n + n)).toArray 3 (0, 0)) := by
            have := H5.out
            rw [show splice (repC x n) n (List.replicate n (Value.int .i64 x)) = repC x (n + n) by rw [← repC_dbl x h2]; simp [splice]] at this
            exact this
          have H9 := Lib.hid h9
          clear h9 H5 hb0
          go_wp2
          refine ⟨rfl, _, rfl, ⟨?_, H9.out⟩, hE5, fun i u hi hne hcon hnd hnc hv => ?_⟩
          · simp [goInt]
          match i with
          | 0 | 1 | 2 | 3 | 4 | 5 | 6 | 8 => exact hv
          | 7 => exact absurd rfl hne
          | 9 => exact absurd rfl hcon
          | (n + 10) => trivial
        · have q0 : y0 = .int .i64 n := hd ⟨0, .data⟩ (by simp) rfl (by decide)
          have q7 : y7 = .int .i64 n := (hd ⟨7, .data⟩ (by simp) rfl (by decide)).1
          clear hd hrest hr0
          subst q0 q7
          simp [putAll, Act.put]
          go_wp2
          exact OneC.mk VRp.ext rfl rfl hE (Ext.refl _)
      intro vs w4 hvl hE hV _
      match vs, hvl with
      | [y0, y1, y2, y3, y4, y5, y6, y7, y8], _ =>
      have h7 := Lib.hid (hV 7 (by omega) rfl).2
      have h8 : y8 = .int .i64 (n + n) := hV 8 (by omega) rfl
      clear hV hr0
      subst h8
      simp only [putAll, Act.put, List.take_succ_cons, List.take_zero, List.drop_succ_cons, List.drop_zero]
      simp
      go_wp2
      go_roundw
      case rel => exact ⟨n + n, hn2, by go_num, h7, hE⟩
      case measure => simp [intOf]; omega
    · obtain rfl : n = 64 := by omega
      go_wp2
      go_ret
      exact RetV.mk ⟨rfl, HH.out⟩ hb
end Go.Proofs.Ythajlaelaebmnaa
