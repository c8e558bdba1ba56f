/- Setting: contracts of the functions that mark (printed by fam.py). Condition: lists of at most 2^20. -/
import Derived.Test.YtekmfphlccomaaaDoorSetFam
namespace Go.Proofs.YtekmfphlccomaaaDoor
open Go.RowKit

def markSet (c : Int) : Set := ⟨markStr (c), markStr (c + 1)⟩
def marksSet (n : Nat) (c : Int) : List Set := (List.range n).map fun i : Nat => markSet (c + 2 * (i : Int))
theorem marksSet_len (n : Nat) (c : Int) : (marksSet n c).length = n := by simp [marksSet]
theorem marksSet_at (n : Nat) (c : Int) (i : Nat) (h : i < n) : (marksSet n c)[i]? = some (markSet (c + 2 * (i : Int))) := by simp [marksSet, h]
def mmixSet (L : List Set) (c : Int) (i : Nat) : List Set := marksSet i c ++ L.drop i
theorem mmixSet_len (L : List Set) (c : Int) (i : Nat) (h : i ≤ L.length) : (mmixSet L c i).length = L.length := by simp [mmixSet, marksSet_len]; omega
theorem mmixSet_zero (L : List Set) (c : Int) : mmixSet L c 0 = L := by simp [mmixSet, marksSet]
theorem mmixSet_full (L : List Set) (c : Int) : mmixSet L c L.length = marksSet L.length c := by simp [mmixSet]
theorem mmixSet_set (L : List Set) (c : Int) (i : Nat) (h : i < L.length) : (mmixSet L c i).set i (markSet (c + 2 * (i : Int))) = mmixSet L c (i + 1) := by
  unfold mmixSet
  rw [List.set_append, if_neg (by simp [marksSet_len]), marksSet_len, Nat.sub_self, List.drop_eq_getElem_cons h, List.set_cons_zero]
  simp [marksSet, List.range_succ]

set_option maxHeartbeats 2000000 in
theorem markSetS_any (base g cap : Nat) (L : List Set) (c : Int) (w : World) (hl : L.length ≤ 1048576) (h0 : 0 ≤ c) (h1 : c ≤ 1000000000000)
    (hown : w.ownsRow base 40 2 (.slice (some ⟨g, 0, none⟩) L.length cap) L.length (L.flatMap encSet)) :
    Calls Tryd.prog 15 #[.slice (some ⟨g, 0, none⟩) L.length cap, .int .i64 c] w (RetMark (c + 2 * (L.length : Int)) (fun w' => w'.ownsRow base 40 2 (.slice (some ⟨g, 0, none⟩) L.length cap) L.length ((marksSet L.length c).flatMap encSet)) (some g) w) := by
  go_enter Tryd.func15, Tryd.ntmps15
  go_wp2
  go_loopw [1, 5] (fun q i wr => ∃ k : Nat, k ≤ L.length ∧ i = .int .i64 k ∧ q = .int .i64 (c + 2 * (k : Int)) ∧ wr.ownsRow base 40 2 (.slice (some ⟨g, 0, none⟩) L.length cap) L.length ((mmixSet L c k).flatMap encSet) ∧ w.grownBy wr (some g)) (fun _ i _ => L.length - (intOf i).toNat)
  case atStart => exact ⟨0, Nat.zero_le _, rfl, by simp, by rw [mmixSet_zero]; exact hown, World.grownBy.refl _ _⟩
  case round =>
    obtain ⟨k, hk, rfl, rfl, hownr, hg⟩ := hrel
    by_cases hlt : k < L.length
    · have hkm : k < (mmixSet L c k).length := by rw [mmixSet_len _ _ _ hk]; exact hlt
      have g0 : wr.cell? ⟨g, k * 2, none⟩ = some _ := owns_at encSet_len hownr k hkm 0 _ rfl
      have g1 : wr.cell? ⟨g, k * 2 + 1, none⟩ = some _ := owns_at encSet_len hownr k hkm 1 _ rfl
      have f0 := hownr.frozenAt
      go_wp2_with fail
      refine (markText_any _ _ (by omega) (by omega)).mono ?_
      rintro e w0 ⟨v0, rfl, rfl, hb0⟩
      have e0 := ownsRow_ext hownr hb0
      clear f0
      skip
      have g0 : w0.cell? ⟨g, k * 2, none⟩ = some _ := owns_at encSet_len e0 k (by first | exact hkm | (simp only [List.length_set]; exact hkm)) 0 _ rfl
      have g1 : w0.cell? ⟨g, k * 2 + 1, none⟩ = some _ := owns_at encSet_len e0 k (by first | exact hkm | (simp only [List.length_set]; exact hkm)) 1 _ rfl
      have f0 := e0.frozenAt
      go_wp2_with fail
      refine (markText_any _ _ (by omega) (by omega)).mono ?_
      rintro e w1 ⟨v1, rfl, rfl, hb1⟩
      have o0 := owns_set encSet_len e0 k 0 (.string (markStr ((c + 2 * (k : Int))))) ⟨(markStr ((c + 2 * (k : Int)))), (mmixSet L c k)[k].text⟩ hkm (by omega) rfl
      have e1 := ownsRow_ext o0 hb1
      clear f0
      skip
      have g1 : w1.cell? ⟨g, k * 2 + 1, none⟩ = some _ := owns_at encSet_len e1 k (by first | exact hkm | (simp only [List.length_set]; exact hkm)) 1 _ rfl
      have f0 := e1.frozenAt
      go_wp2
      go_roundw
      case rel =>
        have o1 := owns_set encSet_len e1 k 1 (.string (markStr ((c + 2 * (k : Int)) + 1))) ⟨(markStr ((c + 2 * (k : Int)))), (markStr ((c + 2 * (k : Int)) + 1))⟩ (by first | exact hkm | (simp only [List.length_set]; exact hkm)) (by omega) (by rw [List.getElem_set_self]; rfl)
        simp only [List.set_set] at o1
        have h3 : _ := o1
        rw [show (⟨(markStr ((c + 2 * (k : Int)))), (markStr ((c + 2 * (k : Int)) + 1))⟩ : Set) = markSet (c + 2 * (k : Int)) from rfl, mmixSet_set L c k hlt] at h3
        refine ⟨k + 1, by omega, by go_num, by go_num, h3, ?_⟩
        repeat (first | exact hg | (refine grown_setCell ?_ _) | (refine grown_ext ?_ (by assumption)))
      case measure => simp [intOf]; omega
    · obtain rfl : k = L.length := by omega
      go_wp2
      go_ret
      rw [mmixSet_full] at hownr
      exact RetMark.mk rfl hownr hg

set_option maxHeartbeats 1000000 in
theorem markSetS_own (base : Nat) (v : Value) (n : Nat) (L : List Set) (c : Int) (w : World) (hn : n = L.length) (hl : n ≤ 1048576) (h0 : 0 ≤ c) (h1 : c ≤ 1000000000000)
    (hown : w.ownsRow base 40 2 v n (L.flatMap encSet)) :
    Calls Tryd.prog 15 #[v, .int .i64 c] w (RetMark (c + 2 * (n : Int)) (fun w' => w'.ownsRow base 40 2 v n ((marksSet n c).flatMap encSet)) v.ownBlock w) := by
  subst hn
  rcases hown.2 with ⟨rfl, hz⟩ | ⟨g, cap, cur, rfl, _⟩
  · have hL : L = [] := List.eq_nil_of_length_eq_zero hz
    subst hL
    go_enter Tryd.func15, Tryd.ntmps15
    go_wp2
    refine wp_loop_rounds 1 ?_
    rw [rounds_succ]
    go_wp2
    go_ret
    exact RetMark.mk rfl hown (World.grownBy.refl _ _) (by simp)
  · exact markSetS_any base g cap L c w hl h0 h1 hown

set_option maxHeartbeats 2000000 in
theorem heldSetS_any (a : Option Addr) (cap n : Nat) (c : Int) (w : World) (hl : n ≤ 1048576) (h0 : 0 ≤ c) (h1 : c ≤ 1000000000000) (hc : Rd 2 encSet w a (marksSet n c)) :
    Calls Tryd.prog 16 #[.slice a n cap, .int .i64 c] w (RetI (c + 2 * (n : Int)) w) := by
  go_enter Tryd.func16, Tryd.ntmps16
  go_wp2
  go_loopw [1, 5] (fun q i wr => ∃ k : Nat, k ≤ n ∧ i = .int .i64 k ∧ q = .int .i64 (c + 2 * (k : Int)) ∧ Ext w wr) (fun _ i _ => n - (intOf i).toNat)
  case atStart => exact ⟨0, Nat.zero_le _, rfl, by simp, Ext.refl _⟩
  case round =>
    obtain ⟨k, hk, rfl, rfl, hb⟩ := hrel
    by_cases hlt : k < n
    · skip
      obtain ⟨x, b, off, hx, rfl, c0, c1⟩ := atSet (hc.ext hb) (show k < (marksSet n c).length by rw [marksSet_len]; exact hlt)
      rw [marksSet_at n c k hlt] at hx
      cases hx
      simp only [markSet] at c0 c1
      go_wp2
      refine wp_region_v 7 (V := fun i v _ => match i with | 0 => v = .slice (some ⟨b, off, none⟩) n cap | 1 => v = .int .i64 k | 2 => v = .pointer (some ⟨b, off + k * 2, none⟩) | 3 => v = .pointer (some ⟨b, off + k * 2, none⟩) | 4 => v = .string (markStr ((c + 2 * (k : Int)))) | 5 => v = .int .i64 ((c + 2 * (k : Int))) | 6 => v = .string (markStr ((c + 2 * (k : Int)))) | _ => True) rfl (by decide) (by kernel_rfl) (by kernel_rfl) (by kernel_rfl) ?_ ?_ ?_
      · intro i v w1 w2 h _; exact h
      · intro i o hi ho vs w2 hvl hE hd
        have cj := cell_ext hE (show (wr).drew.cell? _ = _ from c0)
        match vs, hvl with
        | [x0, x1, x2, x3, x4, x5, x6], _ =>
        rcases (show i = 0 ∨ i = 1 ∨ i = 2 ∨ i = 3 ∨ i = 4 ∨ i = 5 ∨ i = 6 by omega) with rfl | rfl | rfl | rfl | rfl | rfl | rfl
        all_goals
          simp only [List.getElem?_cons_zero, List.getElem?_cons_succ, Option.some.injEq] at ho
          subst ho
          simp [Waits, Region.binds] at hd
          simp [putAll, Act.put, hd]
          go_wp2_with (go_at_call 28; refine (markText_any _ _ (by omega) (by omega)).mono ?_; rintro e w3 ⟨v3, rfl, rfl, hb3⟩)
          first | exact ⟨rfl, _, rfl, rfl, Ext.refl _⟩ | exact ⟨rfl, _, rfl, rfl, hb3⟩
      intro vs w0 hvl hb0 hV
      match vs, hvl with
      | [x0, x1, x2, x3, x4, x5, x6], _ =>
      have h00 := hV 0 (by omega)
      have h10 := hV 1 (by omega)
      have h20 := hV 2 (by omega)
      have h30 := hV 3 (by omega)
      have h40 := hV 4 (by omega)
      have h50 := hV 5 (by omega)
      have h60 := hV 6 (by omega)
      simp at h00 h10 h20 h30 h40 h50 h60
      subst h00 h10 h20 h30 h40 h50 h60
      clear hV
      simp only [putAll, Act.put, List.take_succ_cons, List.take_zero, List.drop_succ_cons, List.drop_zero]
      simp
      replace hb0 : Ext wr w0 := ((Ext.refl wr).drew).trans hb0
      replace c0 := cell_ext hb0 c0
      replace c1 := cell_ext hb0 c1
      replace hb := hb.trans hb0
      go_wp2
      refine wp_region_v 7 (V := fun i v _ => match i with | 0 => v = .slice (some ⟨b, off, none⟩) n cap | 1 => v = .int .i64 k | 2 => v = .pointer (some ⟨b, off + k * 2, none⟩) | 3 => v = .pointer (some ⟨b, off + k * 2 + 1, none⟩) | 4 => v = .string (markStr ((c + 2 * (k : Int)) + 1)) | 5 => v = .int .i64 ((c + 2 * (k : Int)) + 1) | 6 => v = .string (markStr ((c + 2 * (k : Int)) + 1)) | _ => True) rfl (by decide) (by kernel_rfl) (by kernel_rfl) (by kernel_rfl) ?_ ?_ ?_
      · intro i v w1 w2 h _; exact h
      · intro i o hi ho vs w2 hvl hE hd
        have cj := cell_ext hE (show (w0).drew.cell? _ = _ from c1)
        match vs, hvl with
        | [x0, x1, x2, x3, x4, x5, x6], _ =>
        rcases (show i = 0 ∨ i = 1 ∨ i = 2 ∨ i = 3 ∨ i = 4 ∨ i = 5 ∨ i = 6 by omega) with rfl | rfl | rfl | rfl | rfl | rfl | rfl
        all_goals
          simp only [List.getElem?_cons_zero, List.getElem?_cons_succ, Option.some.injEq] at ho
          subst ho
          simp [Waits, Region.binds] at hd
          simp [putAll, Act.put, hd]
          go_wp2_with (go_at_call 28; refine (markText_any _ _ (by omega) (by omega)).mono ?_; rintro e w3 ⟨v3, rfl, rfl, hb3⟩)
          first | exact ⟨rfl, _, rfl, rfl, Ext.refl _⟩ | exact ⟨rfl, _, rfl, rfl, hb3⟩
      intro vs w1 hvl hb1 hV
      match vs, hvl with
      | [x0, x1, x2, x3, x4, x5, x6], _ =>
      have h01 := hV 0 (by omega)
      have h11 := hV 1 (by omega)
      have h21 := hV 2 (by omega)
      have h31 := hV 3 (by omega)
      have h41 := hV 4 (by omega)
      have h51 := hV 5 (by omega)
      have h61 := hV 6 (by omega)
      simp at h01 h11 h21 h31 h41 h51 h61
      subst h01 h11 h21 h31 h41 h51 h61
      clear hV
      simp only [putAll, Act.put, List.take_succ_cons, List.take_zero, List.drop_succ_cons, List.drop_zero]
      simp
      replace hb1 : Ext w0 w1 := ((Ext.refl w0).drew).trans hb1
      replace c1 := cell_ext hb1 c1
      replace hb := hb.trans hb1
      go_wp2
      go_roundw
      case rel => exact ⟨k + 1, by omega, by go_num, by go_num, hb⟩
      case measure => simp [intOf]; omega
    · obtain rfl : k = n := by omega
      go_wp2
      go_ret
      exact RetI.mk rfl hb

end Go.Proofs.YtekmfphlccomaaaDoor
