/- Slices of numbers: slices.Clone; marks, and whether they are there. Condition: lists of at most 2^20 numbers. -/
import Derived.Test.YtpnllhdgpfbaiaaIntS
namespace Go.Proofs.Ytpnllhdgpfbaiaa
open Go.RowKit

set_option maxHeartbeats 1000000 in
theorem cloneInt_any (a : Option Addr) (cap n : Nat) (l : List Int) (w : World) (hn : n = l.length) (hl : l.length ≤ 1048576) (hc : Rd 1 encInt1 w a l) :
    Calls Try.prog 58 #[.slice a n cap] w (RetV (fun v w' => w'.ownsRow w.heap.size 3 1 v l.length (l.flatMap encInt1)) w) := by
  subst hn
  have hq := fun w a n c => Lib.run_eql_slice_nil (P := Try.prog) w 22 3 a n c 0 0 Try.underlying22
  cases a with
  | none =>
    have hnil : l = [] := by
      cases l with
      | nil => rfl
      | cons y l => obtain ⟨b, off, h0, _⟩ := hc 0 (by simp); cases h0
    subst hnil
    go_enter Try.func58, Try.ntmps58
    go_wp2
    go_ret
    exact RetV.mk (World.ownsRow_nil _ _ _ _) (Ext.refl _)
  | some a =>
    go_enter Try.func58, Try.ntmps58
    go_wp2_with (at_builtin; refine wpList_append_rd rfl _ _ 22 rfl w.heap.size 3 _ 1 _ Try.underlying22 infoInt rfl (by decide) encInt1_len encInt1_one _ 0 [] rfl (owns_lit_new [] encInt1_len rfl rfl (by omega) (Nat.le_refl _)) rfl (some a) l.length cap l rfl rfl (hc.ext ((Ext.refl _).alloc _)) (by omega) (by omega) (by simp) ?_)
    intro v' w' hown hg
    go_wp2
    go_ret
    exact RetV.mk hown (((Ext.refl _).alloc _).grown hg (by intro k h; simp [Value.ownBlock] at h; omega))

def marksInt (n : Nat) (c : Int) : List Int := (List.range n).map fun i : Nat => c + (i : Int)
theorem marksInt_len (n : Nat) (c : Int) : (marksInt n c).length = n := by simp [marksInt]
theorem marksInt_at (n : Nat) (c : Int) (i : Nat) (h : i < n) : (marksInt n c)[i]? = some (c + (i : Int)) := by simp [marksInt, h]
def mmixInt (L : List Int) (c : Int) (i : Nat) : List Int := marksInt i c ++ L.drop i
theorem mmixInt_len (L : List Int) (c : Int) (i : Nat) (h : i ≤ L.length) : (mmixInt L c i).length = L.length := by simp [mmixInt, marksInt_len]; omega
theorem mmixInt_zero (L : List Int) (c : Int) : mmixInt L c 0 = L := by simp [mmixInt, marksInt]
theorem mmixInt_full (L : List Int) (c : Int) : mmixInt L c L.length = marksInt L.length c := by simp [mmixInt]
theorem mmixInt_set (L : List Int) (c : Int) (i : Nat) (h : i < L.length) : (mmixInt L c i).set i (c + (i : Int)) = mmixInt L c (i + 1) := by
  unfold mmixInt
  rw [List.set_append, if_neg (by simp [marksInt_len]), marksInt_len, Nat.sub_self, List.drop_eq_getElem_cons h, List.set_cons_zero]
  simp [marksInt, List.range_succ]

set_option maxHeartbeats 2000000 in
theorem markIntS_any (base g cap : Nat) (L : List Int) (c : Int) (w : World) (hl : L.length ≤ 1048576) (h0 : 0 ≤ c) (h1 : c ≤ 1000000000000)
    (hown : w.ownsRow base 3 1 (.slice (some ⟨g, 0, none⟩) L.length cap) L.length (L.flatMap encInt1)) :
    Calls Try.prog 26 #[.slice (some ⟨g, 0, none⟩) L.length cap, .int .i64 c] w (RetMark (c + (L.length : Int)) (fun w' => w'.ownsRow base 3 1 (.slice (some ⟨g, 0, none⟩) L.length cap) L.length ((marksInt L.length c).flatMap encInt1)) (some g) w) := by
  go_enter Try.func26, Try.ntmps26
  go_wp2
  go_loopw [1, 5] (fun q i wr => ∃ k : Nat, k ≤ L.length ∧ i = .int .i64 k ∧ q = .int .i64 (c + (k : Int)) ∧ wr.ownsRow base 3 1 (.slice (some ⟨g, 0, none⟩) L.length cap) L.length ((mmixInt L c k).flatMap encInt1) ∧ w.grownBy wr (some g)) (fun _ i _ => L.length - (intOf i).toNat)
  case atStart => exact ⟨0, Nat.zero_le _, rfl, by simp, by rw [mmixInt_zero]; exact hown, World.grownBy.refl _ _⟩
  case round =>
    obtain ⟨k, hk, rfl, rfl, hownr, hg⟩ := hrel
    by_cases hlt : k < L.length
    · have hkm : k < (mmixInt L c k).length := by rw [mmixInt_len _ _ _ hk]; exact hlt
      have g0 : wr.cell? ⟨g, k, none⟩ = some (.int .i64 (mmixInt L c k)[k]) := by have := owns_at encInt1_len hownr k hkm 0 _ rfl; simpa using this
      have f0 := hownr.frozenAt
      go_wp2
      go_roundw
      case rel =>
        have o0 := owns_set encInt1_len hownr k 0 (.int .i64 (c + (k : Int))) (c + (k : Int)) hkm (by omega) rfl
        rw [mmixInt_set L c k hlt, Nat.mul_one, Nat.add_zero] at o0
        exact ⟨k + 1, by omega, by go_num, by go_num, o0, grown_setCell hg _⟩
      case measure => simp [intOf]; omega
    · obtain rfl : k = L.length := by omega
      go_wp2
      go_ret
      rw [mmixInt_full] at hownr
      exact RetMark.mk rfl hownr hg

set_option maxHeartbeats 1000000 in
theorem markIntS_own (base : Nat) (v : Value) (n : Nat) (L : List Int) (c : Int) (w : World) (hn : n = L.length) (hl : n ≤ 1048576) (h0 : 0 ≤ c) (h1 : c ≤ 1000000000000)
    (hown : w.ownsRow base 3 1 v n (L.flatMap encInt1)) :
    Calls Try.prog 26 #[v, .int .i64 c] w (RetMark (c + (n : Int)) (fun w' => w'.ownsRow base 3 1 v n ((marksInt n c).flatMap encInt1)) v.ownBlock w) := by
  subst hn
  rcases hown.2 with ⟨rfl, hz⟩ | ⟨g, cap, cur, rfl, _⟩
  · have hL : L = [] := List.eq_nil_of_length_eq_zero hz
    subst hL
    go_enter Try.func26, Try.ntmps26
    go_wp2
    refine wp_loop_rounds 1 ?_
    rw [rounds_succ]
    go_wp2
    go_ret
    exact RetMark.mk rfl hown (World.grownBy.refl _ _) (by simp)
  · exact markIntS_any base g cap L c w hl h0 h1 hown

set_option maxHeartbeats 2000000 in
theorem heldIntS_any (a : Option Addr) (cap n : Nat) (c : Int) (w : World) (hl : n ≤ 1048576) (h0 : 0 ≤ c) (h1 : c ≤ 1000000000000) (hc : Rd 1 encInt1 w a (marksInt n c)) :
    Calls Try.prog 27 #[.slice a n cap, .int .i64 c] w (RetI (c + (n : Int)) w) := by
  go_enter Try.func27, Try.ntmps27
  go_wp2
  go_loopw [1, 5] (fun q i wr => ∃ k : Nat, k ≤ n ∧ i = .int .i64 k ∧ q = .int .i64 (c + (k : Int)) ∧ Ext w wr) (fun _ i _ => n - (intOf i).toNat)
  case atStart => exact ⟨0, Nat.zero_le _, rfl, by simp, Ext.refl _⟩
  case round =>
    obtain ⟨k, hk, rfl, rfl, hb⟩ := hrel
    by_cases hlt : k < n
    · obtain ⟨x, b, off, hx, rfl, c0⟩ := atInt (hc.ext hb) (show k < (marksInt n c).length by rw [marksInt_len]; exact hlt)
      rw [marksInt_at n c k hlt] at hx
      cases hx
      go_wp2
      go_roundw
      case rel => exact ⟨k + 1, by omega, by go_num, by go_num, hb⟩
      case measure => simp [intOf]; omega
    · obtain rfl : k = n := by omega
      go_wp2
      go_ret
      exact RetI.mk rfl hb
end Go.Proofs.Ytpnllhdgpfbaiaa
