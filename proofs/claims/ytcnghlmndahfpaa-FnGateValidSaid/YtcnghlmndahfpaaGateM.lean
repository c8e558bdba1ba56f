/- Gates marked and held: contracts. Condition: queues of at most 2^20. -/
import Derived.Test.YtcnghlmndahfpaaGateH
import Derived.Test.YtcnghlmndahfpaaGateL1
import Derived.Test.YtcnghlmndahfpaaSep
namespace Go.Proofs.Ytcnghlmndahfpaa
open Go.RowKit

theorem entR_len {f : Int} {l : List Int} {who f' n : Int} {L : List Int} (h : EntR f l who f' L n) (hl : l.length ≤ 1048576) : L.length ≤ 1048576 := by
  rcases h with ⟨_, _, rfl, _⟩ | ⟨c, ⟨_, _, rfl, _⟩ | ⟨_, _, _, rfl, _⟩ | ⟨_, _, _, rfl, _⟩⟩
  · simp
  · exact hl
  · exact hl
  · have := c.1.2.2.1
    simp; omega
theorem leaR_len {f : Int} {l : List Int} {f' n : Int} {L : List Int} (h : LeaR f l f' L n) (hl : l.length ≤ 1048576) : L.length ≤ 1048576 := by
  rcases h with ⟨_, _, rfl, _⟩ | ⟨_, ⟨x, t, rfl, _, rfl, _⟩ | ⟨_, _, _, rfl, _⟩ | ⟨_, _, _, rfl, _⟩⟩
  · simp
  · simp only [List.length_cons] at hl; omega
  · simp
  · simp

theorem markGate_own (f : Int) (v : Value) (L : List Int) (c : Int) (w : World) (hl : L.length ≤ 1048576) (h0 : 0 ≤ c) (h1 : c ≤ 1000000000000) (ho : (plRow 3 1 encInt1 v L).ok w) :
    Calls Try.prog 18 #[.agg #[.int .i64 f, v], .int .i64 c] w (RetMark (c + (L.length : Int)) (fun w' => w'.ownsRow 0 3 1 v (marksInt L.length c).length ((marksInt L.length c).flatMap encInt1)) v.ownBlock w) := by
  obtain ⟨a, cap, rfl, _, _, _⟩ := view_owns encInt1_len ho
  have hn : w.heap.size ≠ w.heap.size + 1 := by omega
  have E := (Ext.refl w).alloc (.cells #[.int .i64 f, .slice a L.length cap] 27)
  go_enter Try.func18, Try.ntmps18
  go_wp2_with fail
  refine (markIntS_own 0 _ L.length L c _ rfl hl h0 h1 (ownsRow_ext ho E)).mono ?_
  rintro e w1 ⟨rfl, hq, hg⟩
  have HQ := Lib.hid hq
  clear hq
  go_wp2
  go_ret
  refine RetMark.mk rfl (by rw [marksInt_len]; exact HQ.out) (grown_trans (grown_of_ext E _) hg)

theorem heldGate_any (f : Int) (a : Option Addr) (cap n : Nat) (c : Int) (w : World) (hl : n ≤ 1048576) (h0 : 0 ≤ c) (h1 : c ≤ 1000000000000) (hc : Rd 1 encInt1 w a (marksInt n c)) :
    Calls Try.prog 19 #[.agg #[.int .i64 f, .slice a n cap], .int .i64 c] w (RetI (c + (n : Int)) w) := by
  have E := (Ext.refl w).alloc (.cells #[.int .i64 f, .slice a n cap] 27)
  go_enter Try.func19, Try.ntmps19
  go_wp2_with fail
  refine (heldIntS_any a cap n c _ hl h0 h1 (hc.ext E)).mono ?_
  rintro e w1 ⟨rfl, hE⟩
  go_wp2
  go_ret
  exact RetI.mk rfl (E.trans hE)
end Go.Proofs.Ytcnghlmndahfpaa
