/- Kernels: contracts of KernelValid. Condition: rows of at most 2^20. -/
import Derived.Test.YtnibbldfohbfkaaTreeV
import Derived.Test.YtnibbldfohbfkaaTreeW
import Derived.Deep.Cut
namespace Go.Proofs.Ytnibbldfohbfkaa
open Go.RowKit

def KerOk (T : List Nd) (r a s g : Int) : Prop := TreeOk T ∧ CredOk r a s g
set_option maxHeartbeats 2000000 in
theorem specKernelValid (at_ : Option Addr) (cap : Nat) (T : List Nd) (r a s g : Int) (w : World) (hl : T.length ≤ 1048576) (hs : ∀ x ∈ T, SmN 1048576 x) (hc : RdN w at_ T) :
    Calls Try.prog 6 #[.agg #[.slice at_ T.length cap, .int .i64 r, .int .i64 a, .int .i64 s, .int .i64 g]] w (RetB (KerOk T r a s g) w) := by
  have HS := Lib.hid hs
  clear hs
  go_enter Try.func6, Try.ntmps6
  have S := Sep.start w
  replace S : Sep w (w.alloc (.cells #[.slice at_ T.length cap, .int .i64 r, .int .i64 a, .int .i64 s, .int .i64 g] 32)) [plBox w.heap.size #[.slice at_ T.length cap, .int .i64 r, .int .i64 a, .int .i64 s, .int .i64 g] 32] := S.alloc_at (by simp) _ _
  go_wp2_with fail
  generalize (w.alloc (.cells #[.slice at_ T.length cap, .int .i64 r, .int .i64 a, .int .i64 s, .int .i64 g] 32)) = w1 at *
  refine (specTreeValid at_ cap T w1 hl HS.out (hc.ext S.ext)).mono ?_
  rintro e w2 ⟨v1, rfl, hv1, hE⟩
  have Hv1 := Lib.hid hv1
  clear hv1
  replace S : Sep w w2 [plBox w.heap.size #[.slice at_ T.length cap, .int .i64 r, .int .i64 a, .int .i64 s, .int .i64 g] 32] := S.step hE
  clear hE
  cases v1 with
  | false =>
    go_wp2
    go_ret
    exact RetB.mk false rfl (by simp only [Bool.false_eq_true, false_iff]; exact fun h => Bool.noConfusion (Hv1.out.2 h.1)) S.ext
  | true =>
    obtain ⟨bc0, bf0⟩ : w2.cell? ⟨w.heap.size, 0, none⟩ = some (.slice at_ T.length cap) ∧ w2.frozen? ⟨w.heap.size, 0, none⟩ = false := bx (S.box 0 rfl) 0 rfl
    obtain ⟨bc1, bf1⟩ : w2.cell? ⟨w.heap.size, 1, none⟩ = some (.int .i64 r) ∧ w2.frozen? ⟨w.heap.size, 1, none⟩ = false := bx (S.box 0 rfl) 1 rfl
    obtain ⟨bc2, bf2⟩ : w2.cell? ⟨w.heap.size, 2, none⟩ = some (.int .i64 a) ∧ w2.frozen? ⟨w.heap.size, 2, none⟩ = false := bx (S.box 0 rfl) 2 rfl
    obtain ⟨bc3, bf3⟩ : w2.cell? ⟨w.heap.size, 3, none⟩ = some (.int .i64 s) ∧ w2.frozen? ⟨w.heap.size, 3, none⟩ = false := bx (S.box 0 rfl) 3 rfl
    obtain ⟨bc4, bf4⟩ : w2.cell? ⟨w.heap.size, 4, none⟩ = some (.int .i64 g) ∧ w2.frozen? ⟨w.heap.size, 4, none⟩ = false := bx (S.box 0 rfl) 4 rfl
    go_wp2_with fail
    refine (specCredValid r a s g w2).mono ?_
    rintro e w3 ⟨v2, rfl, hv2, hE⟩
    have Hv2 := Lib.hid hv2
    clear hv2
    clear bc0 bf0 bc1 bf1 bc2 bf2 bc3 bf3 bc4 bf4
    replace S : Sep w w3 [plBox w.heap.size #[.slice at_ T.length cap, .int .i64 r, .int .i64 a, .int .i64 s, .int .i64 g] 32] := S.step hE
    clear hE
    go_wp2
    go_ret
    exact RetB.mk v2 rfl ⟨fun h => ⟨Hv1.out.1 trivial, Hv2.out.1 h⟩, fun h => Hv2.out.2 h.2⟩ S.ext
set_option maxHeartbeats 2000000 in
theorem implKernelValid (at_ : Option Addr) (cap : Nat) (T : List Nd) (r a s g : Int) (w : World) (hl : T.length ≤ 1048576) (hs : ∀ x ∈ T, SmN 1048576 x) (hc : RdN w at_ T) :
    Calls Try.prog 8 #[.agg #[.slice at_ T.length cap, .int .i64 r, .int .i64 a, .int .i64 s, .int .i64 g]] w (RetB (KerOk T r a s g) w) := by
  have HS := Lib.hid hs
  clear hs
  go_enter Try.func8, Try.ntmps8
  have S := Sep.start w
  replace S : Sep w (w.alloc (.cells #[.slice at_ T.length cap, .int .i64 r, .int .i64 a, .int .i64 s, .int .i64 g] 32)) [plBox w.heap.size #[.slice at_ T.length cap, .int .i64 r, .int .i64 a, .int .i64 s, .int .i64 g] 32] := S.alloc_at (by simp) _ _
  go_wp2_with fail
  generalize (w.alloc (.cells #[.slice at_ T.length cap, .int .i64 r, .int .i64 a, .int .i64 s, .int .i64 g] 32)) = w1 at *
  refine (implTreeValid at_ cap T w1 hl HS.out (hc.ext S.ext)).mono ?_
  rintro e w2 ⟨v1, rfl, hv1, hE⟩
  have Hv1 := Lib.hid hv1
  clear hv1
  replace S : Sep w w2 [plBox w.heap.size #[.slice at_ T.length cap, .int .i64 r, .int .i64 a, .int .i64 s, .int .i64 g] 32] := S.step hE
  clear hE
  cases v1 with
  | false =>
    go_wp2
    go_ret
    exact RetB.mk false rfl (by simp only [Bool.false_eq_true, false_iff]; exact fun h => Bool.noConfusion (Hv1.out.2 h.1)) S.ext
  | true =>
    obtain ⟨bc0, bf0⟩ : w2.cell? ⟨w.heap.size, 0, none⟩ = some (.slice at_ T.length cap) ∧ w2.frozen? ⟨w.heap.size, 0, none⟩ = false := bx (S.box 0 rfl) 0 rfl
    obtain ⟨bc1, bf1⟩ : w2.cell? ⟨w.heap.size, 1, none⟩ = some (.int .i64 r) ∧ w2.frozen? ⟨w.heap.size, 1, none⟩ = false := bx (S.box 0 rfl) 1 rfl
    obtain ⟨bc2, bf2⟩ : w2.cell? ⟨w.heap.size, 2, none⟩ = some (.int .i64 a) ∧ w2.frozen? ⟨w.heap.size, 2, none⟩ = false := bx (S.box 0 rfl) 2 rfl
    obtain ⟨bc3, bf3⟩ : w2.cell? ⟨w.heap.size, 3, none⟩ = some (.int .i64 s) ∧ w2.frozen? ⟨w.heap.size, 3, none⟩ = false := bx (S.box 0 rfl) 3 rfl
    obtain ⟨bc4, bf4⟩ : w2.cell? ⟨w.heap.size, 4, none⟩ = some (.int .i64 g) ∧ w2.frozen? ⟨w.heap.size, 4, none⟩ = false := bx (S.box 0 rfl) 4 rfl
    go_wp2_with fail
    refine (implCredValid r a s g w2).mono ?_
    rintro e w3 ⟨v2, rfl, hv2, hE⟩
    have Hv2 := Lib.hid hv2
    clear hv2
    clear bc0 bf0 bc1 bf1 bc2 bf2 bc3 bf3 bc4 bf4
    replace S : Sep w w3 [plBox w.heap.size #[.slice at_ T.length cap, .int .i64 r, .int .i64 a, .int .i64 s, .int .i64 g] 32] := S.step hE
    clear hE
    go_wp2
    go_ret
    exact RetB.mk v2 rfl ⟨fun h => ⟨Hv1.out.1 trivial, Hv2.out.1 h⟩, fun h => Hv2.out.2 h.2⟩ S.ext
end Go.Proofs.Ytnibbldfohbfkaa
