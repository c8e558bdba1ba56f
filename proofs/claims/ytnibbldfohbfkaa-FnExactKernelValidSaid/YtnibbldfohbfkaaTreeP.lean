/- Trees: when they are valid, in plain words. No condition. -/
import Derived.Test.YtnibbldfohbfkaaLinks
namespace Go.Proofs.Ytnibbldfohbfkaa
open Go.RowKit

def DownOk (T : List Nd) (k : Nat) (x : Int) : Prop := ∀ m, T[x.toNat]? = some m → m.fold = true → (k : Int) < x
def LkOk (T : List Nd) (k : Nat) (n : Nd) : Prop := 1 ≤ (kids T).count (k : Int) ∧ (n.fold = true → (kids T).count (k : Int) ≤ 1)
structure TreeOk (T : List Nd) : Prop where
  pos : 1 ≤ T.length
  max : T.length ≤ 16
  root : ∀ n, T[0]? = some n → n.fold = true
  nodes : ∀ (k : Nat) n, T[k]? = some n → NodeOk n T.length
  down : ∀ (k : Nat) n, T[k]? = some n → ∀ x ∈ n.K, DownOk T k x
  links : ∀ (k : Nat) n, T[k]? = some n → 0 < k → LkOk T k n
theorem all_next {α : Type} {T : List α} {Q : Nat → α → Prop} {k : Nat} {x : α} (h : ∀ (j : Nat) n, j < k → T[j]? = some n → Q j n) (hx : T[k]? = some x) (hk : Q k x) : ∀ (j : Nat) n, j < k + 1 → T[j]? = some n → Q j n := fun j n hj hn => by
  rcases Nat.lt_succ_iff_lt_or_eq.1 hj with h' | rfl
  · exact h j n h' hn
  · rw [hx] at hn; cases hn; exact hk
theorem all_mem {l : List Int} {Q : Int → Prop} (h : ∀ (j : Nat) x, j < l.length → l[j]? = some x → Q x) : ∀ x ∈ l, Q x := fun x hx => by
  obtain ⟨j, hj⟩ := List.getElem?_of_mem hx
  exact h j x (List.getElem?_eq_some_iff.1 hj).1 hj
theorem mem_kids {T : List Nd} {x : Int} (h : x ∈ kids T) : ∃ (k : Nat) (n : Nd), T[k]? = some n ∧ x ∈ n.K := by
  obtain ⟨n, hn, hx⟩ := List.mem_flatMap.1 h
  obtain ⟨k, hk⟩ := List.getElem?_of_mem hn
  exact ⟨k, n, hk, hx⟩
theorem nodeOk_kid {n : Nd} {many : Nat} (h : NodeOk n many) {x : Int} (hx : x ∈ n.K) : inB x 1 ((many : Int) - 1) = true := (nodeOk_iff.1 h).2 x hx
theorem linkOk_of {T : List Nd} (h16 : T.length ≤ 16) (h : ∀ (k : Nat) n, T[k]? = some n → NodeOk n T.length) : LinkOk T := ⟨h16, fun x hx => by
  obtain ⟨k, n, hn, hx⟩ := mem_kids hx
  have := inB_iff.1 (nodeOk_kid (h k n hn) hx)
  exact inB_iff.2 ⟨by omega, this.2⟩⟩
theorem tree_link {T : List Nd} (h : TreeOk T) : LinkOk T := linkOk_of h.max h.nodes
theorem tree_zero {T : List Nd} (h : TreeOk T) : (kids T).count (0 : Int) = 0 := List.count_eq_zero.2 (fun hm => by
  obtain ⟨k, n, hn, hx⟩ := mem_kids hm
  have := inB_iff.1 (nodeOk_kid (h.nodes k n hn) hx)
  omega)
theorem tree_of {T : List Nd} (hL : LinkOk T) (h1 : 1 ≤ T.length) (hr : ∀ n, T[0]? = some n → n.fold = true) (h0 : (kids T).count (0 : Int) = 0) (h : ∀ (k : Nat) n, k < T.length → T[k]? = some n → NodeI n ∧ (0 < k → LkOk T k n) ∧ ∀ x ∈ n.K, DownOk T k x) : TreeOk T where
  pos := h1
  max := hL.1
  root := hr
  nodes k n hn := nodeOk_iff.2 ⟨(h k n (List.getElem?_eq_some_iff.1 hn).1 hn).1, fun x hx => by
    have hm := kids_mem hn hx
    have h2 := inB_iff.1 (hL.2 x hm)
    have h3 : x ≠ 0 := fun e => by
      subst e
      exact List.count_eq_zero.1 h0 hm
    exact inB_iff.2 ⟨by omega, h2.2⟩⟩
  down k n hn := (h k n (List.getElem?_eq_some_iff.1 hn).1 hn).2.2
  links k n hn hk := (h k n (List.getElem?_eq_some_iff.1 hn).1 hn).2.1 hk
theorem tree_spec {T : List Nd} (h1 : 1 ≤ T.length) (h16 : T.length ≤ 16) (hr : ∀ n, T[0]? = some n → n.fold = true) (h : ∀ (k : Nat) n, k < T.length → T[k]? = some n → NodeOk n T.length ∧ ∀ x ∈ n.K, DownOk T k x) (hl : ∀ (k : Nat) n, k < T.length → T[k]? = some n → 0 < k → LkOk T k n) : TreeOk T where
  pos := h1
  max := h16
  root := hr
  nodes k n hn := (h k n (List.getElem?_eq_some_iff.1 hn).1 hn).1
  down k n hn := (h k n (List.getElem?_eq_some_iff.1 hn).1 hn).2
  links k n hn hk := hl k n (List.getElem?_eq_some_iff.1 hn).1 hn hk
theorem in_cast1 {x : Int} {M : Nat} (h : inB x 1 ((M : Int) - 1) = true) : ∃ i : Nat, x = (i : Int) ∧ i < M := by
  have := inB_iff.1 h
  exact ⟨x.toNat, by omega, by omega⟩
theorem down_file {T : List Nd} {k i : Nat} {z : Nd} (hz : T[i]? = some z) (hf : z.fold = false) : DownOk T k (i : Int) := fun m hm h => by
  rw [Int.toNat_natCast, hz] at hm; cases hm
  exact Bool.noConfusion (hf.symm.trans h)
theorem down_bad {T : List Nd} {k i : Nat} {z : Nd} (hz : T[i]? = some z) (hf : z.fold = true) (h : i ≤ k) : ¬ DownOk T k (i : Int) := fun hd => by
  have := hd z (by rw [Int.toNat_natCast]; exact hz) hf
  omega
theorem down_good {T : List Nd} {k i : Nat} (h : k < i) : DownOk T k (i : Int) := fun m hm hf => by omega
end Go.Proofs.Ytnibbldfohbfkaa
