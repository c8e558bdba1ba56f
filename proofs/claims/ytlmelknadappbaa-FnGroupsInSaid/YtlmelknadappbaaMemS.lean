/- NewSession, JoinGroup: the place of a process. Condition: lists shorter than 2^63. -/
import Derived.Test.YtlmelknadappbaaMemV
namespace Go.Proofs.Ytlmelknadappbaa
open Go.RowKit

/-- r is the first place at which T holds, or -1. -/
def FirstAt {α : Type} (T : α → Prop) (l : List α) (r : Int) : Prop :=
  -1 ≤ r ∧ r < l.length ∧ (∀ (j : Nat) x, (j : Int) < r → l[j]? = some x → ¬ T x) ∧ (0 ≤ r → ∃ x, l[r.toNat]? = some x ∧ T x) ∧ (r < 0 → ∀ (j : Nat) x, l[j]? = some x → ¬ T x)
theorem first_unique {α : Type} {T : α → Prop} {l : List α} {r s : Int} (h : FirstAt T l r) (k : FirstAt T l s) : r = s := by
  obtain ⟨h1, h2, h3, h4, h5⟩ := h
  obtain ⟨k1, k2, k3, k4, k5⟩ := k
  rcases Int.lt_or_le r 0 with hr | hr
  · rcases Int.lt_or_le s 0 with hs | hs
    · omega
    · obtain ⟨x, hx, ht⟩ := k4 hs
      exact absurd ht (h5 hr _ x hx)
  · obtain ⟨x, hx, ht⟩ := h4 hr
    rcases Int.lt_or_le s 0 with hs | hs
    · exact absurd ht (k5 hs _ x hx)
    · obtain ⟨y, hy, hu⟩ := k4 hs
      rcases Int.lt_trichotomy r s with h | h | h
      · exact absurd ht (k3 _ x (by omega) hx)
      · exact h
      · exact absurd hu (h3 _ y (by omega) hy)
theorem owns_cap {w : World} {base e nf : Nat} {a : Option Addr} {n cap : Nat} {xs : List Value} (h : w.ownsRow base e nf (.slice a n cap) n xs) : n ≤ cap := by
  rcases h.2 with ⟨h1, h2⟩ | ⟨g, cap', cur, hv, _, _, h1, _⟩
  · omega
  · simp only [Value.slice.injEq] at hv
    omega
/-- It returns a number that fits R; the world has only grown. -/
def RetN (R : Int → Prop) (w : World) (e : Ending) (w' : World) : Prop := ∃ n, e = .returned (.int .i64 n) ∧ R n ∧ Ext w w'
theorem RetN.mk {R : Int → Prop} {w w' : World} {v : Value} (n : Int) (hv : v = .int .i64 n) (h : R n) (hw : Ext w w') : RetN R w (.returned v) w' := ⟨n, by rw [hv], h, hw⟩

set_option maxHeartbeats 1000000 in
theorem specPlace (a : Option Addr) (cap : Nat) (l : List Mem) (n : Int) (w : World) (hl : l.length ≤ 9223372036854775807) (hc : Rd 3 encMem w a l) :
    Calls Try.prog 43 #[.slice a l.length cap, .int .i64 n] w (RetN (FirstAt (fun x : Mem => x.num = n) l) w) := by
  go_enter Try.func43, Try.ntmps43
  go_wp2
  go_loopw [5] (fun i wr => ∃ k : Nat, k ≤ l.length ∧ i = .int .i64 k ∧ (∀ (j : Nat) x, j < k → l[j]? = some x → x.num ≠ n) ∧ Ext w wr) (fun i _ => l.length - (intOf i).toNat)
  case atStart => exact ⟨0, Nat.zero_le _, rfl, fun _ _ h => absurd h (Nat.not_lt_zero _), Ext.refl _⟩
  case round =>
    obtain ⟨k, hk, rfl, hpre, hb⟩ := hrel
    have Hpre := Lib.hid hpre
    clear hpre
    by_cases hlt : k < l.length
    · obtain ⟨x, b, off, hx, rfl, c0, c1, c2⟩ := atMem (hc.ext hb) hlt
      have Hx := Lib.hid hx
      clear hx
      by_cases hn : x.num = n
      · have tn : (x.num == n) = true := by simpa using hn
        have Hn := Lib.hid hn
        clear hn
        go_wp2
        go_ret
        exact RetN.mk _ rfl ⟨by omega, by omega, fun j y hj hy => Hpre.out j y (by omega) hy, fun _ => ⟨x, Hx.out, Hn.out⟩, fun h => absurd h (by omega)⟩ hb
      · have tn : (x.num == n) = false := by simpa using hn
        have Hn := Lib.hid hn
        clear hn
        go_wp2
        go_roundw
        case rel =>
          refine ⟨k + 1, by omega, by go_num, fun j y hj hy => ?_, hb⟩
          rcases Nat.lt_succ_iff_lt_or_eq.1 hj with h' | rfl
          · exact Hpre.out j y h' hy
          · have h1 := Hx.out
            rw [hy] at h1; cases h1
            exact Hn.out
        case measure => simp [intOf]; omega
    · go_wp2
      go_ret
      have hlen : ∀ j y, l[j]? = some y → j < k := fun j y hy => by have := (List.getElem?_eq_some_iff.1 hy).1; omega
      exact RetN.mk _ rfl ⟨by omega, by omega, fun j y hj hy => absurd hj (by omega), fun h => absurd h (by omega), fun _ j y hy => Hpre.out j y (hlen j y hy) hy⟩ hb

set_option maxHeartbeats 1000000 in
theorem memIs_any (n : Int) (c : Nat) (x : Mem) (w : World) (m0 : w.cell? ⟨c, 0, none⟩ = some (.int .i64 n)) :
    Calls Try.prog 54 #[.agg #[.int .i64 x.num, .int .i64 x.grp, .int .i64 x.ses], .pointer (some ⟨c, 0, none⟩)] w (RetB (x.num = n) w) := by
  have hc := World.block_lt_of_cell? w ⟨c, 0, none⟩ m0
  have hne : c ≠ w.heap.size := Nat.ne_of_lt hc
  have hne' : w.heap.size ≠ c := Ne.symm hne
  go_enter Try.func54, Try.ntmps54
  go_wp2
  go_ret
  exact RetB.mk (x.num == n) (by simp) (by simp) ((Ext.refl _).alloc _)
theorem memIs_call (args : Array Value) (w : World) : (callFunc 54 args).run Try.prog w = .ok (.enter 54 args) w := by
  simp [go_sem]

set_option maxHeartbeats 1000000 in
theorem implPlace (a : Option Addr) (cap : Nat) (l : List Mem) (n : Int) (w : World) (hl : l.length ≤ 9223372036854775807) (hc : Rd 3 encMem w a l) :
    Calls Try.prog 45 #[.slice a l.length cap, .int .i64 n] w (RetN (FirstAt (fun x : Mem => x.num = n) l) w) := by
  go_enter Try.func45, Try.ntmps45
  go_wp2_with fail
  have n0 : (w.alloc (.cells #[.int .i64 n] 3)).cell? ⟨w.heap.size, 0, none⟩ = some (.int .i64 n) := by simp
  have hE := (Ext.refl w).alloc (.cells #[.int .i64 n] 3)
  generalize (w.alloc (.cells #[.int .i64 n] 3)) = wa at *
  have hfn : ∀ (p : Mem) w', Ext wa w' → Calls Try.prog 54 (#[.agg #[.int .i64 p.num, .int .i64 p.grp, .int .i64 p.ses]] ++ #[.pointer (some ⟨w.heap.size, 0, none⟩)]) w' (RetB (p.num = n) w') := fun p w' hw' => by
    rw [app1]
    exact memIs_any n w.heap.size p w' (cell_ext hw' n0)
  have hrk := hc.ext hE
  (with_reducible refine (idxMem_fn a _ _ l wa 54 #[.pointer (some ⟨w.heap.size, 0, none⟩)] (fun p => p.num = n) rfl hl hrk memIs_call hfn).mono ?_)
  rintro e w2 ⟨v, rfl, ⟨r, rfl, hr⟩, hb2⟩
  have Hr := Lib.hid hr
  clear hr hfn hrk
  go_wp2
  go_ret
  exact RetN.mk _ rfl Hr.out (hE.trans hb2)
end Go.Proofs.Ytlmelknadappbaa
