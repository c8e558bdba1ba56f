/- What the laws' draws stand on: contracts of l20Open, pick and odd, and of alive. No condition but small sizes. -/
import Derived.Test.YtpnllhdgpfbaiaaDraw
import Derived.Test.YtpnllhdgpfbaiaaQuiet
import Derived.Test.YtpnllhdgpfbaiaaInts
namespace Go.Proofs.Ytpnllhdgpfbaiaa
open Go.RowKit

def OpenQ (w : World) (v : Value) (w' : World) : Prop := v = .pointer (some ⟨w.heap.size, 0, none⟩) ∧ Src w.heap.size 0 w'

set_option maxHeartbeats 1000000 in
theorem open_any (a : Option Addr) (cap : Nat) (l : List Int) (w : World) (hl : l.length ≤ 9223372036854775807) (hcap : l.length ≤ cap) (hu : ∀ x ∈ l, 0 ≤ x ∧ x ≤ 255) (hc : Rd 1 encU8 w a l) :
    Calls Try.prog 52 #[.slice a l.length cap] w (RetV (OpenQ w) w) := by
  have hblk : l ≠ [] → ∀ b off, a = some ⟨b, off, none⟩ → b < w.heap.size := by
    intro hne b off ha
    obtain ⟨b', off', ha', hcc⟩ := hc 0 (List.length_pos_iff.2 hne)
    rw [ha] at ha'; cases ha'
    exact World.block_lt_of_cell? w _ (hcc 0 _ rfl)
  go_enter Try.func52, Try.ntmps52
  by_cases hbig : 2000 < l.length
  · have h2 : (2000 : Int) < (l.length : Int) := by omega
    have h3 : 2000 ≤ cap := by omega
    have h4 : (2000 : Int) ≤ (cap : Int) := by omega
    go_wp2
    go_ret
    refine RetV.mk ⟨rfl, a, cap, l.take 2000, 0, ?_, by omega, by omega, by rw [List.length_take]; omega, fun x hx => hu x (List.mem_of_mem_take hx), ((hc.ext ((Ext.refl w).alloc _)).take 2000), fun hne b off ha => hblk (by intro e; subst e; simp at hne) b off ha⟩ ((Ext.refl w).alloc _)
    rw [heap_alloc_new, List.length_take, Nat.min_eq_left (by omega)]
  · have h2 : (l.length : Int) ≤ 2000 := by omega
    go_wp2
    go_ret
    exact RetV.mk ⟨rfl, a, cap, l, 0, heap_alloc_new _ _, by omega, by omega, by omega, hu, hc.ext ((Ext.refl w).alloc _), hblk⟩ ((Ext.refl w).alloc _)

theorem xor_i64 (a b : Nat) (ha : a < 4611686018427387904) (hb : b < 4611686018427387904) : bits .xor .i64 (a : Int) (b : Int) = ((a ^^^ b : Nat) : Int) := by
  have hx : a ^^^ b < 2 ^ 62 := Nat.xor_lt_two_pow (by omega) (by omega)
  have h1 : (BitVec.ofInt 64 (a : Int)).toNat = a := by
    rw [BitVec.ofInt_natCast, BitVec.toNat_ofNat]; exact Nat.mod_eq_of_lt (by omega)
  have h2 : (BitVec.ofInt 64 (b : Int)).toNat = b := by
    rw [BitVec.ofInt_natCast, BitVec.toNat_ofNat]; exact Nat.mod_eq_of_lt (by omega)
  show IntKind.i64.wrap ((BitVec.ofInt 64 (a : Int) ^^^ BitVec.ofInt 64 (b : Int)).toNat : Int) = _
  rw [BitVec.toNat_xor, h1, h2]
  exact IntWalk.i64_in _ (by omega)

/-- A number below n. -/
def PickQ (n : Int) (v : Value) (_ : World) : Prop := ∃ x : Int, v = .int .i64 x ∧ 0 ≤ x ∧ (1 ≤ n → x < n) ∧ (n < 1 → x = 0)

set_option maxHeartbeats 4000000 in
theorem pick_any (g : Nat) (P n : Int) (w : World) (hs : Src g P w) (hP : P ≤ 1000000) :
    Calls Try.prog 60 #[.pointer (some ⟨g, 0, none⟩), .int .i64 n] w (RetD g P 1 (PickQ n) w) := by
  have hs0 := hs
  obtain ⟨ab, cb, l, p, hg, h0, h1, h2, h3, h4, h5⟩ := hs
  have f1 : w.frozen? ⟨g, 1, none⟩ = false := by simp [World.frozen?, hg]
  have c0 : w.cell? ⟨g, 0, none⟩ = some (.slice ab l.length cb) := by simp [World.cell?, hg]
  have c1 : w.cell? ⟨g, 1, none⟩ = some (.int .i64 p) := by simp [World.cell?, hg]
  have hS : Step g w (w.setCell ⟨g, 1, none⟩ (.int .i64 (p + 1))) := grown_setCell (Step.refl g w) _
  have hg' : (w.setCell ⟨g, 1, none⟩ (.int .i64 (p + 1))).heap[g]? = some (.cells #[.slice ab l.length cb, .int .i64 (p + 1)] 70 (0, 0)) := by
    simp [World.setCell, Array.getElem?_modify, hg]
  have hrd : Rd 1 encU8 (w.setCell ⟨g, 1, none⟩ (.int .i64 (p + 1))) ab l := h4.step hS (fun hne b off ha => by have := h5 hne b off ha; omega)
  have hsrc : Src g (P + 1) (w.setCell ⟨g, 1, none⟩ (.int .i64 (p + 1))) := ⟨ab, cb, l, p + 1, hg', by omega, by omega, h2, h3, hrd, h5⟩
  have w1 : IntKind.i64.wrap (p + 1) = p + 1 := IntWalk.i64_in _ (by omega)
  go_enter Try.func60, Try.ntmps60
  have d0 : (w.setCell ⟨g, 1, none⟩ (.int .i64 (p + 1))).cell? ⟨g, 0, none⟩ = some (.slice ab l.length cb) := by simp [World.cell?, hg']
  have d1 : (w.setCell ⟨g, 1, none⟩ (.int .i64 (p + 1))).cell? ⟨g, 1, none⟩ = some (.int .i64 (p + 1)) := by simp [World.cell?, hg']
  by_cases hn : n < 1
  · go_wp2
    go_ret
    exact RetD.mk ⟨0, rfl, by omega, fun h => by omega, fun _ => rfl⟩ hsrc (by omega) hS
  · by_cases hz : l.length = 0
    · go_wp2
      go_ret
      exact RetD.mk ⟨0, rfl, by omega, fun h => by omega, fun _ => rfl⟩ hsrc (by omega) hS
    · have hn1 : 1 ≤ n := by omega
      have hnn : n ≠ 0 := by omega
      have hz0 : (l.length : Int) ≠ 0 := by omega
      obtain ⟨m, rfl⟩ : ∃ m : Nat, p = m := ⟨p.toNat, by omega⟩
      have w2 : IntKind.i64.wrap ((m : Int) + 1 - 1) = (m : Int) := by rw [show (m : Int) + 1 - 1 = m by omega]; exact IntWalk.i64_in _ (by omega)
      by_cases hm : m < l.length
      · obtain ⟨b, off, rfl, hcell⟩ := hrd m hm
        have e0 : (w.setCell ⟨g, 1, none⟩ (.int .i64 ((m : Int) + 1))).cell? ⟨b, off + m, none⟩ = some (.int .u8 l[m]) := by simpa using hcell 0 _ rfl
        clear hcell
        obtain ⟨x0, x1⟩ := h3 l[m] (List.getElem_mem hm)
        have i0 : (0 : Int) ≤ (m : Int) := by omega
        have i1 : (m : Int) < (l.length : Int) := by omega
        go_wp2
        go_ret
        exact RetD.mk ⟨l[m] % n, rfl, Int.emod_nonneg _ hnn, fun _ => Int.emod_lt_of_pos _ (by omega), fun h => by omega⟩ hsrc (by omega) hS
      · have hlm : (l.length : Int) ≤ (m : Int) := by omega
        have hlz : (0 : Int) < (l.length : Int) := by omega
        obtain ⟨j1, k1, t1⟩ : ∃ j : Nat, j < l.length ∧ (m : Int) % (l.length : Int) = (j : Int) := ⟨m % l.length, Nat.mod_lt _ (by omega), by push_cast; rfl⟩
        obtain ⟨j2, k2, t2⟩ : ∃ j : Nat, j < l.length ∧ ((m : Int) * 7 + 3) % (l.length : Int) = (j : Int) := ⟨(m * 7 + 3) % l.length, Nat.mod_lt _ (by omega), by push_cast; rfl⟩
        obtain ⟨b, off, rfl, hcell⟩ := hrd j1 k1
        obtain ⟨b', off', hb', hcell'⟩ := hrd j2 k2
        obtain ⟨rfl, rfl⟩ : b = b' ∧ off = off' := by simpa using hb'
        have e0 : (w.setCell ⟨g, 1, none⟩ (.int .i64 ((m : Int) + 1))).cell? ⟨b, off + j1, none⟩ = some (.int .u8 l[j1]) := by simpa using hcell 0 _ rfl
        have e1 : (w.setCell ⟨g, 1, none⟩ (.int .i64 ((m : Int) + 1))).cell? ⟨b, off + j2, none⟩ = some (.int .u8 l[j2]) := by simpa using hcell' 0 _ rfl
        obtain ⟨x0, x1⟩ := h3 l[j1] (List.getElem_mem k1)
        obtain ⟨y0, y1⟩ := h3 l[j2] (List.getElem_mem k2)
        generalize l[j1] = x at *
        generalize l[j2] = y at *
        clear hcell hcell' hb'
        have t3 : (m : Int).tmod (l.length : Int) = (j1 : Int) := by rw [Int.tmod_eq_emod_of_nonneg (by omega)]; exact t1
        have t4 : ((m : Int) * 7 + 3).tmod (l.length : Int) = (j2 : Int) := by rw [Int.tmod_eq_emod_of_nonneg (by omega)]; exact t2
        obtain ⟨d, hd, t5⟩ : ∃ d : Nat, d ≤ m ∧ (m : Int) / (l.length : Int) = (d : Int) := ⟨m / l.length, Nat.div_le_self _ _, by push_cast; rfl⟩
        have t6 : (m : Int).tdiv (l.length : Int) = (d : Int) := by rw [Int.tdiv_eq_ediv_of_nonneg (by omega)]; exact t5
        have k3 : (j1 : Int) < (l.length : Int) := by omega
        have k4 : (j2 : Int) < (l.length : Int) := by omega
        have k5 : (0 : Int) ≤ (j1 : Int) := by omega
        have k6 : (0 : Int) ≤ (j2 : Int) := by omega
        have u1 : IntKind.i64.wrap ((m : Int) * 7) = (m : Int) * 7 := IntWalk.i64_in _ (by omega)
        have u2 : IntKind.i64.wrap ((m : Int) * 7 + 3) = (m : Int) * 7 + 3 := IntWalk.i64_in _ (by omega)
        go_wp2
        clear hg' c0 c1 f1 hg
        generalize (w.setCell ⟨g, 1, none⟩ (.int .i64 ((m : Int) + 1))) = wr at *
        have q0 := ExtW.cell d0
        have q1 := ExtW.cell e0
        have q2 := ExtW.cell e1
        have b1 := ExtW.lt d0
        have b2 := ExtW.lt e0
        clear d0 d1 e0 e1
        (refine wp_region_quiet_ext (by kernel_rfl) (by kernel_rfl) ?_; (repeat (go_big_quiet_step (fail))); refine wpQuiet_nil ?_; intro _ hw'; obtain ⟨sq, hw''⟩ := hw'; subst hw'')
        obtain ⟨w4, hw4⟩ := sq
        go_wp2
        obtain ⟨z, hz1⟩ : ∃ z : Nat, x * 131 + y * 1117 + (m : Int) * 29 + (d : Int) * 53 = z := ⟨(x * 131 + y * 1117 + (m : Int) * 29 + (d : Int) * 53).toNat, by omega⟩
        have hzb : z < 1000000000 := by omega
        have hx := xor_i64 z (z / 64) (by omega) (by omega)
        go_ret
        refine RetD.mk ⟨(((z ^^^ (z / 64) : Nat) : Int)).tmod n, ?_, ?_, fun _ => ?_, fun h => by omega⟩ (hsrc.ext hw4) (by omega) (hS.ext hw4)
        · have e : bits .xor .i64 (x * 131 + y * 1117 + (m : Int) * 29 + (d : Int) * 53) ((x * 131 + y * 1117 + (m : Int) * 29 + (d : Int) * 53) / 64) = ((z ^^^ (z / 64) : Nat) : Int) := by
            rw [hz1, ← hx]
            congr 1
          exact congrArg (fun q : Int => Value.int .i64 (q.tmod n)) e
        · rw [Int.tmod_eq_emod_of_nonneg (by omega)]; exact Int.emod_nonneg _ hnn
        · rw [Int.tmod_eq_emod_of_nonneg (by omega)]; exact Int.emod_lt_of_pos _ (by omega)

def OddQ (n : Int) (v : Value) (_ : World) : Prop := ∃ b : Bool, v = .bool b ∧ (n ≤ 0 → b = false)
set_option maxHeartbeats 1000000 in
theorem odd_any (g : Nat) (P n : Int) (w : World) (hs : Src g P w) (hP : P ≤ 1000000) (hn : n ≤ 1000000) :
    Calls Try.prog 63 #[.pointer (some ⟨g, 0, none⟩), .int .i64 n] w (RetD g P 1 (OddQ n) w) := by
  go_enter Try.func63, Try.ntmps63
  by_cases h0 : 0 < n
  · go_wp2_with fail
    refine (pick_any g P n w hs hP).mono ?_
    rintro e w1 ⟨v, rfl, ⟨x, rfl, hx0, hx1, hx2⟩, hs1, hS⟩
    go_wp2
    go_ret
    exact RetD.mk ⟨_, rfl, fun h => by omega⟩ hs1 (by omega) hS
  · go_wp2
    go_ret
    exact RetD.mk ⟨_, rfl, fun h => rfl⟩ hs (by omega) (Step.refl _ _)
end Go.Proofs.Ytpnllhdgpfbaiaa
