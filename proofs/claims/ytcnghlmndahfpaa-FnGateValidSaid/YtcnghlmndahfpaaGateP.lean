/- FnEnterGate and FnLeaveGate: the walks. Condition: the code is shorter than 2^63. -/
import Derived.Test.YtcnghlmndahfpaaDrawGat2
import Derived.Test.YtcnghlmndahfpaaSameI
import Derived.Test.YtcnghlmndahfpaaAlive
namespace Go.Proofs.Ytcnghlmndahfpaa
open Go.RowKit

set_option maxHeartbeats 1000000 in
theorem sameGate_any (f f' : Int) (a a' : Option Addr) (cap cap' : Nat) (l m : List Int) (w : World) (hl : l.length ≤ 9223372036854775807) (hm : m.length ≤ 9223372036854775807) (hc : Rd 1 encInt1 w a l) (hd : Rd 1 encInt1 w a' m) :
    Calls Try.prog 23 #[.agg #[.int .i64 f, .slice a l.length cap], .agg #[.int .i64 f', .slice a' m.length cap']] w (RetB (f = f' ∧ l = m) w) := by
  have E := ((Ext.refl w).alloc (.cells #[.int .i64 f, .slice a l.length cap] 27)).alloc (.cells #[.int .i64 f', .slice a' m.length cap'] 27)
  by_cases hf : f = f'
  · have tf : (f == f') = true := by simpa using hf
    have Hf := Lib.hid hf
    clear hf
    go_enter Try.func23, Try.ntmps23
    go_wp2_with fail
    refine (sameInts_any a a' cap cap' l m _ hl hm (hc.ext E) (hd.ext E)).mono ?_
    rintro e w1 ⟨b, rfl, hb, hE⟩
    have Hb := Lib.hid hb
    clear hb
    go_wp2
    go_ret
    exact RetB.mk b rfl (Hb.out.trans ⟨fun h => ⟨Hf.out, h⟩, fun h => h.2⟩) (E.trans hE)
  · have tf : (f == f') = false := by simpa using hf
    have Hf := Lib.hid hf
    clear hf
    go_enter Try.func23, Try.ntmps23
    go_wp2
    go_ret
    exact RetB.mk false rfl ⟨fun h => Bool.noConfusion h, fun h => absurd h.1 Hf.out⟩ E

/-- The gate is valid behind both. -/
theorem entR_ok {f : Int} {l : List Int} {who f' : Int} {L : List Int} {n : Int} (h : EntR f l who f' L n) : (n = 1 ∧ GateOk f' L ∧ f' = f - 1 ∧ L = [] ∧ 0 ≤ f ∧ f ≤ 9) ∨ (n = 0 ∧ GateOk f' L ∧ f' = 0 ∧ L = l ++ [who]) ∨ (n = -1 ∧ ((f' = f ∧ L = l) ∨ (f' = 0 ∧ L = []))) := by
  rcases h with ⟨_, rfl, rfl, rfl⟩ | ⟨⟨c, hw1, hw2⟩, ⟨h1, rfl, rfl, rfl⟩ | ⟨h1, h2, rfl, rfl, rfl⟩ | ⟨h1, h2, rfl, rfl, rfl⟩⟩
  · exact .inr (.inr ⟨rfl, .inr ⟨rfl, rfl⟩⟩)
  · obtain ⟨c1, c2, c3, c4⟩ := c
    have hl0 : L = [] := List.eq_nil_of_length_eq_zero (by omega)
    exact .inl ⟨rfl, ⟨c1, by omega, c3, .inr (by omega)⟩, rfl, hl0, by omega, by omega⟩
  · exact .inr (.inr ⟨rfl, .inl ⟨rfl, rfl⟩⟩)
  · obtain ⟨c1, c2, c3, c4⟩ := c
    have hw : who ∉ l := fun h => h2 (.inl h)
    have h8 : l.length ≠ 8 := fun h => h2 (.inr h)
    obtain rfl : f' = 0 := by omega
    refine .inr (.inl ⟨rfl, ⟨fun k hk x hx => ?_, by omega, by simp; omega, .inl rfl⟩, rfl, rfl⟩)
    rcases Nat.lt_or_ge k l.length with hkl | hkl
    · rw [List.getElem?_append_left hkl] at hx
      obtain ⟨x1, x2⟩ := c1 k hkl x hx
      exact ⟨x1, by rw [List.take_append_of_le_length (by omega)]; exact x2⟩
    · obtain rfl : k = l.length := by simp at hk; omega
      obtain rfl : who = x := by simpa using hx
      refine ⟨⟨hw1, hw2⟩, by rw [List.take_left']; exact hw; rfl⟩
theorem leaR_ok {f : Int} {l : List Int} {f' : Int} {L : List Int} {n : Int} (h : LeaR f l f' L n) : (1 ≤ n ∧ GateOk f' L ∧ f' = 0 ∧ l = n :: L) ∨ (n = 0 ∧ GateOk f' L ∧ f' = f + 1 ∧ l = [] ∧ 0 ≤ f ∧ f ≤ 9) ∨ (n = -1 ∧ ((f' = f ∧ L = l) ∨ (f' = 0 ∧ L = []))) := by
  rcases h with ⟨_, rfl, rfl, rfl⟩ | ⟨c, ⟨x, t, rfl, rfl, rfl, rfl⟩ | ⟨rfl, d, rfl, rfl, rfl⟩ | ⟨rfl, d, rfl, rfl, rfl⟩⟩
  · exact .inr (.inr ⟨rfl, .inr ⟨rfl, rfl⟩⟩)
  · obtain ⟨c1, c2, c3, c4⟩ := c
    have hx := (c1 0 (by simp) n (by simp)).1
    have hf : f' = 0 := by simpa using c4
    subst hf
    refine .inl ⟨hx.1, ⟨fun k hk x hx2 => ?_, c2, by simp at c3; omega, .inl rfl⟩, rfl, rfl⟩
    obtain ⟨y1, y2⟩ := c1 (k + 1) (by simpa using hk) x (by simpa using hx2)
    refine ⟨y1, fun hm => y2 ?_⟩
    rw [List.take_succ_cons]
    exact List.mem_cons_of_mem _ hm
  · exact .inr (.inr ⟨rfl, .inl ⟨rfl, rfl⟩⟩)
  · obtain ⟨c1, c2, c3, c4⟩ := c
    exact .inr (.inl ⟨rfl, ⟨fun k hk => by simp at hk, by omega, by simp, .inr rfl⟩, rfl, rfl, c2.1, c2.2⟩)

set_option maxRecDepth 10000 in
set_option maxHeartbeats 8000000 in
theorem fnEnterGate_any (ac : Option Addr) (capc : Nat) (code : List Int) (w : World) (hlc : code.length ≤ 9223372036854775807) (hcap : code.length ≤ capc) (hu : ∀ x ∈ code, 0 ≤ x ∧ x ≤ 255) (hcc : Rd 1 encU8 w ac code) :
    Calls Try.prog 7 #[.slice ac code.length capc] w (RetB True w) := by
  go_enter Try.func7, Try.ntmps7
  by_cases hbig : 1048576 < code.length
  · have hb : (1048576 : Int) < (code.length : Int) := by omega
    go_wp2
    go_ret
    exact RetB.mk true rfl (by simp) (Ext.refl _)
  have hb : (code.length : Int) ≤ 1048576 := by omega
  have S := Sep.start w
  go_wp2_with fail
  refine (drawEnterGate ac capc code w hlc hcap hu hcc).mono ?_
  rintro e w1 ⟨f, a, l, cap, who, rfl, hl12, hlcap, T⟩
  replace S : Sep w w1 [plView 1 encInt1 a l] := S.call T
  clear T
  clear hb hbig
  replace S : Sep w (w1.alloc (.cells #[.int .i64 f, .slice a l.length cap] 27)) [plBox w1.heap.size #[.int .i64 f, .slice a l.length cap] 27, plView 1 encInt1 a l] := S.alloc_at (by simp) _ _
  go_wp2_with fail
  generalize (w1.alloc (.cells #[.int .i64 f, .slice a l.length cap] 27)) = w2 at *
  refine (implEnterGate f a cap l who w2 (by omega) hlcap (S.see 1 rfl)).mono ?_
  rintro e w3 ⟨f3, u3, X, n, rfl, hR, ho, hE⟩
  obtain ⟨ax, cx, hv, hxcap, _, _⟩ := view_owns encInt1_len ho
  subst hv
  have T := Sep.of_owns hE ho
  have HR := Lib.hid hR
  have hX := entR_le hR
  clear hE ho hR
  replace S : Sep w w3 [plRow 3 1 encInt1 (.slice ax X.length cx) X, plBox w1.heap.size #[.int .i64 f, .slice a l.length cap] 27, plView 1 encInt1 a l] := S.call T
  clear T
  replace S : Sep w (w3.alloc (.cells #[.int .i64 f3, .slice ax X.length cx] 27)) [plBox w3.heap.size #[.int .i64 f3, .slice ax X.length cx] 27, plRow 3 1 encInt1 (.slice ax X.length cx) X, plBox w1.heap.size #[.int .i64 f, .slice a l.length cap] 27, plView 1 encInt1 a l] := S.alloc_at (by simp) _ _
  obtain ⟨gbc0, gbf0⟩ : (w3.alloc (.cells #[.int .i64 f3, .slice ax X.length cx] 27)).cell? ⟨w1.heap.size, 0, none⟩ = some (.int .i64 f) ∧ (w3.alloc (.cells #[.int .i64 f3, .slice ax X.length cx] 27)).frozen? ⟨w1.heap.size, 0, none⟩ = false := bx (S.box 2 rfl) 0 rfl
  obtain ⟨gbc1, gbf1⟩ : (w3.alloc (.cells #[.int .i64 f3, .slice ax X.length cx] 27)).cell? ⟨w1.heap.size, 1, none⟩ = some (.slice a l.length cap) ∧ (w3.alloc (.cells #[.int .i64 f3, .slice ax X.length cx] 27)).frozen? ⟨w1.heap.size, 1, none⟩ = false := bx (S.box 2 rfl) 1 rfl
  go_wp2_with fail
  generalize (w3.alloc (.cells #[.int .i64 f3, .slice ax X.length cx] 27)) = w4 at *
  refine (specEnterGate f a cap l who w4 (by omega) (S.see 3 rfl)).mono ?_
  rintro e w5 ⟨f5, u5, Y, n5, rfl, hR, ho, hE⟩
  obtain ⟨rfl, rfl, rfl⟩ := entR_fun HR.out hR
  obtain ⟨ay, cy, hv, hycap, _, _⟩ := view_owns encInt1_len ho
  subst hv
  have T := Sep.of_owns hE ho
  clear hE ho hR
  clear gbc0 gbf0 gbc1 gbf1
  replace S : Sep w w5 [plRow 3 1 encInt1 (.slice ay X.length cy) X, plBox w3.heap.size #[.int .i64 f3, .slice ax X.length cx] 27, plRow 3 1 encInt1 (.slice ax X.length cx) X, plBox w1.heap.size #[.int .i64 f, .slice a l.length cap] 27, plView 1 encInt1 a l] := S.call T
  clear T
  replace S : Sep w (w5.alloc (.cells #[.int .i64 f3, .slice ay X.length cy] 27)) [plBox w5.heap.size #[.int .i64 f3, .slice ay X.length cy] 27, plRow 3 1 encInt1 (.slice ay X.length cy) X, plBox w3.heap.size #[.int .i64 f3, .slice ax X.length cx] 27, plRow 3 1 encInt1 (.slice ax X.length cx) X, plBox w1.heap.size #[.int .i64 f, .slice a l.length cap] 27, plView 1 encInt1 a l] := S.alloc_at (by simp) _ _
  have tb : (n != n) = false := by simp
  obtain ⟨xbc0, xbf0⟩ : (w5.alloc (.cells #[.int .i64 f3, .slice ay X.length cy] 27)).cell? ⟨w3.heap.size, 0, none⟩ = some (.int .i64 f3) ∧ (w5.alloc (.cells #[.int .i64 f3, .slice ay X.length cy] 27)).frozen? ⟨w3.heap.size, 0, none⟩ = false := bx (S.box 2 rfl) 0 rfl
  obtain ⟨xbc1, xbf1⟩ : (w5.alloc (.cells #[.int .i64 f3, .slice ay X.length cy] 27)).cell? ⟨w3.heap.size, 1, none⟩ = some (.slice ax X.length cx) ∧ (w5.alloc (.cells #[.int .i64 f3, .slice ay X.length cy] 27)).frozen? ⟨w3.heap.size, 1, none⟩ = false := bx (S.box 2 rfl) 1 rfl
  go_wp2_with fail
  generalize (w5.alloc (.cells #[.int .i64 f3, .slice ay X.length cy] 27)) = w6 at *
  refine (sameGate_any f3 f3 _ _ _ _ X X _ (by omega) (by omega) (S.rd 3 encInt1_len rfl rfl) (S.rd 1 encInt1_len rfl rfl)).mono ?_
  rintro e w7 ⟨q5, rfl, hq, hE⟩
  obtain rfl : q5 = true := hq.2 ⟨rfl, rfl⟩
  clear hq
  clear xbc0 xbf0 xbc1 xbf1
  replace S : Sep w w7 [plBox w5.heap.size #[.int .i64 f3, .slice ay X.length cy] 27, plRow 3 1 encInt1 (.slice ay X.length cy) X, plBox w3.heap.size #[.int .i64 f3, .slice ax X.length cx] 27, plRow 3 1 encInt1 (.slice ax X.length cx) X, plBox w1.heap.size #[.int .i64 f, .slice a l.length cap] 27, plView 1 encInt1 a l] := S.step hE
  clear hE
  rcases entR_ok HR.out with ⟨hn, hok, hf3, hX0, hf0, hf9⟩ | ⟨hn, hok, hf3, hX0⟩ | ⟨hn, hsame⟩
  · have HO := Lib.hid hok
    subst hn hf3 hX0
    obtain ⟨xbc0, xbf0⟩ : w7.cell? ⟨w3.heap.size, 0, none⟩ = some (.int .i64 (f - 1)) ∧ w7.frozen? ⟨w3.heap.size, 0, none⟩ = false := bx (S.box 2 rfl) 0 rfl
    obtain ⟨xbc1, xbf1⟩ : w7.cell? ⟨w3.heap.size, 1, none⟩ = some (.slice ax ([] : List Int).length cx) ∧ w7.frozen? ⟨w3.heap.size, 1, none⟩ = false := bx (S.box 2 rfl) 1 rfl
    obtain ⟨gbc0, gbf0⟩ : w7.cell? ⟨w1.heap.size, 0, none⟩ = some (.int .i64 f) ∧ w7.frozen? ⟨w1.heap.size, 0, none⟩ = false := bx (S.box 4 rfl) 0 rfl
    obtain ⟨gbc1, gbf1⟩ : w7.cell? ⟨w1.heap.size, 1, none⟩ = some (.slice a l.length cap) ∧ w7.frozen? ⟨w1.heap.size, 1, none⟩ = false := bx (S.box 4 rfl) 1 rfl
    clear hok
    go_wp2_with fail
    refine (implGateValid (f - 1) ax cx [] w7 (by simp) (by simp) (S.rd 3 encInt1_len rfl rfl)).mono ?_
    rintro e w8 ⟨b8, rfl, hb8, hE⟩
    obtain rfl : b8 = true := hb8.2 HO.out
    clear hb8
    clear xbc0 xbf0 xbc1 xbf1 gbc0 gbf0 gbc1 gbf1
    replace S : Sep w w8 [plBox w5.heap.size #[.int .i64 (f - 1), .slice ay ([] : List Int).length cy] 27, plRow 3 1 encInt1 (.slice ay ([] : List Int).length cy) ([] : List Int), plBox w3.heap.size #[.int .i64 (f - 1), .slice ax ([] : List Int).length cx] 27, plRow 3 1 encInt1 (.slice ax ([] : List Int).length cx) ([] : List Int), plBox w1.heap.size #[.int .i64 f, .slice a l.length cap] 27, plView 1 encInt1 a l] := S.step hE
    clear hE
    obtain ⟨xbc0, xbf0⟩ : w8.cell? ⟨w3.heap.size, 0, none⟩ = some (.int .i64 (f - 1)) ∧ w8.frozen? ⟨w3.heap.size, 0, none⟩ = false := bx (S.box 2 rfl) 0 rfl
    obtain ⟨xbc1, xbf1⟩ : w8.cell? ⟨w3.heap.size, 1, none⟩ = some (.slice ax ([] : List Int).length cx) ∧ w8.frozen? ⟨w3.heap.size, 1, none⟩ = false := bx (S.box 2 rfl) 1 rfl
    obtain ⟨gbc0, gbf0⟩ : w8.cell? ⟨w1.heap.size, 0, none⟩ = some (.int .i64 f) ∧ w8.frozen? ⟨w1.heap.size, 0, none⟩ = false := bx (S.box 4 rfl) 0 rfl
    obtain ⟨gbc1, gbf1⟩ : w8.cell? ⟨w1.heap.size, 1, none⟩ = some (.slice a l.length cap) ∧ w8.frozen? ⟨w1.heap.size, 1, none⟩ = false := bx (S.box 4 rfl) 1 rfl
    go_wp2
    go_ret
    exact RetB.mk true rfl (by simp) S.ext
  · have HO := Lib.hid hok
    have hn1 : X.length = l.length + 1 := by rw [hX0]; simp
    have HX0 := Lib.hid hX0
    subst hn hf3
    obtain ⟨xbc0, xbf0⟩ : w7.cell? ⟨w3.heap.size, 0, none⟩ = some (.int .i64 0) ∧ w7.frozen? ⟨w3.heap.size, 0, none⟩ = false := bx (S.box 2 rfl) 0 rfl
    obtain ⟨xbc1, xbf1⟩ : w7.cell? ⟨w3.heap.size, 1, none⟩ = some (.slice ax X.length cx) ∧ w7.frozen? ⟨w3.heap.size, 1, none⟩ = false := bx (S.box 2 rfl) 1 rfl
    obtain ⟨gbc0, gbf0⟩ : w7.cell? ⟨w1.heap.size, 0, none⟩ = some (.int .i64 f) ∧ w7.frozen? ⟨w1.heap.size, 0, none⟩ = false := bx (S.box 4 rfl) 0 rfl
    obtain ⟨gbc1, gbf1⟩ : w7.cell? ⟨w1.heap.size, 1, none⟩ = some (.slice a l.length cap) ∧ w7.frozen? ⟨w1.heap.size, 1, none⟩ = false := bx (S.box 4 rfl) 1 rfl
    have hxc : X.length ≤ 13 := by omega
    have Hn1 := Lib.hid hn1
    clear hok hX0 hn1
    go_wp2_with fail
    refine (implGateValid 0 ax cx X w7 (by omega) hxcap (S.rd 3 encInt1_len rfl rfl)).mono ?_
    rintro e w8 ⟨b8, rfl, hb8, hE⟩
    obtain rfl : b8 = true := hb8.2 HO.out
    clear hb8
    clear xbc0 xbf0 xbc1 xbf1 gbc0 gbf0 gbc1 gbf1
    replace S : Sep w w8 [plBox w5.heap.size #[.int .i64 0, .slice ay X.length cy] 27, plRow 3 1 encInt1 (.slice ay X.length cy) X, plBox w3.heap.size #[.int .i64 0, .slice ax X.length cx] 27, plRow 3 1 encInt1 (.slice ax X.length cx) X, plBox w1.heap.size #[.int .i64 f, .slice a l.length cap] 27, plView 1 encInt1 a l] := S.step hE
    clear hE
    have hrx := S.rd 3 encInt1_len rfl rfl
    obtain ⟨z, p, off, hz, hpe, c0⟩ := atInt hrx (show l.length < X.length by have := Hn1.out; omega)
    obtain rfl : who = z := by
      have h1 := HX0.out
      rw [h1] at hz
      simpa using hz
    subst hpe
    clear hz hrx
    obtain ⟨xbc0, xbf0⟩ : w8.cell? ⟨w3.heap.size, 0, none⟩ = some (.int .i64 0) ∧ w8.frozen? ⟨w3.heap.size, 0, none⟩ = false := bx (S.box 2 rfl) 0 rfl
    obtain ⟨xbc1, xbf1⟩ : w8.cell? ⟨w3.heap.size, 1, none⟩ = some (.slice (some ⟨p, off, none⟩) X.length cx) ∧ w8.frozen? ⟨w3.heap.size, 1, none⟩ = false := bx (S.box 2 rfl) 1 rfl
    obtain ⟨gbc0, gbf0⟩ : w8.cell? ⟨w1.heap.size, 0, none⟩ = some (.int .i64 f) ∧ w8.frozen? ⟨w1.heap.size, 0, none⟩ = false := bx (S.box 4 rfl) 0 rfl
    obtain ⟨gbc1, gbf1⟩ : w8.cell? ⟨w1.heap.size, 1, none⟩ = some (.slice a l.length cap) ∧ w8.frozen? ⟨w1.heap.size, 1, none⟩ = false := bx (S.box 4 rfl) 1 rfl
    rw [Hn1.out] at xbc1 ⊢
    go_wp2
    go_ret
    exact RetB.mk true rfl (by simp) S.ext
  · subst hn
    obtain ⟨xbc0, xbf0⟩ : w7.cell? ⟨w3.heap.size, 0, none⟩ = some (.int .i64 f3) ∧ w7.frozen? ⟨w3.heap.size, 0, none⟩ = false := bx (S.box 2 rfl) 0 rfl
    obtain ⟨xbc1, xbf1⟩ : w7.cell? ⟨w3.heap.size, 1, none⟩ = some (.slice ax X.length cx) ∧ w7.frozen? ⟨w3.heap.size, 1, none⟩ = false := bx (S.box 2 rfl) 1 rfl
    obtain ⟨gbc0, gbf0⟩ : w7.cell? ⟨w1.heap.size, 0, none⟩ = some (.int .i64 f) ∧ w7.frozen? ⟨w1.heap.size, 0, none⟩ = false := bx (S.box 4 rfl) 0 rfl
    obtain ⟨gbc1, gbf1⟩ : w7.cell? ⟨w1.heap.size, 1, none⟩ = some (.slice a l.length cap) ∧ w7.frozen? ⟨w1.heap.size, 1, none⟩ = false := bx (S.box 4 rfl) 1 rfl
    have Hs := Lib.hid hsame
    clear hsame
    go_wp2_with fail
    refine (sameGate_any f3 f _ _ _ _ X l _ (by omega) (by omega) (S.rd 3 encInt1_len rfl rfl) (S.see 5 rfl)).mono ?_
    rintro e w8 ⟨b8, rfl, hb8, hE⟩
    have Hb8 := Lib.hid hb8
    clear hb8
    clear xbc0 xbf0 xbc1 xbf1 gbc0 gbf0 gbc1 gbf1
    replace S : Sep w w8 [plBox w5.heap.size #[.int .i64 f3, .slice ay X.length cy] 27, plRow 3 1 encInt1 (.slice ay X.length cy) X, plBox w3.heap.size #[.int .i64 f3, .slice ax X.length cx] 27, plRow 3 1 encInt1 (.slice ax X.length cx) X, plBox w1.heap.size #[.int .i64 f, .slice a l.length cap] 27, plView 1 encInt1 a l] := S.step hE
    clear hE
    cases b8 with
    | true =>
      obtain ⟨xbc0, xbf0⟩ : w8.cell? ⟨w3.heap.size, 0, none⟩ = some (.int .i64 f3) ∧ w8.frozen? ⟨w3.heap.size, 0, none⟩ = false := bx (S.box 2 rfl) 0 rfl
      obtain ⟨xbc1, xbf1⟩ : w8.cell? ⟨w3.heap.size, 1, none⟩ = some (.slice ax X.length cx) ∧ w8.frozen? ⟨w3.heap.size, 1, none⟩ = false := bx (S.box 2 rfl) 1 rfl
      go_wp2_with fail
      refine (alive_any _).mono ?_
      rintro e w9 ⟨b3, rfl, hb3, hE⟩
      obtain rfl : b3 = true := hb3.2 trivial
      clear hb3
      clear xbc0 xbf0 xbc1 xbf1
      replace S : Sep w w9 [plBox w5.heap.size #[.int .i64 f3, .slice ay X.length cy] 27, plRow 3 1 encInt1 (.slice ay X.length cy) X, plBox w3.heap.size #[.int .i64 f3, .slice ax X.length cx] 27, plRow 3 1 encInt1 (.slice ax X.length cx) X, plBox w1.heap.size #[.int .i64 f, .slice a l.length cap] 27, plView 1 encInt1 a l] := S.step hE
      clear hE
      go_wp2
      go_ret
      exact RetB.mk true rfl (by simp) S.ext
    | false =>
      obtain ⟨hf3, hX0⟩ : f3 = 0 ∧ X = [] := Hs.out.resolve_left (fun h => Bool.noConfusion (Hb8.out.2 h))
      subst hf3 hX0
      obtain ⟨xbc0, xbf0⟩ : w8.cell? ⟨w3.heap.size, 0, none⟩ = some (.int .i64 0) ∧ w8.frozen? ⟨w3.heap.size, 0, none⟩ = false := bx (S.box 2 rfl) 0 rfl
      obtain ⟨xbc1, xbf1⟩ : w8.cell? ⟨w3.heap.size, 1, none⟩ = some (.slice ax ([] : List Int).length cx) ∧ w8.frozen? ⟨w3.heap.size, 1, none⟩ = false := bx (S.box 2 rfl) 1 rfl
      go_wp2_with fail
      refine (sameGate_any 0 0 ax none cx 0 [] [] _ (by simp) (by simp) Rd.nil Rd.nil).mono ?_
      rintro e w9 ⟨b9, rfl, hb9, hE⟩
      obtain rfl : b9 = true := hb9.2 ⟨rfl, rfl⟩
      clear hb9
      clear xbc0 xbf0 xbc1 xbf1
      replace S : Sep w w9 [plBox w5.heap.size #[.int .i64 0, .slice ay ([] : List Int).length cy] 27, plRow 3 1 encInt1 (.slice ay ([] : List Int).length cy) ([] : List Int), plBox w3.heap.size #[.int .i64 0, .slice ax ([] : List Int).length cx] 27, plRow 3 1 encInt1 (.slice ax ([] : List Int).length cx) ([] : List Int), plBox w1.heap.size #[.int .i64 f, .slice a l.length cap] 27, plView 1 encInt1 a l] := S.step hE
      clear hE
      go_wp2_with fail
      refine (alive_any _).mono ?_
      rintro e w10 ⟨b3, rfl, hb3, hE⟩
      obtain rfl : b3 = true := hb3.2 trivial
      clear hb3
      replace S : Sep w w10 [plBox w5.heap.size #[.int .i64 0, .slice ay ([] : List Int).length cy] 27, plRow 3 1 encInt1 (.slice ay ([] : List Int).length cy) ([] : List Int), plBox w3.heap.size #[.int .i64 0, .slice ax ([] : List Int).length cx] 27, plRow 3 1 encInt1 (.slice ax ([] : List Int).length cx) ([] : List Int), plBox w1.heap.size #[.int .i64 f, .slice a l.length cap] 27, plView 1 encInt1 a l] := S.step hE
      clear hE
      go_wp2
      go_ret
      exact RetB.mk true rfl (by simp) S.ext
end Go.Proofs.Ytcnghlmndahfpaa
