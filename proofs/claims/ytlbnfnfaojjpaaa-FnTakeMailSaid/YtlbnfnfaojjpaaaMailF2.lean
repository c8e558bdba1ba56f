/- FnPutMail: the walk. Condition: the code is shorter than 2^63. -/
import Derived.Test.YtlbnfnfaojjpaaaDrawTake
import Derived.Test.YtlbnfnfaojjpaaaPutMail
import Derived.Test.YtlbnfnfaojjpaaaMailT
import Derived.Test.YtlbnfnfaojjpaaaAlive
import Derived.Test.YtlbnfnfaojjpaaaQuiet
namespace Go.Proofs.Ytlbnfnfaojjpaaa
open Go.RowKit

theorem takeR_put {l : List Mail} {m : Mail} (h : MailsOk (l ++ [m])) {L : List Mail} {m2 : Mail} {ok : Bool} (hT : TakeR (l ++ [m]) m.kind L m2 ok) : ok = true ∧ m2.kind = m.kind := by
  have hm := (h.1 l.length m (by simp)).1
  rcases hT with ⟨c, _⟩ | ⟨c, b, hb, hT⟩
  · exact absurd ⟨h, by omega, by omega⟩ c
  · rcases hT with ⟨hn, _⟩ | ⟨j, rfl, hj, _, rfl⟩
    · rcases hb with ⟨_, hb⟩ | ⟨j, _, e, _⟩
      · exact absurd (.inr (.inl ⟨by omega, rfl⟩)) (hb l.length m (by simp) (by simp))
      · omega
    · refine ⟨rfl, ?_⟩
      obtain ⟨j', m', e, _, hm', hf⟩ := bestM_at hb (by omega)
      obtain rfl : j = j' := by omega
      rw [hj] at hm'; cases hm'
      rcases hf with h0 | ⟨_, h0⟩ | ⟨h0, _⟩ <;> omega

set_option maxRecDepth 10000 in
set_option maxHeartbeats 8000000 in
theorem fnPutMail_any (ac : Option Addr) (capc : Nat) (code : List Int) (w : World) (hlc : code.length ≤ 9223372036854775807) (hcap : code.length ≤ capc) (hu : ∀ x ∈ code, 0 ≤ x ∧ x ≤ 255) (hcc : Rd 1 encU8 w ac code) :
    Calls Try.prog 7 #[.slice ac code.length capc] w (RetB True w) := by
  go_enter Try.func7, Try.ntmps7
  by_cases hbig : 1048576 < code.length
  · have hb : (1048576 : Int) < (code.length : Int) := by omega
    go_wp2
    go_ret
    exact RetB.mk true rfl (by simp) (Ext.refl _)
  have hb : (code.length : Int) ≤ 1048576 := by omega
  have S := Sep.start w
  go_wp2_with fail
  refine (drawPutMail ac capc code w hlc hcap hu hcc).mono ?_
  rintro e w1 ⟨u, l, m, rfl, hl10, h17, hm17, T⟩
  obtain ⟨a, cap, hv, hlcap, _, _⟩ := view_owns encMail_len (T.row 0 rfl)
  subst hv
  replace S : Sep w w1 [plRow 27 2 encMail (.slice a l.length cap) l] := S.call T
  clear T
  clear hb hbig
  replace S : Sep w (w1.alloc (.cells #[.int .i64 m.kind, .string m.text] 27)) [plBox w1.heap.size #[.int .i64 m.kind, .string m.text] 27, plRow 27 2 encMail (.slice a l.length cap) l] := S.alloc_at (by simp) _ _
  go_wp2_with fail
  generalize (w1.alloc (.cells #[.int .i64 m.kind, .string m.text] 27)) = w2 at *
  refine (implPutMail a cap l m w2 (by omega) (S.rd 1 encMail_len rfl rfl)).mono ?_
  rintro e w3 ⟨v3, X, ok, rfl, hR, ho, hE⟩
  obtain ⟨ax, cx, hv, hxcap, _, _⟩ := view_owns encMail_len ho
  subst hv
  have T := Sep.of_owns hE ho
  have HR := Lib.hid hR
  have hX := putR_len hR (by omega)
  clear hE ho hR
  replace S : Sep w w3 [plRow 27 2 encMail (.slice ax X.length cx) X, plBox w1.heap.size #[.int .i64 m.kind, .string m.text] 27, plRow 27 2 encMail (.slice a l.length cap) l] := S.call T
  clear T
  obtain ⟨bmc0, bmf0⟩ : w3.cell? ⟨w1.heap.size, 0, none⟩ = some (.int .i64 m.kind) ∧ w3.frozen? ⟨w1.heap.size, 0, none⟩ = false := bx (S.box 1 rfl) 0 rfl
  obtain ⟨bmc1, bmf1⟩ : w3.cell? ⟨w1.heap.size, 1, none⟩ = some (.string m.text) ∧ w3.frozen? ⟨w1.heap.size, 1, none⟩ = false := bx (S.box 1 rfl) 1 rfl
  go_wp2_with fail
  refine (specPutMail a cap l m w3 (by omega) (S.rd 2 encMail_len rfl rfl)).mono ?_
  rintro e w4 ⟨v4, Y, ok2, rfl, hR, ho, hE⟩
  obtain ⟨rfl, rfl⟩ := putR_fun HR.out hR
  obtain ⟨ay, cy, hv, hycap, _, _⟩ := view_owns encMail_len ho
  subst hv
  have T := Sep.of_owns hE ho
  clear hE ho hR
  clear bmc0 bmf0 bmc1 bmf1
  replace S : Sep w w4 [plRow 27 2 encMail (.slice ay X.length cy) X, plRow 27 2 encMail (.slice ax X.length cx) X, plBox w1.heap.size #[.int .i64 m.kind, .string m.text] 27, plRow 27 2 encMail (.slice a l.length cap) l] := S.call T
  clear T
  have tb : (ok != ok) = false := by simp
  go_wp2_with fail
  refine (sameMails_any _ _ _ _ X X _ (by omega) (by omega) (S.rd 1 encMail_len rfl rfl) (S.rd 0 encMail_len rfl rfl)).mono ?_
  rintro e w5 ⟨q5, rfl, hq, hE⟩
  obtain rfl : q5 = true := hq.2 rfl
  clear hq
  replace S : Sep w w5 [plRow 27 2 encMail (.slice ay X.length cy) X, plRow 27 2 encMail (.slice ax X.length cx) X, plBox w1.heap.size #[.int .i64 m.kind, .string m.text] 27, plRow 27 2 encMail (.slice a l.length cap) l] := S.step hE
  clear hE
  cases ok with
  | false =>
    have hXl : X = l ∨ X = [] := by
      by_cases h : MailsOk l
      · exact .inl (HR.out.2.2.1 rfl h)
      · exact .inr (HR.out.2.2.2 h)
    have HXl := Lib.hid hXl
    clear hXl
    go_wp2_with fail
    refine (sameMails_any _ _ _ _ X l _ (by omega) (by omega) (S.rd 1 encMail_len rfl rfl) (S.rd 3 encMail_len rfl rfl)).mono ?_
    rintro e w6 ⟨q6, rfl, hq, hE⟩
    have Hq := Lib.hid hq
    clear hq
    replace S : Sep w w6 [plRow 27 2 encMail (.slice ay X.length cy) X, plRow 27 2 encMail (.slice ax X.length cx) X, plBox w1.heap.size #[.int .i64 m.kind, .string m.text] 27, plRow 27 2 encMail (.slice a l.length cap) l] := S.step hE
    clear hE
    cases q6 with
    | true =>
      go_wp2_with fail
      refine (alive_any _).mono ?_
      rintro e w7 ⟨b3, rfl, hb3, hE⟩
      obtain rfl : b3 = true := hb3.2 trivial
      clear hb3
      replace S : Sep w w7 [plRow 27 2 encMail (.slice ay X.length cy) X, plRow 27 2 encMail (.slice ax X.length cx) X, plBox w1.heap.size #[.int .i64 m.kind, .string m.text] 27, plRow 27 2 encMail (.slice a l.length cap) l] := S.step hE
      clear hE
      go_wp2
      go_ret
      exact RetB.mk true rfl (by simp) S.ext
    | false =>
      have hX0 : X = [] := HXl.out.resolve_left (fun h => Bool.noConfusion (Hq.out.2 h))
      subst hX0
      go_wp2_with fail
      refine (alive_any _).mono ?_
      rintro e w7 ⟨b3, rfl, hb3, hE⟩
      obtain rfl : b3 = true := hb3.2 trivial
      clear hb3
      replace S : Sep w w7 [plRow 27 2 encMail (.slice ay ([] : List Mail).length cy) ([] : List Mail), plRow 27 2 encMail (.slice ax ([] : List Mail).length cx) ([] : List Mail), plBox w1.heap.size #[.int .i64 m.kind, .string m.text] 27, plRow 27 2 encMail (.slice a l.length cap) l] := S.step hE
      clear hE
      go_wp2
      go_ret
      exact RetB.mk true rfl (by simp) S.ext
  | true =>
    have hXe : X = l ++ [m] := HR.out.2.1 rfl
    have HXe := Lib.hid hXe
    have HOK : Hid (MailsOk (l ++ [m])) := Lib.hid (HR.out.1.1 rfl).2
    have hn : X.length = l.length + 1 := by rw [hXe]; simp
    have Hn := Lib.hid hn
    have HT : Hid (X.take l.length = l) := Lib.hid (by rw [hXe]; simp)
    have HL : Hid (X[l.length]? = some m) := Lib.hid (by rw [hXe]; simp)
    clear hXe hn
    obtain ⟨bmc0, bmf0⟩ : w5.cell? ⟨w1.heap.size, 0, none⟩ = some (.int .i64 m.kind) ∧ w5.frozen? ⟨w1.heap.size, 0, none⟩ = false := bx (S.box 2 rfl) 0 rfl
    obtain ⟨bmc1, bmf1⟩ : w5.cell? ⟨w1.heap.size, 1, none⟩ = some (.string m.text) ∧ w5.frozen? ⟨w1.heap.size, 1, none⟩ = false := bx (S.box 2 rfl) 1 rfl
    go_wp2_with fail
    refine (implTakeMail ax cx X m.kind w5 hX (S.rd 1 encMail_len rfl rfl)).mono ?_
    rintro e w6 ⟨u6, L6, m6, ok6, rfl, hR6, T⟩
    obtain ⟨rfl, hk6⟩ : ok6 = true ∧ m6.kind = m.kind := takeR_put HOK.out (by rw [← HXe.out]; exact hR6)
    have tk : (m6.kind == m.kind) = true := by simpa using hk6
    obtain ⟨k6, t6⟩ := m6
    simp only at hk6
    subst hk6
    clear hR6 tk
    clear bmc0 bmf0 bmc1 bmf1
    replace S : Sep w w6 [plRow 27 2 encMail u6 L6, plRow 27 2 encMail (.slice ay X.length cy) X, plRow 27 2 encMail (.slice ax X.length cx) X, plBox w1.heap.size #[.int .i64 m.kind, .string m.text] 27, plRow 27 2 encMail (.slice a l.length cap) l] := S.call T
    clear T
    replace S : Sep w (w6.alloc (.cells #[.int .i64 m.kind, .string t6] 27)) [plBox w6.heap.size #[.int .i64 m.kind, .string t6] 27, plRow 27 2 encMail u6 L6, plRow 27 2 encMail (.slice ay X.length cy) X, plRow 27 2 encMail (.slice ax X.length cx) X, plBox w1.heap.size #[.int .i64 m.kind, .string m.text] 27, plRow 27 2 encMail (.slice a l.length cap) l] := S.alloc_at (by simp) _ _
    obtain ⟨b6c0, b6f0⟩ : (w6.alloc (.cells #[.int .i64 m.kind, .string t6] 27)).cell? ⟨w6.heap.size, 0, none⟩ = some (.int .i64 m.kind) ∧ (w6.alloc (.cells #[.int .i64 m.kind, .string t6] 27)).frozen? ⟨w6.heap.size, 0, none⟩ = false := bx (S.box 0 rfl) 0 rfl
    obtain ⟨b6c1, b6f1⟩ : (w6.alloc (.cells #[.int .i64 m.kind, .string t6] 27)).cell? ⟨w6.heap.size, 1, none⟩ = some (.string t6) ∧ (w6.alloc (.cells #[.int .i64 m.kind, .string t6] 27)).frozen? ⟨w6.heap.size, 1, none⟩ = false := bx (S.box 0 rfl) 1 rfl
    obtain ⟨bmc0, bmf0⟩ : (w6.alloc (.cells #[.int .i64 m.kind, .string t6] 27)).cell? ⟨w1.heap.size, 0, none⟩ = some (.int .i64 m.kind) ∧ (w6.alloc (.cells #[.int .i64 m.kind, .string t6] 27)).frozen? ⟨w1.heap.size, 0, none⟩ = false := bx (S.box 4 rfl) 0 rfl
    obtain ⟨bmc1, bmf1⟩ : (w6.alloc (.cells #[.int .i64 m.kind, .string t6] 27)).cell? ⟨w1.heap.size, 1, none⟩ = some (.string m.text) ∧ (w6.alloc (.cells #[.int .i64 m.kind, .string t6] 27)).frozen? ⟨w1.heap.size, 1, none⟩ = false := bx (S.box 4 rfl) 1 rfl
    go_upto_region 11 with fail
    clear b6c0 b6f0 b6c1 b6f1 bmc0 bmf0 bmc1 bmf1
    generalize (w6.alloc (.cells #[.int .i64 m.kind, .string t6] 27)) = w7 at *
    obtain ⟨x, p, off, hx, hpe, c0, c1⟩ := atMail (S.rd 3 encMail_len rfl rfl) (show l.length < X.length by have := Hn.out; omega)
    subst hpe
    obtain rfl : m = x := by
      have := HL.out
      rw [hx] at this; exact (Option.some.inj this).symm
    clear hx
    have rdx := (S.rd 3 encMail_len rfl rfl).take l.length
    have rdq := S.rd 5 encMail_len rfl rfl
    rw [HT.out] at rdx
    obtain ⟨bmc0, bmf0⟩ : w7.cell? ⟨w1.heap.size, 0, none⟩ = some (.int .i64 m.kind) ∧ w7.frozen? ⟨w1.heap.size, 0, none⟩ = false := bx (S.box 4 rfl) 0 rfl
    obtain ⟨bmc1, bmf1⟩ : w7.cell? ⟨w1.heap.size, 1, none⟩ = some (.string m.text) ∧ w7.frozen? ⟨w1.heap.size, 1, none⟩ = false := bx (S.box 4 rfl) 1 rfl
    obtain ⟨b6c0, b6f0⟩ : w7.cell? ⟨w6.heap.size, 0, none⟩ = some (.int .i64 m.kind) ∧ w7.frozen? ⟨w6.heap.size, 0, none⟩ = false := bx (S.box 0 rfl) 0 rfl
    obtain ⟨b6c1, b6f1⟩ : w7.cell? ⟨w6.heap.size, 1, none⟩ = some (.string t6) ∧ w7.frozen? ⟨w6.heap.size, 1, none⟩ = false := bx (S.box 0 rfl) 1 rfl
    rw [Hn.out] at hxcap
    rw [Hn.out]
    have m0 := ExtW.cell c0
    have m1 := ExtW.cell c1
    have m2 := ExtW.cell bmc0
    have m3 := ExtW.cell bmc1
    have m4 := ExtW.cell b6c0
    have b1 := ExtW.lt c0
    have b2 := ExtW.lt bmc0
    have b3 := ExtW.lt b6c0
    have e1 := eqlMail_same m
    have e2 := fun w => guardMail .eql (.tmp 75) (.tmp 76) #[.int .i64 m.kind, .string m.text] #[.int .i64 m.kind, .string m.text] w
    have i1 : (l.length : Int) ≤ (cx : Int) := by omega
    have hS := S.ext
    have tk : (m.kind == m.kind) = true := by simp
    clear c0 c1
    clear bmc0 bmf0 bmc1 bmf1 b6c0 b6f0 b6c1 b6f1
    clear S
    go_wp2
    (refine wp_region_quiet_ext (by kernel_rfl) (by kernel_rfl) ?_; (repeat (go_big_quiet_step ((go_at_call 25; exact Calls.at_b (T := l = l) true (by simp) (sameMails_any _ _ _ _ l l _ (by omega) (by omega) (rdx.ext (ExtW.h _)) (rdq.ext (ExtW.h _))))))); refine wpQuiet_nil ?_; intro _ hw'; obtain ⟨sq, hw''⟩ := hw'; subst hw'')
    obtain ⟨w8, hw8⟩ := sq
    go_wp2
    go_ret
    exact RetB.mk true rfl (by simp) (hS.trans hw8)
end Go.Proofs.Ytlbnfnfaojjpaaa
