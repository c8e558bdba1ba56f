/- FnExactTakeMail: the walk. No condition but that the list is shorter than 2^63. -/
import Derived.Test.YtlbnfnfaojjpaaaMailU
namespace Go.Proofs.Ytlbnfnfaojjpaaa
open Go.RowKit

set_option maxRecDepth 10000 in
set_option maxHeartbeats 8000000 in
theorem exactTakeMail_any (al : Option Addr) (capl : Nat) (l : List Mail) (hll : l.length ≤ 9223372036854775807) (hsl : ∀ x ∈ l, x.text.size ≤ 9223372036854775807) (kind : Int) (w : World) (hcl : Rd 2 encMail w al l) :
    Calls Try.prog 8 #[.slice al l.length capl, .int .i64 kind] w (RetB True w) := by
  go_enter Try.func8, Try.ntmps8
  have S := Sep.start w
  go_wp2_with fail
  refine (szMailS_any al capl l _ _ (by omega) (by omega) hll hsl (hcl.ext S.ext)).mono ?_
  rintro e w1 ⟨r1, rfl, hra1, hrb1, hrc1, hE⟩
  have Hrc1 := Lib.hid hrc1
  clear hrc1
  replace S : Sep w w1 [] := S.step hE
  clear hE
  by_cases hneg1 : r1 < 0
  · go_wp2
    go_ret
    exact RetB.mk true rfl (by simp) S.ext
  have hlenl : l.length ≤ 1048576 := (Hrc1.out (by omega)).1
  have hszl := (Hrc1.out (by omega)).2
  clear Hrc1
  go_wp2_with fail
  refine (toMailS_any al capl l _ hlenl (hcl.ext S.ext)).mono ?_
  rintro e w2 ⟨v2, rfl, ⟨ho, hv⟩, hE⟩
  obtain ⟨asl, csl, hv2, hksl, _, _⟩ := view_owns encMail_len ho
  subst hv2
  clear hv
  have T := Sep.of_owns hE ho
  clear hE ho
  replace S : Sep w w2 [plRow 27 2 encMail (.slice asl l.length csl) l] := S.call T
  clear T
  go_wp2_with fail
  refine (specTakeMail _ _ l kind _ hlenl hksl (S.rd 0 encMail_len rfl rfl)).mono ?_
  rintro e w3 ⟨uW0, LW0, xW1, yW2, rfl, hR, T⟩
  have HR := Lib.hid hR
  clear hR
  obtain ⟨aW0, cW0, hv2, hkW0, _, _⟩ := view_owns encMail_len (T.row 0 rfl)
  subst hv2
  replace S : Sep w w3 [plRow 27 2 encMail (.slice aW0 LW0.length cW0) LW0, plRow 27 2 encMail (.slice asl l.length csl) l] := S.call T
  clear T
  have hb0 : LW0.length ≤ 1048576 := takeR_len HR.out hlenl
  replace S : Sep w (w3.alloc (.cells #[.int .i64 xW1.kind, .string xW1.text] 27)) [plBox w3.heap.size #[.int .i64 xW1.kind, .string xW1.text] 27, plRow 27 2 encMail (.slice aW0 LW0.length cW0) LW0, plRow 27 2 encMail (.slice asl l.length csl) l] := S.alloc_at (by simp) _ _
  replace S : Sep w (w3.alloc (.cells #[.int .i64 xW1.kind, .string xW1.text] 27)) [plBox w3.heap.size #[.int .i64 xW1.kind, .string xW1.text] 27, plRow 27 2 encMail (.slice aW0 LW0.length cW0) LW0] := S.drop 2
  go_wp2_with fail
  generalize (w3.alloc (.cells #[.int .i64 xW1.kind, .string xW1.text] 27)) = w5 at *
  refine (toMailS_any al capl l _ hlenl (hcl.ext S.ext)).mono ?_
  rintro e w4 ⟨v4, rfl, ⟨ho, hv⟩, hE⟩
  obtain ⟨axl, cxl, hv2, hkxl, _, _⟩ := view_owns encMail_len ho
  subst hv2
  clear hv
  have T := Sep.of_owns hE ho
  clear hE ho
  replace S : Sep w w4 [plRow 27 2 encMail (.slice axl l.length cxl) l, plBox w3.heap.size #[.int .i64 xW1.kind, .string xW1.text] 27, plRow 27 2 encMail (.slice aW0 LW0.length cW0) LW0] := S.call T
  clear T
  go_wp2_with fail
  refine (implTakeMail _ _ l kind _ hlenl (S.rd 0 encMail_len rfl rfl)).mono ?_
  rintro e w6 ⟨uG0, LG0, xG1, yG2, rfl, hR, T⟩
  obtain ⟨rfl, rfl, rfl⟩ : LW0 = LG0 ∧ xW1 = xG1 ∧ yW2 = yG2 := takeR_fun HR.out hR
  clear hR
  obtain ⟨aG0, cG0, hv2, hkG0, _, _⟩ := view_owns encMail_len (T.row 0 rfl)
  subst hv2
  replace S : Sep w w6 [plRow 27 2 encMail (.slice aG0 LW0.length cG0) LW0, plRow 27 2 encMail (.slice axl l.length cxl) l, plBox w3.heap.size #[.int .i64 xW1.kind, .string xW1.text] 27, plRow 27 2 encMail (.slice aW0 LW0.length cW0) LW0] := S.call T
  clear T
  replace S : Sep w (w6.alloc (.cells #[.int .i64 xW1.kind, .string xW1.text] 27)) [plBox w6.heap.size #[.int .i64 xW1.kind, .string xW1.text] 27, plRow 27 2 encMail (.slice aG0 LW0.length cG0) LW0, plRow 27 2 encMail (.slice axl l.length cxl) l, plBox w3.heap.size #[.int .i64 xW1.kind, .string xW1.text] 27, plRow 27 2 encMail (.slice aW0 LW0.length cW0) LW0] := S.alloc_at (by simp) _ _
  have t2 : (yW2 != yW2) = false := by simp
  obtain ⟨zG1c0, zG1f0⟩ : (w6.alloc (.cells #[.int .i64 xW1.kind, .string xW1.text] 27)).cell? ⟨w6.heap.size, 0, none⟩ = some (.int .i64 xW1.kind) ∧ (w6.alloc (.cells #[.int .i64 xW1.kind, .string xW1.text] 27)).frozen? ⟨w6.heap.size, 0, none⟩ = false := bx (S.box 0 rfl) 0 rfl
  obtain ⟨zG1c1, zG1f1⟩ : (w6.alloc (.cells #[.int .i64 xW1.kind, .string xW1.text] 27)).cell? ⟨w6.heap.size, 1, none⟩ = some (.string xW1.text) ∧ (w6.alloc (.cells #[.int .i64 xW1.kind, .string xW1.text] 27)).frozen? ⟨w6.heap.size, 1, none⟩ = false := bx (S.box 0 rfl) 1 rfl
  obtain ⟨zW1c0, zW1f0⟩ : (w6.alloc (.cells #[.int .i64 xW1.kind, .string xW1.text] 27)).cell? ⟨w3.heap.size, 0, none⟩ = some (.int .i64 xW1.kind) ∧ (w6.alloc (.cells #[.int .i64 xW1.kind, .string xW1.text] 27)).frozen? ⟨w3.heap.size, 0, none⟩ = false := bx (S.box 3 rfl) 0 rfl
  obtain ⟨zW1c1, zW1f1⟩ : (w6.alloc (.cells #[.int .i64 xW1.kind, .string xW1.text] 27)).cell? ⟨w3.heap.size, 1, none⟩ = some (.string xW1.text) ∧ (w6.alloc (.cells #[.int .i64 xW1.kind, .string xW1.text] 27)).frozen? ⟨w3.heap.size, 1, none⟩ = false := bx (S.box 3 rfl) 1 rfl
  go_wp2_with fail
  generalize (w6.alloc (.cells #[.int .i64 xW1.kind, .string xW1.text] 27)) = w8 at *
  refine (eqMailS_any _ _ _ _ LW0 LW0 _ (by omega) (by omega) (S.rd 1 encMail_len rfl rfl) (S.rd 4 encMail_len rfl rfl)).mono ?_
  rintro e w7 ⟨q7, rfl, hq, hE⟩
  obtain rfl : q7 = true := hq.2 rfl
  clear hq
  clear zG1c0 zG1f0 zG1c1 zG1f1 zW1c0 zW1f0 zW1c1 zW1f1
  replace S : Sep w w7 [plBox w6.heap.size #[.int .i64 xW1.kind, .string xW1.text] 27, plRow 27 2 encMail (.slice aG0 LW0.length cG0) LW0, plRow 27 2 encMail (.slice axl l.length cxl) l, plBox w3.heap.size #[.int .i64 xW1.kind, .string xW1.text] 27, plRow 27 2 encMail (.slice aW0 LW0.length cW0) LW0] := S.step hE
  clear hE
  obtain ⟨zG1c0, zG1f0⟩ : w7.cell? ⟨w6.heap.size, 0, none⟩ = some (.int .i64 xW1.kind) ∧ w7.frozen? ⟨w6.heap.size, 0, none⟩ = false := bx (S.box 0 rfl) 0 rfl
  obtain ⟨zG1c1, zG1f1⟩ : w7.cell? ⟨w6.heap.size, 1, none⟩ = some (.string xW1.text) ∧ w7.frozen? ⟨w6.heap.size, 1, none⟩ = false := bx (S.box 0 rfl) 1 rfl
  obtain ⟨zW1c0, zW1f0⟩ : w7.cell? ⟨w3.heap.size, 0, none⟩ = some (.int .i64 xW1.kind) ∧ w7.frozen? ⟨w3.heap.size, 0, none⟩ = false := bx (S.box 3 rfl) 0 rfl
  obtain ⟨zW1c1, zW1f1⟩ : w7.cell? ⟨w3.heap.size, 1, none⟩ = some (.string xW1.text) ∧ w7.frozen? ⟨w3.heap.size, 1, none⟩ = false := bx (S.box 3 rfl) 1 rfl
  go_wp2_with fail
  refine (eqMail_any xW1 xW1 _).mono ?_
  rintro e w9 ⟨q9, rfl, hq, hE⟩
  obtain rfl : q9 = true := hq.2 rfl
  clear hq
  clear zG1c0 zG1f0 zG1c1 zG1f1 zW1c0 zW1f0 zW1c1 zW1f1
  replace S : Sep w w9 [plBox w6.heap.size #[.int .i64 xW1.kind, .string xW1.text] 27, plRow 27 2 encMail (.slice aG0 LW0.length cG0) LW0, plRow 27 2 encMail (.slice axl l.length cxl) l, plBox w3.heap.size #[.int .i64 xW1.kind, .string xW1.text] 27, plRow 27 2 encMail (.slice aW0 LW0.length cW0) LW0] := S.step hE
  clear hE
  go_wp2_with fail
  refine (toMailS_any al capl l _ hlenl (hcl.ext S.ext)).mono ?_
  rintro e w10 ⟨v10, rfl, ⟨ho, hv⟩, hE⟩
  obtain ⟨atl, ctl, hv2, hktl, _, _⟩ := view_owns encMail_len ho
  subst hv2
  clear hv
  have T := Sep.of_owns hE ho
  clear hE ho
  replace S : Sep w w10 [plRow 27 2 encMail (.slice atl l.length ctl) l, plBox w6.heap.size #[.int .i64 xW1.kind, .string xW1.text] 27, plRow 27 2 encMail (.slice aG0 LW0.length cG0) LW0, plRow 27 2 encMail (.slice axl l.length cxl) l, plBox w3.heap.size #[.int .i64 xW1.kind, .string xW1.text] 27, plRow 27 2 encMail (.slice aW0 LW0.length cW0) LW0] := S.call T
  clear T
  go_wp2_with fail
  refine (eqMailS_any _ _ _ _ l l _ hll hll (S.rd 3 encMail_len rfl rfl) (S.rd 0 encMail_len rfl rfl)).mono ?_
  rintro e w11 ⟨q11, rfl, hq, hE⟩
  obtain rfl : q11 = true := hq.2 rfl
  clear hq
  replace S : Sep w w11 [plRow 27 2 encMail (.slice atl l.length ctl) l, plBox w6.heap.size #[.int .i64 xW1.kind, .string xW1.text] 27, plRow 27 2 encMail (.slice aG0 LW0.length cG0) LW0, plRow 27 2 encMail (.slice axl l.length cxl) l, plBox w3.heap.size #[.int .i64 xW1.kind, .string xW1.text] 27, plRow 27 2 encMail (.slice aW0 LW0.length cW0) LW0] := S.step hE
  clear hE
  replace S : Sep w w11 [plBox w6.heap.size #[.int .i64 xW1.kind, .string xW1.text] 27, plRow 27 2 encMail (.slice aG0 LW0.length cG0) LW0, plRow 27 2 encMail (.slice axl l.length cxl) l, plBox w3.heap.size #[.int .i64 xW1.kind, .string xW1.text] 27, plRow 27 2 encMail (.slice aW0 LW0.length cW0) LW0] := S.drop 0
  go_wp2_with fail
  refine (markMailS_own _ _ _ l _ _ rfl hlenl (by omega) (by omega) (S.row 2 rfl)).mono ?_
  rintro e w12 ⟨rfl, hq, hg⟩
  replace hq := (show w12.ownsRow _ 27 2 _ (marksMail l.length (1)).length ((marksMail l.length (1)).flatMap encMail) from by rw [marksMail_len]; exact hq)
  replace S : Sep w w12 [plBox w6.heap.size #[.int .i64 xW1.kind, .string xW1.text] 27, plRow 27 2 encMail (.slice aG0 LW0.length cG0) LW0, plRow 27 2 encMail (.slice axl l.length cxl) (marksMail l.length (1)), plBox w3.heap.size #[.int .i64 xW1.kind, .string xW1.text] 27, plRow 27 2 encMail (.slice aW0 LW0.length cW0) LW0] := S.grow 2 rfl hg hq (fun b h => .inl h)
  clear hq hg
  have kneg : ∀ n : Nat, ¬ (1 + (n : Int) < 0) := fun n => by omega
  clear kneg
  obtain ⟨zG1c0, zG1f0⟩ : w12.cell? ⟨w6.heap.size, 0, none⟩ = some (.int .i64 xW1.kind) ∧ w12.frozen? ⟨w6.heap.size, 0, none⟩ = false := bx (S.box 0 rfl) 0 rfl
  obtain ⟨zG1c1, zG1f1⟩ : w12.cell? ⟨w6.heap.size, 1, none⟩ = some (.string xW1.text) ∧ w12.frozen? ⟨w6.heap.size, 1, none⟩ = false := bx (S.box 0 rfl) 1 rfl
  obtain ⟨zW1c0, zW1f0⟩ : w12.cell? ⟨w3.heap.size, 0, none⟩ = some (.int .i64 xW1.kind) ∧ w12.frozen? ⟨w3.heap.size, 0, none⟩ = false := bx (S.box 3 rfl) 0 rfl
  obtain ⟨zW1c1, zW1f1⟩ : w12.cell? ⟨w3.heap.size, 1, none⟩ = some (.string xW1.text) ∧ w12.frozen? ⟨w3.heap.size, 1, none⟩ = false := bx (S.box 3 rfl) 1 rfl
  go_wp2_with fail
  refine (eqMailS_any _ _ _ _ LW0 LW0 _ (by omega) (by omega) (S.rd 1 encMail_len rfl rfl) (S.rd 4 encMail_len rfl rfl)).mono ?_
  rintro e w13 ⟨q13, rfl, hq, hE⟩
  obtain rfl : q13 = true := hq.2 rfl
  clear hq
  clear zG1c0 zG1f0 zG1c1 zG1f1 zW1c0 zW1f0 zW1c1 zW1f1
  replace S : Sep w w13 [plBox w6.heap.size #[.int .i64 xW1.kind, .string xW1.text] 27, plRow 27 2 encMail (.slice aG0 LW0.length cG0) LW0, plRow 27 2 encMail (.slice axl l.length cxl) (marksMail l.length (1)), plBox w3.heap.size #[.int .i64 xW1.kind, .string xW1.text] 27, plRow 27 2 encMail (.slice aW0 LW0.length cW0) LW0] := S.step hE
  clear hE
  obtain ⟨zG1c0, zG1f0⟩ : w13.cell? ⟨w6.heap.size, 0, none⟩ = some (.int .i64 xW1.kind) ∧ w13.frozen? ⟨w6.heap.size, 0, none⟩ = false := bx (S.box 0 rfl) 0 rfl
  obtain ⟨zG1c1, zG1f1⟩ : w13.cell? ⟨w6.heap.size, 1, none⟩ = some (.string xW1.text) ∧ w13.frozen? ⟨w6.heap.size, 1, none⟩ = false := bx (S.box 0 rfl) 1 rfl
  obtain ⟨zW1c0, zW1f0⟩ : w13.cell? ⟨w3.heap.size, 0, none⟩ = some (.int .i64 xW1.kind) ∧ w13.frozen? ⟨w3.heap.size, 0, none⟩ = false := bx (S.box 3 rfl) 0 rfl
  obtain ⟨zW1c1, zW1f1⟩ : w13.cell? ⟨w3.heap.size, 1, none⟩ = some (.string xW1.text) ∧ w13.frozen? ⟨w3.heap.size, 1, none⟩ = false := bx (S.box 3 rfl) 1 rfl
  go_wp2_with fail
  refine (eqMail_any xW1 xW1 _).mono ?_
  rintro e w14 ⟨q14, rfl, hq, hE⟩
  obtain rfl : q14 = true := hq.2 rfl
  clear hq
  clear zG1c0 zG1f0 zG1c1 zG1f1 zW1c0 zW1f0 zW1c1 zW1f1
  replace S : Sep w w14 [plBox w6.heap.size #[.int .i64 xW1.kind, .string xW1.text] 27, plRow 27 2 encMail (.slice aG0 LW0.length cG0) LW0, plRow 27 2 encMail (.slice axl l.length cxl) (marksMail l.length (1)), plBox w3.heap.size #[.int .i64 xW1.kind, .string xW1.text] 27, plRow 27 2 encMail (.slice aW0 LW0.length cW0) LW0] := S.step hE
  clear hE
  have hLW0 := hb0
  go_wp2_with fail
  refine (markMailS_own _ _ _ LW0 _ _ rfl hLW0 (by omega) (by omega) (S.row 1 rfl)).mono ?_
  rintro e w15 ⟨rfl, hq, hg⟩
  replace hq := (show w15.ownsRow _ 27 2 _ (marksMail LW0.length (1)).length ((marksMail LW0.length (1)).flatMap encMail) from by rw [marksMail_len]; exact hq)
  replace S : Sep w w15 [plBox w6.heap.size #[.int .i64 xW1.kind, .string xW1.text] 27, plRow 27 2 encMail (.slice aG0 LW0.length cG0) (marksMail LW0.length (1)), plRow 27 2 encMail (.slice axl l.length cxl) (marksMail l.length (1)), plBox w3.heap.size #[.int .i64 xW1.kind, .string xW1.text] 27, plRow 27 2 encMail (.slice aW0 LW0.length cW0) LW0] := S.grow 1 rfl hg hq (fun b h => .inl h)
  clear hq hg
  go_wp2_with fail
  refine (heldMailS_any _ _ LW0.length (1) _ hb0 (by omega) (by omega) (S.rd 1 encMail_len rfl (by rw [marksMail_len]))).mono ?_
  rintro e w16 ⟨rfl, hE⟩
  replace S : Sep w w16 [plBox w6.heap.size #[.int .i64 xW1.kind, .string xW1.text] 27, plRow 27 2 encMail (.slice aG0 LW0.length cG0) (marksMail LW0.length (1)), plRow 27 2 encMail (.slice axl l.length cxl) (marksMail l.length (1)), plBox w3.heap.size #[.int .i64 xW1.kind, .string xW1.text] 27, plRow 27 2 encMail (.slice aW0 LW0.length cW0) LW0] := S.step hE
  clear hE
  go_wp2_with fail
  refine (toMailS_any al capl l _ hlenl (hcl.ext S.ext)).mono ?_
  rintro e w17 ⟨v17, rfl, ⟨ho, hv⟩, hE⟩
  obtain ⟨asl, csl, hv2, hksl, _, _⟩ := view_owns encMail_len ho
  subst hv2
  clear hv
  have T := Sep.of_owns hE ho
  clear hE ho
  replace S : Sep w w17 [plRow 27 2 encMail (.slice asl l.length csl) l, plBox w6.heap.size #[.int .i64 xW1.kind, .string xW1.text] 27, plRow 27 2 encMail (.slice aG0 LW0.length cG0) (marksMail LW0.length (1)), plRow 27 2 encMail (.slice axl l.length cxl) (marksMail l.length (1)), plBox w3.heap.size #[.int .i64 xW1.kind, .string xW1.text] 27, plRow 27 2 encMail (.slice aW0 LW0.length cW0) LW0] := S.call T
  clear T
  go_wp2_with fail
  refine (implTakeMail _ _ l kind _ hlenl (S.rd 0 encMail_len rfl rfl)).mono ?_
  rintro e w18 ⟨uI0, LI0, xI1, yI2, rfl, hR, T⟩
  obtain ⟨rfl, rfl, rfl⟩ : LW0 = LI0 ∧ xW1 = xI1 ∧ yW2 = yI2 := takeR_fun HR.out hR
  clear hR
  obtain ⟨aI0, cI0, hv2, hkI0, _, _⟩ := view_owns encMail_len (T.row 0 rfl)
  subst hv2
  replace S : Sep w w18 [plRow 27 2 encMail (.slice aI0 LW0.length cI0) LW0, plRow 27 2 encMail (.slice asl l.length csl) l, plBox w6.heap.size #[.int .i64 xW1.kind, .string xW1.text] 27, plRow 27 2 encMail (.slice aG0 LW0.length cG0) (marksMail LW0.length (1)), plRow 27 2 encMail (.slice axl l.length cxl) (marksMail l.length (1)), plBox w3.heap.size #[.int .i64 xW1.kind, .string xW1.text] 27, plRow 27 2 encMail (.slice aW0 LW0.length cW0) LW0] := S.call T
  clear T
  replace S : Sep w (w18.alloc (.cells #[.int .i64 xW1.kind, .string xW1.text] 27)) [plBox w18.heap.size #[.int .i64 xW1.kind, .string xW1.text] 27, plRow 27 2 encMail (.slice aI0 LW0.length cI0) LW0, plRow 27 2 encMail (.slice asl l.length csl) l, plBox w6.heap.size #[.int .i64 xW1.kind, .string xW1.text] 27, plRow 27 2 encMail (.slice aG0 LW0.length cG0) (marksMail LW0.length (1)), plRow 27 2 encMail (.slice axl l.length cxl) (marksMail l.length (1)), plBox w3.heap.size #[.int .i64 xW1.kind, .string xW1.text] 27, plRow 27 2 encMail (.slice aW0 LW0.length cW0) LW0] := S.alloc_at (by simp) _ _
  replace S : Sep w (w18.alloc (.cells #[.int .i64 xW1.kind, .string xW1.text] 27)) [plBox w18.heap.size #[.int .i64 xW1.kind, .string xW1.text] 27, plRow 27 2 encMail (.slice aI0 LW0.length cI0) LW0, plBox w6.heap.size #[.int .i64 xW1.kind, .string xW1.text] 27, plRow 27 2 encMail (.slice aG0 LW0.length cG0) (marksMail LW0.length (1)), plRow 27 2 encMail (.slice axl l.length cxl) (marksMail l.length (1)), plBox w3.heap.size #[.int .i64 xW1.kind, .string xW1.text] 27, plRow 27 2 encMail (.slice aW0 LW0.length cW0) LW0] := S.drop 2
  obtain ⟨zI1c0, zI1f0⟩ : (w18.alloc (.cells #[.int .i64 xW1.kind, .string xW1.text] 27)).cell? ⟨w18.heap.size, 0, none⟩ = some (.int .i64 xW1.kind) ∧ (w18.alloc (.cells #[.int .i64 xW1.kind, .string xW1.text] 27)).frozen? ⟨w18.heap.size, 0, none⟩ = false := bx (S.box 0 rfl) 0 rfl
  obtain ⟨zI1c1, zI1f1⟩ : (w18.alloc (.cells #[.int .i64 xW1.kind, .string xW1.text] 27)).cell? ⟨w18.heap.size, 1, none⟩ = some (.string xW1.text) ∧ (w18.alloc (.cells #[.int .i64 xW1.kind, .string xW1.text] 27)).frozen? ⟨w18.heap.size, 1, none⟩ = false := bx (S.box 0 rfl) 1 rfl
  obtain ⟨zW1c0, zW1f0⟩ : (w18.alloc (.cells #[.int .i64 xW1.kind, .string xW1.text] 27)).cell? ⟨w3.heap.size, 0, none⟩ = some (.int .i64 xW1.kind) ∧ (w18.alloc (.cells #[.int .i64 xW1.kind, .string xW1.text] 27)).frozen? ⟨w3.heap.size, 0, none⟩ = false := bx (S.box 5 rfl) 0 rfl
  obtain ⟨zW1c1, zW1f1⟩ : (w18.alloc (.cells #[.int .i64 xW1.kind, .string xW1.text] 27)).cell? ⟨w3.heap.size, 1, none⟩ = some (.string xW1.text) ∧ (w18.alloc (.cells #[.int .i64 xW1.kind, .string xW1.text] 27)).frozen? ⟨w3.heap.size, 1, none⟩ = false := bx (S.box 5 rfl) 1 rfl
  go_wp2_with fail
  generalize (w18.alloc (.cells #[.int .i64 xW1.kind, .string xW1.text] 27)) = w20 at *
  refine (eqMailS_any _ _ _ _ LW0 LW0 _ (by omega) (by omega) (S.rd 1 encMail_len rfl rfl) (S.rd 6 encMail_len rfl rfl)).mono ?_
  rintro e w19 ⟨q19, rfl, hq, hE⟩
  obtain rfl : q19 = true := hq.2 rfl
  clear hq
  clear zI1c0 zI1f0 zI1c1 zI1f1 zW1c0 zW1f0 zW1c1 zW1f1
  replace S : Sep w w19 [plBox w18.heap.size #[.int .i64 xW1.kind, .string xW1.text] 27, plRow 27 2 encMail (.slice aI0 LW0.length cI0) LW0, plBox w6.heap.size #[.int .i64 xW1.kind, .string xW1.text] 27, plRow 27 2 encMail (.slice aG0 LW0.length cG0) (marksMail LW0.length (1)), plRow 27 2 encMail (.slice axl l.length cxl) (marksMail l.length (1)), plBox w3.heap.size #[.int .i64 xW1.kind, .string xW1.text] 27, plRow 27 2 encMail (.slice aW0 LW0.length cW0) LW0] := S.step hE
  clear hE
  obtain ⟨zI1c0, zI1f0⟩ : w19.cell? ⟨w18.heap.size, 0, none⟩ = some (.int .i64 xW1.kind) ∧ w19.frozen? ⟨w18.heap.size, 0, none⟩ = false := bx (S.box 0 rfl) 0 rfl
  obtain ⟨zI1c1, zI1f1⟩ : w19.cell? ⟨w18.heap.size, 1, none⟩ = some (.string xW1.text) ∧ w19.frozen? ⟨w18.heap.size, 1, none⟩ = false := bx (S.box 0 rfl) 1 rfl
  obtain ⟨zW1c0, zW1f0⟩ : w19.cell? ⟨w3.heap.size, 0, none⟩ = some (.int .i64 xW1.kind) ∧ w19.frozen? ⟨w3.heap.size, 0, none⟩ = false := bx (S.box 5 rfl) 0 rfl
  obtain ⟨zW1c1, zW1f1⟩ : w19.cell? ⟨w3.heap.size, 1, none⟩ = some (.string xW1.text) ∧ w19.frozen? ⟨w3.heap.size, 1, none⟩ = false := bx (S.box 5 rfl) 1 rfl
  go_wp2_with fail
  refine (eqMail_any xW1 xW1 _).mono ?_
  rintro e w21 ⟨q21, rfl, hq, hE⟩
  obtain rfl : q21 = true := hq.2 rfl
  clear hq
  clear zI1c0 zI1f0 zI1c1 zI1f1 zW1c0 zW1f0 zW1c1 zW1f1
  replace S : Sep w w21 [plBox w18.heap.size #[.int .i64 xW1.kind, .string xW1.text] 27, plRow 27 2 encMail (.slice aI0 LW0.length cI0) LW0, plBox w6.heap.size #[.int .i64 xW1.kind, .string xW1.text] 27, plRow 27 2 encMail (.slice aG0 LW0.length cG0) (marksMail LW0.length (1)), plRow 27 2 encMail (.slice axl l.length cxl) (marksMail l.length (1)), plBox w3.heap.size #[.int .i64 xW1.kind, .string xW1.text] 27, plRow 27 2 encMail (.slice aW0 LW0.length cW0) LW0] := S.step hE
  clear hE
  go_wp2_with fail
  refine (heldMailS_any _ _ LW0.length (1) _ hb0 (by omega) (by omega) (S.rd 3 encMail_len rfl (by rw [marksMail_len]))).mono ?_
  rintro e w22 ⟨rfl, hE⟩
  replace S : Sep w w22 [plBox w18.heap.size #[.int .i64 xW1.kind, .string xW1.text] 27, plRow 27 2 encMail (.slice aI0 LW0.length cI0) LW0, plBox w6.heap.size #[.int .i64 xW1.kind, .string xW1.text] 27, plRow 27 2 encMail (.slice aG0 LW0.length cG0) (marksMail LW0.length (1)), plRow 27 2 encMail (.slice axl l.length cxl) (marksMail l.length (1)), plBox w3.heap.size #[.int .i64 xW1.kind, .string xW1.text] 27, plRow 27 2 encMail (.slice aW0 LW0.length cW0) LW0] := S.step hE
  clear hE
  go_wp2
  go_ret
  exact RetB.mk true rfl (by simp) S.ext
end Go.Proofs.Ytlbnfnfaojjpaaa
