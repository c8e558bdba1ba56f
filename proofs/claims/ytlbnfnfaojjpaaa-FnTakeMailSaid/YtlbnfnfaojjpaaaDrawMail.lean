/- The draws of messages: contracts of l20Mail, l20Mails and of the laws' draws. No condition but small sizes. -/
import Derived.Test.YtlbnfnfaojjpaaaDrawF
import Derived.Test.YtlbnfnfaojjpaaaApp
import Derived.Test.YtlbnfnfaojjpaaaMailV
namespace Go.Proofs.Ytlbnfnfaojjpaaa
open Go.RowKit

def MailD (v : Value) (_ : World) : Prop := ∃ x : Mail, v = .agg #[.int .i64 x.kind, .string x.text] ∧ x.text.size ≤ 17

set_option maxHeartbeats 2000000 in
theorem drawMail (g : Nat) (P n : Int) (w : World) (hs : Src g P w) (hP : P ≤ 900000) (hn : n ≤ 1000000) :
    Calls Try.prog 40 #[.pointer (some ⟨g, 0, none⟩), .int .i64 n] w (RetD g P 3 MailD w) := by
  have hg := hs.lt
  have hgne : w.heap.size ≠ g := by omega
  go_enter Try.func40, Try.ntmps40
  go_wp2_with fail
  have hS0 := (Step.refl g w).alloc (.cells #[.int .i64 0, .string ⟨#[]⟩] 27)
  have hs1 := hs.ext ((Ext.refl w).alloc (.cells #[.int .i64 0, .string ⟨#[]⟩] 27))
  have r0 := cell_new w #[.int .i64 0, .string ⟨#[]⟩] 27 0 (.int .i64 0) rfl
  have r1 := cell_new w #[.int .i64 0, .string ⟨#[]⟩] 27 1 (.string ⟨#[]⟩) rfl
  have f0 := frozen_new w #[.int .i64 0, .string ⟨#[]⟩] 27 0
  have f1 := frozen_new w #[.int .i64 0, .string ⟨#[]⟩] 27 1
  have hlt := size_new w (.cells #[.int .i64 0, .string ⟨#[]⟩] 27)
  generalize (w.alloc (.cells #[.int .i64 0, .string ⟨#[]⟩] 27)) = w1 at *
  refine (odd_any g P n _ hs1 (by omega) hn).mono ?_
  rintro e w2 ⟨v, rfl, ⟨b, rfl, hb⟩, hs2, hS⟩
  replace hS0 := hS0.trans hS
  replace r0 := cell_step hS hgne r0
  replace r1 := cell_step hS hgne r1
  replace f0 := frozen_step hS hgne hlt f0
  replace f1 := frozen_step hS hgne hlt f1
  replace hlt := Nat.lt_of_lt_of_le hlt hS.size
  clear hb hS hs1
  cases b with
  | true =>
    go_wp2_with fail
    have hrd : Rd 2 encMail (w2.alloc (.cells #[.int .i64 0, .string ⟨#[]⟩, .int .i64 10, .string ⟨#[]⟩, .int .i64 1, .string ⟨#[48, 49, 50, 51, 52, 53, 54, 55, 56, 57, 48, 49, 50, 51, 52, 53, 54]⟩] 27)) (some ⟨w2.heap.size, 0, none⟩) [⟨0, ⟨#[]⟩⟩, ⟨10, ⟨#[]⟩⟩, ⟨1, ⟨#[48, 49, 50, 51, 52, 53, 54, 55, 56, 57, 48, 49, 50, 51, 52, 53, 54]⟩⟩] := rd_lit_new _ encMail_len rfl
    have hE := (Ext.refl w2).alloc (.cells #[.int .i64 0, .string ⟨#[]⟩, .int .i64 10, .string ⟨#[]⟩, .int .i64 1, .string ⟨#[48, 49, 50, 51, 52, 53, 54, 55, 56, 57, 48, 49, 50, 51, 52, 53, 54]⟩] 27)
    have hne : w2.heap.size ≠ g := by have := hs2.lt; omega
    have hsz : ∀ x ∈ ([⟨0, ⟨#[]⟩⟩, ⟨10, ⟨#[]⟩⟩, ⟨1, ⟨#[48, 49, 50, 51, 52, 53, 54, 55, 56, 57, 48, 49, 50, 51, 52, 53, 54]⟩⟩] : List Mail), x.text.size ≤ 17 := by decide
    have hll : ([⟨0, ⟨#[]⟩⟩, ⟨10, ⟨#[]⟩⟩, ⟨1, ⟨#[48, 49, 50, 51, 52, 53, 54, 55, 56, 57, 48, 49, 50, 51, 52, 53, 54]⟩⟩] : List Mail).length = 3 := rfl
    generalize ([⟨0, ⟨#[]⟩⟩, ⟨10, ⟨#[]⟩⟩, ⟨1, ⟨#[48, 49, 50, 51, 52, 53, 54, 55, 56, 57, 48, 49, 50, 51, 52, 53, 54]⟩⟩] : List Mail) = L at *
    replace hs2 := hs2.ext hE
    replace hS0 := hS0.ext hE
    replace r0 := cell_ext hE r0
    replace r1 := cell_ext hE r1
    replace f0 := (hE.frozen (p := ⟨w.heap.size, 0, none⟩) hlt).trans f0
    replace f1 := (hE.frozen (p := ⟨w.heap.size, 1, none⟩) hlt).trans f1
    have hlt2 := Nat.lt_of_lt_of_le hlt hE.size
    generalize (w2.alloc (.cells #[.int .i64 0, .string ⟨#[]⟩, .int .i64 10, .string ⟨#[]⟩, .int .i64 1, .string ⟨#[48, 49, 50, 51, 52, 53, 54, 55, 56, 57, 48, 49, 50, 51, 52, 53, 54]⟩] 27)) = w3 at *
    refine (pick_any g (P + 1) 3 _ hs2 (by omega)).mono ?_
    rintro e w4 ⟨v, rfl, ⟨i, rfl, x0, x1, _⟩, hs3, hS⟩
    replace hS0 := hS0.trans hS
    replace r0 := cell_step hS hgne r0
    replace r1 := cell_step hS hgne r1
    replace f0 := frozen_step hS hgne hlt2 f0
    replace f1 := frozen_step hS hgne hlt2 f1
    replace hrd := hrd.step hS (fun _ b off h => by cases h; exact hne)
    replace x1 := x1 (by omega)
    obtain ⟨k, rfl⟩ : ∃ k : Nat, i = k := ⟨i.toNat, by omega⟩
    obtain ⟨x, hx, hcell⟩ := lit_at hrd (k := k) (by omega)
    have c0 : w4.cell? ⟨w2.heap.size, k * 2, none⟩ = some (.int .i64 x.kind) := hcell 0 _ rfl
    have c1 := hcell 1 _ rfl
    have hx17 := hsz x hx
    clear hcell hx hE hrd hsz
    go_wp2
    try simp only [Exit.inBlock, Exit.then]
    refine bodyPost_ret (v := .agg #[.int .i64 x.kind, .string x.text]) (by simp [results, Try.results40, go_sem, r0, r1]) rfl ?_
    exact RetD.mk ⟨x, rfl, hx17⟩ ((hs3.setCell (p := ⟨w.heap.size, 0, none⟩) hg _).setCell (p := ⟨w.heap.size, 1, none⟩) hg _) (by omega) ((hS0.setCell (p := ⟨w.heap.size, 0, none⟩) (Nat.le_refl _) _).setCell (p := ⟨w.heap.size, 1, none⟩) (Nat.le_refl _) _)
  | false =>
    go_wp2_with fail
    refine (pick_any g (P + 1) 4 _ hs2 (by omega)).mono ?_
    rintro e w4 ⟨v, rfl, ⟨q, rfl, q0, q1, _⟩, hs3, hS⟩
    replace hS0 := hS0.trans hS
    replace r0 := cell_step hS hgne r0
    replace r1 := cell_step hS hgne r1
    replace f0 := frozen_step hS hgne hlt f0
    replace f1 := frozen_step hS hgne hlt f1
    replace hlt := Nat.lt_of_lt_of_le hlt hS.size
    have hq : 1 + q < 10 := by have := q1 (by omega); omega
    clear q1 hS hs2
    go_wp2_with fail
    have hrd : Rd 1 encStr1 (w4.alloc (.cells #[.string ⟨#[]⟩, .string ⟨#[97]⟩, .string ⟨#[98, 99]⟩] 9)) (some ⟨w4.heap.size, 0, none⟩) [⟨#[]⟩, ⟨#[97]⟩, ⟨#[98, 99]⟩] := rd_lit_new _ (fun _ => rfl) rfl
    have hE := (Ext.refl w4).alloc (.cells #[.string ⟨#[]⟩, .string ⟨#[97]⟩, .string ⟨#[98, 99]⟩] 9)
    have hne : w4.heap.size ≠ g := by have := hs3.lt; omega
    have hsz : ∀ x ∈ ([⟨#[]⟩, ⟨#[97]⟩, ⟨#[98, 99]⟩] : List ByteArray), x.size ≤ 17 := by decide
    have hll : ([⟨#[]⟩, ⟨#[97]⟩, ⟨#[98, 99]⟩] : List ByteArray).length = 3 := rfl
    generalize ([⟨#[]⟩, ⟨#[97]⟩, ⟨#[98, 99]⟩] : List ByteArray) = L at *
    replace hs3 := hs3.ext hE
    replace hS0 := hS0.ext hE
    replace r0 := cell_ext hE r0
    replace r1 := cell_ext hE r1
    replace f0 := (hE.frozen (p := ⟨w.heap.size, 0, none⟩) hlt).trans f0
    replace f1 := (hE.frozen (p := ⟨w.heap.size, 1, none⟩) hlt).trans f1
    have hlt2 := Nat.lt_of_lt_of_le hlt hE.size
    generalize (w4.alloc (.cells #[.string ⟨#[]⟩, .string ⟨#[97]⟩, .string ⟨#[98, 99]⟩] 9)) = w5 at *
    refine (pick_any g (P + 1 + 1) 3 _ hs3 (by omega)).mono ?_
    rintro e w6 ⟨v, rfl, ⟨i, rfl, x0, x1, _⟩, hs4, hS⟩
    replace hS0 := hS0.trans hS
    replace r0 := cell_step hS hgne r0
    replace r1 := cell_step hS hgne r1
    replace f0 := frozen_step hS hgne hlt2 f0
    replace f1 := frozen_step hS hgne hlt2 f1
    replace hrd := hrd.step hS (fun _ b off h => by cases h; exact hne)
    replace x1 := x1 (by omega)
    obtain ⟨k, rfl⟩ : ∃ k : Nat, i = k := ⟨i.toNat, by omega⟩
    obtain ⟨x, hx, hcell⟩ := lit_at hrd (k := k) (by omega)
    have c0 : w6.cell? ⟨w4.heap.size, k, none⟩ = some (.string x) := by simpa using hcell 0 _ rfl
    have hx17 := hsz x hx
    clear hcell hx hE hrd hsz
    have hw : IntKind.i64.wrap (1 + q) = 1 + q := IntWalk.i64_in _ (by omega)
    go_wp2
    try simp only [Exit.inBlock, Exit.then]
    refine bodyPost_ret (v := .agg #[.int .i64 (1 + q), .string x]) (by simp [results, Try.results40, go_sem, r0, r1]) rfl ?_
    exact RetD.mk ⟨⟨1 + q, x⟩, rfl, hx17⟩ ((hs4.setCell (p := ⟨w.heap.size, 0, none⟩) hg _).setCell (p := ⟨w.heap.size, 1, none⟩) hg _) (by omega) ((hS0.setCell (p := ⟨w.heap.size, 0, none⟩) (Nat.le_refl _) _).setCell (p := ⟨w.heap.size, 1, none⟩) (Nat.le_refl _) _)

/-- At most K messages in new memory. -/
def MailsD (base : Nat) (K : Nat) (v : Value) (w : World) : Prop := ∃ l : List Mail, l.length ≤ K ∧ (∀ x ∈ l, x.text.size ≤ 17) ∧ w.ownsRow base 27 2 v l.length (l.flatMap encMail)

set_option maxHeartbeats 2000000 in
theorem drawMails (g : Nat) (P n : Int) (w : World) (hs : Src g P w) (hP : P ≤ 800000) (hn : n ≤ 1000000) :
    Calls Try.prog 28 #[.pointer (some ⟨g, 0, none⟩), .int .i64 n] w (RetD g P 40 (MailsD w.heap.size 10) w) := by
  have hg := hs.lt
  go_enter Try.func28, Try.ntmps28
  go_wp2_with fail
  have hS0 := (Step.refl g w).alloc (.cells #[] 27)
  have hs1 := hs.ext ((Ext.refl w).alloc (.cells #[] 27))
  have hown : (w.alloc (.cells #[] 27)).ownsRow w.heap.size 27 2 (.slice (some ⟨w.heap.size, 0, none⟩) 0 0) 0 (([] : List Mail).flatMap encMail) := owns_lit_new [] encMail_len rfl rfl (by omega) (Nat.le_refl _)
  generalize (w.alloc (.cells #[] 27)) = w1 at *
  refine (pick_any g P 9 _ hs1 (by omega)).mono ?_
  rintro e w2 ⟨v, rfl, ⟨q, rfl, q0, q1, _⟩, hs2, hS⟩
  replace hS0 := hS0.trans hS
  replace hown := ownsRow_step hown hS hg
  have q9 : q < 9 := q1 (by omega)
  clear q1 hS hs1
  go_wp2
  go_loopw [5, 6] (fun vo i wr => ∃ (k : Nat) (l : List Mail), k + l.length ≤ 9 ∧ i = .int .i64 k ∧ (∀ x ∈ l, x.text.size ≤ 17) ∧ wr.ownsRow w.heap.size 27 2 vo l.length (l.flatMap encMail) ∧ Src g (P + 1 + 3 * (l.length : Int)) wr ∧ Step g w wr) (fun _ i _ => (intOf i).toNat)
  case atStart => exact ⟨q.toNat, [], by simp; omega, by rw [Int.toNat_of_nonneg q0], by simp, hown, hs2.mono (by simp), hS0⟩
  case round =>
    obtain ⟨k, l, hkl, rfl, hl17, hown, hs3, hS⟩ := hrel
    by_cases h0 : 0 < k
    · obtain ⟨m, rfl⟩ : ∃ m, k = m + 1 := ⟨k - 1, by omega⟩
      have h0' : (0 : Int) < ((m + 1 : Nat) : Int) := by omega
      have hw : IntKind.i64.wrap (((m + 1 : Nat) : Int) - 1) = (m : Int) := by rw [show ((m + 1 : Nat) : Int) - 1 = m by omega]; exact IntWalk.i64_in _ (by omega)
      go_wp2_with fail
      refine (drawMail g _ 0 wr hs3 (by omega) (by omega)).mono ?_
      rintro e w4 ⟨v, rfl, ⟨x, rfl, hx17⟩, hs4, hS4⟩
      replace hS := hS.trans hS4
      replace hown := ownsRow_step hown hS4 hg
      clear hS4 hs3
      have E2 := (Ext.refl _).alloc (a := w4) (.cells #[.int .i64 x.kind, .string x.text] 27)
      have rdm : Rd 2 encMail (w4.alloc (.cells #[.int .i64 x.kind, .string x.text] 27)) (some ⟨w4.heap.size, 0, none⟩) [x] := rd_lit_new [x] encMail_len rfl
      replace hown := ownsRow_ext hown E2
      replace hS := hS.ext E2
      replace hs4 := hs4.ext E2
      go_wp2_with (at_builtin; refine wpList_append_rd rfl _ _ 23 rfl w.heap.size 27 _ 2 _ Try.underlying23 infoMail rfl (by decide) encMail_len encMail_one _ l.length l rfl hown rfl _ 1 1 [x] rfl rfl rdm (by omega) (by omega) hS.size ?_)
      intro v' w5 hown' hgr
      replace hS := hS.row hgr (fun i h => (hown.lt i h).1)
      replace hs4 := hs4.row hgr (fun i h => by have := (hown.lt i h).1; omega)
      have hl17' : ∀ y ∈ l ++ [x], y.text.size ≤ 17 := fun y hy => by
        rcases List.mem_append.1 hy with h | h
        · exact hl17 y h
        · rw [List.mem_singleton.1 h]; exact hx17
      clear hown hgr rdm E2
      go_wp2
      go_roundw
      case rel => exact ⟨m, l ++ [x], by simp; omega, by go_num, hl17', by simpa using hown', hs4.mono (by simp; omega), hS⟩
      case measure => simp [intOf]
    · go_wp2_with fail
      obtain rfl : k = 0 := by omega
      refine (odd_any g _ n wr hs3 (by omega) hn).mono ?_
      rintro e w4 ⟨v, rfl, ⟨b, rfl, hb⟩, hs4, hS4⟩
      replace hS := hS.trans hS4
      replace hown := ownsRow_step hown hS4 hg
      clear hS4 hs3 hb
      cases b with
      | false =>
        go_wp2
        go_ret
        exact RetD.mk ⟨l, by omega, hl17, hown⟩ hs4 (by omega) hS
      | true =>
        go_wp2_with fail
        refine (drawMail g _ 1 _ hs4 (by omega) (by omega)).mono ?_
        rintro e w6 ⟨v, rfl, ⟨x, rfl, hx17⟩, hs5, hS4⟩
        replace hS := hS.trans hS4
        replace hown := ownsRow_step hown hS4 hg
        clear hS4 hs4
        have E2 := (Ext.refl _).alloc (a := w6) (.cells #[.int .i64 x.kind, .string x.text] 27)
        have rdm : Rd 2 encMail (w6.alloc (.cells #[.int .i64 x.kind, .string x.text] 27)) (some ⟨w6.heap.size, 0, none⟩) [x] := rd_lit_new [x] encMail_len rfl
        replace hown := ownsRow_ext hown E2
        replace hS := hS.ext E2
        replace hs5 := hs5.ext E2
        go_wp2_with (at_builtin; refine wpList_append_rd rfl _ _ 23 rfl w.heap.size 27 _ 2 _ Try.underlying23 infoMail rfl (by decide) encMail_len encMail_one _ l.length l rfl hown rfl _ 1 1 [x] rfl rfl rdm (by omega) (by omega) hS.size ?_)
        intro v' w7 hown' hgr
        replace hS := hS.row hgr (fun i h => (hown.lt i h).1)
        replace hs5 := hs5.row hgr (fun i h => by have := (hown.lt i h).1; omega)
        have hl17' : ∀ y ∈ l ++ [x], y.text.size ≤ 17 := fun y hy => by
          rcases List.mem_append.1 hy with h | h
          · exact hl17 y h
          · rw [List.mem_singleton.1 h]; exact hx17
        clear hown hgr rdm E2
        go_wp2
        go_ret
        exact RetD.mk ⟨l ++ [x], by simp; omega, hl17', by simpa using hown'⟩ hs5 (by omega) hS

/-- What a law's draw of messages gives: a list in new memory. -/
def MailsV (K : Nat) (w0 : World) (v : Value) (w : World) : Prop := MailsD w0.heap.size K v w

set_option maxHeartbeats 1000000 in
theorem drawMailsValid (a : Option Addr) (cap : Nat) (l : List Int) (w : World) (hl : l.length ≤ 9223372036854775807) (hcap : l.length ≤ cap) (hu : ∀ x ∈ l, 0 ≤ x ∧ x ≤ 255) (hc : Rd 1 encU8 w a l) :
    Calls Try.prog 9 #[.slice a l.length cap] w (RetV (MailsD w.heap.size 10) w) := by
  go_enter Try.func9, Try.ntmps9
  go_wp2_with fail
  refine (open_any a cap l w hl hcap hu hc).mono ?_
  rintro e w1 ⟨v, rfl, ⟨rfl, hs⟩, E⟩
  go_wp2_with fail
  refine (drawMails _ _ _ _ hs (by omega) (by omega)).mono ?_
  rintro e w2 ⟨v, rfl, ⟨L, h1, h2, h3⟩, hs2, hS⟩
  go_wp2
  go_ret
  exact RetV.mk ⟨L, h1, h2, ownsRow_base h3 E.size⟩ (hS.toExt E (Nat.le_refl _))
end Go.Proofs.Ytlbnfnfaojjpaaa
