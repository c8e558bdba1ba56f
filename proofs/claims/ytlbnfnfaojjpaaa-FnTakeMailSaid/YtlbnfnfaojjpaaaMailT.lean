/- TakeMail of the program: contracts. Condition: lists of at most 2^20. -/
import Derived.Test.YtlbnfnfaojjpaaaMailP
import Derived.Test.YtlbnfnfaojjpaaaMailDel
import Derived.Test.YtlbnfnfaojjpaaaQuiet
import Derived.Test.YtlbnfnfaojjpaaaView
import Derived.Test.YtlbnfnfaojjpaaaOrdC
import Derived.Test.YtlbnfnfaojjpaaaSep
import Derived.Deep.Cut
namespace Go.Proofs.Ytlbnfnfaojjpaaa
open Go.RowKit

set_option maxHeartbeats 4000000 in
theorem mailPlace_any (a : Option Addr) (cap : Nat) (l : List Mail) (kind : Int) (w : World) (hl : l.length ≤ 1048576) (hk1 : -9 ≤ kind) (hk2 : kind ≤ 9) (hc : Rd 2 encMail w a l) :
    Calls Try.prog 38 #[.slice a l.length cap, .int .i64 kind] w fun e w' => ∃ b, e = .returned (.int .i64 b) ∧ BestM kind l l.length b ∧ Ext w w' := by
  go_enter Try.func38, Try.ntmps38
  go_wp2
  go_loopw [5, 10] (fun v i wr => ∃ k : Nat, ∃ b : Int, k ≤ l.length ∧ i = .int .i64 k ∧ v = .int .i64 b ∧ BestM kind l k b ∧ Ext w wr) (fun _ i _ => l.length - (intOf i).toNat)
  case atStart => exact ⟨0, -1, Nat.zero_le _, rfl, rfl, bestM_zero _ _, Ext.refl _⟩
  case round =>
    obtain ⟨k, b, hk, rfl, rfl, hB, hb⟩ := hrel
    have HB := Lib.hid hB
    obtain ⟨hb1, hb2⟩ := bestM_range hB
    clear hB
    by_cases hlt : k < l.length
    · obtain ⟨x, p, off, hx, rfl, c0, c1⟩ := atMail (hc.ext hb) hlt
      have Hx := Lib.hid hx
      clear hx
      have E1 := (Ext.refl wr).alloc (.cells #[.int .i64 x.kind, .string x.text] 27)
      have n0 := cell_new wr #[.int .i64 x.kind, .string x.text] 27 0 (.int .i64 x.kind) rfl
      have hne : p ≠ wr.heap.size := by
        have := World.block_lt_of_cell? _ _ c0
        simp only [] at this
        omega
      have i0 : (0 : Int) ≤ (k : Int) := by omega
      have i1 : (k : Int) < (l.length : Int) := by omega
      have hw := fun j (y : Mail) (hj : j < k) => (by
        obtain ⟨z, p', off', hz, hpo, d0, d1⟩ := atMail (hc.ext (hb.trans E1)) (show j < l.length by omega)
        obtain ⟨rfl, rfl⟩ : p = p' ∧ off = off' := by simpa using hpo
        exact fun (h : l[j]? = some y) => by
          rw [hz] at h; cases h; exact d0 : l[j]? = some y → (wr.alloc (.cells #[.int .i64 x.kind, .string x.text] 27)).cell? ⟨p, off + j * 2, none⟩ = some (.int .i64 y.kind))
      have Hw := Lib.hid hw
      replace hb := hb.trans E1
      clear hw hc
      go_upto_region 5 with fail
      clear c0 c1
      generalize (wr.alloc (.cells #[.int .i64 x.kind, .string x.text] 27)) = w1 at *
      by_cases hkind : kind < 0
      · have hge : ¬ 0 ≤ kind := by omega
        by_cases hfit : x.kind ≤ -kind
        · have Hf : Hid (FitsM kind x) := Lib.hid (.inr (.inr ⟨hkind, hfit⟩))
          by_cases hneg : b < 0
          · have HN := Lib.hid (bestM_take HB.out Hx.out Hf.out (.inl hneg))
            clear Hw
            go_quiet (fail)
            go_wp2
            go_roundw
            case rel => exact ⟨k + 1, k, by omega, by go_num, rfl, HN.out, hb.drewN _⟩
            case measure => simp [intOf]; omega
          · obtain ⟨j, y, rfl, hj, hy, _⟩ := bestM_at HB.out (by omega)
            have d0 := Hw.out j y hj hy
            have Hy := Lib.hid hy
            have j0 : (0 : Int) ≤ (j : Int) := by omega
            have j1 : (j : Int) < (l.length : Int) := by omega
            have hnn : decide ((j : Int) < 0) = false := by simp
            clear Hw hy
            by_cases hxy : x.kind < y.kind
            · have HN := Lib.hid (bestM_take HB.out Hx.out Hf.out (.inr ⟨hkind, j, y, rfl, Hy.out, hxy⟩))
              go_quiet (fail)
              go_wp2
              go_roundw
              case rel => exact ⟨k + 1, k, by omega, by go_num, rfl, HN.out, hb.drewN _⟩
              case measure => simp [intOf]; omega
            · have HN := Lib.hid (bestM_keep HB.out Hx.out (.inr ⟨by omega, fun _ j' z hj' hz => by
                obtain rfl : j = j' := by omega
                have h1 := Hy.out
                rw [hz] at h1; cases h1; omega⟩))
              have hxy2 : decide (x.kind < y.kind) = false := by simpa using hxy
              go_quiet (fail)
              go_wp2
              go_roundw
              case rel => exact ⟨k + 1, j, by omega, by go_num, rfl, HN.out, hb.drewN _⟩
              case measure => simp [intOf]; omega
        · have HN := Lib.hid (bestM_keep HB.out Hx.out (.inl (fun h => by rcases h with h | ⟨h, _⟩ | ⟨_, h⟩ <;> omega)))
          have hfit2 : decide (x.kind ≤ -kind) = false := by simpa using hfit
          clear Hw
          go_quiet (fail)
          go_wp2
          go_roundw
          case rel => exact ⟨k + 1, b, by omega, by go_num, rfl, HN.out, hb.drewN _⟩
          case measure => simp [intOf]; omega
      · have hge : 0 ≤ kind := by omega
        have hk3 : decide (kind < 0) = false := by simpa using hkind
        by_cases hneg : b < 0
        · by_cases hz : kind = 0
          · have tz : (kind == 0) = true := by simpa using hz
            have HN := Lib.hid (bestM_take HB.out Hx.out (.inl hz) (.inl hneg))
            clear Hw hz
            go_quiet (fail)
            go_wp2
            go_roundw
            case rel => exact ⟨k + 1, k, by omega, by go_num, rfl, HN.out, hb.drewN _⟩
            case measure => simp [intOf]; omega
          · have tz : (kind == 0) = false := by simpa using hz
            by_cases he : x.kind = kind
            · have te : (x.kind == kind) = true := by simpa using he
              have HN := Lib.hid (bestM_take HB.out Hx.out (.inr (.inl ⟨by omega, he⟩)) (.inl hneg))
              clear Hw hz he
              go_quiet (fail)
              go_wp2
              go_roundw
              case rel => exact ⟨k + 1, k, by omega, by go_num, rfl, HN.out, hb.drewN _⟩
              case measure => simp [intOf]; omega
            · have te : (x.kind == kind) = false := by simpa using he
              have HN := Lib.hid (bestM_keep HB.out Hx.out (.inl (fun h => by rcases h with h | ⟨_, h⟩ | ⟨h, _⟩ <;> omega)))
              clear Hw hz he
              go_quiet (fail)
              go_wp2
              go_roundw
              case rel => exact ⟨k + 1, b, by omega, by go_num, rfl, HN.out, hb.drewN _⟩
              case measure => simp [intOf]; omega
        · have HN := Lib.hid (bestM_keep HB.out Hx.out (.inr ⟨by omega, fun h => absurd h hkind⟩))
          have hnn : decide (b < 0) = false := by simpa using hneg
          clear Hw
          go_quiet (fail)
          go_wp2
          go_roundw
          case rel => exact ⟨k + 1, b, by omega, by go_num, rfl, HN.out, hb.drewN _⟩
          case measure => simp [intOf]; omega
    · obtain rfl : k = l.length := by omega
      have hni : ¬ (l.length : Int) < (l.length : Int) := by omega
      go_wp2
      go_ret
      exact ⟨b, rfl, HB.out, hb⟩

/-- Messages in new memory, one beside them, and a bool. -/
def RetTk (R : List Mail → Mail → Bool → Prop) (w : World) (e : Ending) (w' : World) : Prop :=
  ∃ u L m ok, e = .returned (.tuple #[u, .agg #[.int .i64 m.kind, .string m.text], .bool ok]) ∧ R L m ok ∧ Sep w w' [plRow 27 2 encMail u L]
theorem RetTk.mk {R : List Mail → Mail → Bool → Prop} {w w' : World} {u : Value} {k : Int} {t : ByteArray} {ok : Bool} (L : List Mail) (h : R L ⟨k, t⟩ ok) (S : Sep w w' [plRow 27 2 encMail u L]) :
    RetTk R w (.returned (.tuple #[u, .agg #[.int .i64 k, .string t], .bool ok])) w' := ⟨u, L, ⟨k, t⟩, ok, rfl, h, S⟩

/-- The last statement's operations, what each leaves. -/
def VTk (B : Nat) (p off cap : Nat) (l L : List Mail) (j : Nat) (m : Mail) : Nat → Value → World → Prop := fun i v wv => match i with
  | 0 => v = .slice (some ⟨p, off, none⟩) l.length cap
  | 1 => ∃ g c, v = .slice (some ⟨g, 0, none⟩) l.length c ∧ wv.ownsRow B 27 2 (.slice (some ⟨g, 0, none⟩) l.length c) l.length (l.flatMap encMail)
  | 2 => v = .int .i64 j
  | 3 => v = .int .i64 j
  | 4 => v = .int .i64 (j + 1)
  | 5 => wv.ownsRow B 27 2 v L.length (L.flatMap encMail)
  | 6 => v = .slice (some ⟨p, off, none⟩) l.length cap
  | 7 => v = .int .i64 j
  | 8 => v = .pointer (some ⟨p, off + j * 2, none⟩)
  | 9 => v = .agg #[.int .i64 m.kind, .string m.text]
  | 10 => wv.ownsRow B 27 2 v L.length (L.flatMap encMail)
  | _ => True
theorem VTk.ext {B p off cap : Nat} {l L : List Mail} {j : Nat} {m : Mail} (i : Nat) (v : Value) (w w' : World) (h : VTk B p off cap l L j m i v w) (hE : Ext w w') : VTk B p off cap l L j m i v w' := by
  match i with
  | 0 => exact h
  | 1 => obtain ⟨g, c, h1, h2⟩ := h; exact ⟨g, c, h1, ownsRow_ext h2 hE⟩
  | 2 => exact h
  | 3 => exact h
  | 4 => exact h
  | 5 => exact ownsRow_ext (show w.ownsRow B _ _ _ _ _ from h) hE
  | 6 => exact h
  | 7 => exact h
  | 8 => exact h
  | 9 => exact h
  | 10 => exact ownsRow_ext (show w.ownsRow B _ _ _ _ _ from h) hE
  | (n + 11) => trivial
def consTk (i : Nat) : Option Nat := if i = 1 then some 5 else none

set_option maxHeartbeats 4000000 in
theorem implTakeMail (a : Option Addr) (cap : Nat) (l : List Mail) (kind : Int) (w : World) (hl : l.length ≤ 1048576) (hc : Rd 2 encMail w a l) :
    Calls Try.prog 23 #[.slice a l.length cap, .int .i64 kind] w (RetTk (TakeR l kind) w) := by
  go_enter Try.func23, Try.ntmps23
  have S := Sep.start w
  replace S : Sep w (w.alloc (.cells #[.int .i64 0, .string ⟨#[]⟩] 27)) [plBox w.heap.size #[.int .i64 0, .string ⟨#[]⟩] 27] := S.alloc_at (by simp) _ _
  go_wp2_with fail
  generalize (w.alloc (.cells #[.int .i64 0, .string ⟨#[]⟩] 27)) = w1 at *
  refine (implMailsValid _ _ l _ (by omega) (hc.ext S.ext)).mono ?_
  rintro e w2 ⟨v0, rfl, hv0, hE⟩
  have Hv0 := Lib.hid hv0
  clear hv0
  replace S : Sep w w2 [plBox w.heap.size #[.int .i64 0, .string ⟨#[]⟩] 27] := S.step hE
  clear hE
  have bad : ¬ (MailsOk l ∧ -9 ≤ kind ∧ kind ≤ 9) → Hid (TakeR l kind [] ⟨0, ⟨#[]⟩⟩ false) := fun h => Lib.hid (.inl ⟨h, rfl, rfl, rfl⟩)
  cases v0 with
  | false =>
    have HR := bad (fun h => Bool.noConfusion (Hv0.out.2 h.1))
    obtain ⟨rbc0, rbf0⟩ : w2.cell? ⟨w.heap.size, 0, none⟩ = some (.int .i64 0) ∧ w2.frozen? ⟨w.heap.size, 0, none⟩ = false := bx (S.box 0 rfl) 0 rfl
    obtain ⟨rbc1, rbf1⟩ : w2.cell? ⟨w.heap.size, 1, none⟩ = some (.string ⟨#[]⟩) ∧ w2.frozen? ⟨w.heap.size, 1, none⟩ = false := bx (S.box 0 rfl) 1 rfl
    clear bad
    go_wp2
    try simp only [Exit.inBlock, Exit.then]
    refine bodyPost_ret (v := .tuple #[.slice none 0 0, .agg #[.int .i64 0, .string ⟨#[]⟩], .bool false]) (by simp [results, Try.results23, go_sem, rbc0, rbc1]) rfl ?_
    replace S : Sep w (w2.setCell ⟨w.heap.size, 0, none⟩ (.int .i64 0)) [plBox w.heap.size #[.int .i64 0, .string ⟨#[]⟩] 27] := S.set 0 rfl 0 _
    replace S : Sep w ((w2.setCell ⟨w.heap.size, 0, none⟩ (.int .i64 0)).setCell ⟨w.heap.size, 1, none⟩ (.string ⟨#[]⟩)) [plBox w.heap.size #[.int .i64 0, .string ⟨#[]⟩] 27] := S.set 0 rfl 1 _
    replace S : Sep w ((w2.setCell ⟨w.heap.size, 0, none⟩ (.int .i64 0)).setCell ⟨w.heap.size, 1, none⟩ (.string ⟨#[]⟩)) [] := S.drop 0
    exact RetTk.mk [] HR.out (S.nil _ _ _)
  | true =>
    have HMO := Lib.hid (Hv0.out.1 rfl)
    clear Hv0
    by_cases hkd : -9 ≤ kind ∧ kind ≤ 9
    rotate_left
    · have HR := bad (fun h => hkd h.2)
      have ein := inB_false hkd
      clear bad
      obtain ⟨rbc0, rbf0⟩ : w2.cell? ⟨w.heap.size, 0, none⟩ = some (.int .i64 0) ∧ w2.frozen? ⟨w.heap.size, 0, none⟩ = false := bx (S.box 0 rfl) 0 rfl
      obtain ⟨rbc1, rbf1⟩ : w2.cell? ⟨w.heap.size, 1, none⟩ = some (.string ⟨#[]⟩) ∧ w2.frozen? ⟨w.heap.size, 1, none⟩ = false := bx (S.box 0 rfl) 1 rfl
      go_wp2_with (go_at_call 32; refine ((within_any _ _ _ _).mono (fun e w2 h => by rw [ein] at h; exact h)).mono ?_; rintro e w' ⟨rfl, rfl⟩)
      try simp only [Exit.inBlock, Exit.then]
      refine bodyPost_ret (v := .tuple #[.slice none 0 0, .agg #[.int .i64 0, .string ⟨#[]⟩], .bool false]) (by simp [results, Try.results23, go_sem, rbc0, rbc1]) rfl ?_
      replace S : Sep w (w2.setCell ⟨w.heap.size, 0, none⟩ (.int .i64 0)) [plBox w.heap.size #[.int .i64 0, .string ⟨#[]⟩] 27] := S.set 0 rfl 0 _
      replace S : Sep w ((w2.setCell ⟨w.heap.size, 0, none⟩ (.int .i64 0)).setCell ⟨w.heap.size, 1, none⟩ (.string ⟨#[]⟩)) [plBox w.heap.size #[.int .i64 0, .string ⟨#[]⟩] 27] := S.set 0 rfl 1 _
      replace S : Sep w ((w2.setCell ⟨w.heap.size, 0, none⟩ (.int .i64 0)).setCell ⟨w.heap.size, 1, none⟩ (.string ⟨#[]⟩)) [] := S.drop 0
      exact RetTk.mk [] HR.out (S.nil _ _ _)
    have ein := inB_iff.2 hkd
    have HOK : Hid (MailsOk l ∧ -9 ≤ kind ∧ kind ≤ 9) := Lib.hid ⟨HMO.out, hkd⟩
    obtain ⟨hk1, hk2⟩ := hkd
    clear bad HMO
    obtain ⟨rbc0, rbf0⟩ : w2.cell? ⟨w.heap.size, 0, none⟩ = some (.int .i64 0) ∧ w2.frozen? ⟨w.heap.size, 0, none⟩ = false := bx (S.box 0 rfl) 0 rfl
    obtain ⟨rbc1, rbf1⟩ : w2.cell? ⟨w.heap.size, 1, none⟩ = some (.string ⟨#[]⟩) ∧ w2.frozen? ⟨w.heap.size, 1, none⟩ = false := bx (S.box 0 rfl) 1 rfl
    go_upto_region 3 with (go_at_call 32; refine ((within_any _ _ _ _).mono (fun e w2 h => by rw [ein] at h; exact h)).mono ?_; rintro e w' ⟨rfl, rfl⟩)
    go_wp2_with fail
    refine (mailPlace_any a cap l kind w2 hl hk1 hk2 (hc.ext S.ext)).mono ?_
    rintro e w3 ⟨b, rfl, hB, hE⟩
    have HB := Lib.hid hB
    clear ein
    clear rbc0 rbf0 rbc1 rbf1
    replace S : Sep w w3 [plBox w.heap.size #[.int .i64 0, .string ⟨#[]⟩] 27] := S.step hE
    clear hE
    by_cases hneg : b < 0
    · have HR : Hid (TakeR l kind l ⟨0, ⟨#[]⟩⟩ false) := Lib.hid (.inr ⟨HOK.out, b, HB.out, .inl ⟨hneg, rfl, rfl, rfl⟩⟩)
      clear hB
      go_wp2_with fail
      refine (cloneMail_any a cap l w3 hl (hc.ext S.ext)).mono ?_
      rintro e w4 ⟨u4, rfl, ho, hE⟩
      have T := Sep.of_owns hE ho
      clear ho hE
      replace S : Sep w w4 [plRow 27 2 encMail u4 l, plBox w.heap.size #[.int .i64 0, .string ⟨#[]⟩] 27] := S.call T
      clear T
      obtain ⟨rbc0, rbf0⟩ : w4.cell? ⟨w.heap.size, 0, none⟩ = some (.int .i64 0) ∧ w4.frozen? ⟨w.heap.size, 0, none⟩ = false := bx (S.box 1 rfl) 0 rfl
      obtain ⟨rbc1, rbf1⟩ : w4.cell? ⟨w.heap.size, 1, none⟩ = some (.string ⟨#[]⟩) ∧ w4.frozen? ⟨w.heap.size, 1, none⟩ = false := bx (S.box 1 rfl) 1 rfl
      go_wp2
      try simp only [Exit.inBlock, Exit.then]
      refine bodyPost_ret (v := .tuple #[u4, .agg #[.int .i64 0, .string ⟨#[]⟩], .bool false]) (by simp [results, Try.results23, go_sem, rbc0, rbc1]) rfl ?_
      replace S : Sep w (w4.setCell ⟨w.heap.size, 0, none⟩ (.int .i64 0)) [plRow 27 2 encMail u4 l, plBox w.heap.size #[.int .i64 0, .string ⟨#[]⟩] 27] := S.set 1 rfl 0 _
      replace S : Sep w ((w4.setCell ⟨w.heap.size, 0, none⟩ (.int .i64 0)).setCell ⟨w.heap.size, 1, none⟩ (.string ⟨#[]⟩)) [plRow 27 2 encMail u4 l, plBox w.heap.size #[.int .i64 0, .string ⟨#[]⟩] 27] := S.set 1 rfl 1 _
      replace S : Sep w ((w4.setCell ⟨w.heap.size, 0, none⟩ (.int .i64 0)).setCell ⟨w.heap.size, 1, none⟩ (.string ⟨#[]⟩)) [plRow 27 2 encMail u4 l] := S.drop 1
      exact RetTk.mk l HR.out S
    · obtain ⟨j, m, rfl, hj, hm, _⟩ := bestM_at hB (by omega)
      have HR : Hid (TakeR l kind (l.take j ++ l.drop (j + 1)) m true) := Lib.hid (.inr ⟨HOK.out, j, HB.out, .inr ⟨j, rfl, hm, rfl, rfl⟩⟩)
      have Hm := Lib.hid hm
      clear hB hm
      obtain ⟨L, hL⟩ : ∃ L, L = l.take j ++ l.drop (j + 1) := ⟨_, rfl⟩
      rw [← hL] at HR
      have HL := Lib.hid hL
      clear hL
      have hnn : decide ((j : Int) < 0) = false := by simp
      go_upto_region 6 with fail
      have hcd := (hc.ext S.ext).ext (Ext.refl w3).drew
      obtain ⟨x, p, off, hx, rfl, c0, c1⟩ := atMail hcd hj
      obtain rfl : m = x := by
        have := Hm.out
        rw [hx] at this; exact (Option.some.inj this).symm
      clear hx
      have j0 : (0 : Int) ≤ (j : Int) := by omega
      have j1 : (j : Int) < (l.length : Int) := by omega
      have Ed := (Ext.refl w3).drew
      refine wp_region_c (V := VTk w3.heap.size p off cap l L j m) (Ext w3.drew) consTk [(10, 5)] 11 0 rfl (by decide) (by kernel_rfl) (by kernel_rfl) (by kernel_rfl) (by kernel_rfl) (Ext.refl _) (fun r hr => by omega) ?_ ?_
      · intro i o hi ho vs w4 hvl hE hd _
        have hc4 := hcd.ext hE
        have d0 := cell_ext hE c0
        have d1 := cell_ext hE c1
        have hE3 := Ed.trans hE
        match vs, hvl with
        | [x0, x1, x2, x3, x4, x5, x6, x7, x8, x9, x10], _ =>
        rcases (show i = 0 ∨ i = 1 ∨ i = 2 ∨ i = 3 ∨ i = 4 ∨ i = 5 ∨ i = 6 ∨ i = 7 ∨ i = 8 ∨ i = 9 ∨ i = 10 by omega) with rfl | rfl | rfl | rfl | rfl | rfl | rfl | rfl | rfl | rfl | rfl
        all_goals
          simp only [List.getElem?_cons_zero, List.getElem?_cons_succ, Option.some.injEq] at ho
          subst ho
          simp [WaitsC, Region.binds, consTk, VTk] at hd
        · simp [putAll, Act.put]
          go_wp2
          exact OneC.mk VTk.ext rfl rfl hE (Ext.refl _)
        · simp [putAll, Act.put, hd]
          go_wp2_with fail
          refine (cloneMail_any _ cap l w4 hl hc4).mono ?_
          rintro e w5 ⟨u, rfl, ho, hE5⟩
          obtain ⟨a5, cap5, rfl, _, _, hsh⟩ := view_owns encMail_len ho
          rcases hsh with ⟨_, h0, _⟩ | ⟨g, rfl, hg⟩
          · subst h0; simp at hj
          have h9 : VTk w3.heap.size p off cap l L j m 1 (.slice (some ⟨g, 0, none⟩) l.length cap5) w5 := ⟨g, cap5, rfl, ownsRow_base ho hE3.size⟩
          clear ho
          go_wp2
          exact OneC.mk VTk.ext rfl h9 (hE.trans hE5) hE5
        · simp [putAll, Act.put]
          go_wp2
          exact OneC.mk VTk.ext rfl rfl hE (Ext.refl _)
        · simp [putAll, Act.put]
          go_wp2
          exact OneC.mk VTk.ext rfl rfl hE (Ext.refl _)
        · simp [putAll, Act.put, hd]
          go_wp2
          exact OneC.mk VTk.ext rfl rfl hE (Ext.refl _)
        · obtain ⟨⟨g, c, rfl, ho⟩, rfl, rfl⟩ : (∃ g c, x1 = Value.slice (some ⟨g, 0, none⟩) l.length c ∧ w4.ownsRow w3.heap.size 27 2 (Value.slice (some ⟨g, 0, none⟩) l.length c) l.length (l.flatMap encMail)) ∧ x2 = .int .i64 j ∧ x4 = .int .i64 (j + 1) := ⟨hd.1, hd.2.1, hd.2.2.1⟩
          have hdel := delMail_any w3.heap.size g c j (j + 1) l w4 (by omega) (by omega) ho
          rw [← HL.out, show l.length - (j + 1 - j) = L.length by rw [HL.out]; simp; omega, show (((j + 1 : Nat)) : Int) = (j : Int) + 1 by omega] at hdel
          have Hdel := Lib.hid hdel
          have hgb := (World.ownsRow.lt ho g rfl).1
          clear hdel ho hd
          simp [putAll, Act.put]
          go_wp2_with fail
          refine Hdel.out.mono ?_
          rintro e w5 ⟨rfl, ho5, hgr⟩
          have h9 : VTk w3.heap.size p off cap l L j m 5 (.slice (some ⟨g, 0, none⟩) L.length c) w5 := ho5
          have hE5 : Ext w3.drew w5 := hE.grown hgr (fun k hk => (Option.some.inj hk) ▸ hgb)
          clear ho5
          go_wp2
          refine ⟨rfl, _, rfl, h9, hE5, fun i u hi hne hcon hnd _ hv => ?_⟩
          match i with
          | 0 => exact hv
          | 1 => exact absurd rfl hcon
          | 2 => exact hv
          | 3 => exact hv
          | 4 => exact hv
          | 5 => exact absurd rfl hne
          | 6 => exact hv
          | 7 => exact hv
          | 8 => exact hv
          | 9 => exact hv
          | 10 => exact absurd (by simp) hnd
          | (n + 11) => trivial
        · simp [putAll, Act.put]
          go_wp2
          exact OneC.mk VTk.ext rfl rfl hE (Ext.refl _)
        · simp [putAll, Act.put]
          go_wp2
          exact OneC.mk VTk.ext rfl rfl hE (Ext.refl _)
        · simp [putAll, Act.put, hd]
          go_wp2
          exact OneC.mk VTk.ext rfl rfl hE (Ext.refl _)
        · simp [putAll, Act.put, hd]
          go_wp2
          exact OneC.mk VTk.ext rfl rfl hE (Ext.refl _)
        · simp [putAll, Act.put]
          go_wp2
          exact OneC.mk VTk.ext rfl (show VTk w3.heap.size p off cap l L j m 10 x5 w4 from hd.1) hE (Ext.refl _)
      · intro vs w4 hvl hE hV _
        match vs, hvl with
        | [x0, x1, x2, x3, x4, x5, x6, x7, x8, x9, x10], _ =>
        have h9 := hV 9 (by omega) rfl
        have h10 := hV 10 (by omega) rfl
        clear hV
        simp [VTk] at h9 h10
        subst h9
        replace hE := Ext.trans (Ext.refl w3).drew hE
        have T := Sep.of_owns hE h10
        clear hE h10 c0 c1 hcd hc Ed
        replace S : Sep w w4 [plRow 27 2 encMail x10 L, plBox w.heap.size #[.int .i64 0, .string ⟨#[]⟩] 27] := S.call T
        clear T
        obtain ⟨rbc0, rbf0⟩ : w4.cell? ⟨w.heap.size, 0, none⟩ = some (.int .i64 0) ∧ w4.frozen? ⟨w.heap.size, 0, none⟩ = false := bx (S.box 1 rfl) 0 rfl
        obtain ⟨rbc1, rbf1⟩ : w4.cell? ⟨w.heap.size, 1, none⟩ = some (.string ⟨#[]⟩) ∧ w4.frozen? ⟨w.heap.size, 1, none⟩ = false := bx (S.box 1 rfl) 1 rfl
        simp only [putAll, Act.put, List.take_succ_cons, List.take_zero, List.drop_succ_cons, List.drop_zero]
        simp
        go_wp2
        try simp only [Exit.inBlock, Exit.then]
        refine bodyPost_ret (v := .tuple #[x10, .agg #[.int .i64 m.kind, .string m.text], .bool true]) (by simp [results, Try.results23, go_sem, rbc0, rbc1]) rfl ?_
        replace S : Sep w (w4.setCell ⟨w.heap.size, 0, none⟩ (.int .i64 m.kind)) [plRow 27 2 encMail x10 L, plBox w.heap.size #[.int .i64 m.kind, .string ⟨#[]⟩] 27] := S.set 1 rfl 0 _
        replace S : Sep w ((w4.setCell ⟨w.heap.size, 0, none⟩ (.int .i64 m.kind)).setCell ⟨w.heap.size, 1, none⟩ (.string m.text)) [plRow 27 2 encMail x10 L, plBox w.heap.size #[.int .i64 m.kind, .string m.text] 27] := S.set 1 rfl 1 _
        replace S : Sep w ((w4.setCell ⟨w.heap.size, 0, none⟩ (.int .i64 m.kind)).setCell ⟨w.heap.size, 1, none⟩ (.string m.text)) [plRow 27 2 encMail x10 L] := S.drop 1
        exact RetTk.mk L HR.out S
end Go.Proofs.Ytlbnfnfaojjpaaa
