/- TakeMail of the reference: contracts. Condition: lists of at most 2^20. -/
import Derived.Test.YtlbnfnfaojjpaaaMailT
import Derived.Test.YtlbnfnfaojjpaaaAppB
namespace Go.Proofs.Ytlbnfnfaojjpaaa
open Go.RowKit

/-- The last statement's operations, what each leaves. -/
def VTs (B w3 g p off cap cap3 : Nat) (l D L : List Mail) (j : Nat) (m : Mail) : Nat → Value → World → Prop := fun i v wv => match i with
  | 0 => v = .slice (some ⟨g, 0, none⟩) l.length cap3
  | 1 => v = .int .i64 j
  | 2 => v = .slice (some ⟨g, 0, none⟩) j cap3
  | 3 => v = .slice (some ⟨p, off, none⟩) l.length cap
  | 4 => v = .int .i64 j
  | 5 => v = .int .i64 (j + 1)
  | 6 => ∃ a c, v = .slice a D.length c ∧ (D = [] ∨ a = some ⟨p, off + (j + 1) * 2, none⟩)
  | 7 => wv.ownsRow B 27 2 v L.length (L.flatMap encMail) ∧ ∀ b, v.ownBlock = some b → b = g ∨ w3 ≤ b
  | 8 => v = .slice (some ⟨p, off, none⟩) l.length cap
  | 9 => v = .int .i64 j
  | 10 => v = .pointer (some ⟨p, off + j * 2, none⟩)
  | 11 => v = .agg #[.int .i64 m.kind, .string m.text]
  | 12 => wv.ownsRow B 27 2 v L.length (L.flatMap encMail) ∧ ∀ b, v.ownBlock = some b → b = g ∨ w3 ≤ b
  | 13 => wv.ownsRow B 27 2 (.slice (some ⟨g, 0, none⟩) l.length cap3) l.length (l.flatMap encMail)
  | _ => True
theorem VTs.ext {B w3 g p off cap cap3 : Nat} {l D L : List Mail} {j : Nat} {m : Mail} (i : Nat) (v : Value) (w w' : World) (h : VTs B w3 g p off cap cap3 l D L j m i v w) (hE : Ext w w') : VTs B w3 g p off cap cap3 l D L j m i v w' := by
  match i with
  | 0 | 1 | 2 | 3 | 4 | 5 | 6 | 8 | 9 | 10 | 11 => exact h
  | 7 => exact ⟨ownsRow_ext (show w.ownsRow B _ _ _ _ _ from h.1) hE, h.2⟩
  | 12 => exact ⟨ownsRow_ext (show w.ownsRow B _ _ _ _ _ from h.1) hE, h.2⟩
  | 13 => exact ownsRow_ext (show w.ownsRow B _ _ _ _ _ from h) hE
  | (n + 14) => trivial
def consTs (i : Nat) : Option Nat := if i = 13 then some 7 else none

set_option maxHeartbeats 8000000 in
theorem specTakeMail (a : Option Addr) (cap : Nat) (l : List Mail) (kind : Int) (w : World) (hl : l.length ≤ 1048576) (hcap : l.length ≤ cap) (hc : Rd 2 encMail w a l) :
    Calls Try.prog 24 #[.slice a l.length cap, .int .i64 kind] w (RetTk (TakeR l kind) w) := by
  go_enter Try.func24, Try.ntmps24
  have S := Sep.start w
  replace S : Sep w (w.alloc (.cells #[.int .i64 0, .string ⟨#[]⟩] 27)) [plBox w.heap.size #[.int .i64 0, .string ⟨#[]⟩] 27] := S.alloc_at (by simp) _ _
  go_wp2_with fail
  generalize (w.alloc (.cells #[.int .i64 0, .string ⟨#[]⟩] 27)) = w1 at *
  refine (specMailsValid _ _ l _ (by omega) (hc.ext S.ext)).mono ?_
  rintro e w2 ⟨v0, rfl, hv0, hE⟩
  have Hv0 := Lib.hid hv0
  clear hv0
  replace S : Sep w w2 [plBox w.heap.size #[.int .i64 0, .string ⟨#[]⟩] 27] := S.step hE
  clear hE
  have bad : ¬ (MailsOk l ∧ -9 ≤ kind ∧ kind ≤ 9) → Hid (TakeR l kind [] ⟨0, ⟨#[]⟩⟩ false) := fun h => Lib.hid (.inl ⟨h, rfl, rfl, rfl⟩)
  cases v0 with
  | false =>
    have HR := bad (fun h => Bool.noConfusion (Hv0.out.2 h.1))
    replace S : Sep w (w2.alloc (.cells #[] 27)) [plRow 27 2 encMail (.slice (some ⟨w2.heap.size, 0, none⟩) 0 0) [], plBox w.heap.size #[.int .i64 0, .string ⟨#[]⟩] 27] := S.lit0 (by simp) _ _ _
    obtain ⟨rbc0, rbf0⟩ : (w2.alloc (.cells #[] 27)).cell? ⟨w.heap.size, 0, none⟩ = some (.int .i64 0) ∧ (w2.alloc (.cells #[] 27)).frozen? ⟨w.heap.size, 0, none⟩ = false := bx (S.box 1 rfl) 0 rfl
    obtain ⟨rbc1, rbf1⟩ : (w2.alloc (.cells #[] 27)).cell? ⟨w.heap.size, 1, none⟩ = some (.string ⟨#[]⟩) ∧ (w2.alloc (.cells #[] 27)).frozen? ⟨w.heap.size, 1, none⟩ = false := bx (S.box 1 rfl) 1 rfl
    clear bad
    go_wp2
    try simp only [Exit.inBlock, Exit.then]
    refine bodyPost_ret (v := .tuple #[.slice (some ⟨w2.heap.size, 0, none⟩) 0 0, .agg #[.int .i64 0, .string ⟨#[]⟩], .bool false]) (by simp [results, Try.results24, go_sem, rbc0, rbc1]) rfl ?_
    replace S : Sep w ((w2.alloc (.cells #[] 27)).setCell ⟨w.heap.size, 0, none⟩ (.int .i64 0)) [plRow 27 2 encMail (.slice (some ⟨w2.heap.size, 0, none⟩) 0 0) [], plBox w.heap.size #[.int .i64 0, .string ⟨#[]⟩] 27] := S.set 1 rfl 0 _
    replace S : Sep w (((w2.alloc (.cells #[] 27)).setCell ⟨w.heap.size, 0, none⟩ (.int .i64 0)).setCell ⟨w.heap.size, 1, none⟩ (.string ⟨#[]⟩)) [plRow 27 2 encMail (.slice (some ⟨w2.heap.size, 0, none⟩) 0 0) [], plBox w.heap.size #[.int .i64 0, .string ⟨#[]⟩] 27] := S.set 1 rfl 1 _
    replace S : Sep w (((w2.alloc (.cells #[] 27)).setCell ⟨w.heap.size, 0, none⟩ (.int .i64 0)).setCell ⟨w.heap.size, 1, none⟩ (.string ⟨#[]⟩)) [plRow 27 2 encMail (.slice (some ⟨w2.heap.size, 0, none⟩) 0 0) []] := S.drop 1
    exact RetTk.mk [] HR.out S
  | true =>
    have HMO := Lib.hid (Hv0.out.1 rfl)
    clear Hv0
    by_cases hkd : -9 ≤ kind ∧ kind ≤ 9
    rotate_left
    · have HR := bad (fun h => hkd h.2)
      have ein := inB_false hkd
      replace S : Sep w (w2.alloc (.cells #[] 27)) [plRow 27 2 encMail (.slice (some ⟨w2.heap.size, 0, none⟩) 0 0) [], plBox w.heap.size #[.int .i64 0, .string ⟨#[]⟩] 27] := S.lit0 (by simp) _ _ _
      obtain ⟨rbc0, rbf0⟩ : (w2.alloc (.cells #[] 27)).cell? ⟨w.heap.size, 0, none⟩ = some (.int .i64 0) ∧ (w2.alloc (.cells #[] 27)).frozen? ⟨w.heap.size, 0, none⟩ = false := bx (S.box 1 rfl) 0 rfl
      obtain ⟨rbc1, rbf1⟩ : (w2.alloc (.cells #[] 27)).cell? ⟨w.heap.size, 1, none⟩ = some (.string ⟨#[]⟩) ∧ (w2.alloc (.cells #[] 27)).frozen? ⟨w.heap.size, 1, none⟩ = false := bx (S.box 1 rfl) 1 rfl
      clear bad
      go_wp2_with (go_at_call 33; refine ((l1In_any _ _ _ _).mono (fun e w2 h => by rw [ein] at h; exact h)).mono ?_; rintro e w' ⟨rfl, rfl⟩)
      try simp only [Exit.inBlock, Exit.then]
      refine bodyPost_ret (v := .tuple #[.slice (some ⟨w2.heap.size, 0, none⟩) 0 0, .agg #[.int .i64 0, .string ⟨#[]⟩], .bool false]) (by simp [results, Try.results24, go_sem, rbc0, rbc1]) rfl ?_
      replace S : Sep w ((w2.alloc (.cells #[] 27)).setCell ⟨w.heap.size, 0, none⟩ (.int .i64 0)) [plRow 27 2 encMail (.slice (some ⟨w2.heap.size, 0, none⟩) 0 0) [], plBox w.heap.size #[.int .i64 0, .string ⟨#[]⟩] 27] := S.set 1 rfl 0 _
      replace S : Sep w (((w2.alloc (.cells #[] 27)).setCell ⟨w.heap.size, 0, none⟩ (.int .i64 0)).setCell ⟨w.heap.size, 1, none⟩ (.string ⟨#[]⟩)) [plRow 27 2 encMail (.slice (some ⟨w2.heap.size, 0, none⟩) 0 0) [], plBox w.heap.size #[.int .i64 0, .string ⟨#[]⟩] 27] := S.set 1 rfl 1 _
      replace S : Sep w (((w2.alloc (.cells #[] 27)).setCell ⟨w.heap.size, 0, none⟩ (.int .i64 0)).setCell ⟨w.heap.size, 1, none⟩ (.string ⟨#[]⟩)) [plRow 27 2 encMail (.slice (some ⟨w2.heap.size, 0, none⟩) 0 0) []] := S.drop 1
      exact RetTk.mk [] HR.out S
    have ein := inB_iff.2 hkd
    have HOK : Hid (MailsOk l ∧ -9 ≤ kind ∧ kind ≤ 9) := Lib.hid ⟨HMO.out, hkd⟩
    obtain ⟨hk1, hk2⟩ := hkd
    clear bad HMO
    obtain ⟨rbc0, rbf0⟩ : w2.cell? ⟨w.heap.size, 0, none⟩ = some (.int .i64 0) ∧ w2.frozen? ⟨w.heap.size, 0, none⟩ = false := bx (S.box 0 rfl) 0 rfl
    obtain ⟨rbc1, rbf1⟩ : w2.cell? ⟨w.heap.size, 1, none⟩ = some (.string ⟨#[]⟩) ∧ w2.frozen? ⟨w.heap.size, 1, none⟩ = false := bx (S.box 0 rfl) 1 rfl
    go_upto_region 3 with (go_at_call 33; refine ((l1In_any _ _ _ _).mono (fun e w2 h => by rw [ein] at h; exact h)).mono ?_; rintro e w' ⟨rfl, rfl⟩)
    clear ein
    clear rbc0 rbf0 rbc1 rbf1
    have hc2 := hc.ext S.ext
    go_wp2
    go_loopw [7, 8, 9] (fun v i _ wr => ∃ k : Nat, ∃ b : Int, k ≤ l.length ∧ i = .int .i64 k ∧ v = .int .i64 b ∧ BestM kind l k b ∧ Ext w2 wr) (fun _ i _ _ => l.length - (intOf i).toNat)
    case atStart => exact ⟨0, -1, Nat.zero_le _, rfl, rfl, bestM_zero _ _, Ext.refl _⟩
    case round =>
      obtain ⟨k, b, hk, rfl, rfl, hB, hb⟩ := hrel
      have HB := Lib.hid hB
      obtain ⟨hb1, hb2⟩ := bestM_range hB
      clear hB
      by_cases hlt : k < l.length
      · obtain ⟨x, p, off, hx, rfl, c0, c1⟩ := atMail (hc2.ext hb) hlt
        have hx1 : 1 ≤ x.kind := (HOK.out.1.1 k x hx).1.1
        have Hx := Lib.hid hx
        clear hx c1
        have i0 : (0 : Int) ≤ (k : Int) := by omega
        have i1 : (k : Int) < (l.length : Int) := by omega
        have hw := fun j (y : Mail) (hj : j < k) => (by
          obtain ⟨z, p', off', hz, hpo, d0, d1⟩ := atMail (hc2.ext hb) (show j < l.length by omega)
          obtain ⟨rfl, rfl⟩ : p = p' ∧ off = off' := by simpa using hpo
          exact fun (h : l[j]? = some y) => by
            rw [hz] at h; cases h; exact d0 : l[j]? = some y → wr.cell? ⟨p, off + j * 2, none⟩ = some (.int .i64 y.kind))
        have Hw := Lib.hid hw
        clear hw hc hc2
        by_cases hz : kind = 0
        · have tz : (kind == 0) = true := by simpa using hz
          have HK : Hid (¬ kind < 0) := Lib.hid (by omega)
          have hk3 : decide (kind < 0) = false := by simp; omega
          have Hz := Lib.hid hz
          clear hz
          have hf : FitsM kind x := .inl Hz.out
          have Hf := Lib.hid hf
          clear hf
          by_cases hneg : b < 0
          · skip
            have HN := Lib.hid (bestM_take HB.out Hx.out Hf.out (.inl hneg))
            clear Hw
            go_upto_region 8 with fail
            go_quiet (fail)
            go_wp2
            go_roundw
            case rel => exact ⟨k + 1, k, by omega, by go_num, rfl, HN.out, hb.drewN _⟩
            case measure => simp [intOf]; omega
          · have hnn : decide (b < 0) = false := by simpa using hneg
            have HN := Lib.hid (bestM_keep HB.out Hx.out (.inr ⟨by omega, fun h => absurd h (by have := HK.out; omega)⟩))
            clear Hw
            go_upto_region 8 with fail
            go_quiet (fail)
            go_wp2
            go_roundw
            case rel => exact ⟨k + 1, b, by omega, by go_num, rfl, HN.out, hb.drewN _⟩
            case measure => simp [intOf]; omega
        · have tz : (kind == 0) = false := by simpa using hz
          have Hz := Lib.hid hz
          clear hz
          by_cases hkind : kind < 0
          · have HK := Lib.hid hkind
            have te : (x.kind == kind) = false := by simp; omega
            by_cases hfit : x.kind ≤ -kind
            · skip
              have hf : FitsM kind x := .inr (.inr ⟨hkind, hfit⟩)
              have Hf := Lib.hid hf
              clear hf
              by_cases hneg : b < 0
              · skip
                have HN := Lib.hid (bestM_take HB.out Hx.out Hf.out (.inl hneg))
                clear Hw
                go_upto_region 8 with fail
                go_quiet (fail)
                go_wp2
                go_roundw
                case rel => exact ⟨k + 1, k, by omega, by go_num, rfl, HN.out, hb.drewN _⟩
                case measure => simp [intOf]; omega
              · obtain ⟨j, y, rfl, hj, hy, _⟩ := bestM_at HB.out (by omega)
                have d0 := Hw.out j y hj hy
                have Hy := Lib.hid hy
                have j0 : (0 : Int) ≤ (j : Int) := by omega
                have j1 : (j : Int) < (l.length : Int) := by omega
                have hnn : decide ((j : Int) < 0) = false := by simp
                clear hy
                by_cases hxy : x.kind < y.kind
                · skip
                  have HN := Lib.hid (bestM_take HB.out Hx.out Hf.out (.inr ⟨HK.out, j, y, rfl, Hy.out, hxy⟩))
                  clear Hw
                  go_upto_region 8 with fail
                  go_quiet (fail)
                  go_wp2
                  go_roundw
                  case rel => exact ⟨k + 1, k, by omega, by go_num, rfl, HN.out, hb.drewN _⟩
                  case measure => simp [intOf]; omega
                · have hxy2 : decide (x.kind < y.kind) = false := by simpa using hxy
                  have HN := Lib.hid (bestM_keep HB.out Hx.out (.inr ⟨by omega, fun _ j' z hj' hz => by
                obtain rfl : j = j' := by omega
                have h1 := Hy.out
                rw [hz] at h1; cases h1; omega⟩))
                  clear Hw
                  go_upto_region 8 with fail
                  go_quiet (fail)
                  go_wp2
                  go_roundw
                  case rel => exact ⟨k + 1, j, by omega, by go_num, rfl, HN.out, hb.drewN _⟩
                  case measure => simp [intOf]; omega
            · have hfit2 : decide (x.kind ≤ -kind) = false := by simpa using hfit
              have HN := Lib.hid (bestM_keep HB.out Hx.out (.inl (fun h => by have := Hz.out; rcases h with h | ⟨h, _⟩ | ⟨_, h⟩ <;> omega)))
              clear Hw
              go_upto_region 8 with fail
              go_quiet (fail)
              go_wp2
              go_roundw
              case rel => exact ⟨k + 1, b, by omega, by go_num, rfl, HN.out, hb.drewN _⟩
              case measure => simp [intOf]; omega
          · have HK := Lib.hid hkind
            have hk3 : decide (kind < 0) = false := by simpa using hkind
            by_cases he : x.kind = kind
            · have te : (x.kind == kind) = true := by simpa using he
              have He := Lib.hid he
              clear he
              have hf : FitsM kind x := .inr (.inl ⟨by have := Hz.out; omega, He.out⟩)
              have Hf := Lib.hid hf
              clear hf
              by_cases hneg : b < 0
              · skip
                have HN := Lib.hid (bestM_take HB.out Hx.out Hf.out (.inl hneg))
                clear Hw
                go_upto_region 8 with fail
                go_quiet (fail)
                go_wp2
                go_roundw
                case rel => exact ⟨k + 1, k, by omega, by go_num, rfl, HN.out, hb.drewN _⟩
                case measure => simp [intOf]; omega
              · have hnn : decide (b < 0) = false := by simpa using hneg
                have HN := Lib.hid (bestM_keep HB.out Hx.out (.inr ⟨by omega, fun h => absurd h (by have := HK.out; omega)⟩))
                clear Hw
                go_upto_region 8 with fail
                go_quiet (fail)
                go_wp2
                go_roundw
                case rel => exact ⟨k + 1, b, by omega, by go_num, rfl, HN.out, hb.drewN _⟩
                case measure => simp [intOf]; omega
            · have te : (x.kind == kind) = false := by simpa using he
              have He := Lib.hid he
              clear he
              have HN := Lib.hid (bestM_keep HB.out Hx.out (.inl (fun h => by have := Hz.out; have := He.out; rcases h with h | ⟨_, h⟩ | ⟨h, _⟩ <;> omega)))
              clear Hw
              go_upto_region 8 with fail
              go_quiet (fail)
              go_wp2
              go_roundw
              case rel => exact ⟨k + 1, b, by omega, by go_num, rfl, HN.out, hb.drewN _⟩
              case measure => simp [intOf]; omega
      · obtain rfl : k = l.length := by omega
        have hni : ¬ (l.length : Int) < (l.length : Int) := by omega
        replace S : Sep w wr [plBox w.heap.size #[.int .i64 0, .string ⟨#[]⟩] 27] := S.step hb
        clear hb
        have E1 := (Ext.refl wr).alloc (.cells #[] 27)
        have hc3 := (hc.ext S.ext).ext E1
        go_wp2_with (at_builtin; refine Hid.out (?_ : Hid _))
        unfold Hid
        refine wpList_append_lit rfl _ _ 23 rfl wr.heap.size 27 _ 2 _ Try.underlying23 infoMail rfl (by decide) encMail_len encMail_one wr.heap.size rfl (heap_alloc_new wr _) (Nat.le_refl _) a l.length cap l rfl rfl hc3 (by omega) (by omega) (by simp) ?_
        intro v3 w3 ho hE
        have T := Sep.of_owns (E1.trans hE) ho
        clear ho hE hc3 E1
        replace S : Sep w w3 [plRow 27 2 encMail v3 l, plBox w.heap.size #[.int .i64 0, .string ⟨#[]⟩] 27] := S.call T
        clear T
        by_cases hneg : b < 0
        · have HR : Hid (TakeR l kind l ⟨0, ⟨#[]⟩⟩ false) := Lib.hid (.inr ⟨HOK.out, b, HB.out, .inl ⟨hneg, rfl, rfl, rfl⟩⟩)
          obtain ⟨rbc0, rbf0⟩ : w3.cell? ⟨w.heap.size, 0, none⟩ = some (.int .i64 0) ∧ w3.frozen? ⟨w.heap.size, 0, none⟩ = false := bx (S.box 1 rfl) 0 rfl
          obtain ⟨rbc1, rbf1⟩ : w3.cell? ⟨w.heap.size, 1, none⟩ = some (.string ⟨#[]⟩) ∧ w3.frozen? ⟨w.heap.size, 1, none⟩ = false := bx (S.box 1 rfl) 1 rfl
          go_wp2
          try simp only [Exit.inBlock, Exit.then]
          refine bodyPost_ret (v := .tuple #[v3, .agg #[.int .i64 0, .string ⟨#[]⟩], .bool false]) (by simp [results, Try.results24, go_sem, rbc0, rbc1]) rfl ?_
          replace S : Sep w (w3.setCell ⟨w.heap.size, 0, none⟩ (.int .i64 0)) [plRow 27 2 encMail v3 l, plBox w.heap.size #[.int .i64 0, .string ⟨#[]⟩] 27] := S.set 1 rfl 0 _
          replace S : Sep w ((w3.setCell ⟨w.heap.size, 0, none⟩ (.int .i64 0)).setCell ⟨w.heap.size, 1, none⟩ (.string ⟨#[]⟩)) [plRow 27 2 encMail v3 l, plBox w.heap.size #[.int .i64 0, .string ⟨#[]⟩] 27] := S.set 1 rfl 1 _
          replace S : Sep w ((w3.setCell ⟨w.heap.size, 0, none⟩ (.int .i64 0)).setCell ⟨w.heap.size, 1, none⟩ (.string ⟨#[]⟩)) [plRow 27 2 encMail v3 l] := S.drop 1
          exact RetTk.mk l HR.out S
        · obtain ⟨j, m, rfl, hj, hm, _⟩ := bestM_at HB.out (by omega)
          have HR : Hid (TakeR l kind (l.take j ++ l.drop (j + 1)) m true) := Lib.hid (.inr ⟨HOK.out, j, HB.out, .inr ⟨j, rfl, hm, rfl, rfl⟩⟩)
          have Hm := Lib.hid hm
          clear hm
          obtain ⟨a3, cap3, rfl, hcap3, _, hsh⟩ := view_owns encMail_len (S.row 0 rfl)
          rcases hsh with ⟨_, h0, _⟩ | ⟨g, rfl, hg⟩
          · subst h0; simp at hj
          obtain ⟨L, hL⟩ : ∃ L, L = l.take j ++ l.drop (j + 1) := ⟨_, rfl⟩
          rw [← hL] at HR
          have HL := Lib.hid hL
          clear hL
          obtain ⟨D, hD⟩ : ∃ D, D = l.drop (j + 1) := ⟨_, rfl⟩
          have HD := Lib.hid hD
          clear hD
          have hnn : decide ((j : Int) < 0) = false := by simp
          go_upto_region 13 with fail
          have hcw := hc.ext S.ext
          obtain ⟨x, p, off, hx, hpe, c0, c1⟩ := atMail (show Rd 2 encMail w3.drew a l from hcw.ext (Ext.refl _).drew) hj
          subst hpe
          obtain rfl : m = x := by
            have := Hm.out
            rw [hx] at this; exact (Option.some.inj this).symm
          have hpw : p < w.heap.size := by
            obtain ⟨_, p', _, _, e1, e2, _⟩ := atMail hc hj
            obtain ⟨rfl, _⟩ : p = p' ∧ _ := by simpa using e1
            exact World.block_lt_of_cell? _ _ e2
          have hgw : w.heap.size ≤ g ∧ g < w3.heap.size := S.lt (List.mem_of_getElem? (show [plRow 27 2 encMail (.slice (some ⟨g, 0, none⟩) l.length cap3) l, plBox w.heap.size #[.int .i64 0, .string ⟨#[]⟩] 27][0]? = some _ from rfl)) rfl
          have hpg : p ≠ g := by omega
          clear hx
          have j0 : (0 : Int) ≤ (j : Int) := by omega
          have j1 : (j : Int) < (l.length : Int) := by omega
          have j2 : (j : Int) ≤ (cap3 : Int) := by omega
          have hcl : l.length ≤ cap := hcap
          have j3 : (j : Int) + 1 ≤ (l.length : Int) := by omega
          have keepA : ∀ w4, Chg (fun b => b = g) w3.drew w4 → Rd 2 encMail w4 (some ⟨p, off, none⟩) l ∧ w4.cell? ⟨p, off + j * 2, none⟩ = some (.int .i64 m.kind) ∧ w4.cell? ⟨p, off + j * 2 + 1, none⟩ = some (.string m.text) := by
            intro w4 hI
            have hb : w4.heap[p]? = w3.drew.heap[p]? := hI.block p (by show p < w3.heap.size; omega) hpg
            refine ⟨fun i hi => ?_, ?_, ?_⟩
            · obtain ⟨b, o2, ha, hcs⟩ := (hcw.ext (Ext.refl w3).drew) i hi
              refine ⟨b, o2, ha, fun k u hu => ?_⟩
              simp only [Option.some.injEq, Addr.mk.injEq] at ha
              rw [World.cell?_of_block (w := w3.drew) (by show w4.heap[b]? = _; rw [← ha.1]; exact hb)]
              exact hcs k u hu
            · rw [World.cell?_of_block (w := w3.drew) hb]; exact c0
            · rw [World.cell?_of_block (w := w3.drew) hb]; exact c1
          have KeepA := Lib.hid keepA
          have hr0 : w3.drew.ownsRow w.heap.size 27 2 (.slice (some ⟨g, 0, none⟩) l.length cap3) l.length (l.flatMap encMail) := ownsRow_ext (S.row 0 rfl) (Ext.refl _).drew
          clear keepA c0 c1 hcw
          refine wp_region_c (V := VTs w.heap.size w3.heap.size g p off cap cap3 l D L j m) (Chg (fun b => b = g) w3.drew) consTs [(12, 7)] 13 1 rfl (by decide) (by kernel_rfl) (by kernel_rfl) (by kernel_rfl) (by kernel_rfl) (Chg.refl _ _) (fun r hr => match r, hr with | 0, _ => hr0) ?_ ?_
          · intro i o hi ho vs w4 hvl hI hd hrest
            obtain ⟨hc4, d0, d1⟩ := KeepA.out w4 hI
            match vs, hvl with
            | [x0, x1, x2, x3, x4, x5, x6, x7, x8, x9, x10, x11, x12], _ =>
            rcases (show i = 0 ∨ i = 1 ∨ i = 2 ∨ i = 3 ∨ i = 4 ∨ i = 5 ∨ i = 6 ∨ i = 7 ∨ i = 8 ∨ i = 9 ∨ i = 10 ∨ i = 11 ∨ i = 12 by omega) with rfl | rfl | rfl | rfl | rfl | rfl | rfl | rfl | rfl | rfl | rfl | rfl | rfl
            all_goals
              simp only [List.getElem?_cons_zero, List.getElem?_cons_succ, Option.some.injEq] at ho
              subst ho
              simp [WaitsC, Region.binds, consTs, VTs] at hd
            · simp [putAll, Act.put, hd]
              go_wp2
              exact OneC.mk VTs.ext rfl rfl hI (Ext.refl _)
            · simp [putAll, Act.put, hd]
              go_wp2
              exact OneC.mk VTs.ext rfl rfl hI (Ext.refl _)
            · simp [putAll, Act.put, hd]
              go_wp2
              exact OneC.mk VTs.ext rfl rfl hI (Ext.refl _)
            · simp [putAll, Act.put, hd]
              go_wp2
              exact OneC.mk VTs.ext rfl rfl hI (Ext.refl _)
            · simp [putAll, Act.put, hd]
              go_wp2
              exact OneC.mk VTs.ext rfl rfl hI (Ext.refl _)
            · simp [putAll, Act.put, hd]
              go_wp2
              exact OneC.mk VTs.ext rfl rfl hI (Ext.refl _)
            · have hlen : D.length = l.length - (j + 1) := by rw [HD.out]; exact List.length_drop
              have Hlen := Lib.hid hlen
              clear hlen
              obtain ⟨hd0, hd1⟩ := hd
              subst hd0 hd1
              by_cases hcj : j + 1 = cap
              · have hnil : D = [] := by rw [HD.out]; exact List.drop_eq_nil_of_le (by omega)
                have Hnil := Lib.hid hnil
                clear hnil
                simp [putAll, Act.put]
                go_wp2
                refine OneC.mk (V := VTs w.heap.size w3.heap.size g p off cap cap3 l D L j m) VTs.ext rfl ?_ hI (Ext.refl _)
                exact ⟨_, _, by rw [Hnil.out]; rfl, .inl Hnil.out⟩
              · simp [putAll, Act.put]
                go_wp2
                refine OneC.mk (V := VTs w.heap.size w3.heap.size g p off cap cap3 l D L j m) VTs.ext rfl ?_ hI (Ext.refl _)
                exact ⟨_, _, by rw [Hlen.out], .inr rfl⟩
            · obtain ⟨hd0, a6, ⟨c6, hd1⟩, hsh⟩ := hd
              subst hd0 hd1
              have hrow : w4.ownsRow w.heap.size 27 2 (.slice (some ⟨g, 0, none⟩) l.length cap3) l.length (l.flatMap encMail) := hrest 0 (by omega) (.inr rfl)
              have hrow2 := owns_take encMail_len hrow rfl j (by omega)
              have hrd : Rd 2 encMail w4 a6 D := by
                rcases hsh with h | h
                · rw [h]; exact Rd.nil
                · rw [h, HD.out]; exact hc4.drop (j + 1)
              have hD8 : D.length ≤ 1048576 := by rw [HD.out, List.length_drop]; omega
              have hgb := hI.size
              clear hrow d0 d1 hc4 hrest
              simp [putAll, Act.put]
              refine wpList_append_b rfl _ _ 23 rfl w.heap.size 27 _ 2 _ Try.underlying23 infoMail rfl (by decide) encMail_len encMail_one _ j (l.take j) rfl hrow2 (by rw [List.length_take]; omega) a6 D.length c6 D rfl rfl hrd (by omega) (by omega) (by show w.heap.size ≤ w4.heap.size; exact Nat.le_trans (Nat.le_trans S.ext.size (show w3.heap.size ≤ w3.drew.heap.size from Nat.le_refl _)) hgb) ?_
              intro v5 w5 ho5 hgr5 hblk5
              rw [show l.take j ++ D = L by rw [HL.out, HD.out]] at ho5
              have hV7 : VTs w.heap.size w3.heap.size g p off cap cap3 l D L j m 7 v5 w5 := ⟨ho5, fun b hb => by
                rcases hblk5 b hb with h | h
                · exact .inl (Option.some.inj h).symm
                · exact .inr (Nat.le_trans (show w3.heap.size ≤ w3.drew.heap.size from Nat.le_refl _) (Nat.le_trans hgb h))⟩
              have hI5 : Chg (fun b => b = g) w3.drew w5 := hI.trans ((Chg.of_row (row := some g) hgr5).mono (fun k hk _ => (Option.some.inj hk).symm))
              clear ho5 hblk5 hgr5 hrd hrow2
              go_wp2
              refine ⟨rfl, _, rfl, hV7, hI5, fun i u hi hne hcon hnd _ hv => ?_⟩
              match i with
              | 0 | 1 | 2 | 3 | 4 | 5 | 6 | 8 | 9 | 10 | 11 => exact hv
              | 7 => exact absurd rfl hne
              | 12 => exact absurd (by simp) hnd
              | 13 => exact absurd rfl hcon
              | (n + 14) => trivial
            · simp [putAll, Act.put, hd]
              go_wp2
              exact OneC.mk VTs.ext rfl rfl hI (Ext.refl _)
            · simp [putAll, Act.put, hd]
              go_wp2
              exact OneC.mk VTs.ext rfl rfl hI (Ext.refl _)
            · simp [putAll, Act.put, hd]
              go_wp2
              exact OneC.mk VTs.ext rfl rfl hI (Ext.refl _)
            · simp [putAll, Act.put, hd]
              go_wp2
              exact OneC.mk VTs.ext rfl rfl hI (Ext.refl _)
            · simp [putAll, Act.put]
              go_wp2
              exact OneC.mk VTs.ext rfl (show VTs w.heap.size w3.heap.size g p off cap cap3 l D L j m 12 x7 w4 from ⟨hd.1.1, hd.1.2⟩) hI (Ext.refl _)
          · intro vs w4 hvl hI hV _
            match vs, hvl with
            | [x0, x1, x2, x3, x4, x5, x6, x7, x8, x9, x10, x11, x12], _ =>
            have h11 := hV 11 (by omega) rfl
            have h12 := hV 12 (by omega) rfl
            clear hV
            simp [VTs] at h11 h12
            subst h11
            obtain ⟨h12, hb12⟩ := h12
            have hgr : w3.grownBy w4 (Value.slice (some ⟨g, 0, none⟩) l.length cap3).ownBlock := ⟨hI.os, hI.tape, hI.output, hI.size, fun k hk hn => hI.block k hk (fun e => hn (by rw [e]; rfl))⟩
            have hbl : ∀ b, x12.ownBlock = some b → (Value.slice (some ⟨g, 0, none⟩) l.length cap3).ownBlock = some b ∨ w3.heap.size ≤ b := fun b hb => by
              rcases hb12 b hb with h | h
              · exact .inl (by rw [h]; rfl)
              · exact .inr h
            clear hI KeepA hr0 hb12 hc2
            replace S : Sep w w4 [plRow 27 2 encMail x12 L, plBox w.heap.size #[.int .i64 0, .string ⟨#[]⟩] 27] := S.grow 0 rfl hgr h12 hbl
            clear hgr h12 hbl
            obtain ⟨rbc0, rbf0⟩ : w4.cell? ⟨w.heap.size, 0, none⟩ = some (.int .i64 0) ∧ w4.frozen? ⟨w.heap.size, 0, none⟩ = false := bx (S.box 1 rfl) 0 rfl
            obtain ⟨rbc1, rbf1⟩ : w4.cell? ⟨w.heap.size, 1, none⟩ = some (.string ⟨#[]⟩) ∧ w4.frozen? ⟨w.heap.size, 1, none⟩ = false := bx (S.box 1 rfl) 1 rfl
            simp only [putAll, Act.put, List.take_succ_cons, List.take_zero, List.drop_succ_cons, List.drop_zero]
            simp
            go_wp2
            try simp only [Exit.inBlock, Exit.then]
            refine bodyPost_ret (v := .tuple #[x12, .agg #[.int .i64 m.kind, .string m.text], .bool true]) (by simp [results, Try.results24, go_sem, rbc0, rbc1]) rfl ?_
            replace S : Sep w (w4.setCell ⟨w.heap.size, 0, none⟩ (.int .i64 m.kind)) [plRow 27 2 encMail x12 L, plBox w.heap.size #[.int .i64 m.kind, .string ⟨#[]⟩] 27] := S.set 1 rfl 0 _
            replace S : Sep w ((w4.setCell ⟨w.heap.size, 0, none⟩ (.int .i64 m.kind)).setCell ⟨w.heap.size, 1, none⟩ (.string m.text)) [plRow 27 2 encMail x12 L, plBox w.heap.size #[.int .i64 m.kind, .string m.text] 27] := S.set 1 rfl 1 _
            replace S : Sep w ((w4.setCell ⟨w.heap.size, 0, none⟩ (.int .i64 m.kind)).setCell ⟨w.heap.size, 1, none⟩ (.string m.text)) [plRow 27 2 encMail x12 L] := S.drop 1
            exact RetTk.mk L HR.out S
end Go.Proofs.Ytlbnfnfaojjpaaa
