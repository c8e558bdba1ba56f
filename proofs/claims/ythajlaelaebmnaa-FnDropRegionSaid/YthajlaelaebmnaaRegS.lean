/- Setting pages: what l27Set makes; its contract. Condition: small lists of regions that end within the pages. -/
import Derived.Test.YthajlaelaebmnaaRegV
import Derived.Test.YthajlaelaebmnaaApp
import Derived.Test.YthajlaelaebmnaaView
import Derived.Test.YthajlaelaebmnaaQuiet
import Derived.Deep.Cut
namespace Go.Proofs.Ythajlaelaebmnaa
open Go.RowKit

def rightsL (l : List Reg) (p : Int) : Int := l.foldl (fun acc x => if inB p x.f (x.t - 1) = true then x.r else acc) (-1)
def rightsS (l : List Reg) (r : Reg) (p : Int) : Int := if inB p r.f (r.t - 1) = true then r.r else rightsL l p
theorem rightsL_step {l : List Reg} {k : Nat} {x : Reg} (p : Int) (hx : l[k]? = some x) : rightsL (l.take (k + 1)) p = if inB p x.f (x.t - 1) = true then x.r else rightsL (l.take k) p := by
  simp only [rightsL]
  rw [List.take_add_one, hx, List.foldl_append]
  rfl
/-- One more page. -/
def addPage (L : List Reg) (p rights : Int) : List Reg :=
  if rights < 0 then L else match L.getLast? with
    | some y => if y.t = p ∧ y.r = rights then L.set (L.length - 1) ⟨y.f, p + 1, y.r⟩ else L ++ [⟨p, p + 1, rights⟩]
    | none => L ++ [⟨p, p + 1, rights⟩]
def regsK (R : Int → Int) : Nat → List Reg
  | 0 => []
  | k + 1 => addPage (regsK R k) (k : Int) (R k)
theorem addPage_le (L : List Reg) (p rights : Int) : (addPage L p rights).length ≤ L.length + 1 := by
  unfold addPage
  split
  · omega
  · split
    · split
      · rw [List.length_set]; omega
      · simp
    · simp
theorem regsK_le (R : Int → Int) : ∀ k, (regsK R k).length ≤ k
  | 0 => by simp [regsK]
  | k + 1 => by
    have h1 := regsK_le R k
    have h2 := addPage_le (regsK R k) (k : Int) (R k)
    simp only [regsK]
    omega
theorem addPage_neg {L : List Reg} {p rights : Int} (h : rights < 0) : addPage L p rights = L := if_pos h
theorem addPage_nil {p rights : Int} (h : ¬ rights < 0) : addPage [] p rights = [⟨p, p + 1, rights⟩] := by simp [addPage, h]
theorem addPage_hit {L : List Reg} {p rights : Int} {m : Nat} {y : Reg} (h : ¬ rights < 0) (hm : L.length = m + 1) (hy : L[m]? = some y) (hc : y.t = p ∧ y.r = rights) : addPage L p rights = L.set m ⟨y.f, p + 1, y.r⟩ := by
  have h1 : L.getLast? = some y := by rw [List.getLast?_eq_getElem?, hm]; simpa using hy
  simp only [addPage, if_neg h, h1, if_pos hc, hm, Nat.add_sub_cancel]
theorem addPage_new {L : List Reg} {p rights : Int} {m : Nat} {y : Reg} (h : ¬ rights < 0) (hm : L.length = m + 1) (hy : L[m]? = some y) (hc : ¬ (y.t = p ∧ y.r = rights)) : addPage L p rights = L ++ [⟨p, p + 1, rights⟩] := by
  have h1 : L.getLast? = some y := by rw [List.getLast?_eq_getElem?, hm]; simpa using hy
  simp only [addPage, if_neg h, h1, if_neg hc]

set_option maxRecDepth 10000 in
set_option maxHeartbeats 8000000 in
theorem specL27 (a : Option Addr) (cap : Nat) (l : List Reg) (r : Reg) (w : World) (hl : l.length ≤ 1048576) (hb : ∀ x ∈ l, 1 ≤ x.t ∧ x.t ≤ 64) (hr : 1 ≤ r.t ∧ r.t ≤ 64) (hc : Rd 3 encReg w a l) :
    Calls Try.prog 40 #[.slice a l.length cap, .agg #[.int .i64 r.f, .int .i64 r.t, .int .i64 r.r]] w (RetV (fun v w' => w'.ownsRow w.heap.size 33 3 v (regsK (rightsS l r) 64).length ((regsK (rightsS l r) 64).flatMap encReg)) w) := by
  have E0 := (Ext.refl w).alloc (.cells #[.int .i64 r.f, .int .i64 r.t, .int .i64 r.r] 33)
  have n0 := cell_new w #[.int .i64 r.f, .int .i64 r.t, .int .i64 r.r] 33 0 (.int .i64 r.f) rfl
  have n1 := cell_new w #[.int .i64 r.f, .int .i64 r.t, .int .i64 r.r] 33 1 (.int .i64 r.t) rfl
  have n2 := cell_new w #[.int .i64 r.f, .int .i64 r.t, .int .i64 r.r] 33 2 (.int .i64 r.r) rfl
  have Hb := Lib.hid hb
  have hwr : IntKind.i64.wrap (r.t - 1) = r.t - 1 := IntWalk.i64_in _ (by omega)
  clear hb
  go_enter Try.func40, Try.ntmps40
  go_upto_region 1 with fail
  generalize (w.alloc (.cells #[.int .i64 r.f, .int .i64 r.t, .int .i64 r.r] 33)) = w0 at *
  have E1 := (Ext.refl w0).alloc (.cells #[] 33)
  have hown : (w0.alloc (.cells #[] 33)).ownsRow w0.heap.size 33 3 (.slice (some ⟨w0.heap.size, 0, none⟩) 0 0) 0 (([] : List Reg).flatMap encReg) := owns_lit_new [] encReg_len rfl rfl (by omega) (Nat.le_refl _)
  go_upto_region 2 with fail
  generalize (w0.alloc (.cells #[] 33)) = w1 at *
  go_wp2
  go_loopw [5, 6, 7, 8, 9] (fun vo i _ _ _ wr => ∃ k : Nat, k ≤ 64 ∧ i = .int .i64 (k : Int) ∧ wr.ownsRow w0.heap.size 33 3 vo (regsK (rightsS l r) k).length ((regsK (rightsS l r) k).flatMap encReg) ∧ Ext w0 wr) (fun _ i _ _ _ _ => 64 - (intOf i).toNat)
  case atStart => exact ⟨0, Nat.zero_le _, rfl, hown, E1⟩
  case round =>
    obtain ⟨k, hk, rfl, hown, hE⟩ := hrel
    by_cases hlt : k < 64
    rotate_left
    · obtain rfl : k = 64 := by omega
      have hown2 := ownsRow_base hown E0.size
      go_wp2
      go_ret
      exact RetV.mk hown2 (E0.trans hE)
    · have hli : (k : Int) < 64 := by omega
      have hkw : IntKind.i64.wrap ((k : Int) + 1) = (k : Int) + 1 := IntWalk.i64_in _ (by omega)
      have hRl := regsK_le (rightsS l r) k
      have HK : Hid (regsK (rightsS l r) (k + 1) = addPage (regsK (rightsS l r) k) k (rightsS l r k)) := Lib.hid rfl
      obtain ⟨L, hL⟩ : ∃ L, L = regsK (rightsS l r) k := ⟨_, rfl⟩
      rw [← hL] at hown hRl HK
      clear hL
      go_wp2
      go_loopw [7, 8] (fun q i wq => ∃ j : Nat, j ≤ l.length ∧ i = .int .i64 (j : Int) ∧ q = .int .i64 (rightsL (l.take j) k) ∧ Ext wr wq) (fun _ i _ => l.length - (intOf i).toNat)
      case atStart => exact ⟨0, Nat.zero_le _, rfl, rfl, Ext.refl _⟩
      case round =>
        obtain ⟨j, hj, rfl, rfl, hE2⟩ := hrel
        by_cases hjl : j < l.length
        · obtain ⟨x, b, off, hx, rfl, c0, c1, c2⟩ := atReg (((hc.ext E0).ext hE).ext hE2) hjl
          have hxb := Hb.out x (List.mem_of_getElem? hx)
          have Hst := Lib.hid (rightsL_step (k : Int) hx)
          have hxw : IntKind.i64.wrap (x.t - 1) = x.t - 1 := IntWalk.i64_in _ (by omega)
          have i0 : (0 : Int) ≤ (j : Int) := by omega
          have i1 : (j : Int) < (l.length : Int) := by omega
          generalize rightsL (l.take j) k = q at *
          have q0 := ExtW.cell c0
          have q1 := ExtW.cell c1
          have b1 := ExtW.lt c0
          clear hx hxb
          cases hin : inB (k : Int) x.f (x.t - 1) with
          | true =>
            have Hq : Hid (rightsL (l.take (j + 1)) k = x.r) := Lib.hid (by rw [Hst.out, if_pos hin])
            clear Hst
            go_wp2
            (refine wp_region_quiet_ext (by kernel_rfl) (by kernel_rfl) ?_; (repeat (go_big_quiet_step ((go_at_call 31; exact Calls.at_same ((l1In_any _ _ _ _).mono (fun e w2 h => by rw [hin] at h; exact h)))))); refine wpQuiet_nil ?_; intro _ hw'; obtain ⟨sq, hw''⟩ := hw'; subst hw'')
            obtain ⟨w5, hw5⟩ := sq
            replace c2 := cell_ext hw5 c2
            go_wp2
            go_roundw
            case rel => exact ⟨j + 1, by omega, by go_num, by rw [Hq.out], hE2.trans hw5⟩
            case measure => simp [intOf]; omega
          | false =>
            have Hq : Hid (rightsL (l.take (j + 1)) k = q) := Lib.hid (by rw [Hst.out, if_neg (by rw [hin]; simp)])
            clear Hst
            go_wp2
            (refine wp_region_quiet_ext (by kernel_rfl) (by kernel_rfl) ?_; (repeat (go_big_quiet_step ((go_at_call 31; exact Calls.at_same ((l1In_any _ _ _ _).mono (fun e w2 h => by rw [hin] at h; exact h)))))); refine wpQuiet_nil ?_; intro _ hw'; obtain ⟨sq, hw''⟩ := hw'; subst hw'')
            obtain ⟨w5, hw5⟩ := sq
            go_wp2
            go_roundw
            case rel => exact ⟨j + 1, by omega, by go_num, by rw [Hq.out], hE2.trans hw5⟩
            case measure => simp [intOf]; omega
        · have hkl : l.take j = l := List.take_of_length_le (by omega)
          rw [hkl]
          clear hkl
          have hE3 := hE.trans hE2
          replace hown := ownsRow_ext hown hE2
          replace n0 := cell_ext hE3 n0
          replace n1 := cell_ext hE3 n1
          replace n2 := cell_ext hE3 n2
          have HS : Hid (rightsS l r k = if inB (k : Int) r.f (r.t - 1) = true then r.r else rightsL l k) := Lib.hid rfl
          generalize rightsL l k = q at *
          generalize rightsS l r k = Q at *
          cases hin : inB (k : Int) r.f (r.t - 1) with
          | true =>
            have hQr : Q = r.r := by rw [HS.out, if_pos hin]
            subst hQr
            clear HS
            by_cases hQ : r.r < 0
            · rw [addPage_neg hQ] at HK
              obtain ⟨a5, cap5, rfl, _, _, _⟩ := view_owns encReg_len hown
              go_wp2_with (go_at_call 31; refine ((l1In_any _ _ _ _).mono (fun e w2 h => by rw [hin] at h; exact h)).mono ?_; rintro e w' ⟨rfl, rfl⟩)
              go_roundw
              case rel => exact ⟨k + 1, by omega, by go_num, by rw [HK.out]; exact hown, hE3⟩
              case measure => simp [intOf]; omega
            · have hQ' : 0 ≤ r.r := by omega
              cases L with
              | nil =>
                rw [addPage_nil hQ] at HK
                obtain ⟨a5, cap5, rfl, _, _, _⟩ := view_owns encReg_len hown
                have rdm : Rd 3 encReg (wr.alloc (.cells #[.int .i64 (k : Int), .int .i64 ((k : Int) + 1), .int .i64 r.r] 33)) (some ⟨wr.heap.size, 0, none⟩) [⟨(k : Int), (k : Int) + 1, r.r⟩] := rd_lit_new [⟨(k : Int), (k : Int) + 1, r.r⟩] encReg_len rfl
                have ho := ownsRow_ext hown ((Ext.refl wr).alloc (.cells #[.int .i64 (k : Int), .int .i64 ((k : Int) + 1), .int .i64 r.r] 33))
                have hE4 := hE3.alloc (.cells #[.int .i64 (k : Int), .int .i64 ((k : Int) + 1), .int .i64 r.r] 33)
                go_wp2_with (first | (go_at_call 31; refine ((l1In_any _ _ _ _).mono (fun e w2 h => by rw [hin] at h; exact h)).mono ?_; rintro e w' ⟨rfl, rfl⟩) | (at_builtin; refine wpList_append_rd rfl _ _ 25 rfl w0.heap.size 33 _ 3 _ Try.underlying25 infoReg rfl (by decide) encReg_len encReg_one _ 0 ([] : List Reg) rfl ho rfl _ 1 1 [⟨(k : Int), (k : Int) + 1, r.r⟩] rfl rfl rdm (by omega) (by omega) hE4.size ?_))
                intro v' w5 hown' hgr
                have hE5 : Ext w0 w5 := hE4.grown hgr (fun i h => (ho.lt i h).1)
                have Hown' := Lib.hid hown'
                clear hown' hgr ho rdm
                go_wp2
                go_roundw
                case rel => exact ⟨k + 1, by omega, by go_num, by rw [HK.out]; simpa using Hown'.out, hE5⟩
                case measure => simp [intOf]; omega
              | cons z zs =>
                obtain ⟨m, hm⟩ : ∃ m, (z :: zs).length = m + 1 := ⟨zs.length, rfl⟩
                obtain ⟨L, hL⟩ : ∃ L, L = z :: zs := ⟨_, rfl⟩
                rw [← hL] at hown hRl HK hm
                clear hL
                obtain ⟨a5, cap5, rfl, hlc5, rd5, sh5⟩ := view_owns encReg_len hown
                rcases sh5 with ⟨_, h0, _⟩ | ⟨g, rfl, hgb⟩
                · rw [h0] at hm; simp at hm
                · obtain ⟨y, b5, o5, hy, hby, d0, d1, d2⟩ := atReg rd5 (show m < L.length by omega)
                  obtain ⟨rfl, rfl⟩ : g = b5 ∧ 0 = o5 := by simpa using hby
                  simp only [Nat.zero_add] at d0 d1 d2
                  have hm1 : (L.length : Int) - 1 = (m : Int) := by omega
                  have s1 : IntKind.i64.wrap (m : Int) = (m : Int) := IntWalk.i64_in _ (by omega)
                  have i0 : (0 : Int) ≤ (m : Int) := by omega
                  have i1 : (m : Int) < (L.length : Int) := by omega
                  have hyl : L[m] = y := by rw [List.getElem?_eq_getElem (show m < L.length by omega)] at hy; simpa using hy
                  by_cases hc : y.t = (k : Int) ∧ y.r = r.r
                  · rw [addPage_hit hQ hm hy hc] at HK
                    have o1 := owns_set encReg_len hown m 1 (.int .i64 ((k : Int) + 1)) ⟨L[m].f, (k : Int) + 1, L[m].r⟩ (by omega) (by omega) rfl
                    rw [hyl] at o1
                    have f0 := hown.frozenAt
                    have hE5 := hE3.setCell (p := ⟨g, m * 3 + 1, none⟩) hgb (.int .i64 ((k : Int) + 1))
                    have t1 : (y.t == (k : Int)) = true := by simpa using hc.1
                    have t2 : (y.r == r.r) = true := by simpa using hc.2
                    have hlen : (L.set m ⟨y.f, (k : Int) + 1, y.r⟩).length = L.length := List.length_set ..
                    have Ho1 := Lib.hid o1
                    have Hlen := Lib.hid hlen
                    clear o1 hlen hc hy hyl hm
                    go_wp2_with (go_at_call 31; refine ((l1In_any _ _ _ _).mono (fun e w2 h => by rw [hin] at h; exact h)).mono ?_; rintro e w' ⟨rfl, rfl⟩)
                    go_roundw
                    case rel => exact ⟨k + 1, by omega, by go_num, by rw [HK.out, Hlen.out]; simpa using Ho1.out, hE5⟩
                    case measure => simp [intOf]; omega
                  · rw [addPage_new hQ hm hy hc] at HK
                    have rdm : Rd 3 encReg (wr.alloc (.cells #[.int .i64 (k : Int), .int .i64 ((k : Int) + 1), .int .i64 r.r] 33)) (some ⟨wr.heap.size, 0, none⟩) [⟨(k : Int), (k : Int) + 1, r.r⟩] := rd_lit_new [⟨(k : Int), (k : Int) + 1, r.r⟩] encReg_len rfl
                    have ho := ownsRow_ext hown ((Ext.refl wr).alloc (.cells #[.int .i64 (k : Int), .int .i64 ((k : Int) + 1), .int .i64 r.r] 33))
                    have hE4 := hE3.alloc (.cells #[.int .i64 (k : Int), .int .i64 ((k : Int) + 1), .int .i64 r.r] 33)
                    have Hm := Lib.hid hm
                    clear hyl hm hy
                    by_cases h1 : y.t = (k : Int)
                    · have h2 : y.r ≠ r.r := fun h => hc ⟨h1, h⟩
                      have t1 : (y.t == (k : Int)) = true := by simpa using h1
                      have t2 : (y.r == r.r) = false := by simpa using h2
                      clear h1 h2 hc
                      go_wp2_with (first | (go_at_call 31; refine ((l1In_any _ _ _ _).mono (fun e w2 h => by rw [hin] at h; exact h)).mono ?_; rintro e w' ⟨rfl, rfl⟩) | (at_builtin; refine wpList_append_rd rfl _ _ 25 rfl w0.heap.size 33 _ 3 _ Try.underlying25 infoReg rfl (by decide) encReg_len encReg_one _ L.length L rfl ho rfl _ 1 1 [⟨(k : Int), (k : Int) + 1, r.r⟩] rfl rfl rdm (by omega) (by omega) hE4.size ?_))
                      intro v' w5 hown' hgr
                      have hE5 : Ext w0 w5 := hE4.grown hgr (fun i h => (ho.lt i h).1)
                      have Hown' := Lib.hid hown'
                      clear hown' hgr ho rdm
                      go_wp2
                      go_roundw
                      case rel => exact ⟨k + 1, by omega, by go_num, by rw [HK.out]; simpa using Hown'.out, hE5⟩
                      case measure => simp [intOf]; omega
                    · have t1 : (y.t == (k : Int)) = false := by simpa using h1
                      clear h1 hc
                      go_wp2_with (first | (go_at_call 31; refine ((l1In_any _ _ _ _).mono (fun e w2 h => by rw [hin] at h; exact h)).mono ?_; rintro e w' ⟨rfl, rfl⟩) | (at_builtin; refine wpList_append_rd rfl _ _ 25 rfl w0.heap.size 33 _ 3 _ Try.underlying25 infoReg rfl (by decide) encReg_len encReg_one _ L.length L rfl ho rfl _ 1 1 [⟨(k : Int), (k : Int) + 1, r.r⟩] rfl rfl rdm (by omega) (by omega) hE4.size ?_))
                      intro v' w5 hown' hgr
                      have hE5 : Ext w0 w5 := hE4.grown hgr (fun i h => (ho.lt i h).1)
                      have Hown' := Lib.hid hown'
                      clear hown' hgr ho rdm
                      go_wp2
                      go_roundw
                      case rel => exact ⟨k + 1, by omega, by go_num, by rw [HK.out]; simpa using Hown'.out, hE5⟩
                      case measure => simp [intOf]; omega
          | false =>
            have hQr : Q = q := by rw [HS.out, if_neg (by rw [hin]; simp)]
            subst hQr
            clear HS n2
            by_cases hQ : Q < 0
            · rw [addPage_neg hQ] at HK
              obtain ⟨a5, cap5, rfl, _, _, _⟩ := view_owns encReg_len hown
              go_wp2_with (go_at_call 31; refine ((l1In_any _ _ _ _).mono (fun e w2 h => by rw [hin] at h; exact h)).mono ?_; rintro e w' ⟨rfl, rfl⟩)
              go_roundw
              case rel => exact ⟨k + 1, by omega, by go_num, by rw [HK.out]; exact hown, hE3⟩
              case measure => simp [intOf]; omega
            · have hQ' : 0 ≤ Q := by omega
              cases L with
              | nil =>
                rw [addPage_nil hQ] at HK
                obtain ⟨a5, cap5, rfl, _, _, _⟩ := view_owns encReg_len hown
                have rdm : Rd 3 encReg (wr.alloc (.cells #[.int .i64 (k : Int), .int .i64 ((k : Int) + 1), .int .i64 Q] 33)) (some ⟨wr.heap.size, 0, none⟩) [⟨(k : Int), (k : Int) + 1, Q⟩] := rd_lit_new [⟨(k : Int), (k : Int) + 1, Q⟩] encReg_len rfl
                have ho := ownsRow_ext hown ((Ext.refl wr).alloc (.cells #[.int .i64 (k : Int), .int .i64 ((k : Int) + 1), .int .i64 Q] 33))
                have hE4 := hE3.alloc (.cells #[.int .i64 (k : Int), .int .i64 ((k : Int) + 1), .int .i64 Q] 33)
                go_wp2_with (first | (go_at_call 31; refine ((l1In_any _ _ _ _).mono (fun e w2 h => by rw [hin] at h; exact h)).mono ?_; rintro e w' ⟨rfl, rfl⟩) | (at_builtin; refine wpList_append_rd rfl _ _ 25 rfl w0.heap.size 33 _ 3 _ Try.underlying25 infoReg rfl (by decide) encReg_len encReg_one _ 0 ([] : List Reg) rfl ho rfl _ 1 1 [⟨(k : Int), (k : Int) + 1, Q⟩] rfl rfl rdm (by omega) (by omega) hE4.size ?_))
                intro v' w5 hown' hgr
                have hE5 : Ext w0 w5 := hE4.grown hgr (fun i h => (ho.lt i h).1)
                have Hown' := Lib.hid hown'
                clear hown' hgr ho rdm
                go_wp2
                go_roundw
                case rel => exact ⟨k + 1, by omega, by go_num, by rw [HK.out]; simpa using Hown'.out, hE5⟩
                case measure => simp [intOf]; omega
              | cons z zs =>
                obtain ⟨m, hm⟩ : ∃ m, (z :: zs).length = m + 1 := ⟨zs.length, rfl⟩
                obtain ⟨L, hL⟩ : ∃ L, L = z :: zs := ⟨_, rfl⟩
                rw [← hL] at hown hRl HK hm
                clear hL
                obtain ⟨a5, cap5, rfl, hlc5, rd5, sh5⟩ := view_owns encReg_len hown
                rcases sh5 with ⟨_, h0, _⟩ | ⟨g, rfl, hgb⟩
                · rw [h0] at hm; simp at hm
                · obtain ⟨y, b5, o5, hy, hby, d0, d1, d2⟩ := atReg rd5 (show m < L.length by omega)
                  obtain ⟨rfl, rfl⟩ : g = b5 ∧ 0 = o5 := by simpa using hby
                  simp only [Nat.zero_add] at d0 d1 d2
                  have hm1 : (L.length : Int) - 1 = (m : Int) := by omega
                  have s1 : IntKind.i64.wrap (m : Int) = (m : Int) := IntWalk.i64_in _ (by omega)
                  have i0 : (0 : Int) ≤ (m : Int) := by omega
                  have i1 : (m : Int) < (L.length : Int) := by omega
                  have hyl : L[m] = y := by rw [List.getElem?_eq_getElem (show m < L.length by omega)] at hy; simpa using hy
                  by_cases hc : y.t = (k : Int) ∧ y.r = Q
                  · rw [addPage_hit hQ hm hy hc] at HK
                    have o1 := owns_set encReg_len hown m 1 (.int .i64 ((k : Int) + 1)) ⟨L[m].f, (k : Int) + 1, L[m].r⟩ (by omega) (by omega) rfl
                    rw [hyl] at o1
                    have f0 := hown.frozenAt
                    have hE5 := hE3.setCell (p := ⟨g, m * 3 + 1, none⟩) hgb (.int .i64 ((k : Int) + 1))
                    have t1 : (y.t == (k : Int)) = true := by simpa using hc.1
                    have t2 : (y.r == Q) = true := by simpa using hc.2
                    have hlen : (L.set m ⟨y.f, (k : Int) + 1, y.r⟩).length = L.length := List.length_set ..
                    have Ho1 := Lib.hid o1
                    have Hlen := Lib.hid hlen
                    clear o1 hlen hc hy hyl hm
                    go_wp2_with (go_at_call 31; refine ((l1In_any _ _ _ _).mono (fun e w2 h => by rw [hin] at h; exact h)).mono ?_; rintro e w' ⟨rfl, rfl⟩)
                    go_roundw
                    case rel => exact ⟨k + 1, by omega, by go_num, by rw [HK.out, Hlen.out]; simpa using Ho1.out, hE5⟩
                    case measure => simp [intOf]; omega
                  · rw [addPage_new hQ hm hy hc] at HK
                    have rdm : Rd 3 encReg (wr.alloc (.cells #[.int .i64 (k : Int), .int .i64 ((k : Int) + 1), .int .i64 Q] 33)) (some ⟨wr.heap.size, 0, none⟩) [⟨(k : Int), (k : Int) + 1, Q⟩] := rd_lit_new [⟨(k : Int), (k : Int) + 1, Q⟩] encReg_len rfl
                    have ho := ownsRow_ext hown ((Ext.refl wr).alloc (.cells #[.int .i64 (k : Int), .int .i64 ((k : Int) + 1), .int .i64 Q] 33))
                    have hE4 := hE3.alloc (.cells #[.int .i64 (k : Int), .int .i64 ((k : Int) + 1), .int .i64 Q] 33)
                    have Hm := Lib.hid hm
                    clear hyl hm hy
                    by_cases h1 : y.t = (k : Int)
                    · have h2 : y.r ≠ Q := fun h => hc ⟨h1, h⟩
                      have t1 : (y.t == (k : Int)) = true := by simpa using h1
                      have t2 : (y.r == Q) = false := by simpa using h2
                      clear h1 h2 hc
                      go_wp2_with (first | (go_at_call 31; refine ((l1In_any _ _ _ _).mono (fun e w2 h => by rw [hin] at h; exact h)).mono ?_; rintro e w' ⟨rfl, rfl⟩) | (at_builtin; refine wpList_append_rd rfl _ _ 25 rfl w0.heap.size 33 _ 3 _ Try.underlying25 infoReg rfl (by decide) encReg_len encReg_one _ L.length L rfl ho rfl _ 1 1 [⟨(k : Int), (k : Int) + 1, Q⟩] rfl rfl rdm (by omega) (by omega) hE4.size ?_))
                      intro v' w5 hown' hgr
                      have hE5 : Ext w0 w5 := hE4.grown hgr (fun i h => (ho.lt i h).1)
                      have Hown' := Lib.hid hown'
                      clear hown' hgr ho rdm
                      go_wp2
                      go_roundw
                      case rel => exact ⟨k + 1, by omega, by go_num, by rw [HK.out]; simpa using Hown'.out, hE5⟩
                      case measure => simp [intOf]; omega
                    · have t1 : (y.t == (k : Int)) = false := by simpa using h1
                      clear h1 hc
                      go_wp2_with (first | (go_at_call 31; refine ((l1In_any _ _ _ _).mono (fun e w2 h => by rw [hin] at h; exact h)).mono ?_; rintro e w' ⟨rfl, rfl⟩) | (at_builtin; refine wpList_append_rd rfl _ _ 25 rfl w0.heap.size 33 _ 3 _ Try.underlying25 infoReg rfl (by decide) encReg_len encReg_one _ L.length L rfl ho rfl _ 1 1 [⟨(k : Int), (k : Int) + 1, Q⟩] rfl rfl rdm (by omega) (by omega) hE4.size ?_))
                      intro v' w5 hown' hgr
                      have hE5 : Ext w0 w5 := hE4.grown hgr (fun i h => (ho.lt i h).1)
                      have Hown' := Lib.hid hown'
                      clear hown' hgr ho rdm
                      go_wp2
                      go_roundw
                      case rel => exact ⟨k + 1, by omega, by go_num, by rw [HK.out]; simpa using Hown'.out, hE5⟩
                      case measure => simp [intOf]; omega
end Go.Proofs.Ythajlaelaebmnaa
