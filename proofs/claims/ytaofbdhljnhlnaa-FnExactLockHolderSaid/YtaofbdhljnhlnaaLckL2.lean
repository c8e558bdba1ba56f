/- FnExactLockHolder: the walk. No condition but that the list is shorter than 2^63. -/
import Derived.Test.YtaofbdhljnhlnaaLckH
namespace Go.Proofs.Ytaofbdhljnhlnaa
open Go.RowKit

set_option maxHeartbeats 4000000 in
theorem exactLockHolder_any (al : Option Addr) (capl : Nat) (l : List Lck) (hll : l.length ≤ 9223372036854775807) (x : Lck) (w : World) (hcl : Rd 4 encLck w al l) :
    Calls Try.prog 4 #[.slice al l.length capl, .agg #[.int .i64 x.who, .int .i64 x.f, .int .i64 x.t, .bool x.alone]] w (RetB True w) := by
  go_enter Try.func4, Try.ntmps4
  have hcwl := hcl
  go_wp2_with fail
  have E : Ext w _ := ((Ext.refl w).alloc (.cells #[.int .i64 x.who, .int .i64 x.f, .int .i64 x.t, .bool x.alone] 30))
  replace hcl := hcl.ext E
  have bxx0 : (w.alloc (.cells #[.int .i64 x.who, .int .i64 x.f, .int .i64 x.t, .bool x.alone] 30)).cell? ⟨w.heap.size, 0, none⟩ = some (.int .i64 x.who) := by simp
  have bxx1 : (w.alloc (.cells #[.int .i64 x.who, .int .i64 x.f, .int .i64 x.t, .bool x.alone] 30)).cell? ⟨w.heap.size, 1, none⟩ = some (.int .i64 x.f) := by simp
  have bxx2 : (w.alloc (.cells #[.int .i64 x.who, .int .i64 x.f, .int .i64 x.t, .bool x.alone] 30)).cell? ⟨w.heap.size, 2, none⟩ = some (.int .i64 x.t) := by simp
  have bxx3 : (w.alloc (.cells #[.int .i64 x.who, .int .i64 x.f, .int .i64 x.t, .bool x.alone] 30)).cell? ⟨w.heap.size, 3, none⟩ = some (.bool x.alone) := by simp
  refine (szLckS_any al capl l _ _ (by omega) (by omega) hll hcl).mono ?_
  rintro e w1 ⟨r1, rfl, hra1, hrb1, hrc1, hb1⟩
  have Hrc1 := Lib.hid hrc1
  clear hrc1
  replace hcl := hcl.ext hb1
  replace E := Ext.trans E hb1
  replace bxx0 := cell_ext hb1 bxx0
  replace bxx1 := cell_ext hb1 bxx1
  replace bxx2 := cell_ext hb1 bxx2
  replace bxx3 := cell_ext hb1 bxx3
  clear hb1
  by_cases hneg1 : r1 < 0
  · go_wp2
    go_ret
    exact RetB.mk true rfl (by simp) E
  have hlenl : l.length ≤ 1048576 := Hrc1.out (by omega)
  go_wp2_with fail
  have E0 := E.drew
  refine wp_region_v 6 (V := fun i v wv => match i with
    | 0 => v = .slice al l.length capl
    | 1 => OwnV w.heap.size 32 4 encLck l v wv
    | 2 => v = .agg #[.int .i64 x.who, .int .i64 x.f, .int .i64 x.t, .bool x.alone]
    | 3 => v = .agg #[.int .i64 x.who, .int .i64 x.f, .int .i64 x.t, .bool x.alone]
    | 4 => PostI (fun n => n = HoldF l x) v
    | 5 => PostI (fun n => n = HoldF l x) v
    | _ => True) rfl (by decide) (by kernel_rfl) (by kernel_rfl) (by kernel_rfl) ?_ ?_ ?_
  · intro i v wv wv2 h hE
    match i with
    | 0 => exact h
    | 1 => exact OwnV.ext h hE
    | 2 => exact h
    | 3 => exact h
    | 4 => exact h
    | 5 => exact h
    | (n + 6) => trivial
  · intro i o hi ho vs w2 hvl hE hd
    have E2 := E0.trans hE
    have hql := hcwl.ext E2
    have qbxx0 := cell_ext hE (show (World.drew _).cell? _ = _ from bxx0)
    have qbxx1 := cell_ext hE (show (World.drew _).cell? _ = _ from bxx1)
    have qbxx2 := cell_ext hE (show (World.drew _).cell? _ = _ from bxx2)
    have qbxx3 := cell_ext hE (show (World.drew _).cell? _ = _ from bxx3)
    match vs, hvl with
    | [y0, y1, y2, y3, y4, y5], _ =>
    rcases (show i = 0 ∨ i = 1 ∨ i = 2 ∨ i = 3 ∨ i = 4 ∨ i = 5 by omega) with rfl | rfl | rfl | rfl | rfl | rfl
    all_goals
      simp only [List.getElem?_cons_zero, List.getElem?_cons_succ, Option.some.injEq] at ho
      subst ho
      simp [Waits, Region.binds] at hd
    · simp [putAll, Act.put, hd]
      go_wp2
      exact ⟨rfl, _, rfl, rfl, Ext.refl _⟩
    · simp [putAll, Act.put, hd]
      go_wp2_with fail
      refine (toLckS_any al capl l _ hlenl hql).mono ?_
      rintro e w3 ⟨v3, rfl, ⟨own3, rfl⟩, hb3⟩
      go_wp2
      exact ⟨rfl, _, rfl, ⟨_, _, rfl, ownsRow_base own3 E2.size⟩, hb3⟩
    · simp [putAll, Act.put, hd]
      go_wp2
      exact ⟨rfl, _, rfl, rfl, Ext.refl _⟩
    · simp [putAll, Act.put, hd]
      go_wp2_with fail
      refine (toLck_any x _).mono ?_
      rintro e w3 ⟨v3, rfl, rfl, hb3⟩
      go_wp2
      exact ⟨rfl, _, rfl, rfl, hb3⟩
    · obtain ⟨⟨gl, cl, hyl, ownyl⟩, hyx⟩ := hd
      simp [putAll, Act.put, hyl, hyx]
      go_wp2_with fail
      refine (specLockHolder _ _ l x _ hll (rd_owns encLck_len ownyl rfl)).mono ?_
      rintro e w3 ⟨n0, rfl, hR3, hb3⟩
      have HR3 := Lib.hid hR3
      clear hR3
      go_wp2
      exact ⟨rfl, _, rfl, ⟨n0, rfl, HR3.out⟩, hb3⟩
    · have h9 := hd
      simp [putAll, Act.put]
      go_wp2
      exact ⟨rfl, _, rfl, (by first | exact h9 | exact h9.1), Ext.refl _⟩
  intro vs w2 hvl hb2 hV
  match vs, hvl with
  | [y0, y1, y2, y3, y4, y5], _ =>
  obtain ⟨nW, hyW, hRW⟩ := hV 5 (by omega)
  have HRW := Lib.hid hRW
  clear hRW hV
  simp at hyW
  subst hyW
  simp only [putAll, Act.put, List.take_succ_cons, List.take_zero, List.drop_succ_cons, List.drop_zero]
  simp
  clear E0
  replace hb2 : Ext _ w2 := ((Ext.refl _).drew).trans hb2
  replace hcl := hcl.ext hb2
  replace E := Ext.trans E hb2
  replace bxx0 := cell_ext hb2 bxx0
  replace bxx1 := cell_ext hb2 bxx1
  replace bxx2 := cell_ext hb2 bxx2
  replace bxx3 := cell_ext hb2 bxx3
  clear hb2
  go_wp2_with fail
  refine (toLckS_any al capl l _ hlenl hcl).mono ?_
  rintro e w3 ⟨v3, rfl, ⟨ownxl, rfl⟩, hb3⟩
  have gxl := (World.ownsRow.lt ownxl _ rfl).2
  replace hcl := hcl.ext hb3
  replace E := Ext.trans E hb3
  replace bxx0 := cell_ext hb3 bxx0
  replace bxx1 := cell_ext hb3 bxx1
  replace bxx2 := cell_ext hb3 bxx2
  replace bxx3 := cell_ext hb3 bxx3
  clear hb3
  go_wp2_with fail
  refine (toLck_any x _).mono ?_
  rintro e w4 ⟨v4, rfl, rfl, hb4⟩
  replace hcl := hcl.ext hb4
  replace E := Ext.trans E hb4
  replace bxx0 := cell_ext hb4 bxx0
  replace bxx1 := cell_ext hb4 bxx1
  replace bxx2 := cell_ext hb4 bxx2
  replace bxx3 := cell_ext hb4 bxx3
  replace ownxl := ownsRow_ext ownxl hb4
  clear hb4
  replace gxl := (World.ownsRow.lt ownxl _ rfl).2
  go_wp2_with fail
  refine (implLockHolder _ _ l x _ hll (owns_cap ownxl) (rd_owns encLck_len ownxl rfl)).mono ?_
  rintro e w5 ⟨nG, rfl, hRG, hb5⟩
  have HRG := Lib.hid hRG
  clear hRG
  replace hcl := hcl.ext hb5
  replace E := Ext.trans E hb5
  replace bxx0 := cell_ext hb5 bxx0
  replace bxx1 := cell_ext hb5 bxx1
  replace bxx2 := cell_ext hb5 bxx2
  replace bxx3 := cell_ext hb5 bxx3
  replace ownxl := ownsRow_ext ownxl hb5
  clear hb5
  obtain rfl : nG = nW := HRG.out.trans HRW.out.symm
  go_wp2_with fail
  refine (toLckS_any al capl l _ hlenl hcl).mono ?_
  rintro e w6 ⟨v6, rfl, ⟨ownt6, rfl⟩, hb6⟩
  replace hcl := hcl.ext hb6
  replace E := Ext.trans E hb6
  replace bxx0 := cell_ext hb6 bxx0
  replace bxx1 := cell_ext hb6 bxx1
  replace bxx2 := cell_ext hb6 bxx2
  replace bxx3 := cell_ext hb6 bxx3
  replace ownxl := ownsRow_ext ownxl hb6
  clear hb6
  go_wp2_with fail
  refine (eqLckS_any _ _ _ _ l l _ hll hll (rd_owns encLck_len ownxl rfl) (rd_owns encLck_len ownt6 rfl)).mono ?_
  rintro e w7 ⟨q7, rfl, hq7, hb7⟩
  obtain rfl : q7 = true := hq7.2 rfl
  clear hq7 ownt6
  replace hcl := hcl.ext hb7
  replace E := Ext.trans E hb7
  replace bxx0 := cell_ext hb7 bxx0
  replace bxx1 := cell_ext hb7 bxx1
  replace bxx2 := cell_ext hb7 bxx2
  replace bxx3 := cell_ext hb7 bxx3
  replace ownxl := ownsRow_ext ownxl hb7
  clear hb7
  go_wp2
  go_ret
  exact RetB.mk true rfl (by simp) E
end Go.Proofs.Ytaofbdhljnhlnaa
