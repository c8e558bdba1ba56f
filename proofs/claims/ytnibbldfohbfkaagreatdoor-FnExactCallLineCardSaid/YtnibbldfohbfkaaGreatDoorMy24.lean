/- Parts of one proof: each says below what it proves and on what conditions. -/
import Derived.Test.YtnibbldfohbfkaaGreatDoorMy23
set_option linter.unusedVariables false
set_option linter.unusedSimpArgs false
/- Calls: contracts of the program's (Kernel).tell, and of (Kernel).change for lines of other lengths. Condition: texts and rows of at most 2^20; the library's own variable holds a number. -/
namespace Go.Proofs.YtnibbldfohbfkaaGreatDoor
open Go.RowKit
theorem join_blank (an : Option Addr) (cn : Nat) (N : List ByteArray) (w : World) (hl : N.length ≤ 1048576) (hs : ∀ p ∈ N, p.size ≤ 1048576) {base : Nat} {wo : World} (ho : wo.ownsRow base 9 1 (.slice an N.length cn) N.length (N.flatMap encStr1)) (hrd : Rd 1 encStr1 w an N) :
  Calls Tryz.prog 90 #[.slice an N.length cn, .string ⟨#[32]⟩] w fun e w' => e = .returned (.string (joinW N)) ∧ Ext w w' := by
 by_cases h0 : N.length = 0
 ·obtain rfl := List.eq_nil_of_length_eq_zero h0
  exact (join_none an cn ⟨#[32]⟩ w).mono (fun e w' h => ⟨h.1, h.2 ▸ Ext.refl w⟩)
 ·obtain ⟨b, rfl⟩ := row_blk encStr1_len ho (by omega)
  obtain ⟨a', c', hv, hcap, _, _⟩ := view_owns encStr1_len ho
  simp only [Value.slice.injEq, true_and] at hv
  have hz := joinW_size hs
  refine (join_any b 0 cn N ⟨#[32]⟩ w (fun j x hx => ?_) (by omega) (by omega) (by rw [hv.2]; exact hcap) ?_).mono (fun e w' h => ⟨h.1, h.2⟩)
  ·obtain ⟨x', b', o', hx', ha, hc⟩ := atStr hrd (List.getElem?_eq_some_iff.1 hx).1
   rw [hx] at hx'
   cases hx'
   simp only [Option.some.injEq, Addr.mk.injEq] at ha
   obtain ⟨rfl, rfl, _⟩ := ha
   exact hc
  ·have h1 : (Lib.join (N.map (·.data.toList)) [32]).length = (joinW N).size := by unfold joinW; rw [ByteArray.size]; simp
   have h2 : N.length * (1048576 + 1) ≤ 1048576 * (1048576 + 1) := Nat.mul_le_mul_right _ hl
   show (Lib.join (N.map (·.data.toList)) [32]).length ≤ _
   omega
set_option maxRecDepth 10000 in
set_option maxHeartbeats 8000000 in
theorem ite_read (at_ : Option Addr) (cap : Nat) (T : List Nd) (cr ca cs cg : Int) (gw cw : Nat) (x : ByteArray) (w : World) (hx : x.size ≤ 1048576) (hl : T.length ≤ 1048576) (hT : ∀ x ∈ T, SmN 1048576 x) (hc : RdN w at_ T) (hm : MaxG w) (e0 : w.cell? ⟨gw, 0, none⟩ = some (.string ⟨#[114, 101, 97, 100]⟩)) (e1 : w.cell? ⟨gw, 1, none⟩ = some (.string x)) :
  Calls Tryz.prog 47 #[.agg #[.slice at_ T.length cap, .int .i64 cr, .int .i64 ca, .int .i64 cs, .int .i64 cg], .slice (some ⟨gw, 0, none⟩) 2 cw] w (fun e w' => e = .returned (.string (tellF T ⟨cr, ca, cs, cg⟩ [⟨#[114, 101, 97, 100]⟩, x])) ∧ Ext w w') := by
 have HR := Lib.hid (te_read T ⟨cr, ca, cs, cg⟩ x)
 have HZ := Lib.hid (rf_size T ⟨cr, ca, cs, cg⟩ x hT)
 obtain ⟨r, hr⟩ : ∃ r, readFile T ⟨cr, ca, cs, cg⟩ x = r := ⟨_, rfl⟩
 rw [hr] at HR HZ
 have HT := Lib.hid hT
 clear hT
 go_enter Tryz.func47, Tryz.ntmps47
 have S := Sep.start w
 replace S : Sep w (w.alloc (.cells #[.slice at_ T.length cap, .int .i64 cr, .int .i64 ca, .int .i64 cs, .int .i64 cg] 31)) [plBox w.heap.size #[.slice at_ T.length cap, .int .i64 cr, .int .i64 ca, .int .i64 cs, .int .i64 cg] 31] := S.alloc_at (by simp) _ _
 go_upto_region 1 with fail
 generalize (w.alloc (.cells #[.slice at_ T.length cap, .int .i64 cr, .int .i64 ca, .int .i64 cs, .int .i64 cg] 31)) = w7 at *
 generalize w.heap.size = Bk at *
 replace e0 := cell_ext S.ext e0
 replace e1 := cell_ext S.ext e1
 go_upto_region 3 with fail
 have HF := Lib.hid (fun w' (hE : Ext (World.drew w7) w') => implReadFile at_ cap T ⟨cr, ca, cs, cg⟩ x w' hx hl HT.out (hc.ext (S.ext.drew.trans hE)) (hm.ext (S.ext.drew.trans hE)))
 rw [hr] at HF
 clear hr
 clear e0
 have S := S.drew
 obtain ⟨bkd0, _⟩ := bx (S.box 0 rfl) 0 rfl
 obtain ⟨bkd1, _⟩ := bx (S.box 0 rfl) 1 rfl
 obtain ⟨bkd2, _⟩ := bx (S.box 0 rfl) 2 rfl
 obtain ⟨bkd3, _⟩ := bx (S.box 0 rfl) 3 rfl
 obtain ⟨bkd4, _⟩ := bx (S.box 0 rfl) 4 rfl
 have e1d := cell_ext (Ext.refl w7).drew e1
 have HSd := Lib.hid S
 clear S
 refine wp_region_c (V := VJt (World.drew w7) Bk at_ cap T cr ca cs cg gw 2 cw x x 0 r) (fun wv => Ext (World.drew w7) wv) (fun _ => none) [] 12 0 rfl (by decide) (by kernel_rfl) (by kernel_rfl) (by kernel_rfl) (by kernel_rfl) (Ext.refl _) (fun r hr => by omega) ?_ ?_
 ·intro i o hi ho vz w4 hvl hE hd hrest
  match vz, hvl with
  | [y0, y1, y2, y3, y4, y5, y6, y7, y8, y9, y10, y11], _ =>
  rcases (show i = 0 ∨ i = 1 ∨ i = 2 ∨ i = 3 ∨ i = 4 ∨ i = 5 ∨ i = 6 ∨ i = 7 ∨ i = 8 ∨ i = 9 ∨ i = 10 ∨ i = 11 by omega) with rfl | rfl | rfl | rfl | rfl | rfl | rfl | rfl | rfl | rfl | rfl | rfl
  all_goals
   simp only [List.getElem?_cons_zero, List.getElem?_cons_succ, Option.some.injEq] at ho
   subst ho
  all_goals try (clear hd hrest; simp [putAll, Act.put]; go_wp2; exact OneC.mk (VJt.ext) rfl rfl hE (Ext.refl _))
  ·have q0 : y0 = .pointer (some ⟨Bk, 0, none⟩) := hd ⟨0, .data⟩ (by simp) rfl (.inl rfl)
   have c0 := cell_ext hE bkd0
   subst q0
   clear hd hrest
   simp [putAll, Act.put]
   go_wp2
   exact OneC.mk (VJt.ext) rfl rfl hE (Ext.refl _)
  ·have q2 : y2 = .pointer (some ⟨Bk, 1, none⟩) := hd ⟨2, .data⟩ (by simp) rfl (.inl rfl)
   have c1 := cell_ext hE bkd1
   have c2 := cell_ext hE bkd2
   have c3 := cell_ext hE bkd3
   have c4 := cell_ext hE bkd4
   subst q2
   clear hd hrest
   simp [putAll, Act.put]
   go_wp2
   exact OneC.mk (VJt.ext) rfl rfl hE (Ext.refl _)
  ·have q4 : y4 = .slice (some ⟨gw, 0, none⟩) 2 cw := hd ⟨4, .data⟩ (by simp) rfl (.inl rfl)
   subst q4
   clear hd hrest
   simp [putAll, Act.put]
   go_wp2
   exact OneC.mk (VJt.ext) rfl rfl hE (Ext.refl _)
  ·have q5 : y5 = .pointer (some ⟨gw, 1, none⟩) := hd ⟨5, .data⟩ (by simp) rfl (.inl rfl)
   have c1 := cell_ext hE e1d
   subst q5
   clear hd hrest
   simp [putAll, Act.put]
   go_wp2
   exact OneC.mk (VJt.ext) rfl rfl hE (Ext.refl _)
  ·have q1 : y1 = .slice at_ T.length cap := hd ⟨1, .data⟩ (by simp) rfl (.inl rfl)
   have q3 : y3 = .agg #[.int .i64 cr, .int .i64 ca, .int .i64 cs, .int .i64 cg] := hd ⟨3, .data⟩ (by simp) rfl (.inl rfl)
   have q6 : y6 = .string x := hd ⟨6, .data⟩ (by simp) rfl (.inl rfl)
   have HC := Lib.hid (HF.out w4 hE)
   subst q1 q3 q6
   clear hd hrest
   simp [putAll, Act.put]
   go_wp2_with fail
   refine HC.out.mono ?_
   rintro e w5 ⟨rfl, hE5⟩
   have HE5 := Lib.hid hE5
   clear HC hE5
   go_wp2
   exact OneC.mk (VJt.ext) rfl rfl (hE.trans HE5.out) HE5.out
  ·have q7 : y7 = .tuple #[.string r.1, .int .i64 r.2] := hd ⟨7, .data⟩ (by simp) rfl (.inl rfl)
   subst q7
   clear hd hrest
   simp [putAll, Act.put]
   go_wp2
   exact OneC.mk (VJt.ext) rfl rfl hE (Ext.refl _)
  ·have q8 : y8 = .tuple #[.string r.1, .int .i64 r.2] := hd ⟨8, .data⟩ (by simp) rfl (.inl rfl)
   subst q8
   clear hd hrest
   simp [putAll, Act.put]
   go_wp2
   exact OneC.mk (VJt.ext) rfl rfl hE (Ext.refl _)
  ·have q8 : y8 = .tuple #[.string r.1, .int .i64 r.2] := hd ⟨8, .data⟩ (by simp) rfl (.inl rfl)
   subst q8
   clear hd hrest
   simp [putAll, Act.put]
   go_wp2
   exact OneC.mk (VJt.ext) rfl rfl hE (Ext.refl _)
  ·have q9 : y9 = .string r.1 := hd ⟨9, .data⟩ (by simp) rfl (.inl rfl)
   subst q9
   clear hd hrest
   simp [putAll, Act.put]
   go_wp2
   exact OneC.mk (VJt.ext) rfl rfl hE (Ext.refl _)
 intro vz w8 hvl hE hV _
 match vz, hvl with
 | [y0, y1, y2, y3, y4, y5, y6, y7, y8, y9, y10, y11], _ =>
 have q10 : y10 = .int .i64 r.2 := hV 10 (by omega) rfl
 have q11 : y11 = .string r.1 := hV 11 (by omega) rfl
 subst q11 q10
 clear hV hvl bkd0 bkd1 bkd2 bkd3 bkd4 e1d
 simp only [putAll, Act.put, List.take_succ_cons, List.take_zero, List.drop_succ_cons, List.drop_zero]
 simp
 have S := HSd.out
 replace S := S.step hE
 clear HSd HF hE
 generalize r.1 = tx at *
 generalize r.2 = f at *
 by_cases hf : f = 0
 ·subst hf
  have HQ : Hid (tellF T ⟨cr, ca, cs, cg⟩ [⟨#[114, 101, 97, 100]⟩, x] = ⟨#[61]⟩ ++ tx) := Lib.hid (by rw [HR.out, if_pos rfl])
  have hsz : (⟨#[61]⟩ : ByteArray).size + tx.size ≤ 9223372036854775807 := by
   have := HZ.out
   show 1 + tx.size ≤ _
   omega
  go_wp2
  go_ret
  exact ⟨by rw [HQ.out]; rfl, S.ext⟩
 ·have HQ : Hid (tellF T ⟨cr, ca, cs, cg⟩ [⟨#[114, 101, 97, 100]⟩, x] = faultText f) := Lib.hid (by rw [HR.out, if_neg hf])
  have tf : (f != 0) = true := by simpa using hf
  clear hf HR HZ
  go_wp2_with fail
  refine (implFaultText f _).mono ?_
  rintro e w9 ⟨rfl, hE9⟩
  have HE9 := Lib.hid (S.ext.trans hE9)
  clear hE9
  go_wp2
  go_ret
  exact ⟨by rw [HQ.out]; rfl, HE9.out⟩
set_option maxRecDepth 10000 in
set_option maxHeartbeats 8000000 in
theorem ite_list (at_ : Option Addr) (cap : Nat) (T : List Nd) (cr ca cs cg : Int) (gw cw : Nat) (x : ByteArray) (w : World) (hx : x.size ≤ 1048576) (hl : T.length ≤ 1048576) (hT : ∀ x ∈ T, SmN 1048576 x) (hc : RdN w at_ T) (hm : MaxG w) (e0 : w.cell? ⟨gw, 0, none⟩ = some (.string ⟨#[108, 105, 115, 116]⟩)) (e1 : w.cell? ⟨gw, 1, none⟩ = some (.string x)) :
  Calls Tryz.prog 47 #[.agg #[.slice at_ T.length cap, .int .i64 cr, .int .i64 ca, .int .i64 cs, .int .i64 cg], .slice (some ⟨gw, 0, none⟩) 2 cw] w (fun e w' => e = .returned (.string (tellF T ⟨cr, ca, cs, cg⟩ [⟨#[108, 105, 115, 116]⟩, x])) ∧ Ext w w') := by
 have HR := Lib.hid (te_list T ⟨cr, ca, cs, cg⟩ x)
 have HZ := Lib.hid (li_size T ⟨cr, ca, cs, cg⟩ x hT)
 obtain ⟨r, hr⟩ : ∃ r, listNames T ⟨cr, ca, cs, cg⟩ x = r := ⟨_, rfl⟩
 rw [hr] at HR HZ
 have HT := Lib.hid hT
 clear hT
 go_enter Tryz.func47, Tryz.ntmps47
 have S := Sep.start w
 replace S : Sep w (w.alloc (.cells #[.slice at_ T.length cap, .int .i64 cr, .int .i64 ca, .int .i64 cs, .int .i64 cg] 31)) [plBox w.heap.size #[.slice at_ T.length cap, .int .i64 cr, .int .i64 ca, .int .i64 cs, .int .i64 cg] 31] := S.alloc_at (by simp) _ _
 go_upto_region 1 with fail
 generalize (w.alloc (.cells #[.slice at_ T.length cap, .int .i64 cr, .int .i64 ca, .int .i64 cs, .int .i64 cg] 31)) = w7 at *
 generalize w.heap.size = Bk at *
 replace e0 := cell_ext S.ext e0
 replace e1 := cell_ext S.ext e1
 go_upto_region 5 with fail
 have HF := Lib.hid (fun w' (hE : Ext (World.drew w7) w') => implListNames at_ cap T ⟨cr, ca, cs, cg⟩ x w' hx hl HT.out (hc.ext (S.ext.drew.trans hE)) (hm.ext (S.ext.drew.trans hE)))
 rw [hr] at HF
 clear hr
 clear e0
 have S := S.drew
 obtain ⟨bkd0, _⟩ := bx (S.box 0 rfl) 0 rfl
 obtain ⟨bkd1, _⟩ := bx (S.box 0 rfl) 1 rfl
 obtain ⟨bkd2, _⟩ := bx (S.box 0 rfl) 2 rfl
 obtain ⟨bkd3, _⟩ := bx (S.box 0 rfl) 3 rfl
 obtain ⟨bkd4, _⟩ := bx (S.box 0 rfl) 4 rfl
 have e1d := cell_ext (Ext.refl w7).drew e1
 have HSd := Lib.hid S
 clear S
 refine wp_region_c (V := VJn (World.drew w7) Bk at_ cap T cr ca cs cg gw 2 cw x x 0 r) (fun wv => Ext (World.drew w7) wv) (fun _ => none) [] 12 0 rfl (by decide) (by kernel_rfl) (by kernel_rfl) (by kernel_rfl) (by kernel_rfl) (Ext.refl _) (fun r hr => by omega) ?_ ?_
 ·intro i o hi ho vz w4 hvl hE hd hrest
  match vz, hvl with
  | [y0, y1, y2, y3, y4, y5, y6, y7, y8, y9, y10, y11], _ =>
  rcases (show i = 0 ∨ i = 1 ∨ i = 2 ∨ i = 3 ∨ i = 4 ∨ i = 5 ∨ i = 6 ∨ i = 7 ∨ i = 8 ∨ i = 9 ∨ i = 10 ∨ i = 11 by omega) with rfl | rfl | rfl | rfl | rfl | rfl | rfl | rfl | rfl | rfl | rfl | rfl
  all_goals
   simp only [List.getElem?_cons_zero, List.getElem?_cons_succ, Option.some.injEq] at ho
   subst ho
  all_goals try (clear hd hrest; simp [putAll, Act.put]; go_wp2; exact OneC.mk (VJn.ext) rfl rfl hE (Ext.refl _))
  ·have q0 : y0 = .pointer (some ⟨Bk, 0, none⟩) := hd ⟨0, .data⟩ (by simp) rfl (.inl rfl)
   have c0 := cell_ext hE bkd0
   subst q0
   clear hd hrest
   simp [putAll, Act.put]
   go_wp2
   exact OneC.mk (VJn.ext) rfl rfl hE (Ext.refl _)
  ·have q2 : y2 = .pointer (some ⟨Bk, 1, none⟩) := hd ⟨2, .data⟩ (by simp) rfl (.inl rfl)
   have c1 := cell_ext hE bkd1
   have c2 := cell_ext hE bkd2
   have c3 := cell_ext hE bkd3
   have c4 := cell_ext hE bkd4
   subst q2
   clear hd hrest
   simp [putAll, Act.put]
   go_wp2
   exact OneC.mk (VJn.ext) rfl rfl hE (Ext.refl _)
  ·have q4 : y4 = .slice (some ⟨gw, 0, none⟩) 2 cw := hd ⟨4, .data⟩ (by simp) rfl (.inl rfl)
   subst q4
   clear hd hrest
   simp [putAll, Act.put]
   go_wp2
   exact OneC.mk (VJn.ext) rfl rfl hE (Ext.refl _)
  ·have q5 : y5 = .pointer (some ⟨gw, 1, none⟩) := hd ⟨5, .data⟩ (by simp) rfl (.inl rfl)
   have c1 := cell_ext hE e1d
   subst q5
   clear hd hrest
   simp [putAll, Act.put]
   go_wp2
   exact OneC.mk (VJn.ext) rfl rfl hE (Ext.refl _)
  ·have q1 : y1 = .slice at_ T.length cap := hd ⟨1, .data⟩ (by simp) rfl (.inl rfl)
   have q3 : y3 = .agg #[.int .i64 cr, .int .i64 ca, .int .i64 cs, .int .i64 cg] := hd ⟨3, .data⟩ (by simp) rfl (.inl rfl)
   have q6 : y6 = .string x := hd ⟨6, .data⟩ (by simp) rfl (.inl rfl)
   have HC := Lib.hid (HF.out w4 hE)
   subst q1 q3 q6
   clear hd hrest
   simp [putAll, Act.put]
   go_wp2_with fail
   refine HC.out.mono ?_
   rintro e w5 ⟨u5, rfl, S5⟩
   have S6 := S5.since hE
   have hE5 := S5.ext
   clear HC S5
   go_wp2
   exact OneC.mk (VJn.ext) rfl ⟨_, rfl, S6⟩ (hE.trans hE5) hE5
  ·obtain ⟨u5, q7, S5⟩ : ∃ u, y7 = .tuple #[u, .int .i64 r.2] ∧ Sep (World.drew w7) w4 [plRow 9 1 encStr1 u r.1] := hd ⟨7, .data⟩ (by simp) rfl (.inl rfl)
   have HS5 := Lib.hid S5
   subst q7
   clear hd hrest S5
   simp [putAll, Act.put]
   go_wp2
   exact OneC.mk (VJn.ext) rfl ⟨_, rfl, HS5.out⟩ hE (Ext.refl _)
  ·obtain ⟨u5, q8, S5⟩ : ∃ u, y8 = .tuple #[u, .int .i64 r.2] ∧ Sep (World.drew w7) w4 [plRow 9 1 encStr1 u r.1] := hd ⟨8, .data⟩ (by simp) rfl (.inl rfl)
   have HS5 := Lib.hid S5
   subst q8
   clear hd hrest S5
   simp [putAll, Act.put]
   go_wp2
   exact OneC.mk (VJn.ext) rfl HS5.out hE (Ext.refl _)
  ·obtain ⟨u5, q8, S5⟩ : ∃ u, y8 = .tuple #[u, .int .i64 r.2] ∧ Sep (World.drew w7) w4 [plRow 9 1 encStr1 u r.1] := hd ⟨8, .data⟩ (by simp) rfl (.inl rfl)
   have HS5 := Lib.hid S5
   subst q8
   clear hd hrest S5
   simp [putAll, Act.put]
   go_wp2
   exact OneC.mk (VJn.ext) rfl rfl hE (Ext.refl _)
  ·have S5 : Sep (World.drew w7) w4 [plRow 9 1 encStr1 y9 r.1] := hd ⟨9, .data⟩ (by simp) rfl (.inl rfl)
   have HS5 := Lib.hid S5
   clear hd hrest S5
   simp [putAll, Act.put]
   go_wp2
   exact OneC.mk (VJn.ext) rfl HS5.out hE (Ext.refl _)
 intro vz w8 hvl hE hV _
 match vz, hvl with
 | [y0, y1, y2, y3, y4, y5, y6, y7, y8, y9, y10, y11], _ =>
 have q10 : y10 = .int .i64 r.2 := hV 10 (by omega) rfl
 have S8 : Sep (World.drew w7) w8 [plRow 9 1 encStr1 y11 r.1] := hV 11 (by omega) rfl
 subst q10
 clear hV hvl bkd0 bkd1 bkd2 bkd3 bkd4 e1d
 simp only [putAll, Act.put, List.take_succ_cons, List.take_zero, List.drop_succ_cons, List.drop_zero]
 simp
 have S := HSd.out.call S8
 clear HSd HF hE S8
 generalize r.1 = N at *
 generalize r.2 = f at *
 obtain ⟨an, cn, rfl, _, hrd, _⟩ := view_owns encStr1_len (S.row 0 rfl)
 have HRD := Lib.hid hrd
 clear hrd
 have S : Sep w w8 [plRow 9 1 encStr1 (.slice an N.length cn) N, plBox Bk #[.slice at_ T.length cap, .int .i64 cr, .int .i64 ca, .int .i64 cs, .int .i64 cg] 31] := S
 go_wp2_with fail
 refine (join_blank an cn N w8 HZ.out.1 HZ.out.2 (S.row 0 rfl) HRD.out).mono ?_
 rintro e wr ⟨rfl, hE⟩
 replace S := S.step hE
 clear hE
 have hjz := joinW_size HZ.out.2
 have hnl := HZ.out.1
 by_cases hf : f = 0
 ·subst hf
  have HQ : Hid (tellF T ⟨cr, ca, cs, cg⟩ [⟨#[108, 105, 115, 116]⟩, x] = ⟨#[61]⟩ ++ joinW N) := Lib.hid (by rw [HR.out, if_pos rfl])
  have hsz : (⟨#[61]⟩ : ByteArray).size + (joinW N).size ≤ 9223372036854775807 := by
   have h3 : N.length * (1048576 + 1) ≤ 1048576 * (1048576 + 1) := Nat.mul_le_mul_right _ hnl
   show 1 + _ ≤ _
   omega
  clear hjz hnl
  go_wp2
  go_ret
  exact ⟨by rw [HQ.out]; rfl, S.ext⟩
 ·have HQ : Hid (tellF T ⟨cr, ca, cs, cg⟩ [⟨#[108, 105, 115, 116]⟩, x] = faultText f) := Lib.hid (by rw [HR.out, if_neg hf])
  have tf : (f != 0) = true := by simpa using hf
  clear hf HR HZ hjz hnl
  go_wp2_with fail
  refine (implFaultText f _).mono ?_
  rintro e w9 ⟨rfl, hE9⟩
  have HE9 := Lib.hid (S.ext.trans hE9)
  clear hE9
  go_wp2
  go_ret
  exact ⟨by rw [HQ.out]; rfl, HE9.out⟩
set_option maxRecDepth 10000 in
set_option maxHeartbeats 8000000 in
theorem ite2_other (at_ : Option Addr) (cap : Nat) (T : List Nd) (cr ca cs cg : Int) (gw cw : Nat) (a x : ByteArray) (w : World) (h_read : a ≠ ⟨#[114, 101, 97, 100]⟩) (h_list : a ≠ ⟨#[108, 105, 115, 116]⟩) (e0 : w.cell? ⟨gw, 0, none⟩ = some (.string a)) :
  Calls Tryz.prog 47 #[.agg #[.slice at_ T.length cap, .int .i64 cr, .int .i64 ca, .int .i64 cs, .int .i64 cg], .slice (some ⟨gw, 0, none⟩) 2 cw] w (fun e w' => e = .returned (.string (tellF T ⟨cr, ca, cs, cg⟩ [a, x])) ∧ Ext w w') := by
 have HQ : Hid (tellF T ⟨cr, ca, cs, cg⟩ [a, x] = faultText 1) := Lib.hid (te_two T ⟨cr, ca, cs, cg⟩ x h_read h_list)
 have t0 : (a.toList == [114, 101, 97, 100]) = false := Bool.eq_false_iff.2 (fun h => h_read (bytes_eq.1 (by rw [eq_of_beq h, ByteArray.toList_eq])))
 have t1 : (a.toList == [108, 105, 115, 116]) = false := Bool.eq_false_iff.2 (fun h => h_list (bytes_eq.1 (by rw [eq_of_beq h, ByteArray.toList_eq])))
 clear h_read h_list
 go_enter Tryz.func47, Tryz.ntmps47
 have S := Sep.start w
 replace S : Sep w (w.alloc (.cells #[.slice at_ T.length cap, .int .i64 cr, .int .i64 ca, .int .i64 cs, .int .i64 cg] 31)) [plBox w.heap.size #[.slice at_ T.length cap, .int .i64 cr, .int .i64 ca, .int .i64 cs, .int .i64 cg] 31] := S.alloc_at (by simp) _ _
 go_upto_region 1 with fail
 generalize (w.alloc (.cells #[.slice at_ T.length cap, .int .i64 cr, .int .i64 ca, .int .i64 cs, .int .i64 cg] 31)) = w7 at *
 generalize w.heap.size = Bk at *
 replace e0 := cell_ext S.ext e0
 go_wp2_with fail
 refine (implFaultText 1 _).mono ?_
 rintro e w9 ⟨rfl, hE9⟩
 have HE9 := Lib.hid (S.ext.trans hE9)
 clear hE9
 go_wp2
 go_ret
 exact ⟨by rw [HQ.out]; rfl, HE9.out⟩
set_option maxRecDepth 10000 in
set_option maxHeartbeats 8000000 in
theorem iten_read (at_ : Option Addr) (cap : Nat) (T : List Nd) (cr ca cs cg : Int) (gw cw : Nat) (n : Nat) (W : List ByteArray) (hn : W.length = n) (h2 : n ≠ 2) (hp : 0 < n) (w : World) (e0 : w.cell? ⟨gw, 0, none⟩ = some (.string ⟨#[114, 101, 97, 100]⟩)) :
  Calls Tryz.prog 47 #[.agg #[.slice at_ T.length cap, .int .i64 cr, .int .i64 ca, .int .i64 cs, .int .i64 cg], .slice (some ⟨gw, 0, none⟩) n cw] w (fun e w' => e = .returned (.string (tellF T ⟨cr, ca, cs, cg⟩ W)) ∧ Ext w w') := by
 have HQ : Hid (tellF T ⟨cr, ca, cs, cg⟩ W = faultText 1) := Lib.hid (te_len T ⟨cr, ca, cs, cg⟩ (hn ▸ h2))
 have t2 : ((n : Int) == 2) = false := by simpa using (fun h : (n : Int) = 2 => h2 (by omega))
 have i0 : (0 : Int) < (n : Int) := by omega
 clear hn h2
 go_enter Tryz.func47, Tryz.ntmps47
 have S := Sep.start w
 replace S : Sep w (w.alloc (.cells #[.slice at_ T.length cap, .int .i64 cr, .int .i64 ca, .int .i64 cs, .int .i64 cg] 31)) [plBox w.heap.size #[.slice at_ T.length cap, .int .i64 cr, .int .i64 ca, .int .i64 cs, .int .i64 cg] 31] := S.alloc_at (by simp) _ _
 go_upto_region 1 with fail
 generalize (w.alloc (.cells #[.slice at_ T.length cap, .int .i64 cr, .int .i64 ca, .int .i64 cs, .int .i64 cg] 31)) = w7 at *
 generalize w.heap.size = Bk at *
 replace e0 := cell_ext S.ext e0
 go_wp2_with fail
 refine (implFaultText 1 _).mono ?_
 rintro e w9 ⟨rfl, hE9⟩
 have HE9 := Lib.hid (S.ext.trans hE9)
 clear hE9
 go_wp2
 go_ret
 exact ⟨by rw [HQ.out]; rfl, HE9.out⟩
set_option maxRecDepth 10000 in
set_option maxHeartbeats 8000000 in
theorem iten_list (at_ : Option Addr) (cap : Nat) (T : List Nd) (cr ca cs cg : Int) (gw cw : Nat) (n : Nat) (W : List ByteArray) (hn : W.length = n) (h2 : n ≠ 2) (hp : 0 < n) (w : World) (e0 : w.cell? ⟨gw, 0, none⟩ = some (.string ⟨#[108, 105, 115, 116]⟩)) :
  Calls Tryz.prog 47 #[.agg #[.slice at_ T.length cap, .int .i64 cr, .int .i64 ca, .int .i64 cs, .int .i64 cg], .slice (some ⟨gw, 0, none⟩) n cw] w (fun e w' => e = .returned (.string (tellF T ⟨cr, ca, cs, cg⟩ W)) ∧ Ext w w') := by
 have HQ : Hid (tellF T ⟨cr, ca, cs, cg⟩ W = faultText 1) := Lib.hid (te_len T ⟨cr, ca, cs, cg⟩ (hn ▸ h2))
 have t2 : ((n : Int) == 2) = false := by simpa using (fun h : (n : Int) = 2 => h2 (by omega))
 have i0 : (0 : Int) < (n : Int) := by omega
 clear hn h2
 go_enter Tryz.func47, Tryz.ntmps47
 have S := Sep.start w
 replace S : Sep w (w.alloc (.cells #[.slice at_ T.length cap, .int .i64 cr, .int .i64 ca, .int .i64 cs, .int .i64 cg] 31)) [plBox w.heap.size #[.slice at_ T.length cap, .int .i64 cr, .int .i64 ca, .int .i64 cs, .int .i64 cg] 31] := S.alloc_at (by simp) _ _
 go_upto_region 1 with fail
 generalize (w.alloc (.cells #[.slice at_ T.length cap, .int .i64 cr, .int .i64 ca, .int .i64 cs, .int .i64 cg] 31)) = w7 at *
 generalize w.heap.size = Bk at *
 replace e0 := cell_ext S.ext e0
 go_wp2_with fail
 refine (implFaultText 1 _).mono ?_
 rintro e w9 ⟨rfl, hE9⟩
 have HE9 := Lib.hid (S.ext.trans hE9)
 clear hE9
 go_wp2
 go_ret
 exact ⟨by rw [HQ.out]; rfl, HE9.out⟩
set_option maxRecDepth 10000 in
set_option maxHeartbeats 8000000 in
theorem iten_other (at_ : Option Addr) (cap : Nat) (T : List Nd) (cr ca cs cg : Int) (gw cw : Nat) (n : Nat) (W : List ByteArray) (a : ByteArray) (hn : W.length = n) (h2 : n ≠ 2) (hp : 0 < n) (w : World) (h_read : a ≠ ⟨#[114, 101, 97, 100]⟩) (h_list : a ≠ ⟨#[108, 105, 115, 116]⟩) (e0 : w.cell? ⟨gw, 0, none⟩ = some (.string a)) :
  Calls Tryz.prog 47 #[.agg #[.slice at_ T.length cap, .int .i64 cr, .int .i64 ca, .int .i64 cs, .int .i64 cg], .slice (some ⟨gw, 0, none⟩) n cw] w (fun e w' => e = .returned (.string (tellF T ⟨cr, ca, cs, cg⟩ W)) ∧ Ext w w') := by
 have HQ : Hid (tellF T ⟨cr, ca, cs, cg⟩ W = faultText 1) := Lib.hid (te_len T ⟨cr, ca, cs, cg⟩ (hn ▸ h2))
 have t0 : (a.toList == [114, 101, 97, 100]) = false := Bool.eq_false_iff.2 (fun h => h_read (bytes_eq.1 (by rw [eq_of_beq h, ByteArray.toList_eq])))
 have t1 : (a.toList == [108, 105, 115, 116]) = false := Bool.eq_false_iff.2 (fun h => h_list (bytes_eq.1 (by rw [eq_of_beq h, ByteArray.toList_eq])))
 clear h_read h_list
 have t2 : ((n : Int) == 2) = false := by simpa using (fun h : (n : Int) = 2 => h2 (by omega))
 have i0 : (0 : Int) < (n : Int) := by omega
 clear hn h2
 go_enter Tryz.func47, Tryz.ntmps47
 have S := Sep.start w
 replace S : Sep w (w.alloc (.cells #[.slice at_ T.length cap, .int .i64 cr, .int .i64 ca, .int .i64 cs, .int .i64 cg] 31)) [plBox w.heap.size #[.slice at_ T.length cap, .int .i64 cr, .int .i64 ca, .int .i64 cs, .int .i64 cg] 31] := S.alloc_at (by simp) _ _
 go_upto_region 1 with fail
 generalize (w.alloc (.cells #[.slice at_ T.length cap, .int .i64 cr, .int .i64 ca, .int .i64 cs, .int .i64 cg] 31)) = w7 at *
 generalize w.heap.size = Bk at *
 replace e0 := cell_ext S.ext e0
 go_wp2_with fail
 refine (implFaultText 1 _).mono ?_
 rintro e w9 ⟨rfl, hE9⟩
 have HE9 := Lib.hid (S.ext.trans hE9)
 clear hE9
 go_wp2
 go_ret
 exact ⟨by rw [HQ.out]; rfl, HE9.out⟩
set_option maxRecDepth 10000 in
set_option maxHeartbeats 8000000 in
theorem ichn_no (at_ : Option Addr) (cap : Nat) (T : List Nd) (cr ca cs cg : Int) (gw cw : Nat) (n : Nat) (W : List ByteArray) (hn : W.length = n) (h2 : n ≠ 2) (h3 : n ≠ 3) (hp : 0 < n) (a : ByteArray) (w : World) (e0 : w.cell? ⟨gw, 0, none⟩ = some (.string a)) :
  Calls Tryz.prog 45 #[.agg #[.slice at_ T.length cap, .int .i64 cr, .int .i64 ca, .int .i64 cs, .int .i64 cg], .slice (some ⟨gw, 0, none⟩) n cw] w (RetCh (changeF T ⟨cr, ca, cs, cg⟩ W) w) := by
 have HX : Hid (changeF T ⟨cr, ca, cs, cg⟩ W = none) := Lib.hid (ch_len T ⟨cr, ca, cs, cg⟩ (hn ▸ h2) (hn ▸ h3))
 have t2 : ((n : Int) == 2) = false := by simpa using (fun h : (n : Int) = 2 => h2 (by omega))
 have t3 : ((n : Int) == 3) = false := by simpa using (fun h : (n : Int) = 3 => h3 (by omega))
 have i0 : (0 : Int) < (n : Int) := by omega
 clear hn h2 h3
 go_enter Tryz.func45, Tryz.ntmps45
 have S := Sep.start w
 replace S : Sep w (w.alloc (.cells #[.slice at_ T.length cap, .int .i64 cr, .int .i64 ca, .int .i64 cs, .int .i64 cg] 31)) [plBox w.heap.size #[.slice at_ T.length cap, .int .i64 cr, .int .i64 ca, .int .i64 cs, .int .i64 cg] 31] := S.alloc_at (by simp) _ _
 go_upto_region 1 with fail
 generalize (w.alloc (.cells #[.slice at_ T.length cap, .int .i64 cr, .int .i64 ca, .int .i64 cs, .int .i64 cg] 31)) = w7 at *
 generalize w.heap.size = Bk at *
 replace e0 := cell_ext S.ext e0
 rcases casesn a with h | h | h | h | h | h | h | h
 case' inl =>
  have u0 : (a.toList == [102, 111, 108, 100, 101, 114]) = true := by rw [h, ByteArray.toList_eq]; rfl
  have u1 : (a.toList == [102, 105, 108, 101]) = false := by rw [h, ByteArray.toList_eq]; rfl
  have u2 : (a.toList == [100, 114, 111, 112]) = false := by rw [h, ByteArray.toList_eq]; rfl
  have u3 : (a.toList == [119, 114, 105, 116, 101]) = false := by rw [h, ByteArray.toList_eq]; rfl
  have u4 : (a.toList == [109, 111, 100, 101]) = false := by rw [h, ByteArray.toList_eq]; rfl
  have u5 : (a.toList == [108, 105, 110, 107]) = false := by rw [h, ByteArray.toList_eq]; rfl
  have u6 : (a.toList == [109, 111, 118, 101]) = false := by rw [h, ByteArray.toList_eq]; rfl
  clear h
 case' inr.inl =>
  have u0 : (a.toList == [102, 111, 108, 100, 101, 114]) = false := by rw [h, ByteArray.toList_eq]; rfl
  have u1 : (a.toList == [102, 105, 108, 101]) = true := by rw [h, ByteArray.toList_eq]; rfl
  have u2 : (a.toList == [100, 114, 111, 112]) = false := by rw [h, ByteArray.toList_eq]; rfl
  have u3 : (a.toList == [119, 114, 105, 116, 101]) = false := by rw [h, ByteArray.toList_eq]; rfl
  have u4 : (a.toList == [109, 111, 100, 101]) = false := by rw [h, ByteArray.toList_eq]; rfl
  have u5 : (a.toList == [108, 105, 110, 107]) = false := by rw [h, ByteArray.toList_eq]; rfl
  have u6 : (a.toList == [109, 111, 118, 101]) = false := by rw [h, ByteArray.toList_eq]; rfl
  clear h
 case' inr.inr.inl =>
  have u0 : (a.toList == [102, 111, 108, 100, 101, 114]) = false := by rw [h, ByteArray.toList_eq]; rfl
  have u1 : (a.toList == [102, 105, 108, 101]) = false := by rw [h, ByteArray.toList_eq]; rfl
  have u2 : (a.toList == [100, 114, 111, 112]) = true := by rw [h, ByteArray.toList_eq]; rfl
  have u3 : (a.toList == [119, 114, 105, 116, 101]) = false := by rw [h, ByteArray.toList_eq]; rfl
  have u4 : (a.toList == [109, 111, 100, 101]) = false := by rw [h, ByteArray.toList_eq]; rfl
  have u5 : (a.toList == [108, 105, 110, 107]) = false := by rw [h, ByteArray.toList_eq]; rfl
  have u6 : (a.toList == [109, 111, 118, 101]) = false := by rw [h, ByteArray.toList_eq]; rfl
  clear h
 case' inr.inr.inr.inl =>
  have u0 : (a.toList == [102, 111, 108, 100, 101, 114]) = false := by rw [h, ByteArray.toList_eq]; rfl
  have u1 : (a.toList == [102, 105, 108, 101]) = false := by rw [h, ByteArray.toList_eq]; rfl
  have u2 : (a.toList == [100, 114, 111, 112]) = false := by rw [h, ByteArray.toList_eq]; rfl
  have u3 : (a.toList == [119, 114, 105, 116, 101]) = true := by rw [h, ByteArray.toList_eq]; rfl
  have u4 : (a.toList == [109, 111, 100, 101]) = false := by rw [h, ByteArray.toList_eq]; rfl
  have u5 : (a.toList == [108, 105, 110, 107]) = false := by rw [h, ByteArray.toList_eq]; rfl
  have u6 : (a.toList == [109, 111, 118, 101]) = false := by rw [h, ByteArray.toList_eq]; rfl
  clear h
 case' inr.inr.inr.inr.inl =>
  have u0 : (a.toList == [102, 111, 108, 100, 101, 114]) = false := by rw [h, ByteArray.toList_eq]; rfl
  have u1 : (a.toList == [102, 105, 108, 101]) = false := by rw [h, ByteArray.toList_eq]; rfl
  have u2 : (a.toList == [100, 114, 111, 112]) = false := by rw [h, ByteArray.toList_eq]; rfl
  have u3 : (a.toList == [119, 114, 105, 116, 101]) = false := by rw [h, ByteArray.toList_eq]; rfl
  have u4 : (a.toList == [109, 111, 100, 101]) = true := by rw [h, ByteArray.toList_eq]; rfl
  have u5 : (a.toList == [108, 105, 110, 107]) = false := by rw [h, ByteArray.toList_eq]; rfl
  have u6 : (a.toList == [109, 111, 118, 101]) = false := by rw [h, ByteArray.toList_eq]; rfl
  clear h
 case' inr.inr.inr.inr.inr.inl =>
  have u0 : (a.toList == [102, 111, 108, 100, 101, 114]) = false := by rw [h, ByteArray.toList_eq]; rfl
  have u1 : (a.toList == [102, 105, 108, 101]) = false := by rw [h, ByteArray.toList_eq]; rfl
  have u2 : (a.toList == [100, 114, 111, 112]) = false := by rw [h, ByteArray.toList_eq]; rfl
  have u3 : (a.toList == [119, 114, 105, 116, 101]) = false := by rw [h, ByteArray.toList_eq]; rfl
  have u4 : (a.toList == [109, 111, 100, 101]) = false := by rw [h, ByteArray.toList_eq]; rfl
  have u5 : (a.toList == [108, 105, 110, 107]) = true := by rw [h, ByteArray.toList_eq]; rfl
  have u6 : (a.toList == [109, 111, 118, 101]) = false := by rw [h, ByteArray.toList_eq]; rfl
  clear h
 case' inr.inr.inr.inr.inr.inr.inl =>
  have u0 : (a.toList == [102, 111, 108, 100, 101, 114]) = false := by rw [h, ByteArray.toList_eq]; rfl
  have u1 : (a.toList == [102, 105, 108, 101]) = false := by rw [h, ByteArray.toList_eq]; rfl
  have u2 : (a.toList == [100, 114, 111, 112]) = false := by rw [h, ByteArray.toList_eq]; rfl
  have u3 : (a.toList == [119, 114, 105, 116, 101]) = false := by rw [h, ByteArray.toList_eq]; rfl
  have u4 : (a.toList == [109, 111, 100, 101]) = false := by rw [h, ByteArray.toList_eq]; rfl
  have u5 : (a.toList == [108, 105, 110, 107]) = false := by rw [h, ByteArray.toList_eq]; rfl
  have u6 : (a.toList == [109, 111, 118, 101]) = true := by rw [h, ByteArray.toList_eq]; rfl
  clear h
 case' inr.inr.inr.inr.inr.inr.inr =>
  obtain ⟨h_folder, h_file, h_drop, h_write, h_mode, h_link, h_move⟩ := h
  have t0 : (a.toList == [102, 111, 108, 100, 101, 114]) = false := Bool.eq_false_iff.2 (fun h => h_folder (bytes_eq.1 (by rw [eq_of_beq h, ByteArray.toList_eq])))
  have t1 : (a.toList == [102, 105, 108, 101]) = false := Bool.eq_false_iff.2 (fun h => h_file (bytes_eq.1 (by rw [eq_of_beq h, ByteArray.toList_eq])))
  have t2 : (a.toList == [100, 114, 111, 112]) = false := Bool.eq_false_iff.2 (fun h => h_drop (bytes_eq.1 (by rw [eq_of_beq h, ByteArray.toList_eq])))
  have t3 : (a.toList == [119, 114, 105, 116, 101]) = false := Bool.eq_false_iff.2 (fun h => h_write (bytes_eq.1 (by rw [eq_of_beq h, ByteArray.toList_eq])))
  have t4 : (a.toList == [109, 111, 100, 101]) = false := Bool.eq_false_iff.2 (fun h => h_mode (bytes_eq.1 (by rw [eq_of_beq h, ByteArray.toList_eq])))
  have t5 : (a.toList == [108, 105, 110, 107]) = false := Bool.eq_false_iff.2 (fun h => h_link (bytes_eq.1 (by rw [eq_of_beq h, ByteArray.toList_eq])))
  have t6 : (a.toList == [109, 111, 118, 101]) = false := Bool.eq_false_iff.2 (fun h => h_move (bytes_eq.1 (by rw [eq_of_beq h, ByteArray.toList_eq])))
  clear h_folder h_file h_drop h_write h_mode h_link h_move
 all_goals
  go_wp2
  refine bodyPost_ret (v := .tuple #[.slice none 0 0, .int .i64 1, .bool false]) (by simp [results, Tryz.results45, go_sem]) rfl ?_
  rw [HX.out]
  exact ⟨_, [], rfl, nil_treeI S.ext⟩
end Go.Proofs.YtnibbldfohbfkaaGreatDoor
