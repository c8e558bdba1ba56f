/- FnTakeMail: the walk. Condition: the code is shorter than 2^63. -/
import Derived.Test.YtlbnfnfaojjpaaaMailF2
import Derived.Test.YtlbnfnfaojjpaaaMailU
namespace Go.Proofs.Ytlbnfnfaojjpaaa
open Go.RowKit

theorem takeR_true {l : List Mail} {kind : Int} {L : List Mail} {m : Mail} (h : TakeR l kind L m true) : ∃ j : Nat, j < l.length ∧ l[j]? = some m ∧ L = l.take j ++ l.drop (j + 1) ∧ FitsM kind m ∧ (kind = 0 → l[0]? = some m) ∧ -9 ≤ kind ∧ kind ≤ 9 := by
  rcases h with ⟨_, _, _, h⟩ | ⟨c, b, hb, ⟨_, _, _, h⟩ | ⟨j, rfl, hj, hL, _⟩⟩
  · cases h
  · cases h
  · rcases hb with ⟨h, _⟩ | ⟨j', m', e, hlt, hm', hf, hall⟩
    · omega
    · obtain rfl : j = j' := by omega
      rw [hj] at hm'; cases hm'
      refine ⟨j, hlt, hj, hL, hf, fun hk => ?_, c.2⟩
      obtain ⟨x, hx⟩ : ∃ x, l[0]? = some x := ⟨_, List.getElem?_eq_getElem (by omega)⟩
      have := (hall 0 x (by omega) hx (.inl hk)).2 (by omega)
      obtain rfl : j = 0 := by omega
      exact hj
theorem takeR_false {l : List Mail} {kind : Int} {L : List Mail} {m : Mail} (h : TakeR l kind L m false) : (L = l ∨ L = []) ∧ m = ⟨0, ⟨#[]⟩⟩ := by
  rcases h with ⟨_, h1, h2, _⟩ | ⟨c, b, hb, ⟨_, h1, h2, _⟩ | ⟨_, _, _, _, h⟩⟩
  · exact ⟨.inr h1, h2⟩
  · exact ⟨.inl h1, h2⟩
  · cases h

/-- The loop's test, operation by operation. -/
def VFt (B p off cap : Nat) (ax : Option Addr) (cx k : Nat) (l D X : List Mail) (y m : Mail) (b c : Bool) : Nat → Value → World → Prop := fun i v wv => match i with
  | 0 => ∃ g, v = .slice (some ⟨g, 0, none⟩) 0 0 ∧ B ≤ g ∧ wv.heap[g]? = some (.cells #[] 27)
  | 1 => v = .slice (some ⟨p, off, none⟩) l.length cap
  | 2 => v = .int .i64 k
  | 3 => v = .slice (some ⟨p, off, none⟩) k cap
  | 4 => wv.ownsRow B 27 2 v k ((l.take k).flatMap encMail)
  | 5 => v = .slice (some ⟨p, off, none⟩) l.length cap
  | 6 => v = .int .i64 k
  | 7 => v = .int .i64 (k + 1)
  | 8 => ∃ a c, v = .slice a D.length c ∧ (D = [] ∨ a = some ⟨p, off + (k + 1) * 2, none⟩)
  | 9 => wv.ownsRow B 27 2 v (l.take k ++ D).length ((l.take k ++ D).flatMap encMail)
  | 10 => v = .slice ax X.length cx
  | 11 => v = .bool b
  | 12 => v = .bool b
  | 13 => b = true → v = .slice (some ⟨p, off, none⟩) l.length cap
  | 14 => b = true → v = .int .i64 k
  | 15 => b = true → v = .pointer (some ⟨p, off + k * 2, none⟩)
  | 16 => b = true → v = .agg #[.int .i64 y.kind, .string y.text]
  | 17 => b = true → v = .agg #[.int .i64 m.kind, .string m.text]
  | 18 => b = true → v = .bool c
  | 19 => v = .bool (b && c)
  | _ => True
theorem VFt.ext {B p off cap : Nat} {ax : Option Addr} {cx k : Nat} {l D X : List Mail} {y m : Mail} {b c : Bool} (i : Nat) (v : Value) (w w' : World) (h : VFt B p off cap ax cx k l D X y m b c i v w) (hE : Ext w w') : VFt B p off cap ax cx k l D X y m b c i v w' := by
  match i with
  | 0 => obtain ⟨g, h1, h2, h3⟩ := h; exact ⟨g, h1, h2, by rw [hE.block g (Array.getElem?_eq_some_iff.1 h3).1]; exact h3⟩
  | 4 => exact ownsRow_ext (show w.ownsRow _ _ _ _ _ _ from h) hE
  | 9 => exact ownsRow_ext (show w.ownsRow _ _ _ _ _ _ from h) hE
  | 1 | 2 | 3 | 5 | 6 | 7 | 8 | 10 | 11 | 12 | 13 | 14 | 15 | 16 | 17 | 18 | 19 => exact h
  | (n + 20) => trivial
def consFt (i : Nat) : Option Nat := if i = 0 then some 4 else if i = 4 then some 9 else none
theorem eqlMail_b (y m : Mail) (c : Bool) (hc : c = true ↔ y = m) (w : World) : (binOp .eql 27 (.agg #[.int .i64 y.kind, .string y.text]) (.agg #[.int .i64 m.kind, .string m.text])).run Try.prog w = .ok (.bool c) w := by
  cases c with
  | true => rw [hc.1 rfl]; exact eqlMail_same m w
  | false => exact eqlMail_other (fun h => Bool.noConfusion (hc.2 h)) w
theorem bool_of (P : Prop) : ∃ b : Bool, b = true ↔ P := by
  classical
  exact ⟨decide P, by simp⟩

set_option maxRecDepth 10000 in
set_option maxHeartbeats 8000000 in
theorem fnTakeMail_any (ac : Option Addr) (capc : Nat) (code : List Int) (w : World) (hlc : code.length ≤ 9223372036854775807) (hcap : code.length ≤ capc) (hu : ∀ x ∈ code, 0 ≤ x ∧ x ≤ 255) (hcc : Rd 1 encU8 w ac code) :
    Calls Try.prog 6 #[.slice ac code.length capc] w (RetB True w) := by
  go_enter Try.func6, Try.ntmps6
  by_cases hbig : 1048576 < code.length
  · have hb : (1048576 : Int) < (code.length : Int) := by omega
    go_wp2
    go_ret
    exact RetB.mk true rfl (by simp) (Ext.refl _)
  have hb : (code.length : Int) ≤ 1048576 := by omega
  have S := Sep.start w
  go_wp2_with fail
  refine (drawTakeMail ac capc code w hlc hcap hu hcc).mono ?_
  rintro e w1 ⟨u, l, kind, rfl, hl10, h17, T⟩
  obtain ⟨a, cap, hv, hlcap, _, _⟩ := view_owns encMail_len (T.row 0 rfl)
  subst hv
  replace S : Sep w w1 [plRow 27 2 encMail (.slice a l.length cap) l] := S.call T
  clear T
  clear hb hbig
  go_wp2_with fail
  refine (implTakeMail a cap l kind w1 (by omega) (S.rd 0 encMail_len rfl rfl)).mono ?_
  rintro e w2 ⟨u2, X, m, ok, rfl, hR, T⟩
  obtain ⟨ax, cx, hv, hxcap, _, _⟩ := view_owns encMail_len (T.row 0 rfl)
  subst hv
  have HR := Lib.hid hR
  have hX := takeR_len hR (by omega)
  clear hR
  replace S : Sep w w2 [plRow 27 2 encMail (.slice ax X.length cx) X, plRow 27 2 encMail (.slice a l.length cap) l] := S.call T
  clear T
  replace S : Sep w (w2.alloc (.cells #[.int .i64 m.kind, .string m.text] 27)) [plBox w2.heap.size #[.int .i64 m.kind, .string m.text] 27, plRow 27 2 encMail (.slice ax X.length cx) X, plRow 27 2 encMail (.slice a l.length cap) l] := S.alloc_at (by simp) _ _
  go_wp2_with fail
  generalize (w2.alloc (.cells #[.int .i64 m.kind, .string m.text] 27)) = w3 at *
  refine (specTakeMail a cap l kind w3 (by omega) hlcap (S.rd 2 encMail_len rfl rfl)).mono ?_
  rintro e w4 ⟨u4, Y, m4, ok4, rfl, hR, T⟩
  obtain ⟨rfl, rfl, rfl⟩ := takeR_fun HR.out hR
  obtain ⟨ay, cy, hv, hycap, _, _⟩ := view_owns encMail_len (T.row 0 rfl)
  subst hv
  clear hR
  replace S : Sep w w4 [plRow 27 2 encMail (.slice ay X.length cy) X, plBox w2.heap.size #[.int .i64 m.kind, .string m.text] 27, plRow 27 2 encMail (.slice ax X.length cx) X, plRow 27 2 encMail (.slice a l.length cap) l] := S.call T
  clear T
  replace S : Sep w (w4.alloc (.cells #[.int .i64 m.kind, .string m.text] 27)) [plBox w4.heap.size #[.int .i64 m.kind, .string m.text] 27, plRow 27 2 encMail (.slice ay X.length cy) X, plBox w2.heap.size #[.int .i64 m.kind, .string m.text] 27, plRow 27 2 encMail (.slice ax X.length cx) X, plRow 27 2 encMail (.slice a l.length cap) l] := S.alloc_at (by simp) _ _
  have tb : (ok != ok) = false := by simp
  obtain ⟨bmc0, bmf0⟩ : (w4.alloc (.cells #[.int .i64 m.kind, .string m.text] 27)).cell? ⟨w2.heap.size, 0, none⟩ = some (.int .i64 m.kind) ∧ (w4.alloc (.cells #[.int .i64 m.kind, .string m.text] 27)).frozen? ⟨w2.heap.size, 0, none⟩ = false := bx (S.box 2 rfl) 0 rfl
  obtain ⟨bmc1, bmf1⟩ : (w4.alloc (.cells #[.int .i64 m.kind, .string m.text] 27)).cell? ⟨w2.heap.size, 1, none⟩ = some (.string m.text) ∧ (w4.alloc (.cells #[.int .i64 m.kind, .string m.text] 27)).frozen? ⟨w2.heap.size, 1, none⟩ = false := bx (S.box 2 rfl) 1 rfl
  go_wp2_with fail
  generalize (w4.alloc (.cells #[.int .i64 m.kind, .string m.text] 27)) = w5 at *
  refine (sameMails_any _ _ _ _ X X _ (by omega) (by omega) (S.rd 3 encMail_len rfl rfl) (S.rd 1 encMail_len rfl rfl)).mono ?_
  rintro e w6 ⟨q5, rfl, hq, hE⟩
  obtain rfl : q5 = true := hq.2 rfl
  clear hq
  clear bmc0 bmf0 bmc1 bmf1
  replace S : Sep w w6 [plBox w4.heap.size #[.int .i64 m.kind, .string m.text] 27, plRow 27 2 encMail (.slice ay X.length cy) X, plBox w2.heap.size #[.int .i64 m.kind, .string m.text] 27, plRow 27 2 encMail (.slice ax X.length cx) X, plRow 27 2 encMail (.slice a l.length cap) l] := S.step hE
  clear hE
  obtain ⟨by_c0, by_f0⟩ : w6.cell? ⟨w4.heap.size, 0, none⟩ = some (.int .i64 m.kind) ∧ w6.frozen? ⟨w4.heap.size, 0, none⟩ = false := bx (S.box 0 rfl) 0 rfl
  obtain ⟨by_c1, by_f1⟩ : w6.cell? ⟨w4.heap.size, 1, none⟩ = some (.string m.text) ∧ w6.frozen? ⟨w4.heap.size, 1, none⟩ = false := bx (S.box 0 rfl) 1 rfl
  obtain ⟨bmc0, bmf0⟩ : w6.cell? ⟨w2.heap.size, 0, none⟩ = some (.int .i64 m.kind) ∧ w6.frozen? ⟨w2.heap.size, 0, none⟩ = false := bx (S.box 2 rfl) 0 rfl
  obtain ⟨bmc1, bmf1⟩ : w6.cell? ⟨w2.heap.size, 1, none⟩ = some (.string m.text) ∧ w6.frozen? ⟨w2.heap.size, 1, none⟩ = false := bx (S.box 2 rfl) 1 rfl
  have en := neqMail_same m
  have eg := fun w => guardMail .neq (.tmp 39) (.tmp 40) #[.int .i64 m.kind, .string m.text] #[.int .i64 m.kind, .string m.text] w
  cases ok with
  | false =>
    obtain ⟨hXl, hm0⟩ := takeR_false HR.out
    have HXl := Lib.hid hXl
    subst hm0
    have ez := eqlMail_same ⟨0, ⟨#[]⟩⟩
    have eg2 := fun w => guardMail .eql (.tmp 59) (.tmp 60) #[.int .i64 0, .string ⟨#[]⟩] #[.int .i64 0, .string ⟨#[]⟩] w
    clear hXl
    go_wp2_with fail
    refine (sameMails_any _ _ _ _ X l _ (by omega) (by omega) (S.rd 3 encMail_len rfl rfl) (S.rd 4 encMail_len rfl rfl)).mono ?_
    rintro e w7 ⟨q6, rfl, hq, hE⟩
    have Hq := Lib.hid hq
    clear hq
    clear by_c0 by_f0 by_c1 by_f1 bmc0 bmf0 bmc1 bmf1
    replace S : Sep w w7 [plBox w4.heap.size #[.int .i64 0, .string ⟨#[]⟩] 27, plRow 27 2 encMail (.slice ay X.length cy) X, plBox w2.heap.size #[.int .i64 0, .string ⟨#[]⟩] 27, plRow 27 2 encMail (.slice ax X.length cx) X, plRow 27 2 encMail (.slice a l.length cap) l] := S.step hE
    clear hE
    cases q6 with
    | true =>
      obtain ⟨bmc0, bmf0⟩ : w7.cell? ⟨w2.heap.size, 0, none⟩ = some (.int .i64 0) ∧ w7.frozen? ⟨w2.heap.size, 0, none⟩ = false := bx (S.box 2 rfl) 0 rfl
      obtain ⟨bmc1, bmf1⟩ : w7.cell? ⟨w2.heap.size, 1, none⟩ = some (.string ⟨#[]⟩) ∧ w7.frozen? ⟨w2.heap.size, 1, none⟩ = false := bx (S.box 2 rfl) 1 rfl
      go_wp2_with fail
      refine (alive_any _).mono ?_
      rintro e w8 ⟨b3, rfl, hb3, hE⟩
      obtain rfl : b3 = true := hb3.2 trivial
      clear hb3
      clear bmc0 bmf0 bmc1 bmf1
      replace S : Sep w w8 [plBox w4.heap.size #[.int .i64 0, .string ⟨#[]⟩] 27, plRow 27 2 encMail (.slice ay X.length cy) X, plBox w2.heap.size #[.int .i64 0, .string ⟨#[]⟩] 27, plRow 27 2 encMail (.slice ax X.length cx) X, plRow 27 2 encMail (.slice a l.length cap) l] := S.step hE
      clear hE
      go_wp2
      go_ret
      exact RetB.mk true rfl (by simp) S.ext
    | false =>
      have hX0 : X = [] := HXl.out.resolve_left (fun h => Bool.noConfusion (Hq.out.2 h))
      subst hX0
      obtain ⟨bmc0, bmf0⟩ : w7.cell? ⟨w2.heap.size, 0, none⟩ = some (.int .i64 0) ∧ w7.frozen? ⟨w2.heap.size, 0, none⟩ = false := bx (S.box 2 rfl) 0 rfl
      obtain ⟨bmc1, bmf1⟩ : w7.cell? ⟨w2.heap.size, 1, none⟩ = some (.string ⟨#[]⟩) ∧ w7.frozen? ⟨w2.heap.size, 1, none⟩ = false := bx (S.box 2 rfl) 1 rfl
      go_wp2_with fail
      refine (alive_any _).mono ?_
      rintro e w8 ⟨b3, rfl, hb3, hE⟩
      obtain rfl : b3 = true := hb3.2 trivial
      clear hb3
      clear bmc0 bmf0 bmc1 bmf1
      replace S : Sep w w8 [plBox w4.heap.size #[.int .i64 0, .string ⟨#[]⟩] 27, plRow 27 2 encMail (.slice ay ([] : List Mail).length cy) ([] : List Mail), plBox w2.heap.size #[.int .i64 0, .string ⟨#[]⟩] 27, plRow 27 2 encMail (.slice ax ([] : List Mail).length cx) ([] : List Mail), plRow 27 2 encMail (.slice a l.length cap) l] := S.step hE
      clear hE
      go_wp2
      go_ret
      exact RetB.mk true rfl (by simp) S.ext
  | true =>
    obtain ⟨j, hjl, hjm, hXe, hfit, hz0, hk1, hk2⟩ := takeR_true HR.out
    have Hjm := Lib.hid hjm
    have HXe := Lib.hid hXe
    have Hfit := Lib.hid hfit
    have Hz0 := Lib.hid hz0
    clear hjm hXe hfit hz0
    go_wp2
    clear en eg
    clear by_c0 by_f0 by_c1 by_f1 bmc0 bmf0 bmc1 bmf1
    go_loopw [11] (fun i wr => ∃ k : Nat, k ≤ j ∧ i = .int .i64 k ∧ Ext w6 wr) (fun i _ => l.length - (intOf i).toNat)
    case atStart => exact ⟨0, Nat.zero_le _, rfl, Ext.refl _⟩
    case round =>
      obtain ⟨k, hk, rfl, hb⟩ := hrel
      have hb0 := hb
      replace S : Sep w wr [plBox w4.heap.size #[.int .i64 m.kind, .string m.text] 27, plRow 27 2 encMail (.slice ay X.length cy) X, plBox w2.heap.size #[.int .i64 m.kind, .string m.text] 27, plRow 27 2 encMail (.slice ax X.length cx) X, plRow 27 2 encMail (.slice a l.length cap) l] := S.step hb
      clear hb
      have hkl : k < l.length := by omega
      have rdl0 := S.rd 4 encMail_len rfl rfl
      have rdX0 := S.rd 3 encMail_len rfl rfl
      obtain ⟨y, p, off, hy, hpe, c0, c1⟩ := atMail (rdl0.ext (Ext.refl wr).drew) hkl
      subst hpe
      have Hy := Lib.hid hy
      have rdl := rdl0.ext (Ext.refl wr).drew
      have rdX := rdX0.ext (Ext.refl wr).drew
      obtain ⟨D, hD⟩ : ∃ D, D = l.drop (k + 1) := ⟨_, rfl⟩
      have HD := Lib.hid hD
      have Hlen : Hid (D.length = l.length - (k + 1)) := Lib.hid (by rw [hD]; exact List.length_drop)
      obtain ⟨bb, hbb⟩ := bool_of (l.take k ++ D = X)
      have HB := Lib.hid hbb
      obtain ⟨cc, hcc2⟩ := bool_of (y = m)
      have HCC := Lib.hid hcc2
      have HCeq := Lib.hid (eqlMail_b y m cc hcc2)
      have Hkj : Hid (k = j → bb = true ∧ cc = true) := Lib.hid (fun e => by
        subst e
        refine ⟨HB.out.2 (by rw [HD.out]; exact HXe.out.symm), HCC.out.2 ?_⟩
        have := Hjm.out
        rw [Hy.out] at this; exact Option.some.inj this)
      have i0 : (0 : Int) ≤ (k : Int) := by omega
      have i1 : (k : Int) < (l.length : Int) := by omega
      have i2 : (k : Int) ≤ (cap : Int) := by omega
      have i3 : (k : Int) + 1 ≤ (l.length : Int) := by omega
      clear hy hD hbb hcc2 rdl0 rdX0
      obtain ⟨bmc0, bmf0⟩ : wr.cell? ⟨w2.heap.size, 0, none⟩ = some (.int .i64 m.kind) ∧ wr.frozen? ⟨w2.heap.size, 0, none⟩ = false := bx (S.box 2 rfl) 0 rfl
      obtain ⟨bmc1, bmf1⟩ : wr.cell? ⟨w2.heap.size, 1, none⟩ = some (.string m.text) ∧ wr.frozen? ⟨w2.heap.size, 1, none⟩ = false := bx (S.box 2 rfl) 1 rfl
      have bmd0 : wr.drew.cell? _ = _ := bmc0
      have bmd1 : wr.drew.cell? _ = _ := bmc1
      clear bmc0 bmf0 bmc1 bmf1
      go_upto_region 13 with fail
      refine wp_region_c (V := VFt wr.heap.size p off cap ax cx k l D X y m bb cc) (Ext wr.drew) consFt [(9, 4)] 20 0 rfl (by decide) (by kernel_rfl) (by kernel_rfl) (by kernel_rfl) (by kernel_rfl) (Ext.refl _) (fun r hr => by omega) ?_ ?_
      · intro i o hi ho vs w4 hvl hE hd _
        have hc4 := rdl.ext hE
        have d0 := cell_ext hE c0
        have d1 := cell_ext hE c1
        have m0 := cell_ext hE bmd0
        have m1 := cell_ext hE bmd1
        match vs, hvl with
        | [y0, y1, y2, y3, y4, y5, y6, y7, y8, y9, y10, y11, y12, y13, y14, y15, y16, y17, y18, y19], _ =>
        rcases (show i = 0 ∨ i = 1 ∨ i = 2 ∨ i = 3 ∨ i = 4 ∨ i = 5 ∨ i = 6 ∨ i = 7 ∨ i = 8 ∨ i = 9 ∨ i = 10 ∨ i = 11 ∨ i = 12 ∨ i = 13 ∨ i = 14 ∨ i = 15 ∨ i = 16 ∨ i = 17 ∨ i = 18 ∨ i = 19 by omega) with rfl | rfl | rfl | rfl | rfl | rfl | rfl | rfl | rfl | rfl | rfl | rfl | rfl | rfl | rfl | rfl | rfl | rfl | rfl | rfl
        all_goals
          simp only [List.getElem?_cons_zero, List.getElem?_cons_succ, Option.some.injEq] at ho
          subst ho
        · simp [putAll, Act.put]
          go_wp2
          exact OneC.mk (V := VFt wr.heap.size p off cap ax cx k l D X y m _ cc) VFt.ext rfl ⟨_, rfl, hE.size, heap_alloc_new w4 _⟩ (hE.alloc _) ((Ext.refl _).alloc _)
        · simp [putAll, Act.put]
          go_wp2
          exact OneC.mk (V := VFt wr.heap.size p off cap ax cx k l D X y m _ cc) VFt.ext rfl rfl hE (Ext.refl _)
        · simp [putAll, Act.put]
          go_wp2
          exact OneC.mk (V := VFt wr.heap.size p off cap ax cx k l D X y m _ cc) VFt.ext rfl rfl hE (Ext.refl _)
        · have q1 : y1 = .slice (some ⟨p, off, none⟩) l.length cap := hd ⟨1, .data⟩ (by simp) rfl (by decide)
          have q2 : y2 = .int .i64 k := hd ⟨2, .data⟩ (by simp) rfl (by decide)
          clear hd
          subst q1 q2
          simp [putAll, Act.put]
          go_wp2
          exact OneC.mk (V := VFt wr.heap.size p off cap ax cx k l D X y m _ cc) VFt.ext rfl rfl hE (Ext.refl _)
        · obtain ⟨g, rfl, hg1, hg2⟩ : ∃ g, y0 = .slice (some ⟨g, 0, none⟩) 0 0 ∧ wr.heap.size ≤ g ∧ w4.heap[g]? = some (.cells #[] 27) := hd ⟨0, .data⟩ (by simp) rfl (by decide)
          have q3 : y3 = .slice (some ⟨p, off, none⟩) k cap := hd ⟨3, .data⟩ (by simp) rfl (by decide)
          clear hd
          subst q3
          have hcl := hc4.take k
          have hlk : k = (l.take k).length := by rw [List.length_take]; omega
          have hsz := hE.size
          simp [putAll, Act.put]
          refine wpList_append_lit rfl _ _ 23 rfl wr.heap.size 27 _ 2 _ Try.underlying23 infoMail rfl (by decide) encMail_len encMail_one g rfl hg2 hg1 (some ⟨p, off, none⟩) k cap (l.take k) rfl hlk hcl (by omega) (by omega) hsz ?_
          intro v5 w5 ho5 hE5
          rw [← hlk] at ho5
          clear hlk hcl
          go_wp2
          exact OneC.mk (V := VFt wr.heap.size p off cap ax cx k l D X y m _ cc) VFt.ext rfl ho5 (hE.trans hE5) hE5
        · simp [putAll, Act.put]
          go_wp2
          exact OneC.mk (V := VFt wr.heap.size p off cap ax cx k l D X y m _ cc) VFt.ext rfl rfl hE (Ext.refl _)
        · simp [putAll, Act.put]
          go_wp2
          exact OneC.mk (V := VFt wr.heap.size p off cap ax cx k l D X y m _ cc) VFt.ext rfl rfl hE (Ext.refl _)
        · have q6 : y6 = .int .i64 k := hd ⟨6, .data⟩ (by simp) rfl (by decide)
          clear hd
          subst q6
          simp [putAll, Act.put]
          go_wp2
          exact OneC.mk (V := VFt wr.heap.size p off cap ax cx k l D X y m _ cc) VFt.ext rfl rfl hE (Ext.refl _)
        · have q5 : y5 = .slice (some ⟨p, off, none⟩) l.length cap := hd ⟨5, .data⟩ (by simp) rfl (by decide)
          have q7 : y7 = .int .i64 (k + 1) := hd ⟨7, .data⟩ (by simp) rfl (by decide)
          clear hd
          subst q5 q7
          by_cases hcj : k + 1 = cap
          · have hnil : D = [] := by rw [HD.out]; exact List.drop_eq_nil_of_le (by omega)
            have Hnil := Lib.hid hnil
            clear hnil
            simp [putAll, Act.put]
            go_wp2
            refine OneC.mk (V := VFt wr.heap.size p off cap ax cx k l D X y m _ cc) VFt.ext rfl ?_ hE (Ext.refl _)
            exact ⟨_, _, by rw [Hnil.out]; rfl, .inl Hnil.out⟩
          · simp [putAll, Act.put]
            go_wp2
            refine OneC.mk (V := VFt wr.heap.size p off cap ax cx k l D X y m _ cc) VFt.ext rfl ?_ hE (Ext.refl _)
            exact ⟨_, _, by rw [Hlen.out], .inr rfl⟩
        · have q4 : w4.ownsRow wr.heap.size 27 2 y4 k ((l.take k).flatMap encMail) := hd ⟨4, .data⟩ (by simp) rfl (by decide)
          obtain ⟨a8, c8, rfl, hsh⟩ : ∃ a c, y8 = .slice a D.length c ∧ (D = [] ∨ a = some ⟨p, off + (k + 1) * 2, none⟩) := hd ⟨8, .data⟩ (by simp) rfl (by decide)
          clear hd
          have hrd : Rd 2 encMail w4 a8 D := by
            rcases hsh with h | h
            · rw [h]; exact Rd.nil
            · rw [h, HD.out]; exact hc4.drop (k + 1)
          have hD8 : D.length ≤ 1048576 := by rw [HD.out, List.length_drop]; omega
          have hgb := hE.size
          have hlk : k = (l.take k).length := by rw [List.length_take]; omega
          simp [putAll, Act.put]
          refine wpList_append_b rfl _ _ 23 rfl wr.heap.size 27 _ 2 _ Try.underlying23 infoMail rfl (by decide) encMail_len encMail_one _ k (l.take k) rfl q4 hlk a8 D.length c8 D rfl rfl hrd (by omega) (by omega) hgb ?_
          intro v5 w5 ho5 hgr5 _
          have hI5 : Ext wr.drew w5 := hE.grown hgr5 (fun b hb => (World.ownsRow.lt q4 b hb).1)
          clear q4 hgr5 hrd hlk
          go_wp2
          refine ⟨rfl, _, rfl, ho5, hI5, fun i u hi hne hcon hnd hnc hv => ?_⟩
          match i with
          | 0 => exact absurd (by simp) (hnc 4 rfl)
          | 4 => exact absurd rfl hcon
          | 9 => exact absurd rfl hne
          | 1 | 2 | 3 | 5 | 6 | 7 | 8 | 10 | 11 | 12 | 13 | 14 | 15 | 16 | 17 | 18 | 19 => exact hv
          | (n + 20) => trivial
        · simp [putAll, Act.put]
          go_wp2
          exact OneC.mk (V := VFt wr.heap.size p off cap ax cx k l D X y m _ cc) VFt.ext rfl rfl hE (Ext.refl _)
        · have q9 : w4.ownsRow wr.heap.size 27 2 y9 (l.take k ++ D).length ((l.take k ++ D).flatMap encMail) := hd ⟨9, .data⟩ (by simp) rfl (by decide)
          have q10 : y10 = .slice ax X.length cx := hd ⟨10, .data⟩ (by simp) rfl (by decide)
          clear hd
          subst q10
          obtain ⟨a9, c9, rfl, _, hrd9, _⟩ := view_owns encMail_len q9
          clear q9
          have rdX4 := rdX.ext hE
          obtain ⟨G, hG⟩ : ∃ G, G = l.take k ++ D := ⟨_, rfl⟩
          have hG8 : G.length ≤ 9223372036854775807 := by rw [hG, HD.out]; simp; omega
          rw [← hG] at hrd9
          rw [← hG]
          have HG := Lib.hid hG
          clear hG
          simp [putAll, Act.put]
          go_wp2_with fail
          refine (sameMails_any _ _ _ _ G X w4 hG8 (by omega) hrd9 rdX4).mono ?_
          rintro e w5 ⟨b5, rfl, hb5, hE5⟩
          obtain rfl : b5 = bb := Bool.eq_iff_iff.2 (hb5.trans (by rw [HG.out]; exact HB.out.symm))
          clear hb5
          go_wp2
          exact OneC.mk (V := VFt wr.heap.size p off cap ax cx k l D X y m _ cc) VFt.ext rfl rfl (hE.trans hE5) hE5
        · have q11 : y11 = .bool bb := hd ⟨11, .data⟩ (by simp) rfl (by decide)
          clear hd
          subst q11
          simp [putAll, Act.put]
          go_wp2
          exact OneC.mk (V := VFt wr.heap.size p off cap ax cx k l D X y m _ cc) VFt.ext rfl rfl hE (Ext.refl _)
        · have q12 : y12 = .bool bb := hd ⟨12, .guard⟩ (by simp) rfl (by decide)
          clear hd
          subst q12
          cases bb with
          | false =>
            simp [putAll, Act.put]
            go_wp2
            exact OneC.mk (V := VFt wr.heap.size p off cap ax cx k l D X y m _ cc) VFt.ext rfl (fun h => Bool.noConfusion h) hE (Ext.refl _)
          | true =>
            simp [putAll, Act.put]
            go_wp2
            exact OneC.mk (V := VFt wr.heap.size p off cap ax cx k l D X y m _ cc) VFt.ext rfl (fun _ => rfl) hE (Ext.refl _)
        · have q12 : y12 = .bool bb := hd ⟨12, .guard⟩ (by simp) rfl (by decide)
          clear hd
          subst q12
          cases bb with
          | false =>
            simp [putAll, Act.put]
            go_wp2
            exact OneC.mk (V := VFt wr.heap.size p off cap ax cx k l D X y m _ cc) VFt.ext rfl (fun h => Bool.noConfusion h) hE (Ext.refl _)
          | true =>
            simp [putAll, Act.put]
            go_wp2
            exact OneC.mk (V := VFt wr.heap.size p off cap ax cx k l D X y m _ cc) VFt.ext rfl (fun _ => rfl) hE (Ext.refl _)
        · have q12 : y12 = .bool bb := hd ⟨12, .guard⟩ (by simp) rfl (by decide)
          have q13 : bb = true → y13 = .slice (some ⟨p, off, none⟩) l.length cap := hd ⟨13, .data⟩ (by simp) rfl (by decide)
          have q14 : bb = true → y14 = .int .i64 k := hd ⟨14, .data⟩ (by simp) rfl (by decide)
          clear hd
          subst q12
          cases bb with
          | false =>
            simp [putAll, Act.put]
            go_wp2
            exact OneC.mk (V := VFt wr.heap.size p off cap ax cx k l D X y m _ cc) VFt.ext rfl (fun h => Bool.noConfusion h) hE (Ext.refl _)
          | true =>
            obtain rfl := q13 rfl
            obtain rfl := q14 rfl
            simp [putAll, Act.put]
            go_wp2
            exact OneC.mk (V := VFt wr.heap.size p off cap ax cx k l D X y m _ cc) VFt.ext rfl (fun _ => rfl) hE (Ext.refl _)
        · have q12 : y12 = .bool bb := hd ⟨12, .guard⟩ (by simp) rfl (by decide)
          have q15 : bb = true → y15 = .pointer (some ⟨p, off + k * 2, none⟩) := hd ⟨15, .data⟩ (by simp) rfl (by decide)
          clear hd
          subst q12
          cases bb with
          | false =>
            simp [putAll, Act.put]
            go_wp2
            exact OneC.mk (V := VFt wr.heap.size p off cap ax cx k l D X y m _ cc) VFt.ext rfl (fun h => Bool.noConfusion h) hE (Ext.refl _)
          | true =>
            obtain rfl := q15 rfl
            simp [putAll, Act.put]
            go_wp2
            exact OneC.mk (V := VFt wr.heap.size p off cap ax cx k l D X y m _ cc) VFt.ext rfl (fun _ => rfl) hE (Ext.refl _)
        · have q12 : y12 = .bool bb := hd ⟨12, .guard⟩ (by simp) rfl (by decide)
          clear hd
          subst q12
          cases bb with
          | false =>
            simp [putAll, Act.put]
            go_wp2
            exact OneC.mk (V := VFt wr.heap.size p off cap ax cx k l D X y m _ cc) VFt.ext rfl (fun h => Bool.noConfusion h) hE (Ext.refl _)
          | true =>
            simp [putAll, Act.put]
            go_wp2
            exact OneC.mk (V := VFt wr.heap.size p off cap ax cx k l D X y m _ cc) VFt.ext rfl (fun _ => rfl) hE (Ext.refl _)
        · have q12 : y12 = .bool bb := hd ⟨12, .guard⟩ (by simp) rfl (by decide)
          have q16 : bb = true → y16 = .agg #[.int .i64 y.kind, .string y.text] := hd ⟨16, .data⟩ (by simp) rfl (by decide)
          have q17 : bb = true → y17 = .agg #[.int .i64 m.kind, .string m.text] := hd ⟨17, .data⟩ (by simp) rfl (by decide)
          clear hd
          subst q12
          cases bb with
          | false =>
            simp [putAll, Act.put]
            go_wp2
            exact OneC.mk (V := VFt wr.heap.size p off cap ax cx k l D X y m _ cc) VFt.ext rfl (fun h => Bool.noConfusion h) hE (Ext.refl _)
          | true =>
            obtain rfl := q16 rfl
            obtain rfl := q17 rfl
            clear q16 q17
            have e2 := fun w => guardMail .eql (.tmp 88) (.tmp 89) #[.int .i64 y.kind, .string y.text] #[.int .i64 m.kind, .string m.text] w
            have e1 := HCeq.out
            simp [putAll, Act.put]
            go_wp2
            exact OneC.mk (V := VFt wr.heap.size p off cap ax cx k l D X y m _ cc) VFt.ext rfl (fun _ => rfl) hE (Ext.refl _)
        · have q12 : y12 = .bool bb := hd ⟨12, .data⟩ (by simp) rfl (by decide)
          have q18 : bb = true → y18 = .bool cc := hd ⟨18, .data⟩ (by simp) rfl (by decide)
          clear hd
          subst q12
          cases bb with
          | false =>
            simp [putAll, Act.put]
            go_wp2
            exact OneC.mk (V := VFt wr.heap.size p off cap ax cx k l D X y m _ cc) VFt.ext rfl rfl hE (Ext.refl _)
          | true =>
            obtain rfl := q18 rfl
            simp [putAll, Act.put]
            go_wp2
            exact OneC.mk (V := VFt wr.heap.size p off cap ax cx k l D X y m _ cc) VFt.ext rfl rfl hE (Ext.refl _)
      intro vs w11 hvl hE hV _
      match vs, hvl with
      | [y0, y1, y2, y3, y4, y5, y6, y7, y8, y9, y10, y11, y12, y13, y14, y15, y16, y17, y18, y19], _ =>
      have e19 : y19 = .bool (bb && cc) := hV 19 (by omega) rfl
      clear hV
      subst e19
      simp only [putAll, Act.put, List.take_succ_cons, List.take_zero, List.drop_succ_cons, List.drop_zero]
      simp
      replace hE := Ext.trans (Ext.refl wr).drew hE
      clear rdl rdX c0 c1 bmd0 bmd1
      have hb1 := hb0.trans hE
      clear hb0
      replace S : Sep w w11 [plBox w4.heap.size #[.int .i64 m.kind, .string m.text] 27, plRow 27 2 encMail (.slice ay X.length cy) X, plBox w2.heap.size #[.int .i64 m.kind, .string m.text] 27, plRow 27 2 encMail (.slice ax X.length cx) X, plRow 27 2 encMail (.slice (some ⟨p, off, none⟩) l.length cap) l] := S.step hE
      clear hE
      cases hbc : (bb && cc) with
      | true =>
        have rdl := S.rd 4 encMail_len rfl rfl
        clear Hkj hbc HB HCC HCeq
        obtain ⟨bmc0, bmf0⟩ : w11.cell? ⟨w2.heap.size, 0, none⟩ = some (.int .i64 m.kind) ∧ w11.frozen? ⟨w2.heap.size, 0, none⟩ = false := bx (S.box 2 rfl) 0 rfl
        obtain ⟨bmc1, bmf1⟩ : w11.cell? ⟨w2.heap.size, 1, none⟩ = some (.string m.text) ∧ w11.frozen? ⟨w2.heap.size, 1, none⟩ = false := bx (S.box 2 rfl) 1 rfl
        by_cases hz : kind = 0
        · have hz1 := Hz0.out hz
          obtain ⟨x, p', off', hx, hpe, c0, c1⟩ := atMail rdl (show 0 < l.length by omega)
          obtain ⟨rfl, rfl⟩ : p = p' ∧ off = off' := by simpa using hpe
          obtain rfl : m = x := by rw [hx] at hz1; exact (Option.some.inj hz1).symm
          have tz : (kind == 0) = true := by simpa using hz
          have e1 := eqlMail_same m
          have e2 := fun w => guardMail .eql (.tmp 97) (.tmp 98) #[.int .i64 m.kind, .string m.text] #[.int .i64 m.kind, .string m.text] w
          rw [Nat.zero_mul] at c0 c1
          simp only [Nat.add_zero] at c0 c1
          have i4 : (0 : Int) < (l.length : Int) := by omega
          have hS := S.ext
          clear hz hz1 hx hpe
          go_upto_region 14 with fail
          go_quiet (fail)
          go_wp2
          go_ret
          exact RetB.mk true rfl (by simp) (hS.drewN _)
        · have tz : (kind == 0) = false := by simpa using hz
          by_cases hp : 0 < kind
          · have te : (m.kind == kind) = true := by
              have := Hfit.out
              simp
              rcases this with h | ⟨_, h⟩ | ⟨h, _⟩
              · exact absurd h hz
              · exact h
              · omega
            have hS := S.ext
            clear hz
            go_upto_region 14 with fail
            go_quiet (fail)
            go_wp2
            go_ret
            exact RetB.mk true rfl (by simp) (hS.drewN _)
          · have hn : kind < 0 := by omega
            have hp2 : decide (0 < kind) = false := by simpa using hp
            have te : m.kind ≤ -kind := by
              rcases Hfit.out with h | ⟨h, _⟩ | ⟨_, h⟩
              · exact absurd h hz
              · omega
              · exact h
            have hS := S.ext
            clear hz hp
            go_upto_region 14 with fail
            go_quiet (fail)
            go_wp2
            go_ret
            exact RetB.mk true rfl (by simp) (hS.drewN _)
      | false =>
        have hkj2 : k < j := by
          rcases Nat.lt_or_eq_of_le hk with h | h
          · exact h
          · obtain ⟨e1, e2⟩ := Hkj.out h
            rw [e1, e2] at hbc; cases hbc
        clear Hkj HB HCC HCeq
        go_wp2
        go_roundw
        case rel => exact ⟨k + 1, by omega, by go_num, hb1⟩
        case measure => simp [intOf]; omega
end Go.Proofs.Ytlbnfnfaojjpaaa
