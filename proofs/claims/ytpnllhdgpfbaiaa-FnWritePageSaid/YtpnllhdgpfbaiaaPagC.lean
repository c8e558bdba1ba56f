/- Copies of memories: contracts of copyMemory and of the reference's. Condition: rows of at most 2^20. -/
import Derived.Test.YtpnllhdgpfbaiaaPag2
import Derived.Test.YtpnllhdgpfbaiaaPagC0
import Derived.Test.YtpnllhdgpfbaiaaOrdC
import Derived.Test.YtpnllhdgpfbaiaaAppB
namespace Go.Proofs.Ytpnllhdgpfbaiaa
open Go.RowKit

theorem tab_find {w w1 : World} {p off ct : Nat} {T : List (List Int)} {k : Nat} {t : List Int} {ai : Option Addr} {ci : Nat} (hrt : RdT w (some ⟨p, off, none⟩) T) (hE : Ext w w1) (ht : T[k]? = some t) (hc : w1.cell? ⟨p, off + k, none⟩ = some (.slice ai t.length ci)) :
    ∀ w4, Ext w w4 → w4.cell? ⟨p, off + k, none⟩ = some (.slice ai t.length ci) ∧ Rd 1 encInt1 w4 ai t := fun w4 hE4 => by
  obtain ⟨b', off', ai', ci', hpe, h2, _, h3⟩ := hrt k t ht
  obtain ⟨rfl, rfl⟩ : p = b' ∧ off = off' := by simpa using hpe
  have h7 := cell_ext hE h2
  rw [hc] at h7
  simp only [Option.some.injEq, Value.slice.injEq, true_and] at h7
  obtain ⟨rfl, rfl⟩ := h7
  exact ⟨cell_ext hE4 h2, h3.ext hE4⟩

def VPi (w : World) (B ob bm p off k ct : Nat) (at0 : Option Addr) (ai : Option Addr) (ci nT : Nat) (ut : Value) (vs : List Sl) (T0 : List (List Int)) (t : List Int) (R : List Pl) : Nat → Value → World → Prop := fun i v wv => match i with
  | 0 => v = .pointer (some ⟨ob, 1, none⟩)
  | 1 => v = ut
  | 2 => v = .slice ai t.length ci
  | 3 => wv.ownsRow B 3 1 v t.length (t.flatMap encInt1)
  | 4 => ∃ g, ∃ s : Sl, v = .slice (some ⟨g, 0, none⟩) 1 1 ∧ B ≤ g ∧ wv.heap[g]? = some (.cells #[s.v] 22) ∧ wv.ownsRow B 3 1 s.v t.length (t.flatMap encInt1)
  | 5 => ∃ vs2, Sep w wv (plTab v vs2 (T0 ++ [t]) :: R)
  | 6 => v = .pointer (some ⟨ob, 1, none⟩)
  | 7 => Sep w wv (plTab ut vs T0 :: R)
  | _ => True
theorem VPi.ext (w : World) (B ob bm p off k ct : Nat) (at0 : Option Addr) (ai : Option Addr) (ci nT : Nat) (ut : Value) (vs : List Sl) (T0 : List (List Int)) (t : List Int) (R : List Pl) (i : Nat) (v : Value) (w1 w2 : World) (h : VPi w B ob bm p off k ct at0 ai ci nT ut vs T0 t R i v w1) (hE : Ext w1 w2) : VPi w B ob bm p off k ct at0 ai ci nT ut vs T0 t R i v w2 := by
  match i with
  | 0 => exact h
  | 1 => exact h
  | 2 => exact h
  | 3 => exact ownsRow_ext (show w1.ownsRow _ _ _ _ _ _ from h) hE
  | 4 => obtain ⟨g, s, h1, h2, h3, h4⟩ := h; exact ⟨g, s, h1, h2, heapx hE h3, ownsRow_ext h4 hE⟩
  | 5 => obtain ⟨vs2, h1⟩ := h; exact ⟨vs2, h1.step hE⟩
  | 6 => exact h
  | 7 => exact SepM.step (show Sep w w1 _ from h) hE
  | (n + 8) => trivial

def VPs (w : World) (B ob bm p off k ct : Nat) (at0 : Option Addr) (ai : Option Addr) (ci nT : Nat) (ut : Value) (vs : List Sl) (T0 : List (List Int)) (t : List Int) (R : List Pl) : Nat → Value → World → Prop := fun i v wv => match i with
  | 0 => v = .pointer (some ⟨ob, 1, none⟩)
  | 1 => v = ut
  | 2 => ∃ g, v = .slice (some ⟨g, 0, none⟩) 0 0 ∧ B ≤ g ∧ wv.heap[g]? = some (.cells #[] 3)
  | 3 => v = .pointer (some ⟨bm, 1, none⟩)
  | 4 => v = .slice (some ⟨p, off, none⟩) nT ct
  | 5 => v = .int .i64 k
  | 6 => v = .pointer (some ⟨p, off + k, none⟩)
  | 7 => v = .slice ai t.length ci
  | 8 => wv.ownsRow B 3 1 v t.length (t.flatMap encInt1)
  | 9 => ∃ g, ∃ s : Sl, v = .slice (some ⟨g, 0, none⟩) 1 1 ∧ B ≤ g ∧ wv.heap[g]? = some (.cells #[s.v] 22) ∧ wv.ownsRow B 3 1 s.v t.length (t.flatMap encInt1)
  | 10 => ∃ vs2, Sep w wv (plTab v vs2 (T0 ++ [t]) :: R)
  | 11 => v = .pointer (some ⟨ob, 1, none⟩)
  | 12 => Sep w wv (plTab ut vs T0 :: R)
  | _ => True
theorem VPs.ext (w : World) (B ob bm p off k ct : Nat) (at0 : Option Addr) (ai : Option Addr) (ci nT : Nat) (ut : Value) (vs : List Sl) (T0 : List (List Int)) (t : List Int) (R : List Pl) (i : Nat) (v : Value) (w1 w2 : World) (h : VPs w B ob bm p off k ct at0 ai ci nT ut vs T0 t R i v w1) (hE : Ext w1 w2) : VPs w B ob bm p off k ct at0 ai ci nT ut vs T0 t R i v w2 := by
  match i with
  | 0 => exact h
  | 1 => exact h
  | 2 => obtain ⟨g, h1, h2, h3⟩ := h; exact ⟨g, h1, h2, heapx hE h3⟩
  | 3 => exact h
  | 4 => exact h
  | 5 => exact h
  | 6 => exact h
  | 7 => exact h
  | 8 => exact ownsRow_ext (show w1.ownsRow _ _ _ _ _ _ from h) hE
  | 9 => obtain ⟨g, s, h1, h2, h3, h4⟩ := h; exact ⟨g, s, h1, h2, heapx hE h3, ownsRow_ext h4 hE⟩
  | 10 => obtain ⟨vs2, h1⟩ := h; exact ⟨vs2, h1.step hE⟩
  | 11 => exact h
  | 12 => exact SepM.step (show Sep w w1 _ from h) hE
  | (n + 13) => trivial

set_option maxRecDepth 10000 in
set_option maxHeartbeats 8000000 in
theorem copyMem_any (af : Option Addr) (cf : Nat) (F : List Int) (at_ : Option Addr) (ct : Nat) (T : List (List Int)) (w : World) (hF : F.length ≤ 1048576) (hT : T.length ≤ 1048576) (hlt : ∀ t ∈ T, t.length ≤ 1048576) (hrf : Rd 1 encInt1 w af F) (hrt : RdT w at_ T) :
    Calls Try.prog 57 #[.agg #[.slice af F.length cf, .slice at_ T.length ct]] w fun e w' => ∃ a1 c1 a2 c2 vs, e = .returned (.agg #[.slice a1 F.length c1, .slice a2 T.length c2]) ∧ F.length ≤ c1 ∧ T.length ≤ c2 ∧ Sep w w' [plTab (.slice a2 T.length c2) vs T, plRow 3 1 encInt1 (.slice a1 F.length c1) F] := by
  have HLT := Lib.hid hlt
  clear hlt
  go_enter Try.func57, Try.ntmps57
  have S := Sep.start w
  replace S : Sep w (w.alloc (.cells #[.slice af F.length cf, .slice at_ T.length ct] 28)) [plBox w.heap.size #[.slice af F.length cf, .slice at_ T.length ct] 28] := S.alloc_at (by simp) _ _
  replace S : Sep w ((w.alloc (.cells #[.slice af F.length cf, .slice at_ T.length ct] 28)).alloc (.cells #[.slice none 0 0, .slice none 0 0] 28)) [plBox (w.heap.size + 1) #[.slice none 0 0, .slice none 0 0] 28, plBox w.heap.size #[.slice af F.length cf, .slice at_ T.length ct] 28] := S.alloc_at (by simp) _ _
  go_wp2_with fail
  generalize ((w.alloc (.cells #[.slice af F.length cf, .slice at_ T.length ct] 28)).alloc (.cells #[.slice none 0 0, .slice none 0 0] 28)) = w1 at *
  refine (cloneInt_any af cf F.length F w1 rfl hF (hrf.ext S.ext)).mono ?_
  rintro e w2 ⟨u, rfl, ho, hE⟩
  obtain ⟨a1, c1, hv2, hk1, _, _⟩ := view_owns encInt1_len ho
  subst hv2
  have U := Sep.of_owns hE ho
  clear hE ho
  replace S : Sep w w2 [plRow 3 1 encInt1 (.slice a1 F.length c1) F, plBox (w.heap.size + 1) #[.slice none 0 0, .slice none 0 0] 28, plBox w.heap.size #[.slice af F.length cf, .slice at_ T.length ct] 28] := S.call U
  clear U
  obtain ⟨B2, hB2⟩ : ∃ B2, B2 = w2.heap.size := ⟨_, rfl⟩
  replace S : Sep w (w2.alloc (.cells #[.slice a1 F.length c1, .slice none 0 0] 28)) [plBox w2.heap.size #[.slice a1 F.length c1, .slice none 0 0] 28, plRow 3 1 encInt1 (.slice a1 F.length c1) F, plBox (w.heap.size + 1) #[.slice none 0 0, .slice none 0 0] 28, plBox w.heap.size #[.slice af F.length cf, .slice at_ T.length ct] 28] := S.alloc_at (by simp) _ _
  obtain ⟨bmc0, bmf0⟩ : (w2.alloc (.cells #[.slice a1 F.length c1, .slice none 0 0] 28)).cell? ⟨w.heap.size, 0, none⟩ = some (.slice af F.length cf) ∧ (w2.alloc (.cells #[.slice a1 F.length c1, .slice none 0 0] 28)).frozen? ⟨w.heap.size, 0, none⟩ = false := bx (S.box 3 rfl) 0 rfl
  obtain ⟨bmc1, bmf1⟩ : (w2.alloc (.cells #[.slice a1 F.length c1, .slice none 0 0] 28)).cell? ⟨w.heap.size, 1, none⟩ = some (.slice at_ T.length ct) ∧ (w2.alloc (.cells #[.slice a1 F.length c1, .slice none 0 0] 28)).frozen? ⟨w.heap.size, 1, none⟩ = false := bx (S.box 3 rfl) 1 rfl
  go_upto_region 2 with fail
  clear bmc0 bmf0 bmc1 bmf1
  generalize (w2.alloc (.cells #[.slice a1 F.length c1, .slice none 0 0] 28)) = w3 at *
  rw [← hB2] at *
  clear hB2
  obtain ⟨obc0, obf0⟩ : w3.cell? ⟨B2, 0, none⟩ = some (.slice a1 F.length c1) ∧ w3.frozen? ⟨B2, 0, none⟩ = false := bx (S.box 0 rfl) 0 rfl
  obtain ⟨obc1, obf1⟩ : w3.cell? ⟨B2, 1, none⟩ = some (.slice none 0 0) ∧ w3.frozen? ⟨B2, 1, none⟩ = false := bx (S.box 0 rfl) 1 rfl
  obtain ⟨rbc0, rbf0⟩ : w3.cell? ⟨(w.heap.size + 1), 0, none⟩ = some (.slice none 0 0) ∧ w3.frozen? ⟨(w.heap.size + 1), 0, none⟩ = false := bx (S.box 2 rfl) 0 rfl
  obtain ⟨rbc1, rbf1⟩ : w3.cell? ⟨(w.heap.size + 1), 1, none⟩ = some (.slice none 0 0) ∧ w3.frozen? ⟨(w.heap.size + 1), 1, none⟩ = false := bx (S.box 2 rfl) 1 rfl
  obtain ⟨bmc0, bmf0⟩ : w3.cell? ⟨w.heap.size, 0, none⟩ = some (.slice af F.length cf) ∧ w3.frozen? ⟨w.heap.size, 0, none⟩ = false := bx (S.box 3 rfl) 0 rfl
  obtain ⟨bmc1, bmf1⟩ : w3.cell? ⟨w.heap.size, 1, none⟩ = some (.slice at_ T.length ct) ∧ w3.frozen? ⟨w.heap.size, 1, none⟩ = false := bx (S.box 3 rfl) 1 rfl
  go_wp2
  clear obc0 obf0 obc1 obf1 rbc0 rbf0 rbc1 rbf1 bmc0 bmf0 bmc1 bmf1
  have S0 := S.tabNil
  clear S
  go_loopw [13] (fun i wr => ∃ (k : Nat) (a5 : Option Addr) (c5 : Nat) (vs : List Sl), k ≤ T.length ∧ i = .int .i64 k ∧ (T.take k).length ≤ c5 ∧ Sep w wr [plTab (.slice a5 (T.take k).length c5) vs (T.take k), plBox B2 #[.slice a1 F.length c1, .slice a5 (T.take k).length c5] 28, plRow 3 1 encInt1 (.slice a1 F.length c1) F, plBox (w.heap.size + 1) #[.slice none 0 0, .slice none 0 0] 28, plBox w.heap.size #[.slice af F.length cf, .slice at_ T.length ct] 28]) (fun i _ => T.length - (intOf i).toNat)
  case atStart => exact ⟨0, none, 0, [], Nat.zero_le _, rfl, Nat.le_refl _, S0⟩
  case round =>
    clear S0
    obtain ⟨k, a5, c5, vs, hk, rfl, hk5, S⟩ := hrel
    by_cases hlk : k < T.length
    · obtain ⟨t, p, off, ai, ci, ht, hpe, c0, hci, hrt1⟩ := atTab (hrt.ext S.ext) hlk
      subst hpe
      have Ht := Lib.hid ht
      have htl := HLT.out t (List.mem_of_getElem? ht)
      have Htk : Hid (T.take (k + 1) = T.take k ++ [t]) := Lib.hid (by rw [List.take_add_one, ht]; rfl)
      have hrtk := tab_find (ct := ct) hrt S.ext ht c0
      have Hrtk := Lib.hid hrtk
      have i0 : (k : Int) < (T.length : Int) := by omega
      have htk : (T.take k).length = k := by rw [List.length_take]; omega
      rw [htk] at S
      obtain ⟨T0, hT0⟩ : ∃ T0, T0 = T.take k := ⟨_, rfl⟩
      rw [← hT0] at S htk Htk
      have Hlen0 := Lib.hid htk
      have hT0le : T0.length ≤ 1048576 := by omega
      obtain ⟨ut, hut⟩ : ∃ ut, ut = Value.slice a5 k c5 := ⟨_, rfl⟩
      rw [← hut] at S
      obtain ⟨R, hR⟩ : ∃ R, R = [plBox B2 #[.slice a1 F.length c1, ut] 28, plRow 3 1 encInt1 (.slice a1 F.length c1) F, plBox (w.heap.size + 1) #[.slice none 0 0, .slice none 0 0] 28, plBox w.heap.size #[.slice af F.length cf, .slice (some ⟨p, off, none⟩) T.length ct] 28] := ⟨_, rfl⟩
      have hob0 := (bx (S.box 1 rfl) 1 rfl).1
      have hbm0 := (bx (S.box 4 rfl) 1 rfl).1
      have hob1 : ∀ w4, Chg (fun b => ut.ownBlock = some b) (World.drew wr) w4 → w4.cell? ⟨B2, 1, none⟩ = some ut := fun w4 hI => cell_chg (w := World.drew wr) hob0 hI (fun e => S.ne (i := 0) (j := 1) rfl rfl (by decide) (b := B2) (.inl e) rfl)
      have hbm1 : ∀ w4, Chg (fun b => ut.ownBlock = some b) (World.drew wr) w4 → w4.cell? ⟨w.heap.size, 1, none⟩ = some (.slice (some ⟨p, off, none⟩) T.length ct) := fun w4 hI => cell_chg (w := World.drew wr) hbm0 hI (fun e => S.ne (i := 0) (j := 4) rfl rfl (by decide) (b := w.heap.size) (.inl e) rfl)
      have Hob1 := Lib.hid hob1
      have Hbm1 := Lib.hid hbm1
      rw [← hR] at S
      have HR := Lib.hid hR
      clear hT0 ht hR hut hrt1 hob0 htk hob1 hbm1 hrtk
      go_upto_region 5 with fail
      have hob1 := Hob1.out
      have hbm1 := Hbm1.out
      have hrtk := Hrtk.out
      clear c0 hbm0 Hob1 Hbm1 Hrtk
      have hI0 : ∀ wv, Chg (fun b => ut.ownBlock = some b) (World.drew wr) wv → Ext w wv := fun wv hI => Chg.ext (S.ext.drew) hI (fun b hb => (S.lt (List.mem_cons_self ..) (show (plTab ut vs T0).own b from .inl hb)).1)
      have hHB : ∀ q ∈ plTab ut vs T0 :: R, ∀ b, q.own b → b < wr.heap.size := fun q hq b hb => (S.lt hq hb).2
      have Sd : Sep w (World.drew wr) (plTab ut vs T0 :: R) := S.drew
      refine wp_region_c (V := VPi w wr.heap.size B2 w.heap.size p off k ct none ai ci T.length ut vs T0 t R) (Chg (fun b => ut.ownBlock = some b) (World.drew wr)) (fun i => if i = 7 then some 5 else none) [] 7 1 rfl (by decide) (by kernel_rfl) (by kernel_rfl) (by kernel_rfl) (by kernel_rfl) (Chg.refl _ _) (fun r hr => match r, hr with | 0, _ => Sd) ?_ ?_
      · intro i o hi ho vz w4 hvl hE hd hrest
        have hE4 := hI0 w4 hE
        have hsz : wr.heap.size ≤ w4.heap.size := hE.size
        match vz, hvl with
        | [y0, y1, y2, y3, y4, y5, y6], _ =>
        rcases (show i = 0 ∨ i = 1 ∨ i = 2 ∨ i = 3 ∨ i = 4 ∨ i = 5 ∨ i = 6 by omega) with rfl | rfl | rfl | rfl | rfl | rfl | rfl
        all_goals
          simp only [List.getElem?_cons_zero, List.getElem?_cons_succ, Option.some.injEq] at ho
          subst ho
        · clear hd hrest
          simp [putAll, Act.put]
          go_wp2
          exact OneC.mk (V := VPi w wr.heap.size B2 w.heap.size p off k ct none ai ci T.length ut vs T0 t R) (VPi.ext w wr.heap.size B2 w.heap.size p off k ct none ai ci T.length ut vs T0 t R) rfl rfl hE (Ext.refl _)
        · have q0 : y0 = .pointer (some ⟨B2, 1, none⟩) := hd ⟨0, .data⟩ (by simp) rfl (by decide)
          have c0 := hob1 w4 hE
          subst q0
          clear hd hrest
          simp [putAll, Act.put]
          go_wp2
          exact OneC.mk (V := VPi w wr.heap.size B2 w.heap.size p off k ct none ai ci T.length ut vs T0 t R) (VPi.ext w wr.heap.size B2 w.heap.size p off k ct none ai ci T.length ut vs T0 t R) rfl rfl hE (Ext.refl _)
        · clear hd hrest
          simp [putAll, Act.put]
          go_wp2
          exact OneC.mk (V := VPi w wr.heap.size B2 w.heap.size p off k ct none ai ci T.length ut vs T0 t R) (VPi.ext w wr.heap.size B2 w.heap.size p off k ct none ai ci T.length ut vs T0 t R) rfl rfl hE (Ext.refl _)
        · have q0 : y2 = .slice ai t.length ci := hd ⟨2, .data⟩ (by simp) rfl (by decide)
          obtain ⟨_, hr4⟩ := hrtk w4 hE4
          subst q0
          clear hd hrest
          simp [putAll, Act.put]
          go_wp2_with fail
          refine (cloneInt_any ai ci t.length t w4 rfl htl hr4).mono ?_
          rintro e w5 ⟨v5, rfl, ho5, hE5⟩
          have h9 := ownsRow_base ho5 hsz
          clear ho5
          go_wp2
          exact OneC.mk (V := VPi w wr.heap.size B2 w.heap.size p off k ct none ai ci T.length ut vs T0 t R) (VPi.ext w wr.heap.size B2 w.heap.size p off k ct none ai ci T.length ut vs T0 t R) rfl h9 (hE.trans (Chg.of_ext hE5)) hE5
        · have q0 : w4.ownsRow (wr.heap.size) 3 1 y3 t.length (t.flatMap encInt1) := hd ⟨3, .data⟩ (by simp) rfl (by decide)
          obtain ⟨a6, c6, hv6, _⟩ := view_owns encInt1_len q0
          subst hv6
          clear hd hrest
          have hx := ownsRow_ext q0 ((Ext.refl w4).alloc (.cells #[.slice a6 t.length c6] 22))
          have Hx := Lib.hid hx
          clear hx q0
          simp [putAll, Act.put]
          go_wp2
          exact OneC.mk (V := VPi w wr.heap.size B2 w.heap.size p off k ct none ai ci T.length ut vs T0 t R) (VPi.ext w wr.heap.size B2 w.heap.size p off k ct none ai ci T.length ut vs T0 t R) rfl ⟨_, ⟨a6, t.length, c6⟩, rfl, hsz, heap_alloc_new w4 _, Hx.out⟩ (hE.trans (Chg.of_ext ((Ext.refl w4).alloc _))) ((Ext.refl _).alloc _)
        · have q0 : ut = y1 := (show y1 = ut from hd ⟨1, .data⟩ (by simp) rfl (by decide)).symm
          obtain ⟨g, s, q1, hg1, hg2, hs4⟩ : ∃ g, ∃ s : Sl, y4 = .slice (some ⟨g, 0, none⟩) 1 1 ∧ wr.heap.size ≤ g ∧ w4.heap[g]? = some (.cells #[s.v] 22) ∧ w4.ownsRow (wr.heap.size) 3 1 s.v t.length (t.flatMap encInt1) := hd ⟨4, .data⟩ (by simp) rfl (by decide)
          have S4 : Sep w w4 (plTab ut vs T0 :: R) := hrest 0 (by omega) (.inr rfl)
          have S5 : Sep w w4 (plRow 3 1 encInt1 s.v t :: plTab ut vs T0 :: R) := S4.consAt (B := wr.heap.size) (p := plRow 3 1 encInt1 s.v t) (ownsRow_base hs4 (Nat.zero_le _)) S.ext.size (fun b hb => (World.ownsRow.lt hs4 b hb).1) hHB
          have hrow := S5.tabRow 1 rfl
          have hvl := tab_len (S5.at_ 1 rfl)
          have hrd : Rd 1 encSl w4 (some ⟨g, 0, none⟩) [s] := rd_lit [s] encSl_len hg2 rfl
          have hvs : vs.length ≤ 1048576 := by omega
          subst q0 q1
          clear hd hrest S4
          simp [putAll, Act.put]
          refine wpList_append_b rfl _ _ 23 rfl w.heap.size 22 _ 1 _ Try.underlying23 infoSl rfl (by decide) encSl_len encSl_one _ vs.length vs rfl hrow rfl (some ⟨g, 0, none⟩) 1 1 [s] rfl rfl hrd (by omega) (by omega) hE4.size ?_
          intro v5 w5 ho5 hgr hblk
          have S6 : Sep w w5 (plTab v5 (vs ++ [s]) (T0 ++ [t]) :: R) := S5.tabPush 1 0 rfl rfl (by decide) hgr ho5 hblk
          have hch : Chg (fun b => ut.ownBlock = some b) w4 w5 := Chg.of_grown hgr
          have hnB : ∀ b, wr.heap.size ≤ b → ¬ ut.ownBlock = some b := fun b h1 h2 => by
            have := hHB _ (List.mem_cons_self ..) b (.inl h2)
            omega
          clear ho5 hblk hrow hrd S5 hgr
          go_wp2
          refine ⟨rfl, _, rfl, ⟨_, S6⟩, hE.trans hch, fun i u hi hne hcon hnd hnc hv => ?_⟩
          match i with
          | 0 => exact hv
          | 1 => exact hv
          | 2 => exact hv
          | 3 => exact ownsRow_chg (show w4.ownsRow _ _ _ _ _ _ from hv) hch hnB
          | 4 => obtain ⟨g1, s1, h1, h2, h3, h4⟩ := hv; exact ⟨g1, s1, h1, h2, heap_chg h3 hch (hnB g1 h2), ownsRow_chg h4 hch hnB⟩
          | 5 => exact absurd rfl hne
          | 6 => exact hv
          | 7 => exact absurd rfl hcon
          | (n + 8) => trivial
        · clear hd hrest
          simp [putAll, Act.put]
          go_wp2
          exact OneC.mk (V := VPi w wr.heap.size B2 w.heap.size p off k ct none ai ci T.length ut vs T0 t R) (VPi.ext w wr.heap.size B2 w.heap.size p off k ct none ai ci T.length ut vs T0 t R) rfl rfl hE (Ext.refl _)
      intro vz w11 hvl hE hV _
      match vz, hvl with
      | [y0, y1, y2, y3, y4, y5, y6], _ =>
      obtain ⟨vs2, S11⟩ : ∃ vs2, Sep w w11 (plTab y5 vs2 (T0 ++ [t]) :: R) := hV 5 (by omega) rfl
      have e9 : y6 = .pointer (some ⟨B2, 1, none⟩) := hV 6 (by omega) rfl
      clear hV hI0 hHB Sd hE hob1 hbm1
      subst e9
      obtain ⟨a11, c11, hv11, hk11, _, _⟩ := S11.tab 0 rfl
      subst hv11
      obtain ⟨n11, hn11⟩ : ∃ n, n = (T0 ++ [t]).length := ⟨_, rfl⟩
      rw [← hn11] at S11 hk11 ⊢
      have HN11 := Lib.hid hn11
      clear hn11
      simp only [putAll, Act.put, List.take_succ_cons, List.take_zero, List.drop_succ_cons, List.drop_zero]
      simp
      rw [HR.out] at S11
      clear hrtk
      obtain rfl : n11 = k + 1 := by rw [HN11.out, List.length_append, Hlen0.out]; rfl
      have S12 : Sep w w11 [plTab (.slice a11 (k + 1) c11) vs2 (T0 ++ [t]), plBox B2 #[.slice a1 F.length c1, ut] 28, plRow 3 1 encInt1 (.slice a1 F.length c1) F, plBox (w.heap.size + 1) #[.slice none 0 0, .slice none 0 0] 28, plBox w.heap.size #[.slice af F.length cf, .slice (some ⟨p, off, none⟩) T.length ct] 28] := S11
      obtain ⟨d0, f0⟩ := bx (S12.box 1 rfl) 1 rfl
      have S13 : Sep w (w11.setCell ⟨B2, 1, none⟩ (.slice a11 (k + 1) c11)) [plTab (.slice a11 (k + 1) c11) vs2 (T0 ++ [t]), plBox B2 #[.slice a1 F.length c1, .slice a11 (k + 1) c11] 28, plRow 3 1 encInt1 (.slice a1 F.length c1) F, plBox (w.heap.size + 1) #[.slice none 0 0, .slice none 0 0] 28, plBox w.heap.size #[.slice af F.length cf, .slice (some ⟨p, off, none⟩) T.length ct] 28] := S12.set 1 rfl 1 (.slice a11 (k + 1) c11)
      have hln : (T0 ++ [t]).length = k + 1 := HN11.out.symm
      have H13 := Lib.hid S13
      have Hln := Lib.hid hln
      clear S S11 S12 S13 hln
      go_wp2
      go_roundw
      case rel =>
        refine ⟨k + 1, a11, c11, vs2, by omega, by go_num, ?_, ?_⟩
        · rw [Htk.out, Hln.out]; exact hk11
        · rw [Htk.out, Hln.out]; exact H13.out
      case measure => simp [intOf]; omega
    · obtain rfl : k = T.length := by omega
      have hni : ¬ (T.length : Int) < (T.length : Int) := by omega
      rw [List.take_length] at S hk5
      obtain ⟨obc0, obf0⟩ : wr.cell? ⟨B2, 0, none⟩ = some (.slice a1 F.length c1) ∧ wr.frozen? ⟨B2, 0, none⟩ = false := bx (S.box 1 rfl) 0 rfl
      obtain ⟨obc1, obf1⟩ : wr.cell? ⟨B2, 1, none⟩ = some (.slice a5 T.length c5) ∧ wr.frozen? ⟨B2, 1, none⟩ = false := bx (S.box 1 rfl) 1 rfl
      obtain ⟨rbc0, rbf0⟩ : wr.cell? ⟨(w.heap.size + 1), 0, none⟩ = some (.slice none 0 0) ∧ wr.frozen? ⟨(w.heap.size + 1), 0, none⟩ = false := bx (S.box 3 rfl) 0 rfl
      obtain ⟨rbc1, rbf1⟩ : wr.cell? ⟨(w.heap.size + 1), 1, none⟩ = some (.slice none 0 0) ∧ wr.frozen? ⟨(w.heap.size + 1), 1, none⟩ = false := bx (S.box 3 rfl) 1 rfl
      obtain ⟨bmc0, bmf0⟩ : wr.cell? ⟨w.heap.size, 0, none⟩ = some (.slice af F.length cf) ∧ wr.frozen? ⟨w.heap.size, 0, none⟩ = false := bx (S.box 4 rfl) 0 rfl
      obtain ⟨bmc1, bmf1⟩ : wr.cell? ⟨w.heap.size, 1, none⟩ = some (.slice at_ T.length ct) ∧ wr.frozen? ⟨w.heap.size, 1, none⟩ = false := bx (S.box 4 rfl) 1 rfl
      go_wp2
      try simp only [Exit.inBlock, Exit.then]
      refine bodyPost_ret (v := .agg #[.slice a1 F.length c1, .slice a5 T.length c5]) (by simp [results, Try.results57, go_sem, rbc0, rbc1, obc0, obc1]) rfl ?_
      replace S : Sep w (wr.setCell ⟨(w.heap.size + 1), 0, none⟩ (.slice a1 F.length c1)) [plTab (.slice a5 T.length c5) vs T, plBox B2 #[.slice a1 F.length c1, .slice a5 T.length c5] 28, plRow 3 1 encInt1 (.slice a1 F.length c1) F, plBox (w.heap.size + 1) #[.slice a1 F.length c1, .slice none 0 0] 28, plBox w.heap.size #[.slice af F.length cf, .slice at_ T.length ct] 28] := S.set 3 rfl 0 _
      replace S : Sep w ((wr.setCell ⟨(w.heap.size + 1), 0, none⟩ (.slice a1 F.length c1)).setCell ⟨(w.heap.size + 1), 1, none⟩ (.slice a5 T.length c5)) [plTab (.slice a5 T.length c5) vs T, plBox B2 #[.slice a1 F.length c1, .slice a5 T.length c5] 28, plRow 3 1 encInt1 (.slice a1 F.length c1) F, plBox (w.heap.size + 1) #[.slice a1 F.length c1, .slice a5 T.length c5] 28, plBox w.heap.size #[.slice af F.length cf, .slice at_ T.length ct] 28] := S.set 3 rfl 1 _
      replace S : Sep w ((wr.setCell ⟨(w.heap.size + 1), 0, none⟩ (.slice a1 F.length c1)).setCell ⟨(w.heap.size + 1), 1, none⟩ (.slice a5 T.length c5)) [plTab (.slice a5 T.length c5) vs T, plRow 3 1 encInt1 (.slice a1 F.length c1) F, plBox (w.heap.size + 1) #[.slice a1 F.length c1, .slice a5 T.length c5] 28, plBox w.heap.size #[.slice af F.length cf, .slice at_ T.length ct] 28] := S.drop 1
      replace S : Sep w ((wr.setCell ⟨(w.heap.size + 1), 0, none⟩ (.slice a1 F.length c1)).setCell ⟨(w.heap.size + 1), 1, none⟩ (.slice a5 T.length c5)) [plTab (.slice a5 T.length c5) vs T, plRow 3 1 encInt1 (.slice a1 F.length c1) F, plBox w.heap.size #[.slice af F.length cf, .slice at_ T.length ct] 28] := S.drop 2
      replace S : Sep w ((wr.setCell ⟨(w.heap.size + 1), 0, none⟩ (.slice a1 F.length c1)).setCell ⟨(w.heap.size + 1), 1, none⟩ (.slice a5 T.length c5)) [plTab (.slice a5 T.length c5) vs T, plRow 3 1 encInt1 (.slice a1 F.length c1) F] := S.drop 2
      first | exact ⟨a1, c1, a5, c5, vs, rfl, hk1, hk5, S⟩ | exact ⟨a1, c1, a5, c5, rfl, hk1, hk5, vs, S⟩

set_option maxRecDepth 10000 in
set_option maxHeartbeats 8000000 in
theorem specCopy_any (af : Option Addr) (cf : Nat) (F : List Int) (at_ : Option Addr) (ct : Nat) (T : List (List Int)) (w : World) (hF : F.length ≤ 1048576) (hT : T.length ≤ 1048576) (hlt : ∀ t ∈ T, t.length ≤ 1048576) (hrf : Rd 1 encInt1 w af F) (hrt : RdT w at_ T) :
    Calls Try.prog 56 #[.agg #[.slice af F.length cf, .slice at_ T.length ct]] w fun e w' => ∃ a1 c1 a2 c2 vs, e = .returned (.agg #[.slice a1 F.length c1, .slice a2 T.length c2]) ∧ F.length ≤ c1 ∧ T.length ≤ c2 ∧ Sep w w' [plTab (.slice a2 T.length c2) vs T, plRow 3 1 encInt1 (.slice a1 F.length c1) F] := by
  have HLT := Lib.hid hlt
  clear hlt
  go_enter Try.func56, Try.ntmps56
  have S := Sep.start w
  replace S : Sep w (w.alloc (.cells #[.slice af F.length cf, .slice at_ T.length ct] 28)) [plBox w.heap.size #[.slice af F.length cf, .slice at_ T.length ct] 28] := S.alloc_at (by simp) _ _
  replace S : Sep w ((w.alloc (.cells #[.slice af F.length cf, .slice at_ T.length ct] 28)).alloc (.cells #[.slice none 0 0, .slice none 0 0] 28)) [plBox (w.heap.size + 1) #[.slice none 0 0, .slice none 0 0] 28, plBox w.heap.size #[.slice af F.length cf, .slice at_ T.length ct] 28] := S.alloc_at (by simp) _ _
  go_upto_region 1 with fail
  generalize ((w.alloc (.cells #[.slice af F.length cf, .slice at_ T.length ct] 28)).alloc (.cells #[.slice none 0 0, .slice none 0 0] 28)) = w1 at *
  have HS := Lib.hid S
  replace S : Sep w (w1.alloc (.cells #[] 3)) [plRow 3 1 encInt1 (.slice (some ⟨w1.heap.size, 0, none⟩) 0 0) [], plBox (w.heap.size + 1) #[.slice none 0 0, .slice none 0 0] 28, plBox w.heap.size #[.slice af F.length cf, .slice at_ T.length ct] 28] := S.lit0 (by simp) _ _ _
  obtain ⟨bmc0, bmf0⟩ : (w1.alloc (.cells #[] 3)).cell? ⟨w.heap.size, 0, none⟩ = some (.slice af F.length cf) ∧ (w1.alloc (.cells #[] 3)).frozen? ⟨w.heap.size, 0, none⟩ = false := bx (S.box 2 rfl) 0 rfl
  obtain ⟨bmc1, bmf1⟩ : (w1.alloc (.cells #[] 3)).cell? ⟨w.heap.size, 1, none⟩ = some (.slice at_ T.length ct) ∧ (w1.alloc (.cells #[] 3)).frozen? ⟨w.heap.size, 1, none⟩ = false := bx (S.box 2 rfl) 1 rfl
  go_wp2_with (at_builtin; refine Hid.out (?_ : Hid _))
  unfold Hid
  refine (wpList_append_lit rfl _ _ 22 rfl w1.heap.size 3 _ 1 _ Try.underlying22 infoInt rfl (by decide) encInt1_len encInt1_one w1.heap.size rfl (heap_alloc_new _ _) (Nat.le_refl _) af F.length cf F rfl rfl (hrf.ext S.ext) (by omega) (by omega) (by simp) ?_)
  intro u w2 ho hE2
  clear bmc0 bmf0 bmc1 bmf1
  clear S
  have S := HS.out
  clear HS
  have hE := ((Ext.refl w1).alloc (.cells #[] 3)).trans hE2
  obtain ⟨a1, c1, hv2, hk1, _, _⟩ := view_owns encInt1_len ho
  subst hv2
  have U := Sep.of_owns hE ho
  clear hE ho hE2
  replace S : Sep w w2 [plRow 3 1 encInt1 (.slice a1 F.length c1) F, plBox (w.heap.size + 1) #[.slice none 0 0, .slice none 0 0] 28, plBox w.heap.size #[.slice af F.length cf, .slice at_ T.length ct] 28] := S.call U
  clear U
  obtain ⟨B2, hB2⟩ : ∃ B2, B2 = w2.heap.size := ⟨_, rfl⟩
  replace S : Sep w (w2.alloc (.cells #[.slice a1 F.length c1, .slice none 0 0] 28)) [plBox w2.heap.size #[.slice a1 F.length c1, .slice none 0 0] 28, plRow 3 1 encInt1 (.slice a1 F.length c1) F, plBox (w.heap.size + 1) #[.slice none 0 0, .slice none 0 0] 28, plBox w.heap.size #[.slice af F.length cf, .slice at_ T.length ct] 28] := S.alloc_at (by simp) _ _
  obtain ⟨bmc0, bmf0⟩ : (w2.alloc (.cells #[.slice a1 F.length c1, .slice none 0 0] 28)).cell? ⟨w.heap.size, 0, none⟩ = some (.slice af F.length cf) ∧ (w2.alloc (.cells #[.slice a1 F.length c1, .slice none 0 0] 28)).frozen? ⟨w.heap.size, 0, none⟩ = false := bx (S.box 3 rfl) 0 rfl
  obtain ⟨bmc1, bmf1⟩ : (w2.alloc (.cells #[.slice a1 F.length c1, .slice none 0 0] 28)).cell? ⟨w.heap.size, 1, none⟩ = some (.slice at_ T.length ct) ∧ (w2.alloc (.cells #[.slice a1 F.length c1, .slice none 0 0] 28)).frozen? ⟨w.heap.size, 1, none⟩ = false := bx (S.box 3 rfl) 1 rfl
  go_upto_region 2 with fail
  clear bmc0 bmf0 bmc1 bmf1
  generalize (w2.alloc (.cells #[.slice a1 F.length c1, .slice none 0 0] 28)) = w3 at *
  rw [← hB2] at *
  clear hB2
  obtain ⟨obc0, obf0⟩ : w3.cell? ⟨B2, 0, none⟩ = some (.slice a1 F.length c1) ∧ w3.frozen? ⟨B2, 0, none⟩ = false := bx (S.box 0 rfl) 0 rfl
  obtain ⟨obc1, obf1⟩ : w3.cell? ⟨B2, 1, none⟩ = some (.slice none 0 0) ∧ w3.frozen? ⟨B2, 1, none⟩ = false := bx (S.box 0 rfl) 1 rfl
  obtain ⟨rbc0, rbf0⟩ : w3.cell? ⟨(w.heap.size + 1), 0, none⟩ = some (.slice none 0 0) ∧ w3.frozen? ⟨(w.heap.size + 1), 0, none⟩ = false := bx (S.box 2 rfl) 0 rfl
  obtain ⟨rbc1, rbf1⟩ : w3.cell? ⟨(w.heap.size + 1), 1, none⟩ = some (.slice none 0 0) ∧ w3.frozen? ⟨(w.heap.size + 1), 1, none⟩ = false := bx (S.box 2 rfl) 1 rfl
  obtain ⟨bmc0, bmf0⟩ : w3.cell? ⟨w.heap.size, 0, none⟩ = some (.slice af F.length cf) ∧ w3.frozen? ⟨w.heap.size, 0, none⟩ = false := bx (S.box 3 rfl) 0 rfl
  obtain ⟨bmc1, bmf1⟩ : w3.cell? ⟨w.heap.size, 1, none⟩ = some (.slice at_ T.length ct) ∧ w3.frozen? ⟨w.heap.size, 1, none⟩ = false := bx (S.box 3 rfl) 1 rfl
  go_wp2
  clear obc0 obf0 obc1 obf1 rbc0 rbf0 rbc1 rbf1 bmc0 bmf0 bmc1 bmf1
  have S0 := S.tabNil
  clear S
  go_loopw [4] (fun i wr => ∃ (k : Nat) (a5 : Option Addr) (c5 : Nat) (vs : List Sl), k ≤ T.length ∧ i = .int .i64 k ∧ (T.take k).length ≤ c5 ∧ Sep w wr [plTab (.slice a5 (T.take k).length c5) vs (T.take k), plBox B2 #[.slice a1 F.length c1, .slice a5 (T.take k).length c5] 28, plRow 3 1 encInt1 (.slice a1 F.length c1) F, plBox (w.heap.size + 1) #[.slice none 0 0, .slice none 0 0] 28, plBox w.heap.size #[.slice af F.length cf, .slice at_ T.length ct] 28]) (fun i _ => T.length - (intOf i).toNat)
  case atStart => exact ⟨0, none, 0, [], Nat.zero_le _, rfl, Nat.le_refl _, S0⟩
  case round =>
    clear S0
    obtain ⟨k, a5, c5, vs, hk, rfl, hk5, S⟩ := hrel
    by_cases hlk : k < T.length
    · obtain ⟨t, p, off, ai, ci, ht, hpe, c0, hci, hrt1⟩ := atTab (hrt.ext S.ext) hlk
      subst hpe
      have Ht := Lib.hid ht
      have htl := HLT.out t (List.mem_of_getElem? ht)
      have Htk : Hid (T.take (k + 1) = T.take k ++ [t]) := Lib.hid (by rw [List.take_add_one, ht]; rfl)
      have hrtk := tab_find (ct := ct) hrt S.ext ht c0
      have Hrtk := Lib.hid hrtk
      have i0 : (k : Int) < (T.length : Int) := by omega
      have htk : (T.take k).length = k := by rw [List.length_take]; omega
      rw [htk] at S
      obtain ⟨T0, hT0⟩ : ∃ T0, T0 = T.take k := ⟨_, rfl⟩
      rw [← hT0] at S htk Htk
      have Hlen0 := Lib.hid htk
      have hT0le : T0.length ≤ 1048576 := by omega
      obtain ⟨ut, hut⟩ : ∃ ut, ut = Value.slice a5 k c5 := ⟨_, rfl⟩
      rw [← hut] at S
      obtain ⟨R, hR⟩ : ∃ R, R = [plBox B2 #[.slice a1 F.length c1, ut] 28, plRow 3 1 encInt1 (.slice a1 F.length c1) F, plBox (w.heap.size + 1) #[.slice none 0 0, .slice none 0 0] 28, plBox w.heap.size #[.slice af F.length cf, .slice (some ⟨p, off, none⟩) T.length ct] 28] := ⟨_, rfl⟩
      have hob0 := (bx (S.box 1 rfl) 1 rfl).1
      have hbm0 := (bx (S.box 4 rfl) 1 rfl).1
      have hob1 : ∀ w4, Chg (fun b => ut.ownBlock = some b) (World.drew wr) w4 → w4.cell? ⟨B2, 1, none⟩ = some ut := fun w4 hI => cell_chg (w := World.drew wr) hob0 hI (fun e => S.ne (i := 0) (j := 1) rfl rfl (by decide) (b := B2) (.inl e) rfl)
      have hbm1 : ∀ w4, Chg (fun b => ut.ownBlock = some b) (World.drew wr) w4 → w4.cell? ⟨w.heap.size, 1, none⟩ = some (.slice (some ⟨p, off, none⟩) T.length ct) := fun w4 hI => cell_chg (w := World.drew wr) hbm0 hI (fun e => S.ne (i := 0) (j := 4) rfl rfl (by decide) (b := w.heap.size) (.inl e) rfl)
      have Hob1 := Lib.hid hob1
      have Hbm1 := Lib.hid hbm1
      rw [← hR] at S
      have HR := Lib.hid hR
      clear hT0 ht hR hut hrt1 hob0 htk hob1 hbm1 hrtk
      go_upto_region 5 with fail
      have hob1 := Hob1.out
      have hbm1 := Hbm1.out
      have hrtk := Hrtk.out
      clear c0 hbm0 Hob1 Hbm1 Hrtk
      have hI0 : ∀ wv, Chg (fun b => ut.ownBlock = some b) (World.drew wr) wv → Ext w wv := fun wv hI => Chg.ext (S.ext.drew) hI (fun b hb => (S.lt (List.mem_cons_self ..) (show (plTab ut vs T0).own b from .inl hb)).1)
      have hHB : ∀ q ∈ plTab ut vs T0 :: R, ∀ b, q.own b → b < wr.heap.size := fun q hq b hb => (S.lt hq hb).2
      have Sd : Sep w (World.drew wr) (plTab ut vs T0 :: R) := S.drew
      refine wp_region_c (V := VPs w wr.heap.size B2 w.heap.size p off k ct none ai ci T.length ut vs T0 t R) (Chg (fun b => ut.ownBlock = some b) (World.drew wr)) (fun i => if i = 12 then some 10 else none) [] 12 1 rfl (by decide) (by kernel_rfl) (by kernel_rfl) (by kernel_rfl) (by kernel_rfl) (Chg.refl _ _) (fun r hr => match r, hr with | 0, _ => Sd) ?_ ?_
      · intro i o hi ho vz w4 hvl hE hd hrest
        have hE4 := hI0 w4 hE
        have hsz : wr.heap.size ≤ w4.heap.size := hE.size
        match vz, hvl with
        | [y0, y1, y2, y3, y4, y5, y6, y7, y8, y9, y10, y11], _ =>
        rcases (show i = 0 ∨ i = 1 ∨ i = 2 ∨ i = 3 ∨ i = 4 ∨ i = 5 ∨ i = 6 ∨ i = 7 ∨ i = 8 ∨ i = 9 ∨ i = 10 ∨ i = 11 by omega) with rfl | rfl | rfl | rfl | rfl | rfl | rfl | rfl | rfl | rfl | rfl | rfl
        all_goals
          simp only [List.getElem?_cons_zero, List.getElem?_cons_succ, Option.some.injEq] at ho
          subst ho
        · clear hd hrest
          simp [putAll, Act.put]
          go_wp2
          exact OneC.mk (V := VPs w wr.heap.size B2 w.heap.size p off k ct none ai ci T.length ut vs T0 t R) (VPs.ext w wr.heap.size B2 w.heap.size p off k ct none ai ci T.length ut vs T0 t R) rfl rfl hE (Ext.refl _)
        · have q0 : y0 = .pointer (some ⟨B2, 1, none⟩) := hd ⟨0, .data⟩ (by simp) rfl (by decide)
          have c0 := hob1 w4 hE
          subst q0
          clear hd hrest
          simp [putAll, Act.put]
          go_wp2
          exact OneC.mk (V := VPs w wr.heap.size B2 w.heap.size p off k ct none ai ci T.length ut vs T0 t R) (VPs.ext w wr.heap.size B2 w.heap.size p off k ct none ai ci T.length ut vs T0 t R) rfl rfl hE (Ext.refl _)
        · clear hd hrest
          simp [putAll, Act.put]
          go_wp2
          exact OneC.mk (V := VPs w wr.heap.size B2 w.heap.size p off k ct none ai ci T.length ut vs T0 t R) (VPs.ext w wr.heap.size B2 w.heap.size p off k ct none ai ci T.length ut vs T0 t R) rfl ⟨_, rfl, hsz, heap_alloc_new w4 _⟩ (hE.trans (Chg.of_ext ((Ext.refl w4).alloc _))) ((Ext.refl _).alloc _)
        · clear hd hrest
          simp [putAll, Act.put]
          go_wp2
          exact OneC.mk (V := VPs w wr.heap.size B2 w.heap.size p off k ct none ai ci T.length ut vs T0 t R) (VPs.ext w wr.heap.size B2 w.heap.size p off k ct none ai ci T.length ut vs T0 t R) rfl rfl hE (Ext.refl _)
        · have q0 : y3 = .pointer (some ⟨w.heap.size, 1, none⟩) := hd ⟨3, .data⟩ (by simp) rfl (by decide)
          have c0 := hbm1 w4 hE
          subst q0
          clear hd hrest
          simp [putAll, Act.put]
          go_wp2
          exact OneC.mk (V := VPs w wr.heap.size B2 w.heap.size p off k ct none ai ci T.length ut vs T0 t R) (VPs.ext w wr.heap.size B2 w.heap.size p off k ct none ai ci T.length ut vs T0 t R) rfl rfl hE (Ext.refl _)
        · clear hd hrest
          simp [putAll, Act.put]
          go_wp2
          exact OneC.mk (V := VPs w wr.heap.size B2 w.heap.size p off k ct none ai ci T.length ut vs T0 t R) (VPs.ext w wr.heap.size B2 w.heap.size p off k ct none ai ci T.length ut vs T0 t R) rfl rfl hE (Ext.refl _)
        · have q0 : y4 = .slice (some ⟨p, off, none⟩) T.length ct := hd ⟨4, .data⟩ (by simp) rfl (by decide)
          have q1 : y5 = .int .i64 k := hd ⟨5, .data⟩ (by simp) rfl (by decide)
          subst q0 q1
          clear hd hrest
          simp [putAll, Act.put]
          go_wp2
          exact OneC.mk (V := VPs w wr.heap.size B2 w.heap.size p off k ct none ai ci T.length ut vs T0 t R) (VPs.ext w wr.heap.size B2 w.heap.size p off k ct none ai ci T.length ut vs T0 t R) rfl rfl hE (Ext.refl _)
        · have q0 : y6 = .pointer (some ⟨p, off + k, none⟩) := hd ⟨6, .data⟩ (by simp) rfl (by decide)
          obtain ⟨c0, _⟩ := hrtk w4 hE4
          subst q0
          clear hd hrest
          simp [putAll, Act.put]
          go_wp2
          exact OneC.mk (V := VPs w wr.heap.size B2 w.heap.size p off k ct none ai ci T.length ut vs T0 t R) (VPs.ext w wr.heap.size B2 w.heap.size p off k ct none ai ci T.length ut vs T0 t R) rfl rfl hE (Ext.refl _)
        · obtain ⟨g, q0, hg1, hg2⟩ : ∃ g, y2 = .slice (some ⟨g, 0, none⟩) 0 0 ∧ wr.heap.size ≤ g ∧ w4.heap[g]? = some (.cells #[] 3) := hd ⟨2, .data⟩ (by simp) rfl (by decide)
          have q1 : y7 = .slice ai t.length ci := hd ⟨7, .data⟩ (by simp) rfl (by decide)
          obtain ⟨_, hr4⟩ := hrtk w4 hE4
          subst q0 q1
          clear hd hrest
          simp [putAll, Act.put]
          refine wpList_append_lit rfl _ _ 22 rfl (wr.heap.size) 3 _ 1 _ Try.underlying22 infoInt rfl (by decide) encInt1_len encInt1_one g rfl hg2 hg1 ai t.length ci t rfl rfl hr4 (by omega) (by omega) hsz ?_
          intro v5 w5 ho5 hE5
          go_wp2
          exact OneC.mk (V := VPs w wr.heap.size B2 w.heap.size p off k ct none ai ci T.length ut vs T0 t R) (VPs.ext w wr.heap.size B2 w.heap.size p off k ct none ai ci T.length ut vs T0 t R) rfl ho5 (hE.trans (Chg.of_ext hE5)) hE5
        · have q0 : w4.ownsRow (wr.heap.size) 3 1 y8 t.length (t.flatMap encInt1) := hd ⟨8, .data⟩ (by simp) rfl (by decide)
          obtain ⟨a6, c6, hv6, _⟩ := view_owns encInt1_len q0
          subst hv6
          clear hd hrest
          have hx := ownsRow_ext q0 ((Ext.refl w4).alloc (.cells #[.slice a6 t.length c6] 22))
          have Hx := Lib.hid hx
          clear hx q0
          simp [putAll, Act.put]
          go_wp2
          exact OneC.mk (V := VPs w wr.heap.size B2 w.heap.size p off k ct none ai ci T.length ut vs T0 t R) (VPs.ext w wr.heap.size B2 w.heap.size p off k ct none ai ci T.length ut vs T0 t R) rfl ⟨_, ⟨a6, t.length, c6⟩, rfl, hsz, heap_alloc_new w4 _, Hx.out⟩ (hE.trans (Chg.of_ext ((Ext.refl w4).alloc _))) ((Ext.refl _).alloc _)
        · have q0 : ut = y1 := (show y1 = ut from hd ⟨1, .data⟩ (by simp) rfl (by decide)).symm
          obtain ⟨g, s, q1, hg1, hg2, hs4⟩ : ∃ g, ∃ s : Sl, y9 = .slice (some ⟨g, 0, none⟩) 1 1 ∧ wr.heap.size ≤ g ∧ w4.heap[g]? = some (.cells #[s.v] 22) ∧ w4.ownsRow (wr.heap.size) 3 1 s.v t.length (t.flatMap encInt1) := hd ⟨9, .data⟩ (by simp) rfl (by decide)
          have S4 : Sep w w4 (plTab ut vs T0 :: R) := hrest 0 (by omega) (.inr rfl)
          have S5 : Sep w w4 (plRow 3 1 encInt1 s.v t :: plTab ut vs T0 :: R) := S4.consAt (B := wr.heap.size) (p := plRow 3 1 encInt1 s.v t) (ownsRow_base hs4 (Nat.zero_le _)) S.ext.size (fun b hb => (World.ownsRow.lt hs4 b hb).1) hHB
          have hrow := S5.tabRow 1 rfl
          have hvl := tab_len (S5.at_ 1 rfl)
          have hrd : Rd 1 encSl w4 (some ⟨g, 0, none⟩) [s] := rd_lit [s] encSl_len hg2 rfl
          have hvs : vs.length ≤ 1048576 := by omega
          subst q0 q1
          clear hd hrest S4
          simp [putAll, Act.put]
          refine wpList_append_b rfl _ _ 23 rfl w.heap.size 22 _ 1 _ Try.underlying23 infoSl rfl (by decide) encSl_len encSl_one _ vs.length vs rfl hrow rfl (some ⟨g, 0, none⟩) 1 1 [s] rfl rfl hrd (by omega) (by omega) hE4.size ?_
          intro v5 w5 ho5 hgr hblk
          have S6 : Sep w w5 (plTab v5 (vs ++ [s]) (T0 ++ [t]) :: R) := S5.tabPush 1 0 rfl rfl (by decide) hgr ho5 hblk
          have hch : Chg (fun b => ut.ownBlock = some b) w4 w5 := Chg.of_grown hgr
          have hnB : ∀ b, wr.heap.size ≤ b → ¬ ut.ownBlock = some b := fun b h1 h2 => by
            have := hHB _ (List.mem_cons_self ..) b (.inl h2)
            omega
          clear ho5 hblk hrow hrd S5 hgr
          go_wp2
          refine ⟨rfl, _, rfl, ⟨_, S6⟩, hE.trans hch, fun i u hi hne hcon hnd hnc hv => ?_⟩
          match i with
          | 0 => exact hv
          | 1 => exact hv
          | 2 => obtain ⟨g1, h1, h2, h3⟩ := hv; exact ⟨g1, h1, h2, heap_chg h3 hch (hnB g1 h2)⟩
          | 3 => exact hv
          | 4 => exact hv
          | 5 => exact hv
          | 6 => exact hv
          | 7 => exact hv
          | 8 => exact ownsRow_chg (show w4.ownsRow _ _ _ _ _ _ from hv) hch hnB
          | 9 => obtain ⟨g1, s1, h1, h2, h3, h4⟩ := hv; exact ⟨g1, s1, h1, h2, heap_chg h3 hch (hnB g1 h2), ownsRow_chg h4 hch hnB⟩
          | 10 => exact absurd rfl hne
          | 11 => exact hv
          | 12 => exact absurd rfl hcon
          | (n + 13) => trivial
        · clear hd hrest
          simp [putAll, Act.put]
          go_wp2
          exact OneC.mk (V := VPs w wr.heap.size B2 w.heap.size p off k ct none ai ci T.length ut vs T0 t R) (VPs.ext w wr.heap.size B2 w.heap.size p off k ct none ai ci T.length ut vs T0 t R) rfl rfl hE (Ext.refl _)
      intro vz w11 hvl hE hV _
      match vz, hvl with
      | [y0, y1, y2, y3, y4, y5, y6, y7, y8, y9, y10, y11], _ =>
      obtain ⟨vs2, S11⟩ : ∃ vs2, Sep w w11 (plTab y10 vs2 (T0 ++ [t]) :: R) := hV 10 (by omega) rfl
      have e9 : y11 = .pointer (some ⟨B2, 1, none⟩) := hV 11 (by omega) rfl
      clear hV hI0 hHB Sd hE hob1 hbm1
      subst e9
      obtain ⟨a11, c11, hv11, hk11, _, _⟩ := S11.tab 0 rfl
      subst hv11
      obtain ⟨n11, hn11⟩ : ∃ n, n = (T0 ++ [t]).length := ⟨_, rfl⟩
      rw [← hn11] at S11 hk11 ⊢
      have HN11 := Lib.hid hn11
      clear hn11
      simp only [putAll, Act.put, List.take_succ_cons, List.take_zero, List.drop_succ_cons, List.drop_zero]
      simp
      rw [HR.out] at S11
      clear hrtk
      obtain rfl : n11 = k + 1 := by rw [HN11.out, List.length_append, Hlen0.out]; rfl
      have S12 : Sep w w11 [plTab (.slice a11 (k + 1) c11) vs2 (T0 ++ [t]), plBox B2 #[.slice a1 F.length c1, ut] 28, plRow 3 1 encInt1 (.slice a1 F.length c1) F, plBox (w.heap.size + 1) #[.slice none 0 0, .slice none 0 0] 28, plBox w.heap.size #[.slice af F.length cf, .slice (some ⟨p, off, none⟩) T.length ct] 28] := S11
      obtain ⟨d0, f0⟩ := bx (S12.box 1 rfl) 1 rfl
      have S13 : Sep w (w11.setCell ⟨B2, 1, none⟩ (.slice a11 (k + 1) c11)) [plTab (.slice a11 (k + 1) c11) vs2 (T0 ++ [t]), plBox B2 #[.slice a1 F.length c1, .slice a11 (k + 1) c11] 28, plRow 3 1 encInt1 (.slice a1 F.length c1) F, plBox (w.heap.size + 1) #[.slice none 0 0, .slice none 0 0] 28, plBox w.heap.size #[.slice af F.length cf, .slice (some ⟨p, off, none⟩) T.length ct] 28] := S12.set 1 rfl 1 (.slice a11 (k + 1) c11)
      have hln : (T0 ++ [t]).length = k + 1 := HN11.out.symm
      have H13 := Lib.hid S13
      have Hln := Lib.hid hln
      clear S S11 S12 S13 hln
      go_wp2
      go_roundw
      case rel =>
        refine ⟨k + 1, a11, c11, vs2, by omega, by go_num, ?_, ?_⟩
        · rw [Htk.out, Hln.out]; exact hk11
        · rw [Htk.out, Hln.out]; exact H13.out
      case measure => simp [intOf]; omega
    · obtain rfl : k = T.length := by omega
      have hni : ¬ (T.length : Int) < (T.length : Int) := by omega
      rw [List.take_length] at S hk5
      obtain ⟨obc0, obf0⟩ : wr.cell? ⟨B2, 0, none⟩ = some (.slice a1 F.length c1) ∧ wr.frozen? ⟨B2, 0, none⟩ = false := bx (S.box 1 rfl) 0 rfl
      obtain ⟨obc1, obf1⟩ : wr.cell? ⟨B2, 1, none⟩ = some (.slice a5 T.length c5) ∧ wr.frozen? ⟨B2, 1, none⟩ = false := bx (S.box 1 rfl) 1 rfl
      obtain ⟨rbc0, rbf0⟩ : wr.cell? ⟨(w.heap.size + 1), 0, none⟩ = some (.slice none 0 0) ∧ wr.frozen? ⟨(w.heap.size + 1), 0, none⟩ = false := bx (S.box 3 rfl) 0 rfl
      obtain ⟨rbc1, rbf1⟩ : wr.cell? ⟨(w.heap.size + 1), 1, none⟩ = some (.slice none 0 0) ∧ wr.frozen? ⟨(w.heap.size + 1), 1, none⟩ = false := bx (S.box 3 rfl) 1 rfl
      obtain ⟨bmc0, bmf0⟩ : wr.cell? ⟨w.heap.size, 0, none⟩ = some (.slice af F.length cf) ∧ wr.frozen? ⟨w.heap.size, 0, none⟩ = false := bx (S.box 4 rfl) 0 rfl
      obtain ⟨bmc1, bmf1⟩ : wr.cell? ⟨w.heap.size, 1, none⟩ = some (.slice at_ T.length ct) ∧ wr.frozen? ⟨w.heap.size, 1, none⟩ = false := bx (S.box 4 rfl) 1 rfl
      go_wp2
      try simp only [Exit.inBlock, Exit.then]
      refine bodyPost_ret (v := .agg #[.slice a1 F.length c1, .slice a5 T.length c5]) (by simp [results, Try.results56, go_sem, rbc0, rbc1, obc0, obc1]) rfl ?_
      replace S : Sep w (wr.setCell ⟨(w.heap.size + 1), 0, none⟩ (.slice a1 F.length c1)) [plTab (.slice a5 T.length c5) vs T, plBox B2 #[.slice a1 F.length c1, .slice a5 T.length c5] 28, plRow 3 1 encInt1 (.slice a1 F.length c1) F, plBox (w.heap.size + 1) #[.slice a1 F.length c1, .slice none 0 0] 28, plBox w.heap.size #[.slice af F.length cf, .slice at_ T.length ct] 28] := S.set 3 rfl 0 _
      replace S : Sep w ((wr.setCell ⟨(w.heap.size + 1), 0, none⟩ (.slice a1 F.length c1)).setCell ⟨(w.heap.size + 1), 1, none⟩ (.slice a5 T.length c5)) [plTab (.slice a5 T.length c5) vs T, plBox B2 #[.slice a1 F.length c1, .slice a5 T.length c5] 28, plRow 3 1 encInt1 (.slice a1 F.length c1) F, plBox (w.heap.size + 1) #[.slice a1 F.length c1, .slice a5 T.length c5] 28, plBox w.heap.size #[.slice af F.length cf, .slice at_ T.length ct] 28] := S.set 3 rfl 1 _
      replace S : Sep w ((wr.setCell ⟨(w.heap.size + 1), 0, none⟩ (.slice a1 F.length c1)).setCell ⟨(w.heap.size + 1), 1, none⟩ (.slice a5 T.length c5)) [plTab (.slice a5 T.length c5) vs T, plRow 3 1 encInt1 (.slice a1 F.length c1) F, plBox (w.heap.size + 1) #[.slice a1 F.length c1, .slice a5 T.length c5] 28, plBox w.heap.size #[.slice af F.length cf, .slice at_ T.length ct] 28] := S.drop 1
      replace S : Sep w ((wr.setCell ⟨(w.heap.size + 1), 0, none⟩ (.slice a1 F.length c1)).setCell ⟨(w.heap.size + 1), 1, none⟩ (.slice a5 T.length c5)) [plTab (.slice a5 T.length c5) vs T, plRow 3 1 encInt1 (.slice a1 F.length c1) F, plBox w.heap.size #[.slice af F.length cf, .slice at_ T.length ct] 28] := S.drop 2
      replace S : Sep w ((wr.setCell ⟨(w.heap.size + 1), 0, none⟩ (.slice a1 F.length c1)).setCell ⟨(w.heap.size + 1), 1, none⟩ (.slice a5 T.length c5)) [plTab (.slice a5 T.length c5) vs T, plRow 3 1 encInt1 (.slice a1 F.length c1) F] := S.drop 2
      first | exact ⟨a1, c1, a5, c5, vs, rfl, hk1, hk5, S⟩ | exact ⟨a1, c1, a5, c5, rfl, hk1, hk5, vs, S⟩
end Go.Proofs.Ytpnllhdgpfbaiaa
