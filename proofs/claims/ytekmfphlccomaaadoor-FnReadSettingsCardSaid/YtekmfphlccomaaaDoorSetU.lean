/- ReadSettings: contracts of the program's and of the reference's. Condition: the text is shorter than 4294967281 bytes; the library's own variable holds some number. -/
import Derived.Test.YtekmfphlccomaaaDoorSetT
import Derived.Test.YtekmfphlccomaaaDoorSplit
import Derived.Test.YtekmfphlccomaaaDoorOrdC
import Derived.Deep.Cut
namespace Go.Proofs.YtekmfphlccomaaaDoor
open Go.RowKit

theorem heap_ext' {w w' : World} {b : Nat} {o : Obj} (hE : Ext w w') (h : w.heap[b]? = some o) : w'.heap[b]? = some o := by
  rw [hE.block b (Array.getElem?_eq_some_iff.1 h).1]; exact h
theorem heap_chg' {S : Nat → Prop} {w w' : World} {b : Nat} {o : Obj} (h : w.heap[b]? = some o) (hc : Chg S w w') (hn : ¬ S b) : w'.heap[b]? = some o :=
  (hc.block b (Array.getElem?_eq_some_iff.1 h).1 hn).trans h
theorem txt_ne {a b : ByteArray} (h : a ≠ b) : (a.toList == b.toList) = false := by
  rw [beq_eq_false_iff_ne]
  intro e
  apply h
  have h1 : ∀ s : ByteArray, s.toList = s.data.toList := fun s => ByteArray.toList_eq s
  rw [h1, h1] at e
  exact ByteArray.ext (Array.toList_inj.1 e)
theorem cells_of {D : List ByteArray} {N j : Nat} {x : ByteArray} (h : D[j]? = some x) : (Lib.cellsOf D N)[j]? = some (.string x) := by
  unfold Lib.cellsOf
  obtain ⟨hj, rfl⟩ := List.getElem?_eq_some_iff.1 h
  rw [List.getElem?_toArray, List.getElem?_append_left (by simpa using hj)]
  simp
theorem byte_is {x : UInt8} {n : Nat} (hn : n < 256) (h : (x.toNat : Int) = n) : x = UInt8.ofNat n := by
  apply UInt8.toNat_inj.1
  rw [UInt8.toNat_ofNat_of_lt' (by exact hn)]
  omega

set_option maxRecDepth 10000 in
set_option maxHeartbeats 8000000 in
theorem implReadSettings (s : ByteArray) (m : Int) (w : World) (hs : s.size < 4294967281) (hm : w.cell? ⟨maxLenG, 0, none⟩ = some (.int .i64 m)) :
    Calls Tryd.prog 11 #[.string s] w fun e w' => ∃ u L ok, e = .returned (.tuple #[u, .bool ok]) ∧ ReadSR s L ok ∧ Sep w w' [plRow 40 2 encSet u L] := by
  go_enter Tryd.func11, Tryd.ntmps11
  have S := Sep.start w
  replace S : Sep w (w.alloc (.cells #[] 40)) [plRow 40 2 encSet (.slice (some ⟨w.heap.size, 0, none⟩) 0 0) []] := S.lit0 (by simp) _ _ _
  by_cases h0 : s = ⟨#[]⟩
  · subst h0
    have HR : Hid (ReadSR ⟨#[]⟩ [] true) := Lib.hid (.inl ⟨rfl, sets_nil, rfl⟩)
    go_wp2
    go_ret2
    exact ⟨_, [], true, rfl, HR.out, S⟩
  have hs0 : s.size ≠ 0 := fun h => h0 (by
    apply ByteArray.ext
    exact Array.eq_empty_of_size_eq_zero h)
  have t0 : s.toList.isEmpty = false := by
    cases h : s.toList.isEmpty with
    | false => rfl
    | true =>
      rw [ByteArray.toList_eq, List.isEmpty_iff] at h
      exact absurd (by rw [Lib.size_eq, h]; rfl) hs0
  clear h0
  go_wp2_with fail
  generalize (w.alloc (.cells #[] 40)) = w1 at *
  refine (splitN_any s m w1 hs (cell_ext S.ext hm)).mono ?_
  rintro e w2 ⟨rfl, rfl⟩
  have hfit0 : ∀ x ∈ Lib.splitB ⟨#[59]⟩ 0 (min 9 (s.size + 1) - 1) s, x.size ≤ s.size := fun x hx => by
    have h1 : x.data.toList ∈ Lib.splitK [59] 0 (min 9 (s.size + 1) - 1) s.data.toList := by
      have h2 := Lib.splitB_data ⟨#[59]⟩ 0 (min 9 (s.size + 1) - 1) s
      have e : (⟨#[59]⟩ : ByteArray).data.toList = [59] := rfl
      rw [e] at h2
      rw [← h2]
      exact List.mem_map.2 ⟨x, hx, rfl⟩
    have := splitK_le _ _ _ h1
    rwa [← Lib.size_eq, ← Lib.size_eq] at this
  have hD9 := Lib.splitB_length_le ⟨#[59]⟩ 0 (min 9 (s.size + 1) - 1) s
  have hri : Hid (∀ L, SetsOk L → textB L = s → readI s = L) := Lib.hid (readI_all hs0)
  obtain ⟨D, hD⟩ : ∃ D, D = Lib.splitB ⟨#[59]⟩ 0 (min 9 (s.size + 1) - 1) s := ⟨_, rfl⟩
  have HD : Hid (D.map (fun p => cutS p.data.toList) = readI s) := Lib.hid (by rw [hD]; rfl)
  rw [← hD] at hfit0 hD9 ⊢
  have Hfit := Lib.hid hfit0
  clear hD hfit0
  obtain ⟨N, hN⟩ : ∃ N, N = min 9 (s.size + 1) := ⟨_, rfl⟩
  rw [← hN] at hD9 ⊢
  have hDN : D.length ≤ 9 := by omega
  have hN9 : D.length ≤ N := by omega
  clear hN hD9
  have hcells : ∀ (j : Nat) x, D[j]? = some x → (w1.alloc (.cells (Lib.cellsOf D N) 9)).cell? ⟨w1.heap.size, j, none⟩ = some (.string x) := fun j x h => cell_new w1 _ _ j _ (cells_of h)
  have hE := (Ext.refl w1).alloc (.cells (Lib.cellsOf D N) 9)
  have hBlt : w1.heap.size < (w1.alloc (.cells (Lib.cellsOf D N) 9)).heap.size := size_new w1 _
  have hrD : Rd 1 encStr1 (w1.alloc (.cells (Lib.cellsOf D N) 9)) (some ⟨w1.heap.size, 0, none⟩) D := fun i hi => ⟨w1.heap.size, 0, rfl, fun j u hu => by
    match j, hu with
    | 0, hu =>
      obtain rfl := Option.some.inj hu
      have := hcells i D[i] (List.getElem?_eq_getElem hi)
      simpa using this
    | (j + 1), hu => simp [encStr1] at hu⟩
  have S2 := S.cons (p := plView 1 encStr1 (some ⟨w1.heap.size, 0, none⟩) D) hE ⟨hrD, fun b off h => by cases h; exact hBlt⟩ (fun b ⟨off, h⟩ => by cases h; exact Nat.le_refl _)
  clear hcells hrD hBlt
  generalize (w1.alloc (.cells (Lib.cellsOf D N) 9)) = w2 at *
  generalize w1.heap.size = B at *
  have S3 : Sep w w2 [plRow 40 2 encSet (.slice (some ⟨w.heap.size, 0, none⟩) 0 0) [], plView 1 encStr1 (some ⟨B, 0, none⟩) D] := S2.perm (List.Perm.swap _ _ _)
  clear S S2 hE
  go_wp2
  go_loopw [4, 6, 7, 8, 9, 17] (fun o _ _ _ _ i wr => ∃ (k : Nat) (a : Option Addr) (c : Nat) (X : List Set), k ≤ D.length ∧ i = .int .i64 k ∧ o = .slice a X.length c ∧ X = (D.take k).map (fun p => cutS p.data.toList) ∧ Sep w wr [plRow 40 2 encSet (.slice a X.length c) X, plView 1 encStr1 (some ⟨B, 0, none⟩) D]) (fun _ _ _ _ _ i _ => D.length - (intOf i).toNat)
  case atStart => exact ⟨0, some ⟨w.heap.size, 0, none⟩, 0, [], Nat.zero_le _, rfl, rfl, by simp, S3⟩
  case round =>
    clear S3
    obtain ⟨k, a, c, X, hk, rfl, rfl, hX, S⟩ := hrel
    have HX := Lib.hid hX
    have hXl : X.length ≤ 9 := by rw [hX]; simp; omega
    clear hX
    by_cases hlt : k < D.length
    · have hx : D[k]? = some D[k] := List.getElem?_eq_getElem hlt
      obtain ⟨x, hxe⟩ : ∃ x, x = D[k] := ⟨_, rfl⟩
      rw [← hxe] at hx
      have c0 : wr.cell? ⟨B, k, none⟩ = some (.string x) := by
        obtain ⟨b', off', hb', hcl⟩ := S.see 1 rfl k hlt
        obtain ⟨rfl, rfl⟩ : B = b' ∧ 0 = off' := by simpa using hb'
        have := hcl 0 (.string D[k]) rfl
        rw [hxe]
        simpa using this
      have hxs := Hfit.out x (List.mem_of_getElem? hx)
      have Hx := Lib.hid hx
      clear hx hxe
      have i1 : (k : Int) < (D.length : Int) := by omega
      have i0 : (0 : Int) ≤ (k : Int) := by omega
      go_wp2_with fail
      refine (cut_any x m wr (by omega) (cell_ext S.ext hm)).mono ?_
      rintro e w3 ⟨rfl, hE⟩
      replace S : Sep w w3 [plRow 40 2 encSet (.slice a X.length c) X, plView 1 encStr1 (some ⟨B, 0, none⟩) D] := S.step hE
      clear hE
      obtain ⟨nm, hnm⟩ : ∃ nm : ByteArray, nm = ⟨(Lib.cut x.data.toList [61]).1.toArray⟩ := ⟨_, rfl⟩
      obtain ⟨tx, htx⟩ : ∃ tx : ByteArray, tx = ⟨(Lib.cut x.data.toList [61]).2.1.toArray⟩ := ⟨_, rfl⟩
      rw [← hnm, ← htx]
      generalize (Lib.cut x.data.toList [61]).2.2 = b9
      have HN : Hid (X ++ [⟨nm, tx⟩] = (D.take (k + 1)).map (fun p => cutS p.data.toList)) := Lib.hid (by
        obtain ⟨h1, h2⟩ := List.getElem?_eq_some_iff.1 Hx.out
        rw [List.take_succ_eq_append_getElem h1, List.map_append, ← HX.out, h2, hnm, htx]
        rfl)
      clear hnm htx c0
      have SA := S.alloc #[.string nm, .string tx] 40
      have rd1 : Rd 2 encSet (w3.alloc (.cells #[.string nm, .string tx] 40)) (some ⟨w3.heap.size, 0, none⟩) [(⟨nm, tx⟩ : Set)] := rd_lit_new [(⟨nm, tx⟩ : Set)] encSet_len rfl
      go_wp2_with (at_builtin; refine Hid.out (?_ : Hid _))
      unfold Hid
      refine wpList_append_b rfl _ _ 23 rfl w.heap.size 40 _ 2 _ Tryd.underlying23 infoSet rfl (by decide) encSet_len encSet_one _ X.length X rfl (SA.row (0 + 1) rfl) rfl (some ⟨w3.heap.size, 0, none⟩) 1 1 [(⟨nm, tx⟩ : Set)] rfl rfl rd1 (by omega) (by omega) SA.chg.size ?_
      intro v7 w7 ho hgr hblk
      obtain ⟨G, hG⟩ : ∃ G, G = X ++ [(⟨nm, tx⟩ : Set)] := ⟨_, rfl⟩
      rw [← hG] at ho HN
      obtain ⟨a7, c7, hv7, hk7, _, _⟩ := view_owns encSet_len ho
      subst hv7
      have SM := (SA.grow (0 + 1) rfl hgr ho hblk).drop 0
      clear ho hgr hblk SA rd1 S hG
      go_wp2
      go_roundw
      case rel => exact ⟨k + 1, a7, c7, G, by omega, by go_num, rfl, HN.out, SM⟩
      case measure => simp [intOf]; omega
    · obtain rfl : k = D.length := by omega
      have hni : ¬ (D.length : Int) < (D.length : Int) := by omega
      have hXe : X = readI s := by have h := HX.out; rw [List.take_length] at h; rw [h, HD.out]
      have Hfx : Hid (FitsS X) := Lib.hid (by rw [hXe]; exact readI_fits (by omega))
      have Hall : Hid (∀ L, SetsOk L → textB L = s → X = L) := Lib.hid (by rw [hXe]; exact hri.out)
      clear hXe
      go_wp2_with fail
      refine (implSettingsText a c X _ (by omega) Hfx.out (S.rd 0 encSet_len rfl rfl)).mono ?_
      rintro e w5 ⟨t, rfl, hT, hE⟩
      have HJ := Lib.hid (readSR_judge hT Hall.out)
      replace S : Sep w w5 [plRow 40 2 encSet (.slice a X.length c) X, plView 1 encStr1 (some ⟨B, 0, none⟩) D] := S.step hE
      clear hE
      by_cases hts : t = s
      · have HR : Hid (ReadSR s X true) := Lib.hid (by
          by_cases hv : SetsOk X
          · exact HJ.out.1 hv hts
          · have h1 := hT.2 hv
            rw [hts] at h1
            exact absurd (by rw [h1]; rfl) hs0)
        subst hts
        clear hT
        replace S : Sep w w5 [plRow 40 2 encSet (.slice a X.length c) X] := S.drop 1
        go_wp2
        go_ret2
        first | exact ⟨_, X, true, rfl, HR.out, S⟩ | exact ⟨_, X, .inr ⟨rfl, HR.out, S⟩⟩
      · have HR : Hid (ReadSR s [] false) := Lib.hid (by
          by_cases hv : SetsOk X
          · exact HJ.out.2.1 hv hts
          · exact HJ.out.2.2 hv)
        have tne := txt_ne hts
        clear hts hT
        replace S : Sep w w5 [plView 1 encStr1 (some ⟨B, 0, none⟩) D] := S.drop 0
        replace S : Sep w w5 [] := S.drop 0
        go_wp2
        go_ret2
        first | exact ⟨_, [], false, rfl, HR.out, S.nil _ _ _⟩ | exact ⟨_, [], .inl ⟨rfl, HR.out, S.nil _ _ _⟩⟩

def V12 (s : ByteArray) (a g e : Nat) (ao : Option Addr) (n c : Nat) (X : List Set) (b0 base : Nat) : Nat → Value → World → Prop := fun i v wv => match i with
  | 0 => v = .slice ao n c
  | 1 => v = .string s
  | 2 => v = .int .i64 (a : Int)
  | 3 => v = .int .i64 (g : Int)
  | 4 => v = .string (s.extract a g)
  | 5 => v = .string s
  | 6 => v = .int .i64 (g : Int)
  | 7 => v = .int .i64 ((g + 1 : Nat) : Int)
  | 8 => v = .int .i64 (e : Int)
  | 9 => v = .string (s.extract (g + 1) e)
  | 10 => v = .agg #[.string (s.extract a g), .string (s.extract (g + 1) e)]
  | 11 => ∃ g9, v = .slice (some ⟨g9, 0, none⟩) 1 1 ∧ base ≤ g9 ∧ wv.heap[g9]? = some (.cells #[.string (s.extract a g), .string (s.extract (g + 1) e)] 40)
  | 12 => wv.ownsRow b0 40 2 v (X ++ [(⟨s.extract a g, s.extract (g + 1) e⟩ : Set)]).length ((X ++ [(⟨s.extract a g, s.extract (g + 1) e⟩ : Set)]).flatMap encSet) ∧ ∀ b, v.ownBlock = some b → (Value.slice ao n c).ownBlock = some b ∨ base ≤ b
  | 13 => wv.ownsRow b0 40 2 (.slice ao n c) X.length (X.flatMap encSet)
  | _ => True
theorem V12.ext {s : ByteArray} {a g e : Nat} {ao : Option Addr} {n c : Nat} {X : List Set} {b0 base : Nat} (i : Nat) (v : Value) (w1 w2 : World) (h : V12 s a g e ao n c X b0 base i v w1) (hE : Ext w1 w2) : V12 s a g e ao n c X b0 base i v w2 := by
  match i with
  | 0 | 1 | 2 | 3 | 4 | 5 | 6 | 7 | 8 | 9 | 10 => exact h
  | 11 => obtain ⟨g9, h1, h2, h3⟩ := h; exact ⟨g9, h1, h2, heap_ext' hE h3⟩
  | 12 => obtain ⟨h1, h2⟩ := h; exact ⟨ownsRow_ext h1 hE, h2⟩
  | 13 => exact ownsRow_ext (show w1.ownsRow _ _ _ _ _ _ from h) hE
  | (n + 14) => trivial

set_option maxRecDepth 10000 in
set_option maxHeartbeats 8000000 in
theorem specReadSettings (s : ByteArray) (w : World) (hs : s.size ≤ 100000000) :
    Calls Tryd.prog 13 #[.string s] w fun e w' => ∃ u L ok, e = .returned (.tuple #[u, .bool ok]) ∧ ReadSR s L ok ∧ Sep w w' [plRow 40 2 encSet u L] := by
  go_enter Tryd.func13, Tryd.ntmps13
  have S := Sep.start w
  replace S : Sep w (w.alloc (.cells #[] 40)) [plRow 40 2 encSet (.slice (some ⟨w.heap.size, 0, none⟩) 0 0) []] := S.lit0 (by simp) _ _ _
  go_wp2
  generalize (w.alloc (.cells #[] 40)) = w1 at *
  go_loopw [4, 5, 6, 7] (fun o i _ _ wr => ∃ (a : Nat) (ao : Option Addr) (co : Nat) (X : List Set), a ≤ s.size + 1 ∧ i = .int .i64 a ∧ o = .slice ao X.length co ∧ InvS s.data.toList a X ∧ X.length ≤ a ∧ FitsS X ∧ Sep w wr [plRow 40 2 encSet (.slice ao X.length co) X]) (fun _ i _ _ _ => s.size + 1 - (intOf i).toNat)
  case atStart => exact ⟨0, some ⟨w.heap.size, 0, none⟩, 0, [], Nat.zero_le _, rfl, rfl, invS_start _, Nat.zero_le _, fun x hx => by simp at hx, S⟩
  case round =>
    clear S
    obtain ⟨a, ao, co, X, ha, rfl, rfl, hI, hXa, hfx, S⟩ := hrel
    have HI := Lib.hid hI
    have Hfx := Lib.hid hfx
    clear hI hfx
    by_cases hlt : a < s.size
    rotate_left
    · have hni : (s.size : Int) ≤ (a : Int) := by omega
      have Hall : Hid (∀ L, SetsOk L → textB L = s → X = L) := Lib.hid (fun L hL e => invS_end HI.out (by rw [← Lib.size_eq]; omega) L hL (textB_eq.1 e))
      go_wp2_with fail
      refine (specSettingsValid ao co X _ (by omega) Hfx.out (S.rd 0 encSet_len rfl rfl)).mono ?_
      rintro e w3 ⟨v0, rfl, hv0, hE⟩
      have Hv0 := Lib.hid hv0
      clear hv0
      replace S : Sep w w3 [plRow 40 2 encSet (.slice ao X.length co) X] := S.step hE
      clear hE
      cases v0 with
      | false =>
        have HR : Hid (ReadSR s [] false) := Lib.hid (.inr ⟨rfl, rfl, fun L hL e => by
          have h1 := Hall.out L hL e
          subst h1
          exact Bool.noConfusion (Hv0.out.2 hL)⟩)
        replace S : Sep w w3 [] := S.drop 0
        replace S : Sep w (w3.alloc (.cells #[] 40)) [plRow 40 2 encSet (.slice (some ⟨w3.heap.size, 0, none⟩) 0 0) []] := S.lit0 (by simp) _ _ _
        go_wp2
        go_ret2
        first | exact ⟨_, [], false, rfl, HR.out, S⟩ | exact ⟨_, [], .inl ⟨rfl, HR.out, S⟩⟩
      | true =>
        have HV := Lib.hid (Hv0.out.1 rfl)
        clear Hv0
        go_wp2_with fail
        refine (specSettingsText ao co X _ (by omega) Hfx.out (S.rd 0 encSet_len rfl rfl)).mono ?_
        rintro e w5 ⟨t, rfl, hT, hE⟩
        have HJ := Lib.hid (readSR_judge hT Hall.out)
        clear hT
        replace S : Sep w w5 [plRow 40 2 encSet (.slice ao X.length co) X] := S.step hE
        clear hE
        by_cases hts : t = s
        · have HR : Hid (ReadSR s X true) := Lib.hid (HJ.out.1 HV.out hts)
          subst hts
          go_wp2
          go_ret2
          first | exact ⟨_, X, true, rfl, HR.out, S⟩ | exact ⟨_, X, .inr ⟨rfl, HR.out, S⟩⟩
        · have HR : Hid (ReadSR s [] false) := Lib.hid (HJ.out.2.1 HV.out hts)
          have tne := txt_ne hts
          clear hts
          replace S : Sep w w5 [] := S.drop 0
          replace S : Sep w (w5.alloc (.cells #[] 40)) [plRow 40 2 encSet (.slice (some ⟨w5.heap.size, 0, none⟩) 0 0) []] := S.lit0 (by simp) _ _ _
          go_wp2
          go_ret2
          first | exact ⟨_, [], false, rfl, HR.out, S⟩ | exact ⟨_, [], .inl ⟨rfl, HR.out, S⟩⟩
    · have i1 : (a : Int) < (s.size : Int) := by omega
      go_wp2
      go_loopw [6] (fun i wx => ∃ e : Nat, a ≤ e ∧ e ≤ s.size ∧ i = .int .i64 e ∧ (∀ j, a ≤ j → j < e → ∀ h : j < s.size, s[j] ≠ 59) ∧ Ext wr wx) (fun i _ => s.size - (intOf i).toNat)
      case atStart => exact ⟨a, Nat.le_refl _, by omega, rfl, fun j h1 h2 => by omega, Ext.refl _⟩
      case round =>
        obtain ⟨e, hae, hes, rfl, hno, hb⟩ := hrel
        have Hno := Lib.hid hno
        have hb0 := hb
        clear hno
        replace S : Sep w wr [plRow 40 2 encSet (.slice ao X.length co) X] := S.step hb
        clear hb
        have j0 : (0 : Int) ≤ (e : Int) := by omega
        have go_on : (e < s.size → ∀ h : e < s.size, s[e] = 59) → Hid (e = s.size ∨ ∃ h : e < s.size, s[e] = 59) := fun h => Lib.hid (by
          rcases Nat.lt_or_eq_of_le hes with c | c
          · exact .inr ⟨c, h c c⟩
          · exact .inl c)
        by_cases hcont : e < s.size ∧ ∀ h : e < s.size, s[e] ≠ 59
        · obtain ⟨hlt2, hne⟩ := hcont
          have j1 : (e : Int) < (s.size : Int) := by omega
          have tb : ((s[e].toNat : Int) != 59) = true := by
            have h1 := hne hlt2
            simp only [bne_iff_ne, ne_eq]
            exact fun h => h1 (byte_is (n := 59) (by omega) h)
          have HN : Hid (∀ j, a ≤ j → j < e + 1 → ∀ h : j < s.size, s[j] ≠ 59) := Lib.hid (fun j h1 h2 h3 => by
            rcases Nat.lt_succ_iff_lt_or_eq.1 h2 with h4 | rfl
            · exact Hno.out j h1 h4 h3
            · exact hne h3)
          clear hne go_on
          go_wp2
          go_roundw
          case rel => exact ⟨e + 1, by omega, by omega, by go_num, HN.out, hb0⟩
          case measure => simp [intOf]; omega
        · have HisE := go_on (fun h1 h2 => Classical.byContradiction fun h3 => hcont ⟨h1, fun _ => h3⟩)
          have hcase : e = s.size ∨ ∃ h : e < s.size, ((s[e].toNat : Int) != 59) = false := by
            rcases HisE.out with h | ⟨h, h2⟩
            · exact .inl h
            · exact .inr ⟨h, by rw [h2]; rfl⟩
          clear hcont go_on
          have hkk : (∀ h : e < s.size, ((s[e].toNat : Int) != 59) = false) ∧ (¬ e < s.size ∨ e < s.size) := ⟨fun h => by
            rcases hcase with h2 | ⟨_, h2⟩
            · omega
            · exact h2, by omega⟩
          clear hcase
          obtain ⟨tbe, hpart⟩ := hkk
          rcases hpart with hpart | hpart
          · have hni : ¬ (e : Int) < (s.size : Int) := by omega
            clear tbe
            go_wp2
            go_loopw [7] (fun i wx => ∃ g : Nat, a ≤ g ∧ g ≤ e ∧ i = .int .i64 g ∧ (∀ j, a ≤ j → j < g → ∀ h : j < s.size, s[j] ≠ 61) ∧ Ext wr wx) (fun i _ => e - (intOf i).toNat)
            case atStart => exact ⟨a, Nat.le_refl _, hae, rfl, fun j h1 h2 => by omega, Ext.refl _⟩
            case round =>
              clear hb0
              obtain ⟨g, hag, hge, rfl, hno, hb⟩ := hrel
              have Hng := Lib.hid hno
              have hb0 := hb
              clear hno
              replace S : Sep w wr [plRow 40 2 encSet (.slice ao X.length co) X] := S.step hb
              clear hb
              have g0 : (0 : Int) ≤ (g : Int) := by omega
              have a0 : (0 : Int) ≤ (a : Int) := by omega
              by_cases hlg : g < e
              · have hgs : g < s.size := by omega
                have k1 : (g : Int) < (e : Int) := by omega
                have k2 : (g : Int) < (s.size : Int) := by omega
                by_cases h61 : s[g] = 61
                · have HA : Hid (AtS s a g e) := Lib.hid ⟨hlt, hag, hge, hes, Hno.out, HisE.out, Hng.out, .inr ⟨hgs, h61⟩⟩
                  have tb61 : ((s[g].toNat : Int) != 61) = false := by rw [h61]; rfl
                  have teq : ((g : Int) == (e : Int)) = false := by simp; omega
                  have hwg : IntKind.i64.wrap ((g : Int) + 1) = ((g + 1 : Nat) : Int) := by rw [show ((g : Int) + 1) = ((g + 1 : Nat) : Int) by push_cast; rfl]; exact IntWalk.i64_in _ (by omega)
                  have k3 : (a : Int) ≤ (g : Int) := by omega
                  have k4 : (g : Int) ≤ (s.size : Int) := by omega
                  have k5 : ((g + 1 : Nat) : Int) ≤ (e : Int) := by omega
                  have k6 : (e : Int) ≤ (s.size : Int) := by omega
                  have k7 : (0 : Int) ≤ ((g + 1 : Nat) : Int) := by omega
                  have hin := S.row 0 rfl
                  have hbs : w.heap.size ≤ wr.heap.size := S.chg.size
                  have hob : ∀ b, (Value.slice ao X.length co).ownBlock = some b → b < wr.heap.size := fun b h => (World.ownsRow.lt hin b h).2
                  clear h61
                  go_upto_region 12 with fail
                  refine wp_region_c (V := V12 s a g e ao X.length co X w.heap.size wr.heap.size) (Chg (fun b => (Value.slice ao X.length co).ownBlock = some b) (World.drew wr)) (fun i => if i = 13 then some 12 else none) [] 13 1 rfl (by decide) (by kernel_rfl) (by kernel_rfl) (by kernel_rfl) (by kernel_rfl) (Chg.refl _ _) (fun r hr => match r, hr with | 0, _ => ownsRow_ext hin (Ext.refl _).drew) ?_ ?_
                  · intro i o hi ho vz w4 hvl hI hd hrest
                    have hsz : wr.heap.size ≤ w4.heap.size := hI.size
                    match vz, hvl with
                    | [y0, y1, y2, y3, y4, y5, y6, y7, y8, y9, y10, y11, y12], _ =>
                    rcases (show i = 0 ∨ i = 1 ∨ i = 2 ∨ i = 3 ∨ i = 4 ∨ i = 5 ∨ i = 6 ∨ i = 7 ∨ i = 8 ∨ i = 9 ∨ i = 10 ∨ i = 11 ∨ i = 12 by omega) with rfl | rfl | rfl | rfl | rfl | rfl | rfl | rfl | rfl | rfl | rfl | rfl | rfl
                    all_goals
                      simp only [List.getElem?_cons_zero, List.getElem?_cons_succ, Option.some.injEq] at ho
                      subst ho
                    · clear hd hrest
                      simp [putAll, Act.put]
                      go_wp2
                      exact OneC.mk (V := V12 s a g e ao X.length co X w.heap.size wr.heap.size) V12.ext rfl rfl hI (Ext.refl _)
                    · clear hd hrest
                      simp [putAll, Act.put]
                      go_wp2
                      exact OneC.mk (V := V12 s a g e ao X.length co X w.heap.size wr.heap.size) V12.ext rfl rfl hI (Ext.refl _)
                    · clear hd hrest
                      simp [putAll, Act.put]
                      go_wp2
                      exact OneC.mk (V := V12 s a g e ao X.length co X w.heap.size wr.heap.size) V12.ext rfl rfl hI (Ext.refl _)
                    · clear hd hrest
                      simp [putAll, Act.put]
                      go_wp2
                      exact OneC.mk (V := V12 s a g e ao X.length co X w.heap.size wr.heap.size) V12.ext rfl rfl hI (Ext.refl _)
                    · have q1 : y1 = .string s := hd ⟨1, .data⟩ (by simp) rfl (by decide)
                      have q2 : y2 = .int .i64 (a : Int) := hd ⟨2, .data⟩ (by simp) rfl (by decide)
                      have q3 : y3 = .int .i64 (g : Int) := hd ⟨3, .data⟩ (by simp) rfl (by decide)
                      subst q1 q2 q3
                      clear hd hrest
                      simp [putAll, Act.put]
                      go_wp2
                      exact OneC.mk (V := V12 s a g e ao X.length co X w.heap.size wr.heap.size) V12.ext rfl rfl hI (Ext.refl _)
                    · clear hd hrest
                      simp [putAll, Act.put]
                      go_wp2
                      exact OneC.mk (V := V12 s a g e ao X.length co X w.heap.size wr.heap.size) V12.ext rfl rfl hI (Ext.refl _)
                    · clear hd hrest
                      simp [putAll, Act.put]
                      go_wp2
                      exact OneC.mk (V := V12 s a g e ao X.length co X w.heap.size wr.heap.size) V12.ext rfl rfl hI (Ext.refl _)
                    · have q6 : y6 = .int .i64 (g : Int) := hd ⟨6, .data⟩ (by simp) rfl (by decide)
                      subst q6
                      clear hd hrest
                      simp [putAll, Act.put]
                      go_wp2
                      exact OneC.mk (V := V12 s a g e ao X.length co X w.heap.size wr.heap.size) V12.ext rfl (show Value.int .i64 _ = Value.int .i64 ((g + 1 : Nat) : Int) by first | rfl | (congr 1; done) | (congr 1; push_cast; rfl) | (congr 1; exact hwg)) hI (Ext.refl _)
                    · clear hd hrest
                      simp [putAll, Act.put]
                      go_wp2
                      exact OneC.mk (V := V12 s a g e ao X.length co X w.heap.size wr.heap.size) V12.ext rfl rfl hI (Ext.refl _)
                    · have q5 : y5 = .string s := hd ⟨5, .data⟩ (by simp) rfl (by decide)
                      have q7 : y7 = .int .i64 ((g + 1 : Nat) : Int) := hd ⟨7, .data⟩ (by simp) rfl (by decide)
                      have q8 : y8 = .int .i64 (e : Int) := hd ⟨8, .data⟩ (by simp) rfl (by decide)
                      subst q5 q7 q8
                      clear hd hrest
                      simp [putAll, Act.put]
                      go_wp2
                      exact OneC.mk (V := V12 s a g e ao X.length co X w.heap.size wr.heap.size) V12.ext rfl rfl hI (Ext.refl _)
                    · have q4 : y4 = .string (s.extract a g) := hd ⟨4, .data⟩ (by simp) rfl (by decide)
                      have q9 : y9 = .string (s.extract (g + 1) e) := hd ⟨9, .data⟩ (by simp) rfl (by decide)
                      subst q4 q9
                      clear hd hrest
                      simp [putAll, Act.put]
                      go_wp2
                      exact OneC.mk (V := V12 s a g e ao X.length co X w.heap.size wr.heap.size) V12.ext rfl rfl hI (Ext.refl _)
                    · have q10 : y10 = .agg #[.string (s.extract a g), .string (s.extract (g + 1) e)] := hd ⟨10, .data⟩ (by simp) rfl (by decide)
                      subst q10
                      clear hd hrest
                      simp [putAll, Act.put]
                      go_wp2
                      exact OneC.mk (V := V12 s a g e ao X.length co X w.heap.size wr.heap.size) V12.ext rfl ⟨_, rfl, hsz, heap_alloc_new w4 _⟩ (hI.trans (Chg.of_ext ((Ext.refl w4).alloc _))) ((Ext.refl _).alloc _)
                    · have q0 : .slice ao X.length co = y0 := (show y0 = .slice ao X.length co from hd ⟨0, .data⟩ (by simp) rfl (by decide)).symm
                      obtain ⟨g9, q11, hg1, hg2⟩ : ∃ g9, y11 = .slice (some ⟨g9, 0, none⟩) 1 1 ∧ wr.heap.size ≤ g9 ∧ w4.heap[g9]? = some (.cells #[.string (s.extract a g), .string (s.extract (g + 1) e)] 40) := hd ⟨11, .data⟩ (by simp) rfl (by decide)
                      have hrow : w4.ownsRow w.heap.size 40 2 (.slice ao X.length co) X.length (X.flatMap encSet) := hrest 0 (by omega) (.inr rfl)
                      have hrd : Rd 2 encSet w4 (some ⟨g9, 0, none⟩) [(⟨s.extract a g, s.extract (g + 1) e⟩ : Set)] := rd_lit [(⟨s.extract a g, s.extract (g + 1) e⟩ : Set)] encSet_len hg2 rfl
                      subst q0 q11
                      clear hd hrest
                      simp [putAll, Act.put]
                      refine wpList_append_b rfl _ _ 23 rfl w.heap.size 40 _ 2 _ Tryd.underlying23 infoSet rfl (by decide) encSet_len encSet_one _ X.length X rfl hrow rfl (some ⟨g9, 0, none⟩) 1 1 [(⟨s.extract a g, s.extract (g + 1) e⟩ : Set)] rfl rfl hrd (by omega) (by omega) (by omega) ?_
                      intro v5 w5 ho5 hgr hblk
                      have hch : Chg (fun b => (Value.slice ao X.length co).ownBlock = some b) w4 w5 := Chg.of_grown hgr
                      have hnB : ∀ b, wr.heap.size ≤ b → ¬ (Value.slice ao X.length co).ownBlock = some b := fun b h1 h2 => by
                        have := hob b h2
                        omega
                      clear hrow hrd hgr
                      go_wp2
                      refine ⟨rfl, _, rfl, ⟨ho5, fun b hb => (hblk b hb).imp id (fun h => by omega)⟩, hI.trans hch, fun i u hi hne hcon hnd hnc hv => ?_⟩
                      match i with
                      | 0 | 1 | 2 | 3 | 4 | 5 | 6 | 7 | 8 | 9 | 10 => exact hv
                      | 11 => obtain ⟨g1, h1, h2, h3⟩ := hv; exact ⟨g1, h1, h2, heap_chg' h3 hch (hnB g1 h2)⟩
                      | 12 => exact absurd rfl hne
                      | 13 => exact absurd rfl hcon
                      | (n + 14) => trivial
                  intro vz w11 hvl hI hV _
                  match vz, hvl with
                  | [y0, y1, y2, y3, y4, y5, y6, y7, y8, y9, y10, y11, y12], _ =>
                  obtain ⟨e12, e12b⟩ : w11.ownsRow w.heap.size 40 2 y12 (X ++ [(⟨s.extract a g, s.extract (g + 1) e⟩ : Set)]).length ((X ++ [(⟨s.extract a g, s.extract (g + 1) e⟩ : Set)]).flatMap encSet) ∧ ∀ b, y12.ownBlock = some b → (Value.slice ao X.length co).ownBlock = some b ∨ wr.heap.size ≤ b := hV 12 (by omega) rfl
                  clear hV
                  obtain ⟨X2, hX2⟩ : ∃ X2, X2 = X ++ [(⟨s.extract a g, s.extract (g + 1) e⟩ : Set)] := ⟨_, rfl⟩
                  rw [← hX2] at e12
                  have HX2 := Lib.hid hX2
                  have hX2l : X2.length = X.length + 1 := by rw [hX2]; simp
                  have HX2l := Lib.hid hX2l
                  clear hX2 hX2l
                  obtain ⟨a8, c8, hv8, hk8, _, _⟩ := view_owns encSet_len e12
                  subst hv8
                  simp only [putAll, Act.put, List.take_succ_cons, List.take_zero, List.drop_succ_cons, List.drop_zero]
                  simp
                  have S2 : Sep w w11 [plRow 40 2 encSet (.slice a8 X2.length c8) X2] := (S.drew).put 0 rfl (q := plRow 40 2 encSet (.slice a8 X2.length c8) X2) hI (ownsRow_base e12 (Nat.zero_le _)) e12b
                  have HIn : Hid (InvS s.data.toList (e + 1) X2) := Lib.hid (by rw [HX2.out]; exact invS_step HI.out HA.out hlg)
                  have HFn : Hid (FitsS X2) := Lib.hid (by
                    rw [HX2.out]
                    intro y hy
                    rcases List.mem_append.1 hy with hy | hy
                    · exact Hfx.out y hy
                    · rw [List.mem_singleton.1 hy]
                      have h1 : (s.extract a g).size ≤ s.size := by simp [ByteArray.size_extract]; omega
                      have h2 : (s.extract (g + 1) e).size ≤ s.size := by simp [ByteArray.size_extract]; omega
                      exact ⟨by show (s.extract a g).size ≤ _; omega, by show (s.extract (g + 1) e).size ≤ _; omega⟩)
                  clear S hI e12 e12b hin hob
                  go_wp2
                  go_roundw
                  case rel => exact ⟨e + 1, a8, c8, X2, by omega, by go_num, rfl, HIn.out, by have := HX2l.out; omega, HFn.out, S2⟩
                  case measure => simp [intOf]; omega
                · have tb61 : ((s[g].toNat : Int) != 61) = true := by
                    simp only [bne_iff_ne, ne_eq]
                    exact fun h => h61 (byte_is (n := 61) (by omega) h)
                  have HN : Hid (∀ j, a ≤ j → j < g + 1 → ∀ h : j < s.size, s[j] ≠ 61) := Lib.hid (fun j h1 h2 h3 => by
                    rcases Nat.lt_succ_iff_lt_or_eq.1 h2 with h4 | rfl
                    · exact Hng.out j h1 h4 h3
                    · exact h61)
                  clear h61
                  go_wp2
                  go_roundw
                  case rel => exact ⟨g + 1, by omega, by omega, by go_num, HN.out, hb0⟩
                  case measure => simp [intOf]; omega
              · obtain rfl : g = e := by omega
                have hnge : ¬ (g : Int) < (g : Int) := by omega
                have HA : Hid (AtS s a g g) := Lib.hid ⟨hlt, hag, Nat.le_refl _, hes, Hno.out, HisE.out, Hng.out, .inl rfl⟩
                have HR : Hid (ReadSR s [] false) := Lib.hid (.inr ⟨rfl, rfl, invS_none HI.out HA.out⟩)
                replace S : Sep w wr [] := S.drop 0
                replace S : Sep w (wr.alloc (.cells #[] 40)) [plRow 40 2 encSet (.slice (some ⟨wr.heap.size, 0, none⟩) 0 0) []] := S.lit0 (by simp) _ _ _
                go_wp2
                go_ret2
                first | exact ⟨_, [], false, rfl, HR.out, S⟩ | exact ⟨_, [], .inl ⟨rfl, HR.out, S⟩⟩
          · have j1 : (e : Int) < (s.size : Int) := by omega
            replace tbe := tbe hpart
            go_wp2
            go_loopw [7] (fun i wx => ∃ g : Nat, a ≤ g ∧ g ≤ e ∧ i = .int .i64 g ∧ (∀ j, a ≤ j → j < g → ∀ h : j < s.size, s[j] ≠ 61) ∧ Ext wr wx) (fun i _ => e - (intOf i).toNat)
            case atStart => exact ⟨a, Nat.le_refl _, hae, rfl, fun j h1 h2 => by omega, Ext.refl _⟩
            case round =>
              clear hb0
              obtain ⟨g, hag, hge, rfl, hno, hb⟩ := hrel
              have Hng := Lib.hid hno
              have hb0 := hb
              clear hno
              replace S : Sep w wr [plRow 40 2 encSet (.slice ao X.length co) X] := S.step hb
              clear hb
              have g0 : (0 : Int) ≤ (g : Int) := by omega
              have a0 : (0 : Int) ≤ (a : Int) := by omega
              by_cases hlg : g < e
              · have hgs : g < s.size := by omega
                have k1 : (g : Int) < (e : Int) := by omega
                have k2 : (g : Int) < (s.size : Int) := by omega
                by_cases h61 : s[g] = 61
                · have HA : Hid (AtS s a g e) := Lib.hid ⟨hlt, hag, hge, hes, Hno.out, HisE.out, Hng.out, .inr ⟨hgs, h61⟩⟩
                  have tb61 : ((s[g].toNat : Int) != 61) = false := by rw [h61]; rfl
                  have teq : ((g : Int) == (e : Int)) = false := by simp; omega
                  have hwg : IntKind.i64.wrap ((g : Int) + 1) = ((g + 1 : Nat) : Int) := by rw [show ((g : Int) + 1) = ((g + 1 : Nat) : Int) by push_cast; rfl]; exact IntWalk.i64_in _ (by omega)
                  have k3 : (a : Int) ≤ (g : Int) := by omega
                  have k4 : (g : Int) ≤ (s.size : Int) := by omega
                  have k5 : ((g + 1 : Nat) : Int) ≤ (e : Int) := by omega
                  have k6 : (e : Int) ≤ (s.size : Int) := by omega
                  have k7 : (0 : Int) ≤ ((g + 1 : Nat) : Int) := by omega
                  have hin := S.row 0 rfl
                  have hbs : w.heap.size ≤ wr.heap.size := S.chg.size
                  have hob : ∀ b, (Value.slice ao X.length co).ownBlock = some b → b < wr.heap.size := fun b h => (World.ownsRow.lt hin b h).2
                  clear h61
                  go_upto_region 12 with fail
                  refine wp_region_c (V := V12 s a g e ao X.length co X w.heap.size wr.heap.size) (Chg (fun b => (Value.slice ao X.length co).ownBlock = some b) (World.drew wr)) (fun i => if i = 13 then some 12 else none) [] 13 1 rfl (by decide) (by kernel_rfl) (by kernel_rfl) (by kernel_rfl) (by kernel_rfl) (Chg.refl _ _) (fun r hr => match r, hr with | 0, _ => ownsRow_ext hin (Ext.refl _).drew) ?_ ?_
                  · intro i o hi ho vz w4 hvl hI hd hrest
                    have hsz : wr.heap.size ≤ w4.heap.size := hI.size
                    match vz, hvl with
                    | [y0, y1, y2, y3, y4, y5, y6, y7, y8, y9, y10, y11, y12], _ =>
                    rcases (show i = 0 ∨ i = 1 ∨ i = 2 ∨ i = 3 ∨ i = 4 ∨ i = 5 ∨ i = 6 ∨ i = 7 ∨ i = 8 ∨ i = 9 ∨ i = 10 ∨ i = 11 ∨ i = 12 by omega) with rfl | rfl | rfl | rfl | rfl | rfl | rfl | rfl | rfl | rfl | rfl | rfl | rfl
                    all_goals
                      simp only [List.getElem?_cons_zero, List.getElem?_cons_succ, Option.some.injEq] at ho
                      subst ho
                    · clear hd hrest
                      simp [putAll, Act.put]
                      go_wp2
                      exact OneC.mk (V := V12 s a g e ao X.length co X w.heap.size wr.heap.size) V12.ext rfl rfl hI (Ext.refl _)
                    · clear hd hrest
                      simp [putAll, Act.put]
                      go_wp2
                      exact OneC.mk (V := V12 s a g e ao X.length co X w.heap.size wr.heap.size) V12.ext rfl rfl hI (Ext.refl _)
                    · clear hd hrest
                      simp [putAll, Act.put]
                      go_wp2
                      exact OneC.mk (V := V12 s a g e ao X.length co X w.heap.size wr.heap.size) V12.ext rfl rfl hI (Ext.refl _)
                    · clear hd hrest
                      simp [putAll, Act.put]
                      go_wp2
                      exact OneC.mk (V := V12 s a g e ao X.length co X w.heap.size wr.heap.size) V12.ext rfl rfl hI (Ext.refl _)
                    · have q1 : y1 = .string s := hd ⟨1, .data⟩ (by simp) rfl (by decide)
                      have q2 : y2 = .int .i64 (a : Int) := hd ⟨2, .data⟩ (by simp) rfl (by decide)
                      have q3 : y3 = .int .i64 (g : Int) := hd ⟨3, .data⟩ (by simp) rfl (by decide)
                      subst q1 q2 q3
                      clear hd hrest
                      simp [putAll, Act.put]
                      go_wp2
                      exact OneC.mk (V := V12 s a g e ao X.length co X w.heap.size wr.heap.size) V12.ext rfl rfl hI (Ext.refl _)
                    · clear hd hrest
                      simp [putAll, Act.put]
                      go_wp2
                      exact OneC.mk (V := V12 s a g e ao X.length co X w.heap.size wr.heap.size) V12.ext rfl rfl hI (Ext.refl _)
                    · clear hd hrest
                      simp [putAll, Act.put]
                      go_wp2
                      exact OneC.mk (V := V12 s a g e ao X.length co X w.heap.size wr.heap.size) V12.ext rfl rfl hI (Ext.refl _)
                    · have q6 : y6 = .int .i64 (g : Int) := hd ⟨6, .data⟩ (by simp) rfl (by decide)
                      subst q6
                      clear hd hrest
                      simp [putAll, Act.put]
                      go_wp2
                      exact OneC.mk (V := V12 s a g e ao X.length co X w.heap.size wr.heap.size) V12.ext rfl (show Value.int .i64 _ = Value.int .i64 ((g + 1 : Nat) : Int) by first | rfl | (congr 1; done) | (congr 1; push_cast; rfl) | (congr 1; exact hwg)) hI (Ext.refl _)
                    · clear hd hrest
                      simp [putAll, Act.put]
                      go_wp2
                      exact OneC.mk (V := V12 s a g e ao X.length co X w.heap.size wr.heap.size) V12.ext rfl rfl hI (Ext.refl _)
                    · have q5 : y5 = .string s := hd ⟨5, .data⟩ (by simp) rfl (by decide)
                      have q7 : y7 = .int .i64 ((g + 1 : Nat) : Int) := hd ⟨7, .data⟩ (by simp) rfl (by decide)
                      have q8 : y8 = .int .i64 (e : Int) := hd ⟨8, .data⟩ (by simp) rfl (by decide)
                      subst q5 q7 q8
                      clear hd hrest
                      simp [putAll, Act.put]
                      go_wp2
                      exact OneC.mk (V := V12 s a g e ao X.length co X w.heap.size wr.heap.size) V12.ext rfl rfl hI (Ext.refl _)
                    · have q4 : y4 = .string (s.extract a g) := hd ⟨4, .data⟩ (by simp) rfl (by decide)
                      have q9 : y9 = .string (s.extract (g + 1) e) := hd ⟨9, .data⟩ (by simp) rfl (by decide)
                      subst q4 q9
                      clear hd hrest
                      simp [putAll, Act.put]
                      go_wp2
                      exact OneC.mk (V := V12 s a g e ao X.length co X w.heap.size wr.heap.size) V12.ext rfl rfl hI (Ext.refl _)
                    · have q10 : y10 = .agg #[.string (s.extract a g), .string (s.extract (g + 1) e)] := hd ⟨10, .data⟩ (by simp) rfl (by decide)
                      subst q10
                      clear hd hrest
                      simp [putAll, Act.put]
                      go_wp2
                      exact OneC.mk (V := V12 s a g e ao X.length co X w.heap.size wr.heap.size) V12.ext rfl ⟨_, rfl, hsz, heap_alloc_new w4 _⟩ (hI.trans (Chg.of_ext ((Ext.refl w4).alloc _))) ((Ext.refl _).alloc _)
                    · have q0 : .slice ao X.length co = y0 := (show y0 = .slice ao X.length co from hd ⟨0, .data⟩ (by simp) rfl (by decide)).symm
                      obtain ⟨g9, q11, hg1, hg2⟩ : ∃ g9, y11 = .slice (some ⟨g9, 0, none⟩) 1 1 ∧ wr.heap.size ≤ g9 ∧ w4.heap[g9]? = some (.cells #[.string (s.extract a g), .string (s.extract (g + 1) e)] 40) := hd ⟨11, .data⟩ (by simp) rfl (by decide)
                      have hrow : w4.ownsRow w.heap.size 40 2 (.slice ao X.length co) X.length (X.flatMap encSet) := hrest 0 (by omega) (.inr rfl)
                      have hrd : Rd 2 encSet w4 (some ⟨g9, 0, none⟩) [(⟨s.extract a g, s.extract (g + 1) e⟩ : Set)] := rd_lit [(⟨s.extract a g, s.extract (g + 1) e⟩ : Set)] encSet_len hg2 rfl
                      subst q0 q11
                      clear hd hrest
                      simp [putAll, Act.put]
                      refine wpList_append_b rfl _ _ 23 rfl w.heap.size 40 _ 2 _ Tryd.underlying23 infoSet rfl (by decide) encSet_len encSet_one _ X.length X rfl hrow rfl (some ⟨g9, 0, none⟩) 1 1 [(⟨s.extract a g, s.extract (g + 1) e⟩ : Set)] rfl rfl hrd (by omega) (by omega) (by omega) ?_
                      intro v5 w5 ho5 hgr hblk
                      have hch : Chg (fun b => (Value.slice ao X.length co).ownBlock = some b) w4 w5 := Chg.of_grown hgr
                      have hnB : ∀ b, wr.heap.size ≤ b → ¬ (Value.slice ao X.length co).ownBlock = some b := fun b h1 h2 => by
                        have := hob b h2
                        omega
                      clear hrow hrd hgr
                      go_wp2
                      refine ⟨rfl, _, rfl, ⟨ho5, fun b hb => (hblk b hb).imp id (fun h => by omega)⟩, hI.trans hch, fun i u hi hne hcon hnd hnc hv => ?_⟩
                      match i with
                      | 0 | 1 | 2 | 3 | 4 | 5 | 6 | 7 | 8 | 9 | 10 => exact hv
                      | 11 => obtain ⟨g1, h1, h2, h3⟩ := hv; exact ⟨g1, h1, h2, heap_chg' h3 hch (hnB g1 h2)⟩
                      | 12 => exact absurd rfl hne
                      | 13 => exact absurd rfl hcon
                      | (n + 14) => trivial
                  intro vz w11 hvl hI hV _
                  match vz, hvl with
                  | [y0, y1, y2, y3, y4, y5, y6, y7, y8, y9, y10, y11, y12], _ =>
                  obtain ⟨e12, e12b⟩ : w11.ownsRow w.heap.size 40 2 y12 (X ++ [(⟨s.extract a g, s.extract (g + 1) e⟩ : Set)]).length ((X ++ [(⟨s.extract a g, s.extract (g + 1) e⟩ : Set)]).flatMap encSet) ∧ ∀ b, y12.ownBlock = some b → (Value.slice ao X.length co).ownBlock = some b ∨ wr.heap.size ≤ b := hV 12 (by omega) rfl
                  clear hV
                  obtain ⟨X2, hX2⟩ : ∃ X2, X2 = X ++ [(⟨s.extract a g, s.extract (g + 1) e⟩ : Set)] := ⟨_, rfl⟩
                  rw [← hX2] at e12
                  have HX2 := Lib.hid hX2
                  have hX2l : X2.length = X.length + 1 := by rw [hX2]; simp
                  have HX2l := Lib.hid hX2l
                  clear hX2 hX2l
                  obtain ⟨a8, c8, hv8, hk8, _, _⟩ := view_owns encSet_len e12
                  subst hv8
                  simp only [putAll, Act.put, List.take_succ_cons, List.take_zero, List.drop_succ_cons, List.drop_zero]
                  simp
                  have S2 : Sep w w11 [plRow 40 2 encSet (.slice a8 X2.length c8) X2] := (S.drew).put 0 rfl (q := plRow 40 2 encSet (.slice a8 X2.length c8) X2) hI (ownsRow_base e12 (Nat.zero_le _)) e12b
                  have HIn : Hid (InvS s.data.toList (e + 1) X2) := Lib.hid (by rw [HX2.out]; exact invS_step HI.out HA.out hlg)
                  have HFn : Hid (FitsS X2) := Lib.hid (by
                    rw [HX2.out]
                    intro y hy
                    rcases List.mem_append.1 hy with hy | hy
                    · exact Hfx.out y hy
                    · rw [List.mem_singleton.1 hy]
                      have h1 : (s.extract a g).size ≤ s.size := by simp [ByteArray.size_extract]; omega
                      have h2 : (s.extract (g + 1) e).size ≤ s.size := by simp [ByteArray.size_extract]; omega
                      exact ⟨by show (s.extract a g).size ≤ _; omega, by show (s.extract (g + 1) e).size ≤ _; omega⟩)
                  clear S hI e12 e12b hin hob
                  go_wp2
                  go_roundw
                  case rel => exact ⟨e + 1, a8, c8, X2, by omega, by go_num, rfl, HIn.out, by have := HX2l.out; omega, HFn.out, S2⟩
                  case measure => simp [intOf]; omega
                · have tb61 : ((s[g].toNat : Int) != 61) = true := by
                    simp only [bne_iff_ne, ne_eq]
                    exact fun h => h61 (byte_is (n := 61) (by omega) h)
                  have HN : Hid (∀ j, a ≤ j → j < g + 1 → ∀ h : j < s.size, s[j] ≠ 61) := Lib.hid (fun j h1 h2 h3 => by
                    rcases Nat.lt_succ_iff_lt_or_eq.1 h2 with h4 | rfl
                    · exact Hng.out j h1 h4 h3
                    · exact h61)
                  clear h61
                  go_wp2
                  go_roundw
                  case rel => exact ⟨g + 1, by omega, by omega, by go_num, HN.out, hb0⟩
                  case measure => simp [intOf]; omega
              · obtain rfl : g = e := by omega
                have hnge : ¬ (g : Int) < (g : Int) := by omega
                have HA : Hid (AtS s a g g) := Lib.hid ⟨hlt, hag, Nat.le_refl _, hes, Hno.out, HisE.out, Hng.out, .inl rfl⟩
                have HR : Hid (ReadSR s [] false) := Lib.hid (.inr ⟨rfl, rfl, invS_none HI.out HA.out⟩)
                replace S : Sep w wr [] := S.drop 0
                replace S : Sep w (wr.alloc (.cells #[] 40)) [plRow 40 2 encSet (.slice (some ⟨wr.heap.size, 0, none⟩) 0 0) []] := S.lit0 (by simp) _ _ _
                go_wp2
                go_ret2
                first | exact ⟨_, [], false, rfl, HR.out, S⟩ | exact ⟨_, [], .inl ⟨rfl, HR.out, S⟩⟩
end Go.Proofs.YtekmfphlccomaaaDoor
