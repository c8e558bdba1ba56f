/- SetSetting: what it computes, and the contract of the program's. Condition: texts shorter than 2^63. -/
import Derived.Test.YtekmfphlccomaaaSetB
import Derived.Test.YtekmfphlccomaaaSetIns
import Derived.Test.YtekmfphlccomaaaSep
import Derived.Test.YtekmfphlccomaaaView
namespace Go.Proofs.Ytekmfphlccomaaa
open Go.RowKit

theorem posS_fun {l : List Set} {nm : ByteArray} {k k' : Nat} {b b' : Bool} (h : PosS l nm k b) (h' : PosS l nm k' b') : k = k' ∧ b = b' := by
  have hk : k = k' := by
    rcases Nat.lt_trichotomy k k' with c | c | c
    · have hkl : k < l.length := by have := h'.1; omega
      have hx : l[k]? = some l[k] := List.getElem?_eq_getElem hkl
      exact absurd (h'.2.1 k _ c hx) (h.2.2.1 k _ (Nat.le_refl _) hx)
    · exact c
    · have hkl : k' < l.length := by have := h.1; omega
      have hx : l[k']? = some l[k'] := List.getElem?_eq_getElem hkl
      exact absurd (h.2.1 k' _ c hx) (h'.2.2.1 k' _ (Nat.le_refl _) hx)
  subst hk
  refine ⟨rfl, ?_⟩
  have e : b = true ↔ b' = true := h.2.2.2.trans h'.2.2.2.symm
  cases b <;> cases b' <;> simp_all
def putS (l : List Set) (nm tx : ByteArray) (k : Nat) (b : Bool) : List Set := if b = true then l.set k ⟨nm, tx⟩ else l.take k ++ ⟨nm, tx⟩ :: l.drop k
theorem putS_fits {l : List Set} {nm tx : ByteArray} {k : Nat} {b : Bool} (h : SetsOk l) (hn : nm.size ≤ 9223372036854775807) (ht : tx.size ≤ 9223372036854775807) : FitsS (putS l nm tx k b) := by
  have h0 : ∀ x ∈ l, x.name.size ≤ 9223372036854775807 ∧ x.text.size ≤ 9223372036854775807 := fun x hx => by
    obtain ⟨j, hj⟩ := List.getElem?_of_mem hx
    have hok := (h.1 j (List.getElem?_eq_some_iff.1 hj).1 x hj).1
    have h1 : x.name.size ≤ 8 := hok.1.2.2
    have h2 : x.text.size ≤ 16 := hok.2.2
    exact ⟨by omega, by omega⟩
  intro x hx
  unfold putS at hx
  split at hx
  · rcases List.mem_or_eq_of_mem_set hx with hx | rfl
    · exact h0 x hx
    · exact ⟨hn, ht⟩
  · rcases List.mem_append.1 hx with hx | hx
    · exact h0 x (List.mem_of_mem_take hx)
    · rcases List.mem_cons.1 hx with rfl | hx
      · exact ⟨hn, ht⟩
      · exact h0 x (List.mem_of_mem_drop hx)
theorem putS_len {l : List Set} {nm tx : ByteArray} {k : Nat} {b : Bool} (hk : k ≤ l.length) : (putS l nm tx k b).length ≤ l.length + 1 := by
  unfold putS
  split
  · simp
  · simp; omega
def SetSR (l : List Set) (nm tx : ByteArray) (L : List Set) (ok : Bool) : Prop :=
  (¬ SetsOk l ∧ L = [] ∧ ok = false) ∨ (SetsOk l ∧ ∃ k b, PosS l nm k b ∧ ((SetsOk (putS l nm tx k b) ∧ L = putS l nm tx k b ∧ ok = true) ∨ (¬ SetsOk (putS l nm tx k b) ∧ L = l ∧ ok = false)))
theorem setSR_fun {l : List Set} {nm tx : ByteArray} {L L' : List Set} {ok ok' : Bool} (h : SetSR l nm tx L ok) (h' : SetSR l nm tx L' ok') : L = L' ∧ ok = ok' := by
  rcases h with ⟨h, rfl, rfl⟩ | ⟨h, k, b, hP, hc⟩ <;> rcases h' with ⟨h', rfl, rfl⟩ | ⟨h', k', b', hP', hc'⟩
  · exact ⟨rfl, rfl⟩
  · exact absurd h' h
  · exact absurd h h'
  · obtain ⟨rfl, rfl⟩ := posS_fun hP hP'
    rcases hc with ⟨c, rfl, rfl⟩ | ⟨c, rfl, rfl⟩ <;> rcases hc' with ⟨c', rfl, rfl⟩ | ⟨c', rfl, rfl⟩
    · exact ⟨rfl, rfl⟩
    · exact absurd c c'
    · exact absurd c' c
    · exact ⟨rfl, rfl⟩
theorem setSR_len {l : List Set} {nm tx : ByteArray} {L : List Set} {ok : Bool} (h : SetSR l nm tx L ok) : L.length ≤ 8 := by
  rcases h with ⟨_, rfl, _⟩ | ⟨h, k, b, hP, ⟨c, rfl, _⟩ | ⟨_, rfl, _⟩⟩
  · simp
  · exact c.2
  · exact h.2

set_option maxRecDepth 10000 in
set_option maxHeartbeats 8000000 in
theorem implSetSetting (a : Option Addr) (cap : Nat) (l : List Set) (nm tx : ByteArray) (w : World) (hl : l.length ≤ 9223372036854775807) (hs : FitsS l) (hn : nm.size ≤ 9223372036854775807) (ht : tx.size ≤ 9223372036854775807) (hc : Rd 2 encSet w a l) :
    Calls Try.prog 18 #[.slice a l.length cap, .string nm, .string tx] w fun e w' => ∃ u L ok, e = .returned (.tuple #[u, .bool ok]) ∧ SetSR l nm tx L ok ∧ Sep w w' [plRow 33 2 encSet u L] := by
  go_enter Try.func18, Try.ntmps18
  have S := Sep.start w
  go_wp2_with fail
  refine (implSettingsValid a cap l _ hl hs (hc.ext S.ext)).mono ?_
  rintro e w2 ⟨v0, rfl, hv0, hE⟩
  have Hv0 := Lib.hid hv0
  clear hv0
  replace S : Sep w w2 [] := S.step hE
  clear hE
  cases v0 with
  | false =>
    have HR : Hid (SetSR l nm tx [] false) := Lib.hid (.inl ⟨fun h => Bool.noConfusion (Hv0.out.2 h), rfl, rfl⟩)
    go_wp2
    go_ret2
    exact ⟨_, [], false, rfl, HR.out, S.nil _ _ _⟩
  | true =>
    have HV := Lib.hid (Hv0.out.1 rfl)
    have hl8 : l.length ≤ 8 := HV.out.2
    clear Hv0
    go_wp2_with fail
    refine (cloneSet_any a cap l w2 (by omega) (hc.ext S.ext)).mono ?_
    rintro e w3 ⟨u3, rfl, ho, hE⟩
    obtain ⟨a3, c3, hv3, _, _, hsh⟩ := view_owns encSet_len ho
    subst hv3
    have T := Sep.of_owns hE ho
    clear ho hE
    replace S : Sep w w3 [plRow 33 2 encSet (.slice a3 l.length c3) l] := S.call T
    clear T
    go_wp2_with fail
    refine (bsearch_any a3 c3 l nm w3 HV.out (S.rd 0 encSet_len rfl rfl)).mono ?_
    rintro e w4 ⟨k, b, rfl, hP, hE⟩
    have HP := Lib.hid hP
    have hkl : k ≤ l.length := hP.1
    clear hP
    replace S : Sep w w4 [plRow 33 2 encSet (.slice a3 l.length c3) l] := S.step hE
    clear hE
    have Hput : ∀ L ok, ((SetsOk (putS l nm tx k b) ∧ L = putS l nm tx k b ∧ ok = true) ∨ (¬ SetsOk (putS l nm tx k b) ∧ L = l ∧ ok = false)) → Hid (SetSR l nm tx L ok) := fun L ok h => Lib.hid (.inr ⟨HV.out, k, b, HP.out, h⟩)
    have Hfit : Hid (FitsS (putS l nm tx k b)) := Lib.hid (putS_fits HV.out hn ht)
    have hpl := putS_len (l := l) (nm := nm) (tx := tx) (b := b) hkl
    cases b with
    | true =>
      obtain ⟨x, hx, hxn⟩ := HP.out.2.2.2.1 rfl
      have hklt : k < l.length := (List.getElem?_eq_some_iff.1 hx).1
      obtain ⟨g, rfl⟩ : ∃ g, a3 = some ⟨g, 0, none⟩ := by
        rcases hsh with ⟨_, h, _⟩ | ⟨g, h, _⟩
        · rw [h] at hklt; simp at hklt
        · exact ⟨g, h⟩
      have hxe : l[k] = x := by
        have := List.getElem?_eq_getElem hklt
        rw [hx] at this; exact (Option.some.inj this).symm
      have S2 := S.rowSet 0 encSet_len rfl rfl k 1 (.string tx) ⟨nm, tx⟩ hklt (by omega) (by rw [hxe]; simp [encSet, hxn])
      rw [show l.set k ⟨nm, tx⟩ = putS l nm tx k true from rfl] at S2
      obtain ⟨M, hM⟩ : ∃ M, M = putS l nm tx k true := ⟨_, rfl⟩
      rw [← hM] at S2 Hput Hfit hpl
      have hMl : M.length = l.length := by rw [hM]; simp [putS]
      have HMl := Lib.hid hMl
      obtain ⟨hcs, hfz⟩ := owns_there (S.row 0 rfl) (k * 2 + 1) (by omega)
      obtain ⟨v9, hv9⟩ := Option.isSome_iff_exists.1 hcs
      have i0 : (0 : Int) ≤ (k : Int) := by omega
      have i1 : (k : Int) < (l.length : Int) := by omega
      clear hM hMl hx hxn hxe hsh hcs
      go_upto_region 8 with fail
      clear S hv9 hfz
      generalize (w4.setCell ⟨g, k * 2 + 1, none⟩ (.string tx)) = w5 at *
      have S := S2
      clear S2
      go_wp2_with fail
      have hcall := implSettingsValid (some ⟨g, 0, none⟩) c3 M w5 (by omega) Hfit.out (S.rd 0 encSet_len rfl HMl.out.symm)
      rw [HMl.out] at hcall
      refine hcall.mono ?_
      clear hcall
      rintro e w6 ⟨v1, rfl, hv1, hE⟩
      have Hv1 := Lib.hid hv1
      clear hv1
      replace S : Sep w w6 [plRow 33 2 encSet (.slice (some ⟨g, 0, none⟩) l.length c3) M] := S.step hE
      clear hE
      cases v1 with
      | false =>
        have HR := Hput l false (.inr ⟨fun h => Bool.noConfusion (Hv1.out.2 h), rfl, rfl⟩)
        clear Hput
        replace S : Sep w w6 [] := S.drop 0
        go_wp2_with fail
        refine (cloneSet_any a cap l w6 (by omega) (hc.ext S.ext)).mono ?_
        rintro e w7 ⟨u7, rfl, ho, hE⟩
        have T := Sep.of_owns hE ho
        clear ho hE
        replace S : Sep w w7 [plRow 33 2 encSet u7 l] := S.call T
        clear T
        go_wp2
        go_ret2
        exact ⟨_, l, false, rfl, HR.out, S⟩
      | true =>
        have HR := Hput M true (.inl ⟨Hv1.out.1 rfl, rfl, rfl⟩)
        clear Hput
        go_wp2
        go_ret2
        exact ⟨_, M, true, rfl, HR.out, S⟩
    | false =>
      have HA : Hid (∃ vb : Nat, vb = 0) := Lib.hid ⟨0, rfl⟩
      go_wp2_with fail
      replace S : Sep w (w4.alloc (.cells #[.string nm, .string tx] 33)) [plBox w4.heap.size #[.string nm, .string tx] 33, plRow 33 2 encSet (.slice a3 l.length c3) l] := S.alloc_at (by simp) _ _
      refine (insSet_any _ a3 c3 k w4.heap.size l ⟨nm, tx⟩ _ hkl (by omega) S.chg.size (S.row 1 rfl) (heap_alloc_new w4 _)).mono ?_
      rintro e w5 ⟨v5, rfl, ho, hgr, hblk⟩
      rw [show l.take k ++ ⟨nm, tx⟩ :: l.drop k = putS l nm tx k false from rfl] at ho
      obtain ⟨M, hM⟩ : ∃ M, M = putS l nm tx k false := ⟨_, rfl⟩
      rw [← hM] at ho Hput Hfit hpl
      obtain ⟨a5, c5, hv5, _, _, _⟩ := view_owns encSet_len ho
      subst hv5
      clear hM HA hsh
      replace S : Sep w w5 [plBox w4.heap.size #[.string nm, .string tx] 33, plRow 33 2 encSet (.slice a5 M.length c5) M] := S.grow 1 rfl hgr ho hblk
      replace S : Sep w w5 [plRow 33 2 encSet (.slice a5 M.length c5) M] := S.drop 0
      go_wp2_with fail
      refine (implSettingsValid _ _ M _ (by omega) Hfit.out (S.rd 0 encSet_len rfl rfl)).mono ?_
      rintro e w6 ⟨v1, rfl, hv1, hE⟩
      have Hv1 := Lib.hid hv1
      clear hv1
      replace S : Sep w w6 [plRow 33 2 encSet (.slice a5 M.length c5) M] := S.step hE
      clear hE
      cases v1 with
      | false =>
        have HR := Hput l false (.inr ⟨fun h => Bool.noConfusion (Hv1.out.2 h), rfl, rfl⟩)
        clear Hput
        replace S : Sep w w6 [] := S.drop 0
        go_wp2_with fail
        refine (cloneSet_any a cap l w6 (by omega) (hc.ext S.ext)).mono ?_
        rintro e w7 ⟨u7, rfl, ho, hE⟩
        have T := Sep.of_owns hE ho
        clear ho hE
        replace S : Sep w w7 [plRow 33 2 encSet u7 l] := S.call T
        clear T
        go_wp2
        go_ret2
        exact ⟨_, l, false, rfl, HR.out, S⟩
      | true =>
        have HR := Hput M true (.inl ⟨Hv1.out.1 rfl, rfl, rfl⟩)
        clear Hput
        go_wp2
        go_ret2
        exact ⟨_, M, true, rfl, HR.out, S⟩
end Go.Proofs.Ytekmfphlccomaaa
