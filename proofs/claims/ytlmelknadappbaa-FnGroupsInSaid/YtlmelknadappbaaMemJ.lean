/- JoinGroup: contracts of the program's and the reference's. Condition: lists of at most 2^20. -/
import Derived.Test.YtlmelknadappbaaMemN
import Derived.Deep.Cut
namespace Go.Proofs.Ytlmelknadappbaa
open Go.RowKit

/-- The group is the process's own, or one of its session. -/
def Found (l : List Mem) (x : Mem) (n g : Int) : Prop := g = n ∨ ∃ (j : Nat) (y : Mem), l[j]? = some y ∧ y.grp = g ∧ y.ses = x.ses
def Joins (l : List Mem) (n g : Int) (r : Int) (L : List Mem) : Prop := 0 ≤ r ∧ ∃ x, l[r.toNat]? = some x ∧ x.ses ≠ n ∧ Found l x n g ∧ L = l.set r.toNat ⟨x.num, g, x.ses⟩ ∧ MembersOk L
def JoinR (l : List Mem) (n g : Int) (L : List Mem) (ok : Bool) : Prop :=
  (¬ MembersOk l → L = [] ∧ ok = false) ∧
  (MembersOk l → ∃ r, FirstAt (fun x : Mem => x.num = n) l r ∧ ((ok = true ∧ Joins l n g r L) ∨ (ok = false ∧ L = l ∧ ∀ M, ¬ Joins l n g r M)))
theorem joinR_fun {l : List Mem} {n g : Int} {L L' : List Mem} {ok ok' : Bool} (h : JoinR l n g L ok) (h' : JoinR l n g L' ok') : L = L' ∧ ok = ok' := by
  by_cases hv : MembersOk l
  · obtain ⟨r, h1, h2⟩ := h.2 hv
    obtain ⟨r', k1, k2⟩ := h'.2 hv
    obtain rfl := first_unique h1 k1
    rcases h2 with ⟨e1, j1⟩ | ⟨e1, e2, n1⟩ <;> rcases k2 with ⟨f1, j2⟩ | ⟨f1, f2, n2⟩
    · obtain ⟨_, x, hx, _, _, hL, _⟩ := j1
      obtain ⟨_, y, hy, _, _, hM, _⟩ := j2
      rw [hx] at hy; cases hy
      exact ⟨hL.trans hM.symm, e1.trans f1.symm⟩
    · exact absurd j1 (n2 _)
    · exact absurd j2 (n1 _)
    · exact ⟨e2.trans f2.symm, e1.trans f1.symm⟩
  · exact ⟨(h.1 hv).1.trans (h'.1 hv).1.symm, (h.1 hv).2.trans (h'.1 hv).2.symm⟩
theorem joinR_len {l : List Mem} {n g : Int} {L : List Mem} {ok : Bool} (h : JoinR l n g L ok) (hl : l.length ≤ 1048576) : L.length ≤ 1048576 := by
  by_cases hv : MembersOk l
  · obtain ⟨r, h1, h2⟩ := h.2 hv
    rcases h2 with ⟨e1, _, x, _, _, _, hL, _⟩ | ⟨e1, e2, n1⟩
    · rw [hL, List.length_set]; exact hl
    · rw [e2]; exact hl
  · rw [(h.1 hv).1]; simp

/-- Found among the first k places. -/
def FoundK (l : List Mem) (x : Mem) (n g : Int) (k : Nat) : Prop := g = n ∨ ∃ (j : Nat) (y : Mem), j < k ∧ l[j]? = some y ∧ y.grp = g ∧ y.ses = x.ses
theorem foundK_step {l : List Mem} {x y : Mem} {n g : Int} {k : Nat} (hy : l[k]? = some y) : FoundK l x n g (k + 1) ↔ FoundK l x n g k ∨ (y.grp = g ∧ y.ses = x.ses) := by
  constructor
  · rintro (h | ⟨j, z, hj, hz, h⟩)
    · exact .inl (.inl h)
    · rcases Nat.lt_succ_iff_lt_or_eq.1 hj with h' | rfl
      · exact .inl (.inr ⟨j, z, h', hz, h⟩)
      · rw [hy] at hz; cases hz; exact .inr h
  · rintro ((h | ⟨j, z, hj, hz, h⟩) | h)
    · exact .inl h
    · exact .inr ⟨j, z, by omega, hz, h⟩
    · exact .inr ⟨k, y, by omega, hy, h⟩
theorem foundK_end {l : List Mem} {x : Mem} {n g : Int} {k : Nat} (hk : l.length ≤ k) : FoundK l x n g k ↔ Found l x n g := by
  constructor
  · rintro (h | ⟨j, z, hj, hz, h⟩)
    · exact .inl h
    · exact .inr ⟨j, z, hz, h⟩
  · rintro (h | ⟨j, z, hz, h⟩)
    · exact .inl h
    · exact .inr ⟨j, z, by have := (List.getElem?_eq_some_iff.1 hz).1; omega, hz, h⟩

set_option maxHeartbeats 4000000 in
theorem specJoinGroup (a : Option Addr) (cap : Nat) (l : List Mem) (n g : Int) (w : World) (hl : l.length ≤ 1048576) (hc : Rd 3 encMem w a l) :
    Calls Try.prog 22 #[.slice a l.length cap, .int .i64 n, .int .i64 g] w (RetSB 33 3 encMem (JoinR l n g) w) := by
  have hc0 := hc
  go_enter Try.func22, Try.ntmps22
  go_wp2_with fail
  refine (specMembersValid _ _ l _ (by omega) hc).mono ?_
  rintro e w1 ⟨v0, rfl, hv0, E⟩
  have Hv0 := Lib.hid hv0
  clear hv0
  cases v0 with
  | false =>
    go_wp2
    go_ret2
    have hno : ¬ MembersOk l := fun h => Bool.noConfusion (Hv0.out.2 h)
    exact RetSB.mk (L := []) rfl ⟨fun _ => ⟨rfl, rfl⟩, fun h => absurd h hno⟩ (owns_lit_new [] encMem_len rfl rfl (by omega) E.size) (E.alloc _)
  | true =>
    have hok := Hv0.out.1 rfl
    have Hok := Lib.hid hok
    clear hok Hv0
    go_wp2_with (at_builtin; refine wpList_append_lit rfl _ _ 25 rfl w.heap.size 33 _ 3 _ Try.underlying25 infoMem rfl (by decide) encMem_len encMem_one w1.heap.size rfl (heap_alloc_new _ _) E.size a l.length cap l rfl rfl ((hc.ext E).ext ((Ext.refl _).alloc _)) (by omega) (by omega) (by have := E.size; simp; omega) ?_)
    intro v' w2 hown hE2
    replace E := (E.alloc _).trans hE2
    clear hE2
    go_wp2_with fail
    refine (specPlace a _ l n _ (by omega) (hc0.ext E)).mono ?_
    rintro e w3 ⟨r, rfl, hr, hb3⟩
    have Hr := Lib.hid hr
    clear hr
    replace E := E.trans hb3
    replace hown := ownsRow_ext hown hb3
    clear hb3 hc
    by_cases h0 : r < 0
    · have Hj : Hid (JoinR l n g l false) := Lib.hid ⟨fun h => absurd Hok.out h, fun _ => ⟨r, Hr.out, .inr ⟨rfl, rfl, fun M h => by have := h.1; omega⟩⟩⟩
      go_wp2
      go_ret2
      exact RetSB.mk (L := l) rfl Hj.out hown E
    · have hr1 : r < l.length := Hr.out.2.1
      obtain ⟨m, rfl⟩ : ∃ m : Nat, r = m := ⟨r.toNat, by omega⟩
      have hm : m < l.length := by omega
      obtain ⟨x, b, off, hx, rfl, c0, c1, c2⟩ := atMem (hc0.ext E) hm
      have Hx := Lib.hid hx
      clear hx
      have i0 : (0 : Int) ≤ (m : Int) := by omega
      have i1 : (m : Int) < (l.length : Int) := by omega
      by_cases hs : x.ses = n
      · have Hj : Hid (JoinR l n g l false) := Lib.hid ⟨fun h => absurd Hok.out h, fun _ => ⟨m, Hr.out, .inr ⟨rfl, rfl, fun M h => by
          obtain ⟨_, y, hy, h2, _⟩ := h
          rw [Int.toNat_natCast, Hx.out] at hy; cases hy
          exact h2 hs⟩⟩⟩
        have ts : (x.ses == n) = true := by simpa using hs
        clear hs
        go_wp2
        go_ret2
        exact RetSB.mk (L := l) rfl Hj.out hown E
      · have ts : (x.ses == n) = false := by simpa using hs
        have Hs := Lib.hid hs
        clear hs
        have hrow := hc0.ext E
        go_wp2
        go_loopw [10, 11] (fun f i wr => ∃ (k : Nat) (bf : Bool), k ≤ l.length ∧ f = .bool bf ∧ i = .int .i64 k ∧ (bf = true ↔ FoundK l x n g k) ∧ Ext w3 wr) (fun _ i _ => l.length - (intOf i).toNat)
        case atStart => exact ⟨0, (g == n), Nat.zero_le _, rfl, rfl, by simp [FoundK], Ext.refl _⟩
        case round =>
          obtain ⟨k, bf, hk, rfl, rfl, hf, hb⟩ := hrel
          have Hf := Lib.hid hf
          clear hf
          by_cases hlt : k < l.length
          · obtain ⟨y, b2, off2, hy, hby, d0, d1, d2⟩ := atMem (hrow.ext hb) hlt
            obtain ⟨rfl, rfl⟩ : b = b2 ∧ off = off2 := by simpa using hby
            have Hy := Lib.hid hy
            have Hst := Lib.hid (foundK_step (x := x) (n := n) (g := g) hy)
            clear hy hby
            have q1 := ExtW.cell d1
            have q2 := ExtW.cell d2
            have m2 := ExtW.cell (cell_ext hb c2)
            have bl := ExtW.lt d0
            have k0 : (0 : Int) ≤ (k : Int) := by omega
            have k1 : (k : Int) < (l.length : Int) := by omega
            clear d0 d1 d2
            cases bf with
            | true =>
              have Hf1 := Lib.hid (Hf.out.1 rfl)
              clear Hf
              go_wp2_with fail
              (refine wp_region_quiet_ext (by kernel_rfl) (by kernel_rfl) ?_; (repeat (go_big_quiet_step (fail))); refine wpQuiet_nil ?_; intro _ hw'; obtain ⟨sq, hw''⟩ := hw'; subst hw'')
              obtain ⟨w4, hw4⟩ := sq
              go_wp2
              go_roundw
              case rel => exact ⟨k + 1, true, by omega, rfl, by go_num, ⟨fun _ => Hst.out.2 (.inl Hf1.out), fun _ => rfl⟩, hb.trans hw4⟩
              case measure => simp [intOf]; omega
            | false =>
              have Hf1 : Hid (¬ FoundK l x n g k) := Lib.hid (fun h => Bool.noConfusion (Hf.out.2 h))
              clear Hf
              by_cases hg : y.grp = g
              · by_cases hs : y.ses = x.ses
                · have tg : (y.grp == g) = true := by simpa using hg
                  have tt : (y.ses == x.ses) = true := by simpa using hs
                  have Hc := Lib.hid (And.intro hg hs)
                  clear hg hs
                  go_wp2_with fail
                  (refine wp_region_quiet_ext (by kernel_rfl) (by kernel_rfl) ?_; (repeat (go_big_quiet_step (fail))); refine wpQuiet_nil ?_; intro _ hw'; obtain ⟨sq, hw''⟩ := hw'; subst hw'')
                  obtain ⟨w4, hw4⟩ := sq
                  go_wp2
                  go_roundw
                  case rel => exact ⟨k + 1, true, by omega, by simp [tt], by go_num, ⟨fun _ => Hst.out.2 (.inr Hc.out), fun _ => rfl⟩, hb.trans hw4⟩
                  case measure => simp [intOf]; omega
                · have tg : (y.grp == g) = true := by simpa using hg
                  have tt : (y.ses == x.ses) = false := by simpa using hs
                  have Hc : Hid (¬ (y.grp = g ∧ y.ses = x.ses)) := Lib.hid (fun h => hs h.2)
                  clear hg hs
                  go_wp2_with fail
                  (refine wp_region_quiet_ext (by kernel_rfl) (by kernel_rfl) ?_; (repeat (go_big_quiet_step (fail))); refine wpQuiet_nil ?_; intro _ hw'; obtain ⟨sq, hw''⟩ := hw'; subst hw'')
                  obtain ⟨w4, hw4⟩ := sq
                  go_wp2
                  go_roundw
                  case rel => exact ⟨k + 1, false, by omega, by simp [tt], by go_num, ⟨fun h => Bool.noConfusion h, fun h => (Hst.out.1 h).elim (fun h => absurd h Hf1.out) (fun h => absurd h Hc.out)⟩, hb.trans hw4⟩
                  case measure => simp [intOf]; omega
              · have tg : (y.grp == g) = false := by simpa using hg
                have Hc : Hid (¬ (y.grp = g ∧ y.ses = x.ses)) := Lib.hid (fun h => hg h.1)
                clear hg
                go_wp2_with fail
                (refine wp_region_quiet_ext (by kernel_rfl) (by kernel_rfl) ?_; (repeat (go_big_quiet_step (fail))); refine wpQuiet_nil ?_; intro _ hw'; obtain ⟨sq, hw''⟩ := hw'; subst hw'')
                obtain ⟨w4, hw4⟩ := sq
                go_wp2
                go_roundw
                case rel => exact ⟨k + 1, false, by omega, rfl, by go_num, ⟨fun h => Bool.noConfusion h, fun h => (Hst.out.1 h).elim (fun h => absurd h Hf1.out) (fun h => absurd h Hc.out)⟩, hb.trans hw4⟩
                case measure => simp [intOf]; omega
          · have hkl : l.length ≤ k := by omega
            have Hf := Lib.hid (Hf.out.trans (foundK_end (x := x) (n := n) (g := g) hkl))
            clear hkl
            replace hown := ownsRow_ext hown hb
            replace E := E.trans hb
            have hrow2 := hrow.ext hb
            have Hxn := Lib.hid (show l[m] = x from by have h := Hx.out; rw [List.getElem?_eq_getElem hm] at h; simpa using h)
            rcases hown.2 with ⟨rfl, hz⟩ | ⟨gb, cap', cur, rfl, hbg, _⟩
            · exact absurd hz (by omega)
            · have f0 := hown.frozenAt
              have g1 := owns_at encMem_len hown m hm 1 _ rfl
              have o1 := owns_set encMem_len hown m 1 (.int .i64 g) ⟨l[m].num, g, l[m].ses⟩ hm (by omega) rfl
              rw [Hxn.out] at o1
              have E2 := E.setCell (p := ⟨gb, m * 3 + 1, none⟩) hbg (.int .i64 g)
              have hlen : (l.set m ⟨x.num, g, x.ses⟩).length = l.length := List.length_set ..
              have Ho1 := Lib.hid o1
              have HE2 := Lib.hid E2
              clear o1 E2
              have hno : bf = false → Hid (JoinR l n g l false) := fun hbf => Lib.hid ⟨fun h => absurd Hok.out h, fun _ => ⟨m, Hr.out, .inr ⟨rfl, rfl, fun M h => by
                obtain ⟨_, y, hy, _, h3, _⟩ := h
                rw [Int.toNat_natCast, Hx.out] at hy; cases hy
                have := Hf.out.2 h3
                rw [hbf] at this; cases this⟩⟩⟩
              have hcall := specMembersValid (some ⟨gb, 0, none⟩) cap' (l.set m ⟨x.num, g, x.ses⟩) (wr.setCell ⟨gb, m * 3 + 1, none⟩ (.int .i64 g)) (by omega) (rd_owns encMem_len Ho1.out hlen.symm)
              rw [hlen] at hcall
              go_upto_region 13 with fail
              generalize (wr.setCell ⟨gb, m * 3 + 1, none⟩ (.int .i64 g)) = w5 at *
              cases bf with
              | false =>
                have Hj := hno rfl
                clear hno Hf
                go_wp2_with (at_builtin; refine wpList_append_lit rfl _ _ 25 rfl w.heap.size 33 _ 3 _ Try.underlying25 infoMem rfl (by decide) encMem_len encMem_one w5.heap.size rfl (heap_alloc_new _ _) HE2.out.size _ l.length cap l rfl rfl ((hc0.ext HE2.out).ext ((Ext.refl _).alloc _)) (by omega) (by omega) (by have := HE2.out.size; simp; omega) ?_)
                intro v' w6 hown2 hE3
                go_wp2
                go_ret2
                exact RetSB.mk (L := l) rfl Hj.out hown2 ((HE2.out.alloc _).trans hE3)
              | true =>
                clear hno
                have Hf1 := Lib.hid (Hf.out.1 rfl)
                clear Hf
                have Hr2 : MembersOk (l.set m ⟨x.num, g, x.ses⟩) → Hid (JoinR l n g (l.set m ⟨x.num, g, x.ses⟩) true) := fun hv => Lib.hid ⟨fun h => absurd Hok.out h, fun _ => ⟨m, Hr.out, .inl ⟨rfl, by omega, x, by simpa using Hx.out, Hs.out, Hf1.out, by simp, hv⟩⟩⟩
                have Hr3 : ¬ MembersOk (l.set m ⟨x.num, g, x.ses⟩) → Hid (JoinR l n g l false) := fun hv => Lib.hid ⟨fun h => absurd Hok.out h, fun _ => ⟨m, Hr.out, .inr ⟨rfl, rfl, fun M h => by
                  obtain ⟨_, y, hy, _, _, hM, hok⟩ := h
                  rw [Int.toNat_natCast, Hx.out] at hy; cases hy
                  rw [hM] at hok
                  exact hv (by simpa using hok)⟩⟩⟩
                go_wp2_with fail
                refine hcall.mono ?_
                rintro e w6 ⟨v6, rfl, hv6, hE6⟩
                cases v6 with
                | true =>
                  have Hj := Hr2 (hv6.1 rfl)
                  clear Hr2 Hr3 hv6
                  have Ho6 := Lib.hid (ownsRow_ext Ho1.out hE6)
                  clear hcall
                  go_wp2
                  go_ret2
                  exact RetSB.mk (L := l.set m ⟨x.num, g, x.ses⟩) rfl Hj.out (by simpa using Ho6.out) (HE2.out.trans hE6)
                | false =>
                  have Hj := Hr3 (fun h => Bool.noConfusion (hv6.2 h))
                  clear Hr2 Hr3 hv6 hcall
                  have HE6 := Lib.hid (HE2.out.trans hE6)
                  go_wp2_with (at_builtin; refine wpList_append_lit rfl _ _ 25 rfl w.heap.size 33 _ 3 _ Try.underlying25 infoMem rfl (by decide) encMem_len encMem_one w6.heap.size rfl (heap_alloc_new _ _) HE6.out.size _ l.length cap l rfl rfl ((hc0.ext HE6.out).ext ((Ext.refl _).alloc _)) (by omega) (by omega) (by have := HE6.out.size; simp; omega) ?_)
                  intro v' w7 hown2 hE3
                  go_wp2
                  go_ret2
                  exact RetSB.mk (L := l) rfl Hj.out hown2 ((HE6.out.alloc _).trans hE3)
end Go.Proofs.Ytlmelknadappbaa
