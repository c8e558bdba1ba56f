/- GroupsIn: contracts of the program's and the reference's. Condition: lists of at most 2^20. -/
import Derived.Test.YtlmelknadappbaaMemG
import Derived.Test.YtlmelknadappbaaSep
import Derived.Test.YtlmelknadappbaaAppB
import Derived.Test.YtlmelknadappbaaView
import Derived.Deep.Cut
namespace Go.Proofs.Ytlmelknadappbaa
open Go.RowKit

set_option maxRecDepth 10000 in
set_option maxHeartbeats 8000000 in
theorem implGroupsIn (a : Option Addr) (cap : Nat) (l : List Mem) (s : Int) (w : World) (hl : l.length ≤ 1048576) (hcap : l.length ≤ cap) (hc : Rd 3 encMem w a l) :
    Calls Try.prog 28 #[.slice a l.length cap, .int .i64 s] w fun e w' => ∃ u L, e = .returned u ∧ GroupsR l s L ∧ Sep w w' [plRow 3 1 encInt1 u L] := by
  go_enter Try.func28, Try.ntmps28
  have S := Sep.start w
  replace S : Sep w (w.alloc (.cells #[] 3)) [plRow 3 1 encInt1 (.slice (some ⟨w.heap.size, 0, none⟩) 0 0) []] := S.lit0 (by simp) _ _ _
  go_wp2_with fail
  generalize (w.alloc (.cells #[] 3)) = w1 at *
  refine (implMembersValid a cap l _ (by omega) hcap (hc.ext S.ext)).mono ?_
  rintro e w2 ⟨v0, rfl, hv0, hE⟩
  have Hv0 := Lib.hid hv0
  clear hv0
  replace S : Sep w w2 [plRow 3 1 encInt1 (.slice (some ⟨w.heap.size, 0, none⟩) 0 0) []] := S.step hE
  clear hE
  cases v0 with
  | false =>
    have HR : Hid (GroupsR l s []) := Lib.hid ⟨fun _ => rfl, fun h => Bool.noConfusion (Hv0.out.2 h)⟩
    go_wp2
    go_ret
    exact ⟨_, [], rfl, HR.out, S⟩
  | true =>
    have HV := Lib.hid (Hv0.out.1 rfl)
    clear Hv0
    go_wp2
    go_loopw [5, 7, 15] (fun o _ i wr => ∃ (k g cq : Nat) (W : List Int), k ≤ l.length ∧ i = .int .i64 k ∧ o = .slice (some ⟨g, 0, none⟩) W.length cq ∧ W = grpsOf l s k ∧ Sep w wr [plRow 3 1 encInt1 (.slice (some ⟨g, 0, none⟩) W.length cq) W]) (fun _ _ i _ => l.length - (intOf i).toNat)
    case atStart => exact ⟨0, w.heap.size, 0, [], Nat.zero_le _, rfl, rfl, by simp [grpsOf], S⟩
    case round =>
      clear S
      obtain ⟨k, g, cq, W, hk, rfl, rfl, hW, S⟩ := hrel
      have HW := Lib.hid hW
      have hWl : W.length ≤ 1048576 := by rw [hW]; exact Nat.le_trans (grpsOf_len l s k) hl
      clear hW
      by_cases hlt : k < l.length
      · obtain ⟨x, p, off, hx, hpe, c0, c1, c2⟩ := atMem (hc.ext S.ext) hlt
        subst hpe
        have Hx := Lib.hid hx
        clear hx
        have i1 : (k : Int) < (l.length : Int) := by omega
        have i0 : (0 : Int) ≤ (k : Int) := by omega
        by_cases hs : x.ses = s
        · have ts : (x.ses == s) = true := by simpa using hs
          have HN : Hid (W ++ [x.grp] = grpsOf l s (k + 1)) := Lib.hid (by rw [HW.out, grpsOf_yes Hx.out hs])
          clear hs
          replace S : Sep w (wr.alloc (.cells #[.int .i64 x.num, .int .i64 x.grp, .int .i64 x.ses] 33)) [plBox wr.heap.size #[.int .i64 x.num, .int .i64 x.grp, .int .i64 x.ses] 33, plRow 3 1 encInt1 (.slice (some ⟨g, 0, none⟩) W.length cq) W] := S.alloc_at (by simp) _ _
          go_upto_region 8 with fail
          generalize (wr.alloc (.cells #[.int .i64 x.num, .int .i64 x.grp, .int .i64 x.ses] 33)) = w4 at *
          have SA := S.alloc #[.int .i64 x.grp] 3
          have rd1 : Rd 1 encInt1 (w4.alloc (.cells #[.int .i64 x.grp] 3)) (some ⟨w4.heap.size, 0, none⟩) [x.grp] := rd_lit_new [x.grp] encInt1_len rfl
          obtain ⟨rbc0, rbf0⟩ : w4.cell? ⟨wr.heap.size, 0, none⟩ = some (.int .i64 x.num) ∧ w4.frozen? ⟨wr.heap.size, 0, none⟩ = false := bx (S.box 0 rfl) 0 rfl
          obtain ⟨rbc1, rbf1⟩ : w4.cell? ⟨wr.heap.size, 1, none⟩ = some (.int .i64 x.grp) ∧ w4.frozen? ⟨wr.heap.size, 1, none⟩ = false := bx (S.box 0 rfl) 1 rfl
          obtain ⟨rbc2, rbf2⟩ : w4.cell? ⟨wr.heap.size, 2, none⟩ = some (.int .i64 x.ses) ∧ w4.frozen? ⟨wr.heap.size, 2, none⟩ = false := bx (S.box 0 rfl) 2 rfl
          go_wp2_with (at_builtin; refine Hid.out (?_ : Hid _))
          unfold Hid
          refine wpList_append_b rfl _ _ 45 rfl w.heap.size 3 _ 1 _ Try.underlying45 infoInt rfl (by decide) encInt1_len encInt1_one _ W.length W rfl (SA.row (1 + 1) rfl) rfl (some ⟨w4.heap.size, 0, none⟩) 1 1 [x.grp] rfl rfl rd1 (by omega) (by omega) SA.chg.size ?_
          intro v7 w7 ho hgr hblk
          obtain ⟨G, hG⟩ : ∃ G, G = W ++ [x.grp] := ⟨_, rfl⟩
          rw [← hG] at ho HN
          have hGn : G ≠ [] := by rw [hG]; simp
          obtain ⟨a7, c7, hv7, hk7, _, hsh⟩ := view_owns encInt1_len ho
          subst hv7
          obtain ⟨g7, rfl⟩ : ∃ g7, a7 = some ⟨g7, 0, none⟩ := by
            rcases hsh with ⟨_, h, _⟩ | ⟨g7, h, _⟩
            · exact absurd h hGn
            · exact ⟨g7, h⟩
          have SM := ((SA.grow (1 + 1) rfl hgr ho hblk).drop 0).drop 0
          clear rbc0 rbf0 rbc1 rbf1 rbc2 rbf2
          clear ho hgr hblk SA rd1 S hG hGn hsh
          go_wp2
          go_roundw
          case rel => exact ⟨k + 1, g7, c7, G, by omega, by go_num, rfl, HN.out, SM⟩
          case measure => simp [intOf]; omega
        · have ts : (x.ses == s) = false := by simpa using hs
          have HN : Hid (W = grpsOf l s (k + 1)) := Lib.hid (by rw [HW.out, grpsOf_no Hx.out hs])
          clear hs
          replace S : Sep w (wr.alloc (.cells #[.int .i64 x.num, .int .i64 x.grp, .int .i64 x.ses] 33)) [plBox wr.heap.size #[.int .i64 x.num, .int .i64 x.grp, .int .i64 x.ses] 33, plRow 3 1 encInt1 (.slice (some ⟨g, 0, none⟩) W.length cq) W] := S.alloc_at (by simp) _ _
          replace S : Sep w (wr.alloc (.cells #[.int .i64 x.num, .int .i64 x.grp, .int .i64 x.ses] 33)) [plRow 3 1 encInt1 (.slice (some ⟨g, 0, none⟩) W.length cq) W] := S.drop 0
          go_wp2
          go_roundw
          case rel => exact ⟨k + 1, g, cq, W, by omega, by go_num, rfl, HN.out, S⟩
          case measure => simp [intOf]; omega
      · obtain rfl : k = l.length := by omega
        have hni : ¬ (l.length : Int) < (l.length : Int) := by omega
        obtain ⟨V, hV⟩ : ∃ V, V = sorted W := ⟨_, rfl⟩
        have hVl : V.length = W.length := by rw [hV]; exact sorted_len W
        have HR : Hid (GroupsR l s (Lib.compact V)) := Lib.hid (by rw [hV, HW.out]; exact groupsR_impl HV.out s)
        have HVl := Lib.hid hVl
        go_wp2_with fail
        refine (sort_own w.heap.size g cq W wr (by omega) (S.row 0 rfl)).mono ?_
        rintro e w5 ⟨rfl, ho, hgr⟩
        rw [← hV] at ho
        have ho2 : w5.ownsRow w.heap.size 3 1 (.slice (some ⟨g, 0, none⟩) W.length cq) V.length (V.flatMap encInt1) := by rw [hVl]; exact ho
        replace S : Sep w w5 [plRow 3 1 encInt1 (.slice (some ⟨g, 0, none⟩) W.length cq) V] := S.grow 0 rfl hgr ho2 (fun b hb => .inl hb)
        clear ho ho2 hgr hV hVl
        have ho3 := S.row 0 rfl
        have hcall := compact_own w.heap.size g cq V w5 (by have := HVl.out; omega) (by rw [HVl.out] at ho3 ⊢; exact ho3)
        rw [HVl.out] at hcall
        clear ho3
        go_wp2_with fail
        refine hcall.mono ?_
        rintro e w6 ⟨rfl, ho, hgr⟩
        clear hcall
        obtain ⟨X, hX⟩ : ∃ X, X = Lib.compact V := ⟨_, rfl⟩
        rw [← hX] at ho HR ⊢
        replace S : Sep w w6 [plRow 3 1 encInt1 (.slice (some ⟨g, 0, none⟩) X.length cq) X] := S.grow 0 rfl hgr ho (fun b hb => .inl hb)
        clear hX ho hgr
        go_wp2
        go_ret
        exact ⟨_, X, rfl, HR.out, S⟩

set_option maxRecDepth 10000 in
set_option maxHeartbeats 8000000 in
theorem specGroupsIn (a : Option Addr) (cap : Nat) (l : List Mem) (s : Int) (w : World) (hl : l.length ≤ 1048576) (hc : Rd 3 encMem w a l) :
    Calls Try.prog 27 #[.slice a l.length cap, .int .i64 s] w fun e w' => ∃ u L, e = .returned u ∧ GroupsR l s L ∧ Sep w w' [plRow 3 1 encInt1 u L] := by
  go_enter Try.func27, Try.ntmps27
  have S := Sep.start w
  replace S : Sep w (w.alloc (.cells #[] 3)) [plRow 3 1 encInt1 (.slice (some ⟨w.heap.size, 0, none⟩) 0 0) []] := S.lit0 (by simp) _ _ _
  go_wp2
  generalize (w.alloc (.cells #[] 3)) = w1 at *
  go_loopw [5, 6, 7, 8] (fun o n _ _ wr => ∃ (g cq : Nat) (aq : Option Addr) (W : List Int), 1 ≤ g ∧ g ≤ 100 ∧ n = .int .i64 g ∧ o = .slice aq W.length cq ∧ UpTo l s g W ∧ (∀ x ∈ W, 1 ≤ x) ∧ (g = 1 ∨ MembersOk l) ∧ Sep w wr [plRow 3 1 encInt1 (.slice aq W.length cq) W]) (fun _ n _ _ _ => 100 - (intOf n).toNat)
  case atStart => exact ⟨1, 0, some ⟨w.heap.size, 0, none⟩, [], by omega, by omega, rfl, rfl, upTo_one l s, by simp, .inl rfl, S⟩
  case round =>
    clear S
    obtain ⟨g, cq, aq, W, hg1, hg2, rfl, rfl, hU, hP, hM, S⟩ := hrel
    have HU := Lib.hid hU
    have HP := Lib.hid hP
    have HM := Lib.hid hM
    have hWl : W.length ≤ 100 := by
      have := asc_len (lo := 1) (hi := 99) hU.1 (fun x hx => ⟨hP x hx, by have := hU.2.1 x hx; omega⟩) (by omega)
      omega
    clear hU hP hM
    by_cases h99 : g ≤ 99
    rotate_left
    · obtain rfl : g = 100 := by omega
      have HR : Hid (GroupsR l s W) := Lib.hid (groupsR_spec (HM.out.resolve_left (by omega)) HU.out HP.out)
      go_wp2
      go_ret
      exact ⟨_, W, rfl, HR.out, S⟩
    have i1 : (g : Int) ≤ 99 := by omega
    go_wp2_with fail
    refine (specMembersValid a cap l wr (by omega) (hc.ext S.ext)).mono ?_
    rintro e w2 ⟨v0, rfl, hv0, hE⟩
    have Hv0 := Lib.hid hv0
    clear hv0
    replace S : Sep w w2 [plRow 3 1 encInt1 (.slice aq W.length cq) W] := S.step hE
    clear hE
    cases v0 with
    | false =>
      have HR : Hid (GroupsR l s W) := Lib.hid (by
        have hn : ¬ MembersOk l := fun h => Bool.noConfusion (Hv0.out.2 h)
        have h1 := HM.out.resolve_right hn
        refine ⟨fun _ => ?_, fun h => absurd h hn⟩
        cases hW : W with
        | nil => rfl
        | cons x r =>
          have h2 := HP.out x (by rw [hW]; simp)
          have h3 := HU.out.2.1 x (by rw [hW]; simp)
          omega)
      go_wp2
      go_ret
      exact ⟨_, W, rfl, HR.out, S⟩
    | true =>
      have HV := Lib.hid (Hv0.out.1 rfl)
      clear Hv0
      go_wp2
      go_loopw [7, 8] (fun f i wr => ∃ (k : Nat) (b : Bool), k ≤ l.length ∧ i = .int .i64 k ∧ f = .bool b ∧ (b = true ↔ InGK l s g k) ∧ Ext w2 wr) (fun _ i _ => l.length - (intOf i).toNat)
      case atStart => exact ⟨0, false, Nat.zero_le _, rfl, rfl, ⟨fun h => Bool.noConfusion h, fun h => absurd h (inGK_zero l s g)⟩, Ext.refl _⟩
      case round =>
        obtain ⟨k, b, hk, rfl, rfl, hbm, hb⟩ := hrel
        have Hbm := Lib.hid hbm
        clear hbm
        by_cases hlt : k < l.length
        · obtain ⟨y, p, off, hy, hpe, c0, c1, c2⟩ := atMem (hc.ext (S.ext.trans hb)) hlt
          subst hpe
          have HS := Lib.hid (inGK_step (s := s) (g := g) hy)
          clear hy
          have k0 : (0 : Int) ≤ (k : Int) := by omega
          have k1 : (k : Int) < (l.length : Int) := by omega
          cases b with
          | true =>
            have HN : Hid (true = true ↔ InGK l s g (k + 1)) := Lib.hid ⟨fun _ => HS.out.2 (.inl (Hbm.out.1 rfl)), fun _ => rfl⟩
            go_wp2
            go_roundw
            case rel => exact ⟨k + 1, true, by omega, by go_num, rfl, HN.out, hb⟩
            case measure => simp [intOf]; omega
          | false =>
            by_cases hg : y.grp = (g : Int)
            · have tg : (y.grp == (g : Int)) = true := by simpa using hg
              by_cases hs : y.ses = s
              · have ts : (y.ses == s) = true := by simpa using hs
                have HN : Hid (true = true ↔ InGK l s g (k + 1)) := Lib.hid ⟨fun _ => HS.out.2 (.inr ⟨hg, hs⟩), fun _ => rfl⟩
                clear hg hs
                go_wp2
                go_roundw
                case rel => exact ⟨k + 1, true, by omega, by go_num, by simp [ts], HN.out, hb⟩
                case measure => simp [intOf]; omega
              · have ts : (y.ses == s) = false := by simpa using hs
                have HN : Hid (false = true ↔ InGK l s g (k + 1)) := Lib.hid ⟨fun h => Bool.noConfusion h, fun h => (HS.out.1 h).elim (fun h => Bool.noConfusion (Hbm.out.2 h)) (fun h => absurd h.2 hs)⟩
                clear hg hs
                go_wp2
                go_roundw
                case rel => exact ⟨k + 1, false, by omega, by go_num, by simp [ts], HN.out, hb⟩
                case measure => simp [intOf]; omega
            · have tg : (y.grp == (g : Int)) = false := by simpa using hg
              have HN : Hid (false = true ↔ InGK l s g (k + 1)) := Lib.hid ⟨fun h => Bool.noConfusion h, fun h => (HS.out.1 h).elim (fun h => Bool.noConfusion (Hbm.out.2 h)) (fun h => absurd h.1 hg)⟩
              clear hg
              go_wp2
              go_roundw
              case rel => exact ⟨k + 1, false, by omega, by go_num, rfl, HN.out, hb⟩
              case measure => simp [intOf]; omega
        · obtain rfl : k = l.length := by omega
          have hni : ¬ (l.length : Int) < (l.length : Int) := by omega
          have HB : Hid (b = true ↔ InG l s g) := Lib.hid (Hbm.out.trans (inGK_end l s g))
          clear Hbm
          replace S : Sep w wr [plRow 3 1 encInt1 (.slice aq W.length cq) W] := S.step hb
          clear hb
          cases b with
          | true =>
            have HN : Hid (UpTo l s ((g + 1 : Nat) : Int) (W ++ [(g : Int)])) := Lib.hid (by push_cast; exact upTo_yes HU.out (HB.out.1 rfl))
            have HQ : Hid (∀ x ∈ W ++ [(g : Int)], 1 ≤ x) := Lib.hid (fun x hx => by
              rcases List.mem_append.1 hx with hx | hx
              · exact HP.out x hx
              · rw [List.mem_singleton.1 hx]; omega)
            go_upto_region 11 with fail
            have SA := S.alloc #[.int .i64 (g : Int)] 3
            have rd1 : Rd 1 encInt1 (wr.alloc (.cells #[.int .i64 (g : Int)] 3)) (some ⟨wr.heap.size, 0, none⟩) [(g : Int)] := rd_lit_new [(g : Int)] encInt1_len rfl
            go_wp2_with (at_builtin; refine Hid.out (?_ : Hid _))
            unfold Hid
            refine wpList_append_b rfl _ _ 45 rfl w.heap.size 3 _ 1 _ Try.underlying45 infoInt rfl (by decide) encInt1_len encInt1_one _ W.length W rfl (SA.row (0 + 1) rfl) rfl (some ⟨wr.heap.size, 0, none⟩) 1 1 [(g : Int)] rfl rfl rd1 (by omega) (by omega) SA.chg.size ?_
            intro v7 w7 ho hgr hblk
            obtain ⟨G, hG⟩ : ∃ G, G = W ++ [(g : Int)] := ⟨_, rfl⟩
            rw [← hG] at ho HN HQ
            obtain ⟨a7, c7, hv7, hk7, _, _⟩ := view_owns encInt1_len ho
            subst hv7
            have SM := (SA.grow (0 + 1) rfl hgr ho hblk).drop 0
            clear ho hgr hblk SA rd1 S hG
            go_wp2
            go_roundw
            case rel => exact ⟨g + 1, c7, a7, G, by omega, by omega, by go_num, rfl, HN.out, HQ.out, .inr HV.out, SM⟩
            case measure => simp [intOf]; omega
          | false =>
            have HN : Hid (UpTo l s ((g + 1 : Nat) : Int) W) := Lib.hid (by push_cast; exact upTo_no HU.out (fun h => Bool.noConfusion (HB.out.2 h)))
            go_wp2
            go_roundw
            case rel => exact ⟨g + 1, cq, aq, W, by omega, by omega, by go_num, rfl, HN.out, HP.out, .inr HV.out, S⟩
            case measure => simp [intOf]; omega
end Go.Proofs.Ytlmelknadappbaa
