/- Texts merged: PathJ; PathV; LinkS; TreeV; Find; Find2; Place; OrdC; OrdT; PagC0. Each says below what it proves and on what conditions. -/
import Derived.Deep.Cut
import Derived.Test.YtnibbldfohbfkaaMkv1
import Derived.Test.YtnibbldfohbfkaaMkv2
import Derived.Test.YtnibbldfohbfkaaMkv3
/- Paths: what PathParts answers, out of its loop's list. No condition. -/
namespace Go.Proofs.Ytnibbldfohbfkaa
open Go.RowKit

theorem joinPath_size (P : List ByteArray) : (joinPath P).size ≤ 54 := by
  have key : ∀ (Q : List ByteArray) (o : ByteArray), (∀ p ∈ Q, p.size ≤ 8) → (Q.foldl (fun o p => o ++ ⟨#[47]⟩ ++ p) o).size ≤ o.size + 9 * Q.length := by
    intro Q
    induction Q with
    | nil => intro o _; simp
    | cons p Q ih =>
      intro o h
      have h1 := ih (o ++ ⟨#[47]⟩ ++ p) (fun q hq => h q (List.mem_cons_of_mem _ hq))
      have h2 := h p (List.mem_cons_self ..)
      rw [ByteArray.size_append, ByteArray.size_append] at h1
      have h3 : (⟨#[47]⟩ : ByteArray).size = 1 := rfl
      rw [List.foldl_cons, List.length_cons]
      omega
  rw [joinPath]
  split
  · show 1 ≤ 54; omega
  · split
    · rename_i h
      have h1 := key P ⟨#[]⟩ (fun p hp => (h.1 p hp).2.2)
      have h2 := h.2
      have h3 : (⟨#[]⟩ : ByteArray).size = 0 := rfl
      unfold joinB
      omega
    · show 0 ≤ 54; omega
theorem joinPath_pos {Q : List ByteArray} (h : PartsOk Q) : 0 < (joinPath Q).size := by
  by_cases hQ : Q = []
  · rw [joinPath, if_pos hQ]; show 0 < 1; omega
  · rw [joinPath_ok h hQ]; exact joinB_size_pos hQ
theorem parts_root {s : ByteArray} (h : s = ⟨#[47]⟩) : PartsR s [] true := .inl ⟨rfl, ⟨fun p hp => (by cases hp), Nat.zero_le _⟩, by rw [h]; simp [joinPath]⟩
theorem parts_of_join {s : ByteArray} {Q : List ByteArray} (hs : s ≠ ⟨#[47]⟩) (h : PartsOk Q) (e : joinPath Q = s) : cutP s.data.toList = Q := by
  have hQ : Q ≠ [] := fun hq => hs (by rw [← e, joinPath, if_pos hq])
  rw [← e, joinPath_ok h hQ]
  exact cut_join h.1
theorem parts_yes {s : ByteArray} {X : List ByteArray} (hs : s ≠ ⟨#[47]⟩) (hp : 0 < s.size) (h : joinPath X = s) : PartsR s X true := by
  have hX : X ≠ [] := fun hx => hs (by rw [← h, joinPath, if_pos hx])
  refine .inl ⟨rfl, ?_, h⟩
  rw [joinPath, if_neg hX] at h
  split at h
  · rename_i ho; exact ho
  · rw [← h] at hp; exact absurd hp (by decide)
theorem parts_no {s : ByteArray} {X : List ByteArray} (hs : s ≠ ⟨#[47]⟩) (hX : X = cutP s.data.toList) (h : joinPath X ≠ s) : PartsR s [] false := .inr ⟨rfl, rfl, fun Q hQ e => h (by rw [hX, parts_of_join hs hQ e]; exact e)⟩
theorem parts_empty {s : ByteArray} (h : s.size = 0) : PartsR s [] false := .inr ⟨rfl, rfl, fun Q hQ e => by have := joinPath_pos hQ; rw [e] at this; omega⟩
theorem stepP_fit {Q : List ByteArray} {c : UInt8} {m : Nat} (h : ∀ q ∈ Q, q.size ≤ m) : ∀ q ∈ stepP Q c, q.size ≤ m + 1 := fun q hq => by
  unfold stepP at hq
  split at hq
  · rcases List.mem_append.1 hq with hq | hq
    · have := h q hq; omega
    · rw [List.mem_singleton.1 hq]; exact Nat.zero_le _
  · split at hq
    · cases hq
    · rename_i l hl
      rcases List.mem_append.1 hq with hq | hq
      · have := h q (List.dropLast_subset Q hq); omega
      · rw [List.mem_singleton.1 hq, ByteArray.size_append]
        have := h l (List.mem_of_getLast? hl)
        show l.size + 1 ≤ _
        omega
theorem stepP_last {Q : List ByteArray} {c : UInt8} {l : ByteArray} {m : Nat} (hc : c ≠ 47) (hm : Q.length = m + 1) (hl : Q[m]? = some l) : stepP Q c = Q.set m (l ++ ⟨#[c]⟩) := by
  obtain ⟨R, y, rfl⟩ : ∃ R y, Q = R ++ [y] := ⟨Q.dropLast, Q.getLast (by intro e; rw [e] at hm; simp at hm), (List.dropLast_concat_getLast _).symm⟩
  have hR : R.length = m := by simpa using hm
  subst hR
  rw [List.getElem?_append_right (Nat.le_refl _), Nat.sub_self] at hl
  simp only [List.getElem?_cons_zero, Option.some.injEq] at hl
  subst hl
  rw [stepP_char _ _ hc, List.set_append, if_neg (Nat.lt_irrefl _), Nat.sub_self]
  rfl
theorem stepP_none {c : UInt8} (hc : c ≠ 47) : stepP [] c = [] := by simp [stepP, hc]
end Go.Proofs.Ytnibbldfohbfkaa

/- Paths: contract of the reference's PathParts. Condition: texts of at most 10^6 bytes. -/
namespace Go.Proofs.Ytnibbldfohbfkaa
open Go.RowKit

theorem ext_one {s : ByteArray} {k : Nat} (h : k < s.size) : s.extract k (k + 1) = ⟨#[s[k]]⟩ := by
  apply ByteArray.ext
  rw [ByteArray.data_extract]
  apply Array.ext
  · simp only [Array.size_extract, List.size_toArray, List.length_singleton]
    have : s.data.size = s.size := rfl
    omega
  · intro i h1 h2
    have : i = 0 := by simpa using h2
    subst this
    simp
    rfl
theorem infoStr1 : (Try.prog.info? 9).map (fun i => (i.zero, i.size, i.bytes)) = some (some (.string ByteArray.empty), 1, 16) := by kernel_rfl
/-- The block of a row that is not empty. -/
theorem row_blk {α : Type} {w : World} {base e nf : Nat} {enc : α → List Value} {a : Option Addr} {n cap : Nat} {l : List α} (hn : ∀ x, (enc x).length = nf) (h : w.ownsRow base e nf (.slice a n cap) l.length (l.flatMap enc)) (hl : 0 < l.length) : ∃ g, a = some ⟨g, 0, none⟩ := by
  obtain ⟨a', c', hv, _, _, h2⟩ := view_owns hn h
  simp only [Value.slice.injEq] at hv
  rw [hv.1]
  rcases h2 with ⟨_, h3, _⟩ | ⟨g, h3, _⟩
  · rw [h3] at hl; exact absurd hl (Nat.lt_irrefl 0)
  · exact ⟨g, h3⟩

def RetParts (s : ByteArray) (w : World) (e : Ending) (w' : World) : Prop := ∃ u P ok, e = .returned (.tuple #[u, .bool ok]) ∧ PartsR s P ok ∧ Sep w w' [plRow 9 1 encStr1 u P]
theorem RetParts.mk {s : ByteArray} {w w' : World} {u : Value} {P : List ByteArray} (ok : Bool) (h : PartsR s P ok) (S : Sep w w' [plRow 9 1 encStr1 u P]) : RetParts s w (.returned (.tuple #[u, .bool ok])) w' := ⟨u, P, ok, rfl, h, S⟩
set_option maxRecDepth 10000 in
set_option maxHeartbeats 8000000 in
theorem specPathParts (s : ByteArray) (w : World) (hs : s.size ≤ 1048576) :
    Calls Try.prog 55 #[.string s] w (RetParts s w) := by
  by_cases hr : s = ⟨#[47]⟩
  · have HR := Lib.hid (parts_root hr)
    subst hr
    go_enter Try.func55, Try.ntmps55
    have S := Sep.start w
    replace S : Sep w (w.alloc (.cells #[] 9)) [plRow 9 1 encStr1 (.slice (some ⟨w.heap.size, 0, none⟩) 0 0) []] := S.lit0 (by simp) _ _ _
    go_wp2
    go_ret2
    exact RetParts.mk true HR.out S
  have tr : (s.toList == [47]) = false := Bool.eq_false_iff.2 (fun h => hr (bytes_eq.1 (by rw [eq_of_beq h, ByteArray.toList_eq])))
  have HRt := Lib.hid hr
  have HT := Lib.hid tr
  clear hr
  go_enter Try.func55, Try.ntmps55
  have S := Sep.start w
  replace S : Sep w (w.alloc (.cells #[] 9)) [plRow 9 1 encStr1 (.slice (some ⟨w.heap.size, 0, none⟩) 0 0) []] := S.lit0 (by simp) _ _ _
  go_wp2
  generalize (w.alloc (.cells #[] 9)) = w1 at *
  clear tr
  go_loopw [4, 5] (fun o i wr => ∃ (k : Nat) (a : Option Addr) (c : Nat) (X : List ByteArray), k ≤ s.size ∧ i = .int .i64 k ∧ o = .slice a X.length c ∧ X = cutP (s.data.toList.take k) ∧ (∀ x ∈ X, x.size ≤ k) ∧ Sep w wr [plRow 9 1 encStr1 (.slice a X.length c) X]) (fun _ i _ => s.size - (intOf i).toNat)
  case atStart => exact ⟨0, some ⟨w.heap.size, 0, none⟩, 0, [], Nat.zero_le _, rfl, rfl, by simp [cutP], fun x hx => (by cases hx), S⟩
  case round =>
    clear S
    obtain ⟨k, a, c, X, hk, rfl, rfl, hX, hF, S⟩ := hrel
    have hXl : X.length ≤ k := by
      have h1 := cutP_len (s.data.toList.take k)
      rw [← hX, List.length_take] at h1
      omega
    have HX := Lib.hid hX
    have HF := Lib.hid hF
    clear hX hF
    by_cases hlt : k < s.size
    rotate_left
    · obtain rfl : k = s.size := by omega
      have hni : ¬ (s.size : Int) < (s.size : Int) := by omega
      have hXe : Hid (X = cutP s.data.toList) := Lib.hid (by rw [HX.out, List.take_of_length_le (by rw [Array.length_toList]; exact Nat.le_refl _)])
      by_cases h0 : s.size = 0
      · have HR := Lib.hid (parts_empty h0)
        have te : s.toList.isEmpty = true := isEmpty_size.2 h0
        go_wp2
        have SM := S.cons (p := plRow 9 1 encStr1 (.slice (some ⟨wr.heap.size, 0, none⟩) 0 0) []) ((Ext.refl wr).alloc (.cells #[] 9)) (by
          exact ⟨by simp, .inr ⟨wr.heap.size, 0, #[], rfl, Nat.zero_le _, heap_alloc_new wr _, Nat.le_refl _, Nat.zero_le _, by simp, by simp⟩⟩) (fun b hb => by
          have : wr.heap.size = b := Option.some.inj hb
          omega)
        have SD := SM.drop 1
        go_ret2
        exact RetParts.mk false HR.out SD
      · have te : s.toList.isEmpty = false := isEmpty_pos (by omega)
        have HP : Hid (0 < s.size) := Lib.hid (by omega)
        have hr1 : Rd 1 encStr1 wr a X := S.rd 0 encStr1_len rfl rfl
        go_wp2_with fail
        refine (specJoinPath a c X wr (by omega) (fun x hx => by have := HF.out x hx; omega) hr1).mono ?_
        rintro e w2 ⟨v, rfl, rfl, hE⟩
        replace S : Sep w w2 [plRow 9 1 encStr1 (.slice a X.length c) X] := S.step hE
        clear hE
        clear hr1
        by_cases hj : joinPath X = s
        · have HR := Lib.hid (parts_yes HRt.out HP.out hj)
          rw [hj]
          clear hj
          go_wp2
          go_ret2
          exact RetParts.mk true HR.out S
        · have HR := Lib.hid (parts_no HRt.out hXe.out hj)
          have tj : ((joinPath X).toList == s.toList) = false := by simpa [bytes_eq] using hj
          clear hj
          generalize joinPath X = J at *
          go_wp2
          have SM := S.cons (p := plRow 9 1 encStr1 (.slice (some ⟨w2.heap.size, 0, none⟩) 0 0) []) ((Ext.refl w2).alloc (.cells #[] 9)) (by
            exact ⟨by simp, .inr ⟨w2.heap.size, 0, #[], rfl, Nat.zero_le _, heap_alloc_new w2 _, Nat.le_refl _, Nat.zero_le _, by simp, by simp⟩⟩) (fun b hb => by
            have : w2.heap.size = b := Option.some.inj hb
            omega)
          have SD := SM.drop 1
          go_ret2
          exact RetParts.mk false HR.out SD
    · have i0 : (k : Int) < (s.size : Int) := by omega
      have i00 : (0 : Int) ≤ (k : Int) := by omega
      have HS1 := Lib.hid (cutP_step hlt)
      by_cases hc : s[k].toNat = 47
      · have hc8 : s[k] = 47 := UInt8.toNat_inj.1 hc
        have tc : (s[k].toNat : Int) = 47 := by omega
        have HN : Hid (X ++ [⟨#[]⟩] = cutP (s.data.toList.take (k + 1))) := Lib.hid (by rw [HS1.out, hc8, stepP_slash, ← HX.out])
        have HFN : Hid (∀ x ∈ X ++ [(⟨#[]⟩ : ByteArray)], x.size ≤ k + 1) := Lib.hid (fun x hx => by
          rcases List.mem_append.1 hx with hx | hx
          · have := HF.out x hx; omega
          · rw [List.mem_singleton.1 hx]; exact Nat.zero_le _)
        clear hc8 hc HS1
        have SA := S.alloc #[.string ⟨#[]⟩] 9
        have rd1 : Rd 1 encStr1 (wr.alloc (.cells #[.string ⟨#[]⟩] 9)) (some ⟨wr.heap.size, 0, none⟩) [(⟨#[]⟩ : ByteArray)] := rd_lit_new [(⟨#[]⟩ : ByteArray)] encStr1_len rfl
        go_wp2_with (at_builtin; refine Hid.out (?_ : Hid _))
        unfold Hid
        refine wpList_append_b rfl _ _ 52 rfl w.heap.size 9 _ 1 _ Try.underlying52 infoStr1 rfl (by decide) encStr1_len encStr1_one _ X.length X rfl (SA.row (0 + 1) rfl) rfl (some ⟨wr.heap.size, 0, none⟩) 1 1 [(⟨#[]⟩ : ByteArray)] rfl rfl rd1 (by omega) (by omega) SA.chg.size ?_
        intro v7 w7 ho hgr hblk
        obtain ⟨G, hG⟩ : ∃ G, G = X ++ [(⟨#[]⟩ : ByteArray)] := ⟨_, rfl⟩
        rw [← hG] at ho HN HFN
        obtain ⟨a7, c7, hv7, hk7, _, _⟩ := view_owns encStr1_len ho
        subst hv7
        have SM := (SA.grow (0 + 1) rfl hgr ho hblk).drop 0
        clear ho hgr hblk SA rd1 S hG
        go_wp2
        go_roundw
        case rel => exact ⟨k + 1, a7, c7, G, by omega, by go_num, rfl, HN.out, HFN.out, SM⟩
        case measure => simp [intOf]; omega
      · have hc8 : s[k] ≠ 47 := fun h => hc (by rw [h]; rfl)
        have tc : ((s[k].toNat : Int) == 47) = false := by simp; omega
        by_cases h0 : X = []
        · have HN : Hid (X = cutP (s.data.toList.take (k + 1))) := Lib.hid (by rw [HS1.out, ← HX.out, h0, stepP_none hc8])
          have HFN : Hid (∀ x ∈ X, x.size ≤ k + 1) := Lib.hid (fun x hx => by have := HF.out x hx; omega)
          have t0 : ¬ (0 : Int) < (X.length : Int) := by rw [h0]; simp
          clear hc8 hc HS1
          go_wp2
          go_roundw
          case rel => exact ⟨k + 1, a, c, X, by omega, by go_num, rfl, HN.out, HFN.out, S⟩
          case measure => simp [intOf]; omega
        · obtain ⟨m, hm⟩ : ∃ m, X.length = m + 1 := ⟨X.length - 1, by have := List.length_pos_iff.2 h0; omega⟩
          have hx : X[m]? = some X[m] := List.getElem?_eq_getElem (by omega)
          obtain ⟨l, hl⟩ : ∃ l, l = X[m] := ⟨_, rfl⟩
          rw [← hl] at hx
          have hrow := S.row 0 rfl
          obtain ⟨g, rfl⟩ := row_blk encStr1_len hrow (by omega)
          have g0 : wr.cell? ⟨g, m, none⟩ = some (.string l) := by
            have := owns_at encStr1_len hrow m (by omega) 0 (.string l) (by rw [← hl]; rfl)
            simpa using this
          have hls := HF.out l (List.mem_of_getElem? hx)
          have HN : Hid (X.set m (l ++ s.extract k (k + 1)) = cutP (s.data.toList.take (k + 1))) := Lib.hid (by rw [HS1.out, ← HX.out, stepP_last hc8 hm hx, ext_one hlt])
          have hE1 : (s.extract k (k + 1)).size = 1 := by rw [ext_one hlt]; rfl
          have HFN : Hid (∀ x ∈ X.set m (l ++ s.extract k (k + 1)), x.size ≤ k + 1) := Lib.hid (fun x hx => by
            rcases List.mem_or_eq_of_mem_set hx with hx | rfl
            · have := HF.out x hx; omega
            · rw [ByteArray.size_append]; omega)
          have hml : m < X.length := by omega
          have t0 : (0 : Int) < (X.length : Int) := by omega
          have HXm := Lib.hid hm
          have hw1 : IntKind.i64.wrap ((X.length : Int) - 1) = (m : Int) := by rw [show (X.length : Int) - 1 = m by omega]; exact IntWalk.i64_in _ (by omega)
          have hmi : (m : Int) < (X.length : Int) := by omega
          have hwk : IntKind.i64.wrap ((k : Int) + 1) = (k : Int) + 1 := IntWalk.i64_in _ (by omega)
          have hsz : ¬ 9223372036854775807 < l.size + 1 := by omega
          have hkt : ((k : Int) + 1).toNat = k + 1 := by omega
          have hk1 : (k : Int) + 1 ≤ (s.size : Int) := by omega
          have hk2 : (k : Int) ≤ (k : Int) + 1 := by omega
          have hk3 : (0 : Int) ≤ (k : Int) + 1 := by omega
          clear hc8 hc HS1 hl hx h0 hm
          go_wp2_with fail
          go_still_tail 17, (by kernel_rfl)
          change wpList _ _ _ _ _ wr.drew
          generalize hw2 : wr.drew = w2
          have he2 : Ext wr w2 := by rw [← hw2]; exact (Ext.refl wr).drew
          have SM := (S.step he2).rowSet 0 encStr1_len rfl rfl m 0 (.string (l ++ s.extract k (k + 1))) (l ++ s.extract k (k + 1)) hml (by omega) rfl
          have f0 := (S.step he2).row 0 rfl |>.frozenAt
          have g2 := cell_ext he2 g0
          have HSM := Lib.hid SM
          clear SM S g0 hw2 hrow
          go_wp2
          go_roundw
          case rel => exact ⟨k + 1, some ⟨g, 0, none⟩, c, X.set m (l ++ s.extract k (k + 1)), by omega, by go_num, by rw [List.length_set], HN.out, HFN.out, by simpa using HSM.out⟩
          case measure => simp [intOf]; omega
end Go.Proofs.Ytnibbldfohbfkaa

/- Trees: contract of the reference's LinksOf. Condition: rows of at most 2^20. -/
namespace Go.Proofs.Ytnibbldfohbfkaa
open Go.RowKit

set_option maxRecDepth 10000 in
set_option maxHeartbeats 8000000 in
theorem specLinksOf (a : Option Addr) (cap : Nat) (T : List Nd) (w : World) (hl : T.length ≤ 1048576) (hs : ∀ x ∈ T, SmN 1048576 x) (hc : RdN w a T) :
    Calls Try.prog 27 #[.slice a T.length cap] w (RetV (fun v w' => ∃ L, w'.ownsRow w.heap.size 3 1 v L.length (L.flatMap encInt1) ∧ LinksR T L) w) := by
  obtain ⟨i0, hi, hz0, hz1, hz2⟩ := info_parts infoInt
  have HS := Lib.hid hs
  clear hs
  go_enter Try.func27, Try.ntmps27
  go_wp2_with (at_make; refine wpList_make_full _ rfl _ _ 53 rfl w.heap.size 3 i0 _ 1 Try.underlying53 hi hz0 hz1 _ _ _ _ T.length rfl rfl rfl rfl ?b1 ?b2 ?b3 ?_)
  case b1 => rw [hz2]; omega
  case b2 => unfold maxLen; omega
  case b3 => exact Nat.le_refl _
  intro w1 hown1 hgr1
  have hE := ext_of_grown hgr1
  clear hgr1
  by_cases h16 : T.length ≤ 16
  rotate_left
  · have h16i : (16 : Int) < (T.length : Int) := by omega
    have HR : Hid (LinksR T []) := Lib.hid (.inr ⟨fun h => h16 h.1, rfl⟩)
    have HO := Lib.hid (owns_lit0 hE)
    clear hown1
    go_wp2
    go_ret
    exact RetV.mk ⟨[], HO.out, HR.out⟩ (hE.alloc _)
  · have h16i : (T.length : Int) ≤ 16 := by omega
    go_wp2
    go_loopw [4] (fun i wr => ∃ k : Nat, k ≤ T.length ∧ i = .int .i64 k ∧ wr.ownsRow w.heap.size 3 1 (.slice (some ⟨w.heap.size, 0, none⟩) T.length T.length) T.length ((cntL T.length (kids (T.take k))).flatMap encInt1) ∧ (∀ x ∈ kids (T.take k), inB x 0 ((T.length : Int) - 1) = true) ∧ Ext w wr) (fun i _ => T.length - (intOf i).toNat)
    case atStart =>
      refine ⟨0, Nat.zero_le _, rfl, ?_, fun x hx => by simp [kids] at hx, hE⟩
      rw [List.take_zero, show kids [] = [] from rfl, cntL_zero, ← madeInt]
      exact hown1
    case round =>
      clear hown1 hE
      obtain ⟨k, hk, rfl, hown, hpre, hb⟩ := hrel
      have Hpre := Lib.hid hpre
      clear hpre
      by_cases hlt : k < T.length
      rotate_left
      · obtain rfl : k = T.length := by omega
        have hni : ¬ (T.length : Int) < (T.length : Int) := by omega
        rw [List.take_length] at hown Hpre
        have hown2 : wr.ownsRow w.heap.size 3 1 (.slice (some ⟨w.heap.size, 0, none⟩) T.length T.length) (cntL T.length (kids T)).length ((cntL T.length (kids T)).flatMap encInt1) := by rw [cntL_len]; exact hown
        have HO := Lib.hid hown2
        have HR : Hid (LinksR T (cntL T.length (kids T))) := Lib.hid (.inl ⟨⟨h16, Hpre.out⟩, rfl⟩)
        clear hown hown2
        go_wp2
        go_ret
        exact RetV.mk ⟨_, HO.out, HR.out⟩ hb
      · obtain ⟨x, b, off, an, cn, ak, ck, hx, rfl, c0, c1, c2, c3, c4, c5, c6, hcn, hck, hrn, hrk⟩ := atNd hc hlt
        have Hx := Lib.hid hx
        have hkl := (HS.out x (List.mem_of_getElem? hx)).2.2.2
        have i0 : (k : Int) < (T.length : Int) := by omega
        clear hx c0 c1 c2 c3 c4 c5 hcn hck hrn
        have HA := Lib.hid hown
        have HB := Lib.hid hb
        have C6 := Lib.hid c6
        clear hown hb c6
        go_wp2
        go_loopw [5] (fun i wr => ∃ m : Nat, m ≤ x.K.length ∧ i = .int .i64 m ∧ wr.ownsRow w.heap.size 3 1 (.slice (some ⟨w.heap.size, 0, none⟩) T.length T.length) T.length ((cntL T.length (kids (T.take k) ++ x.K.take m)).flatMap encInt1) ∧ (∀ y ∈ kids (T.take k) ++ x.K.take m, inB y 0 ((T.length : Int) - 1) = true) ∧ Ext w wr) (fun i _ => x.K.length - (intOf i).toNat)
        case atStart =>
          refine ⟨0, Nat.zero_le _, rfl, ?_, ?_, HB.out⟩
          · rw [List.take_zero, List.append_nil]
            exact HA.out
          · rw [List.take_zero, List.append_nil]
            exact Hpre.out
        case round =>
          clear HA HB
          obtain ⟨m, hm, rfl, hown, hpre2, hb⟩ := hrel
          have Hpre2 := Lib.hid hpre2
          have d6 := cell_ext hb C6.out
          clear hpre2
          by_cases hlm : m < x.K.length
          rotate_left
          · obtain rfl : m = x.K.length := by omega
            have hni : ¬ (x.K.length : Int) < (x.K.length : Int) := by omega
            rw [List.take_length, kids_step Hx.out] at hown Hpre2
            have HO := Lib.hid hown
            clear hown
            go_wp2
            go_roundw
            case rel => exact ⟨k + 1, by omega, by go_num, HO.out, Hpre2.out, hb⟩
            case measure => simp [intOf]; omega
          · obtain ⟨y, b2, off2, hy, rfl, e0⟩ := atInt (hrk.ext hb) hlm
            have Hy := Lib.hid hy
            have j0 : (m : Int) < (x.K.length : Int) := by omega
            have s1 : IntKind.i64.wrap ((T.length : Int) - 1) = (T.length : Int) - 1 := IntWalk.i64_in _ (by omega)
            clear hy
            cases hI : inB y 0 ((T.length : Int) - 1) with
            | false =>
              have HI := Lib.hid hI
              have HR : Hid (LinksR T []) := Lib.hid (.inr ⟨fun h => Bool.noConfusion (hI.symm.trans (h.2 y (kids_mem Hx.out (List.mem_of_getElem? Hy.out)))), rfl⟩)
              have HO := Lib.hid (owns_lit0 hb)
              clear hI hown
              go_wp2_with (go_at_call 25; refine (l1In_is HI.out _).mono ?_; rintro e w' ⟨rfl, rfl⟩)
              go_ret
              exact RetV.mk ⟨[], HO.out, HR.out⟩ (hb.alloc _)
            | true =>
              have HI := Lib.hid hI
              obtain ⟨i, rfl, hiM⟩ := in_cast hI
              clear hI
              have hkm : i < (cntL T.length (kids (T.take k) ++ x.K.take m)).length := by rw [cntL_len]; exact hiM
              have g0 : wr.cell? ⟨w.heap.size, i, none⟩ = some (.int .i64 (cntL T.length (kids (T.take k) ++ x.K.take m))[i]) := by simpa using owns_at encInt1_len hown i hkm 0 _ rfl
              rw [cntL_at hkm] at g0
              have hcl : (kids (T.take k) ++ x.K.take m).count (i : Int) ≤ 100000000 := Nat.le_trans List.count_le_length (pre_len HS.out Hx.out m h16)
              have Hin : Hid (∀ y ∈ kids (T.take k) ++ x.K.take (m + 1), inB y 0 ((T.length : Int) - 1) = true) := Lib.hid (fun z hz => by
                rw [take_next Hy.out] at hz
                rcases List.mem_append.1 hz with hz | hz
                · exact Hpre2.out z hz
                · rw [List.mem_singleton.1 hz]; exact HI.out)
              have k0 : (i : Int) < (T.length : Int) := by omega
              have Hnx := Lib.hid (cntL_step (M := T.length) (P := kids (T.take k) ++ x.K.take m) (i := i))
              rw [← take_next Hy.out] at Hnx
              obtain ⟨L, hL⟩ : ∃ L, L = cntL T.length (kids (T.take k) ++ x.K.take m) := ⟨_, rfl⟩
              rw [← hL] at hown hkm Hnx
              clear hL
              generalize (kids (T.take k) ++ x.K.take m).count (i : Int) = c at *
              have Hkm := Lib.hid hkm
              have Hown := Lib.hid hown
              clear hkm hown
              go_wp2_with (go_at_call 25; refine (l1In_is HI.out _).mono ?_; rintro e w' ⟨rfl, rfl⟩)
              go_still_tail 22, (by kernel_rfl)
              change wpList _ _ _ _ _ wr.drew
              generalize hw2 : wr.drew = w2
              have he2 : Ext wr w2 := by rw [← hw2]; exact (Ext.refl wr).drew
              have hb2 := hb.trans he2
              have hown2 := ownsRow_ext Hown.out he2
              have g2 := cell_ext he2 g0
              have f0 := hown2.frozenAt
              have h3 := owns_put encInt1_len hown2 i ((c : Int) + 1) Hkm.out
              rw [Hnx.out] at h3
              have H3 := Lib.hid h3
              have HE := Lib.hid (Ext.setCells (Nat.le_refl _) (encInt1 ((c : Int) + 1)) (i * 1) hb2)
              clear hw2 he2 hb hb2 hown2 h3 g0 d6 e0
              go_wp2
              go_roundw
              case rel => exact ⟨m + 1, by omega, by go_num, by simpa [setCells, encInt1] using H3.out, Hin.out, by simpa [setCells, encInt1] using HE.out⟩
              case measure => simp [intOf]; omega
end Go.Proofs.Ytnibbldfohbfkaa

/- Trees: contract of the reference's TreeValid. Condition: rows of at most 2^20. -/
namespace Go.Proofs.Ytnibbldfohbfkaa
open Go.RowKit

set_option maxRecDepth 10000 in
set_option maxHeartbeats 8000000 in
theorem specTreeValid (a : Option Addr) (cap : Nat) (T : List Nd) (w : World) (hl : T.length ≤ 1048576) (hs : ∀ x ∈ T, SmN 1048576 x) (hc : RdN w a T) :
    Calls Try.prog 13 #[.slice a T.length cap] w (RetB (TreeOk T) w) := by
  have HS := Lib.hid hs
  clear hs
  cases hM : inB (T.length : Int) 1 16 with
  | false =>
    have HM := Lib.hid hM
    have HB : Hid (¬ TreeOk T) := Lib.hid (fun h => Bool.noConfusion (hM.symm.trans (inB_iff.2 (by have := h.pos; have := h.max; omega))))
    clear hM
    go_enter Try.func13, Try.ntmps13
    go_wp2_with (go_at_call 25; refine (l1In_is HM.out _).mono ?_; rintro e w' ⟨rfl, rfl⟩)
    go_ret
    exact RetB.mk false rfl (by simp [HB.out]) (Ext.refl _)
  | true =>
    have HM := Lib.hid hM
    obtain ⟨hM1, hM2⟩ := inB_iff.1 hM
    clear hM
    have h1 : 1 ≤ T.length := by omega
    have h16 : T.length ≤ 16 := by omega
    have z0 : (0 : Int) < (T.length : Int) := by omega
    obtain ⟨r, b, off, rn, cn, rk, ck, hr, hpe, c0, _⟩ := atNd hc (show 0 < T.length by omega)
    simp only [Nat.zero_mul, Nat.add_zero] at c0
    cases hf : r.fold with
    | false =>
      have HB : Hid (¬ TreeOk T) := Lib.hid (fun h => Bool.noConfusion (hf.symm.trans (h.root r hr)))
      rw [hf] at c0
      subst hpe
      clear hf hr
      go_enter Try.func13, Try.ntmps13
      go_wp2_with (go_at_call 25; refine (l1In_is HM.out _).mono ?_; rintro e w' ⟨rfl, rfl⟩)
      go_ret
      exact RetB.mk false rfl (by simp [HB.out]) (Ext.refl _)
    | true =>
      have HRT : Hid (∀ n, T[0]? = some n → n.fold = true) := Lib.hid (fun n hn => by rw [hr] at hn; cases hn; exact hf)
      rw [hf] at c0
      subst hpe
      clear hf hr
      go_enter Try.func13, Try.ntmps13
      go_wp2_with (go_at_call 25; refine (l1In_is HM.out _).mono ?_; rintro e w' ⟨rfl, rfl⟩)
      go_loopw [3] (fun i wr => ∃ k : Nat, k ≤ T.length ∧ i = .int .i64 k ∧ (∀ (j : Nat) n, j < k → T[j]? = some n → NodeOk n T.length ∧ ∀ x ∈ n.K, DownOk T j x) ∧ Ext w wr) (fun i _ => T.length - (intOf i).toNat)
      case atStart => exact ⟨0, Nat.zero_le _, rfl, fun _ _ h => absurd h (Nat.not_lt_zero _), Ext.refl _⟩
      case round =>
        clear c0
        obtain ⟨k, hk, rfl, hpre, hb⟩ := hrel
        have Hpre := Lib.hid hpre
        clear hpre
        by_cases hlt : k < T.length
        · obtain ⟨x, b', off', an, cn, ak, ck, hx, hpe, c0, c1, c2, c3, c4, c5, c6, hcn, hck, hrn, hrk⟩ := atNd hc hlt
          obtain ⟨rfl, rfl⟩ : b = b' ∧ off = off' := by simpa using hpe
          have Hx := Lib.hid hx
          have hsx := Lib.hid (HS.out x (List.mem_of_getElem? hx))
          have i0 : (k : Int) < (T.length : Int) := by omega
          have C6 := Lib.hid c6
          have d0 := cell_ext hb c0
          have d1 := cell_ext hb c1
          have d2 := cell_ext hb c2
          have d3 := cell_ext hb c3
          have d4 := cell_ext hb c4
          have d5 := cell_ext hb c5
          have d6 := cell_ext hb c6
          clear hx c0 c1 c2 c3 c4 c5 c6 hcn hck hpe
          go_wp2_with fail
          refine (specNode x an ak cn ck T.length wr hl hsx.out (hrn.ext hb) (hrk.ext hb)).mono ?_
          rintro e w2 ⟨v, rfl, hv, hE⟩
          have Hv := Lib.hid hv
          have hb2 := hb.trans hE
          clear hv d0 d1 d2 d3 d4 d5 d6 hE hb hrn
          cases v with
          | false =>
            have HB : Hid (¬ TreeOk T) := Lib.hid (fun h => Bool.noConfusion (Hv.out.2 (h.nodes k x Hx.out)))
            go_wp2
            go_ret
            exact RetB.mk false rfl (by simp [HB.out]) hb2
          | true =>
            have HN := Lib.hid (Hv.out.1 rfl)
            have HB2 := Lib.hid hb2
            clear Hv hb2
            have hkl := hsx.out.2.2.2
            go_wp2
            go_loopw [4] (fun i wr => ∃ m : Nat, m ≤ x.K.length ∧ i = .int .i64 m ∧ (∀ (j : Nat) y, j < m → x.K[j]? = some y → DownOk T k y) ∧ Ext w wr) (fun i _ => x.K.length - (intOf i).toNat)
            case atStart => exact ⟨0, Nat.zero_le _, rfl, fun _ _ h => absurd h (Nat.not_lt_zero _), HB2.out⟩
            case round =>
              clear HB2
              obtain ⟨m, hm, rfl, hpre2, hb⟩ := hrel
              have Hpre2 := Lib.hid hpre2
              have d6 := cell_ext hb C6.out
              clear hpre2
              by_cases hlm : m < x.K.length
              rotate_left
              · obtain rfl : m = x.K.length := by omega
                have hni : ¬ (x.K.length : Int) < (x.K.length : Int) := by omega
                have Hnext := Lib.hid (all_next (Q := fun j n => NodeOk n T.length ∧ ∀ x ∈ n.K, DownOk T j x) Hpre.out Hx.out ⟨HN.out, all_mem Hpre2.out⟩)
                go_wp2
                go_roundw
                case rel => exact ⟨k + 1, by omega, by go_num, Hnext.out, hb⟩
                case measure => simp [intOf]; omega
              · obtain ⟨y, b2, off2, hy, rfl, e0⟩ := atInt (hrk.ext hb) hlm
                have Hy := Lib.hid hy
                have j0 : (m : Int) < (x.K.length : Int) := by omega
                obtain ⟨i, rfl, hiM⟩ := in_cast1 (nodeOk_kid HN.out (List.mem_of_getElem? hy))
                have k0 : (i : Int) < (T.length : Int) := by omega
                obtain ⟨z, b', off', an', cn', ak', ck', hz, hpe, f0, _⟩ := atNd (hc.ext hb) hiM
                obtain ⟨rfl, rfl⟩ : b = b' ∧ off = off' := by simpa using hpe
                have Hz := Lib.hid hz
                clear hy hz hpe
                cases hzf : z.fold with
                | false =>
                  have Hnext := Lib.hid (all_next (Q := fun _ y => DownOk T k y) Hpre2.out Hy.out (down_file Hz.out hzf))
                  rw [hzf] at f0
                  clear hzf
                  go_wp2
                  go_roundw
                  case rel => exact ⟨m + 1, by omega, by go_num, Hnext.out, hb⟩
                  case measure => simp [intOf]; omega
                | true =>
                  by_cases hik : i ≤ k
                  · have HB : Hid (¬ TreeOk T) := Lib.hid (fun h => down_bad Hz.out hzf hik (h.down k x Hx.out _ (List.mem_of_getElem? Hy.out)))
                    have t1 : (i : Int) ≤ (k : Int) := by omega
                    rw [hzf] at f0
                    clear hzf
                    go_wp2
                    go_ret
                    exact RetB.mk false rfl (by simp [HB.out]) hb
                  · have Hnext := Lib.hid (all_next (Q := fun _ y => DownOk T k y) Hpre2.out Hy.out (down_good (T := T) (show k < i by omega)))
                    have t1 : ¬ (i : Int) ≤ (k : Int) := by omega
                    rw [hzf] at f0
                    clear hzf
                    go_wp2
                    go_roundw
                    case rel => exact ⟨m + 1, by omega, by go_num, Hnext.out, hb⟩
                    case measure => simp [intOf]; omega
        · obtain rfl : k = T.length := by omega
          have hni : ¬ (T.length : Int) < (T.length : Int) := by omega
          have HLK := Lib.hid (linkOk_of h16 (fun k n hn => (Hpre.out k n (List.getElem?_eq_some_iff.1 hn).1 hn).1))
          go_wp2_with fail
          refine (specLinksOf (some ⟨b, off, none⟩) cap T wr hl HS.out (hc.ext hb)).mono ?_
          rintro e w2 ⟨v, rfl, ⟨L, ho, hR⟩, hE⟩
          obtain rfl : L = cntL T.length (kids T) := by
            rcases hR with ⟨_, h⟩ | ⟨h, _⟩
            · exact h
            · exact absurd HLK.out h
          obtain ⟨al, cl, hv, _, hrl, _⟩ := view_owns encInt1_len ho
          rw [cntL_len] at hv
          subst hv
          have HB2 := Lib.hid (hb.trans hE)
          have HRL := Lib.hid hrl
          clear hR ho hrl hb hE hni
          go_wp2
          go_loopw [6] (fun i wr => ∃ k : Nat, 1 ≤ k ∧ k ≤ T.length ∧ i = .int .i64 k ∧ (∀ (j : Nat) n, j < k → T[j]? = some n → 0 < j → LkOk T j n) ∧ Ext w2 wr) (fun i _ => T.length - (intOf i).toNat)
          case atStart => exact ⟨1, Nat.le_refl _, h1, rfl, fun j n h _ h0 => by omega, Ext.refl _⟩
          case round =>
            obtain ⟨k, hk1, hk, rfl, hpre2, hb3⟩ := hrel
            have Hpre2 := Lib.hid hpre2
            have hb := HB2.out.trans hb3
            clear hpre2
            by_cases hlt : k < T.length
            rotate_left
            · obtain rfl : k = T.length := by omega
              have hni : ¬ (T.length : Int) < (T.length : Int) := by omega
              have HO := Lib.hid (tree_spec h1 h16 HRT.out Hpre.out Hpre2.out)
              go_wp2
              go_ret
              exact RetB.mk true rfl (by simp [HO.out]) hb
            · obtain ⟨x, b', off', an, cn, ak, ck, hx, hpe, c0, _⟩ := atNd (hc.ext hb) hlt
              obtain ⟨rfl, rfl⟩ : b = b' ∧ off = off' := by simpa using hpe
              obtain ⟨y, b2, off2, hy, rfl, e0⟩ := atInt (HRL.out.ext hb3) (show k < (cntL T.length (kids T)).length by rw [cntL_len]; exact hlt)
              rw [cntL_get hlt] at hy
              obtain rfl := Option.some.inj hy
              have Hx := Lib.hid hx
              have i0 : (k : Int) < (T.length : Int) := by omega
              have HQ := Lib.hid (show LkOk T k x ↔ 1 ≤ (kids T).count (k : Int) ∧ (x.fold = true → (kids T).count (k : Int) ≤ 1) from Iff.rfl)
              have HBL : Hid (¬ LkOk T k x → ¬ TreeOk T) := Lib.hid (fun h ht => h (ht.links k x hx (by omega)))
              have HNX : Hid (LkOk T k x → ∀ (j : Nat) n, j < k + 1 → T[j]? = some n → 0 < j → LkOk T j n) := Lib.hid (fun h => all_next (Q := fun j n => 0 < j → LkOk T j n) Hpre2.out hx (fun _ => h))
              generalize (kids T).count (k : Int) = c at *
              clear hx hy hpe
              by_cases hc0 : c < 1
              · have HB := Lib.hid (HBL.out (fun h => by have := (HQ.out.1 h).1; omega))
                have t1 : (c : Int) < 1 := by omega
                clear hc0
                go_wp2
                go_ret
                exact RetB.mk false rfl (by simp [HB.out]) hb
              · have t1 : ¬ (c : Int) < 1 := by omega
                cases hxf : x.fold with
                | false =>
                  have HN := Lib.hid (HNX.out (HQ.out.2 ⟨by omega, fun h => Bool.noConfusion (hxf.symm.trans h)⟩))
                  rw [hxf] at c0
                  clear hxf hc0
                  go_wp2
                  go_roundw
                  case rel => exact ⟨k + 1, by omega, by omega, by go_num, HN.out, hb3⟩
                  case measure => simp [intOf]; omega
                | true =>
                  by_cases hc1 : 1 < c
                  · have HB := Lib.hid (HBL.out (fun h => by have := (HQ.out.1 h).2 hxf; omega))
                    have t2 : (1 : Int) < (c : Int) := by omega
                    rw [hxf] at c0
                    clear hxf hc0 hc1
                    go_wp2
                    go_ret
                    exact RetB.mk false rfl (by simp [HB.out]) hb
                  · have HN := Lib.hid (HNX.out (HQ.out.2 ⟨by omega, fun _ => by omega⟩))
                    have t2 : ¬ (1 : Int) < (c : Int) := by omega
                    rw [hxf] at c0
                    clear hxf hc0 hc1
                    go_wp2
                    go_roundw
                    case rel => exact ⟨k + 1, by omega, by omega, by go_num, HN.out, hb3⟩
                    case measure => simp [intOf]; omega
end Go.Proofs.Ytnibbldfohbfkaa

/- Trees: contracts of the reference's AboveOf, FindNode, PlaceFor. Condition: texts of at most 10^6 bytes, rows of at most 2^20. -/
namespace Go.Proofs.Ytnibbldfohbfkaa
open Go.RowKit

noncomputable def abOf (s : ByteArray) : ByteArray := match aboveOf s with
  | none => ⟨#[]⟩
  | some (a, _) => a
theorem above_no {s : ByteArray} (h : PartsR s [] false) : abOf s = ⟨#[]⟩ ∧ lastOf s = ⟨#[]⟩ ∧ (aboveOf s).isSome = false := by
  have h1 := partsR_of h
  have h2 : aboveOf s = none := by rw [aboveOf, h1]; rfl
  rw [abOf, lastOf, h2]
  exact ⟨rfl, rfl, rfl⟩
theorem above_nil {s : ByteArray} (h : PartsR s [] true) : abOf s = ⟨#[]⟩ ∧ lastOf s = ⟨#[]⟩ ∧ (aboveOf s).isSome = false := by
  have h1 := partsR_of h
  have h2 : aboveOf s = none := by rw [aboveOf, h1]; rfl
  rw [abOf, lastOf, h2]
  exact ⟨rfl, rfl, rfl⟩
theorem above_some {s : ByteArray} {P : List ByteArray} {m : Nat} {l : ByteArray} (h : PartsR s P true) (hm : P.length = m + 1) (hl : P[m]? = some l) : abOf s = joinPath (P.take m) ∧ lastOf s = l ∧ (aboveOf s).isSome = true := by
  have h1 := partsR_of h
  have h3 : P.getLast? = some l := by rw [List.getLast?_eq_getElem?, hm]; exact hl
  have h4 : P.dropLast = P.take m := by rw [List.dropLast_eq_take, hm]; rfl
  have h2 : aboveOf s = some (joinPath (P.take m), l) := by rw [aboveOf, h1, if_pos rfl]; dsimp only; rw [h3, h4]
  rw [abOf, lastOf, h2]
  exact ⟨rfl, rfl, rfl⟩
theorem parts_len {s : ByteArray} {P : List ByteArray} {ok : Bool} (h : PartsR s P ok) : P.length ≤ 6 ∧ ∀ p ∈ P, p.size ≤ 8 := by
  rcases h with ⟨_, h1, _⟩ | ⟨_, rfl, _⟩
  · exact ⟨h1.2, fun p hp => (h1.1 p hp).2.2⟩
  · exact ⟨Nat.zero_le _, fun p hp => by cases hp⟩
theorem parts_false {s : ByteArray} {P : List ByteArray} (h : PartsR s P false) : P = [] := by
  rcases h with ⟨h1, _⟩ | ⟨_, h1, _⟩
  · cases h1
  · exact h1

theorem Calls.at_v {P : Program} {f : FuncId} {args : Array Value} {w : World} {s : ExtW w} {v : Value} (h : Calls P f args s.x (RetV (fun v' _ => v' = v) s.x)) : Calls P f args s.x fun e w'' => e = .returned v ∧ ∃ s' : ExtW w, w'' = s'.x :=
  h.mono fun e w2 ⟨v', he, hb, hE⟩ => by
    subst hb
    exact ⟨he, ⟨w2, s.h.trans hE⟩, rfl⟩
theorem Calls.at_e {P : Program} {f : FuncId} {args : Array Value} {w : World} {s : ExtW w} {v : Value} (h : Calls P f args s.x (fun e w' => e = .returned v ∧ Ext s.x w')) : Calls P f args s.x fun e w'' => e = .returned v ∧ ∃ s' : ExtW w, w'' = s'.x :=
  h.mono fun e w2 ⟨he, hE⟩ => ⟨he, ⟨w2, s.h.trans hE⟩, rfl⟩

set_option maxRecDepth 10000 in
set_option maxHeartbeats 4000000 in
theorem specAboveOf (s : ByteArray) (w : World) (hs : s.size ≤ 1048576) :
    Calls Try.prog 60 #[.string s] w fun e w' => e = .returned (.tuple #[.string (abOf s), .string (lastOf s), .bool (aboveOf s).isSome]) ∧ Ext w w' := by
  go_enter Try.func60, Try.ntmps60
  go_wp2_with fail
  refine (specPathParts s w hs).mono ?_
  rintro e w1 ⟨u, P, ok, rfl, hR, S⟩
  have HR := Lib.hid hR
  obtain ⟨hP6, hP8⟩ := parts_len hR
  cases ok with
  | false =>
    obtain rfl := parts_false hR
    obtain ⟨e1, e2, e3⟩ := above_no hR
    have HE := Lib.hid (And.intro e1 (And.intro e2 e3))
    clear hR e1 e2 e3
    go_wp2
    try simp only [Exit.inBlock, Exit.then]
    refine bodyPost_ret (v := .tuple #[.string ⟨#[]⟩, .string ⟨#[]⟩, .bool false]) (by simp [results, Try.results60, go_sem]) rfl ?_
    exact ⟨by rw [HE.out.1, HE.out.2.1, HE.out.2.2], S.ext⟩
  | true =>
    have hrow := S.row 0 rfl
    obtain ⟨a, c, rfl, hPc, hrd, _⟩ := view_owns encStr1_len hrow
    clear hrow
    by_cases hP : P = []
    · subst hP
      obtain ⟨e1, e2, e3⟩ := above_nil hR
      have HE := Lib.hid (And.intro e1 (And.intro e2 e3))
      clear hR e1 e2 e3
      go_wp2
      try simp only [Exit.inBlock, Exit.then]
      refine bodyPost_ret (v := .tuple #[.string ⟨#[]⟩, .string ⟨#[]⟩, .bool false]) (by simp [results, Try.results60, go_sem]) rfl ?_
      exact ⟨by rw [HE.out.1, HE.out.2.1, HE.out.2.2], S.ext⟩
    · obtain ⟨m, hm⟩ : ∃ m, P.length = m + 1 := ⟨P.length - 1, by have := List.length_pos_iff.2 hP; omega⟩
      obtain ⟨l, b, off, hl, rfl, c0⟩ := atStr hrd (show m < P.length by omega)
      obtain ⟨e1, e2, e3⟩ := above_some hR hm hl
      have HE := Lib.hid (And.intro e1 (And.intro e2 e3))
      have hwm : IntKind.i64.wrap ((P.length : Int) - 1) = (m : Int) := by rw [show (P.length : Int) - 1 = m by omega]; exact IntWalk.i64_in _ (by omega)
      have t0 : ((P.length : Int) == 0) = false := by simp; omega
      have hmi : (m : Int) < (P.length : Int) := by omega
      have hmc : (m : Int) ≤ (c : Int) := by omega
      have hml : (P.take m).length = m := by rw [List.length_take]; omega
      have Hml := Lib.hid hml
      have hrt := hrd.take m
      have Hrt := Lib.hid hrt
      have HX := Lib.hid S.ext
      clear hR e1 e2 e3 hl hm hml hrt hrd S hP
      have HP8 := Lib.hid hP8
      clear hP8
      go_wp2_with fail
      have q0 := ExtW.cell c0
      have bl := ExtW.lt c0
      have HJ : Hid (∀ s : ExtW w1, Calls Try.prog 58 #[.slice (some ⟨b, off, none⟩) m c] s.x fun e w'' => e = .returned (.string (joinPath (P.take m))) ∧ ∃ s' : ExtW w1, w'' = s'.x) := Lib.hid (fun s => by
        have hC := specJoinPath (some ⟨b, off, none⟩) c (P.take m) s.x (by have := Hml.out; omega) (fun x hx => by have := HP8.out x (List.mem_of_mem_take hx); omega) (Hrt.out.ext s.h)
        rw [Hml.out] at hC
        exact Calls.at_v hC)
      clear c0
      (refine wp_region_quiet_ext (by kernel_rfl) (by kernel_rfl) ?_; (repeat (go_big_quiet_step ((go_at_call 58; exact HJ.out _)))); refine wpQuiet_nil ?_; intro _ hw'; obtain ⟨sq, hw''⟩ := hw'; subst hw'')
      obtain ⟨w3, hw3⟩ := sq
      go_wp2
      try simp only [Exit.inBlock, Exit.then]
      refine bodyPost_ret (v := .tuple #[.string (joinPath (P.take m)), .string l, .bool true]) (by simp [results, Try.results60, go_sem]) rfl ?_
      exact ⟨by rw [HE.out.1, HE.out.2.1, HE.out.2.2], HX.out.trans hw3⟩

end Go.Proofs.Ytnibbldfohbfkaa

/- Trees: contracts of the reference's FindNode, PlaceFor. Condition: texts of at most 10^6 bytes, rows of at most 2^20. -/
namespace Go.Proofs.Ytnibbldfohbfkaa
open Go.RowKit

section
variable {T : List Nd} {c : Cr} {P : List ByteArray} {p : ByteArray} {m k : Nat} {x : Nd}
theorem ff_drop (h : P[k]? = some p) (i : Int) : findFrom T c (P.drop k) i = findFrom T c (p :: P.drop (k + 1)) i := by
  obtain ⟨h1, h2⟩ := List.getElem?_eq_some_iff.1 h
  rw [List.drop_eq_getElem_cons h1, h2]
theorem ff_file (hx : T[m]? = some x) (hf : x.fold = false) : findFrom T c (p :: P) (m : Int) = (-1, 4) := by
  rw [findFrom, Int.toNat_natCast, hx]
  dsimp only
  rw [if_pos hf]
theorem ff_may (hx : T[m]? = some x) (hf : x.fold = true) (hm : c.may x 1 = false) : findFrom T c (p :: P) (m : Int) = (-1, 3) := by
  rw [findFrom, Int.toNat_natCast, hx]
  dsimp only
  rw [if_neg (by simp [hf]), if_pos hm]
theorem ff_miss (hx : T[m]? = some x) (hf : x.fold = true) (hm : c.may x 1 = true) (hk : kidOf x.N x.K p < 0) : findFrom T c (p :: P) (m : Int) = (-1, 2) := by
  rw [findFrom, Int.toNat_natCast, hx]
  dsimp only
  rw [if_neg (by simp [hf]), if_neg (by simp [hm]), if_pos hk]
theorem ff_next (hx : T[m]? = some x) (hf : x.fold = true) (hm : c.may x 1 = true) (hk : ¬ kidOf x.N x.K p < 0) : findFrom T c (p :: P) (m : Int) = findFrom T c P (kidOf x.N x.K p) := by
  rw [findFrom, Int.toNat_natCast, hx]
  dsimp only
  rw [if_neg (by simp [hf]), if_neg (by simp [hm]), if_neg hk]
theorem find_no {s : ByteArray} (h : PartsR s P false) : findNode T c s = (-1, 1) := by rw [findNode, partsR_of h]; rfl
theorem find_bad {s : ByteArray} (h : PartsR s P true) (hT : ¬ (TreeOk T ∧ c.ok)) : findNode T c s = (-1, 1) := by
  rw [findNode, partsR_of h, if_pos rfl]
  dsimp only
  rw [if_neg hT]
theorem find_go {s : ByteArray} (h : PartsR s P true) (hT : TreeOk T ∧ c.ok) : findNode T c s = findFrom T c P 0 := by
  rw [findNode, partsR_of h, if_pos rfl]
  dsimp only
  rw [if_pos hT]
end

set_option maxRecDepth 10000 in
set_option maxHeartbeats 8000000 in
theorem specFindNode (a : Option Addr) (cap : Nat) (T : List Nd) (c : Cr) (s : ByteArray) (w : World) (hs : s.size ≤ 1048576) (hl : T.length ≤ 1048576) (hT : ∀ x ∈ T, SmN 1048576 x) (hc : RdN w a T) :
    Calls Try.prog 63 #[.slice a T.length cap, .agg #[.int .i64 c.r, .int .i64 c.a, .int .i64 c.s, .int .i64 c.g], .string s] w fun e w' => e = .returned (.tuple #[.int .i64 (findNode T c s).1, .int .i64 (findNode T c s).2]) ∧ Ext w w' := by
  obtain ⟨cr, ca, cs, cg⟩ := c
  have HT := Lib.hid hT
  clear hT
  dsimp only
  go_enter Try.func63, Try.ntmps63
  have S := Sep.start w
  replace S : Sep w (w.alloc (.cells #[.int .i64 cr, .int .i64 ca, .int .i64 cs, .int .i64 cg] 30)) [plBox w.heap.size #[.int .i64 cr, .int .i64 ca, .int .i64 cs, .int .i64 cg] 30] := S.alloc_at (by simp) _ _
  go_wp2_with fail
  generalize (w.alloc (.cells #[.int .i64 cr, .int .i64 ca, .int .i64 cs, .int .i64 cg] 30)) = w1 at *
  refine (specPathParts s w1 hs).mono ?_
  rintro e w2 ⟨u, P, ok, rfl, hR, S2⟩
  replace S : Sep w w2 [plRow 9 1 encStr1 u P, plBox w.heap.size #[.int .i64 cr, .int .i64 ca, .int .i64 cs, .int .i64 cg] 30] := S.call S2
  clear S2
  have HR := Lib.hid hR
  obtain ⟨hP6, hP8⟩ := parts_len hR
  clear hP8 hR
  cases ok with
  | false =>
    have HE := Lib.hid (find_no (T := T) (c := ⟨cr, ca, cs, cg⟩) HR.out)
    go_wp2
    go_ret2
    exact ⟨by rw [HE.out]; rfl, S.ext⟩
  | true =>
    go_wp2_with fail
    refine (specTreeValid a cap T w2 hl HT.out (hc.ext S.ext)).mono ?_
    rintro e w3 ⟨v, rfl, hv, hE⟩
    have Hv := Lib.hid hv
    clear hv
    replace S : Sep w w3 [plRow 9 1 encStr1 u P, plBox w.heap.size #[.int .i64 cr, .int .i64 ca, .int .i64 cs, .int .i64 cg] 30] := S.step hE
    clear hE
    cases v with
    | false =>
      have HE := Lib.hid (find_bad (T := T) (c := ⟨cr, ca, cs, cg⟩) HR.out (fun h => Bool.noConfusion (Hv.out.2 h.1)))
      go_wp2
      go_ret2
      exact ⟨by rw [HE.out]; rfl, S.ext⟩
    | true =>
      have HTr := Lib.hid (Hv.out.1 rfl)
      clear Hv
      obtain ⟨bc0, bf0⟩ : w3.cell? ⟨w.heap.size, 0, none⟩ = some (.int .i64 cr) ∧ w3.frozen? ⟨w.heap.size, 0, none⟩ = false := bx (S.box 1 rfl) 0 rfl
      obtain ⟨bc1, bf1⟩ : w3.cell? ⟨w.heap.size, 1, none⟩ = some (.int .i64 ca) ∧ w3.frozen? ⟨w.heap.size, 1, none⟩ = false := bx (S.box 1 rfl) 1 rfl
      obtain ⟨bc2, bf2⟩ : w3.cell? ⟨w.heap.size, 2, none⟩ = some (.int .i64 cs) ∧ w3.frozen? ⟨w.heap.size, 2, none⟩ = false := bx (S.box 1 rfl) 2 rfl
      obtain ⟨bc3, bf3⟩ : w3.cell? ⟨w.heap.size, 3, none⟩ = some (.int .i64 cg) ∧ w3.frozen? ⟨w.heap.size, 3, none⟩ = false := bx (S.box 1 rfl) 3 rfl
      go_wp2_with fail
      refine (specCredValid cr ca cs cg w3).mono ?_
      rintro e w4 ⟨v, rfl, hv, hE⟩
      have Hv := Lib.hid hv
      clear hv
      clear bc0 bf0 bc1 bf1 bc2 bf2 bc3 bf3
      replace S : Sep w w4 [plRow 9 1 encStr1 u P, plBox w.heap.size #[.int .i64 cr, .int .i64 ca, .int .i64 cs, .int .i64 cg] 30] := S.step hE
      clear hE
      cases v with
      | false =>
        have HE := Lib.hid (find_bad (T := T) (c := ⟨cr, ca, cs, cg⟩) HR.out (fun h => Bool.noConfusion (Hv.out.2 h.2)))
        go_wp2
        go_ret2
        exact ⟨by rw [HE.out]; rfl, S.ext⟩
      | true =>
        have HE := Lib.hid (find_go (T := T) (c := ⟨cr, ca, cs, cg⟩) HR.out ⟨HTr.out, Hv.out.1 rfl⟩)
        clear Hv HR
        have hrow := S.row 0 rfl
        obtain ⟨pa, pc, rfl, hPc, _, _⟩ := view_owns encStr1_len hrow
        clear hrow
        have hpos := HTr.out.pos
        go_wp2
        go_loopw [10, 11, 35, 42] (fun at_ i _ _ wr => ∃ k m : Nat, k ≤ P.length ∧ m < T.length ∧ at_ = .int .i64 m ∧ i = .int .i64 k ∧ findFrom T ⟨cr, ca, cs, cg⟩ P 0 = findFrom T ⟨cr, ca, cs, cg⟩ (P.drop k) (m : Int) ∧ Sep w wr [plRow 9 1 encStr1 (.slice pa P.length pc) P, plBox w.heap.size #[.int .i64 cr, .int .i64 ca, .int .i64 cs, .int .i64 cg] 30]) (fun _ i _ _ _ => P.length - (intOf i).toNat)
        case atStart => exact ⟨0, 0, Nat.zero_le _, by omega, rfl, rfl, by rw [List.drop_zero]; rfl, S⟩
        case round =>
          clear S
          obtain ⟨k, m, hk, hm, rfl, rfl, hpre, S⟩ := hrel
          have Hpre := Lib.hid hpre
          clear hpre
          by_cases hlt : k < P.length
          rotate_left
          · obtain rfl : k = P.length := by omega
            have hni : ¬ (P.length : Int) < (P.length : Int) := by omega
            have HX := Lib.hid (HE.out.trans (Hpre.out.trans (by rw [List.drop_length]; rfl : _ = ((m : Int), (0 : Int)))))
            go_wp2
            go_ret2
            exact ⟨by rw [HX.out]; rfl, S.ext⟩
          · obtain ⟨x, b', off, an, cn, ak, ck, hx, rfl, c0, c1, c2, c3, c4, c5, c6, hcn, hck, hrn, hrk⟩ := atNd hc hm
            have hrP : Rd 1 encStr1 wr pa P := S.rd 0 encStr1_len rfl rfl
            obtain ⟨p, b2, off2, hp, rfl, e0⟩ := atStr hrP hlt
            have Hx := Lib.hid hx
            have hN := HTr.out.nodes m x hx
            have HNl := Lib.hid hN.len
            have hsx := HT.out x (List.mem_of_getElem? hx)
            have hNl : x.N.length ≤ 1048576 := hsx.2.1
            have Hd := Lib.hid (HE.out.trans (Hpre.out.trans (ff_drop hp (m : Int))))
            have i0 : (k : Int) < (P.length : Int) := by omega
            have i1 : (m : Int) < (T.length : Int) := by omega
            have hE := S.ext
            have d0 := cell_ext hE c0
            have d1 := cell_ext hE c1
            have d2 := cell_ext hE c2
            have d3 := cell_ext hE c3
            have d4 := cell_ext hE c4
            have d5 := cell_ext hE c5
            have d6 := cell_ext hE c6
            have Hrn := Lib.hid (hrn.ext hE)
            have Hrk := Lib.hid (hrk.ext hE)
            clear hx hp hN hsx c0 c1 c2 c3 c4 c5 c6 hcn hck hrn hrk hrP hE
            cases hf : x.fold with
            | false =>
              have HX := Lib.hid (Hd.out.trans (ff_file Hx.out hf))
              rw [hf] at d0
              clear hf
              go_wp2
              go_ret2
              exact ⟨by rw [HX.out]; rfl, S.ext⟩
            | true =>
              have Hf := Lib.hid hf
              obtain ⟨bc0, bf0⟩ : wr.cell? ⟨w.heap.size, 0, none⟩ = some (.int .i64 cr) ∧ wr.frozen? ⟨w.heap.size, 0, none⟩ = false := bx (S.box 1 rfl) 0 rfl
              obtain ⟨bc1, bf1⟩ : wr.cell? ⟨w.heap.size, 1, none⟩ = some (.int .i64 ca) ∧ wr.frozen? ⟨w.heap.size, 1, none⟩ = false := bx (S.box 1 rfl) 1 rfl
              obtain ⟨bc2, bf2⟩ : wr.cell? ⟨w.heap.size, 2, none⟩ = some (.int .i64 cs) ∧ wr.frozen? ⟨w.heap.size, 2, none⟩ = false := bx (S.box 1 rfl) 2 rfl
              obtain ⟨bc3, bf3⟩ : wr.cell? ⟨w.heap.size, 3, none⟩ = some (.int .i64 cg) ∧ wr.frozen? ⟨w.heap.size, 3, none⟩ = false := bx (S.box 1 rfl) 3 rfl
              have HM : Hid (∀ s : ExtW wr, Calls Try.prog 64 #[.agg #[.int .i64 cr, .int .i64 ca, .int .i64 cs, .int .i64 cg], .agg #[.bool true, .int .i64 x.own, .int .i64 x.grp, .int .i64 x.mode, .string x.text, .slice an x.N.length cn, .slice ak x.K.length ck], .int .i64 1] s.x fun e w'' => e = .returned (.bool (Cr.may ⟨cr, ca, cs, cg⟩ x 1)) ∧ ∃ s' : ExtW wr, w'' = s'.x) := Lib.hid (fun s => by
                have hC := specMay cr ca cs cg 1 x an ak cn ck s.x
                rw [hf] at hC
                exact Calls.at_e hC)
              rw [hf] at d0
              clear hf
              go_wp2_with fail
              have q0 := ExtW.cell d0
              have q1 := ExtW.cell d1
              have q2 := ExtW.cell d2
              have q3 := ExtW.cell d3
              have q4 := ExtW.cell d4
              have q5 := ExtW.cell d5
              have q6 := ExtW.cell d6
              have bl := ExtW.lt d0
              have r0 := ExtW.cell bc0
              have r1 := ExtW.cell bc1
              have r2 := ExtW.cell bc2
              have r3 := ExtW.cell bc3
              have br := ExtW.lt bc0
              have ax0 : ∀ (hM0 : Cr.may ⟨cr, ca, cs, cg⟩ x 1 = true), True := fun _ => trivial
              clear ax0
              have S9 := Lib.hid S
              clear d0 d1 d2 d3 d4 d5 d6 bc0 bc1 bc2 bc3 bf0 bf1 bf2 bf3 S
              cases hmay : Cr.may ⟨cr, ca, cs, cg⟩ x 1 with
              | false =>
                have HX := Lib.hid (Hd.out.trans (ff_may Hx.out Hf.out hmay))
                rw [hmay] at HM
                clear hmay
                (refine wp_region_quiet_ext (by kernel_rfl) (by kernel_rfl) ?_; (repeat (go_big_quiet_step ((go_at_call 64; exact HM.out _)))); refine wpQuiet_nil ?_; intro _ hw'; obtain ⟨sq, hw''⟩ := hw'; subst hw'')
                obtain ⟨w5, hw5⟩ := sq
                go_wp2
                go_ret2
                exact ⟨by rw [HX.out]; rfl, S9.out.ext.trans hw5⟩
              | true =>
                have Hmay := Lib.hid hmay
                rw [hmay] at HM
                clear hmay
                (refine wp_region_quiet_ext (by kernel_rfl) (by kernel_rfl) ?_; (repeat (go_big_quiet_step ((go_at_call 64; exact HM.out _)))); refine wpQuiet_nil ?_; intro _ hw'; obtain ⟨sq, hw''⟩ := hw'; subst hw'')
                obtain ⟨w5, hw5⟩ := sq
                have S10 := S9.out.step hw5
                have p0 := q0 ⟨w5, hw5⟩
                have p1 := q1 ⟨w5, hw5⟩
                have p2 := q2 ⟨w5, hw5⟩
                have p3 := q3 ⟨w5, hw5⟩
                have p4 := q4 ⟨w5, hw5⟩
                have p5 := q5 ⟨w5, hw5⟩
                have p6 := q6 ⟨w5, hw5⟩
                have pe := cell_ext hw5 e0
                have HK : Hid (∀ s : ExtW w5, Calls Try.prog 65 #[.agg #[.bool true, .int .i64 x.own, .int .i64 x.grp, .int .i64 x.mode, .string x.text, .slice an x.N.length cn, .slice ak x.K.length ck], .string p] s.x fun e w'' => e = .returned (.int .i64 (kidOf x.N x.K p)) ∧ ∃ s' : ExtW w5, w'' = s'.x) := Lib.hid (fun s => by
                  have hC := specKid x an ak cn ck p s.x hNl HNl.out (Hrn.out.ext (hw5.trans s.h)) (Hrk.out.ext (hw5.trans s.h))
                  rw [Hf.out] at hC
                  exact Calls.at_e hC)
                have HS10 := Lib.hid S10
                clear q0 q1 q2 q3 q4 q5 q6 bl r0 r1 r2 r3 br S9 S10 e0 HM
                go_wp2_with fail
                have q0 := ExtW.cell p0
                have q1 := ExtW.cell p1
                have q2 := ExtW.cell p2
                have q3 := ExtW.cell p3
                have q4 := ExtW.cell p4
                have q5 := ExtW.cell p5
                have q6 := ExtW.cell p6
                have qe := ExtW.cell pe
                have bl := ExtW.lt p0
                have be := ExtW.lt pe
                clear p0 p1 p2 p3 p4 p5 p6 pe
                by_cases hkid : kidOf x.N x.K p < 0
                · have HX := Lib.hid (Hd.out.trans (ff_miss Hx.out Hf.out Hmay.out hkid))
                  (refine wp_region_quiet_ext (by kernel_rfl) (by kernel_rfl) ?_; (repeat (go_big_quiet_step ((go_at_call 65; exact HK.out _)))); refine wpQuiet_nil ?_; intro _ hw'; obtain ⟨sq, hw''⟩ := hw'; subst hw'')
                  obtain ⟨w6, hw6⟩ := sq
                  clear q0 q1 q2 q3 q4 q5 q6 qe bl be
                  go_wp2
                  go_ret2
                  exact ⟨by rw [HX.out]; rfl, HS10.out.ext.trans hw6⟩
                · have hin := kidOf_in HTr.out Hx.out (p := p) (by omega)
                  have HX := Lib.hid (Hd.out.trans (ff_next Hx.out Hf.out Hmay.out hkid))
                  obtain ⟨j, hj⟩ : ∃ j : Nat, kidOf x.N x.K p = (j : Int) := ⟨(kidOf x.N x.K p).toNat, by omega⟩
                  rw [hj] at HK HX hin
                  clear hj hkid
                  (refine wp_region_quiet_ext (by kernel_rfl) (by kernel_rfl) ?_; (repeat (go_big_quiet_step ((go_at_call 65; exact HK.out _)))); refine wpQuiet_nil ?_; intro _ hw'; obtain ⟨sq, hw''⟩ := hw'; subst hw'')
                  obtain ⟨w6, hw6⟩ := sq
                  clear q0 q1 q2 q3 q4 q5 q6 qe bl be
                  go_wp2
                  go_roundw
                  case rel => exact ⟨k + 1, j, by omega, by omega, rfl, by go_num, HE.out.symm.trans HX.out, HS10.out.step hw6⟩
                  case measure => simp [intOf]; omega
end Go.Proofs.Ytnibbldfohbfkaa

/- Trees: contract of the reference's PlaceFor. Condition: texts of at most 10^6 bytes, rows of at most 2^20. -/
namespace Go.Proofs.Ytnibbldfohbfkaa
open Go.RowKit

theorem abOf_size (s : ByteArray) : (abOf s).size ≤ 54 := by
  rw [abOf]
  split
  · exact Nat.zero_le _
  · rename_i a n h
    rw [aboveOf] at h
    split at h
    · cases h
    · split at h
      · cases h
      · cases h; exact joinPath_size _
section
variable {T : List Nd} {c : Cr} {s : ByteArray} {m : Nat} {x : Nd}
theorem pf_no (h : (aboveOf s).isSome = false) : placeFor T c s = (-1, 1) := by
  have : aboveOf s = none := by simpa using h
  rw [placeFor, this]
theorem pf_some (h : (aboveOf s).isSome = true) : placeFor T c s = if (findNode T c (abOf s)).2 ≠ 0 then (-1, (findNode T c (abOf s)).2) else match T[(findNode T c (abOf s)).1.toNat]? with
    | none => (-1, 1)
    | some x => if x.fold = false then (-1, 4) else if c.may x 3 = false then (-1, 3) else if 0 ≤ kidOf x.N x.K (lastOf s) then (-1, 5) else ((findNode T c (abOf s)).1, 0) := by
  obtain ⟨⟨a, n⟩, h'⟩ := Option.isSome_iff_exists.1 h
  rw [placeFor, abOf, lastOf, h']
  rfl
theorem pf_fault (h : (aboveOf s).isSome = true) (hf : (findNode T c (abOf s)).2 ≠ 0) : placeFor T c s = (-1, (findNode T c (abOf s)).2) := by rw [pf_some h, if_pos hf]
theorem pf_at (h : (aboveOf s).isSome = true) (hF : findNode T c (abOf s) = ((m : Int), 0)) (hx : T[m]? = some x) : placeFor T c s = if x.fold = false then (-1, 4) else if c.may x 3 = false then (-1, 3) else if 0 ≤ kidOf x.N x.K (lastOf s) then (-1, 5) else ((m : Int), 0) := by
  rw [pf_some h, hF, if_neg (by simp)]
  dsimp only
  rw [Int.toNat_natCast, hx]
theorem find_cases (T : List Nd) (c : Cr) (s : ByteArray) : (∃ m : Nat, findNode T c s = ((m : Int), 0) ∧ m < T.length ∧ TreeOk T ∧ c.ok) ∨ ∃ f : Int, f ≠ 0 ∧ findNode T c s = (-1, f) := by
  have h := findNode_in T c s
  generalize findNode T c s = F at *
  obtain ⟨n, f⟩ := F
  rcases h with ⟨h1, h2, h3, h4, h5⟩ | ⟨h1, h2⟩
  · refine .inl ⟨n.toNat, ?_, ?_, h4, h5⟩
    · dsimp only at h1 h2; rw [h1, show ((n.toNat : Nat) : Int) = n by omega]
    · dsimp only at h2 h3; omega
  · dsimp only at h1 h2; exact .inr ⟨f, h1, by rw [h2]⟩
end

set_option maxRecDepth 10000 in
set_option maxHeartbeats 8000000 in
theorem specPlaceFor (a : Option Addr) (cap : Nat) (T : List Nd) (c : Cr) (s : ByteArray) (w : World) (hs : s.size ≤ 1048576) (hl : T.length ≤ 1048576) (hT : ∀ x ∈ T, SmN 1048576 x) (hc : RdN w a T) :
    Calls Try.prog 59 #[.slice a T.length cap, .agg #[.int .i64 c.r, .int .i64 c.a, .int .i64 c.s, .int .i64 c.g], .string s] w fun e w' => e = .returned (.tuple #[.int .i64 (placeFor T c s).1, .int .i64 (placeFor T c s).2]) ∧ Ext w w' := by
  obtain ⟨cr, ca, cs, cg⟩ := c
  have HT := Lib.hid hT
  clear hT
  dsimp only
  go_enter Try.func59, Try.ntmps59
  have S := Sep.start w
  replace S : Sep w (w.alloc (.cells #[.int .i64 cr, .int .i64 ca, .int .i64 cs, .int .i64 cg] 30)) [plBox w.heap.size #[.int .i64 cr, .int .i64 ca, .int .i64 cs, .int .i64 cg] 30] := S.alloc_at (by simp) _ _
  go_wp2_with fail
  generalize (w.alloc (.cells #[.int .i64 cr, .int .i64 ca, .int .i64 cs, .int .i64 cg] 30)) = w1 at *
  refine (specAboveOf s w1 hs).mono ?_
  rintro e w2 ⟨rfl, hE⟩
  replace S : Sep w w2 [plBox w.heap.size #[.int .i64 cr, .int .i64 ca, .int .i64 cs, .int .i64 cg] 30] := S.step hE
  clear hE
  obtain ⟨bc0, bf0⟩ : w2.cell? ⟨w.heap.size, 0, none⟩ = some (.int .i64 cr) ∧ w2.frozen? ⟨w.heap.size, 0, none⟩ = false := bx (S.box 0 rfl) 0 rfl
  obtain ⟨bc1, bf1⟩ : w2.cell? ⟨w.heap.size, 1, none⟩ = some (.int .i64 ca) ∧ w2.frozen? ⟨w.heap.size, 1, none⟩ = false := bx (S.box 0 rfl) 1 rfl
  obtain ⟨bc2, bf2⟩ : w2.cell? ⟨w.heap.size, 2, none⟩ = some (.int .i64 cs) ∧ w2.frozen? ⟨w.heap.size, 2, none⟩ = false := bx (S.box 0 rfl) 2 rfl
  obtain ⟨bc3, bf3⟩ : w2.cell? ⟨w.heap.size, 3, none⟩ = some (.int .i64 cg) ∧ w2.frozen? ⟨w.heap.size, 3, none⟩ = false := bx (S.box 0 rfl) 3 rfl
  have hab := abOf_size s
  go_wp2_with fail
  refine (specFindNode a cap T ⟨cr, ca, cs, cg⟩ (abOf s) w2 (by omega) hl HT.out (hc.ext S.ext)).mono ?_
  rintro e w3 ⟨rfl, hE⟩
  clear bc0 bf0 bc1 bf1 bc2 bf2 bc3 bf3
  replace S : Sep w w3 [plBox w.heap.size #[.int .i64 cr, .int .i64 ca, .int .i64 cs, .int .i64 cg] 30] := S.step hE
  clear hE
  cases hso : (aboveOf s).isSome with
  | false =>
    have HX := Lib.hid (pf_no (T := T) (c := ⟨cr, ca, cs, cg⟩) hso)
    clear hso
    go_wp2
    go_ret2
    exact ⟨by rw [HX.out]; rfl, S.ext⟩
  | true =>
    rcases find_cases T ⟨cr, ca, cs, cg⟩ (abOf s) with ⟨m, hF, hm, hTr, _⟩ | ⟨f, hf, hF⟩
    rotate_left
    · have HX := Lib.hid (pf_fault (T := T) (c := ⟨cr, ca, cs, cg⟩) hso (by rw [hF]; exact hf))
      rw [hF] at HX ⊢
      have tf : (f == 0) = false := by simpa using hf
      clear hso hF hf
      dsimp only at HX ⊢
      go_wp2
      go_ret2
      exact ⟨by rw [HX.out]; rfl, S.ext⟩
    · obtain ⟨x, b', off, an, cn, ak, ck, hx, rfl, c0, c1, c2, c3, c4, c5, c6, hcn, hck, hrn, hrk⟩ := atNd hc hm
      have Hx := Lib.hid hx
      have hN := hTr.nodes m x hx
      have HNl := Lib.hid hN.len
      have hsx := HT.out x (List.mem_of_getElem? hx)
      have hNl : x.N.length ≤ 1048576 := hsx.2.1
      have HP := Lib.hid (pf_at (T := T) (c := ⟨cr, ca, cs, cg⟩) hso hF hx)
      rw [hF]
      have i1 : (m : Int) < (T.length : Int) := by omega
      have hE := S.ext
      have d0 := cell_ext hE c0
      have d1 := cell_ext hE c1
      have d2 := cell_ext hE c2
      have d3 := cell_ext hE c3
      have d4 := cell_ext hE c4
      have d5 := cell_ext hE c5
      have d6 := cell_ext hE c6
      have Hrn := Lib.hid (hrn.ext hE)
      have Hrk := Lib.hid (hrk.ext hE)
      clear hx hN hsx c0 c1 c2 c3 c4 c5 c6 hcn hck hrn hrk hE hF hTr hso
      dsimp only
      cases hf : x.fold with
      | false =>
        have HX := Lib.hid (HP.out.trans (if_pos hf))
        rw [hf] at d0
        clear hf
        go_wp2
        go_ret2
        exact ⟨by rw [HX.out]; rfl, S.ext⟩
      | true =>
        have Hf := Lib.hid hf
        have HQ := Lib.hid (HP.out.trans (if_neg (by simp [hf])))
        clear HP
        obtain ⟨bc0, bf0⟩ : w3.cell? ⟨w.heap.size, 0, none⟩ = some (.int .i64 cr) ∧ w3.frozen? ⟨w.heap.size, 0, none⟩ = false := bx (S.box 0 rfl) 0 rfl
        obtain ⟨bc1, bf1⟩ : w3.cell? ⟨w.heap.size, 1, none⟩ = some (.int .i64 ca) ∧ w3.frozen? ⟨w.heap.size, 1, none⟩ = false := bx (S.box 0 rfl) 1 rfl
        obtain ⟨bc2, bf2⟩ : w3.cell? ⟨w.heap.size, 2, none⟩ = some (.int .i64 cs) ∧ w3.frozen? ⟨w.heap.size, 2, none⟩ = false := bx (S.box 0 rfl) 2 rfl
        obtain ⟨bc3, bf3⟩ : w3.cell? ⟨w.heap.size, 3, none⟩ = some (.int .i64 cg) ∧ w3.frozen? ⟨w.heap.size, 3, none⟩ = false := bx (S.box 0 rfl) 3 rfl
        have HM : Hid (∀ s : ExtW w3, Calls Try.prog 64 #[.agg #[.int .i64 cr, .int .i64 ca, .int .i64 cs, .int .i64 cg], .agg #[.bool true, .int .i64 x.own, .int .i64 x.grp, .int .i64 x.mode, .string x.text, .slice an x.N.length cn, .slice ak x.K.length ck], .int .i64 3] s.x fun e w'' => e = .returned (.bool (Cr.may ⟨cr, ca, cs, cg⟩ x 3)) ∧ ∃ s' : ExtW w3, w'' = s'.x) := Lib.hid (fun s => by
          have hC := specMay cr ca cs cg 3 x an ak cn ck s.x
          rw [hf] at hC
          exact Calls.at_e hC)
        rw [hf] at d0
        clear hf
        go_wp2_with fail
        have q0 := ExtW.cell d0
        have q1 := ExtW.cell d1
        have q2 := ExtW.cell d2
        have q3 := ExtW.cell d3
        have q4 := ExtW.cell d4
        have q5 := ExtW.cell d5
        have q6 := ExtW.cell d6
        have bl := ExtW.lt d0
        have r0 := ExtW.cell bc0
        have r1 := ExtW.cell bc1
        have r2 := ExtW.cell bc2
        have r3 := ExtW.cell bc3
        have br := ExtW.lt bc0
        have S9 := Lib.hid S
        clear d0 d1 d2 d3 d4 d5 d6 bc0 bc1 bc2 bc3 bf0 bf1 bf2 bf3 S
        cases hmay : Cr.may ⟨cr, ca, cs, cg⟩ x 3 with
        | false =>
          have HX := Lib.hid (HQ.out.trans (if_pos hmay))
          rw [hmay] at HM
          clear hmay
          (refine wp_region_quiet_ext (by kernel_rfl) (by kernel_rfl) ?_; (repeat (go_big_quiet_step ((go_at_call 64; exact HM.out _)))); refine wpQuiet_nil ?_; intro _ hw'; obtain ⟨sq, hw''⟩ := hw'; subst hw'')
          obtain ⟨w5, hw5⟩ := sq
          go_wp2
          go_ret2
          exact ⟨by rw [HX.out]; rfl, S9.out.ext.trans hw5⟩
        | true =>
          have HQ2 := Lib.hid (HQ.out.trans (if_neg (by simp [hmay])))
          clear HQ
          rw [hmay] at HM
          clear hmay
          (refine wp_region_quiet_ext (by kernel_rfl) (by kernel_rfl) ?_; (repeat (go_big_quiet_step ((go_at_call 64; exact HM.out _)))); refine wpQuiet_nil ?_; intro _ hw'; obtain ⟨sq, hw''⟩ := hw'; subst hw'')
          obtain ⟨w5, hw5⟩ := sq
          have p0 := q0 ⟨w5, hw5⟩
          have p1 := q1 ⟨w5, hw5⟩
          have p2 := q2 ⟨w5, hw5⟩
          have p3 := q3 ⟨w5, hw5⟩
          have p4 := q4 ⟨w5, hw5⟩
          have p5 := q5 ⟨w5, hw5⟩
          have p6 := q6 ⟨w5, hw5⟩
          have HS10 := Lib.hid (S9.out.step hw5)
          have hC := specKid x an ak cn ck (lastOf s) w5 hNl HNl.out (Hrn.out.ext hw5) (Hrk.out.ext hw5)
          rw [Hf.out] at hC
          have HC := Lib.hid hC
          clear q0 q1 q2 q3 q4 q5 q6 bl r0 r1 r2 r3 br S9 HM hC
          go_wp2_with fail
          refine HC.out.mono ?_
          rintro e w6 ⟨rfl, hw6⟩
          clear p0 p1 p2 p3 p4 p5 p6 HC
          by_cases hkid : 0 ≤ kidOf x.N x.K (lastOf s)
          · have HX := Lib.hid (HQ2.out.trans (if_pos hkid))
            go_wp2
            go_ret2
            exact ⟨by rw [HX.out]; rfl, HS10.out.ext.trans hw6⟩
          · have HX := Lib.hid (HQ2.out.trans (if_neg hkid))
            go_wp2
            go_ret2
            exact ⟨by rw [HX.out]; rfl, HS10.out.ext.trans hw6⟩
end Go.Proofs.Ytnibbldfohbfkaa

/- A region that draws its order, some of whose operations use up what others made (a row that is then written): as wp_region_v, each value's fact holding until its consumer. No condition. -/
namespace Go.Proofs.Ytnibbldfohbfkaa
open Go.RowKit

section
variable {P : Program}

/-- j waits for i. -/
def waitsB (l : List Oper) (j i : Nat) : Bool := match l[j]? with | some o => o.after.toList.any (fun e => Region.binds .any e && decide (e.on = i)) | none => false
def depsB (l : List Oper) (n : Nat) (D : List (Nat × Nat)) : Bool := D.all (fun p => decide (p.1 < n) && waitsB l p.1 p.2)

/-- What one operation leaves: its own fact, and every fact of others that it does not use up. -/
def OneC (V : Nat → Value → World → Prop) (cons : Nat → Option Nat) (D : List (Nat × Nat)) (n m : Nat) (I : World → Prop) (i : Nat) (o : Oper) (a : Act) (w : World) : Exit → Act → World → Prop :=
  fun e a' w' => e = .normal ∧ ∃ v, a' = a.put o.dst v ∧ V i v w' ∧ I w' ∧ ∀ j u, j < n + m → j ≠ i → cons j ≠ some i → (j, i) ∉ D → (∀ c, cons j = some c → (i, c) ∉ D) → V j u w → V j u w'

theorem wp_of_oneC {V : Nat → Value → World → Prop} {cons : Nat → Option Nat} {D : List (Nat × Nat)} {n m : Nat} {I : World → Prop} {o : Oper} {a : Act} {w : World} {K : Act → World → Prop} {Q : Exit → Act → World → Prop} {ops : Array Oper} {i : Nat} (ho : ops[i]? = some o)
    (h : wpList P ops (OneC V cons D n m I i o a w) [o] a w) (hK : ∀ v w', V i v w' → I w' → (∀ j u, j < n + m → j ≠ i → cons j ≠ some i → (j, i) ∉ D → (∀ c, cons j = some c → (i, c) ∉ D) → V j u w → V j u w') → K (a.put o.dst v) w') : wpOp P ops Q i K a w := by
  have hno : ¬ LetsOut (OneC V cons D n m I i o a w) := by rintro ⟨a', w', h', _⟩; cases h'
  unfold wpOp
  simp only [ho]
  simp only [wpList] at h
  split
  · rename_i hw
    rw [if_pos hw] at h
    left
    rcases h with h | ⟨_, h⟩
    · unfold Oper.wp at *
      generalize (execOp a.eval o).run P w = r at *
      cases r with
      | ok x w1 =>
        cases x <;> simp only [Oper.upon] at h ⊢
        case enter f args => exact h.mono fun e w2 he => by
                              cases e with
                              | returned v => obtain ⟨_, u, h1, h2, h3, h4⟩ := he; show K _ _; rw [h1]; exact hK u w2 h2 h3 h4
                              | panicked ch => obtain ⟨h1, _⟩ := he; cases h1
                              | outgrown => exact absurd he hno
        case row r1 args => exact h.mono fun v w2 he => by obtain ⟨_, u, h1, h2, h3, h4⟩ := he; rw [h1]; exact hK u w2 h2 h3 h4
        all_goals (obtain ⟨_, u, h1, h2, h3, h4⟩ := h; rw [h1]; exact hK u _ h2 h3 h4)
      | halt x w1 => cases x <;> simp only [Oper.upon] at h ⊢ <;> (obtain ⟨h1, _⟩ := h; cases h1)
    · exact absurd h hno
  · rename_i hw
    rw [if_neg hw] at h
    obtain ⟨_, u, h1, h2, h3, h4⟩ := h
    rw [h1]
    exact hK u w h2 h3 h4

/-- What an operation may lean on: what it waits for, and what was there ahead of the region (numbers from n on). -/
def WaitsC (V : Nat → Value → World → Prop) (cons : Nat → Option Nat) (i : Nat) (o : Oper) (vs : List Value) (w : World) : Prop :=
  ∀ e ∈ o.after.toList, Region.binds .any e = true → (cons e.on = none ∨ cons e.on = some i) → V e.on (vs.getD e.on undef) w
def RestC (V : Nat → Value → World → Prop) (cons : Nat → Option Nat) (n m i : Nat) (w : World) : Prop :=
  ∀ r, r < m → (cons (n + r) = none ∨ cons (n + r) = some i) → V (n + r) undef w

structure HInvC (V : Nat → Value → World → Prop) (cons : Nat → Option Nat) (l : List Oper) (n m : Nat) (a0 : Act) (I : World → Prop) (listed : Array Bool) (a : Act) (w : World) : Prop where
  head : HeadInv .any l.toArray n listed
  ext : I w
  rest : ∀ r, r < m → (∀ c, cons (n + r) = some c → listed.getD c false = false) → V (n + r) undef w
  vals : ∃ vs : List Value, vs.length = n ∧ a = putAll a0 (l.take n) vs ∧ ∀ i, i < n → listed.getD i false = true → (∀ c, cons i = some c → listed.getD c false = false) → V i (vs.getD i undef) w

theorem wpAny_headC {V : Nat → Value → World → Prop} {cons : Nat → Option Nat} {D : List (Nat × Nat)} {l : List Oper} {n m : Nat} {a0 : Act} {I : World → Prop} {Q : Exit → Act → World → Prop} (hn : n ≤ l.length)
    (hH : headB l a0.tmps.size n = true) (hT : tailB l n = true) (hS : Region.seqB .any l.toArray (l.length - n) n (markN n l.length) = true) (hD : depsB l n D = true)
    (hstep : ∀ i o, i < n → l[i]? = some o → ∀ vs w, vs.length = n → I w → WaitsC V cons i o vs w → RestC V cons n m i w → wpList P l.toArray (OneC V cons D n m I i o (putAll a0 (l.take n) vs) w) [o] (putAll a0 (l.take n) vs) w)
    (hend : ∀ vs w, vs.length = n → I w → (∀ i, i < n → cons i = none → V i (vs.getD i undef) w) → (∀ r, r < m → cons (n + r) = none → V (n + r) undef w) → wpList P l.toArray Q (l.drop n) (putAll a0 (l.take n) vs) w) :
    ∀ (f : Nat) (listed : Array Bool) (a : Act) (w : World), unlisted listed n = f → HInvC V cons l n m a0 I listed a w → wpAny P .any l.toArray Q (f + (l.length - n)) listed a w := by
  have hop : ∀ i o, i < n → l[i]? = some o → (∀ d, o.dst = some d → ∀ j o', (l.take n)[j]? = some o' → j ≠ i → o'.dst ≠ some d) ∧ (∀ e ∈ o.after.toList, Region.binds .any e = true → e.on < i) := by
    intro i o hi ho
    have h1 := List.all_eq_true.1 hH i (List.mem_range.2 hi)
    simp only [ho, Bool.and_eq_true] at h1
    refine ⟨fun d hd j o' hj hne => ?_, fun e he hb => ?_⟩
    · have h2 := h1.1
      simp only [hd, Bool.and_eq_true] at h2
      have hjn : j < n := by
        have := (List.getElem?_eq_some_iff.1 hj).1
        simp at this; omega
      have h3 := List.all_eq_true.1 h2.2 j (List.mem_range.2 hjn)
      rw [List.getElem?_take, if_pos hjn] at hj
      simp only [hj, Bool.or_eq_true, decide_eq_true_eq] at h3
      exact h3.resolve_left hne
    · have h3 := List.all_eq_true.1 h1.2 e he
      simp only [Bool.or_eq_true, Bool.not_eq_true', hb, decide_eq_true_eq] at h3
      exact h3.resolve_left (by simp)
  have htailno : ∀ listed, HeadInv .any l.toArray n listed → (∃ i, i < n ∧ listed.getD i true = false) → ∀ t, n ≤ t → t ∉ Region.ready .any l.toArray listed := by
    intro listed inv ⟨i, hi, hun⟩ t ht
    simp only [tailB, Bool.or_eq_true, Bool.and_eq_true, decide_eq_true_eq] at hT
    rcases hT with h | h
    · intro hr
      obtain ⟨_, o, ho, _⟩ := mem_ready.1 hr
      have := (Array.getElem?_eq_some_iff.1 ho).1
      simp at this; omega
    · exact tail_waits h.1.2 h.2 (by simpa using h.1.1) inv _ i rfl hi hun t ht
  intro f
  induction f with
  | zero =>
    intro listed a w hf inv
    obtain ⟨vs, hvl, rfl, hV⟩ := inv.vals
    have hall := unlisted_zero hf
    have hlist : listed = markN n l.length := by
      apply Array.ext_getElem?
      intro i
      have hsz := inv.head.size
      simp only [List.size_toArray] at hsz
      by_cases hi : i < l.length
      · have hil : i < listed.size := by omega
        rw [Array.getElem?_eq_getElem hil]
        by_cases hin : i < n
        · have := hall i hin
          simp only [Array.getD_eq_getD_getElem?, Array.getElem?_eq_getElem hil, Option.getD_some] at this
          simp [markN, hi, hin, this]
        · have := inv.head.tail i (by omega) (by simpa using hi)
          simp only [Array.getD_eq_getD_getElem?, Array.getElem?_eq_getElem hil, Option.getD_some] at this
          simp [markN, hi, hin, this]
      · rw [Array.getElem?_eq_none (by omega), Array.getElem?_eq_none (by simp [markN]; omega)]
    rw [hlist]
    have := wpAny_of_seq (P := P) (md := .any) (Q' := Q) (ops := l.toArray) (l.drop n) n (markN n l.length) (putAll a0 (l.take n) vs) w (fun j => by simp [List.getElem?_drop]) (by rw [List.length_drop]; exact hS) (hend vs w hvl inv.ext (fun i hi hc => hV i hi (hall i hi) (by rw [hc]; simp)) (fun r hr hc => inv.rest r hr (by rw [hc]; simp)))
    rw [List.length_drop] at this
    rw [Nat.zero_add]
    exact this
  | succ f ih =>
    intro listed a w hf inv
    rw [show f + 1 + (l.length - n) = (f + (l.length - n)) + 1 by omega]
    obtain ⟨vs, hvl, rfl, hV⟩ := inv.vals
    obtain ⟨i0, hi0, hun0, hmin⟩ := unlisted_pos (show unlisted listed n ≠ 0 by omega)
    have hsz := inv.head.size
    simp only [List.size_toArray] at hsz
    have hun0' : listed.getD i0 true = false := getD_in (by omega) hun0
    refine ⟨fun hnil => ?_, fun i hi => ?_⟩
    · exfalso
      obtain ⟨o, ho⟩ : ∃ o, l[i0]? = some o := ⟨_, List.getElem?_eq_getElem (by omega)⟩
      have : i0 ∈ Region.ready .any l.toArray listed := mem_ready.2 ⟨hun0', o, by simpa using ho, fun e he hb => hmin _ ((hop i0 o hi0 ho).2 e (by simpa using he) hb)⟩
      rw [hnil] at this
      cases this
    · have hin : i < n := by
        rcases Nat.lt_or_ge i n with h | h
        · exact h
        · exact absurd hi (htailno listed inv.head ⟨i0, hi0, hun0'⟩ i h)
      obtain ⟨hun, o, ho, hall⟩ := mem_ready.1 hi
      have ho' : l[i]? = some o := by simpa using ho
      have hunf : listed.getD i false = false := getD_both hun
      have hno2 : ∀ j, (∀ c, cons j = some c → listed.getD c false = false) → ∀ c, cons j = some c → (i, c) ∉ D := fun j hj c hc hm => by
        have h1 := List.all_eq_true.1 hD (i, c) hm
        simp only [Bool.and_eq_true, waitsB, ho'] at h1
        obtain ⟨e, he, h2⟩ := List.any_eq_true.1 h1.2
        simp only [Bool.and_eq_true, decide_eq_true_eq] at h2
        have h3 := hall e (by simpa using he) h2.1
        rw [h2.2, hj c hc] at h3
        cases h3
      refine wp_of_oneC ho (hstep i o hin ho' vs w hvl inv.ext (fun e he hb hc => hV e.on (by have := (hop i o hin ho').2 e he hb; omega) (hall e (by simpa using he) hb) (fun c hcc => by
        rcases hc with hc | hc
        · rw [hc] at hcc; cases hcc
        · rw [hc] at hcc; cases hcc; exact hunf)) (fun r hr hc => inv.rest r hr (fun c hcc => by
        rcases hc with hc | hc
        · rw [hc] at hcc; cases hcc
        · rw [hc] at hcc; cases hcc; exact hunf))) (fun v w' hv hE hkeep => ?_)
      refine ih _ _ _ (by have := unlisted_set hin hun; omega) ⟨inv.head.set hi hin, hE, fun r hr hcr => ?_, vs.set i v, by simpa using hvl, ?_, fun j hj hlj hcj => ?_⟩
      · have hil : i < listed.size := by omega
        have hci : cons (n + r) ≠ some i := fun e => by
          have := hcr i e
          rw [show (listed.setIfInBounds i true).getD i false = true by simp [hil]] at this
          cases this
        have hnd : (n + r, i) ∉ D := fun hm => by
          have h1 := List.all_eq_true.1 hD (n + r, i) hm
          simp only [Bool.and_eq_true, decide_eq_true_eq] at h1
          omega
        have hun2 : ∀ c, cons (n + r) = some c → listed.getD c false = false := fun c hc => by
          have h2 := hcr c hc
          have hne : i ≠ c := fun e => hci (by rw [e]; exact hc)
          rwa [getD_set_ne false hne] at h2
        exact hkeep (n + r) _ (by omega) (by omega) hci hnd (hno2 _ hun2) (inv.rest r hr hun2)
      · exact putAll_put a0 (l.take n) vs i o v (by rw [List.getElem?_take, if_pos hin]; exact ho') (by simp; omega) (hop i o hin ho').1
      · by_cases hij : i = j
        · subst hij
          rw [List.getD_eq_getElem?_getD, List.getElem?_set_self (by omega)]
          exact hv
        · rw [getD_set_ne false hij] at hlj
          rw [List.getD_eq_getElem?_getD, List.getElem?_set_ne hij, ← List.getD_eq_getElem?_getD]
          have hil : i < listed.size := by omega
          have hci : cons j ≠ some i := fun e => by
            have := hcj i e
            rw [show (listed.setIfInBounds i true).getD i false = true by simp [hil]] at this
            cases this
          have hnd : (j, i) ∉ D := fun hm => by
            have h1 := List.all_eq_true.1 hD (j, i) hm
            simp only [Bool.and_eq_true, waitsB] at h1
            obtain ⟨oj, hoj⟩ : ∃ oj, l[j]? = some oj := ⟨_, List.getElem?_eq_getElem (by omega)⟩
            rw [hoj] at h1
            obtain ⟨e, he, h2⟩ := List.any_eq_true.1 h1.2
            simp only [Bool.and_eq_true, decide_eq_true_eq] at h2
            have h3 := inv.head.closed j oj (by simpa using hoj) hlj e (by simpa using he) h2.1
            rw [h2.2, hunf] at h3
            cases h3
          have hun2 : ∀ c, cons j = some c → listed.getD c false = false := fun c hc => by
            have h2 := hcj c hc
            have hne : i ≠ c := fun e => hci (by rw [e]; exact hc)
            rwa [getD_set_ne false hne] at h2
          exact hkeep j _ (by omega) (fun e => hij e.symm) hci hnd (hno2 _ hun2) (hV j hj hlj hun2)

/-- The region, in whatever order. -/
theorem wp_region_c {V : Nat → Value → World → Prop} (I : World → Prop) (cons : Nat → Option Nat) (D : List (Nat × Nat)) {l : List Oper} (n m : Nat) {id : Nat} {a0 : Act} {w : World} {Q : Exit → Act → World → Prop} (hm : P.follows .mixedOrders = true)
    (hn : n ≤ l.length) (hH : headB l a0.tmps.size n = true) (hT : tailB l n = true) (hS : Region.seqB .any l.toArray (l.length - n) n (markN n l.length) = true) (hD : depsB l n D = true)
    (hI0 : I w.drew) (hR0 : ∀ r, r < m → V (n + r) undef w.drew)
    (hstep : ∀ i o, i < n → l[i]? = some o → ∀ vs w2, vs.length = n → I w2 → WaitsC V cons i o vs w2 → RestC V cons n m i w2 → wpList P l.toArray (OneC V cons D n m I i o (putAll a0 (l.take n) vs) w2) [o] (putAll a0 (l.take n) vs) w2)
    (hend : ∀ vs w2, vs.length = n → I w2 → (∀ i, i < n → cons i = none → V i (vs.getD i undef) w2) → (∀ r, r < m → cons (n + r) = none → V (n + r) undef w2) → wpList P l.toArray Q (l.drop n) (putAll a0 (l.take n) vs) w2) :
    (Code.region id l.toArray true).wp P Q a0 w := by
  refine wp_region_any hm ?_
  have hdst : ∀ o ∈ l.take n, ∀ d, o.dst = some d → d < a0.tmps.size := by
    intro o ho d hd
    obtain ⟨i, hi⟩ := List.getElem?_of_mem ho
    have hin : i < n := by
      have := (List.getElem?_eq_some_iff.1 hi).1
      simp at this; omega
    rw [List.getElem?_take, if_pos hin] at hi
    have h1 := List.all_eq_true.1 hH i (List.mem_range.2 hin)
    simp only [hi, hd, Bool.and_eq_true, decide_eq_true_eq] at h1
    exact h1.1.1
  have hu : unlisted (Array.replicate l.length false) n = n := by
    unfold unlisted
    rw [List.filter_eq_self.2 (by intro i hi; rw [getD_replicate_false]; rfl)]
    simp
  have := wpAny_headC (P := P) (Q := Q) (a0 := a0) (I := I) hn hH hT hS hD hstep hend n (Array.replicate l.length false) a0 w.drew hu
    ⟨⟨by simp, fun j oj _ hl => (by rw [getD_replicate_false] at hl; cases hl), fun t _ ht => getD_in (by simpa using ht) (getD_replicate_false _ _)⟩, hI0, fun r hr _ => hR0 r hr, oldVals a0 (l.take n), by simp [oldVals]; omega, (putAll_old a0 _ hdst).symm, fun i _ hl => (by rw [getD_replicate_false] at hl; cases hl)⟩
  rw [show n + (l.length - n) = l.toArray.size by simp; omega] at this
  exact this
end

/-- An operation that only makes memory keeps all facts that last. -/
theorem OneC.mk {V : Nat → Value → World → Prop} {cons : Nat → Option Nat} {D : List (Nat × Nat)} {n m : Nat} {I : World → Prop} {i : Nat} {o : Oper} {a a' : Act} {w w' : World} (hst : ∀ i v w w', V i v w → Ext w w' → V i v w') {v : Value} (ha : a' = a.put o.dst v) (hV : V i v w') (hI : I w') (hE : Ext w w') :
    OneC V cons D n m I i o a w .normal a' w' := ⟨rfl, v, ha, hV, hI, fun j u _ _ _ _ _ h => hst j u w w' h hE⟩

end Go.Proofs.Ytnibbldfohbfkaa

/- A region that draws its order, as wp_region_c, with operations that wait for others through a chain. No condition. -/
namespace Go.Proofs.Ytnibbldfohbfkaa
open Go.RowKit

section
variable {P : Program}
def waitsF : Nat → List Oper → Nat → Nat → Bool
  | 0, _, _, _ => false
  | f + 1, l, j, i => match l[j]? with | some o => o.after.toList.any (fun e => Region.binds .any e && (decide (e.on = i) || waitsF f l e.on i)) | none => false
def depsT (l : List Oper) (n : Nat) (D : List (Nat × Nat)) : Bool := D.all (fun p => decide (p.1 < n) && waitsF 5 l p.1 p.2)
theorem waitsF_closed {l : List Oper} {listed : Array Bool} (hc : ∀ j oj, l[j]? = some oj → listed.getD j false = true → ∀ e ∈ oj.after, Region.binds .any e = true → listed.getD e.on false = true) : ∀ (f j i : Nat), waitsF f l j i = true → listed.getD j false = true → listed.getD i false = true
  | 0, j, i, h, _ => by simp [waitsF] at h
  | f + 1, j, i, h, hj => by
    rw [waitsF] at h
    cases ho : l[j]? with
    | none => rw [ho] at h; simp at h
    | some o =>
      rw [ho] at h
      obtain ⟨e, he, h2⟩ := List.any_eq_true.1 h
      simp only [Bool.and_eq_true, Bool.or_eq_true, decide_eq_true_eq] at h2
      have h3 := hc j o ho hj e (by simpa using he) h2.1
      rcases h2.2 with h4 | h4
      · rw [← h4]; exact h3
      · exact waitsF_closed hc f e.on i h4 h3
theorem waitsF_listed {l : List Oper} {listed : Array Bool} (hc : ∀ j oj, l[j]? = some oj → listed.getD j false = true → ∀ e ∈ oj.after, Region.binds .any e = true → listed.getD e.on false = true) {f j i : Nat} {o : Oper} (h : waitsF f l j i = true) (ho : l[j]? = some o) (ha : ∀ e ∈ o.after.toList, Region.binds .any e = true → listed.getD e.on false = true) : listed.getD i false = true := by
  cases f with
  | zero => simp [waitsF] at h
  | succ f =>
    rw [waitsF, ho] at h
    obtain ⟨e, he, h2⟩ := List.any_eq_true.1 h
    simp only [Bool.and_eq_true, Bool.or_eq_true, decide_eq_true_eq] at h2
    have h3 := ha e he h2.1
    rcases h2.2 with h4 | h4
    · rw [← h4]; exact h3
    · exact waitsF_closed hc f e.on i h4 h3

theorem wpAny_headT {V : Nat → Value → World → Prop} {cons : Nat → Option Nat} {D : List (Nat × Nat)} {l : List Oper} {n m : Nat} {a0 : Act} {I : World → Prop} {Q : Exit → Act → World → Prop} (hn : n ≤ l.length)
    (hH : headB l a0.tmps.size n = true) (hT : tailB l n = true) (hS : Region.seqB .any l.toArray (l.length - n) n (markN n l.length) = true) (hD : depsT l n D = true)
    (hstep : ∀ i o, i < n → l[i]? = some o → ∀ vs w, vs.length = n → I w → WaitsC V cons i o vs w → RestC V cons n m i w → wpList P l.toArray (OneC V cons D n m I i o (putAll a0 (l.take n) vs) w) [o] (putAll a0 (l.take n) vs) w)
    (hend : ∀ vs w, vs.length = n → I w → (∀ i, i < n → cons i = none → V i (vs.getD i undef) w) → (∀ r, r < m → cons (n + r) = none → V (n + r) undef w) → wpList P l.toArray Q (l.drop n) (putAll a0 (l.take n) vs) w) :
    ∀ (f : Nat) (listed : Array Bool) (a : Act) (w : World), unlisted listed n = f → HInvC V cons l n m a0 I listed a w → wpAny P .any l.toArray Q (f + (l.length - n)) listed a w := by
  have hop : ∀ i o, i < n → l[i]? = some o → (∀ d, o.dst = some d → ∀ j o', (l.take n)[j]? = some o' → j ≠ i → o'.dst ≠ some d) ∧ (∀ e ∈ o.after.toList, Region.binds .any e = true → e.on < i) := by
    intro i o hi ho
    have h1 := List.all_eq_true.1 hH i (List.mem_range.2 hi)
    simp only [ho, Bool.and_eq_true] at h1
    refine ⟨fun d hd j o' hj hne => ?_, fun e he hb => ?_⟩
    · have h2 := h1.1
      simp only [hd, Bool.and_eq_true] at h2
      have hjn : j < n := by
        have := (List.getElem?_eq_some_iff.1 hj).1
        simp at this; omega
      have h3 := List.all_eq_true.1 h2.2 j (List.mem_range.2 hjn)
      rw [List.getElem?_take, if_pos hjn] at hj
      simp only [hj, Bool.or_eq_true, decide_eq_true_eq] at h3
      exact h3.resolve_left hne
    · have h3 := List.all_eq_true.1 h1.2 e he
      simp only [Bool.or_eq_true, Bool.not_eq_true', hb, decide_eq_true_eq] at h3
      exact h3.resolve_left (by simp)
  have htailno : ∀ listed, HeadInv .any l.toArray n listed → (∃ i, i < n ∧ listed.getD i true = false) → ∀ t, n ≤ t → t ∉ Region.ready .any l.toArray listed := by
    intro listed inv ⟨i, hi, hun⟩ t ht
    simp only [tailB, Bool.or_eq_true, Bool.and_eq_true, decide_eq_true_eq] at hT
    rcases hT with h | h
    · intro hr
      obtain ⟨_, o, ho, _⟩ := mem_ready.1 hr
      have := (Array.getElem?_eq_some_iff.1 ho).1
      simp at this; omega
    · exact tail_waits h.1.2 h.2 (by simpa using h.1.1) inv _ i rfl hi hun t ht
  intro f
  induction f with
  | zero =>
    intro listed a w hf inv
    obtain ⟨vs, hvl, rfl, hV⟩ := inv.vals
    have hall := unlisted_zero hf
    have hlist : listed = markN n l.length := by
      apply Array.ext_getElem?
      intro i
      have hsz := inv.head.size
      simp only [List.size_toArray] at hsz
      by_cases hi : i < l.length
      · have hil : i < listed.size := by omega
        rw [Array.getElem?_eq_getElem hil]
        by_cases hin : i < n
        · have := hall i hin
          simp only [Array.getD_eq_getD_getElem?, Array.getElem?_eq_getElem hil, Option.getD_some] at this
          simp [markN, hi, hin, this]
        · have := inv.head.tail i (by omega) (by simpa using hi)
          simp only [Array.getD_eq_getD_getElem?, Array.getElem?_eq_getElem hil, Option.getD_some] at this
          simp [markN, hi, hin, this]
      · rw [Array.getElem?_eq_none (by omega), Array.getElem?_eq_none (by simp [markN]; omega)]
    rw [hlist]
    have := wpAny_of_seq (P := P) (md := .any) (Q' := Q) (ops := l.toArray) (l.drop n) n (markN n l.length) (putAll a0 (l.take n) vs) w (fun j => by simp [List.getElem?_drop]) (by rw [List.length_drop]; exact hS) (hend vs w hvl inv.ext (fun i hi hc => hV i hi (hall i hi) (by rw [hc]; simp)) (fun r hr hc => inv.rest r hr (by rw [hc]; simp)))
    rw [List.length_drop] at this
    rw [Nat.zero_add]
    exact this
  | succ f ih =>
    intro listed a w hf inv
    rw [show f + 1 + (l.length - n) = (f + (l.length - n)) + 1 by omega]
    obtain ⟨vs, hvl, rfl, hV⟩ := inv.vals
    obtain ⟨i0, hi0, hun0, hmin⟩ := unlisted_pos (show unlisted listed n ≠ 0 by omega)
    have hsz := inv.head.size
    simp only [List.size_toArray] at hsz
    have hun0' : listed.getD i0 true = false := getD_in (by omega) hun0
    refine ⟨fun hnil => ?_, fun i hi => ?_⟩
    · exfalso
      obtain ⟨o, ho⟩ : ∃ o, l[i0]? = some o := ⟨_, List.getElem?_eq_getElem (by omega)⟩
      have : i0 ∈ Region.ready .any l.toArray listed := mem_ready.2 ⟨hun0', o, by simpa using ho, fun e he hb => hmin _ ((hop i0 o hi0 ho).2 e (by simpa using he) hb)⟩
      rw [hnil] at this
      cases this
    · have hin : i < n := by
        rcases Nat.lt_or_ge i n with h | h
        · exact h
        · exact absurd hi (htailno listed inv.head ⟨i0, hi0, hun0'⟩ i h)
      obtain ⟨hun, o, ho, hall⟩ := mem_ready.1 hi
      have ho' : l[i]? = some o := by simpa using ho
      have hunf : listed.getD i false = false := getD_both hun
      have hno2 : ∀ j, (∀ c, cons j = some c → listed.getD c false = false) → ∀ c, cons j = some c → (i, c) ∉ D := fun j hj c hc hm => by
        have h1 := List.all_eq_true.1 hD (i, c) hm
        simp only [Bool.and_eq_true] at h1
        have h2 := waitsF_listed (fun j oj hoj hl => inv.head.closed j oj (by simpa using hoj) hl) h1.2 ho' (fun e he hb => hall e (by simpa using he) hb)
        rw [hj c hc] at h2
        cases h2
      refine wp_of_oneC ho (hstep i o hin ho' vs w hvl inv.ext (fun e he hb hc => hV e.on (by have := (hop i o hin ho').2 e he hb; omega) (hall e (by simpa using he) hb) (fun c hcc => by
        rcases hc with hc | hc
        · rw [hc] at hcc; cases hcc
        · rw [hc] at hcc; cases hcc; exact hunf)) (fun r hr hc => inv.rest r hr (fun c hcc => by
        rcases hc with hc | hc
        · rw [hc] at hcc; cases hcc
        · rw [hc] at hcc; cases hcc; exact hunf))) (fun v w' hv hE hkeep => ?_)
      refine ih _ _ _ (by have := unlisted_set hin hun; omega) ⟨inv.head.set hi hin, hE, fun r hr hcr => ?_, vs.set i v, by simpa using hvl, ?_, fun j hj hlj hcj => ?_⟩
      · have hil : i < listed.size := by omega
        have hci : cons (n + r) ≠ some i := fun e => by
          have := hcr i e
          rw [show (listed.setIfInBounds i true).getD i false = true by simp [hil]] at this
          cases this
        have hnd : (n + r, i) ∉ D := fun hm => by
          have h1 := List.all_eq_true.1 hD (n + r, i) hm
          simp only [Bool.and_eq_true, decide_eq_true_eq] at h1
          omega
        have hun2 : ∀ c, cons (n + r) = some c → listed.getD c false = false := fun c hc => by
          have h2 := hcr c hc
          have hne : i ≠ c := fun e => hci (by rw [e]; exact hc)
          rwa [getD_set_ne false hne] at h2
        exact hkeep (n + r) _ (by omega) (by omega) hci hnd (hno2 _ hun2) (inv.rest r hr hun2)
      · exact putAll_put a0 (l.take n) vs i o v (by rw [List.getElem?_take, if_pos hin]; exact ho') (by simp; omega) (hop i o hin ho').1
      · by_cases hij : i = j
        · subst hij
          rw [List.getD_eq_getElem?_getD, List.getElem?_set_self (by omega)]
          exact hv
        · rw [getD_set_ne false hij] at hlj
          rw [List.getD_eq_getElem?_getD, List.getElem?_set_ne hij, ← List.getD_eq_getElem?_getD]
          have hil : i < listed.size := by omega
          have hci : cons j ≠ some i := fun e => by
            have := hcj i e
            rw [show (listed.setIfInBounds i true).getD i false = true by simp [hil]] at this
            cases this
          have hnd : (j, i) ∉ D := fun hm => by
            have h1 := List.all_eq_true.1 hD (j, i) hm
            simp only [Bool.and_eq_true] at h1
            obtain ⟨oj, hoj⟩ : ∃ oj, l[j]? = some oj := ⟨_, List.getElem?_eq_getElem (by omega)⟩
            have h2 := waitsF_listed (fun j oj hoj hl => inv.head.closed j oj (by simpa using hoj) hl) h1.2 hoj (fun e he hb => inv.head.closed j oj (by simpa using hoj) hlj e (by simpa using he) hb)
            rw [hunf] at h2
            cases h2
          have hun2 : ∀ c, cons j = some c → listed.getD c false = false := fun c hc => by
            have h2 := hcj c hc
            have hne : i ≠ c := fun e => hci (by rw [e]; exact hc)
            rwa [getD_set_ne false hne] at h2
          exact hkeep j _ (by omega) (fun e => hij e.symm) hci hnd (hno2 _ hun2) (hV j hj hlj hun2)

/-- The region, in whatever order. -/
theorem wp_region_t {V : Nat → Value → World → Prop} (I : World → Prop) (cons : Nat → Option Nat) (D : List (Nat × Nat)) {l : List Oper} (n m : Nat) {id : Nat} {a0 : Act} {w : World} {Q : Exit → Act → World → Prop} (hm : P.follows .mixedOrders = true)
    (hn : n ≤ l.length) (hH : headB l a0.tmps.size n = true) (hT : tailB l n = true) (hS : Region.seqB .any l.toArray (l.length - n) n (markN n l.length) = true) (hD : depsT l n D = true)
    (hI0 : I w.drew) (hR0 : ∀ r, r < m → V (n + r) undef w.drew)
    (hstep : ∀ i o, i < n → l[i]? = some o → ∀ vs w2, vs.length = n → I w2 → WaitsC V cons i o vs w2 → RestC V cons n m i w2 → wpList P l.toArray (OneC V cons D n m I i o (putAll a0 (l.take n) vs) w2) [o] (putAll a0 (l.take n) vs) w2)
    (hend : ∀ vs w2, vs.length = n → I w2 → (∀ i, i < n → cons i = none → V i (vs.getD i undef) w2) → (∀ r, r < m → cons (n + r) = none → V (n + r) undef w2) → wpList P l.toArray Q (l.drop n) (putAll a0 (l.take n) vs) w2) :
    (Code.region id l.toArray true).wp P Q a0 w := by
  refine wp_region_any hm ?_
  have hdst : ∀ o ∈ l.take n, ∀ d, o.dst = some d → d < a0.tmps.size := by
    intro o ho d hd
    obtain ⟨i, hi⟩ := List.getElem?_of_mem ho
    have hin : i < n := by
      have := (List.getElem?_eq_some_iff.1 hi).1
      simp at this; omega
    rw [List.getElem?_take, if_pos hin] at hi
    have h1 := List.all_eq_true.1 hH i (List.mem_range.2 hin)
    simp only [hi, hd, Bool.and_eq_true, decide_eq_true_eq] at h1
    exact h1.1.1
  have hu : unlisted (Array.replicate l.length false) n = n := by
    unfold unlisted
    rw [List.filter_eq_self.2 (by intro i hi; rw [getD_replicate_false]; rfl)]
    simp
  have := wpAny_headT (P := P) (Q := Q) (a0 := a0) (I := I) hn hH hT hS hD hstep hend n (Array.replicate l.length false) a0 w.drew hu
    ⟨⟨by simp, fun j oj _ hl => (by rw [getD_replicate_false] at hl; cases hl), fun t _ ht => getD_in (by simpa using ht) (getD_replicate_false _ _)⟩, hI0, fun r hr _ => hR0 r hr, oldVals a0 (l.take n), by simp [oldVals]; omega, (putAll_old a0 _ hdst).symm, fun i _ hl => (by rw [getD_replicate_false] at hl; cases hl)⟩
  rw [show n + (l.length - n) = l.toArray.size by simp; omega] at this
  exact this
end
end Go.Proofs.Ytnibbldfohbfkaa

/- What lasts where blocks of one kind change; a piece that comes to others below a bound. No condition. -/
namespace Go.Proofs.Ytnibbldfohbfkaa
open Go.RowKit

theorem heapx {w w' : World} {b : Nat} {o : Obj} (hE : Ext w w') (h : w.heap[b]? = some o) : w'.heap[b]? = some o := by
  rw [hE.block b (Array.getElem?_eq_some_iff.1 h).1]; exact h
theorem heap_chg {S : Nat → Prop} {w w' : World} {b : Nat} {o : Obj} (h : w.heap[b]? = some o) (hc : Chg S w w') (hn : ¬ S b) : w'.heap[b]? = some o :=
  (hc.block b (Array.getElem?_eq_some_iff.1 h).1 hn).trans h
theorem cell_chg {S : Nat → Prop} {w w' : World} {b o : Nat} {v : Value} (h : w.cell? ⟨b, o, none⟩ = some v) (hc : Chg S w w') (hn : ¬ S b) : w'.cell? ⟨b, o, none⟩ = some v := by
  rw [World.cell?_of_block (w := w) (hc.block b (World.block_lt_of_cell? w ⟨b, o, none⟩ h) hn)]; exact h
theorem ownsRow_chg {S : Nat → Prop} {w w' : World} {base e nf : Nat} {v : Value} {n : Nat} {xs : List Value} (h : w.ownsRow base e nf v n xs) (hc : Chg S w w') (hS : ∀ b, base ≤ b → ¬ S b) : w'.ownsRow base e nf v n xs := by
  refine ⟨h.1, ?_⟩
  rcases h.2 with h2 | ⟨b, cap, cur, hv, hb, hh, r⟩
  · exact .inl h2
  · exact .inr ⟨b, cap, cur, hv, hb, heap_chg hh hc (hS b hb), r⟩
theorem SepM.consAt {M : Nat → Prop} {w0 w : World} {H : List Pl} {p : Pl} {B : Nat} (S : SepM M w0 w H) (hp : p.ok w) (hB : w0.heap.size ≤ B) (hn : ∀ b, p.own b → B ≤ b) (hH : ∀ q ∈ H, ∀ b, q.own b → b < B) : SepM M w0 w (p :: H) :=
  ⟨S.chg, S.small, fun q hq => by
    rcases List.mem_cons.1 hq with rfl | hq
    · exact hp
    · exact S.ok q hq, fun q hq b hb => by
    rcases List.mem_cons.1 hq with rfl | hq
    · exact Nat.le_trans hB (hn b hb)
    · exact S.base q hq b hb, List.pairwise_cons.2 ⟨fun q hq b h h2 => by
    have h3 := hn b h
    have h4 := hH q hq b h2
    omega, S.apart⟩⟩
end Go.Proofs.Ytnibbldfohbfkaa
