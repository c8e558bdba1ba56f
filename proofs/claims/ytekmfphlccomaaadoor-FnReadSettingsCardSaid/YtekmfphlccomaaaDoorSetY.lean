/- SettingsText: the contract of the program's. Condition: lists and texts shorter than 2^63. -/
import Derived.Test.YtekmfphlccomaaaDoorSetX
import Derived.Test.YtekmfphlccomaaaDoorSep
import Derived.Test.YtekmfphlccomaaaDoorAppB
import Derived.Test.YtekmfphlccomaaaDoorView
namespace Go.Proofs.YtekmfphlccomaaaDoor
open Go.RowKit

theorem encStr1_len (s : ByteArray) : (encStr1 s).length = 1 := rfl
theorem encStr1_one (s : ByteArray) : ∀ u ∈ encStr1 s, u.oneCell' = true := by simp [encStr1, Value.oneCell']
theorem infoStr : (Tryd.prog.info? 9).map (fun i => (i.zero, i.size, i.bytes)) = some (some (.string ⟨#[]⟩), 1, 16) := by kernel_rfl
theorem textL_len {l : List Set} (h : SetsOk l) : ∀ k, k ≤ l.length → (textL (l.take k)).length ≤ 26 * k := by
  intro k
  induction k with
  | zero => intro _; simp [textL_nil]
  | succ k ih =>
    intro hk
    have hx : l[k]? = some l[k] := List.getElem?_eq_getElem (by omega)
    have hok := (h.1 k (by omega) _ hx).1
    have h1 : (lineB l[k]).data.toList.length ≤ 25 := by
      have h2 : l[k].name.size ≤ 8 := hok.1.2.2
      have h3 : l[k].text.size ≤ 16 := hok.2.2
      show (lineB l[k]).size ≤ 25
      simp only [lineB, ByteArray.size_append]
      show l[k].name.size + 1 + l[k].text.size ≤ 25
      omega
    rcases Nat.eq_zero_or_pos k with rfl | hpos
    · rw [textL_one hx]; omega
    · rw [textL_succ hpos hx]
      have := ih (by omega)
      simp only [List.length_append, List.length_cons, List.length_nil]
      omega
theorem joinB_line (l : List Set) : joinB (l.map lineB) ⟨#[59]⟩ = ⟨(textL l).toArray⟩ := by
  simp only [joinB, textL, List.map_map]
  rfl
theorem take_line {l : List Set} {x : Set} {k : Nat} (hx : l[k]? = some x) : (l.take k).map lineB ++ [lineB x] = (l.take (k + 1)).map lineB := by
  obtain ⟨hk, rfl⟩ := List.getElem?_eq_some_iff.1 hx
  rw [List.take_succ_eq_append_getElem hk, List.map_append]
  rfl

set_option maxRecDepth 10000 in
set_option maxHeartbeats 8000000 in
theorem implSettingsText (a : Option Addr) (cap : Nat) (l : List Set) (w : World) (hl : l.length ≤ 9223372036854775807) (hs : FitsS l) (hc : Rd 2 encSet w a l) :
    Calls Tryd.prog 7 #[.slice a l.length cap] w fun e w' => ∃ s, e = .returned (.string s) ∧ TextR l s ∧ Ext w w' := by
  go_enter Tryd.func7, Tryd.ntmps7
  have S := Sep.start w
  go_wp2_with fail
  refine (implSettingsValid a cap l _ hl hs (hc.ext S.ext)).mono ?_
  rintro e w2 ⟨v0, rfl, hv0, hE⟩
  have Hv0 := Lib.hid hv0
  clear hv0
  replace S : Sep w w2 [] := S.step hE
  clear hE
  cases v0 with
  | false =>
    have HR : Hid (TextR l ⟨#[]⟩) := Lib.hid ⟨fun h => Bool.noConfusion (Hv0.out.2 h), fun _ => rfl⟩
    go_wp2
    go_ret
    exact ⟨_, rfl, HR.out, S.ext⟩
  | true =>
    have HV := Lib.hid (Hv0.out.1 rfl)
    have hl8 : l.length ≤ 8 := HV.out.2
    clear Hv0
    replace S : Sep w (w2.alloc (.cells #[] 9)) [plRow 9 1 encStr1 (.slice (some ⟨w2.heap.size, 0, none⟩) 0 0) []] := S.lit0 (by simp) _ _ _
    go_wp2
    go_loopw [3, 5, 12] (fun q _ i wr => ∃ (k : Nat) (aq : Option Addr) (cq : Nat) (W : List ByteArray), k ≤ l.length ∧ i = .int .i64 k ∧ q = .slice aq W.length cq ∧ W = (l.take k).map lineB ∧ Sep w wr [plRow 9 1 encStr1 (.slice aq W.length cq) W]) (fun _ _ i _ => l.length - (intOf i).toNat)
    case atStart => exact ⟨0, some ⟨w2.heap.size, 0, none⟩, 0, [], Nat.zero_le _, rfl, rfl, by simp, S⟩
    case round =>
      clear S
      obtain ⟨k, aq, cq, W, hk, rfl, rfl, hW, S⟩ := hrel
      have HW := Lib.hid hW
      have HWl : Hid (W.length = k) := Lib.hid (by rw [hW]; simp; omega)
      have hW8 : W.length ≤ 8 := by have := HWl.out; omega
      clear hW
      by_cases hlt : k < l.length
      · obtain ⟨x, p, off, hx, hpe, c0, c1⟩ := atSet (hc.ext S.ext) hlt
        subst hpe
        have HN : Hid (W ++ [lineB x] = (l.take (k + 1)).map lineB) := Lib.hid (by rw [HW.out]; exact take_line hx)
        have hok := (HV.out.1 k hlt x hx).1
        have hn8 : x.name.size ≤ 8 := hok.1.2.2
        have ht16 : x.text.size ≤ 16 := hok.2.2
        clear hx hok
        have i1 : (k : Int) < (l.length : Int) := by omega
        have i0 : (0 : Int) ≤ (k : Int) := by omega
        replace S : Sep w (wr.alloc (.cells #[.string x.name, .string x.text] 40)) [plBox wr.heap.size #[.string x.name, .string x.text] 40, plRow 9 1 encStr1 (.slice aq W.length cq) W] := S.alloc_at (by simp) _ _
        go_upto_region 7 with fail
        generalize (wr.alloc (.cells #[.string x.name, .string x.text] 40)) = w4 at *
        obtain ⟨y, hy⟩ : ∃ y, y = lineB x := ⟨_, rfl⟩
        have Hy := Lib.hid hy
        have SA := S.alloc #[.string (lineB x)] 9
        have rd1 : Rd 1 encStr1 (w4.alloc (.cells #[.string (lineB x)] 9)) (some ⟨w4.heap.size, 0, none⟩) [lineB x] := rd_lit_new [lineB x] encStr1_len rfl
        obtain ⟨rbc0, rbf0⟩ : w4.cell? ⟨wr.heap.size, 0, none⟩ = some (.string x.name) ∧ w4.frozen? ⟨wr.heap.size, 0, none⟩ = false := bx (S.box 0 rfl) 0 rfl
        obtain ⟨rbc1, rbf1⟩ : w4.cell? ⟨wr.heap.size, 1, none⟩ = some (.string x.text) ∧ w4.frozen? ⟨wr.heap.size, 1, none⟩ = false := bx (S.box 0 rfl) 1 rfl
        go_wp2_with (at_builtin; refine Hid.out (?_ : Hid _))
        unfold Hid
        refine wpList_append_b rfl _ _ 38 rfl w.heap.size 9 _ 1 _ Tryd.underlying38 infoStr rfl (by decide) encStr1_len encStr1_one _ W.length W rfl (SA.row (1 + 1) rfl) rfl (some ⟨w4.heap.size, 0, none⟩) 1 1 [lineB x] rfl rfl rd1 (by omega) (by omega) SA.chg.size ?_
        intro v7 w7 ho hgr hblk
        obtain ⟨G, hG⟩ : ∃ G, G = W ++ [lineB x] := ⟨_, rfl⟩
        rw [← hG] at ho HN
        obtain ⟨a7, c7, hv7, hk7, _, _⟩ := view_owns encStr1_len ho
        subst hv7
        have SM := ((SA.grow (1 + 1) rfl hgr ho hblk).drop 0).drop 0
        clear rbc0 rbf0 rbc1 rbf1
        clear ho hgr hblk SA rd1 S hy Hy hG
        go_wp2
        go_roundw
        case rel => exact ⟨k + 1, a7, c7, G, by omega, by go_num, rfl, HN.out, SM⟩
        case measure => simp [intOf]; omega
      · obtain rfl : k = l.length := by omega
        have hni : ¬ (l.length : Int) < (l.length : Int) := by omega
        have HWf : Hid (W = l.map lineB) := Lib.hid (by have h := HW.out; rwa [List.take_length] at h)
        rcases Nat.eq_zero_or_pos W.length with h0 | hpos
        · have HR : Hid (TextR l ⟨#[]⟩) := Lib.hid ⟨fun _ => by
            have h1 : l = [] := by have h := HWf.out; rw [List.eq_nil_of_length_eq_zero h0] at h; exact List.map_eq_nil_iff.1 h.symm
            rw [h1]; rfl, fun h => absurd HV.out h⟩
          have h0' := List.eq_nil_of_length_eq_zero h0
          subst h0'
          clear h0 HWf HWl HW
          go_wp2_with fail
          refine (join_none aq cq ⟨#[59]⟩ wr).mono ?_
          rintro e w5 ⟨rfl, rfl⟩
          go_wp2
          go_ret
          exact ⟨_, rfl, HR.out, S.ext⟩
        · have HR : Hid (TextR l (joinB W ⟨#[59]⟩)) := Lib.hid ⟨fun _ => by rw [HWf.out]; exact joinB_line l, fun h => absurd HV.out h⟩
          have Hlen : Hid ((Lib.join (W.map (·.data.toList)) [59]).length ≤ 140737488355328) := Lib.hid (by
            have h := textL_len HV.out l.length (Nat.le_refl _)
            rw [List.take_length] at h
            have h2 : Lib.join (W.map (·.data.toList)) [59] = textL l := by rw [HWf.out]; simp only [textL, List.map_map]; rfl
            rw [h2]; omega)
          obtain ⟨_, _, hv, hcq, _, hsh⟩ := view_owns encStr1_len (S.row 0 rfl)
          simp only [Value.slice.injEq, true_and] at hv
          obtain ⟨rfl, rfl⟩ := hv
          have hrd := S.rd 0 encStr1_len rfl rfl
          obtain ⟨g, rfl⟩ : ∃ g, aq = some ⟨g, 0, none⟩ := by
            rcases hsh with ⟨_, h, _⟩ | ⟨g, h, _⟩
            · rw [h] at hpos; simp at hpos
            · exact ⟨g, h⟩
          have hcells : ∀ (j : Nat) x, W[j]? = some x → wr.cell? ⟨g, 0 + j, none⟩ = some (.string x) := fun j x hj => by
            obtain ⟨hjl, rfl⟩ := List.getElem?_eq_some_iff.1 hj
            obtain ⟨b, o, hb, hcl⟩ := hrd j hjl
            simp only [Option.some.injEq, Addr.mk.injEq, and_true] at hb
            obtain ⟨rfl, rfl⟩ := hb
            simpa using hcl 0 _ rfl
          have Hcells := Lib.hid hcells
          clear hcells hrd hsh HWf HWl HW
          go_wp2_with fail
          refine (join_any g 0 cq W ⟨#[59]⟩ wr Hcells.out hpos (by omega) hcq Hlen.out).mono ?_
          rintro e w5 ⟨rfl, hE⟩
          have hE2 := S.ext.trans hE
          go_wp2
          go_ret
          exact ⟨_, rfl, HR.out, hE2⟩
end Go.Proofs.YtekmfphlccomaaaDoor
