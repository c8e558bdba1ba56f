/- Parts of one proof: each says below what it proves and on what conditions. -/
import Derived.Test.YtnibbldfohbfkaaGreatDoorMy24
import Derived.Test.YtnibbldfohbfkaaGreatDoorMy29
set_option linter.unusedVariables false
set_option linter.unusedSimpArgs false
/- Calls: contract of the program's CallLine. Condition: texts of at most 2^20, directories of at most 10^6; the library's own variable holds a number. -/
namespace Go.Proofs.YtnibbldfohbfkaaGreatDoor
open Go.RowKit
theorem words_count (s : ByteArray) : (wordsB s).length = Lib.countB s ⟨#[32]⟩ + 1 := by
 have hw := winv s.data.toList
 have hcnt := count_lib 32 ((wordsL s.data.toList).map (·.data.toList)) (by simpa using hw.ne) (fun a ha => by
  obtain ⟨p, hp, rfl⟩ := List.mem_map.1 ha
  exact hw.no p hp)
 rw [hw.join, List.length_map] at hcnt
 exact hcnt.symm
theorem str_flat : ∀ W : List ByteArray, W.map Value.string = W.flatMap encStr1
 | [] => rfl
 | a :: W => by rw [List.map_cons, List.flatMap_cons, str_flat W]; rfl
theorem cells2 {w : World} {gw : Nat} {W : List ByteArray} (h : Rd 1 encStr1 w (some ⟨gw, 0, none⟩) W) (k : Nat) {a : ByteArray} (hk : W[k]? = some a) : w.cell? ⟨gw, k, none⟩ = some (.string a) := by
 obtain ⟨x, b, o, hx, ha, hc⟩ := atStr h (List.getElem?_eq_some_iff.1 hk).1
 rw [hk] at hx
 cases hx
 simp only [Option.some.injEq, Addr.mk.injEq] at ha
 obtain ⟨rfl, rfl, _⟩ := ha
 rw [Nat.zero_add] at hc
 exact hc
theorem implChange (at_ : Option Addr) (cap : Nat) (T : List Nd) (cr ca cs cg : Int) (gw cw : Nat) (W : List ByteArray) (w : World) (hp : 0 < W.length) (hW : ∀ p ∈ W, p.size ≤ 1048576) (hrW : Rd 1 encStr1 w (some ⟨gw, 0, none⟩) W) (hl : T.length ≤ 1048576) (hT : ∀ x ∈ T, SmN 1048576 x) (hNB : NB 1000000 T) (hc : RdN w at_ T) (hm : MaxG w) :
  Calls Tryz.prog 45 #[.agg #[.slice at_ T.length cap, .int .i64 cr, .int .i64 ca, .int .i64 cs, .int .i64 cg], .slice (some ⟨gw, 0, none⟩) W.length cw] w (RetCh (changeF T ⟨cr, ca, cs, cg⟩ W) w) := by
 by_cases h2 : W.length = 2
 ·obtain ⟨a, x, rfl⟩ : ∃ a x, W = [a, x] := by
   match W, h2 with
   | [a, x], _ => exact ⟨a, x, rfl⟩
  have e0 := cells2 hrW 0 rfl
  have e1 := cells2 hrW 1 rfl
  have hx := hW x (by simp)
  by_cases h_folder : a = ⟨#[102, 111, 108, 100, 101, 114]⟩
  ·exact ich_2 at_ cap T cr ca cs cg gw cw a x w hx hl hT hNB hc hm (.inl h_folder) e0 e1
  by_cases h_file : a = ⟨#[102, 105, 108, 101]⟩
  ·exact ich_2 at_ cap T cr ca cs cg gw cw a x w hx hl hT hNB hc hm (.inr (.inl h_file)) e0 e1
  by_cases h_drop : a = ⟨#[100, 114, 111, 112]⟩
  ·exact ich_2 at_ cap T cr ca cs cg gw cw a x w hx hl hT hNB hc hm (.inr (.inr h_drop)) e0 e1
  exact ich2_no at_ cap T cr ca cs cg gw cw a x w hx hl hT hNB hc hm h_folder h_file h_drop e0 e1
 ·by_cases h3 : W.length = 3
  ·obtain ⟨a, x, y, rfl⟩ : ∃ a x y, W = [a, x, y] := by
    match W, h3 with
    | [a, x, y], _ => exact ⟨a, x, y, rfl⟩
   have e0 := cells2 hrW 0 rfl
   have e1 := cells2 hrW 1 rfl
   have e2 := cells2 hrW 2 rfl
   have hx := hW x (by simp)
   have hy := hW y (by simp)
   by_cases h_mode : a = ⟨#[109, 111, 100, 101]⟩
   ·subst h_mode
    exact ich_mode at_ cap T cr ca cs cg gw cw x y w hx hy hl hT hNB hc hm e0 e1 e2
   by_cases h_write : a = ⟨#[119, 114, 105, 116, 101]⟩
   ·exact ich_3 at_ cap T cr ca cs cg gw cw a x y w hx hy hl hT hNB hc hm (.inl h_write) e0 e1 e2
   by_cases h_link : a = ⟨#[108, 105, 110, 107]⟩
   ·exact ich_3 at_ cap T cr ca cs cg gw cw a x y w hx hy hl hT hNB hc hm (.inr (.inl h_link)) e0 e1 e2
   by_cases h_move : a = ⟨#[109, 111, 118, 101]⟩
   ·exact ich_3 at_ cap T cr ca cs cg gw cw a x y w hx hy hl hT hNB hc hm (.inr (.inr h_move)) e0 e1 e2
   exact ich3_no at_ cap T cr ca cs cg gw cw a x y w hx hy hl hT hNB hc hm h_write h_mode h_link h_move e0 e1 e2
  ·obtain ⟨a, ha⟩ : ∃ a, W[0]? = some a := ⟨_, List.getElem?_eq_getElem hp⟩
   have e0 := cells2 hrW 0 ha
   clear ha
   exact ichn_no at_ cap T cr ca cs cg gw cw W.length W rfl h2 h3 hp a w e0
theorem implTell (at_ : Option Addr) (cap : Nat) (T : List Nd) (cr ca cs cg : Int) (gw cw : Nat) (W : List ByteArray) (w : World) (hp : 0 < W.length) (hW : ∀ p ∈ W, p.size ≤ 1048576) (hrW : Rd 1 encStr1 w (some ⟨gw, 0, none⟩) W) (hl : T.length ≤ 1048576) (hT : ∀ x ∈ T, SmN 1048576 x) (hc : RdN w at_ T) (hm : MaxG w) :
  Calls Tryz.prog 47 #[.agg #[.slice at_ T.length cap, .int .i64 cr, .int .i64 ca, .int .i64 cs, .int .i64 cg], .slice (some ⟨gw, 0, none⟩) W.length cw] w fun e w' => e = .returned (.string (tellF T ⟨cr, ca, cs, cg⟩ W)) ∧ Ext w w' := by
 by_cases h2 : W.length = 2
 ·obtain ⟨a, x, rfl⟩ : ∃ a x, W = [a, x] := by
   match W, h2 with
   | [a, x], _ => exact ⟨a, x, rfl⟩
  have e0 := cells2 hrW 0 rfl
  have e1 := cells2 hrW 1 rfl
  have hx := hW x (by simp)
  by_cases h_read : a = ⟨#[114, 101, 97, 100]⟩
  ·subst h_read
   exact ite_read at_ cap T cr ca cs cg gw cw x w hx hl hT hc hm e0 e1
  by_cases h_list : a = ⟨#[108, 105, 115, 116]⟩
  ·subst h_list
   exact ite_list at_ cap T cr ca cs cg gw cw x w hx hl hT hc hm e0 e1
  exact ite2_other at_ cap T cr ca cs cg gw cw a x w h_read h_list e0
 ·obtain ⟨a, ha⟩ : ∃ a, W[0]? = some a := ⟨_, List.getElem?_eq_getElem hp⟩
  have e0 := cells2 hrW 0 ha
  clear ha
  by_cases h_read : a = ⟨#[114, 101, 97, 100]⟩
  ·subst h_read
   exact iten_read at_ cap T cr ca cs cg gw cw W.length W rfl h2 hp w e0
  by_cases h_list : a = ⟨#[108, 105, 115, 116]⟩
  ·subst h_list
   exact iten_list at_ cap T cr ca cs cg gw cw W.length W rfl h2 hp w e0
  exact iten_other at_ cap T cr ca cs cg gw cw W.length W a rfl h2 hp w h_read h_list e0
def VTe (wR : World) (B3 : Nat) (at_ : Option Addr) (cap : Nat) (T : List Nd) (cr ca cs cg : Int) (gw n cw : Nat) (tx : ByteArray) : Nat → Value → World → Prop := fun i v wv => match i with
 | 0 => v = .pointer (some ⟨B3, 0, none⟩)
 | 1 => v = .slice at_ T.length cap
 | 2 => ∃ vs, Sep wR wv [plNd v vs T]
 | 3 => v = .pointer (some ⟨B3, 1, none⟩)
 | 4 => v = .agg #[.int .i64 cr, .int .i64 ca, .int .i64 cs, .int .i64 cg]
 | 5 => ∃ u vs, v = .agg #[u, .int .i64 cr, .int .i64 ca, .int .i64 cs, .int .i64 cg] ∧ Sep wR wv [plNd u vs T]
 | 6 => v = .agg #[.slice at_ T.length cap, .int .i64 cr, .int .i64 ca, .int .i64 cs, .int .i64 cg]
 | 7 => v = .slice (some ⟨gw, 0, none⟩) n cw
 | 8 => v = .string tx
 | _ => True
theorem VTe.ext {wR : World} {B3 : Nat} {at_ : Option Addr} {cap : Nat} {T : List Nd} {cr ca cs cg : Int} {gw n cw : Nat} {tx : ByteArray} (i : Nat) (v : Value) (w1 w2 : World) (h : VTe wR B3 at_ cap T cr ca cs cg gw n cw tx i v w1) (hE : Ext w1 w2) : VTe wR B3 at_ cap T cr ca cs cg gw n cw tx i v w2 := by
 match i with
 | 0 | 1 | 3 | 4 | 6 | 7 | 8 => exact h
 | 2 => obtain ⟨vs, h1⟩ := h; exact ⟨vs, h1.step hE⟩
 | 5 => obtain ⟨u, vs, h0, h1⟩ := h; exact ⟨u, vs, h0, h1.step hE⟩
 | (n + 9) => trivial
def VNo (B3 : Nat) (u : Value) (cr ca cs cg : Int) : Nat → Value → World → Prop := fun i v _ => match i with
 | 0 => v = u
 | 1 => v = .pointer (some ⟨B3, 1, none⟩)
 | 2 => v = .agg #[.int .i64 cr, .int .i64 ca, .int .i64 cs, .int .i64 cg]
 | 3 => v = .agg #[u, .int .i64 cr, .int .i64 ca, .int .i64 cs, .int .i64 cg]
 | 4 => v = .string ⟨#[110, 111, 110, 101]⟩
 | _ => True
theorem VNo.ext {B3 : Nat} {u : Value} {cr ca cs cg : Int} (i : Nat) (v : Value) (w1 w2 : World) (h : VNo B3 u cr ca cs cg i v w1) (hE : Ext w1 w2) : VNo B3 u cr ca cs cg i v w2 := h
set_option maxRecDepth 10000 in
set_option maxHeartbeats 32000000 in
theorem implCallLine (at_ : Option Addr) (cap : Nat) (T : List Nd) (cr ca cs cg : Int) (s : ByteArray) (w : World) (hs : s.size ≤ 1048576) (hl : T.length ≤ 1048576) (hT : ∀ x ∈ T, SmN 1048576 x) (hNB : TreeOk T → NB 1000000 T) (hc : RdN w at_ T) (hm : MaxG w) :
  Calls Tryz.prog 10 #[.agg #[.slice at_ T.length cap, .int .i64 cr, .int .i64 ca, .int .i64 cs, .int .i64 cg], .string s] w (RetK (callLine T ⟨cr, ca, cs, cg⟩ s) (callCr T ⟨cr, ca, cs, cg⟩) w) := by
 have HT := Lib.hid hT
 have HNB := Lib.hid hNB
 clear hT hNB
 go_enter Tryz.func10, Tryz.ntmps10
 have S := Sep.start w
 replace S : Sep w (w.alloc (.cells #[.slice at_ T.length cap, .int .i64 cr, .int .i64 ca, .int .i64 cs, .int .i64 cg] 31)) [plBox w.heap.size #[.slice at_ T.length cap, .int .i64 cr, .int .i64 ca, .int .i64 cs, .int .i64 cg] 31] := S.alloc_at (by simp) _ _
 replace S : Sep w ((w.alloc (.cells #[.slice at_ T.length cap, .int .i64 cr, .int .i64 ca, .int .i64 cs, .int .i64 cg] 31)).alloc (.cells #[.slice none 0 0, .int .i64 0, .int .i64 0, .int .i64 0, .int .i64 0] 31)) [plBox (w.heap.size + 1) #[.slice none 0 0, .int .i64 0, .int .i64 0, .int .i64 0, .int .i64 0] 31, plBox w.heap.size #[.slice at_ T.length cap, .int .i64 cr, .int .i64 ca, .int .i64 cs, .int .i64 cg] 31] := S.alloc_at (by simp) _ _
 go_upto_region 1 with fail
 generalize ((w.alloc (.cells #[.slice at_ T.length cap, .int .i64 cr, .int .i64 ca, .int .i64 cs, .int .i64 cg] 31)).alloc (.cells #[.slice none 0 0, .int .i64 0, .int .i64 0, .int .i64 0, .int .i64 0] 31)) = w1 at *
 generalize w.heap.size + 1 = B4 at *
 generalize w.heap.size = B3 at *
 obtain ⟨⟨b3c0, b3f0⟩, ⟨b3c1, b3f1⟩, ⟨b3c2, b3f2⟩, ⟨b3c3, b3f3⟩, ⟨b3c4, b3f4⟩⟩ := bx5 (S.box 1 rfl)
 go_wp2_with fail
 clear b3c0 b3f0 b3c1 b3f1 b3c2 b3f2 b3c3 b3f3 b3c4 b3f4
 refine (implKernelValid at_ cap T cr ca cs cg w1 hl HT.out (hc.ext S.ext)).mono ?_
 rintro e w2 ⟨v, rfl, hv, hE⟩
 have Hv := Lib.hid hv
 clear hv
 replace S := S.step hE
 clear hE
 cases v with
 | false =>
  have hno : ¬ (TreeOk T ∧ Cr.ok ⟨cr, ca, cs, cg⟩) := fun h => Bool.noConfusion (Hv.out.2 h)
  have HX : Hid (callLine T ⟨cr, ca, cs, cg⟩ s = ([], ⟨#[]⟩) ∧ callCr T ⟨cr, ca, cs, cg⟩ = ⟨0, 0, 0, 0⟩) := Lib.hid ⟨by unfold callLine; rw [if_neg hno], by unfold callCr; rw [if_neg hno]⟩
  clear hno
  obtain ⟨⟨b4c0, b4f0⟩, ⟨b4c1, b4f1⟩, ⟨b4c2, b4f2⟩, ⟨b4c3, b4f3⟩, ⟨b4c4, b4f4⟩⟩ := bx5 (S.box 0 rfl)
  go_wp2
  clear b4c0 b4f0 b4c1 b4f1 b4c2 b4f2 b4c3 b4f3 b4c4 b4f4
  replace S : Sep w (((((w2.setCell ⟨B4, 0, none⟩ (.slice none 0 0)).setCell ⟨B4, 1, none⟩ (.int .i64 0)).setCell ⟨B4, 2, none⟩ (.int .i64 0)).setCell ⟨B4, 3, none⟩ (.int .i64 0)).setCell ⟨B4, 4, none⟩ (.int .i64 0)) [plBox B4 #[.slice none 0 0, .int .i64 0, .int .i64 0, .int .i64 0, .int .i64 0] 31, plBox B3 #[.slice at_ T.length cap, .int .i64 cr, .int .i64 ca, .int .i64 cs, .int .i64 cg] 31] := ((((S.set 0 rfl 0 _).set 0 rfl 1 _).set 0 rfl 2 _).set 0 rfl 3 _).set 0 rfl 4 _
  generalize (((((w2.setCell ⟨B4, 0, none⟩ (.slice none 0 0)).setCell ⟨B4, 1, none⟩ (.int .i64 0)).setCell ⟨B4, 2, none⟩ (.int .i64 0)).setCell ⟨B4, 3, none⟩ (.int .i64 0)).setCell ⟨B4, 4, none⟩ (.int .i64 0)) = wD at *
  obtain ⟨⟨b4c0, b4f0⟩, ⟨b4c1, b4f1⟩, ⟨b4c2, b4f2⟩, ⟨b4c3, b4f3⟩, ⟨b4c4, b4f4⟩⟩ := bx5 (S.box 0 rfl)
  refine bodyPost_ret (v := .tuple #[.agg #[.slice none 0 0, .int .i64 0, .int .i64 0, .int .i64 0, .int .i64 0], .string ⟨#[]⟩]) (by simp [results, Tryz.results10, go_sem, b4c0, b4c1, b4c2, b4c3, b4c4]) rfl ?_
  rw [HX.out.1, HX.out.2]
  exact ⟨_, [], rfl, nil_tree S.ext⟩
 | true =>
  have hyes : TreeOk T ∧ Cr.ok ⟨cr, ca, cs, cg⟩ := Hv.out.1 rfl
  have HX : Hid (callLine T ⟨cr, ca, cs, cg⟩ s = callF T ⟨cr, ca, cs, cg⟩ (wordsB s) ∧ callCr T ⟨cr, ca, cs, cg⟩ = ⟨cr, ca, cs, cg⟩) := Lib.hid ⟨by unfold callLine; rw [if_pos hyes], by unfold callCr; rw [if_pos hyes]⟩
  replace HNB : Hid (NB 1000000 T) := Lib.hid (HNB.out hyes.1)
  clear Hv hyes
  go_wp2_with fail
  refine (split_any s w2 (by omega) (hm.ext S.ext)).mono ?_
  rintro e w3 ⟨rfl, hw3⟩
  have hlenW : (wordsB s).length = Lib.countB s ⟨#[32]⟩ + 1 := words_count s
  rw [split_words] at hw3
  obtain ⟨W, hW⟩ : ∃ W, W = wordsB s := ⟨_, rfl⟩
  have hWs : ∀ p ∈ W, p.size ≤ 1048576 := fun p hp => by rw [hW] at hp; have := words_size hp; omega
  have hWl : 1 ≤ W.length ∧ W.length ≤ 1048577 := by rw [hW]; have h1 := words_pos s; have h2 := words_len s; omega
  rw [← hlenW, ← hW]
  rw [← hW] at hw3
  have S : Sep w (w2.alloc (.cells (W.map Value.string).toArray 9)) (plRow 9 1 encStr1 (.slice (some ⟨w2.heap.size, 0, none⟩) W.length W.length) W :: _) := S.lit rfl 9 1 encStr1_len W (by rw [List.toList_toArray]; exact str_flat W) rfl (by omega)
  rw [← hw3] at S
  have HW := Lib.hid hW
  clear hW hlenW hw3
  generalize w2.heap.size = gw at *
  have hrdW : Rd 1 encStr1 w3 (some ⟨gw, 0, none⟩) W := S.rd 0 encStr1_len rfl rfl
  have HRW := Lib.hid hrdW
  have HWs := Lib.hid hWs
  have HWl := Lib.hid hWl
  clear hrdW hWs hWl
  generalize hn : W.length = n at *
  have Hn := Lib.hid hn
  clear hn
  have HTe := Lib.hid (fun w' (hE : Ext w3 w') => implTell at_ cap T cr ca cs cg gw n W w' (by rw [Hn.out]; have := HWl.out; omega) HWs.out (HRW.out.ext hE) hl HT.out (hc.ext (S.ext.trans hE)) (hm.ext (S.ext.trans hE)))
  rw [Hn.out] at HTe
  have HCF : Hid (callF T ⟨cr, ca, cs, cg⟩ W = match changeF T ⟨cr, ca, cs, cg⟩ W with | some r => doneT T r | none => (T, tellF T ⟨cr, ca, cs, cg⟩ W)) := Lib.hid rfl
  have HF := Lib.hid (implChange at_ cap T cr ca cs cg gw n W w3 (by rw [Hn.out]; have := HWl.out; omega) HWs.out HRW.out hl HT.out HNB.out (hc.ext S.ext) (hm.ext S.ext))
  rw [Hn.out] at HF
  generalize changeF T ⟨cr, ca, cs, cg⟩ W = oc at *
  generalize tellF T ⟨cr, ca, cs, cg⟩ W = tx at *
  obtain ⟨⟨b3c0, b3f0⟩, ⟨b3c1, b3f1⟩, ⟨b3c2, b3f2⟩, ⟨b3c3, b3f3⟩, ⟨b3c4, b3f4⟩⟩ := bx5 (S.box 2 rfl)
  go_wp2_with fail
  clear b3c0 b3f0 b3c1 b3f1 b3c2 b3f2 b3c3 b3f3 b3c4 b3f4
  refine HF.out.mono ?_
  rintro e w8 ⟨u8, v8, rfl, S8⟩
  have HE38 := Lib.hid (S8.ext.trans (Ext.refl w8).drew)
  have S := S.call S8
  clear HF
  obtain ⟨ua, uc, rfl, _, _⟩ := nd_view (S8.at_ 0 rfl)
  clear S8
  have S : Sep w w8 [plNd (.slice ua (oc.getD ([], 1)).1.length uc) v8 (oc.getD ([], 1)).1, plRow 9 1 encStr1 (.slice (some ⟨gw, 0, none⟩) n n) W, plBox B4 #[.slice none 0 0, .int .i64 0, .int .i64 0, .int .i64 0, .int .i64 0] 31, plBox B3 #[.slice at_ T.length cap, .int .i64 cr, .int .i64 ca, .int .i64 cs, .int .i64 cg] 31] := S
  cases oc with
  | none =>
   have HQ : Hid (callF T ⟨cr, ca, cs, cg⟩ W = (T, tx)) := Lib.hid HCF.out
   clear HCF
   simp only [Option.getD_none, Option.isSome_none] at S ⊢
   replace S : Sep w w8 [plRow 9 1 encStr1 (.slice (some ⟨gw, 0, none⟩) n n) W, plBox B4 #[.slice none 0 0, .int .i64 0, .int .i64 0, .int .i64 0, .int .i64 0] 31, plBox B3 #[.slice at_ T.length cap, .int .i64 cr, .int .i64 ca, .int .i64 cs, .int .i64 cg] 31] := S.drop 0
   go_upto_region 6 with fail
   replace S := S.drew
   obtain ⟨b3c0, _⟩ := bx (S.box 2 rfl) 0 rfl
   obtain ⟨b3c1, _⟩ := bx (S.box 2 rfl) 1 rfl
   obtain ⟨b3c2, _⟩ := bx (S.box 2 rfl) 2 rfl
   obtain ⟨b3c3, _⟩ := bx (S.box 2 rfl) 3 rfl
   obtain ⟨b3c4, _⟩ := bx (S.box 2 rfl) 4 rfl
   have hcd : RdN (World.drew w8) at_ T := hc.ext S.ext
   have HSd := Lib.hid S
   clear S
   refine wp_region_c (V := VTe (World.drew w8) B3 at_ cap T cr ca cs cg gw n n tx) (fun wv => Ext (World.drew w8) wv) (fun i => if i = 2 then some 5 else none) [] 9 0 rfl (by decide) (by kernel_rfl) (by kernel_rfl) (by kernel_rfl) (by kernel_rfl) (Ext.refl _) (fun r hr => by omega) ?_ ?_
   ·intro i o hi ho vz w4 hvl hE hd hrest
    match vz, hvl with
    | [y0, y1, y2, y3, y4, y5, y6, y7, y8], _ =>
    rcases (show i = 0 ∨ i = 1 ∨ i = 2 ∨ i = 3 ∨ i = 4 ∨ i = 5 ∨ i = 6 ∨ i = 7 ∨ i = 8 by omega) with rfl | rfl | rfl | rfl | rfl | rfl | rfl | rfl | rfl
    all_goals
     simp only [List.getElem?_cons_zero, List.getElem?_cons_succ, Option.some.injEq] at ho
     subst ho
    ·clear hd hrest
     simp [putAll, Act.put]
     go_wp2
     exact OneC.mk (VTe.ext) rfl rfl hE (Ext.refl _)
    ·have q0 : y0 = .pointer (some ⟨B3, 0, none⟩) := hd ⟨0, .data⟩ (by simp) rfl (.inl rfl)
     have c0 := cell_ext hE b3c0
     subst q0
     clear hd hrest
     simp [putAll, Act.put]
     go_wp2
     exact OneC.mk (VTe.ext) rfl rfl hE (Ext.refl _)
    ·have q1 : y1 = .slice at_ T.length cap := hd ⟨1, .data⟩ (by simp) rfl (.inl rfl)
     have HC := Lib.hid (implCopy at_ cap T w4 hl HT.out (hcd.ext hE))
     subst q1
     clear hd hrest
     simp [putAll, Act.put]
     go_wp2_with fail
     refine HC.out.mono ?_
     rintro e w5 ⟨u5, vs5, rfl, S5⟩
     have S6 := S5.since hE
     have hE5 := S5.ext
     clear HC S5
     go_wp2
     exact OneC.mk (VTe.ext) rfl ⟨_, S6⟩ (hE.trans hE5) hE5
    ·clear hd hrest
     simp [putAll, Act.put]
     go_wp2
     exact OneC.mk (VTe.ext) rfl rfl hE (Ext.refl _)
    ·have q3 : y3 = .pointer (some ⟨B3, 1, none⟩) := hd ⟨3, .data⟩ (by simp) rfl (.inl rfl)
     have c1 := cell_ext hE b3c1
     have c2 := cell_ext hE b3c2
     have c3 := cell_ext hE b3c3
     have c4 := cell_ext hE b3c4
     subst q3
     clear hd hrest
     simp [putAll, Act.put]
     go_wp2
     exact OneC.mk (VTe.ext) rfl rfl hE (Ext.refl _)
    ·obtain ⟨vs2, S2⟩ : ∃ vs, Sep (World.drew w8) w4 [plNd y2 vs T] := hd ⟨2, .data⟩ (by simp) rfl (.inr rfl)
     have q4 : y4 = .agg #[.int .i64 cr, .int .i64 ca, .int .i64 cs, .int .i64 cg] := hd ⟨4, .data⟩ (by simp) rfl (.inl rfl)
     obtain ⟨ua2, uc2, rfl, _, _⟩ := nd_view (S2.at_ 0 rfl)
     have HS2 := Lib.hid S2
     subst q4
     clear hd hrest S2
     simp [putAll, Act.put]
     go_wp2
     refine ⟨rfl, _, rfl, ⟨_, vs2, rfl, HS2.out⟩, hE, fun j u hj hne hcon hnd hnc hv => hv⟩
    ·have c0 := cell_ext hE b3c0
     have c1 := cell_ext hE b3c1
     have c2 := cell_ext hE b3c2
     have c3 := cell_ext hE b3c3
     have c4 := cell_ext hE b3c4
     clear hd hrest
     simp [putAll, Act.put]
     go_wp2
     exact OneC.mk (VTe.ext) rfl rfl hE (Ext.refl _)
    ·clear hd hrest
     simp [putAll, Act.put]
     go_wp2
     exact OneC.mk (VTe.ext) rfl rfl hE (Ext.refl _)
    ·have q6 : y6 = .agg #[.slice at_ T.length cap, .int .i64 cr, .int .i64 ca, .int .i64 cs, .int .i64 cg] := hd ⟨6, .data⟩ (by simp) rfl (.inl rfl)
     have q7 : y7 = .slice (some ⟨gw, 0, none⟩) n n := hd ⟨7, .data⟩ (by simp) rfl (.inl rfl)
     have HC := Lib.hid (HTe.out w4 (HE38.out.trans hE))
     subst q6 q7
     clear hd hrest
     simp [putAll, Act.put]
     go_wp2_with fail
     refine HC.out.mono ?_
     rintro e w5 ⟨rfl, hE5⟩
     have HE5 := Lib.hid hE5
     clear HC hE5
     go_wp2
     exact OneC.mk (VTe.ext) rfl rfl (hE.trans HE5.out) HE5.out
   intro vz w9 hvl hE hV _
   match vz, hvl with
   | [y0, y1, y2, y3, y4, y5, y6, y7, y8], _ =>
   obtain ⟨u5, vs5, q5, S5⟩ : ∃ u vs, y5 = .agg #[u, .int .i64 cr, .int .i64 ca, .int .i64 cs, .int .i64 cg] ∧ Sep (World.drew w8) w9 [plNd u vs T] := hV 5 (by omega) rfl
   have q8 : y8 = .string tx := hV 8 (by omega) rfl
   have S := HSd.out.call S5
   obtain ⟨ua5, uc5, rfl, _, _⟩ := nd_view (S5.at_ 0 rfl)
   have S : Sep w w9 [plNd (.slice ua5 T.length uc5) vs5 T, plRow 9 1 encStr1 (.slice (some ⟨gw, 0, none⟩) n n) W, plBox B4 #[.slice none 0 0, .int .i64 0, .int .i64 0, .int .i64 0, .int .i64 0] 31, plBox B3 #[.slice at_ T.length cap, .int .i64 cr, .int .i64 ca, .int .i64 cs, .int .i64 cg] 31] := S
   subst q5 q8
   clear S5 HSd hcd hE b3c0 b3c1 b3c2 b3c3 b3c4
   clear hV hvl
   simp only [putAll, Act.put, List.take_succ_cons, List.take_zero, List.drop_succ_cons, List.drop_zero]
   simp
   obtain ⟨⟨b4c0, b4f0⟩, ⟨b4c1, b4f1⟩, ⟨b4c2, b4f2⟩, ⟨b4c3, b4f3⟩, ⟨b4c4, b4f4⟩⟩ := bx5 (S.box 2 rfl)
   go_wp2
   clear b4c0 b4f0 b4c1 b4f1 b4c2 b4f2 b4c3 b4f3 b4c4 b4f4
   replace S : Sep w (((((w9.setCell ⟨B4, 0, none⟩ (.slice ua5 T.length uc5)).setCell ⟨B4, 1, none⟩ (.int .i64 cr)).setCell ⟨B4, 2, none⟩ (.int .i64 ca)).setCell ⟨B4, 3, none⟩ (.int .i64 cs)).setCell ⟨B4, 4, none⟩ (.int .i64 cg)) [plNd (.slice ua5 T.length uc5) vs5 T, plRow 9 1 encStr1 (.slice (some ⟨gw, 0, none⟩) n n) W, plBox B4 #[.slice ua5 T.length uc5, .int .i64 cr, .int .i64 ca, .int .i64 cs, .int .i64 cg] 31, plBox B3 #[.slice at_ T.length cap, .int .i64 cr, .int .i64 ca, .int .i64 cs, .int .i64 cg] 31] := ((((S.set 2 rfl 0 _).set 2 rfl 1 _).set 2 rfl 2 _).set 2 rfl 3 _).set 2 rfl 4 _
   generalize (((((w9.setCell ⟨B4, 0, none⟩ (.slice ua5 T.length uc5)).setCell ⟨B4, 1, none⟩ (.int .i64 cr)).setCell ⟨B4, 2, none⟩ (.int .i64 ca)).setCell ⟨B4, 3, none⟩ (.int .i64 cs)).setCell ⟨B4, 4, none⟩ (.int .i64 cg)) = wD at *
   obtain ⟨⟨b4c0, b4f0⟩, ⟨b4c1, b4f1⟩, ⟨b4c2, b4f2⟩, ⟨b4c3, b4f3⟩, ⟨b4c4, b4f4⟩⟩ := bx5 (S.box 2 rfl)
   refine bodyPost_ret (v := .tuple #[.agg #[.slice ua5 T.length uc5, .int .i64 cr, .int .i64 ca, .int .i64 cs, .int .i64 cg], .string tx]) (by simp [results, Tryz.results10, go_sem, b4c0, b4c1, b4c2, b4c3, b4c4]) rfl ?_
   rw [HX.out.1, HX.out.2, ← HW.out, HQ.out]
   replace S : Sep w wD [plNd (.slice ua5 T.length uc5) vs5 T] := ((S.drop 1).drop 1).drop 1
   exact ⟨_, vs5, rfl, S⟩
  | some r =>
   have HQ : Hid (callF T ⟨cr, ca, cs, cg⟩ W = doneT T r) := Lib.hid HCF.out
   clear HCF HTe
   simp only [Option.getD_some, Option.isSome_some] at S ⊢
   obtain ⟨R, f⟩ := r
   dsimp only at S HQ ⊢
   by_cases hf : f = 0
   ·subst hf
    replace HQ : Hid (callF T ⟨cr, ca, cs, cg⟩ W = (R, ⟨#[110, 111, 110, 101]⟩)) := Lib.hid (HQ.out.trans rfl)
    go_upto_region 9 with fail
    replace S := S.drew
    obtain ⟨b3c0, _⟩ := bx (S.box 3 rfl) 0 rfl
    obtain ⟨b3c1, _⟩ := bx (S.box 3 rfl) 1 rfl
    obtain ⟨b3c2, _⟩ := bx (S.box 3 rfl) 2 rfl
    obtain ⟨b3c3, _⟩ := bx (S.box 3 rfl) 3 rfl
    obtain ⟨b3c4, _⟩ := bx (S.box 3 rfl) 4 rfl
    have HSd := Lib.hid S
    repeat clear S
    generalize hRl : R.length = uc0 at *
    refine wp_region_c (V := VNo B3 (.slice ua uc0 uc) cr ca cs cg) (fun wv => Ext (World.drew w8) wv) (fun _ => none) [] 5 0 rfl (by decide) (by kernel_rfl) (by kernel_rfl) (by kernel_rfl) (by kernel_rfl) (Ext.refl _) (fun r hr => by omega) ?_ ?_
    ·intro i o hi ho vz w4 hvl hE hd hrest
     match vz, hvl with
     | [y0, y1, y2, y3, y4], _ =>
     rcases (show i = 0 ∨ i = 1 ∨ i = 2 ∨ i = 3 ∨ i = 4 by omega) with rfl | rfl | rfl | rfl | rfl
     all_goals
      simp only [List.getElem?_cons_zero, List.getElem?_cons_succ, Option.some.injEq] at ho
      subst ho
     ·clear hd hrest
      simp [putAll, Act.put]
      go_wp2
      exact OneC.mk (VNo.ext) rfl rfl hE (Ext.refl _)
     ·clear hd hrest
      simp [putAll, Act.put]
      go_wp2
      exact OneC.mk (VNo.ext) rfl rfl hE (Ext.refl _)
     ·have q1 : y1 = .pointer (some ⟨B3, 1, none⟩) := hd ⟨1, .data⟩ (by simp) rfl (.inl rfl)
      have c1 := cell_ext hE b3c1
      have c2 := cell_ext hE b3c2
      have c3 := cell_ext hE b3c3
      have c4 := cell_ext hE b3c4
      subst q1
      clear hd hrest
      simp [putAll, Act.put]
      go_wp2
      exact OneC.mk (VNo.ext) rfl rfl hE (Ext.refl _)
     ·have q0 : y0 = .slice ua uc0 uc := hd ⟨0, .data⟩ (by simp) rfl (.inl rfl)
      have q2 : y2 = .agg #[.int .i64 cr, .int .i64 ca, .int .i64 cs, .int .i64 cg] := hd ⟨2, .data⟩ (by simp) rfl (.inl rfl)
      subst q0 q2
      clear hd hrest
      simp [putAll, Act.put]
      go_wp2
      exact OneC.mk (VNo.ext) rfl rfl hE (Ext.refl _)
     ·have HC := Lib.hid (implFaultText 0 w4)
      clear hd hrest
      simp [putAll, Act.put]
      go_wp2_with fail
      refine HC.out.mono ?_
      rintro e w5 ⟨rfl, hE5⟩
      have HE5 := Lib.hid hE5
      clear HC hE5
      go_wp2
      exact OneC.mk (VNo.ext) rfl rfl (hE.trans HE5.out) HE5.out
    intro vz w9 hvl hE hV _
    match vz, hvl with
    | [y0, y1, y2, y3, y4], _ =>
    have q3 : y3 = .agg #[.slice ua uc0 uc, .int .i64 cr, .int .i64 ca, .int .i64 cs, .int .i64 cg] := hV 3 (by omega) rfl
    have q4 : y4 = .string ⟨#[110, 111, 110, 101]⟩ := hV 4 (by omega) rfl
    subst q3 q4
    have S := HSd.out.step hE
    subst hRl
    clear HSd hE b3c0 b3c1 b3c2 b3c3 b3c4
    clear hV hvl
    simp only [putAll, Act.put, List.take_succ_cons, List.take_zero, List.drop_succ_cons, List.drop_zero]
    simp
    obtain ⟨⟨b4c0, b4f0⟩, ⟨b4c1, b4f1⟩, ⟨b4c2, b4f2⟩, ⟨b4c3, b4f3⟩, ⟨b4c4, b4f4⟩⟩ := bx5 (S.box 2 rfl)
    go_wp2
    clear b4c0 b4f0 b4c1 b4f1 b4c2 b4f2 b4c3 b4f3 b4c4 b4f4
    replace S : Sep w (((((w9.setCell ⟨B4, 0, none⟩ (.slice ua R.length uc)).setCell ⟨B4, 1, none⟩ (.int .i64 cr)).setCell ⟨B4, 2, none⟩ (.int .i64 ca)).setCell ⟨B4, 3, none⟩ (.int .i64 cs)).setCell ⟨B4, 4, none⟩ (.int .i64 cg)) [plNd (.slice ua R.length uc) v8 R, plRow 9 1 encStr1 (.slice (some ⟨gw, 0, none⟩) n n) W, plBox B4 #[.slice ua R.length uc, .int .i64 cr, .int .i64 ca, .int .i64 cs, .int .i64 cg] 31, plBox B3 #[.slice at_ T.length cap, .int .i64 cr, .int .i64 ca, .int .i64 cs, .int .i64 cg] 31] := ((((S.set 2 rfl 0 _).set 2 rfl 1 _).set 2 rfl 2 _).set 2 rfl 3 _).set 2 rfl 4 _
    generalize (((((w9.setCell ⟨B4, 0, none⟩ (.slice ua R.length uc)).setCell ⟨B4, 1, none⟩ (.int .i64 cr)).setCell ⟨B4, 2, none⟩ (.int .i64 ca)).setCell ⟨B4, 3, none⟩ (.int .i64 cs)).setCell ⟨B4, 4, none⟩ (.int .i64 cg)) = wD at *
    obtain ⟨⟨b4c0, b4f0⟩, ⟨b4c1, b4f1⟩, ⟨b4c2, b4f2⟩, ⟨b4c3, b4f3⟩, ⟨b4c4, b4f4⟩⟩ := bx5 (S.box 2 rfl)
    refine bodyPost_ret (v := .tuple #[.agg #[.slice ua R.length uc, .int .i64 cr, .int .i64 ca, .int .i64 cs, .int .i64 cg], .string ⟨#[110, 111, 110, 101]⟩]) (by simp [results, Tryz.results10, go_sem, b4c0, b4c1, b4c2, b4c3, b4c4]) rfl ?_
    rw [HX.out.1, HX.out.2, ← HW.out, HQ.out]
    replace S : Sep w wD [plNd (.slice ua R.length uc) v8 R] := ((S.drop 1).drop 1).drop 1
    exact ⟨_, v8, rfl, S⟩
   ·replace HQ : Hid (callF T ⟨cr, ca, cs, cg⟩ W = (T, faultText f)) := Lib.hid (HQ.out.trans (by unfold doneT; rw [if_neg hf]))
    have tf : (f != 0) = true := by simpa using hf
    clear hf
    replace S : Sep w w8 [plRow 9 1 encStr1 (.slice (some ⟨gw, 0, none⟩) n n) W, plBox B4 #[.slice none 0 0, .int .i64 0, .int .i64 0, .int .i64 0, .int .i64 0] 31, plBox B3 #[.slice at_ T.length cap, .int .i64 cr, .int .i64 ca, .int .i64 cs, .int .i64 cg] 31] := S.drop 0
    go_upto_region 8 with fail
    replace S := S.drew
    obtain ⟨b3c0, _⟩ := bx (S.box 2 rfl) 0 rfl
    obtain ⟨b3c1, _⟩ := bx (S.box 2 rfl) 1 rfl
    obtain ⟨b3c2, _⟩ := bx (S.box 2 rfl) 2 rfl
    obtain ⟨b3c3, _⟩ := bx (S.box 2 rfl) 3 rfl
    obtain ⟨b3c4, _⟩ := bx (S.box 2 rfl) 4 rfl
    have hcd : RdN (World.drew w8) at_ T := hc.ext S.ext
    have HSd := Lib.hid S
    clear S
    refine wp_region_c (V := VDn (World.drew w8) B3 at_ cap T cr ca cs cg f) (fun wv => Ext (World.drew w8) wv) (fun i => if i = 2 then some 5 else none) [] 8 0 rfl (by decide) (by kernel_rfl) (by kernel_rfl) (by kernel_rfl) (by kernel_rfl) (Ext.refl _) (fun r hr => by omega) ?_ ?_
    ·intro i o hi ho vz w4 hvl hE hd hrest
     match vz, hvl with
     | [y0, y1, y2, y3, y4, y5, y6, y7], _ =>
     rcases (show i = 0 ∨ i = 1 ∨ i = 2 ∨ i = 3 ∨ i = 4 ∨ i = 5 ∨ i = 6 ∨ i = 7 by omega) with rfl | rfl | rfl | rfl | rfl | rfl | rfl | rfl
     all_goals
      simp only [List.getElem?_cons_zero, List.getElem?_cons_succ, Option.some.injEq] at ho
      subst ho
     ·clear hd hrest
      simp [putAll, Act.put]
      go_wp2
      exact OneC.mk (VDn.ext) rfl rfl hE (Ext.refl _)
     ·have q0 : y0 = .pointer (some ⟨B3, 0, none⟩) := hd ⟨0, .data⟩ (by simp) rfl (.inl rfl)
      have c0 := cell_ext hE b3c0
      subst q0
      clear hd hrest
      simp [putAll, Act.put]
      go_wp2
      exact OneC.mk (VDn.ext) rfl rfl hE (Ext.refl _)
     ·have q1 : y1 = .slice at_ T.length cap := hd ⟨1, .data⟩ (by simp) rfl (.inl rfl)
      have HC := Lib.hid (implCopy at_ cap T w4 hl HT.out (hcd.ext hE))
      subst q1
      clear hd hrest
      simp [putAll, Act.put]
      go_wp2_with fail
      refine HC.out.mono ?_
      rintro e w5 ⟨u5, vs5, rfl, S5⟩
      have S6 := S5.since hE
      have hE5 := S5.ext
      clear HC S5
      go_wp2
      exact OneC.mk (VDn.ext) rfl ⟨_, S6⟩ (hE.trans hE5) hE5
     ·clear hd hrest
      simp [putAll, Act.put]
      go_wp2
      exact OneC.mk (VDn.ext) rfl rfl hE (Ext.refl _)
     ·have q3 : y3 = .pointer (some ⟨B3, 1, none⟩) := hd ⟨3, .data⟩ (by simp) rfl (.inl rfl)
      have c1 := cell_ext hE b3c1
      have c2 := cell_ext hE b3c2
      have c3 := cell_ext hE b3c3
      have c4 := cell_ext hE b3c4
      subst q3
      clear hd hrest
      simp [putAll, Act.put]
      go_wp2
      exact OneC.mk (VDn.ext) rfl rfl hE (Ext.refl _)
     ·obtain ⟨vs2, S2⟩ : ∃ vs, Sep (World.drew w8) w4 [plNd y2 vs T] := hd ⟨2, .data⟩ (by simp) rfl (.inr rfl)
      have q4 : y4 = .agg #[.int .i64 cr, .int .i64 ca, .int .i64 cs, .int .i64 cg] := hd ⟨4, .data⟩ (by simp) rfl (.inl rfl)
      obtain ⟨ua2, uc2, rfl, _, _⟩ := nd_view (S2.at_ 0 rfl)
      have HS2 := Lib.hid S2
      subst q4
      clear hd hrest S2
      simp [putAll, Act.put]
      go_wp2
      refine ⟨rfl, _, rfl, ⟨_, vs2, rfl, HS2.out⟩, hE, fun j u hj hne hcon hnd hnc hv => hv⟩
     ·clear hd hrest
      simp [putAll, Act.put]
      go_wp2
      exact OneC.mk (VDn.ext) rfl rfl hE (Ext.refl _)
     ·have q6 : y6 = .int .i64 f := hd ⟨6, .data⟩ (by simp) rfl (.inl rfl)
      have HC := Lib.hid (implFaultText f w4)
      subst q6
      clear hd hrest
      simp [putAll, Act.put]
      go_wp2_with fail
      refine HC.out.mono ?_
      rintro e w5 ⟨rfl, hE5⟩
      have HE5 := Lib.hid hE5
      clear HC hE5
      go_wp2
      exact OneC.mk (VDn.ext) rfl rfl (hE.trans HE5.out) HE5.out
    intro vz w9 hvl hE hV _
    match vz, hvl with
    | [y0, y1, y2, y3, y4, y5, y6, y7], _ =>
    obtain ⟨u5, vs5, q5, S5⟩ : ∃ u vs, y5 = .agg #[u, .int .i64 cr, .int .i64 ca, .int .i64 cs, .int .i64 cg] ∧ Sep (World.drew w8) w9 [plNd u vs T] := hV 5 (by omega) rfl
    have q7 : y7 = .string (faultText f) := hV 7 (by omega) rfl
    have S := HSd.out.call S5
    obtain ⟨ua5, uc5, rfl, _, _⟩ := nd_view (S5.at_ 0 rfl)
    have S : Sep w w9 [plNd (.slice ua5 T.length uc5) vs5 T, plRow 9 1 encStr1 (.slice (some ⟨gw, 0, none⟩) n n) W, plBox B4 #[.slice none 0 0, .int .i64 0, .int .i64 0, .int .i64 0, .int .i64 0] 31, plBox B3 #[.slice at_ T.length cap, .int .i64 cr, .int .i64 ca, .int .i64 cs, .int .i64 cg] 31] := S
    subst q5 q7
    clear S5 HSd hcd hE b3c0 b3c1 b3c2 b3c3 b3c4
    clear hV hvl
    simp only [putAll, Act.put, List.take_succ_cons, List.take_zero, List.drop_succ_cons, List.drop_zero]
    simp
    generalize faultText f = tx at *
    obtain ⟨⟨b4c0, b4f0⟩, ⟨b4c1, b4f1⟩, ⟨b4c2, b4f2⟩, ⟨b4c3, b4f3⟩, ⟨b4c4, b4f4⟩⟩ := bx5 (S.box 2 rfl)
    go_wp2
    clear b4c0 b4f0 b4c1 b4f1 b4c2 b4f2 b4c3 b4f3 b4c4 b4f4
    replace S : Sep w (((((w9.setCell ⟨B4, 0, none⟩ (.slice ua5 T.length uc5)).setCell ⟨B4, 1, none⟩ (.int .i64 cr)).setCell ⟨B4, 2, none⟩ (.int .i64 ca)).setCell ⟨B4, 3, none⟩ (.int .i64 cs)).setCell ⟨B4, 4, none⟩ (.int .i64 cg)) [plNd (.slice ua5 T.length uc5) vs5 T, plRow 9 1 encStr1 (.slice (some ⟨gw, 0, none⟩) n n) W, plBox B4 #[.slice ua5 T.length uc5, .int .i64 cr, .int .i64 ca, .int .i64 cs, .int .i64 cg] 31, plBox B3 #[.slice at_ T.length cap, .int .i64 cr, .int .i64 ca, .int .i64 cs, .int .i64 cg] 31] := ((((S.set 2 rfl 0 _).set 2 rfl 1 _).set 2 rfl 2 _).set 2 rfl 3 _).set 2 rfl 4 _
    generalize (((((w9.setCell ⟨B4, 0, none⟩ (.slice ua5 T.length uc5)).setCell ⟨B4, 1, none⟩ (.int .i64 cr)).setCell ⟨B4, 2, none⟩ (.int .i64 ca)).setCell ⟨B4, 3, none⟩ (.int .i64 cs)).setCell ⟨B4, 4, none⟩ (.int .i64 cg)) = wD at *
    obtain ⟨⟨b4c0, b4f0⟩, ⟨b4c1, b4f1⟩, ⟨b4c2, b4f2⟩, ⟨b4c3, b4f3⟩, ⟨b4c4, b4f4⟩⟩ := bx5 (S.box 2 rfl)
    refine bodyPost_ret (v := .tuple #[.agg #[.slice ua5 T.length uc5, .int .i64 cr, .int .i64 ca, .int .i64 cs, .int .i64 cg], .string tx]) (by simp [results, Tryz.results10, go_sem, b4c0, b4c1, b4c2, b4c3, b4c4]) rfl ?_
    rw [HX.out.1, HX.out.2, ← HW.out, HQ.out]
    replace S : Sep w wD [plNd (.slice ua5 T.length uc5) vs5 T] := ((S.drop 1).drop 1).drop 1
    exact ⟨_, vs5, rfl, S⟩
def cntNd (x : Nd) : Nat := 5 + x.N.length + x.K.length
def sumNd : List Nd → Nat
 | [] => 0
 | x :: r => cntNd x + sumNd r
theorem sumNd_step {T : List Nd} : ∀ {k : Nat} {x : Nd}, T[k]? = some x → sumNd (T.take (k + 1)) = sumNd (T.take k) + cntNd x := by
 induction T with
 | nil => intro k x h; simp at h
 | cons y r ih =>
  intro k x h
  cases k with
  | zero => simp at h; subst h; simp [sumNd]
  | succ k =>
   rw [List.getElem?_cons_succ] at h
   rw [List.take_succ_cons, List.take_succ_cons, sumNd, sumNd, ih h]
   omega
theorem sumNd_take (T : List Nd) : ∀ k, sumNd (T.take k) ≤ sumNd T := by
 induction T with
 | nil => intro k; simp [sumNd]
 | cons y r ih =>
  intro k
  cases k with
  | zero => simp [sumNd]
  | succ k => rw [List.take_succ_cons, sumNd, sumNd]; have := ih k; omega
def digsF : Nat → Int → List UInt8 → List UInt8
 | 0, _, out => out
 | f + 1, k, out => if 0 < k then digsF f (k / 10) (UInt8.ofNat (48 + k % 10).toNat :: out) else out
def markStr (c : Int) : ByteArray := if c ≤ 0 then ⟨#[109, 48]⟩ else ⟨(109 :: digsF 20 c []).toArray⟩
theorem conv1 (n : Int) (w : World) : (convert 38 9 (.slice (some ⟨w.heap.size, 0, none⟩) 1 1)).run Tryz.prog (w.alloc (.cells #[.int .u8 n] 5)) = .ok (.string ⟨#[UInt8.ofNat n.toNat]⟩) (w.alloc (.cells #[.int .u8 n] 5)) := by
 rw [run_convert_bytes_arg (P := Tryz.prog) _ 38 5 Tryz.underlying38 Tryz.underlying5 w.heap.size 0 1 1 [n] rfl (fun i hi => by
  obtain rfl : i = 0 := by omega
  simp) 9 Tryz.underlying9]
 rfl
theorem one_append (x : UInt8) (out : List UInt8) : (⟨#[x]⟩ : ByteArray) ++ (⟨out.toArray⟩ : ByteArray) = ⟨(x :: out).toArray⟩ := by
 apply ByteArray.ext
 simp [ByteArray.data_append]
theorem digsF_zero (f : Nat) (out : List UInt8) : digsF f 0 out = out := by cases f <;> simp [digsF]
set_option maxHeartbeats 1000000 in
theorem markText_any (c : Int) (w : World) (h0 : 0 ≤ c) (h1 : c ≤ 10000000000000) :
  Calls Tryz.prog 62 #[.int .i64 c] w (RetV (fun v _ => v = .string (markStr c)) w) := by
 by_cases hz : c ≤ 0
 ·go_enter Tryz.func62, Tryz.ntmps62
  go_wp2
  go_ret
  exact RetV.mk (by simp [markStr, hz]) (Ext.refl _)
 ·go_enter Tryz.func62, Tryz.ntmps62
  go_wp2
  go_loopw [0, 3] (fun q o wr => ∃ (f : Nat) (k : Int) (out : List UInt8), q = .int .i64 k ∧ o = .string ⟨out.toArray⟩ ∧ 0 ≤ k ∧ k < 10 ^ f ∧ k ≤ 10000000000000 ∧ f + out.length ≤ 20 ∧ digsF f k out = digsF 20 c [] ∧ Ext w wr) (fun q _ _ => (intOf q).toNat)
  case atStart => exact ⟨20, c, [], rfl, rfl, h0, by omega, h1, by simp, rfl, Ext.refl _⟩
  case round =>
   obtain ⟨f, k, out, rfl, rfl, hk0, hk1, hk2, hf, hd, hb⟩ := hrel
   have Hd := Lib.hid hd
   clear hd
   have Hk1 := Lib.hid hk1
   clear hk1
   by_cases hpos : 0 < k
   ·have hcv := conv1 (48 + k % 10) wr
    have hsz : (⟨#[UInt8.ofNat (48 + k % 10).toNat]⟩ : ByteArray).size + (⟨out.toArray⟩ : ByteArray).size ≤ 9223372036854775807 := by
     show 1 + out.toArray.size ≤ _
     simp; omega
    go_wp2
    go_roundw
    case rel =>
     obtain ⟨g, rfl⟩ : ∃ g, f = g + 1 := by
      cases f with
      | zero => exfalso; have := Hk1.out; simp at this; omega
      | succ g => exact ⟨g, rfl⟩
     refine ⟨g, k / 10, UInt8.ofNat (48 + k % 10).toNat :: out, rfl, by rw [one_append], by omega, ?_, by omega, by simp only [List.length_cons]; omega, ?_, hb.alloc _⟩
     ·have := Hk1.out
      rw [Int.pow_succ] at this
      omega
     ·rw [← Hd.out]
      show _ = if 0 < k then _ else _
      rw [if_pos hpos]
    case measure => simp [intOf]; omega
   ·have hk : k = 0 := by omega
    subst hk
    have hsz : (⟨#[109]⟩ : ByteArray).size + (⟨out.toArray⟩ : ByteArray).size ≤ 9223372036854775807 := by
     show 1 + out.toArray.size ≤ _
     simp; omega
    go_wp2
    go_ret
    exact RetV.mk (by rw [markStr, if_neg (by omega), ← Hd.out, digsF_zero, ← one_append]; rfl) hb
end Go.Proofs.YtnibbldfohbfkaaGreatDoor
