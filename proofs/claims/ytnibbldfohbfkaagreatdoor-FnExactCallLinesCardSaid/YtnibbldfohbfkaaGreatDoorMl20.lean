/- Parts of one proof: what each theorem proves, and its conditions, stand in its own statement. -/
import Derived.Test.YtnibbldfohbfkaaGreatDoorMl16
import Derived.Test.YtnibbldfohbfkaaGreatDoorMl19
set_option linter.all false
set_option maxRecDepth 100000
set_option maxHeartbeats 32000000
namespace Go.Proofs.YtnibbldfohbfkaaGreatDoor
open Go.RowKit
theorem words_count (s : ByteArray) : (wordsB s).length = Lib.countB s ⟨#[32]⟩ + 1 := by
 have hw := winv s.data.toList
 have hcnt := count_lib 32 ((wordsL s.data.toList).map (·.data.toList)) (by simpa using hw.ne) (fun a ha => by
  obtain ⟨p, hp, rfl⟩ := List.mem_map.1 ha
  exact hw.no p hp)
 rw [hw.join, List.length_map] at hcnt; exact hcnt.symm
theorem str_flat : ∀ W : List ByteArray, W.map Value.string = W.flatMap encStr1
 | [] => rfl
 | a :: W => by rw [List.map_cons, List.flatMap_cons, str_flat W]; rfl
theorem cells2 {w : World} {gw : Nat} {W : List ByteArray} (h : Rd 1 encStr1 w (some ⟨gw, 0, none⟩) W) (k : Nat) {a : ByteArray} (hk : W[k]? = some a) : w.cell? ⟨gw, k, none⟩ = some (.string a) := by
 obtain ⟨x, b, o, hx, ha, hc⟩ := atStr h (List.getElem?_eq_some_iff.1 hk).1; rw [hk] at hx
 cases hx
 simp only [Option.some.injEq, Addr.mk.injEq] at ha; obtain ⟨rfl, rfl, _⟩ := ha; rw [Nat.zero_add] at hc; exact hc
theorem implChange (at_ : Option Addr) (cap : Nat) (T : List Nd) (cr ca cs cg : Int) (gw cw : Nat) (W : List ByteArray) (w : World) (hp : 0 < W.length) (hW : ∀ p ∈ W, p.size ≤ 1048576) (hrW : Rd 1 encStr1 w (some ⟨gw, 0, none⟩) W) (hl : T.length ≤ 1048576) (hT : ∀ x ∈ T, SmN 1048576 x) (hNB : NB 1000000 T) (hc : RdN w at_ T) (hm : MaxG w) :
  Calls Tryz.prog 45 #[.agg #[.slice at_ T.length cap, .int .i64 cr, .int .i64 ca, .int .i64 cs, .int .i64 cg], .slice (some ⟨gw, 0, none⟩) W.length cw] w (RetCh (changeF T ⟨cr, ca, cs, cg⟩ W) w) := by
 by_cases h2 : W.length = 2
 ·obtain ⟨a, x, rfl⟩ : ∃ a x, W = [a, x] := by
   match W, h2 with
   | [a, x], _ => exact ⟨a, x, rfl⟩
  have e0 := cells2 hrW 0 rfl; have e1 := cells2 hrW 1 rfl; have hx := hW x (by simp)
  by_cases h_folder : a = ⟨#[102, 111, 108, 100, 101, 114]⟩
  ·exact ich_2 at_ cap T cr ca cs cg gw cw a x w hx hl hT hNB hc hm (.inl h_folder) e0 e1
  by_cases h_file : a = ⟨#[102, 105, 108, 101]⟩
  ·exact ich_2 at_ cap T cr ca cs cg gw cw a x w hx hl hT hNB hc hm (.inr (.inl h_file)) e0 e1
  by_cases h_drop : a = ⟨#[100, 114, 111, 112]⟩
  ·exact ich_2 at_ cap T cr ca cs cg gw cw a x w hx hl hT hNB hc hm (.inr (.inr h_drop)) e0 e1
  exact ich2_no at_ cap T cr ca cs cg gw cw a x w hx hl hT hNB hc hm h_folder h_file h_drop e0 e1
 ·by_cases h3 : W.length = 3
  ·obtain ⟨a, x, y, rfl⟩ : ∃ a x y, W = [a, x, y] := by
    match W, h3 with
    | [a, x, y], _ => exact ⟨a, x, y, rfl⟩
   have e0 := cells2 hrW 0 rfl; have e1 := cells2 hrW 1 rfl; have e2 := cells2 hrW 2 rfl; have hx := hW x (by simp); have hy := hW y (by simp)
   by_cases h_mode : a = ⟨#[109, 111, 100, 101]⟩
   ·subst h_mode; exact ich_mode at_ cap T cr ca cs cg gw cw x y w hx hy hl hT hNB hc hm e0 e1 e2
   by_cases h_write : a = ⟨#[119, 114, 105, 116, 101]⟩
   ·exact ich_3 at_ cap T cr ca cs cg gw cw a x y w hx hy hl hT hNB hc hm (.inl h_write) e0 e1 e2
   by_cases h_link : a = ⟨#[108, 105, 110, 107]⟩
   ·exact ich_3 at_ cap T cr ca cs cg gw cw a x y w hx hy hl hT hNB hc hm (.inr (.inl h_link)) e0 e1 e2
   by_cases h_move : a = ⟨#[109, 111, 118, 101]⟩
   ·exact ich_3 at_ cap T cr ca cs cg gw cw a x y w hx hy hl hT hNB hc hm (.inr (.inr h_move)) e0 e1 e2
   exact ich3_no at_ cap T cr ca cs cg gw cw a x y w hx hy hl hT hNB hc hm h_write h_mode h_link h_move e0 e1 e2
  ·obtain ⟨a, ha⟩ : ∃ a, W[0]? = some a := ⟨_, List.getElem?_eq_getElem hp⟩; have e0 := cells2 hrW 0 ha; clear ha; exact ichn_no at_ cap T cr ca cs cg gw cw W.length W rfl h2 h3 hp a w e0
theorem implTell (at_ : Option Addr) (cap : Nat) (T : List Nd) (cr ca cs cg : Int) (gw cw : Nat) (W : List ByteArray) (w : World) (hp : 0 < W.length) (hW : ∀ p ∈ W, p.size ≤ 1048576) (hrW : Rd 1 encStr1 w (some ⟨gw, 0, none⟩) W) (hl : T.length ≤ 1048576) (hT : ∀ x ∈ T, SmN 1048576 x) (hc : RdN w at_ T) (hm : MaxG w) :
  Calls Tryz.prog 47 #[.agg #[.slice at_ T.length cap, .int .i64 cr, .int .i64 ca, .int .i64 cs, .int .i64 cg], .slice (some ⟨gw, 0, none⟩) W.length cw] w fun e w' => e = .returned (.string (tellF T ⟨cr, ca, cs, cg⟩ W)) ∧ Ext w w' := by
 by_cases h2 : W.length = 2
 ·obtain ⟨a, x, rfl⟩ : ∃ a x, W = [a, x] := by
   match W, h2 with
   | [a, x], _ => exact ⟨a, x, rfl⟩
  have e0 := cells2 hrW 0 rfl; have e1 := cells2 hrW 1 rfl; have hx := hW x (by simp)
  by_cases h_read : a = ⟨#[114, 101, 97, 100]⟩
  ·subst h_read; exact ite_read at_ cap T cr ca cs cg gw cw x w hx hl hT hc hm e0 e1
  by_cases h_list : a = ⟨#[108, 105, 115, 116]⟩
  ·subst h_list; exact ite_list at_ cap T cr ca cs cg gw cw x w hx hl hT hc hm e0 e1
  exact ite2_other at_ cap T cr ca cs cg gw cw a x w h_read h_list e0
 ·obtain ⟨a, ha⟩ : ∃ a, W[0]? = some a := ⟨_, List.getElem?_eq_getElem hp⟩; have e0 := cells2 hrW 0 ha; clear ha
  by_cases h_read : a = ⟨#[114, 101, 97, 100]⟩
  ·subst h_read; exact iten_read at_ cap T cr ca cs cg gw cw W.length W rfl h2 hp w e0
  by_cases h_list : a = ⟨#[108, 105, 115, 116]⟩
  ·subst h_list; exact iten_list at_ cap T cr ca cs cg gw cw W.length W rfl h2 hp w e0
  exact iten_other at_ cap T cr ca cs cg gw cw W.length W a rfl h2 hp w h_read h_list e0
def VTe (wR : World) (B3 : Nat) (at_ : Option Addr) (cap : Nat) (T : List Nd) (cr ca cs cg : Int) (gw n cw : Nat) (tx : ByteArray) : Nat → Value → World → Prop := fun i v wv => match i with
 | 0 => v = .pointer (some ⟨B3, 0, none⟩)
 | 1 => v = .slice at_ T.length cap
 | 2 => ∃ vs, Sep wR wv [plNd v vs T]
 | 3 => v = .pointer (some ⟨B3, 1, none⟩)
 | 4 => v = .agg #[.int .i64 cr, .int .i64 ca, .int .i64 cs, .int .i64 cg]
 | 5 => ∃ u vs, v = .agg #[u, .int .i64 cr, .int .i64 ca, .int .i64 cs, .int .i64 cg] ∧ Sep wR wv [plNd u vs T]
 | 6 => v = .agg #[.slice at_ T.length cap, .int .i64 cr, .int .i64 ca, .int .i64 cs, .int .i64 cg]
 | 7 => v = .slice (some ⟨gw, 0, none⟩) n cw
 | 8 => v = .string tx
 | _ => True
theorem VTe.ext {wR : World} {B3 : Nat} {at_ : Option Addr} {cap : Nat} {T : List Nd} {cr ca cs cg : Int} {gw n cw : Nat} {tx : ByteArray} (i : Nat) (v : Value) (w1 w2 : World) (h : VTe wR B3 at_ cap T cr ca cs cg gw n cw tx i v w1) (hE : Ext w1 w2) : VTe wR B3 at_ cap T cr ca cs cg gw n cw tx i v w2 := by
 match i with
 | 0 | 1 | 3 | 4 | 6 | 7 | 8 => exact h
 | 2 => obtain ⟨vs, h1⟩ := h; exact ⟨vs, h1.step hE⟩
 | 5 => obtain ⟨u, vs, h0, h1⟩ := h; exact ⟨u, vs, h0, h1.step hE⟩
 | (n + 9) => trivial
def VNo (B3 : Nat) (u : Value) (cr ca cs cg : Int) : Nat → Value → World → Prop := fun i v _ => match i with
 | 0 => v = u
 | 1 => v = .pointer (some ⟨B3, 1, none⟩)
 | 2 => v = .agg #[.int .i64 cr, .int .i64 ca, .int .i64 cs, .int .i64 cg]
 | 3 => v = .agg #[u, .int .i64 cr, .int .i64 ca, .int .i64 cs, .int .i64 cg]
 | 4 => v = .string ⟨#[110, 111, 110, 101]⟩
 | _ => True
theorem VNo.ext {B3 : Nat} {u : Value} {cr ca cs cg : Int} (i : Nat) (v : Value) (w1 w2 : World) (h : VNo B3 u cr ca cs cg i v w1) (hE : Ext w1 w2) : VNo B3 u cr ca cs cg i v w2 := h
theorem implCallLine (at_ : Option Addr) (cap : Nat) (T : List Nd) (cr ca cs cg : Int) (s : ByteArray) (w : World) (hs : s.size ≤ 1048576) (hl : T.length ≤ 1048576) (hT : ∀ x ∈ T, SmN 1048576 x) (hNB : TreeOk T → NB 1000000 T) (hc : RdN w at_ T) (hm : MaxG w) :
  Calls Tryz.prog 10 #[.agg #[.slice at_ T.length cap, .int .i64 cr, .int .i64 ca, .int .i64 cs, .int .i64 cg], .string s] w (RetK (callLine T ⟨cr, ca, cs, cg⟩ s) (callCr T ⟨cr, ca, cs, cg⟩) w) := by
 have HT := hd0 hT; have HNB := hd0 hNB; clear hT hNB
 go_enter Tryz.func10, Tryz.ntmps10
 have S := Sep.start w; replace S := S.alloc_at (n := w.heap.size) (by simp) #[.slice at_ T.length cap, .int .i64 cr, .int .i64 ca, .int .i64 cs, .int .i64 cg] 31; replace S := S.alloc_at (n := (w.heap.size + 1)) (by simp) #[.slice none 0 0, .int .i64 0, .int .i64 0, .int .i64 0, .int .i64 0] 31
 go_upto_region 1 with fail
 generalize ((w.alloc (.cells #[.slice at_ T.length cap, .int .i64 cr, .int .i64 ca, .int .i64 cs, .int .i64 cg] 31)).alloc (.cells #[.slice none 0 0, .int .i64 0, .int .i64 0, .int .i64 0, .int .i64 0] 31)) = w1 at *; generalize w.heap.size + 1 = B4 at *; generalize w.heap.size = B3 at *; obtain ⟨⟨b3c0, b3f0⟩, ⟨b3c1, b3f1⟩, ⟨b3c2, b3f2⟩, ⟨b3c3, b3f3⟩, ⟨b3c4, b3f4⟩⟩ := bx5 (S.box 1 rfl)
 go_wp2_with fail
 clear b3c0 b3f0 b3c1 b3f1 b3c2 b3f2 b3c3 b3f3 b3c4 b3f4; refine (implKernelValid at_ cap T cr ca cs cg w1 hl HT.out (hc.ext S.ext)).mono ?_; rintro e w2 ⟨v, rfl, hv, hE⟩; have Hv := hd0 hv; clear hv; replace S := S.step hE; clear hE
 cases v with
 | false =>
  have hno : ¬ (TreeOk T ∧ Cr.ok ⟨cr, ca, cs, cg⟩) := fun h => Bool.noConfusion (Hv.out.2 h)
  have HX : Hid (callLine T ⟨cr, ca, cs, cg⟩ s = ([], ⟨#[]⟩) ∧ callCr T ⟨cr, ca, cs, cg⟩ = ⟨0, 0, 0, 0⟩) := hd0 ⟨by unfold callLine; rw [if_neg hno], by unfold callCr; rw [if_neg hno]⟩; clear hno; obtain ⟨⟨b4c0, b4f0⟩, ⟨b4c1, b4f1⟩, ⟨b4c2, b4f2⟩, ⟨b4c3, b4f3⟩, ⟨b4c4, b4f4⟩⟩ := bx5 (S.box 0 rfl); go_wp2; clear b4c0 b4f0 b4c1 b4f1 b4c2 b4f2 b4c3 b4f3 b4c4 b4f4; replace S : Sep w (((((w2.setCell ⟨B4, 0, none⟩ (.slice none 0 0)).setCell ⟨B4, 1, none⟩ (.int .i64 0)).setCell ⟨B4, 2, none⟩ (.int .i64 0)).setCell ⟨B4, 3, none⟩ (.int .i64 0)).setCell ⟨B4, 4, none⟩ (.int .i64 0)) [plBox B4 #[.slice none 0 0, .int .i64 0, .int .i64 0, .int .i64 0, .int .i64 0] 31, plBox B3 #[.slice at_ T.length cap, .int .i64 cr, .int .i64 ca, .int .i64 cs, .int .i64 cg] 31] := ((((S.set 0 rfl 0 _).set 0 rfl 1 _).set 0 rfl 2 _).set 0 rfl 3 _).set 0 rfl 4 _; generalize (((((w2.setCell ⟨B4, 0, none⟩ (.slice none 0 0)).setCell ⟨B4, 1, none⟩ (.int .i64 0)).setCell ⟨B4, 2, none⟩ (.int .i64 0)).setCell ⟨B4, 3, none⟩ (.int .i64 0)).setCell ⟨B4, 4, none⟩ (.int .i64 0)) = wD at *; obtain ⟨⟨b4c0, b4f0⟩, ⟨b4c1, b4f1⟩, ⟨b4c2, b4f2⟩, ⟨b4c3, b4f3⟩, ⟨b4c4, b4f4⟩⟩ := bx5 (S.box 0 rfl); refine bodyPost_ret (v := .tuple #[.agg #[.slice none 0 0, .int .i64 0, .int .i64 0, .int .i64 0, .int .i64 0], .string ⟨#[]⟩]) (by simp [results, Tryz.results10, go_sem, b4c0, b4c1, b4c2, b4c3, b4c4]) rfl ?_; rw [HX.out.1, HX.out.2]; exact ⟨_, [], rfl, nil_tree S.ext⟩
 | true =>
  have hyes : TreeOk T ∧ Cr.ok ⟨cr, ca, cs, cg⟩ := Hv.out.1 rfl; have HX : Hid (callLine T ⟨cr, ca, cs, cg⟩ s = callF T ⟨cr, ca, cs, cg⟩ (wordsB s) ∧ callCr T ⟨cr, ca, cs, cg⟩ = ⟨cr, ca, cs, cg⟩) := hd0 ⟨by unfold callLine; rw [if_pos hyes], by unfold callCr; rw [if_pos hyes]⟩; replace HNB : Hid (NB 1000000 T) := hd0 (HNB.out hyes.1); clear Hv hyes
  go_wp2_with fail
  refine (split_any s w2 (by omega) (hm.ext S.ext)).mono ?_; rintro e w3 ⟨rfl, hw3⟩; have hlenW : (wordsB s).length = Lib.countB s ⟨#[32]⟩ + 1 := words_count s; rw [split_words] at hw3; obtain ⟨W, hW⟩ : ∃ W, W = wordsB s := ⟨_, rfl⟩
  have hWs : ∀ p ∈ W, p.size ≤ 1048576 := fun p hp => by rw [hW] at hp; have := words_size hp; omega
  have hWl : 1 ≤ W.length ∧ W.length ≤ 1048577 := by rw [hW]; have h1 := words_pos s; have h2 := words_len s; omega
  rw [← hlenW, ← hW]; rw [← hW] at hw3; have S : Sep w (w2.alloc (.cells (W.map Value.string).toArray 9)) (plRow 9 1 encStr1 (.slice (some ⟨w2.heap.size, 0, none⟩) W.length W.length) W :: _) := S.lit rfl 9 1 encStr1_len W (by rw [List.toList_toArray]; exact str_flat W) rfl (by omega); rw [← hw3] at S; have HW := hd0 hW; clear hW hlenW hw3; generalize w2.heap.size = gw at *; have hrdW : Rd 1 encStr1 w3 (some ⟨gw, 0, none⟩) W := S.rd 0 encStr1_len rfl rfl; have HRW := hd0 hrdW; have HWs := hd0 hWs; have HWl := hd0 hWl; clear hrdW hWs hWl; generalize hn : W.length = n at *; have Hn := hd0 hn; clear hn; have HTe := hd0 (fun w' (hE : Ext w3 w') => implTell at_ cap T cr ca cs cg gw n W w' (by rw [Hn.out]; have := HWl.out; omega) HWs.out (HRW.out.ext hE) hl HT.out (hc.ext (S.ext.trans hE)) (hm.ext (S.ext.trans hE))); rw [Hn.out] at HTe; have HCF : Hid (callF T ⟨cr, ca, cs, cg⟩ W = match changeF T ⟨cr, ca, cs, cg⟩ W with | some r => doneT T r | none => (T, tellF T ⟨cr, ca, cs, cg⟩ W)) := hd0 rfl; have HF := hd0 (implChange at_ cap T cr ca cs cg gw n W w3 (by rw [Hn.out]; have := HWl.out; omega) HWs.out HRW.out hl HT.out HNB.out (hc.ext S.ext) (hm.ext S.ext)); rw [Hn.out] at HF; generalize changeF T ⟨cr, ca, cs, cg⟩ W = oc at *; generalize tellF T ⟨cr, ca, cs, cg⟩ W = tx at *; obtain ⟨⟨b3c0, b3f0⟩, ⟨b3c1, b3f1⟩, ⟨b3c2, b3f2⟩, ⟨b3c3, b3f3⟩, ⟨b3c4, b3f4⟩⟩ := bx5 (S.box 2 rfl)
  go_wp2_with fail
  clear b3c0 b3f0 b3c1 b3f1 b3c2 b3f2 b3c3 b3f3 b3c4 b3f4; refine HF.out.mono ?_; rintro e w8 ⟨u8, v8, rfl, S8⟩; have HE38 := hd0 (S8.ext.trans (Ext.refl w8).drew); have S := S.call S8; clear HF; obtain ⟨ua, uc, rfl, _, _⟩ := nd_view (S8.at_ 0 rfl); clear S8; have S : Sep w w8 [plNd (.slice ua (oc.getD ([], 1)).1.length uc) v8 (oc.getD ([], 1)).1, plRow 9 1 encStr1 (.slice (some ⟨gw, 0, none⟩) n n) W, plBox B4 #[.slice none 0 0, .int .i64 0, .int .i64 0, .int .i64 0, .int .i64 0] 31, plBox B3 #[.slice at_ T.length cap, .int .i64 cr, .int .i64 ca, .int .i64 cs, .int .i64 cg] 31] := S
  cases oc with
  | none =>
   have HQ : Hid (callF T ⟨cr, ca, cs, cg⟩ W = (T, tx)) := hd0 HCF.out; clear HCF; simp only [Option.getD_none, Option.isSome_none] at S ⊢; replace S : Sep w w8 [plRow 9 1 encStr1 (.slice (some ⟨gw, 0, none⟩) n n) W, plBox B4 #[.slice none 0 0, .int .i64 0, .int .i64 0, .int .i64 0, .int .i64 0] 31, plBox B3 #[.slice at_ T.length cap, .int .i64 cr, .int .i64 ca, .int .i64 cs, .int .i64 cg] 31] := S.drop 0
   go_upto_region 6 with fail
   replace S := S.drew; obtain ⟨b3c0, _⟩ := bx (S.box 2 rfl) 0 rfl; obtain ⟨b3c1, _⟩ := bx (S.box 2 rfl) 1 rfl; obtain ⟨b3c2, _⟩ := bx (S.box 2 rfl) 2 rfl; obtain ⟨b3c3, _⟩ := bx (S.box 2 rfl) 3 rfl; obtain ⟨b3c4, _⟩ := bx (S.box 2 rfl) 4 rfl; have hcd : RdN (World.drew w8) at_ T := hc.ext S.ext; have HSd := hd0 S; clear S; refine wp_region_c (V := VTe (World.drew w8) B3 at_ cap T cr ca cs cg gw n n tx) (fun wv => Ext (World.drew w8) wv) (fun i => if i = 2 then some 5 else none) [] 9 0 rfl (by decide) (by kernel_rfl) (by kernel_rfl) (by kernel_rfl) (by kernel_rfl) (Ext.refl _) (fun r hr => by omega) ?_ ?_
   ·intro i o hi ho vz w4 hvl hE hd hrest
    match vz, hvl with
    | [y0, y1, y2, y3, y4, y5, y6, y7, y8], _ =>
    rcases lc9 hi with rfl | rfl | rfl | rfl | rfl | rfl | rfl | rfl | rfl
    all_goals
     obtain rfl := Option.some.inj ho
    ·clear hd hrest; simp [putAll, Act.put]; go_wp2; exact OneC.mk (VTe.ext) rfl rfl hE (Ext.refl _)
    ·have q0 : y0 = .pointer (some ⟨B3, 0, none⟩) := hd ⟨0, .data⟩ (by simp) rfl (.inl rfl); have c0 := cell_ext hE b3c0; subst q0; clear hd hrest; simp [putAll, Act.put]; go_wp2; exact OneC.mk (VTe.ext) rfl rfl hE (Ext.refl _)
    ·have q1 : y1 = .slice at_ T.length cap := hd ⟨1, .data⟩ (by simp) rfl (.inl rfl); have HC := hd0 (implCopy at_ cap T w4 hl HT.out (hcd.ext hE)); subst q1; clear hd hrest; simp [putAll, Act.put]
     go_wp2_with fail
     refine HC.out.mono ?_; rintro e w5 ⟨u5, vs5, rfl, S5⟩; have S6 := S5.since hE; have hE5 := S5.ext; clear HC S5; go_wp2; exact OneC.mk (VTe.ext) rfl ⟨_, S6⟩ (hE.trans hE5) hE5
    ·clear hd hrest; simp [putAll, Act.put]; go_wp2; exact OneC.mk (VTe.ext) rfl rfl hE (Ext.refl _)
    ·have q3 : y3 = .pointer (some ⟨B3, 1, none⟩) := hd ⟨3, .data⟩ (by simp) rfl (.inl rfl); have c1 := cell_ext hE b3c1; have c2 := cell_ext hE b3c2; have c3 := cell_ext hE b3c3; have c4 := cell_ext hE b3c4; subst q3; clear hd hrest; simp [putAll, Act.put]; go_wp2; exact OneC.mk (VTe.ext) rfl rfl hE (Ext.refl _)
    ·obtain ⟨vs2, S2⟩ : ∃ vs, Sep (World.drew w8) w4 [plNd y2 vs T] := hd ⟨2, .data⟩ (by simp) rfl (.inr rfl); have q4 : y4 = .agg #[.int .i64 cr, .int .i64 ca, .int .i64 cs, .int .i64 cg] := hd ⟨4, .data⟩ (by simp) rfl (.inl rfl); obtain ⟨ua2, uc2, rfl, _, _⟩ := nd_view (S2.at_ 0 rfl); have HS2 := hd0 S2; subst q4; clear hd hrest S2; simp [putAll, Act.put]; go_wp2; refine ⟨rfl, _, rfl, ⟨_, vs2, rfl, HS2.out⟩, hE, fun j u hj hne hcon hnd hnc hv => hv⟩
    ·have c0 := cell_ext hE b3c0; have c1 := cell_ext hE b3c1; have c2 := cell_ext hE b3c2; have c3 := cell_ext hE b3c3; have c4 := cell_ext hE b3c4; clear hd hrest; simp [putAll, Act.put]; go_wp2; exact OneC.mk (VTe.ext) rfl rfl hE (Ext.refl _)
    ·clear hd hrest; simp [putAll, Act.put]; go_wp2; exact OneC.mk (VTe.ext) rfl rfl hE (Ext.refl _)
    ·have q6 : y6 = .agg #[.slice at_ T.length cap, .int .i64 cr, .int .i64 ca, .int .i64 cs, .int .i64 cg] := hd ⟨6, .data⟩ (by simp) rfl (.inl rfl); have q7 : y7 = .slice (some ⟨gw, 0, none⟩) n n := hd ⟨7, .data⟩ (by simp) rfl (.inl rfl); have HC := hd0 (HTe.out w4 (HE38.out.trans hE)); subst q6 q7; clear hd hrest; simp [putAll, Act.put]
     go_wp2_with fail
     refine HC.out.mono ?_; rintro e w5 ⟨rfl, hE5⟩; have HE5 := hd0 hE5; clear HC hE5; go_wp2; exact OneC.mk (VTe.ext) rfl rfl (hE.trans HE5.out) HE5.out
   intro vz w9 hvl hE hV _
   match vz, hvl with
   | [y0, y1, y2, y3, y4, y5, y6, y7, y8], _ =>
   obtain ⟨u5, vs5, q5, S5⟩ : ∃ u vs, y5 = .agg #[u, .int .i64 cr, .int .i64 ca, .int .i64 cs, .int .i64 cg] ∧ Sep (World.drew w8) w9 [plNd u vs T] := hV 5 (by omega) rfl; have q8 : y8 = .string tx := hV 8 (by omega) rfl; have S := HSd.out.call S5; obtain ⟨ua5, uc5, rfl, _, _⟩ := nd_view (S5.at_ 0 rfl); have S : Sep w w9 [plNd (.slice ua5 T.length uc5) vs5 T, plRow 9 1 encStr1 (.slice (some ⟨gw, 0, none⟩) n n) W, plBox B4 #[.slice none 0 0, .int .i64 0, .int .i64 0, .int .i64 0, .int .i64 0] 31, plBox B3 #[.slice at_ T.length cap, .int .i64 cr, .int .i64 ca, .int .i64 cs, .int .i64 cg] 31] := S; subst q5 q8; clear S5 HSd hcd hE b3c0 b3c1 b3c2 b3c3 b3c4; clear hV hvl; simp only [putAll, Act.put, List.take_succ_cons, List.take_zero, List.drop_succ_cons, List.drop_zero]; simp; obtain ⟨⟨b4c0, b4f0⟩, ⟨b4c1, b4f1⟩, ⟨b4c2, b4f2⟩, ⟨b4c3, b4f3⟩, ⟨b4c4, b4f4⟩⟩ := bx5 (S.box 2 rfl); go_wp2; clear b4c0 b4f0 b4c1 b4f1 b4c2 b4f2 b4c3 b4f3 b4c4 b4f4; replace S : Sep w (((((w9.setCell ⟨B4, 0, none⟩ (.slice ua5 T.length uc5)).setCell ⟨B4, 1, none⟩ (.int .i64 cr)).setCell ⟨B4, 2, none⟩ (.int .i64 ca)).setCell ⟨B4, 3, none⟩ (.int .i64 cs)).setCell ⟨B4, 4, none⟩ (.int .i64 cg)) [plNd (.slice ua5 T.length uc5) vs5 T, plRow 9 1 encStr1 (.slice (some ⟨gw, 0, none⟩) n n) W, plBox B4 #[.slice ua5 T.length uc5, .int .i64 cr, .int .i64 ca, .int .i64 cs, .int .i64 cg] 31, plBox B3 #[.slice at_ T.length cap, .int .i64 cr, .int .i64 ca, .int .i64 cs, .int .i64 cg] 31] := ((((S.set 2 rfl 0 _).set 2 rfl 1 _).set 2 rfl 2 _).set 2 rfl 3 _).set 2 rfl 4 _; generalize (((((w9.setCell ⟨B4, 0, none⟩ (.slice ua5 T.length uc5)).setCell ⟨B4, 1, none⟩ (.int .i64 cr)).setCell ⟨B4, 2, none⟩ (.int .i64 ca)).setCell ⟨B4, 3, none⟩ (.int .i64 cs)).setCell ⟨B4, 4, none⟩ (.int .i64 cg)) = wD at *; obtain ⟨⟨b4c0, b4f0⟩, ⟨b4c1, b4f1⟩, ⟨b4c2, b4f2⟩, ⟨b4c3, b4f3⟩, ⟨b4c4, b4f4⟩⟩ := bx5 (S.box 2 rfl); refine bodyPost_ret (v := .tuple #[.agg #[.slice ua5 T.length uc5, .int .i64 cr, .int .i64 ca, .int .i64 cs, .int .i64 cg], .string tx]) (by simp [results, Tryz.results10, go_sem, b4c0, b4c1, b4c2, b4c3, b4c4]) rfl ?_; rw [HX.out.1, HX.out.2, ← HW.out, HQ.out]; replace S : Sep w wD [plNd (.slice ua5 T.length uc5) vs5 T] := ((S.drop 1).drop 1).drop 1; exact ⟨_, vs5, rfl, S⟩
  | some r =>
   have HQ : Hid (callF T ⟨cr, ca, cs, cg⟩ W = doneT T r) := hd0 HCF.out; clear HCF HTe; simp only [Option.getD_some, Option.isSome_some] at S ⊢; obtain ⟨R, f⟩ := r; dsimp only at S HQ ⊢
   by_cases hf : f = 0
   ·subst hf; replace HQ : Hid (callF T ⟨cr, ca, cs, cg⟩ W = (R, ⟨#[110, 111, 110, 101]⟩)) := hd0 (HQ.out.trans rfl)
    go_upto_region 9 with fail
    replace S := S.drew; obtain ⟨b3c0, _⟩ := bx (S.box 3 rfl) 0 rfl; obtain ⟨b3c1, _⟩ := bx (S.box 3 rfl) 1 rfl; obtain ⟨b3c2, _⟩ := bx (S.box 3 rfl) 2 rfl; obtain ⟨b3c3, _⟩ := bx (S.box 3 rfl) 3 rfl; obtain ⟨b3c4, _⟩ := bx (S.box 3 rfl) 4 rfl; have HSd := hd0 S
    repeat clear S
    generalize hRl : R.length = uc0 at *; refine wp_region_c (V := VNo B3 (.slice ua uc0 uc) cr ca cs cg) (fun wv => Ext (World.drew w8) wv) (fun _ => none) [] 5 0 rfl (by decide) (by kernel_rfl) (by kernel_rfl) (by kernel_rfl) (by kernel_rfl) (Ext.refl _) (fun r hr => by omega) ?_ ?_
    ·intro i o hi ho vz w4 hvl hE hd hrest
     match vz, hvl with
     | [y0, y1, y2, y3, y4], _ =>
     rcases lc5 hi with rfl | rfl | rfl | rfl | rfl
     all_goals
      obtain rfl := Option.some.inj ho
     ·clear hd hrest; simp [putAll, Act.put]; go_wp2; exact OneC.mk (VNo.ext) rfl rfl hE (Ext.refl _)
     ·clear hd hrest; simp [putAll, Act.put]; go_wp2; exact OneC.mk (VNo.ext) rfl rfl hE (Ext.refl _)
     ·have q1 : y1 = .pointer (some ⟨B3, 1, none⟩) := hd ⟨1, .data⟩ (by simp) rfl (.inl rfl); have c1 := cell_ext hE b3c1; have c2 := cell_ext hE b3c2; have c3 := cell_ext hE b3c3; have c4 := cell_ext hE b3c4; subst q1; clear hd hrest; simp [putAll, Act.put]; go_wp2; exact OneC.mk (VNo.ext) rfl rfl hE (Ext.refl _)
     ·have q0 : y0 = .slice ua uc0 uc := hd ⟨0, .data⟩ (by simp) rfl (.inl rfl); have q2 : y2 = .agg #[.int .i64 cr, .int .i64 ca, .int .i64 cs, .int .i64 cg] := hd ⟨2, .data⟩ (by simp) rfl (.inl rfl); subst q0 q2; clear hd hrest; simp [putAll, Act.put]; go_wp2; exact OneC.mk (VNo.ext) rfl rfl hE (Ext.refl _)
     ·have HC := hd0 (implFaultText 0 w4); clear hd hrest; simp [putAll, Act.put]
      go_wp2_with fail
      refine HC.out.mono ?_; rintro e w5 ⟨rfl, hE5⟩; have HE5 := hd0 hE5; clear HC hE5; go_wp2; exact OneC.mk (VNo.ext) rfl rfl (hE.trans HE5.out) HE5.out
    intro vz w9 hvl hE hV _
    match vz, hvl with
    | [y0, y1, y2, y3, y4], _ =>
    have q3 : y3 = .agg #[.slice ua uc0 uc, .int .i64 cr, .int .i64 ca, .int .i64 cs, .int .i64 cg] := hV 3 (by omega) rfl; have q4 : y4 = .string ⟨#[110, 111, 110, 101]⟩ := hV 4 (by omega) rfl; subst q3 q4; have S := HSd.out.step hE; subst hRl; clear HSd hE b3c0 b3c1 b3c2 b3c3 b3c4; clear hV hvl; simp only [putAll, Act.put, List.take_succ_cons, List.take_zero, List.drop_succ_cons, List.drop_zero]; simp; obtain ⟨⟨b4c0, b4f0⟩, ⟨b4c1, b4f1⟩, ⟨b4c2, b4f2⟩, ⟨b4c3, b4f3⟩, ⟨b4c4, b4f4⟩⟩ := bx5 (S.box 2 rfl); go_wp2; clear b4c0 b4f0 b4c1 b4f1 b4c2 b4f2 b4c3 b4f3 b4c4 b4f4; replace S : Sep w (((((w9.setCell ⟨B4, 0, none⟩ (.slice ua R.length uc)).setCell ⟨B4, 1, none⟩ (.int .i64 cr)).setCell ⟨B4, 2, none⟩ (.int .i64 ca)).setCell ⟨B4, 3, none⟩ (.int .i64 cs)).setCell ⟨B4, 4, none⟩ (.int .i64 cg)) [plNd (.slice ua R.length uc) v8 R, plRow 9 1 encStr1 (.slice (some ⟨gw, 0, none⟩) n n) W, plBox B4 #[.slice ua R.length uc, .int .i64 cr, .int .i64 ca, .int .i64 cs, .int .i64 cg] 31, plBox B3 #[.slice at_ T.length cap, .int .i64 cr, .int .i64 ca, .int .i64 cs, .int .i64 cg] 31] := ((((S.set 2 rfl 0 _).set 2 rfl 1 _).set 2 rfl 2 _).set 2 rfl 3 _).set 2 rfl 4 _; generalize (((((w9.setCell ⟨B4, 0, none⟩ (.slice ua R.length uc)).setCell ⟨B4, 1, none⟩ (.int .i64 cr)).setCell ⟨B4, 2, none⟩ (.int .i64 ca)).setCell ⟨B4, 3, none⟩ (.int .i64 cs)).setCell ⟨B4, 4, none⟩ (.int .i64 cg)) = wD at *; obtain ⟨⟨b4c0, b4f0⟩, ⟨b4c1, b4f1⟩, ⟨b4c2, b4f2⟩, ⟨b4c3, b4f3⟩, ⟨b4c4, b4f4⟩⟩ := bx5 (S.box 2 rfl); refine bodyPost_ret (v := .tuple #[.agg #[.slice ua R.length uc, .int .i64 cr, .int .i64 ca, .int .i64 cs, .int .i64 cg], .string ⟨#[110, 111, 110, 101]⟩]) (by simp [results, Tryz.results10, go_sem, b4c0, b4c1, b4c2, b4c3, b4c4]) rfl ?_; rw [HX.out.1, HX.out.2, ← HW.out, HQ.out]; replace S : Sep w wD [plNd (.slice ua R.length uc) v8 R] := ((S.drop 1).drop 1).drop 1; exact ⟨_, v8, rfl, S⟩
   ·replace HQ : Hid (callF T ⟨cr, ca, cs, cg⟩ W = (T, faultText f)) := hd0 (HQ.out.trans (by unfold doneT; rw [if_neg hf]))
    have tf : (f != 0) = true := by simpa using hf
    clear hf; replace S : Sep w w8 [plRow 9 1 encStr1 (.slice (some ⟨gw, 0, none⟩) n n) W, plBox B4 #[.slice none 0 0, .int .i64 0, .int .i64 0, .int .i64 0, .int .i64 0] 31, plBox B3 #[.slice at_ T.length cap, .int .i64 cr, .int .i64 ca, .int .i64 cs, .int .i64 cg] 31] := S.drop 0
    go_upto_region 8 with fail
    replace S := S.drew; obtain ⟨b3c0, _⟩ := bx (S.box 2 rfl) 0 rfl; obtain ⟨b3c1, _⟩ := bx (S.box 2 rfl) 1 rfl; obtain ⟨b3c2, _⟩ := bx (S.box 2 rfl) 2 rfl; obtain ⟨b3c3, _⟩ := bx (S.box 2 rfl) 3 rfl; obtain ⟨b3c4, _⟩ := bx (S.box 2 rfl) 4 rfl; have hcd : RdN (World.drew w8) at_ T := hc.ext S.ext; have HSd := hd0 S; clear S; refine wp_region_c (V := VDn (World.drew w8) B3 at_ cap T cr ca cs cg f) (fun wv => Ext (World.drew w8) wv) (fun i => if i = 2 then some 5 else none) [] 8 0 rfl (by decide) (by kernel_rfl) (by kernel_rfl) (by kernel_rfl) (by kernel_rfl) (Ext.refl _) (fun r hr => by omega) ?_ ?_
    ·intro i o hi ho vz w4 hvl hE hd hrest
     match vz, hvl with
     | [y0, y1, y2, y3, y4, y5, y6, y7], _ =>
     rcases lc8 hi with rfl | rfl | rfl | rfl | rfl | rfl | rfl | rfl
     all_goals
      obtain rfl := Option.some.inj ho
     ·clear hd hrest; simp [putAll, Act.put]; go_wp2; exact OneC.mk (VDn.ext) rfl rfl hE (Ext.refl _)
     ·have q0 : y0 = .pointer (some ⟨B3, 0, none⟩) := hd ⟨0, .data⟩ (by simp) rfl (.inl rfl); have c0 := cell_ext hE b3c0; subst q0; clear hd hrest; simp [putAll, Act.put]; go_wp2; exact OneC.mk (VDn.ext) rfl rfl hE (Ext.refl _)
     ·have q1 : y1 = .slice at_ T.length cap := hd ⟨1, .data⟩ (by simp) rfl (.inl rfl); have HC := hd0 (implCopy at_ cap T w4 hl HT.out (hcd.ext hE)); subst q1; clear hd hrest; simp [putAll, Act.put]
      go_wp2_with fail
      refine HC.out.mono ?_; rintro e w5 ⟨u5, vs5, rfl, S5⟩; have S6 := S5.since hE; have hE5 := S5.ext; clear HC S5; go_wp2; exact OneC.mk (VDn.ext) rfl ⟨_, S6⟩ (hE.trans hE5) hE5
     ·clear hd hrest; simp [putAll, Act.put]; go_wp2; exact OneC.mk (VDn.ext) rfl rfl hE (Ext.refl _)
     ·have q3 : y3 = .pointer (some ⟨B3, 1, none⟩) := hd ⟨3, .data⟩ (by simp) rfl (.inl rfl); have c1 := cell_ext hE b3c1; have c2 := cell_ext hE b3c2; have c3 := cell_ext hE b3c3; have c4 := cell_ext hE b3c4; subst q3; clear hd hrest; simp [putAll, Act.put]; go_wp2; exact OneC.mk (VDn.ext) rfl rfl hE (Ext.refl _)
     ·obtain ⟨vs2, S2⟩ : ∃ vs, Sep (World.drew w8) w4 [plNd y2 vs T] := hd ⟨2, .data⟩ (by simp) rfl (.inr rfl); have q4 : y4 = .agg #[.int .i64 cr, .int .i64 ca, .int .i64 cs, .int .i64 cg] := hd ⟨4, .data⟩ (by simp) rfl (.inl rfl); obtain ⟨ua2, uc2, rfl, _, _⟩ := nd_view (S2.at_ 0 rfl); have HS2 := hd0 S2; subst q4; clear hd hrest S2; simp [putAll, Act.put]; go_wp2; refine ⟨rfl, _, rfl, ⟨_, vs2, rfl, HS2.out⟩, hE, fun j u hj hne hcon hnd hnc hv => hv⟩
     ·clear hd hrest; simp [putAll, Act.put]; go_wp2; exact OneC.mk (VDn.ext) rfl rfl hE (Ext.refl _)
     ·have q6 : y6 = .int .i64 f := hd ⟨6, .data⟩ (by simp) rfl (.inl rfl); have HC := hd0 (implFaultText f w4); subst q6; clear hd hrest; simp [putAll, Act.put]
      go_wp2_with fail
      refine HC.out.mono ?_; rintro e w5 ⟨rfl, hE5⟩; have HE5 := hd0 hE5; clear HC hE5; go_wp2; exact OneC.mk (VDn.ext) rfl rfl (hE.trans HE5.out) HE5.out
    intro vz w9 hvl hE hV _
    match vz, hvl with
    | [y0, y1, y2, y3, y4, y5, y6, y7], _ =>
    obtain ⟨u5, vs5, q5, S5⟩ : ∃ u vs, y5 = .agg #[u, .int .i64 cr, .int .i64 ca, .int .i64 cs, .int .i64 cg] ∧ Sep (World.drew w8) w9 [plNd u vs T] := hV 5 (by omega) rfl; have q7 : y7 = .string (faultText f) := hV 7 (by omega) rfl; have S := HSd.out.call S5; obtain ⟨ua5, uc5, rfl, _, _⟩ := nd_view (S5.at_ 0 rfl); have S : Sep w w9 [plNd (.slice ua5 T.length uc5) vs5 T, plRow 9 1 encStr1 (.slice (some ⟨gw, 0, none⟩) n n) W, plBox B4 #[.slice none 0 0, .int .i64 0, .int .i64 0, .int .i64 0, .int .i64 0] 31, plBox B3 #[.slice at_ T.length cap, .int .i64 cr, .int .i64 ca, .int .i64 cs, .int .i64 cg] 31] := S; subst q5 q7; clear S5 HSd hcd hE b3c0 b3c1 b3c2 b3c3 b3c4; clear hV hvl; simp only [putAll, Act.put, List.take_succ_cons, List.take_zero, List.drop_succ_cons, List.drop_zero]; simp; generalize faultText f = tx at *; obtain ⟨⟨b4c0, b4f0⟩, ⟨b4c1, b4f1⟩, ⟨b4c2, b4f2⟩, ⟨b4c3, b4f3⟩, ⟨b4c4, b4f4⟩⟩ := bx5 (S.box 2 rfl); go_wp2; clear b4c0 b4f0 b4c1 b4f1 b4c2 b4f2 b4c3 b4f3 b4c4 b4f4; replace S : Sep w (((((w9.setCell ⟨B4, 0, none⟩ (.slice ua5 T.length uc5)).setCell ⟨B4, 1, none⟩ (.int .i64 cr)).setCell ⟨B4, 2, none⟩ (.int .i64 ca)).setCell ⟨B4, 3, none⟩ (.int .i64 cs)).setCell ⟨B4, 4, none⟩ (.int .i64 cg)) [plNd (.slice ua5 T.length uc5) vs5 T, plRow 9 1 encStr1 (.slice (some ⟨gw, 0, none⟩) n n) W, plBox B4 #[.slice ua5 T.length uc5, .int .i64 cr, .int .i64 ca, .int .i64 cs, .int .i64 cg] 31, plBox B3 #[.slice at_ T.length cap, .int .i64 cr, .int .i64 ca, .int .i64 cs, .int .i64 cg] 31] := ((((S.set 2 rfl 0 _).set 2 rfl 1 _).set 2 rfl 2 _).set 2 rfl 3 _).set 2 rfl 4 _; generalize (((((w9.setCell ⟨B4, 0, none⟩ (.slice ua5 T.length uc5)).setCell ⟨B4, 1, none⟩ (.int .i64 cr)).setCell ⟨B4, 2, none⟩ (.int .i64 ca)).setCell ⟨B4, 3, none⟩ (.int .i64 cs)).setCell ⟨B4, 4, none⟩ (.int .i64 cg)) = wD at *; obtain ⟨⟨b4c0, b4f0⟩, ⟨b4c1, b4f1⟩, ⟨b4c2, b4f2⟩, ⟨b4c3, b4f3⟩, ⟨b4c4, b4f4⟩⟩ := bx5 (S.box 2 rfl); refine bodyPost_ret (v := .tuple #[.agg #[.slice ua5 T.length uc5, .int .i64 cr, .int .i64 ca, .int .i64 cs, .int .i64 cg], .string tx]) (by simp [results, Tryz.results10, go_sem, b4c0, b4c1, b4c2, b4c3, b4c4]) rfl ?_; rw [HX.out.1, HX.out.2, ← HW.out, HQ.out]; replace S : Sep w wD [plNd (.slice ua5 T.length uc5) vs5 T] := ((S.drop 1).drop 1).drop 1; exact ⟨_, vs5, rfl, S⟩
def cntNd (x : Nd) : Nat := 5 + x.N.length + x.K.length
def sumNd : List Nd → Nat
 | [] => 0
 | x :: r => cntNd x + sumNd r
theorem sumNd_step {T : List Nd} : ∀ {k : Nat} {x : Nd}, T[k]? = some x → sumNd (T.take (k + 1)) = sumNd (T.take k) + cntNd x := by
 induction T with
 | nil => intro k x h; simp at h
 | cons y r ih =>
  intro k x h
  cases k with
  | zero => simp at h; subst h; simp [sumNd]
  | succ k =>
   rw [List.getElem?_cons_succ] at h; rw [List.take_succ_cons, List.take_succ_cons, sumNd, sumNd, ih h]; omega
theorem sumNd_take (T : List Nd) : ∀ k, sumNd (T.take k) ≤ sumNd T := by
 induction T with
 | nil => intro k; simp [sumNd]
 | cons y r ih =>
  intro k
  cases k with
  | zero => simp [sumNd]
  | succ k => rw [List.take_succ_cons, sumNd, sumNd]; have := ih k; omega
def digsF : Nat → Int → List UInt8 → List UInt8
 | 0, _, out => out
 | f + 1, k, out => if 0 < k then digsF f (k / 10) (UInt8.ofNat (48 + k % 10).toNat :: out) else out
def markStr (c : Int) : ByteArray := if c ≤ 0 then ⟨#[109, 48]⟩ else ⟨(109 :: digsF 20 c []).toArray⟩
theorem conv1 (n : Int) (w : World) : (convert 38 9 (.slice (some ⟨w.heap.size, 0, none⟩) 1 1)).run Tryz.prog (w.alloc (.cells #[.int .u8 n] 5)) = .ok (.string ⟨#[UInt8.ofNat n.toNat]⟩) (w.alloc (.cells #[.int .u8 n] 5)) := by
 rw [run_convert_bytes_arg (P := Tryz.prog) _ 38 5 Tryz.underlying38 Tryz.underlying5 w.heap.size 0 1 1 [n] rfl (fun i hi => by
  obtain rfl : i = 0 := by omega
  simp) 9 Tryz.underlying9]
 rfl
theorem one_append (x : UInt8) (out : List UInt8) : (⟨#[x]⟩ : ByteArray) ++ (⟨out.toArray⟩ : ByteArray) = ⟨(x :: out).toArray⟩ := by
 apply ByteArray.ext; simp [ByteArray.data_append]
theorem digsF_zero (f : Nat) (out : List UInt8) : digsF f 0 out = out := by cases f <;> simp [digsF]
theorem markText_any (c : Int) (w : World) (h0 : 0 ≤ c) (h1 : c ≤ 10000000000000) :
  Calls Tryz.prog 62 #[.int .i64 c] w (RetV (fun v _ => v = .string (markStr c)) w) := by
 by_cases hz : c ≤ 0
 ·go_enter Tryz.func62, Tryz.ntmps62
  go_wp2; go_ret; exact RetV.mk (by simp [markStr, hz]) (Ext.refl _)
 ·go_enter Tryz.func62, Tryz.ntmps62
  go_wp2
  go_loopw [0, 3] (fun q o wr => ∃ (f : Nat) (k : Int) (out : List UInt8), q = .int .i64 k ∧ o = .string ⟨out.toArray⟩ ∧ 0 ≤ k ∧ k < 10 ^ f ∧ k ≤ 10000000000000 ∧ f + out.length ≤ 20 ∧ digsF f k out = digsF 20 c [] ∧ Ext w wr) (fun q _ _ => (intOf q).toNat)
  case atStart => exact ⟨20, c, [], rfl, rfl, h0, by omega, h1, by simp, rfl, Ext.refl _⟩
  case round =>
   obtain ⟨f, k, out, rfl, rfl, hk0, hk1, hk2, hf, hd, hb⟩ := hrel; have Hd := hd0 hd; clear hd; have Hk1 := hd0 hk1; clear hk1
   by_cases hpos : 0 < k
   ·have hcv := conv1 (48 + k % 10) wr
    have hsz : (⟨#[UInt8.ofNat (48 + k % 10).toNat]⟩ : ByteArray).size + (⟨out.toArray⟩ : ByteArray).size ≤ 9223372036854775807 := by
     show 1 + out.toArray.size ≤ _
     simp; omega
    go_wp2; go_roundw
    case rel =>
     obtain ⟨g, rfl⟩ : ∃ g, f = g + 1 := by
      cases f with
      | zero => exfalso; have := Hk1.out; simp at this; omega
      | succ g => exact ⟨g, rfl⟩
     refine ⟨g, k / 10, UInt8.ofNat (48 + k % 10).toNat :: out, rfl, by rw [one_append], by omega, ?_, by omega, by simp only [List.length_cons]; omega, ?_, hb.alloc _⟩
     ·have := Hk1.out; rw [Int.pow_succ] at this; omega
     ·rw [← Hd.out]
      show _ = if 0 < k then _ else _
      rw [if_pos hpos]
    case measure => simp [intOf]; omega
   ·have hk : k = 0 := by omega
    subst hk
    have hsz : (⟨#[109]⟩ : ByteArray).size + (⟨out.toArray⟩ : ByteArray).size ≤ 9223372036854775807 := by
     show 1 + out.toArray.size ≤ _
     simp; omega
    go_wp2; go_ret; exact RetV.mk (by rw [markStr, if_neg (by omega), ← Hd.out, digsF_zero, ← one_append]; rfl) hb
def marksStr (n : Nat) (c : Int) : List ByteArray := (List.range n).map fun i : Nat => markStr (c + (i : Int))
theorem marksStr_len (n : Nat) (c : Int) : (marksStr n c).length = n := by simp [marksStr]
theorem marksStr_at (n : Nat) (c : Int) (i : Nat) (h : i < n) : (marksStr n c)[i]? = some (markStr (c + (i : Int))) := by simp [marksStr, h]
def mmixStr (L : List ByteArray) (c : Int) (i : Nat) : List ByteArray := marksStr i c ++ L.drop i
theorem mmixStr_len (L : List ByteArray) (c : Int) (i : Nat) (h : i ≤ L.length) : (mmixStr L c i).length = L.length := by simp [mmixStr, marksStr_len]; omega
theorem mmixStr_zero (L : List ByteArray) (c : Int) : mmixStr L c 0 = L := by simp [mmixStr, marksStr]
theorem mmixStr_full (L : List ByteArray) (c : Int) : mmixStr L c L.length = marksStr L.length c := by simp [mmixStr]
theorem mmixStr_set (L : List ByteArray) (c : Int) (i : Nat) (h : i < L.length) : (mmixStr L c i).set i (markStr (c + (i : Int))) = mmixStr L c (i + 1) := by
 unfold mmixStr; rw [List.set_append, if_neg (by simp [marksStr_len]), marksStr_len, Nat.sub_self, List.drop_eq_getElem_cons h, List.set_cons_zero]; simp [marksStr, List.range_succ]
theorem markStrS_any (base g cap : Nat) (L : List ByteArray) (c : Int) (w : World) (hl : L.length ≤ 1048576) (h0 : 0 ≤ c) (h1 : c ≤ 1000000000000)
  (hown : w.ownsRow base 9 1 (.slice (some ⟨g, 0, none⟩) L.length cap) L.length (L.flatMap encStr1)) :
  Calls Tryz.prog 24 #[.slice (some ⟨g, 0, none⟩) L.length cap, .int .i64 c] w (RetMark (c + (L.length : Int)) (fun w' => w'.ownsRow base 9 1 (.slice (some ⟨g, 0, none⟩) L.length cap) L.length ((marksStr L.length c).flatMap encStr1)) (some g) w) := by
 go_enter Tryz.func24, Tryz.ntmps24
 go_wp2
 go_loopw [1, 5] (fun q i wr => ∃ k : Nat, k ≤ L.length ∧ i = .int .i64 k ∧ q = .int .i64 (c + (k : Int)) ∧ wr.ownsRow base 9 1 (.slice (some ⟨g, 0, none⟩) L.length cap) L.length ((mmixStr L c k).flatMap encStr1) ∧ w.grownBy wr (some g)) (fun _ i _ => L.length - (intOf i).toNat)
 case atStart => exact ⟨0, Nat.zero_le _, rfl, by simp, by rw [mmixStr_zero]; exact hown, World.grownBy.refl _ _⟩
 case round =>
  obtain ⟨k, hk, rfl, rfl, hownr, hg⟩ := hrel
  by_cases hlt : k < L.length
  ·have hkm : k < (mmixStr L c k).length := by rw [mmixStr_len _ _ _ hk]; exact hlt
   have g0 : wr.cell? ⟨g, k, none⟩ = some (.string (mmixStr L c k)[k]) := by have := owns_at encStr1_len hownr k hkm 0 _ rfl; rw [Nat.mul_one, Nat.add_zero] at this; exact this
   have f0 := hownr.frozenAt
   go_wp2_with fail
   refine (markText_any _ _ (by omega) (by omega)).mono ?_; rintro e w0 ⟨v0, rfl, rfl, hb0⟩; have e0 := ownsRow_ext hownr hb0; clear f0 g0
   have g0 : w0.cell? ⟨g, k, none⟩ = some (.string (mmixStr L c k)[k]) := by have := owns_at encStr1_len e0 k hkm 0 _ rfl; rw [Nat.mul_one, Nat.add_zero] at this; exact this
   have f0 := e0.frozenAt; go_wp2; go_roundw
   case rel =>
    have o0 := owns_set encStr1_len e0 k 0 (.string (markStr (c + (k : Int)))) (markStr (c + (k : Int))) hkm (by omega) rfl; rw [mmixStr_set L c k hlt, Nat.mul_one, Nat.add_zero] at o0; exact ⟨k + 1, by omega, by go_num, by go_num, o0, grown_setCell (grown_ext hg hb0) _⟩
   case measure => simp [intOf]; omega
  ·obtain rfl : k = L.length := by omega
   go_wp2; go_ret; rw [mmixStr_full] at hownr; exact RetMark.mk rfl hownr hg
theorem markStrS_own (base : Nat) (v : Value) (n : Nat) (L : List ByteArray) (c : Int) (w : World) (hn : n = L.length) (hl : n ≤ 1048576) (h0 : 0 ≤ c) (h1 : c ≤ 1000000000000)
  (hown : w.ownsRow base 9 1 v n (L.flatMap encStr1)) :
  Calls Tryz.prog 24 #[v, .int .i64 c] w (RetMark (c + (n : Int)) (fun w' => w'.ownsRow base 9 1 v n ((marksStr n c).flatMap encStr1)) v.ownBlock w) := by
 subst hn
 rcases hown.2 with ⟨rfl, hz⟩ | ⟨g, cap, cur, rfl, _⟩
 ·have hL : L = [] := List.eq_nil_of_length_eq_zero hz; subst hL
  go_enter Tryz.func24, Tryz.ntmps24
  go_wp2; refine wp_loop_rounds 1 ?_; rw [rounds_succ]; go_wp2; go_ret; exact RetMark.mk rfl hown (World.grownBy.refl _ _) (by simp)
 ·exact markStrS_any base g cap L c w hl h0 h1 hown
theorem heldStrS_any (a : Option Addr) (cap n : Nat) (c : Int) (w : World) (hl : n ≤ 1048576) (h0 : 0 ≤ c) (h1 : c ≤ 1000000000000) (hc : Rd 1 encStr1 w a (marksStr n c)) :
  Calls Tryz.prog 25 #[.slice a n cap, .int .i64 c] w (RetI (c + (n : Int)) w) := by
 go_enter Tryz.func25, Tryz.ntmps25
 go_wp2
 go_loopw [1, 5] (fun q i wr => ∃ k : Nat, k ≤ n ∧ i = .int .i64 k ∧ q = .int .i64 (c + (k : Int)) ∧ Ext w wr) (fun _ i _ => n - (intOf i).toNat)
 case atStart => exact ⟨0, Nat.zero_le _, rfl, by simp, Ext.refl _⟩
 case round =>
  obtain ⟨k, hk, rfl, rfl, hb⟩ := hrel
  by_cases hlt : k < n
  ·obtain ⟨x, b, off, hx, rfl, c0⟩ := atStr (hc.ext hb) (show k < (marksStr n c).length by rw [marksStr_len]; exact hlt); rw [marksStr_at n c k hlt] at hx
   cases hx
   go_wp2; refine wp_region_v 6 (V := fun i v _ => match i with | 0 => v = .slice (some ⟨b, off, none⟩) n cap | 1 => v = .int .i64 k | 2 => v = .pointer (some ⟨b, off + k, none⟩) | 3 => v = .string (markStr (c + (k : Int))) | 4 => v = .int .i64 (c + (k : Int)) | 5 => v = .string (markStr (c + (k : Int))) | _ => True) rfl (by decide) (by kernel_rfl) (by kernel_rfl) (by kernel_rfl) ?_ ?_ ?_
   ·intro i v w1 w2 h _; exact h
   ·intro i o hi ho vs w2 hvl hE hd; have cj := cell_ext hE (show (wr).drew.cell? _ = _ from c0)
    match vs, hvl with
    | [x0, x1, x2, x3, x4, x5], _ =>
    rcases lc6 hi with rfl | rfl | rfl | rfl | rfl | rfl
    all_goals
     obtain rfl := Option.some.inj ho; simp [Waits, Region.binds] at hd; simp [putAll, Act.put, hd]
     go_wp2_with (go_at_call 62; refine (markText_any _ _ (by omega) (by omega)).mono ?_; rintro e w3 ⟨v3, rfl, rfl, hb3⟩)
     first | exact ⟨rfl, _, rfl, rfl, Ext.refl _⟩ | exact ⟨rfl, _, rfl, rfl, hb3⟩
   intro vs w0 hvl hb0 hV
   match vs, hvl with
   | [x0, x1, x2, x3, x4, x5], _ =>
   have h00 := hV 0 (by omega); have h10 := hV 1 (by omega); have h20 := hV 2 (by omega); have h30 := hV 3 (by omega); have h40 := hV 4 (by omega); have h50 := hV 5 (by omega); simp at h00 h10 h20 h30 h40 h50; subst h00 h10 h20 h30 h40 h50; clear hV; simp only [putAll, Act.put, List.take_succ_cons, List.take_zero, List.drop_succ_cons, List.drop_zero]; simp; replace hb0 : Ext wr w0 := ((Ext.refl wr).drew).trans hb0; replace hb := hb.trans hb0; go_wp2; go_roundw
   case rel => exact ⟨k + 1, by omega, by go_num, by go_num, hb⟩
   case measure => simp [intOf]; omega
  ·obtain rfl : k = n := by omega
   go_wp2; go_ret; exact RetI.mk rfl hb
def headNd (x : Nd) (c : Int) : Nd := ⟨c % 3 == 0, c + 1, c + 2, c + 3, markStr (c + 4), x.N, x.K⟩
def markNd (x : Nd) (c : Int) : Nd := ⟨c % 3 == 0, c + 1, c + 2, c + 3, markStr (c + 4), marksStr x.N.length (c + 5), marksInt x.K.length (c + 5 + (x.N.length : Int))⟩
def marksNd : List Nd → Int → List Nd
 | [], _ => []
 | x :: r, c => markNd x c :: marksNd r (c + (cntNd x : Int))
theorem marksNd_len : ∀ (T : List Nd) (c : Int), (marksNd T c).length = T.length
 | [], _ => rfl
 | x :: r, c => by simp [marksNd, marksNd_len r]
theorem marksNd_at : ∀ (T : List Nd) (c : Int) (k : Nat) (x : Nd), T[k]? = some x → (marksNd T c)[k]? = some (markNd x (c + (sumNd (T.take k) : Int)))
 | y :: r, c, 0, x, h => by
  simp only [List.getElem?_cons_zero, Option.some.injEq] at h; subst h; simp [marksNd, sumNd]
 | y :: r, c, k + 1, x, h => by
  simp only [List.getElem?_cons_succ] at h; have := marksNd_at r (c + (cntNd y : Int)) k x h; simp only [marksNd, List.getElem?_cons_succ, this, List.take_succ_cons, sumNd]
  congr 2
  push_cast
  omega
theorem marksNd_append : ∀ (A B : List Nd) (c : Int), marksNd (A ++ B) c = marksNd A c ++ marksNd B (c + (sumNd A : Int))
 | [], B, c => by simp [marksNd, sumNd]
 | x :: A, B, c => by
  simp only [List.cons_append, marksNd, marksNd_append A, sumNd]
  congr 3
  push_cast
  omega
def mmNd (T : List Nd) (c : Int) (k : Nat) : List Nd := marksNd (T.take k) c ++ T.drop k
theorem mmNd_zero (T : List Nd) (c : Int) : mmNd T c 0 = T := by simp [mmNd, marksNd]
theorem mmNd_full (T : List Nd) (c : Int) : mmNd T c T.length = marksNd T c := by simp [mmNd]
theorem mmNd_len (T : List Nd) (c : Int) (k : Nat) (hk : k ≤ T.length) : (mmNd T c k).length = T.length := by simp [mmNd, marksNd_len]; omega
theorem mmNd_at {T : List Nd} {c : Int} {k : Nat} {x : Nd} (h : T[k]? = some x) : (mmNd T c k)[k]? = some x := by
 have hk := (List.getElem?_eq_some_iff.1 h).1; unfold mmNd; rw [List.getElem?_append_right (by rw [marksNd_len, List.length_take]; omega), marksNd_len, List.length_take, Nat.min_eq_left (by omega), Nat.sub_self, List.getElem?_drop, Nat.add_zero]; exact h
theorem mmNd_set {T : List Nd} {c : Int} {k : Nat} {x : Nd} (h : T[k]? = some x) : (mmNd T c k).set k (markNd x (c + (sumNd (T.take k) : Int))) = mmNd T c (k + 1) := by
 obtain ⟨hk, rfl⟩ := List.getElem?_eq_some_iff.1 h; unfold mmNd; rw [List.set_append, if_neg (by rw [marksNd_len, List.length_take]; omega), marksNd_len, List.length_take, Nat.min_eq_left (by omega), Nat.sub_self, List.drop_eq_getElem_cons hk, List.set_cons_zero, List.take_succ_eq_append_getElem hk, marksNd_append, List.append_assoc]; rfl
theorem g_set {β α : Type} {e nf : Nat} {enc : β → List Value} {P : Pin β α} {w w' : World} {u : Value} {vs : List β} {T : List α} (h : (plG e nf enc P u vs T).ok w) {k : Nat} {s s' : β} {t' : α} (hs : vs[k]? = some s)
  (hg : Chg (fun b => u.ownBlock = some b ∨ P.own s b) w w') (ho : w'.ownsRow 0 e nf u vs.length ((vs.set k s').flatMap enc)) (hok : P.ok s' t' w') (hown : ∀ b, P.own s' b → P.own s b) : (plG e nf enc P u (vs.set k s') (T.set k t')).ok w' := by
 obtain ⟨h1, h2, h3, h4, h5⟩ := h; have hkv := (List.getElem?_eq_some_iff.1 hs).1; have hsm := List.mem_of_getElem? hs; refine ⟨by rw [List.length_set]; exact ho, by simp [h2], fun j s2 t2 hs2 ht2 => ?_, fun s2 hs2 b hb => ?_, fun i j s2 s3 hij hs2 hs3 b hb hb3 => ?_⟩
 ·by_cases hjk : k = j
  ·subst hjk; rw [List.getElem?_set_self hkv] at hs2; rw [List.getElem?_set_self (by omega)] at ht2
   cases hs2; cases ht2
   exact hok
  ·rw [List.getElem?_set_ne hjk] at hs2 ht2; have h6 := h3 j s2 t2 hs2 ht2; exact P.frame s2 t2 w w' h6 (fun b hb => hg.block b (P.lt s2 t2 w b h6 hb) (fun e => e.elim (fun e => h4 s2 (List.mem_of_getElem? hs2) b hb e) (fun e => h5 k j s s2 hjk hs hs2 b e hb)))
 ·rcases List.mem_or_eq_of_mem_set hs2 with hs2 | rfl
  ·exact h4 s2 hs2 b hb
  ·exact h4 s hsm b (hown b hb)
 ·by_cases hik : k = i
  ·subst hik; rw [List.getElem?_set_self hkv] at hs2; rw [List.getElem?_set_ne hij] at hs3
   cases hs2
   exact h5 k j s s3 hij hs hs3 b (hown b hb) hb3
  ·rw [List.getElem?_set_ne hik] at hs2
   by_cases hjk : k = j
   ·subst hjk; rw [List.getElem?_set_self hkv] at hs3
    cases hs3
    exact h5 k i s s2 (fun e => hik e) hs hs2 b (hown b hb3) hb
   ·rw [List.getElem?_set_ne hjk] at hs3; exact h5 i j s2 s3 hij hs2 hs3 b hb hb3
def headNc (s : Nc) (c : Int) : Nc := ⟨headNd s.n c, s.an, s.cn, s.ak, s.ck⟩
def markNc (s : Nc) (c : Int) : Nc := ⟨markNd s.n c, s.an, s.cn, s.ak, s.ck⟩
theorem markNc_enc (s : Nc) (c : Int) : encNc (markNc s c) = encNc (headNc s c) := by
 unfold encNc markNc headNc markNd headNd; simp only [marksStr_len, marksInt_len]
theorem markNc_own {s : Nc} {c : Int} {b : Nat} (h : pinNd.own (markNc s c) b) : pinNd.own s b := by
 have e1 : (Value.slice (markNc s c).an (markNc s c).n.N.length (markNc s c).cn) = Value.slice s.an s.n.N.length s.cn := by unfold markNc markNd; simp only [marksStr_len]
 have e2 : (Value.slice (markNc s c).ak (markNc s c).n.K.length (markNc s c).ck) = Value.slice s.ak s.n.K.length s.ck := by unfold markNc markNd; simp only [marksInt_len]
 unfold pinNd at h ⊢; dsimp only at h ⊢; rw [e1, e2] at h; exact h
theorem flat_set {α : Type} {enc : α → List Value} {vs : List α} {k : Nat} {s s' : α} (h : enc s' = enc s) : (vs.set k s').flatMap enc = (vs.set k s).flatMap enc := by
 induction vs generalizing k with
 | nil => rfl
 | cons v r ih =>
  cases k with
  | zero => simp [h]
  | succ k => simp [ih]
theorem mark_rows {w wA wB wC : World} {u : Value} {vs : List Nc} {T : List Nd} (h : (plNd u vs T).ok w) {k : Nat} {s : Nc} {c : Int} (hs : vs[k]? = some s)
  (hA : Chg (fun b => u.ownBlock = some b) w wA) (hoA : wA.ownsRow 0 89 7 u vs.length ((vs.set k (headNc s c)).flatMap encNc))
  (hB : wA.grownBy wB (Value.slice s.an s.n.N.length s.cn).ownBlock) (hoB : wB.ownsRow 0 9 1 (.slice s.an s.n.N.length s.cn) s.n.N.length ((marksStr s.n.N.length (c + 5)).flatMap encStr1))
  (hC : wB.grownBy wC (Value.slice s.ak s.n.K.length s.ck).ownBlock) (hoC : wC.ownsRow 0 3 1 (.slice s.ak s.n.K.length s.ck) s.n.K.length ((marksInt s.n.K.length (c + 5 + (s.n.N.length : Int))).flatMap encInt1)) :
  (plNd u (vs.set k (markNc s c)) (T.set k (markNd s.n c))).ok wC ∧ Chg (plNd u vs T).own w wC ∧ ∀ b, (plNd u (vs.set k (markNc s c)) T).own b → (plNd u vs T).own b := by
 have hk := (List.getElem?_eq_some_iff.1 hs).1; have hsm := List.mem_of_getElem? hs; have h4 := h.2.2.2.1 s hsm
 have hkT : k < T.length := by have := h.2.1; omega
 have h3 := h.2.2.1 k s T[k] hs (List.getElem?_eq_getElem hkT); have cB : Chg (fun b => pinNd.own s b) wA wB := (Chg.of_grown hB).mono (fun b hb _ => .inl hb); have cC : Chg (fun b => pinNd.own s b) wB wC := (Chg.of_grown hC).mono (fun b hb _ => .inr hb); have hall : Chg (fun b => u.ownBlock = some b ∨ pinNd.own s b) w wC := ((hA.mono (fun b hb _ => .inl hb)).trans (cB.mono (fun b hb _ => .inr hb))).trans (cC.mono (fun b hb _ => .inr hb))
 have hoU : wC.ownsRow 0 89 7 u vs.length ((vs.set k (markNc s c)).flatMap encNc) := by
  rw [flat_set (markNc_enc s c)]; have hl : (vs.set k (headNc s c)).length = vs.length := List.length_set; rw [← hl] at hoA ⊢; exact (plRow 89 7 encNc u (vs.set k (headNc s c))).frame wA wC hoA (fun b hb => (cB.trans cC).block b ((plRow 89 7 encNc u (vs.set k (headNc s c))).lt wA b hoA hb) (fun e => h4 b e hb))
 have hN : wC.ownsRow 0 9 1 (.slice s.an s.n.N.length s.cn) s.n.N.length ((marksStr s.n.N.length (c + 5)).flatMap encStr1) := by
  have hl := marksStr_len s.n.N.length (c + 5)
  have hoB' : (plRow 9 1 encStr1 (.slice s.an s.n.N.length s.cn) (marksStr s.n.N.length (c + 5))).ok wB := by show wB.ownsRow 0 _ 1 _ (marksStr _ _).length _; rw [hl]; exact hoB
  have := (plRow 9 1 encStr1 (.slice s.an s.n.N.length s.cn) (marksStr s.n.N.length (c + 5))).frame wB wC hoB' (fun b hb => (Chg.of_grown hC).block b ((plRow 9 1 encStr1 (.slice s.an s.n.N.length s.cn) (marksStr s.n.N.length (c + 5))).lt wB b hoB' hb) (fun e => h3.2.2.2 b hb e)); have h' : wC.ownsRow 0 9 1 (.slice s.an s.n.N.length s.cn) (marksStr s.n.N.length (c + 5)).length ((marksStr s.n.N.length (c + 5)).flatMap encStr1) := this; rw [hl] at h'; exact h'
 refine ⟨g_set h hs hall hoU ?_ (fun b hb => markNc_own hb), hall.mono (fun b hb _ => hb.elim .inl (fun hb => .inr ⟨s, hsm, hb⟩)), fun b hb => hb.elim .inl (fun hb => by
  obtain ⟨s2, hs2, hb⟩ := hb
  rcases List.mem_or_eq_of_mem_set hs2 with hs2 | rfl
  ·exact .inr ⟨s2, hs2, hb⟩
  ·exact .inr ⟨s, hsm, markNc_own hb⟩)⟩
 refine ⟨rfl, ?_, ?_, ?_⟩
 ·show wC.ownsRow 0 _ 1 (.slice s.an (marksStr s.n.N.length (c + 5)).length s.cn) (marksStr s.n.N.length (c + 5)).length _
  rw [marksStr_len]; exact hN
 ·show wC.ownsRow 0 _ 1 (.slice s.ak (marksInt s.n.K.length _).length s.ck) (marksInt s.n.K.length _).length _
  rw [marksInt_len]; exact hoC
 ·intro b hb hb2; have hb' : (Value.slice s.an (marksStr s.n.N.length (c + 5)).length s.cn).ownBlock = some b := hb; have hb2' : (Value.slice s.ak (marksInt s.n.K.length (c + 5 + (s.n.N.length : Int))).length s.ck).ownBlock = some b := hb2; rw [marksStr_len] at hb'; rw [marksInt_len] at hb2'; exact h3.2.2.2 b hb' hb2'
theorem markNdS_own (a : Option Addr) (cap : Nat) (vs : List Nc) (T : List Nd) (c : Int) (w : World) (hl : T.length ≤ 1048576) (hNK : ∀ x ∈ T, x.N.length ≤ 1048576 ∧ x.K.length ≤ 1048576) (hs : sumNd T ≤ 100000000) (h0 : 0 ≤ c) (h1 : c ≤ 900000000000) (hok : (plNd (.slice a T.length cap) vs T).ok w) :
  Calls Tryz.prog 51 #[.slice a T.length cap, .int .i64 c] w fun e w' => ∃ vs', e = .returned (.int .i64 (c + (sumNd T : Int))) ∧ (plNd (.slice a T.length cap) vs' (marksNd T c)).ok w' ∧ Chg (plNd (.slice a T.length cap) vs T).own w w' ∧ ∀ b, (plNd (.slice a T.length cap) vs' T).own b → (plNd (.slice a T.length cap) vs T).own b := by
 have HNK := hd0 hNK; clear hNK
 go_enter Tryz.func51, Tryz.ntmps51
 go_wp2
 go_loopw [1, 5] (fun q i wr => ∃ (k : Nat) (vs' : List Nc), k ≤ T.length ∧ i = .int .i64 k ∧ q = .int .i64 (c + (sumNd (T.take k) : Int)) ∧ (plNd (.slice a T.length cap) vs' (mmNd T c k)).ok wr ∧ Chg (plNd (.slice a T.length cap) vs T).own w wr ∧ ∀ b, (plNd (.slice a T.length cap) vs' T).own b → (plNd (.slice a T.length cap) vs T).own b) (fun _ i _ => T.length - (intOf i).toNat)
 case atStart => exact ⟨0, vs, Nat.zero_le _, rfl, by simp [sumNd], by rw [mmNd_zero]; exact hok, Chg.refl _ _, fun _ h => h⟩
 case round =>
  clear hok; obtain ⟨k, vs', hk, rfl, rfl, hok, hb, hsub⟩ := hrel
  by_cases hlk : k < T.length
  ·obtain ⟨x, hx⟩ : ∃ x, T[k]? = some x := ⟨_, List.getElem?_eq_getElem hlk⟩
   have hvl : vs'.length = T.length := by rw [plG_len hok, mmNd_len T c k hk]
   have hmap := nd_map hok; obtain ⟨s, hsv⟩ : ∃ s, vs'[k]? = some s := ⟨_, List.getElem?_eq_getElem (by omega)⟩
   have hsn : s.n = x := by
    have h2 := mmNd_at (c := c) hx; rw [← hmap, List.getElem?_map, hsv] at h2; exact Option.some.inj h2
   have hrow : wr.ownsRow 0 89 7 (.slice a T.length cap) vs'.length (vs'.flatMap encNc) := hok.1; obtain ⟨g, rfl⟩ := row_blk encNc_len hrow (by omega)
   have hcx : cntNd x ≤ sumNd T := by
    have e1 := sumNd_step hx; have e2 := sumNd_take T (k + 1); omega
   have hck : sumNd (T.take k) ≤ sumNd T := sumNd_take T k; have HSt := hd0 (sumNd_step hx); have HSet := hd0 (mmNd_set (c := c) hx); generalize sumNd (T.take k) = m at *; have hnk := HNK.out x (List.mem_of_getElem? hx); have HOK := hd0 hok; have HSV := hd0 hsv; have HSN := hd0 hsn; have HSUB := hd0 hsub; obtain ⟨sn, an, cn, ak, ck⟩ := s; dsimp only at hsn; subst hsn; obtain ⟨fo, ow, gr, mo, tx, N, K⟩ := sn; unfold cntNd at hcx; dsimp only at hcx hnk; have hpin := hok.2.2.1 k _ _ hsv (mmNd_at (c := c) hx); have hoN : wr.ownsRow 0 9 1 (.slice an N.length cn) N.length (N.flatMap encStr1) := hpin.2.1; have hoK : wr.ownsRow 0 3 1 (.slice ak K.length ck) K.length (K.flatMap encInt1) := hpin.2.2.1
   have hkv : k < vs'.length := by omega
   have i0 : (k : Int) < (T.length : Int) := by omega
   have hget : vs'[k] = ⟨⟨fo, ow, gr, mo, tx, N, K⟩, an, cn, ak, ck⟩ := by
    have := List.getElem?_eq_getElem hkv; rw [hsv] at this; exact (Option.some.inj this).symm
   rw [hvl] at hrow
   have g0 : wr.cell? ⟨g, k * 7, none⟩ = some (.bool fo) := by have := owns_at encNc_len hrow k hkv 0 _ rfl; rw [hget] at this; exact this
   have g1 : wr.cell? ⟨g, k * 7 + 1, none⟩ = some (.int .i64 ow) := by have := owns_at encNc_len hrow k hkv 1 _ rfl; rw [hget] at this; exact this
   have g2 : wr.cell? ⟨g, k * 7 + 2, none⟩ = some (.int .i64 gr) := by have := owns_at encNc_len hrow k hkv 2 _ rfl; rw [hget] at this; exact this
   have g3 : wr.cell? ⟨g, k * 7 + 3, none⟩ = some (.int .i64 mo) := by have := owns_at encNc_len hrow k hkv 3 _ rfl; rw [hget] at this; exact this
   have g4w : wr.cell? ⟨g, k * 7 + 4, none⟩ = some (.string tx) := by have := owns_at encNc_len hrow k hkv 4 _ rfl; rw [hget] at this; exact this
   clear g4w; have f0 := hrow.frozenAt; have Hrow := hd0 hrow; have HoN := hd0 hoN; have HoK := hd0 hoK; have Hget := hd0 hget; clear hx hvl hmap hsv hrow hpin hoN hoK hget hok hsub
   go_wp2_with fail
   refine (markText_any _ _ (by omega) (by omega)).mono ?_; rintro e w1 ⟨v1, rfl, rfl, hb1⟩
   have h5 : c + (m : Int) + 1 + 1 + 1 + 1 = c + (m : Int) + 4 := by omega
   have h4 : c + (m : Int) + 1 + 1 + 1 = c + (m : Int) + 3 := by omega
   have h3 : c + (m : Int) + 1 + 1 = c + (m : Int) + 2 := by omega
   have o0 := owns_set encNc_len Hrow.out k 0 (.bool ((c + (m : Int)) % 3 == 0)) ⟨⟨(c + (m : Int)) % 3 == 0, ow, gr, mo, tx, N, K⟩, an, cn, ak, ck⟩ hkv (by omega) (by rw [Hget.out]; rfl); have o1 := owns_set encNc_len o0 k 1 (.int .i64 (c + (m : Int) + 1)) ⟨⟨(c + (m : Int)) % 3 == 0, c + (m : Int) + 1, gr, mo, tx, N, K⟩, an, cn, ak, ck⟩ (by rw [List.length_set]; exact hkv) (by omega) (by rw [List.getElem_set_self]; rfl); have o2 := owns_set encNc_len o1 k 2 (.int .i64 (c + (m : Int) + 1 + 1)) ⟨⟨(c + (m : Int)) % 3 == 0, c + (m : Int) + 1, c + (m : Int) + 2, mo, tx, N, K⟩, an, cn, ak, ck⟩ (by simp only [List.length_set]; exact hkv) (by omega) (by rw [List.getElem_set_self, h3]; rfl); have o3 := owns_set encNc_len o2 k 3 (.int .i64 (c + (m : Int) + 1 + 1 + 1)) ⟨⟨(c + (m : Int)) % 3 == 0, c + (m : Int) + 1, c + (m : Int) + 2, c + (m : Int) + 3, tx, N, K⟩, an, cn, ak, ck⟩ (by simp only [List.length_set]; exact hkv) (by omega) (by rw [List.getElem_set_self, h4]; rfl); have e3 := ownsRow_ext o3 hb1; have o4 := owns_set encNc_len e3 k 4 (.string (markStr (c + (m : Int) + 1 + 1 + 1 + 1))) ⟨⟨(c + (m : Int)) % 3 == 0, c + (m : Int) + 1, c + (m : Int) + 2, c + (m : Int) + 3, markStr (c + (m : Int) + 4), N, K⟩, an, cn, ak, ck⟩ (by simp only [List.length_set]; exact hkv) (by omega) (by rw [List.getElem_set_self, h5]; rfl); simp only [List.set_set] at o4 e3
   have hgA : wr.grownBy (w1.setCell ⟨g, k * 7 + 4, none⟩ (.string (markStr (c + (m : Int) + 1 + 1 + 1 + 1)))) (some g) := by
    refine grown_setCell (grown_ext ?_ hb1) _; exact grown_setCell (grown_setCell (grown_setCell (grown_setCell (World.grownBy.refl _ _) _) _) _) _
   have hkv1 : ∀ z : Nc, k < (vs'.set k z).length := fun z => by rw [List.length_set]; exact hkv
   have g4 : w1.cell? ⟨g, k * 7 + 4, none⟩ = some (.string tx) := by have := owns_at encNc_len e3 k (hkv1 _) 4 _ rfl; rw [List.getElem_set_self] at this; exact this
   have g5 : w1.cell? ⟨g, k * 7 + 5, none⟩ = some (.slice an N.length cn) := by have := owns_at encNc_len e3 k (hkv1 _) 5 _ rfl; rw [List.getElem_set_self] at this; exact this
   have f1 := e3.frozenAt; have O4 := hd0 o4; have HGA := hd0 hgA; clear f0 g0 g1 g2 g3 o0 o1 o2 o3 e3 o4 hgA h3 h4 h5 hb1
   go_wp2_with fail
   have hpA : ∀ b, (Value.slice (some ⟨g, 0, none⟩) T.length cap).ownBlock = some b → b = g := fun b hb => (Option.some.inj hb).symm
   have hcA : Chg (fun b => (Value.slice (some ⟨g, 0, none⟩) T.length cap).ownBlock = some b) wr (w1.setCell ⟨g, k * 7 + 4, none⟩ (.string (markStr (c + (m : Int) + 1 + 1 + 1 + 1)))) := (Chg.of_row HGA.out).mono (fun b hb _ => hb); have hpin := HOK.out.2.2.1 k _ _ HSV.out (List.getElem?_eq_getElem (by have h1 := HOK.out.2.1; omega)); have h4 := HOK.out.2.2.2.1 _ (List.mem_of_getElem? HSV.out); have hoNA := (plRow 9 1 encStr1 (.slice an N.length cn) N).frame wr _ HoN.out (fun b hb => hcA.block b ((plRow 9 1 encStr1 (.slice an N.length cn) N).lt wr b HoN.out hb) (fun e => h4 b (.inl hb) e)); have hoKA := (plRow 3 1 encInt1 (.slice ak K.length ck) K).frame wr _ HoK.out (fun b hb => hcA.block b ((plRow 3 1 encInt1 (.slice ak K.length ck) K).lt wr b HoK.out hb) (fun e => h4 b (.inr hb) e)); have O4' := O4.out; generalize hWA : w1.setCell ⟨g, k * 7 + 4, none⟩ (.string (markStr (c + (m : Int) + 1 + 1 + 1 + 1))) = wA at *; clear hWA O4 HGA g4 g5 f1 HoN HoK
   have ha5 : c + (m : Int) + 1 + 1 + 1 + 1 + 1 = c + (m : Int) + 5 := by omega
   refine (markStrS_own 0 (.slice an N.length cn) N.length N (c + (m : Int) + 1 + 1 + 1 + 1 + 1) wA rfl (by omega) (by omega) (by omega) hoNA).mono ?_; rintro e wB ⟨rfl, hqB, hgB⟩; rw [ha5] at hqB ⊢; clear ha5; have hcB : Chg (fun b => pinNd.own (⟨⟨fo, ow, gr, mo, tx, N, K⟩, an, cn, ak, ck⟩ : Nc) b) wA wB := (Chg.of_grown hgB).mono (fun b hb _ => .inl hb); have hlA : (vs'.set k (⟨⟨(c + (m : Int)) % 3 == 0, c + (m : Int) + 1, c + (m : Int) + 2, c + (m : Int) + 3, markStr (c + (m : Int) + 4), N, K⟩, an, cn, ak, ck⟩ : Nc)).length = vs'.length := List.length_set
   have hvl' : vs'.length = T.length := by rw [plG_len HOK.out, mmNd_len T c k hk]
   have O4r : (plRow 89 7 encNc (.slice (some ⟨g, 0, none⟩) T.length cap) (vs'.set k (⟨⟨(c + (m : Int)) % 3 == 0, c + (m : Int) + 1, c + (m : Int) + 2, c + (m : Int) + 3, markStr (c + (m : Int) + 4), N, K⟩, an, cn, ak, ck⟩ : Nc))).ok wA := by
    show wA.ownsRow 0 _ 7 _ (vs'.set k _).length _
    rw [hlA, hvl']; exact O4'
   have O5 := (plRow 89 7 encNc (.slice (some ⟨g, 0, none⟩) T.length cap) (vs'.set k (⟨⟨(c + (m : Int)) % 3 == 0, c + (m : Int) + 1, c + (m : Int) + 2, c + (m : Int) + 3, markStr (c + (m : Int) + 4), N, K⟩, an, cn, ak, ck⟩ : Nc))).frame wA wB O4r (fun b hb => hcB.block b ((plRow 89 7 encNc _ _).lt wA b O4r hb) (fun e => h4 b e hb)); have hoKB := (plRow 3 1 encInt1 (.slice ak K.length ck) K).frame wA wB hoKA (fun b hb => (Chg.of_grown hgB).block b ((plRow 3 1 encInt1 (.slice ak K.length ck) K).lt wA b hoKA hb) (fun e => hpin.2.2.2 b e hb))
   have g6 : wB.cell? ⟨g, k * 7 + 6, none⟩ = some (.slice ak K.length ck) := by
    have h9 : wB.ownsRow 0 89 7 (.slice (some ⟨g, 0, none⟩) T.length cap) (vs'.set k (⟨⟨(c + (m : Int)) % 3 == 0, c + (m : Int) + 1, c + (m : Int) + 2, c + (m : Int) + 3, markStr (c + (m : Int) + 4), N, K⟩, an, cn, ak, ck⟩ : Nc)).length _ := O5; rw [hlA, hvl'] at h9; have := owns_at encNc_len h9 k (by rw [hlA]; exact hkv) 6 _ rfl; rw [List.getElem_set_self] at this; exact this
   have H4 := hd0 O4r; have HB := hd0 hgB; have HQB := hd0 hqB; have HCA := hd0 hcA; have HPin := hd0 hpin; clear hpA hcA hpin h4 hoNA hoKA O4' hqB hgB hcB hlA hvl' O4r O5
   go_wp2_with fail
   refine (markIntS_own 0 (.slice ak K.length ck) K.length K (c + (m : Int) + 5 + (N.length : Int)) wB rfl (by omega) (by omega) (by omega) hoKB).mono ?_; rintro e wC ⟨rfl, hqC, hgC⟩
   have hres := mark_rows (c := c + (m : Int)) HOK.out HSV.out HCA.out (by
    have := H4.out
    show wA.ownsRow 0 _ 7 _ vs'.length _
    have h9 : wA.ownsRow 0 89 7 (.slice (some ⟨g, 0, none⟩) T.length cap) (vs'.set k (⟨⟨(c + (m : Int)) % 3 == 0, c + (m : Int) + 1, c + (m : Int) + 2, c + (m : Int) + 3, markStr (c + (m : Int) + 4), N, K⟩, an, cn, ak, ck⟩ : Nc)).length _ := this; rw [List.length_set] at h9
    exact h9) HB.out HQB.out hgC hqC
   rw [HSet.out] at hres; have HRes := hd0 hres; clear hres hqC hgC hoKB g6; go_wp2; go_roundw
   case rel =>
    refine ⟨k + 1, _, by omega, by go_num, ?_, HRes.out.1, hb.trans (HRes.out.2.1.mono (fun b hb _ => HSUB.out b hb)), fun b hb => HSUB.out b (HRes.out.2.2 b hb)⟩; rw [HSt.out]; unfold cntNd; dsimp only
    congr 1
    push_cast
    omega
   case measure => simp [intOf]; omega
  ·obtain rfl : k = T.length := by omega
   have hni : ¬ (T.length : Int) < (T.length : Int) := by omega
   rw [mmNd_full] at hok; rw [List.take_length]; go_wp2; go_ret; exact ⟨rfl, vs', hok, hb, hsub⟩
theorem heldNdS_any (a : Option Addr) (cap : Nat) (T : List Nd) (c : Int) (w : World) (hl : T.length ≤ 1048576) (hNK : ∀ x ∈ T, x.N.length ≤ 1048576 ∧ x.K.length ≤ 1048576) (hs : sumNd T ≤ 100000000) (h0 : 0 ≤ c) (h1 : c ≤ 900000000000) (hc : RdN w a (marksNd T c)) :
  Calls Tryz.prog 52 #[.slice a T.length cap, .int .i64 c] w (RetI (c + (sumNd T : Int)) w) := by
 have HNK := hd0 hNK; clear hNK
 go_enter Tryz.func52, Tryz.ntmps52
 go_wp2
 go_loopw [1, 5] (fun q i wr => ∃ k : Nat, k ≤ T.length ∧ i = .int .i64 k ∧ q = .int .i64 (c + (sumNd (T.take k) : Int)) ∧ Ext w wr) (fun _ i _ => T.length - (intOf i).toNat)
 case atStart => exact ⟨0, Nat.zero_le _, rfl, by simp [sumNd], Ext.refl _⟩
 case round =>
  obtain ⟨k, hk, rfl, rfl, hb⟩ := hrel
  by_cases hlk : k < T.length
  ·obtain ⟨x, hx⟩ : ∃ x, T[k]? = some x := ⟨_, List.getElem?_eq_getElem hlk⟩; obtain ⟨x', b, off, an, cn, ak, ck, hx', rfl, c0, c1, c2, c3, c4, c5, c6, hcn, hck, hrn, hrk⟩ := atNd (hc.ext hb) (show k < (marksNd T c).length by rw [marksNd_len]; exact hlk); rw [marksNd_at T c k x hx] at hx'; obtain rfl := Option.some.inj hx'; have hnk := HNK.out x (List.mem_of_getElem? hx)
   have hcx : cntNd x ≤ sumNd T := by
    have e1 := sumNd_step hx; have e2 := sumNd_take T (k + 1); omega
   have hck2 : sumNd (T.take k) ≤ sumNd T := sumNd_take T k; have HSt := hd0 (sumNd_step hx)
   have i0 : (k : Int) < (T.length : Int) := by omega
   generalize sumNd (T.take k) = m at *; unfold cntNd at hcx; simp only [markNd, marksStr_len, marksInt_len] at c0 c1 c2 c3 c4 c5 c6 hrn hrk; rw [show c + (m : Int) + 2 = c + (m : Int) + 1 + 1 by omega] at c2; rw [show c + (m : Int) + 3 = c + (m : Int) + 1 + 1 + 1 by omega] at c3; rw [show c + (m : Int) + 4 = c + (m : Int) + 1 + 1 + 1 + 1 by omega] at c4; rw [show c + (m : Int) + 5 = c + (m : Int) + 1 + 1 + 1 + 1 + 1 by omega] at hrn hrk; have Hrn := hd0 hrn; have Hrk := hd0 hrk
   have t0 : (((c + (m : Int)) % 3 == 0) != ((c + (m : Int)) % 3 == 0)) = false := by simp
   clear hx hx' hcn hck hrn hrk
   go_upto_region 16 with fail
   refine wp_region_v 7 (V := fun i v _ => match i with | 0 => v = .slice (some ⟨b, off, none⟩) T.length cap | 1 => v = .int .i64 k | 2 => v = .pointer (some ⟨b, off + k * 7, none⟩) | 3 => v = .pointer (some ⟨b, off + k * 7 + 4, none⟩) | 4 => v = .string (markStr (c + (m : Int) + 1 + 1 + 1 + 1)) | 5 => v = .int .i64 (c + (m : Int) + 1 + 1 + 1 + 1) | 6 => v = .string (markStr (c + (m : Int) + 1 + 1 + 1 + 1)) | _ => True) rfl (by decide) (by kernel_rfl) (by kernel_rfl) (by kernel_rfl) ?_ ?_ ?_
   ·intro i v w1 w2 h _; exact h
   ·intro i o hi ho vs w2 hvl hE hd; have cj := cell_ext hE (show (wr).drew.cell? _ = _ from c4)
    match vs, hvl with
    | [x0, x1, x2, x3, x4, x5, x6], _ =>
    rcases lc7 hi with rfl | rfl | rfl | rfl | rfl | rfl | rfl
    all_goals
     obtain rfl := Option.some.inj ho; simp [Waits, Region.binds] at hd; simp [putAll, Act.put, hd]
     go_wp2_with (go_at_call 62; refine (markText_any _ _ (by omega) (by omega)).mono ?_; rintro e w3 ⟨v3, rfl, rfl, hb3⟩)
     first | exact ⟨rfl, _, rfl, rfl, Ext.refl _⟩ | exact ⟨rfl, _, rfl, rfl, hb3⟩
   intro vs w0 hvl hb0 hV
   match vs, hvl with
   | [x0, x1, x2, x3, x4, x5, x6], _ =>
   have h00 := hV 0 (by omega); have h10 := hV 1 (by omega); have h20 := hV 2 (by omega); have h30 := hV 3 (by omega); have h40 := hV 4 (by omega); have h50 := hV 5 (by omega); have h60 := hV 6 (by omega); simp at h00 h10 h20 h30 h40 h50 h60; subst h00 h10 h20 h30 h40 h50 h60; clear hV; simp only [putAll, Act.put, List.take_succ_cons, List.take_zero, List.drop_succ_cons, List.drop_zero]; simp; replace hb0 : Ext wr w0 := ((Ext.refl wr).drew).trans hb0; replace c5 := cell_ext hb0 c5; replace c6 := cell_ext hb0 c6; replace hb := hb.trans hb0; clear c0 c1 c2 c3 c4 t0
   go_wp2_with fail
   refine (heldStrS_any an cn x.N.length (c + (m : Int) + 1 + 1 + 1 + 1 + 1) w0 (by omega) (by omega) (by omega) (Hrn.out.ext hb0)).mono ?_; rintro e w1 ⟨rfl, hE1⟩
   have hn1 : ¬ (c + (m : Int) + 1 + 1 + 1 + 1 + 1 + (x.N.length : Int) < 0) := by omega
   replace c6 := cell_ext hE1 c6
   go_wp2_with fail
   refine (heldIntS_any ak ck x.K.length (c + (m : Int) + 1 + 1 + 1 + 1 + 1 + (x.N.length : Int)) w1 (by omega) (by omega) (by omega) (Hrk.out.ext (hb0.trans hE1))).mono ?_; rintro e w2 ⟨rfl, hE2⟩
   have hn2 : ¬ (c + (m : Int) + 1 + 1 + 1 + 1 + 1 + (x.N.length : Int) + (x.K.length : Int) < 0) := by omega
   clear c5 c6 hn1; go_wp2; go_roundw
   case rel =>
    refine ⟨k + 1, by omega, by go_num, ?_, (hb.trans hE1).trans hE2⟩; rw [HSt.out]; unfold cntNd
    congr 1
    push_cast
    omega
   case measure => simp [intOf]; omega
  ·obtain rfl : k = T.length := by omega
   have hni : ¬ (T.length : Int) < (T.length : Int) := by omega
   rw [List.take_length]; go_wp2; go_ret; exact RetI.mk rfl hb
theorem markKer_own {w0 w : World} {H : List Pl} (S : Sep w0 w H) (i : Nat) {a : Option Addr} {cap : Nat} {T : List Nd} {vs : List Nc} (r u s g : Int) (c : Int) (hi : H[i]? = some (plNd (.slice a T.length cap) vs T))
  (hl : T.length ≤ 1048576) (hNK : ∀ x ∈ T, x.N.length ≤ 1048576 ∧ x.K.length ≤ 1048576) (hs : sumNd T ≤ 100000000) (h0 : 0 ≤ c) (h1 : c ≤ 900000000000) :
  Calls Tryz.prog 12 #[.agg #[.slice a T.length cap, .int .i64 r, .int .i64 u, .int .i64 s, .int .i64 g], .int .i64 c] w fun e w' => ∃ vs', e = .returned (.int .i64 (c + (sumNd T : Int))) ∧ Sep w0 w' (H.set i (plNd (.slice a T.length cap) vs' (marksNd T c))) := by
 have HNK := hd0 hNK; clear hNK
 go_enter Tryz.func12, Tryz.ntmps12
 have SA := S.alloc #[.slice a T.length cap, .int .i64 r, .int .i64 u, .int .i64 s, .int .i64 g] 31
 go_wp2_with fail
 generalize hb : w.heap.size = b at *; generalize (w.alloc (.cells #[.slice a T.length cap, .int .i64 r, .int .i64 u, .int .i64 s, .int .i64 g] 31)) = w1 at *; clear S hb; refine (markNdS_own a cap vs T c w1 hl HNK.out hs h0 h1 (SA.at_ (i + 1) hi)).mono ?_; rintro e w2 ⟨vs', rfl, hok, hch, hsub⟩; have S3 := (SA.put (i + 1) hi (q := plNd (.slice a T.length cap) vs' (marksNd T c)) hch hok (fun b h => .inl (hsub b h))).drop 0; clear hok hch; go_wp2; go_ret; exact ⟨vs', rfl, S3⟩
theorem heldKer_any (a : Option Addr) (cap : Nat) (T : List Nd) (r u s g : Int) (c : Int) (w : World) (hl : T.length ≤ 1048576) (hNK : ∀ x ∈ T, x.N.length ≤ 1048576 ∧ x.K.length ≤ 1048576) (hs : sumNd T ≤ 100000000) (h0 : 0 ≤ c) (h1 : c ≤ 900000000000) (hc : RdN w a (marksNd T c)) :
  Calls Tryz.prog 13 #[.agg #[.slice a T.length cap, .int .i64 r, .int .i64 u, .int .i64 s, .int .i64 g], .int .i64 c] w (RetI (c + (sumNd T : Int)) w) := by
 have HNK := hd0 hNK; clear hNK
 go_enter Tryz.func13, Tryz.ntmps13
 have SA := (Ext.refl w).alloc (.cells #[.slice a T.length cap, .int .i64 r, .int .i64 u, .int .i64 s, .int .i64 g] 31)
 go_wp2_with fail
 generalize (w.alloc (.cells #[.slice a T.length cap, .int .i64 r, .int .i64 u, .int .i64 s, .int .i64 g] 31)) = w1 at *; refine (heldNdS_any a cap T c w1 hl HNK.out hs h0 h1 (hc.ext SA)).mono ?_; rintro e w2 ⟨rfl, hE⟩
 have hn : ¬ (c + (sumNd T : Int) < 0) := by omega
 go_wp2; go_ret; exact RetI.mk rfl (SA.trans hE)
def RetSM (left : Int) (P : Int → Prop) (w : World) (e : Ending) (w' : World) : Prop := ∃ r : Int, e = .returned (.int .i64 r) ∧ -1 ≤ r ∧ r ≤ left ∧ (0 ≤ r → P r) ∧ Ext w w'
theorem RetSM.mk {left : Int} {P : Int → Prop} {w w' : World} {v : Value} {r : Int} (hv : v = .int .i64 r) (h1 : -1 ≤ r) (h2 : r ≤ left) (h3 : 0 ≤ r → P r) (hw : Ext w w') : RetSM left P w (.returned v) w' := ⟨r, by rw [hv], h1, h2, h3, hw⟩
theorem szStr_more (a : Option Addr) (cap : Nat) (l : List ByteArray) (left : Int) (w : World) (h0 : 0 ≤ left) (h1 : left ≤ 1048576) (hl : l.length ≤ 9223372036854775807) (hs : ∀ x ∈ l, x.size ≤ 9223372036854775807) (hc : Rd 1 encStr1 w a l) :
  Calls Tryz.prog 21 #[.slice a l.length cap, .int .i64 left] w (RetSM left (fun q => q + l.length ≤ left ∧ (l.length ≤ 1048576 ∧ ∀ x ∈ l, x.size ≤ 1048576)) w) := by
 by_cases h : left - l.length < 0
 ·go_enter Tryz.func21, Tryz.ntmps21
  go_wp2; go_ret; exact RetSM.mk rfl (by omega) (by omega) (by omega) (Ext.refl _)
 ·go_enter Tryz.func21, Tryz.ntmps21
  go_wp2
  go_loopw [1, 5] (fun q i wr => ∃ (k : Nat) (r : Int), k ≤ l.length ∧ i = .int .i64 k ∧ q = .int .i64 r ∧ 0 ≤ r ∧ r ≤ left ∧ r + l.length ≤ left ∧ (∀ j, j < k → ∀ x, l[j]? = some x → x.size ≤ 1048576) ∧ Ext w wr) (fun _ i _ => l.length - (intOf i).toNat)
  case atStart => exact ⟨0, left - l.length, Nat.zero_le _, rfl, rfl, by omega, by omega, by omega, fun _ h => absurd h (Nat.not_lt_zero _), Ext.refl _⟩
  case round =>
   obtain ⟨k, r, hk, rfl, rfl, hr0, hr1, hr2, hpre, hb⟩ := hrel; have Hpre := hd0 hpre; clear hpre; have Hs := hd0 hs; clear hs
   by_cases hlt : k < l.length
   ·obtain ⟨x, b, off, hx, rfl, c0⟩ := atStr (hc.ext hb) hlt; have hsx := Hs.out x (List.mem_of_getElem? hx); have Hx := hd0 hx
    have i0 : (k : Int) < (l.length : Int) := by omega
    clear hx
    by_cases hneg : r - (x.size : Int) < 0
    ·go_wp2; go_ret; exact RetSM.mk rfl (by omega) (by omega) (by omega) hb
    ·go_wp2; go_roundw
     case rel => exact ⟨k + 1, r - (x.size : Int), by omega, by go_num, rfl, by omega, by omega, by omega, fun j hj y hy => (Nat.lt_succ_iff_lt_or_eq.1 hj).elim (fun h => Hpre.out j h y hy) (fun e => by subst e; rw [Hx.out] at hy; cases hy; omega), hb⟩
     case measure => simp [intOf]; omega
   ·go_wp2; go_ret; exact RetSM.mk rfl (by omega) (by omega) (fun _ => ⟨by omega, by omega, fun x hx => by obtain ⟨j, hj⟩ := List.getElem?_of_mem hx; exact Hpre.out j (by have := (List.getElem?_eq_some_iff.1 hj).1; omega) x hj⟩) hb
theorem szInt_more (a : Option Addr) (cap : Nat) (l : List Int) (left : Int) (w : World) (h0 : 0 ≤ left) (h1 : left ≤ 1048576) (hl : l.length ≤ 9223372036854775807) :
  Calls Tryz.prog 103 #[.slice a l.length cap, .int .i64 left] w (RetSM left (fun q => q + l.length ≤ left ∧ (l.length ≤ 1048576)) w) := by
 by_cases h : left - l.length < 0
 ·go_enter Tryz.func103, Tryz.ntmps103
  go_wp2; go_ret; exact RetSM.mk rfl (by omega) (by omega) (fun _ => by omega) (Ext.refl _)
 ·go_enter Tryz.func103, Tryz.ntmps103
  go_wp2; go_ret; exact RetSM.mk rfl (by omega) (by omega) (fun _ => by omega) (Ext.refl _)
theorem szNd_more (x : Nd) (an ak : Option Addr) (cn ck : Nat) (left : Int) (w : World) (h0 : 0 ≤ left) (h1 : left ≤ 1048576) (hs : SmN 9223372036854775807 x) (hn : Rd 1 encStr1 w an x.N) :
  Calls Tryz.prog 63 #[.agg #[.bool x.fold, .int .i64 x.own, .int .i64 x.grp, .int .i64 x.mode, .string x.text, .slice an x.N.length cn, .slice ak x.K.length ck], .int .i64 left] w (RetSM left (fun q => q + x.N.length + x.K.length ≤ left ∧ SmN 1048576 x) w) := by
 obtain ⟨f, o, g, m, s, N, K⟩ := x; obtain ⟨hs1, hs2, hs3, hs4⟩ := hs; dsimp only at hs1 hs2 hs3 hs4 hn ⊢; have HS := hd0 hs3; clear hs3
 by_cases h : left - (s.size : Int) < 0
 ·go_enter Tryz.func63, Tryz.ntmps63
  go_wp2; go_ret; exact RetSM.mk rfl (by omega) (by omega) (by omega) ((Ext.refl _).alloc _)
 ·go_enter Tryz.func63, Tryz.ntmps63
  have S := Sep.start w; replace S := S.alloc_at (n := w.heap.size) (by simp) #[.bool f, .int .i64 o, .int .i64 g, .int .i64 m, .string s, .slice an N.length cn, .slice ak K.length ck] 88
  go_wp2_with fail
  generalize (w.alloc (.cells #[.bool f, .int .i64 o, .int .i64 g, .int .i64 m, .string s, .slice an N.length cn, .slice ak K.length ck] 88)) = w1 at *; refine (szStr_more an cn N (left - (s.size : Int)) w1 (by omega) (by omega) hs2 HS.out (hn.ext S.ext)).mono ?_; rintro e w2 ⟨r, rfl, hra, hrb, hrc, hE⟩; have Hrc := hd0 hrc; clear hrc; replace S := S.step hE; clear hE
  by_cases hneg : r < 0
  ·go_wp2; go_ret; exact RetSM.mk rfl (by omega) (by omega) (fun h => absurd h (by omega)) S.ext
  ·obtain ⟨⟨bc0, bf0⟩, ⟨bc1, bf1⟩, ⟨bc2, bf2⟩, ⟨bc3, bf3⟩, ⟨bc4, bf4⟩, ⟨bc5, bf5⟩, ⟨bc6, bf6⟩⟩ := bx7 (S.box 0 rfl)
   go_wp2_with fail
   refine (szInt_more ak ck K r w2 (by omega) (by omega) hs4).mono ?_; rintro e w3 ⟨q, rfl, hqa, hqb, hqc, hE⟩; have Hqc := hd0 hqc; clear hqc; clear bc0 bf0 bc1 bf1 bc2 bf2 bc3 bf3 bc4 bf4 bc5 bf5 bc6 bf6; replace S := S.step hE; clear hE
   by_cases hneg2 : q < 0
   ·go_wp2; go_ret; exact RetSM.mk rfl (by omega) (by omega) (fun h => absurd h (by omega)) S.ext
   ·go_wp2; go_ret
    exact RetSM.mk rfl (by omega) (by omega) (fun _ => by
     have k1 := Hrc.out (by omega); have k2 := Hqc.out (by omega)
     exact ⟨by show q + (N.length : Int) + (K.length : Int) ≤ _; omega, by show s.size ≤ _; omega, k1.2.1, k1.2.2, k2.2⟩) S.ext
theorem szNdS_more (a : Option Addr) (cap : Nat) (T : List Nd) (left : Int) (w : World) (h0 : 0 ≤ left) (h1 : left ≤ 1048576) (hl : T.length ≤ 9223372036854775807) (hs : ∀ x ∈ T, SmN 9223372036854775807 x) (hc : RdN w a T) :
  Calls Tryz.prog 27 #[.slice a T.length cap, .int .i64 left] w (RetSM left (fun q => ((T.length ≤ 1048576 ∧ ∀ x ∈ T, SmN 1048576 x) ∧ ∀ x ∈ T, x.N.length + x.K.length ≤ 1048576) ∧ sumNd T ≤ 6291456) w) := by
 have HS := hd0 hs; clear hs
 by_cases h : left - T.length < 0
 ·go_enter Tryz.func27, Tryz.ntmps27
  go_wp2; go_ret; exact RetSM.mk rfl (by omega) (by omega) (by omega) (Ext.refl _)
 ·go_enter Tryz.func27, Tryz.ntmps27
  go_wp2
  go_loopw [1, 5] (fun q i wr => ∃ (k : Nat) (r : Int), k ≤ T.length ∧ i = .int .i64 k ∧ q = .int .i64 r ∧ 0 ≤ r ∧ r ≤ left ∧ r + (sumNd (T.take k) : Int) ≤ left + 5 * (k : Int) ∧ (∀ j, j < k → ∀ x, T[j]? = some x → SmN 1048576 x ∧ x.N.length + x.K.length ≤ 1048576) ∧ Ext w wr) (fun _ i _ => T.length - (intOf i).toNat)
  case atStart => exact ⟨0, left - T.length, Nat.zero_le _, rfl, rfl, by omega, by omega, by rw [List.take_zero, sumNd]; omega, fun _ h => absurd h (Nat.not_lt_zero _), Ext.refl _⟩
  case round =>
   obtain ⟨k, r, hk, rfl, rfl, hr0, hr1, hsum, hpre, hb⟩ := hrel; have Hpre := hd0 hpre; clear hpre
   by_cases hlt : k < T.length
   ·obtain ⟨x, b, off, an, cn, ak, ck, hx, rfl, c0, c1, c2, c3, c4, c5, c6, hcn, hck, hrn, hrk⟩ := atNd (hc.ext hb) hlt; have Hx := hd0 hx
    have i0 : (k : Int) < (T.length : Int) := by omega
    clear hx hcn hck hrk
    go_wp2_with fail
    refine (szNd_more x an ak cn ck r wr (by omega) (by omega) (HS.out x (List.mem_of_getElem? Hx.out)) hrn).mono ?_; rintro e w2 ⟨r2, rfl, hq1, hq2, hq3, hb2⟩; have Hq3 := hd0 hq3; clear hq3 c0 c1 c2 c3 c4 c5 c6 hrn
    by_cases hneg : r2 < 0
    ·go_wp2; go_ret; exact RetSM.mk rfl (by omega) (by omega) (by omega) (hb.trans hb2)
    ·have hpos : 0 ≤ r2 := by omega
     go_wp2; go_roundw
     case rel => exact ⟨k + 1, r2, by omega, by go_num, rfl, by omega, by omega, by rw [sumNd_step Hx.out]; have := (Hq3.out hpos).1; unfold cntNd; omega, fun j hj y hy => (Nat.lt_succ_iff_lt_or_eq.1 hj).elim (fun h => Hpre.out j h y hy) (fun e => by subst e; rw [Hx.out] at hy; cases hy; exact ⟨(Hq3.out hpos).2, by have := (Hq3.out hpos).1; omega⟩), hb.trans hb2⟩
     case measure => simp [intOf]; omega
   ·obtain rfl : k = T.length := by omega
    have hni : ¬ (T.length : Int) < (T.length : Int) := by omega
    go_wp2; go_ret
    exact RetSM.mk rfl (by omega) (by omega) (fun _ => by
     have key : ∀ x ∈ T, SmN 1048576 x ∧ x.N.length + x.K.length ≤ 1048576 := fun x hx => by obtain ⟨j, hj⟩ := List.getElem?_of_mem hx; exact Hpre.out j (List.getElem?_eq_some_iff.1 hj).1 x hj
     rw [List.take_length] at hsum
     exact ⟨⟨⟨by omega, fun x hx => (key x hx).1⟩, fun x hx => (key x hx).2⟩, by omega⟩) hb
theorem szKer_more (at_ : Option Addr) (cap : Nat) (T : List Nd) (r a s g left : Int) (w : World) (h0 : 0 ≤ left) (h1 : left ≤ 1048576) (hl : T.length ≤ 9223372036854775807) (hs : ∀ x ∈ T, SmN 9223372036854775807 x) (hc : RdN w at_ T) :
  Calls Tryz.prog 7 #[.agg #[.slice at_ T.length cap, .int .i64 r, .int .i64 a, .int .i64 s, .int .i64 g], .int .i64 left] w (RetSM left (fun q => ((T.length ≤ 1048576 ∧ ∀ x ∈ T, SmN 1048576 x) ∧ ∀ x ∈ T, x.N.length + x.K.length ≤ 1048576) ∧ sumNd T ≤ 6291456) w) := by
 have HS := hd0 hs; clear hs
 go_enter Tryz.func7, Tryz.ntmps7
 have S := Sep.start w; replace S := S.alloc_at (n := w.heap.size) (by simp) #[.slice at_ T.length cap, .int .i64 r, .int .i64 a, .int .i64 s, .int .i64 g] 26
 go_wp2_with fail
 generalize (w.alloc (.cells #[.slice at_ T.length cap, .int .i64 r, .int .i64 a, .int .i64 s, .int .i64 g] 26)) = w1 at *; refine (szNdS_more at_ cap T left w1 h0 h1 hl HS.out (hc.ext S.ext)).mono ?_; rintro e w2 ⟨q, rfl, hra, hrb, hrc, hE⟩; have Hrc := hd0 hrc; clear hrc; replace S := S.step hE; clear hE
 by_cases hneg : q < 0
 ·go_wp2; go_ret; exact RetSM.mk rfl (by omega) (by omega) (fun h => absurd h (by omega)) S.ext
 ·go_wp2; go_ret; exact RetSM.mk rfl (by omega) (by omega) (fun _ => Hrc.out (by omega)) S.ext
theorem nb_sz {T : List Nd} (h : ∀ x ∈ T, x.N.length + x.K.length ≤ 1048576) (hT : TreeOk T) : NB 524288 T := fun x hx => by
 obtain ⟨k, hk⟩ := List.getElem?_of_mem hx; have h1 := h x hx; have h2 := (hT.nodes k x hk).len; omega
end Go.Proofs.YtnibbldfohbfkaaGreatDoor
