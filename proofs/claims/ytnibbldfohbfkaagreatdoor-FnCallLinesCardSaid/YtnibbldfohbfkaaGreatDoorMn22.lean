/- Parts of one proof: what each theorem proves, and its conditions, stand in its own statement. -/
import Derived.Test.YtnibbldfohbfkaaGreatDoorMn21
set_option linter.all false
set_option maxRecDepth 100000
set_option maxHeartbeats 32000000
namespace Go.Proofs.YtnibbldfohbfkaaGreatDoor
open Go.RowKit
theorem words_count (s:ByteArray):(wordsB s).length=Lib.countB s ⟨#[32]⟩+1:=by
 have hw:=winv s.data.toList
 have hcnt:=count_lib 32 ((wordsL s.data.toList).map (·.data.toList)) (by simpa using hw.ne) (fun a ha=>by
  obtain⟨p,hp,rfl⟩:=List.mem_map.1 ha
  exact hw.no p hp)
 rw[hw.join,List.length_map]at hcnt;exact hcnt.symm
theorem str_flat:∀W:List ByteArray,W.map Value.string=W.flatMap encStr1
 | []=>rfl
 | a :: W=>by rw[List.map_cons,List.flatMap_cons,str_flat W];rfl
theorem cells2 {w:World} {gw:Nat} {W:List ByteArray} (h:Rd 1 encStr1 w (some ⟨gw,0,none⟩) W) (k:Nat) {a:ByteArray} (hk:W[k]?=some a):w.cell? ⟨gw,k,none⟩=some (.string a):=by
 obtain⟨x,b,o,hx,ha,hc⟩:=atStr h (List.getElem?_eq_some_iff.1 hk).1;rw[hk]at hx
 cases hx
 simp only[Option.some.injEq,Addr.mk.injEq]at ha;obtain⟨rfl,rfl,_⟩:=ha;rw[Nat.zero_add]at hc;exact hc
theorem implChange (at_:Option Addr) (cap:Nat) (T:List Nd) (cr ca cs cg:Int) (gw cw:Nat) (W:List ByteArray) (w:World) (hp:0 < W.length) (hW:∀p∈W,p.size≤1048576) (hrW:Rd 1 encStr1 w (some ⟨gw,0,none⟩) W) (hl:T.length≤1048576) (hT:∀x∈T,SmN 1048576 x) (hNB:NB 1000000 T) (hc:RdN w at_ T) (hm:MaxG w) :
  Calls Tryz.prog 45 #[.agg #[.slice at_ T.length cap,.int .i64 cr,.int .i64 ca,.int .i64 cs,.int .i64 cg],.slice (some ⟨gw,0,none⟩) W.length cw] w (RetCh (changeF T ⟨cr,ca,cs,cg⟩ W) w):=by
 by_cases h2:W.length=2
 ·obtain⟨a,x,rfl⟩:∃a x,W=[a,x]:=by
   match W,h2 with
   | [a,x],_=>exact⟨a,x,rfl⟩
  have e0:=cells2 hrW 0 rfl;have e1:=cells2 hrW 1 rfl;have hx:=hW x (by simp)
  by_cases h_folder:a=⟨#[102,111,108,100,101,114]⟩
  ·exact ich_2 at_ cap T cr ca cs cg gw cw a x w hx hl hT hNB hc hm (.inl h_folder) e0 e1
  by_cases h_file:a=⟨#[102,105,108,101]⟩
  ·exact ich_2 at_ cap T cr ca cs cg gw cw a x w hx hl hT hNB hc hm (.inr (.inl h_file)) e0 e1
  by_cases h_drop:a=⟨#[100,114,111,112]⟩
  ·exact ich_2 at_ cap T cr ca cs cg gw cw a x w hx hl hT hNB hc hm (.inr (.inr h_drop)) e0 e1
  exact ich2_no at_ cap T cr ca cs cg gw cw a x w hx hl hT hNB hc hm h_folder h_file h_drop e0 e1
 ·by_cases h3:W.length=3
  ·obtain⟨a,x,y,rfl⟩:∃a x y,W=[a,x,y]:=by
    match W,h3 with
    | [a,x,y],_=>exact⟨a,x,y,rfl⟩
   have e0:=cells2 hrW 0 rfl;have e1:=cells2 hrW 1 rfl;have e2:=cells2 hrW 2 rfl;have hx:=hW x (by simp);have hy:=hW y (by simp)
   by_cases h_mode:a=⟨#[109,111,100,101]⟩
   ·subst h_mode;exact ich_mode at_ cap T cr ca cs cg gw cw x y w hx hy hl hT hNB hc hm e0 e1 e2
   by_cases h_write:a=⟨#[119,114,105,116,101]⟩
   ·exact ich_3 at_ cap T cr ca cs cg gw cw a x y w hx hy hl hT hNB hc hm (.inl h_write) e0 e1 e2
   by_cases h_link:a=⟨#[108,105,110,107]⟩
   ·exact ich_3 at_ cap T cr ca cs cg gw cw a x y w hx hy hl hT hNB hc hm (.inr (.inl h_link)) e0 e1 e2
   by_cases h_move:a=⟨#[109,111,118,101]⟩
   ·exact ich_3 at_ cap T cr ca cs cg gw cw a x y w hx hy hl hT hNB hc hm (.inr (.inr h_move)) e0 e1 e2
   exact ich3_no at_ cap T cr ca cs cg gw cw a x y w hx hy hl hT hNB hc hm h_write h_mode h_link h_move e0 e1 e2
  ·obtain⟨a,ha⟩:∃a,W[0]?=some a:=⟨_,List.getElem?_eq_getElem hp⟩;have e0:=cells2 hrW 0 ha;clear ha;exact ichn_no at_ cap T cr ca cs cg gw cw W.length W rfl h2 h3 hp a w e0
theorem implTell (at_:Option Addr) (cap:Nat) (T:List Nd) (cr ca cs cg:Int) (gw cw:Nat) (W:List ByteArray) (w:World) (hp:0 < W.length) (hW:∀p∈W,p.size≤1048576) (hrW:Rd 1 encStr1 w (some ⟨gw,0,none⟩) W) (hl:T.length≤1048576) (hT:∀x∈T,SmN 1048576 x) (hc:RdN w at_ T) (hm:MaxG w) :
  Calls Tryz.prog 47 #[.agg #[.slice at_ T.length cap,.int .i64 cr,.int .i64 ca,.int .i64 cs,.int .i64 cg],.slice (some ⟨gw,0,none⟩) W.length cw] w fun e w'=>e=.returned (.string (tellF T ⟨cr,ca,cs,cg⟩ W))∧Ext w w':=by
 by_cases h2:W.length=2
 ·obtain⟨a,x,rfl⟩:∃a x,W=[a,x]:=by
   match W,h2 with
   | [a,x],_=>exact⟨a,x,rfl⟩
  have e0:=cells2 hrW 0 rfl;have e1:=cells2 hrW 1 rfl;have hx:=hW x (by simp)
  by_cases h_read:a=⟨#[114,101,97,100]⟩
  ·subst h_read;exact ite_read at_ cap T cr ca cs cg gw cw x w hx hl hT hc hm e0 e1
  by_cases h_list:a=⟨#[108,105,115,116]⟩
  ·subst h_list;exact ite_list at_ cap T cr ca cs cg gw cw x w hx hl hT hc hm e0 e1
  exact ite2_other at_ cap T cr ca cs cg gw cw a x w h_read h_list e0
 ·obtain⟨a,ha⟩:∃a,W[0]?=some a:=⟨_,List.getElem?_eq_getElem hp⟩;have e0:=cells2 hrW 0 ha;clear ha
  by_cases h_read:a=⟨#[114,101,97,100]⟩
  ·subst h_read;exact iten_read at_ cap T cr ca cs cg gw cw W.length W rfl h2 hp w e0
  by_cases h_list:a=⟨#[108,105,115,116]⟩
  ·subst h_list;exact iten_list at_ cap T cr ca cs cg gw cw W.length W rfl h2 hp w e0
  exact iten_other at_ cap T cr ca cs cg gw cw W.length W a rfl h2 hp w h_read h_list e0
def VTe (wR:World) (B3:Nat) (at_:Option Addr) (cap:Nat) (T:List Nd) (cr ca cs cg:Int) (gw n cw:Nat) (tx:ByteArray):Nat→Value→World→Prop:=fun i v wv=>match i with
 | 0=>v=.pointer (some ⟨B3,0,none⟩)
 | 1=>v=.slice at_ T.length cap
 | 2=>∃vs,Sep wR wv [plNd v vs T]
 | 3=>v=.pointer (some ⟨B3,1,none⟩)
 | 4=>v=.agg #[.int .i64 cr,.int .i64 ca,.int .i64 cs,.int .i64 cg]
 | 5=>∃u vs,v=.agg #[u,.int .i64 cr,.int .i64 ca,.int .i64 cs,.int .i64 cg]∧Sep wR wv [plNd u vs T]
 | 6=>v=.agg #[.slice at_ T.length cap,.int .i64 cr,.int .i64 ca,.int .i64 cs,.int .i64 cg]
 | 7=>v=.slice (some ⟨gw,0,none⟩) n cw
 | 8=>v=.string tx
 | _=>True
theorem VTe.ext {wR:World} {B3:Nat} {at_:Option Addr} {cap:Nat} {T:List Nd} {cr ca cs cg:Int} {gw n cw:Nat} {tx:ByteArray} (i:Nat) (v:Value) (w1 w2:World) (h:VTe wR B3 at_ cap T cr ca cs cg gw n cw tx i v w1) (hE:Ext w1 w2):VTe wR B3 at_ cap T cr ca cs cg gw n cw tx i v w2:=by
 match i with
 | 0|1|3|4|6|7|8=>exact h
 | 2=>obtain⟨vs,h1⟩:=h;exact⟨vs,h1.step hE⟩
 | 5=>obtain⟨u,vs,h0,h1⟩:=h;exact⟨u,vs,h0,h1.step hE⟩
 | (n+9)=>trivial
def VNo (B3:Nat) (u:Value) (cr ca cs cg:Int):Nat→Value→World→Prop:=fun i v _=>match i with
 | 0=>v=u
 | 1=>v=.pointer (some ⟨B3,1,none⟩)
 | 2=>v=.agg #[.int .i64 cr,.int .i64 ca,.int .i64 cs,.int .i64 cg]
 | 3=>v=.agg #[u,.int .i64 cr,.int .i64 ca,.int .i64 cs,.int .i64 cg]
 | 4=>v=.string ⟨#[110,111,110,101]⟩
 | _=>True
theorem VNo.ext {B3:Nat} {u:Value} {cr ca cs cg:Int} (i:Nat) (v:Value) (w1 w2:World) (h:VNo B3 u cr ca cs cg i v w1) (hE:Ext w1 w2):VNo B3 u cr ca cs cg i v w2:=h
theorem implCallLine (at_:Option Addr) (cap:Nat) (T:List Nd) (cr ca cs cg:Int) (s:ByteArray) (w:World) (hs:s.size≤1048576) (hl:T.length≤1048576) (hT:∀x∈T,SmN 1048576 x) (hNB:TreeOk T→NB 1000000 T) (hc:RdN w at_ T) (hm:MaxG w) :
  Calls Tryz.prog 10 #[.agg #[.slice at_ T.length cap,.int .i64 cr,.int .i64 ca,.int .i64 cs,.int .i64 cg],.string s] w (RetK (callLine T ⟨cr,ca,cs,cg⟩ s) (callCr T ⟨cr,ca,cs,cg⟩) w):=by
 have HT:=hd0 hT;have HNB:=hd0 hNB;clear hT hNB
 go_enter Tryz.func10,Tryz.ntmps10
 have S:=Sep.start w;replace S:=S.alloc_at (n:=w.heap.size) (by simp) #[.slice at_ T.length cap,.int .i64 cr,.int .i64 ca,.int .i64 cs,.int .i64 cg] 31;replace S:=S.alloc_at (n:=(w.heap.size+1)) (by simp) #[.slice none 0 0,.int .i64 0,.int .i64 0,.int .i64 0,.int .i64 0] 31
 go_upto_region 1 with fail
 generalize ((w.alloc (.cells #[.slice at_ T.length cap,.int .i64 cr,.int .i64 ca,.int .i64 cs,.int .i64 cg] 31)).alloc (.cells #[.slice none 0 0,.int .i64 0,.int .i64 0,.int .i64 0,.int .i64 0] 31))=w1 at *;generalize w.heap.size+1=B4 at *;generalize w.heap.size=B3 at *;obtain⟨⟨b3c0,b3f0⟩,⟨b3c1,b3f1⟩,⟨b3c2,b3f2⟩,⟨b3c3,b3f3⟩,⟨b3c4,b3f4⟩⟩:=bx5 (S.box 1 rfl)
 go_wp2_with fail
 clear b3c0 b3f0 b3c1 b3f1 b3c2 b3f2 b3c3 b3f3 b3c4 b3f4;refine(implKernelValid at_ cap T cr ca cs cg w1 hl HT.out (hc.ext S.ext)).mono ?_;rintro e w2 ⟨v,rfl,hv,hE⟩;have Hv:=hd0 hv;clear hv;replace S:=S.step hE;clear hE
 cases v with
 | false =>
  have hno:¬(TreeOk T∧Cr.ok ⟨cr,ca,cs,cg⟩):=fun h=>Bool.noConfusion (Hv.out.2 h)
  have HX:Hid (callLine T ⟨cr,ca,cs,cg⟩ s=([],⟨#[]⟩)∧callCr T ⟨cr,ca,cs,cg⟩=⟨0,0,0,0⟩):=hd0 ⟨by unfold callLine;rw[if_neg hno],by unfold callCr;rw[if_neg hno]⟩;clear hno;obtain⟨⟨b4c0,b4f0⟩,⟨b4c1,b4f1⟩,⟨b4c2,b4f2⟩,⟨b4c3,b4f3⟩,⟨b4c4,b4f4⟩⟩:=bx5 (S.box 0 rfl);go_wp2;clear b4c0 b4f0 b4c1 b4f1 b4c2 b4f2 b4c3 b4f3 b4c4 b4f4;replace S:Sep w (((((w2.setCell ⟨B4,0,none⟩ (.slice none 0 0)).setCell ⟨B4,1,none⟩ (.int .i64 0)).setCell ⟨B4,2,none⟩ (.int .i64 0)).setCell ⟨B4,3,none⟩ (.int .i64 0)).setCell ⟨B4,4,none⟩ (.int .i64 0)) [plBox B4 #[.slice none 0 0,.int .i64 0,.int .i64 0,.int .i64 0,.int .i64 0] 31,plBox B3 #[.slice at_ T.length cap,.int .i64 cr,.int .i64 ca,.int .i64 cs,.int .i64 cg] 31]:=((((S.set 0 rfl 0 _).set 0 rfl 1 _).set 0 rfl 2 _).set 0 rfl 3 _).set 0 rfl 4 _;generalize (((((w2.setCell ⟨B4,0,none⟩ (.slice none 0 0)).setCell ⟨B4,1,none⟩ (.int .i64 0)).setCell ⟨B4,2,none⟩ (.int .i64 0)).setCell ⟨B4,3,none⟩ (.int .i64 0)).setCell ⟨B4,4,none⟩ (.int .i64 0))=wD at *;obtain⟨⟨b4c0,b4f0⟩,⟨b4c1,b4f1⟩,⟨b4c2,b4f2⟩,⟨b4c3,b4f3⟩,⟨b4c4,b4f4⟩⟩:=bx5 (S.box 0 rfl);refine bodyPost_ret (v:=.tuple #[.agg #[.slice none 0 0,.int .i64 0,.int .i64 0,.int .i64 0,.int .i64 0],.string ⟨#[]⟩]) (by simp[results,Tryz.results10,go_sem,b4c0,b4c1,b4c2,b4c3,b4c4]) rfl ?_;rw[HX.out.1,HX.out.2];exact⟨_,[],rfl,nil_tree S.ext⟩
 | true =>
  have hyes:TreeOk T∧Cr.ok ⟨cr,ca,cs,cg⟩:=Hv.out.1 rfl;have HX:Hid (callLine T ⟨cr,ca,cs,cg⟩ s=callF T ⟨cr,ca,cs,cg⟩ (wordsB s)∧callCr T ⟨cr,ca,cs,cg⟩=⟨cr,ca,cs,cg⟩):=hd0 ⟨by unfold callLine;rw[if_pos hyes],by unfold callCr;rw[if_pos hyes]⟩;replace HNB:Hid (NB 1000000 T):=hd0 (HNB.out hyes.1);clear Hv hyes
  go_wp2_with fail
  refine(split_any s w2 (by omega) (hm.ext S.ext)).mono ?_;rintro e w3 ⟨rfl,hw3⟩;have hlenW:(wordsB s).length=Lib.countB s ⟨#[32]⟩+1:=words_count s;rw[split_words]at hw3;obtain⟨W,hW⟩:∃W,W=wordsB s:=⟨_,rfl⟩
  have hWs:∀p∈W,p.size≤1048576:=fun p hp=>by rw[hW]at hp;have:=words_size hp;omega
  have hWl:1≤W.length∧W.length≤1048577:=by rw[hW];have h1:=words_pos s;have h2:=words_len s;omega
  rw[←hlenW,←hW];rw[←hW]at hw3;have S:Sep w (w2.alloc (.cells (W.map Value.string).toArray 9)) (plRow 9 1 encStr1 (.slice (some ⟨w2.heap.size,0,none⟩) W.length W.length) W :: _):=S.lit rfl 9 1 encStr1_len W (by rw[List.toList_toArray];exact str_flat W) rfl (by omega);rw[←hw3]at S;have HW:=hd0 hW;clear hW hlenW hw3;generalize w2.heap.size=gw at *;have hrdW:Rd 1 encStr1 w3 (some ⟨gw,0,none⟩) W:=S.rd 0 encStr1_len rfl rfl;have HRW:=hd0 hrdW;have HWs:=hd0 hWs;have HWl:=hd0 hWl;clear hrdW hWs hWl;generalize hn:W.length=n at *;have Hn:=hd0 hn;clear hn;have HTe:=hd0 (fun w' (hE:Ext w3 w')=>implTell at_ cap T cr ca cs cg gw n W w' (by rw[Hn.out];have:=HWl.out;omega) HWs.out (HRW.out.ext hE) hl HT.out (hc.ext (S.ext.trans hE)) (hm.ext (S.ext.trans hE)));rw[Hn.out]at HTe;have HCF:Hid (callF T ⟨cr,ca,cs,cg⟩ W=match changeF T ⟨cr,ca,cs,cg⟩ W with|some r=>doneT T r|none=>(T,tellF T ⟨cr,ca,cs,cg⟩ W)):=hd0 rfl;have HF:=hd0 (implChange at_ cap T cr ca cs cg gw n W w3 (by rw[Hn.out];have:=HWl.out;omega) HWs.out HRW.out hl HT.out HNB.out (hc.ext S.ext) (hm.ext S.ext));rw[Hn.out]at HF;generalize changeF T ⟨cr,ca,cs,cg⟩ W=oc at *;generalize tellF T ⟨cr,ca,cs,cg⟩ W=tx at *;obtain⟨⟨b3c0,b3f0⟩,⟨b3c1,b3f1⟩,⟨b3c2,b3f2⟩,⟨b3c3,b3f3⟩,⟨b3c4,b3f4⟩⟩:=bx5 (S.box 2 rfl)
  go_wp2_with fail
  clear b3c0 b3f0 b3c1 b3f1 b3c2 b3f2 b3c3 b3f3 b3c4 b3f4;refine HF.out.mono ?_;rintro e w8 ⟨u8,v8,rfl,S8⟩;have HE38:=hd0 (S8.ext.trans (Ext.refl w8).drew);have S:=S.call S8;clear HF;obtain⟨ua,uc,rfl,_,_⟩:=nd_view (S8.at_ 0 rfl);clear S8;have S:Sep w w8 [plNd (.slice ua (oc.getD ([],1)).1.length uc) v8 (oc.getD ([],1)).1,plRow 9 1 encStr1 (.slice (some ⟨gw,0,none⟩) n n) W,plBox B4 #[.slice none 0 0,.int .i64 0,.int .i64 0,.int .i64 0,.int .i64 0] 31,plBox B3 #[.slice at_ T.length cap,.int .i64 cr,.int .i64 ca,.int .i64 cs,.int .i64 cg] 31]:=S
  cases oc with
  | none =>
   have HQ:Hid (callF T ⟨cr,ca,cs,cg⟩ W=(T,tx)):=hd0 HCF.out;clear HCF;simp only[Option.getD_none,Option.isSome_none]at S ⊢;replace S:Sep w w8 [plRow 9 1 encStr1 (.slice (some ⟨gw,0,none⟩) n n) W,plBox B4 #[.slice none 0 0,.int .i64 0,.int .i64 0,.int .i64 0,.int .i64 0] 31,plBox B3 #[.slice at_ T.length cap,.int .i64 cr,.int .i64 ca,.int .i64 cs,.int .i64 cg] 31]:=S.drop 0
   go_upto_region 6 with fail
   replace S:=S.drew;obtain⟨b3c0,_⟩:=bx (S.box 2 rfl) 0 rfl;obtain⟨b3c1,_⟩:=bx (S.box 2 rfl) 1 rfl;obtain⟨b3c2,_⟩:=bx (S.box 2 rfl) 2 rfl;obtain⟨b3c3,_⟩:=bx (S.box 2 rfl) 3 rfl;obtain⟨b3c4,_⟩:=bx (S.box 2 rfl) 4 rfl;have hcd:RdN (World.drew w8) at_ T:=hc.ext S.ext;have HSd:=hd0 S;clear S;refine wp_region_c (V:=VTe (World.drew w8) B3 at_ cap T cr ca cs cg gw n n tx) (fun wv=>Ext (World.drew w8) wv) (fun i=>if i=2 then some 5 else none) [] 9 0 rfl (by decide) (by kernel_rfl) (by kernel_rfl) (by kernel_rfl) (by kernel_rfl) (Ext.refl _) (fun r hr=>by omega) ?_ ?_
   ·intro i o hi ho vz w4 hvl hE hd hrest
    match vz,hvl with
    | [y0,y1,y2,y3,y4,y5,y6,y7,y8],_ =>
    rcases lc9 hi with rfl|rfl|rfl|rfl|rfl|rfl|rfl|rfl|rfl
    all_goals
     obtain rfl:=Option.some.inj ho
    ·clear hd hrest;simp[putAll,Act.put];go_wp2;exact OneC.mk (VTe.ext) rfl rfl hE (Ext.refl _)
    ·have q0:y0=.pointer (some ⟨B3,0,none⟩):=hd ⟨0,.data⟩ (by simp) rfl (.inl rfl);have c0:=cell_ext hE b3c0;subst q0;clear hd hrest;simp[putAll,Act.put];go_wp2;exact OneC.mk (VTe.ext) rfl rfl hE (Ext.refl _)
    ·have q1:y1=.slice at_ T.length cap:=hd ⟨1,.data⟩ (by simp) rfl (.inl rfl);have HC:=hd0 (implCopy at_ cap T w4 hl HT.out (hcd.ext hE));subst q1;clear hd hrest;simp[putAll,Act.put]
     go_wp2_with fail
     refine HC.out.mono ?_;rintro e w5 ⟨u5,vs5,rfl,S5⟩;have S6:=S5.since hE;have hE5:=S5.ext;clear HC S5;go_wp2;exact OneC.mk (VTe.ext) rfl ⟨_,S6⟩ (hE.trans hE5) hE5
    ·clear hd hrest;simp[putAll,Act.put];go_wp2;exact OneC.mk (VTe.ext) rfl rfl hE (Ext.refl _)
    ·have q3:y3=.pointer (some ⟨B3,1,none⟩):=hd ⟨3,.data⟩ (by simp) rfl (.inl rfl);have c1:=cell_ext hE b3c1;have c2:=cell_ext hE b3c2;have c3:=cell_ext hE b3c3;have c4:=cell_ext hE b3c4;subst q3;clear hd hrest;simp[putAll,Act.put];go_wp2;exact OneC.mk (VTe.ext) rfl rfl hE (Ext.refl _)
    ·obtain⟨vs2,S2⟩:∃vs,Sep (World.drew w8) w4 [plNd y2 vs T]:=hd ⟨2,.data⟩ (by simp) rfl (.inr rfl);have q4:y4=.agg #[.int .i64 cr,.int .i64 ca,.int .i64 cs,.int .i64 cg]:=hd ⟨4,.data⟩ (by simp) rfl (.inl rfl);obtain⟨ua2,uc2,rfl,_,_⟩:=nd_view (S2.at_ 0 rfl);have HS2:=hd0 S2;subst q4;clear hd hrest S2;simp[putAll,Act.put];go_wp2;refine⟨rfl,_,rfl,⟨_,vs2,rfl,HS2.out⟩,hE,fun j u hj hne hcon hnd hnc hv=>hv⟩
    ·have c0:=cell_ext hE b3c0;have c1:=cell_ext hE b3c1;have c2:=cell_ext hE b3c2;have c3:=cell_ext hE b3c3;have c4:=cell_ext hE b3c4;clear hd hrest;simp[putAll,Act.put];go_wp2;exact OneC.mk (VTe.ext) rfl rfl hE (Ext.refl _)
    ·clear hd hrest;simp[putAll,Act.put];go_wp2;exact OneC.mk (VTe.ext) rfl rfl hE (Ext.refl _)
    ·have q6:y6=.agg #[.slice at_ T.length cap,.int .i64 cr,.int .i64 ca,.int .i64 cs,.int .i64 cg]:=hd ⟨6,.data⟩ (by simp) rfl (.inl rfl);have q7:y7=.slice (some ⟨gw,0,none⟩) n n:=hd ⟨7,.data⟩ (by simp) rfl (.inl rfl);have HC:=hd0 (HTe.out w4 (HE38.out.trans hE));subst q6 q7;clear hd hrest;simp[putAll,Act.put]
     go_wp2_with fail
     refine HC.out.mono ?_;rintro e w5 ⟨rfl,hE5⟩;have HE5:=hd0 hE5;clear HC hE5;go_wp2;exact OneC.mk (VTe.ext) rfl rfl (hE.trans HE5.out) HE5.out
   intro vz w9 hvl hE hV _
   match vz,hvl with
   | [y0,y1,y2,y3,y4,y5,y6,y7,y8],_ =>
   obtain⟨u5,vs5,q5,S5⟩:∃u vs,y5=.agg #[u,.int .i64 cr,.int .i64 ca,.int .i64 cs,.int .i64 cg]∧Sep (World.drew w8) w9 [plNd u vs T]:=hV 5 (by omega) rfl;have q8:y8=.string tx:=hV 8 (by omega) rfl;have S:=HSd.out.call S5;obtain⟨ua5,uc5,rfl,_,_⟩:=nd_view (S5.at_ 0 rfl);have S:Sep w w9 [plNd (.slice ua5 T.length uc5) vs5 T,plRow 9 1 encStr1 (.slice (some ⟨gw,0,none⟩) n n) W,plBox B4 #[.slice none 0 0,.int .i64 0,.int .i64 0,.int .i64 0,.int .i64 0] 31,plBox B3 #[.slice at_ T.length cap,.int .i64 cr,.int .i64 ca,.int .i64 cs,.int .i64 cg] 31]:=S;subst q5 q8;clear S5 HSd hcd hE b3c0 b3c1 b3c2 b3c3 b3c4;clear hV hvl;simp only[putAll,Act.put,List.take_succ_cons,List.take_zero,List.drop_succ_cons,List.drop_zero];simp;obtain⟨⟨b4c0,b4f0⟩,⟨b4c1,b4f1⟩,⟨b4c2,b4f2⟩,⟨b4c3,b4f3⟩,⟨b4c4,b4f4⟩⟩:=bx5 (S.box 2 rfl);go_wp2;clear b4c0 b4f0 b4c1 b4f1 b4c2 b4f2 b4c3 b4f3 b4c4 b4f4;replace S:Sep w (((((w9.setCell ⟨B4,0,none⟩ (.slice ua5 T.length uc5)).setCell ⟨B4,1,none⟩ (.int .i64 cr)).setCell ⟨B4,2,none⟩ (.int .i64 ca)).setCell ⟨B4,3,none⟩ (.int .i64 cs)).setCell ⟨B4,4,none⟩ (.int .i64 cg)) [plNd (.slice ua5 T.length uc5) vs5 T,plRow 9 1 encStr1 (.slice (some ⟨gw,0,none⟩) n n) W,plBox B4 #[.slice ua5 T.length uc5,.int .i64 cr,.int .i64 ca,.int .i64 cs,.int .i64 cg] 31,plBox B3 #[.slice at_ T.length cap,.int .i64 cr,.int .i64 ca,.int .i64 cs,.int .i64 cg] 31]:=((((S.set 2 rfl 0 _).set 2 rfl 1 _).set 2 rfl 2 _).set 2 rfl 3 _).set 2 rfl 4 _;generalize (((((w9.setCell ⟨B4,0,none⟩ (.slice ua5 T.length uc5)).setCell ⟨B4,1,none⟩ (.int .i64 cr)).setCell ⟨B4,2,none⟩ (.int .i64 ca)).setCell ⟨B4,3,none⟩ (.int .i64 cs)).setCell ⟨B4,4,none⟩ (.int .i64 cg))=wD at *;obtain⟨⟨b4c0,b4f0⟩,⟨b4c1,b4f1⟩,⟨b4c2,b4f2⟩,⟨b4c3,b4f3⟩,⟨b4c4,b4f4⟩⟩:=bx5 (S.box 2 rfl);refine bodyPost_ret (v:=.tuple #[.agg #[.slice ua5 T.length uc5,.int .i64 cr,.int .i64 ca,.int .i64 cs,.int .i64 cg],.string tx]) (by simp[results,Tryz.results10,go_sem,b4c0,b4c1,b4c2,b4c3,b4c4]) rfl ?_;rw[HX.out.1,HX.out.2,←HW.out,HQ.out];replace S:Sep w wD [plNd (.slice ua5 T.length uc5) vs5 T]:=((S.drop 1).drop 1).drop 1;exact⟨_,vs5,rfl,S⟩
  | some r =>
   have HQ:Hid (callF T ⟨cr,ca,cs,cg⟩ W=doneT T r):=hd0 HCF.out;clear HCF HTe;simp only[Option.getD_some,Option.isSome_some]at S ⊢;obtain⟨R,f⟩:=r;dsimp only at S HQ ⊢
   by_cases hf:f=0
   ·subst hf;replace HQ:Hid (callF T ⟨cr,ca,cs,cg⟩ W=(R,⟨#[110,111,110,101]⟩)):=hd0 (HQ.out.trans rfl)
    go_upto_region 9 with fail
    replace S:=S.drew;obtain⟨b3c0,_⟩:=bx (S.box 3 rfl) 0 rfl;obtain⟨b3c1,_⟩:=bx (S.box 3 rfl) 1 rfl;obtain⟨b3c2,_⟩:=bx (S.box 3 rfl) 2 rfl;obtain⟨b3c3,_⟩:=bx (S.box 3 rfl) 3 rfl;obtain⟨b3c4,_⟩:=bx (S.box 3 rfl) 4 rfl;have HSd:=hd0 S
    repeat clear S
    generalize hRl:R.length=uc0 at *;refine wp_region_c (V:=VNo B3 (.slice ua uc0 uc) cr ca cs cg) (fun wv=>Ext (World.drew w8) wv) (fun _=>none) [] 5 0 rfl (by decide) (by kernel_rfl) (by kernel_rfl) (by kernel_rfl) (by kernel_rfl) (Ext.refl _) (fun r hr=>by omega) ?_ ?_
    ·intro i o hi ho vz w4 hvl hE hd hrest
     match vz,hvl with
     | [y0,y1,y2,y3,y4],_ =>
     rcases lc5 hi with rfl|rfl|rfl|rfl|rfl
     all_goals
      obtain rfl:=Option.some.inj ho
     ·clear hd hrest;simp[putAll,Act.put];go_wp2;exact OneC.mk (VNo.ext) rfl rfl hE (Ext.refl _)
     ·clear hd hrest;simp[putAll,Act.put];go_wp2;exact OneC.mk (VNo.ext) rfl rfl hE (Ext.refl _)
     ·have q1:y1=.pointer (some ⟨B3,1,none⟩):=hd ⟨1,.data⟩ (by simp) rfl (.inl rfl);have c1:=cell_ext hE b3c1;have c2:=cell_ext hE b3c2;have c3:=cell_ext hE b3c3;have c4:=cell_ext hE b3c4;subst q1;clear hd hrest;simp[putAll,Act.put];go_wp2;exact OneC.mk (VNo.ext) rfl rfl hE (Ext.refl _)
     ·have q0:y0=.slice ua uc0 uc:=hd ⟨0,.data⟩ (by simp) rfl (.inl rfl);have q2:y2=.agg #[.int .i64 cr,.int .i64 ca,.int .i64 cs,.int .i64 cg]:=hd ⟨2,.data⟩ (by simp) rfl (.inl rfl);subst q0 q2;clear hd hrest;simp[putAll,Act.put];go_wp2;exact OneC.mk (VNo.ext) rfl rfl hE (Ext.refl _)
     ·have HC:=hd0 (implFaultText 0 w4);clear hd hrest;simp[putAll,Act.put]
      go_wp2_with fail
      refine HC.out.mono ?_;rintro e w5 ⟨rfl,hE5⟩;have HE5:=hd0 hE5;clear HC hE5;go_wp2;exact OneC.mk (VNo.ext) rfl rfl (hE.trans HE5.out) HE5.out
    intro vz w9 hvl hE hV _
    match vz,hvl with
    | [y0,y1,y2,y3,y4],_ =>
    have q3:y3=.agg #[.slice ua uc0 uc,.int .i64 cr,.int .i64 ca,.int .i64 cs,.int .i64 cg]:=hV 3 (by omega) rfl;have q4:y4=.string ⟨#[110,111,110,101]⟩:=hV 4 (by omega) rfl;subst q3 q4;have S:=HSd.out.step hE;subst hRl;clear HSd hE b3c0 b3c1 b3c2 b3c3 b3c4;clear hV hvl;simp only[putAll,Act.put,List.take_succ_cons,List.take_zero,List.drop_succ_cons,List.drop_zero];simp;obtain⟨⟨b4c0,b4f0⟩,⟨b4c1,b4f1⟩,⟨b4c2,b4f2⟩,⟨b4c3,b4f3⟩,⟨b4c4,b4f4⟩⟩:=bx5 (S.box 2 rfl);go_wp2;clear b4c0 b4f0 b4c1 b4f1 b4c2 b4f2 b4c3 b4f3 b4c4 b4f4;replace S:Sep w (((((w9.setCell ⟨B4,0,none⟩ (.slice ua R.length uc)).setCell ⟨B4,1,none⟩ (.int .i64 cr)).setCell ⟨B4,2,none⟩ (.int .i64 ca)).setCell ⟨B4,3,none⟩ (.int .i64 cs)).setCell ⟨B4,4,none⟩ (.int .i64 cg)) [plNd (.slice ua R.length uc) v8 R,plRow 9 1 encStr1 (.slice (some ⟨gw,0,none⟩) n n) W,plBox B4 #[.slice ua R.length uc,.int .i64 cr,.int .i64 ca,.int .i64 cs,.int .i64 cg] 31,plBox B3 #[.slice at_ T.length cap,.int .i64 cr,.int .i64 ca,.int .i64 cs,.int .i64 cg] 31]:=((((S.set 2 rfl 0 _).set 2 rfl 1 _).set 2 rfl 2 _).set 2 rfl 3 _).set 2 rfl 4 _;generalize (((((w9.setCell ⟨B4,0,none⟩ (.slice ua R.length uc)).setCell ⟨B4,1,none⟩ (.int .i64 cr)).setCell ⟨B4,2,none⟩ (.int .i64 ca)).setCell ⟨B4,3,none⟩ (.int .i64 cs)).setCell ⟨B4,4,none⟩ (.int .i64 cg))=wD at *;obtain⟨⟨b4c0,b4f0⟩,⟨b4c1,b4f1⟩,⟨b4c2,b4f2⟩,⟨b4c3,b4f3⟩,⟨b4c4,b4f4⟩⟩:=bx5 (S.box 2 rfl);refine bodyPost_ret (v:=.tuple #[.agg #[.slice ua R.length uc,.int .i64 cr,.int .i64 ca,.int .i64 cs,.int .i64 cg],.string ⟨#[110,111,110,101]⟩]) (by simp[results,Tryz.results10,go_sem,b4c0,b4c1,b4c2,b4c3,b4c4]) rfl ?_;rw[HX.out.1,HX.out.2,←HW.out,HQ.out];replace S:Sep w wD [plNd (.slice ua R.length uc) v8 R]:=((S.drop 1).drop 1).drop 1;exact⟨_,v8,rfl,S⟩
   ·replace HQ:Hid (callF T ⟨cr,ca,cs,cg⟩ W=(T,faultText f)):=hd0 (HQ.out.trans (by unfold doneT;rw[if_neg hf]))
    have tf:(f != 0)=true:=by simpa using hf
    clear hf;replace S:Sep w w8 [plRow 9 1 encStr1 (.slice (some ⟨gw,0,none⟩) n n) W,plBox B4 #[.slice none 0 0,.int .i64 0,.int .i64 0,.int .i64 0,.int .i64 0] 31,plBox B3 #[.slice at_ T.length cap,.int .i64 cr,.int .i64 ca,.int .i64 cs,.int .i64 cg] 31]:=S.drop 0
    go_upto_region 8 with fail
    replace S:=S.drew;obtain⟨b3c0,_⟩:=bx (S.box 2 rfl) 0 rfl;obtain⟨b3c1,_⟩:=bx (S.box 2 rfl) 1 rfl;obtain⟨b3c2,_⟩:=bx (S.box 2 rfl) 2 rfl;obtain⟨b3c3,_⟩:=bx (S.box 2 rfl) 3 rfl;obtain⟨b3c4,_⟩:=bx (S.box 2 rfl) 4 rfl;have hcd:RdN (World.drew w8) at_ T:=hc.ext S.ext;have HSd:=hd0 S;clear S;refine wp_region_c (V:=VDn (World.drew w8) B3 at_ cap T cr ca cs cg f) (fun wv=>Ext (World.drew w8) wv) (fun i=>if i=2 then some 5 else none) [] 8 0 rfl (by decide) (by kernel_rfl) (by kernel_rfl) (by kernel_rfl) (by kernel_rfl) (Ext.refl _) (fun r hr=>by omega) ?_ ?_
    ·intro i o hi ho vz w4 hvl hE hd hrest
     match vz,hvl with
     | [y0,y1,y2,y3,y4,y5,y6,y7],_ =>
     rcases lc8 hi with rfl|rfl|rfl|rfl|rfl|rfl|rfl|rfl
     all_goals
      obtain rfl:=Option.some.inj ho
     ·clear hd hrest;simp[putAll,Act.put];go_wp2;exact OneC.mk (VDn.ext) rfl rfl hE (Ext.refl _)
     ·have q0:y0=.pointer (some ⟨B3,0,none⟩):=hd ⟨0,.data⟩ (by simp) rfl (.inl rfl);have c0:=cell_ext hE b3c0;subst q0;clear hd hrest;simp[putAll,Act.put];go_wp2;exact OneC.mk (VDn.ext) rfl rfl hE (Ext.refl _)
     ·have q1:y1=.slice at_ T.length cap:=hd ⟨1,.data⟩ (by simp) rfl (.inl rfl);have HC:=hd0 (implCopy at_ cap T w4 hl HT.out (hcd.ext hE));subst q1;clear hd hrest;simp[putAll,Act.put]
      go_wp2_with fail
      refine HC.out.mono ?_;rintro e w5 ⟨u5,vs5,rfl,S5⟩;have S6:=S5.since hE;have hE5:=S5.ext;clear HC S5;go_wp2;exact OneC.mk (VDn.ext) rfl ⟨_,S6⟩ (hE.trans hE5) hE5
     ·clear hd hrest;simp[putAll,Act.put];go_wp2;exact OneC.mk (VDn.ext) rfl rfl hE (Ext.refl _)
     ·have q3:y3=.pointer (some ⟨B3,1,none⟩):=hd ⟨3,.data⟩ (by simp) rfl (.inl rfl);have c1:=cell_ext hE b3c1;have c2:=cell_ext hE b3c2;have c3:=cell_ext hE b3c3;have c4:=cell_ext hE b3c4;subst q3;clear hd hrest;simp[putAll,Act.put];go_wp2;exact OneC.mk (VDn.ext) rfl rfl hE (Ext.refl _)
     ·obtain⟨vs2,S2⟩:∃vs,Sep (World.drew w8) w4 [plNd y2 vs T]:=hd ⟨2,.data⟩ (by simp) rfl (.inr rfl);have q4:y4=.agg #[.int .i64 cr,.int .i64 ca,.int .i64 cs,.int .i64 cg]:=hd ⟨4,.data⟩ (by simp) rfl (.inl rfl);obtain⟨ua2,uc2,rfl,_,_⟩:=nd_view (S2.at_ 0 rfl);have HS2:=hd0 S2;subst q4;clear hd hrest S2;simp[putAll,Act.put];go_wp2;refine⟨rfl,_,rfl,⟨_,vs2,rfl,HS2.out⟩,hE,fun j u hj hne hcon hnd hnc hv=>hv⟩
     ·clear hd hrest;simp[putAll,Act.put];go_wp2;exact OneC.mk (VDn.ext) rfl rfl hE (Ext.refl _)
     ·have q6:y6=.int .i64 f:=hd ⟨6,.data⟩ (by simp) rfl (.inl rfl);have HC:=hd0 (implFaultText f w4);subst q6;clear hd hrest;simp[putAll,Act.put]
      go_wp2_with fail
      refine HC.out.mono ?_;rintro e w5 ⟨rfl,hE5⟩;have HE5:=hd0 hE5;clear HC hE5;go_wp2;exact OneC.mk (VDn.ext) rfl rfl (hE.trans HE5.out) HE5.out
    intro vz w9 hvl hE hV _
    match vz,hvl with
    | [y0,y1,y2,y3,y4,y5,y6,y7],_ =>
    obtain⟨u5,vs5,q5,S5⟩:∃u vs,y5=.agg #[u,.int .i64 cr,.int .i64 ca,.int .i64 cs,.int .i64 cg]∧Sep (World.drew w8) w9 [plNd u vs T]:=hV 5 (by omega) rfl;have q7:y7=.string (faultText f):=hV 7 (by omega) rfl;have S:=HSd.out.call S5;obtain⟨ua5,uc5,rfl,_,_⟩:=nd_view (S5.at_ 0 rfl);have S:Sep w w9 [plNd (.slice ua5 T.length uc5) vs5 T,plRow 9 1 encStr1 (.slice (some ⟨gw,0,none⟩) n n) W,plBox B4 #[.slice none 0 0,.int .i64 0,.int .i64 0,.int .i64 0,.int .i64 0] 31,plBox B3 #[.slice at_ T.length cap,.int .i64 cr,.int .i64 ca,.int .i64 cs,.int .i64 cg] 31]:=S;subst q5 q7;clear S5 HSd hcd hE b3c0 b3c1 b3c2 b3c3 b3c4;clear hV hvl;simp only[putAll,Act.put,List.take_succ_cons,List.take_zero,List.drop_succ_cons,List.drop_zero];simp;generalize faultText f=tx at *;obtain⟨⟨b4c0,b4f0⟩,⟨b4c1,b4f1⟩,⟨b4c2,b4f2⟩,⟨b4c3,b4f3⟩,⟨b4c4,b4f4⟩⟩:=bx5 (S.box 2 rfl);go_wp2;clear b4c0 b4f0 b4c1 b4f1 b4c2 b4f2 b4c3 b4f3 b4c4 b4f4;replace S:Sep w (((((w9.setCell ⟨B4,0,none⟩ (.slice ua5 T.length uc5)).setCell ⟨B4,1,none⟩ (.int .i64 cr)).setCell ⟨B4,2,none⟩ (.int .i64 ca)).setCell ⟨B4,3,none⟩ (.int .i64 cs)).setCell ⟨B4,4,none⟩ (.int .i64 cg)) [plNd (.slice ua5 T.length uc5) vs5 T,plRow 9 1 encStr1 (.slice (some ⟨gw,0,none⟩) n n) W,plBox B4 #[.slice ua5 T.length uc5,.int .i64 cr,.int .i64 ca,.int .i64 cs,.int .i64 cg] 31,plBox B3 #[.slice at_ T.length cap,.int .i64 cr,.int .i64 ca,.int .i64 cs,.int .i64 cg] 31]:=((((S.set 2 rfl 0 _).set 2 rfl 1 _).set 2 rfl 2 _).set 2 rfl 3 _).set 2 rfl 4 _;generalize (((((w9.setCell ⟨B4,0,none⟩ (.slice ua5 T.length uc5)).setCell ⟨B4,1,none⟩ (.int .i64 cr)).setCell ⟨B4,2,none⟩ (.int .i64 ca)).setCell ⟨B4,3,none⟩ (.int .i64 cs)).setCell ⟨B4,4,none⟩ (.int .i64 cg))=wD at *;obtain⟨⟨b4c0,b4f0⟩,⟨b4c1,b4f1⟩,⟨b4c2,b4f2⟩,⟨b4c3,b4f3⟩,⟨b4c4,b4f4⟩⟩:=bx5 (S.box 2 rfl);refine bodyPost_ret (v:=.tuple #[.agg #[.slice ua5 T.length uc5,.int .i64 cr,.int .i64 ca,.int .i64 cs,.int .i64 cg],.string tx]) (by simp[results,Tryz.results10,go_sem,b4c0,b4c1,b4c2,b4c3,b4c4]) rfl ?_;rw[HX.out.1,HX.out.2,←HW.out,HQ.out];replace S:Sep w wD [plNd (.slice ua5 T.length uc5) vs5 T]:=((S.drop 1).drop 1).drop 1;exact⟨_,vs5,rfl,S⟩
def VCi (wR:World) (B3:Nat) (at_:Option Addr) (cap:Nat) (T:List Nd) (cr ca cs cg:Int):Nat→Value→List Value→World→Prop:=fun i v us wv=>match i with
 | 0=>v=.pointer (some ⟨B3,0,none⟩)
 | 1=>v=.slice at_ T.length cap
 | 2=>∃vs,Sep wR wv [plNd v vs T]
 | 3=>v=.pointer (some ⟨B3,1,none⟩)
 | 4=>v=.agg #[.int .i64 cr,.int .i64 ca,.int .i64 cs,.int .i64 cg]
 | 5=>∃u vs,v=.agg #[u,.int .i64 cr,.int .i64 ca,.int .i64 cs,.int .i64 cg]∧Sep wR wv [plNd u vs T]
 | 6=>∃a,v=.slice a 0 0
 | 7=>∃B,v=.pointer (some ⟨B,0,none⟩)∧wR.heap.size≤B∧wv.heap[B]?=some (.cells #[.slice none 0 0,.int .i64 0,.int .i64 0,.int .i64 0,.int .i64 0] 31)
 | 8=>∃B u vs,us=[.pointer (some ⟨B,0,none⟩)]∧Sep wR wv [plBox B #[u,.int .i64 cr,.int .i64 ca,.int .i64 cs,.int .i64 cg] 31,plNd u vs T]
 | _=>True
theorem VCi.ext {wR:World} {B3:Nat} {at_:Option Addr} {cap:Nat} {T:List Nd} {cr ca cs cg:Int} (i:Nat) (v:Value) (us:List Value) (w1 w2:World) (h:VCi wR B3 at_ cap T cr ca cs cg i v us w1) (hE:Ext w1 w2):VCi wR B3 at_ cap T cr ca cs cg i v us w2:=by
 match i with
 | 0|1|3|4|6=>exact h
 | 2=>obtain⟨vs,h1⟩:=h;exact⟨vs,h1.step hE⟩
 | 5=>obtain⟨u,vs,h0,h1⟩:=h;exact⟨u,vs,h0,h1.step hE⟩
 | 7=>obtain⟨B,h0,h1,h2⟩:=h;exact⟨B,h0,h1,heapx hE h2⟩
 | 8=>obtain⟨B,u,vs,h0,h1⟩:=h;exact⟨B,u,vs,h0,h1.step hE⟩
 | (n+9)=>trivial
def VAp (w:World) (kv sl:Value) (tx:ByteArray) (A:List ByteArray) (H0:List Pl) (H1:Value→List Pl):Nat→Value→World→Prop:=fun i v wv=>match i with
 | 0=>v=kv
 | 1=>v=sl
 | 2=>v=.string tx
 | 3=>∃g,v=.slice (some ⟨g,0,none⟩) 1 1∧Rd 1 encStr1 wv (some ⟨g,0,none⟩) [tx]
 | 4=>Sep w wv (H1 v)
 | 5=>Sep w wv H0
 | _=>True
theorem VAp.ext {w:World} {kv sl:Value} {tx:ByteArray} {A:List ByteArray} {H0:List Pl} {H1:Value→List Pl} (i:Nat) (v:Value) (w1 w2:World) (h:VAp w kv sl tx A H0 H1 i v w1) (hE:Ext w1 w2):VAp w kv sl tx A H0 H1 i v w2:=by
 match i with
 | 0|1|2=>exact h
 | 3=>obtain⟨g,h0,h1⟩:=h;exact⟨g,h0,h1.ext hE⟩
 | 4=>exact SepM.step (show Sep w w1 _ from h) hE
 | 5=>exact SepM.step (show Sep w w1 _ from h) hE
 | (n+6)=>trivial
theorem implCallLines (at_:Option Addr) (cap:Nat) (T:List Nd) (cr ca cs cg:Int) (al:Option Addr) (capl:Nat) (L:List ByteArray) (w:World) (hl:T.length≤1048576) (hT:∀x∈T,SmN 1048576 x) (hNB:TreeOk T→NB 600000 T) (hc:RdN w at_ T) (hlL:L.length≤1048576) (hsL:∀x∈L,x.size≤1048576) (hrl:Rd 1 encStr1 w al L) (hm:MaxG w) :
  Calls Tryz.prog 15 #[.agg #[.slice at_ T.length cap,.int .i64 cr,.int .i64 ca,.int .i64 cs,.int .i64 cg],.slice al L.length capl] w (RetKs (callLines T ⟨cr,ca,cs,cg⟩ L) (linesCr T ⟨cr,ca,cs,cg⟩ L) w):=by
 have HT:=hd0 hT;have HNB:=hd0 hNB;have HSL:=hd0 hsL;clear hT hNB hsL
 go_enter Tryz.func15,Tryz.ntmps15
 have S:=Sep.start w;replace S:=S.alloc_at (n:=w.heap.size) (by simp) #[.slice at_ T.length cap,.int .i64 cr,.int .i64 ca,.int .i64 cs,.int .i64 cg] 31;replace S:=S.alloc_at (n:=(w.heap.size+1)) (by simp) #[.slice none 0 0,.int .i64 0,.int .i64 0,.int .i64 0,.int .i64 0] 31
 go_upto_region 1 with fail
 generalize ((w.alloc (.cells #[.slice at_ T.length cap,.int .i64 cr,.int .i64 ca,.int .i64 cs,.int .i64 cg] 31)).alloc (.cells #[.slice none 0 0,.int .i64 0,.int .i64 0,.int .i64 0,.int .i64 0] 31))=w1 at *;generalize w.heap.size+1=B4 at *;generalize w.heap.size=B3 at *;obtain⟨⟨b3c0,b3f0⟩,⟨b3c1,b3f1⟩,⟨b3c2,b3f2⟩,⟨b3c3,b3f3⟩,⟨b3c4,b3f4⟩⟩:=bx5 (S.box 1 rfl)
 go_wp2_with fail
 clear b3c0 b3f0 b3c1 b3f1 b3c2 b3f2 b3c3 b3f3 b3c4 b3f4;refine(implKernelValid at_ cap T cr ca cs cg w1 hl HT.out (hc.ext S.ext)).mono ?_;rintro e w2 ⟨v,rfl,hv,hE⟩;have Hv:=hd0 hv;clear hv;replace S:=S.step hE;clear hE
 cases v with
 | false =>
  have hno:¬(TreeOk T∧Cr.ok ⟨cr,ca,cs,cg⟩∧L.length≤30):=fun h=>Bool.noConfusion (Hv.out.2 ⟨h.1,h.2.1⟩)
  have HX:Hid (callLines T ⟨cr,ca,cs,cg⟩ L=([],[])∧linesCr T ⟨cr,ca,cs,cg⟩ L=⟨0,0,0,0⟩):=hd0 ⟨by unfold callLines;rw[if_neg hno],by unfold linesCr;rw[if_neg hno]⟩;clear hno;obtain⟨⟨b4c0,b4f0⟩,⟨b4c1,b4f1⟩,⟨b4c2,b4f2⟩,⟨b4c3,b4f3⟩,⟨b4c4,b4f4⟩⟩:=bx5 (S.box 0 rfl);go_wp2;clear b4c0 b4f0 b4c1 b4f1 b4c2 b4f2 b4c3 b4f3 b4c4 b4f4;replace S:Sep w (((((w2.setCell ⟨B4,0,none⟩ (.slice none 0 0)).setCell ⟨B4,1,none⟩ (.int .i64 0)).setCell ⟨B4,2,none⟩ (.int .i64 0)).setCell ⟨B4,3,none⟩ (.int .i64 0)).setCell ⟨B4,4,none⟩ (.int .i64 0)) [plBox B4 #[.slice none 0 0,.int .i64 0,.int .i64 0,.int .i64 0,.int .i64 0] 31,plBox B3 #[.slice at_ T.length cap,.int .i64 cr,.int .i64 ca,.int .i64 cs,.int .i64 cg] 31]:=((((S.set 0 rfl 0 _).set 0 rfl 1 _).set 0 rfl 2 _).set 0 rfl 3 _).set 0 rfl 4 _;generalize (((((w2.setCell ⟨B4,0,none⟩ (.slice none 0 0)).setCell ⟨B4,1,none⟩ (.int .i64 0)).setCell ⟨B4,2,none⟩ (.int .i64 0)).setCell ⟨B4,3,none⟩ (.int .i64 0)).setCell ⟨B4,4,none⟩ (.int .i64 0))=wD at *;obtain⟨⟨b4c0,b4f0⟩,⟨b4c1,b4f1⟩,⟨b4c2,b4f2⟩,⟨b4c3,b4f3⟩,⟨b4c4,b4f4⟩⟩:=bx5 (S.box 0 rfl);refine bodyPost_ret (v:=.tuple #[.agg #[.slice none 0 0,.int .i64 0,.int .i64 0,.int .i64 0,.int .i64 0],.slice none 0 0]) (by simp[results,Tryz.results15,go_sem,b4c0,b4c1,b4c2,b4c3,b4c4]) rfl ?_;rw[HX.out.1,HX.out.2];replace S:Sep w wD []:=(S.drop 0).drop 0;exact⟨_,[],_,rfl,nil_tree2 (S.nilOut none)⟩
 | true =>
  have hyes:TreeOk T∧Cr.ok ⟨cr,ca,cs,cg⟩:=Hv.out.1 rfl;clear Hv
  by_cases hlen:30 < L.length
  ·have hno:¬(TreeOk T∧Cr.ok ⟨cr,ca,cs,cg⟩∧L.length≤30):=fun h=>by omega
   have HX:Hid (callLines T ⟨cr,ca,cs,cg⟩ L=([],[])∧linesCr T ⟨cr,ca,cs,cg⟩ L=⟨0,0,0,0⟩):=hd0 ⟨by unfold callLines;rw[if_neg hno],by unfold linesCr;rw[if_neg hno]⟩
   have hgt:(30:Int) < (L.length:Int):=by omega
   clear hno hlen hyes;obtain⟨⟨b4c0,b4f0⟩,⟨b4c1,b4f1⟩,⟨b4c2,b4f2⟩,⟨b4c3,b4f3⟩,⟨b4c4,b4f4⟩⟩:=bx5 (S.box 0 rfl);go_wp2;clear b4c0 b4f0 b4c1 b4f1 b4c2 b4f2 b4c3 b4f3 b4c4 b4f4;replace S:Sep w (((((w2.setCell ⟨B4,0,none⟩ (.slice none 0 0)).setCell ⟨B4,1,none⟩ (.int .i64 0)).setCell ⟨B4,2,none⟩ (.int .i64 0)).setCell ⟨B4,3,none⟩ (.int .i64 0)).setCell ⟨B4,4,none⟩ (.int .i64 0)) [plBox B4 #[.slice none 0 0,.int .i64 0,.int .i64 0,.int .i64 0,.int .i64 0] 31,plBox B3 #[.slice at_ T.length cap,.int .i64 cr,.int .i64 ca,.int .i64 cs,.int .i64 cg] 31]:=((((S.set 0 rfl 0 _).set 0 rfl 1 _).set 0 rfl 2 _).set 0 rfl 3 _).set 0 rfl 4 _;generalize (((((w2.setCell ⟨B4,0,none⟩ (.slice none 0 0)).setCell ⟨B4,1,none⟩ (.int .i64 0)).setCell ⟨B4,2,none⟩ (.int .i64 0)).setCell ⟨B4,3,none⟩ (.int .i64 0)).setCell ⟨B4,4,none⟩ (.int .i64 0))=wD at *;obtain⟨⟨b4c0,b4f0⟩,⟨b4c1,b4f1⟩,⟨b4c2,b4f2⟩,⟨b4c3,b4f3⟩,⟨b4c4,b4f4⟩⟩:=bx5 (S.box 0 rfl);refine bodyPost_ret (v:=.tuple #[.agg #[.slice none 0 0,.int .i64 0,.int .i64 0,.int .i64 0,.int .i64 0],.slice none 0 0]) (by simp[results,Tryz.results15,go_sem,b4c0,b4c1,b4c2,b4c3,b4c4]) rfl ?_;rw[HX.out.1,HX.out.2];replace S:Sep w wD []:=(S.drop 0).drop 0;exact⟨_,[],_,rfl,nil_tree2 (S.nilOut none)⟩
  have hall:TreeOk T∧Cr.ok ⟨cr,ca,cs,cg⟩∧L.length≤30:=⟨hyes.1,hyes.2,by omega⟩;have HX:Hid (callLines T ⟨cr,ca,cs,cg⟩ L=runL ⟨cr,ca,cs,cg⟩ (T,[]) L∧linesCr T ⟨cr,ca,cs,cg⟩ L=⟨cr,ca,cs,cg⟩):=hd0 ⟨by unfold callLines;rw[if_pos hall],by unfold linesCr;rw[if_pos hall]⟩
  have hgt:¬(30:Int) < (L.length:Int):=by omega
  have hl30:L.length≤30:=by omega
  have HOK:Hid (∀k,k≤L.length→TreeOk (runL ⟨cr,ca,cs,cg⟩ (T,[]) (L.take k)).1∧NB 1000000 (runL ⟨cr,ca,cs,cg⟩ (T,[]) (L.take k)).1∧(runL ⟨cr,ca,cs,cg⟩ (T,[]) (L.take k)).2.length≤30):=hd0 (fun k hk=>by
   have h:=runL_ok ⟨cr,ca,cs,cg⟩ (L.take k) (T,[]) 600000 hyes.1 (HNB.out hyes.1);rw[List.length_take]at h
   exact⟨h.1,nb_more h.2.1 (by omega),by rw[h.2.2];simp only[List.length_nil];omega⟩)
  have HC:=hd0 hyes.2;clear hall hyes hlen HNB
  go_upto_region 3 with fail
  replace S:=S.drew;obtain⟨b3c0,_⟩:=bx (S.box 1 rfl) 0 rfl;obtain⟨b3c1,_⟩:=bx (S.box 1 rfl) 1 rfl;obtain⟨b3c2,_⟩:=bx (S.box 1 rfl) 2 rfl;obtain⟨b3c3,_⟩:=bx (S.box 1 rfl) 3 rfl;obtain⟨b3c4,_⟩:=bx (S.box 1 rfl) 4 rfl;have hcd:RdN (World.drew w2) at_ T:=hc.ext S.ext;have HSd:=hd0 S
  repeat clear S
  refine wp_region_d (V:=VCi (World.drew w2) B3 at_ cap T cr ca cs cg) (fun i=>if i=8 then[7]else[]) (fun _ wv=>Ext (World.drew w2) wv) (fun i=>if i=7 then some 8 else none) [] 9 0 rfl (by decide) (by kernel_rfl) (by kernel_rfl) (by kernel_rfl) (by kernel_rfl) (by kernel_rfl) (Ext.refl _) (fun r hr=>by omega) ?_ ?_
  ·intro i o hi ho kk hkk vz w4 hvl hE hd hrest
   match vz,hvl with
   | [y0,y1,y2,y3,y4,y5,y6,y7,y8],_ =>
   rcases lc9 hi with rfl|rfl|rfl|rfl|rfl|rfl|rfl|rfl|rfl
   all_goals
    obtain rfl:=Option.some.inj ho
   ·clear hd hrest;simp[putAll,Act.put];go_wp2;exact OneD.mk (VCi.ext) rfl rfl hE (Ext.refl _)
   ·have q0:y0=.pointer (some ⟨B3,0,none⟩):=hd ⟨0,.data⟩ (by simp) rfl (.inl rfl);have c0:=cell_ext hE b3c0;subst q0;clear hd hrest;simp[putAll,Act.put];go_wp2;exact OneD.mk (VCi.ext) rfl rfl hE (Ext.refl _)
   ·have q1:y1=.slice at_ T.length cap:=hd ⟨1,.data⟩ (by simp) rfl (.inl rfl);have HC9:=hd0 (implCopy at_ cap T w4 hl HT.out (hcd.ext hE));subst q1;clear hd hrest;simp[putAll,Act.put]
    go_wp2_with fail
    refine HC9.out.mono ?_;rintro e w5 ⟨u5,vs5,rfl,S5⟩;have S6:=S5.since hE;have hE5:=S5.ext;clear HC9 S5;go_wp2;exact OneD.mk (VCi.ext) rfl ⟨_,S6⟩ (hE.trans hE5) hE5
   ·clear hd hrest;simp[putAll,Act.put];go_wp2;exact OneD.mk (VCi.ext) rfl rfl hE (Ext.refl _)
   ·have q3:y3=.pointer (some ⟨B3,1,none⟩):=hd ⟨3,.data⟩ (by simp) rfl (.inl rfl);have c1:=cell_ext hE b3c1;have c2:=cell_ext hE b3c2;have c3:=cell_ext hE b3c3;have c4:=cell_ext hE b3c4;subst q3;clear hd hrest;simp[putAll,Act.put];go_wp2;exact OneD.mk (VCi.ext) rfl rfl hE (Ext.refl _)
   ·obtain⟨vs2,S2⟩:∃vs,Sep (World.drew w2) w4 [plNd y2 vs T]:=hd ⟨2,.data⟩ (by simp) rfl (.inl rfl);have q4:y4=.agg #[.int .i64 cr,.int .i64 ca,.int .i64 cs,.int .i64 cg]:=hd ⟨4,.data⟩ (by simp) rfl (.inl rfl);obtain⟨ua2,uc2,rfl,_,_⟩:=nd_view (S2.at_ 0 rfl);have HS2:=hd0 S2;subst q4;clear hd hrest S2;simp[putAll,Act.put];go_wp2;exact OneD.mk (VCi.ext) rfl ⟨_,vs2,rfl,HS2.out⟩ hE (Ext.refl _)
   ·clear hd hrest;simp[putAll,Act.put];go_wp2;exact OneD.mk (VCi.ext) rfl ⟨_,rfl⟩ (hE.alloc _) ((Ext.refl _).alloc _)
   ·clear hd hrest;have hsz:=hE.size;simp[putAll,Act.put];go_wp2;exact OneD.mk (VCi.ext) rfl ⟨_,rfl,hsz,heap_alloc_new w4 _⟩ (hE.alloc _) ((Ext.refl _).alloc _)
   ·obtain⟨B9,q7,hB9,hb9⟩:∃B,y7=.pointer (some ⟨B,0,none⟩)∧(World.drew w2).heap.size≤B∧w4.heap[B]?=some (.cells #[.slice none 0 0,.int .i64 0,.int .i64 0,.int .i64 0,.int .i64 0] 31):=hd ⟨7,.data⟩ (by simp) rfl (.inr rfl);obtain⟨u7,v7,q5,S7⟩:∃u vs,y5=.agg #[u,.int .i64 cr,.int .i64 ca,.int .i64 cs,.int .i64 cg]∧Sep (World.drew w2) w4 [plNd u vs T]:=hd ⟨5,.data⟩ (by simp) rfl (.inl rfl);obtain⟨au,cu,rfl,_,_⟩:=nd_view (S7.at_ 0 rfl);obtain⟨d0,f0⟩:=bx hb9 0 rfl;obtain⟨d1,f1⟩:=bx hb9 1 rfl;obtain⟨d2,f2⟩:=bx hb9 2 rfl;obtain⟨d3,f3⟩:=bx hb9 3 rfl;obtain⟨d4,f4⟩:=bx hb9 4 rfl;have HS7:=hd0 S7;have HB:=hd0 hb9;subst q7 q5;clear hd hrest S7 hb9;simp at d0 d1 d2 d3 d4;simp[putAll,Act.put];go_wp2;have hb9:=HB.out;have S9:=store5 HS7.out hb9 rfl hB9 (.slice au T.length cu) (.int .i64 cr) (.int .i64 ca) (.int .i64 cs) (.int .i64 cg);refine⟨rfl,undef,rfl,⟨B9,_,v7,rfl,S9⟩,S9.ext,fun j u us hj hne hcon hnd hnc hv=>?_⟩
    match j,hv with
    | 0,hv=>exact hv
    | 1,hv=>exact hv
    | 2,hv=>obtain⟨v5,h1⟩:=hv;exact⟨v5,(store5 h1 hb9 rfl hB9 (.slice au T.length cu) (.int .i64 cr) (.int .i64 ca) (.int .i64 cs) (.int .i64 cg)).drop 0⟩
    | 3,hv=>exact hv
    | 4,hv=>exact hv
    | 5,hv=>obtain⟨u5,v5,h0,h1⟩:=hv;exact⟨u5,v5,h0,(store5 h1 hb9 rfl hB9 (.slice au T.length cu) (.int .i64 cr) (.int .i64 ca) (.int .i64 cs) (.int .i64 cg)).drop 0⟩
    | 6,hv=>exact hv
    | 7,hv=>exact absurd rfl hcon
    | 8,hv=>exact absurd rfl hne
    | (q+9),_=>trivial
  intro vz wE hvl hE hV _
  match vz,hvl with
  | [y0,y1,y2,y3,y4,y5,y6,y7,y8],_ =>
  obtain⟨ao0,q6⟩:∃a,y6=.slice a 0 0:=hV 6 (by omega) rfl;obtain⟨B6,u5,vs5,q8,S5⟩:∃B u vs,[y7]=[.pointer (some ⟨B,0,none⟩)]∧Sep (World.drew w2) wE [plBox B #[u,.int .i64 cr,.int .i64 ca,.int .i64 cs,.int .i64 cg] 31,plNd u vs T]:=hV 8 (by omega) rfl
  obtain rfl:y7=.pointer (some ⟨B6,0,none⟩):=by simpa using q8
  obtain⟨ua5,uc5,rfl,_,_⟩:=nd_view (S5.at_ 1 rfl);have S:=(HSd.out.call S5).nilOut ao0;have S:Sep w wE [plOut (.slice ao0 0 0) [],plBox B6 #[.slice ua5 T.length uc5,.int .i64 cr,.int .i64 ca,.int .i64 cs,.int .i64 cg] 31,plNd (.slice ua5 T.length uc5) vs5 T,plBox B4 #[.slice none 0 0,.int .i64 0,.int .i64 0,.int .i64 0,.int .i64 0] 31,plBox B3 #[.slice at_ T.length cap,.int .i64 cr,.int .i64 ca,.int .i64 cs,.int .i64 cg] 31]:=S;subst q6;clear hV hE S5 HSd hcd b3c0 b3c1 b3c2 b3c3 b3c4 q8;have S:Sep w wE [plNd (.slice ua5 T.length uc5) vs5 T,plBox B6 #[.slice ua5 T.length uc5,.int .i64 cr,.int .i64 ca,.int .i64 cs,.int .i64 cg] 31,plOut (.slice ao0 0 0) [],plBox B4 #[.slice none 0 0,.int .i64 0,.int .i64 0,.int .i64 0,.int .i64 0] 31]:=(S.drop 4).perm (((List.Perm.swap _ _ _).trans (List.Perm.cons _ (List.Perm.swap _ _ _))).trans (List.Perm.swap _ _ _));have S1:=hd0 S;simp only[putAll,Act.put,List.take_succ_cons,List.take_zero,List.drop_succ_cons,List.drop_zero];simp
  repeat clear S
  go_wp2
  go_loopw [7,30] (fun o j wr=>∃(k:Nat) (R:List Nd) (A:List ByteArray) (ax:Option Addr) (cx:Nat) (vx:List Nc) (ao:Option Addr) (co:Nat),k≤L.length∧j=.int .i64 k∧o=.slice ao A.length co∧runL ⟨cr,ca,cs,cg⟩ (T,[]) (L.take k)=(R,A)∧Sep w wr [plNd (.slice ax R.length cx) vx R,plBox B6 #[.slice ax R.length cx,.int .i64 cr,.int .i64 ca,.int .i64 cs,.int .i64 cg] 31,plOut (.slice ao A.length co) A,plBox B4 #[.slice none 0 0,.int .i64 0,.int .i64 0,.int .i64 0,.int .i64 0] 31]) (fun _ j _=>L.length - (intOf j).toNat)
  case atStart=>exact⟨0,T,[],_,_,_,_,_,Nat.zero_le _,rfl,rfl,by rw[List.take_zero];rfl,S1.out⟩
  case round =>
   clear S1;obtain⟨k,R,A,ax,cx,vx,ao,co,hk,rfl,rfl,hR,S⟩:=hrel;have HR:=hd0 hR;have hok:=HOK.out k hk;rw[hR]at hok;dsimp only at hok;clear hR;have hA:A.length≤30:=hok.2.2
   have hRl:R.length≤1048576:=by have:=hok.1.max;omega
   have HRT:=hd0 (tree_sm20 hok.1 hok.2.1 (by omega));have HRO:=hd0 hok.1;have HRN:=hd0 hok.2.1;clear hok;have hrd:Rd 1 encStr1 wr al L:=hrl.ext S.ext
   by_cases hlt:k < L.length
   rotate_left
   ·obtain rfl:k=L.length:=by omega
    have HE:Hid (runL ⟨cr,ca,cs,cg⟩ (T,[]) L=(R,A)):=hd0 (by have:=HR.out;rw[List.take_length]at this;exact this)
    have hni:¬(L.length:Int) < (L.length:Int):=by omega
    clear hrd;obtain⟨⟨b6c0,b6f0⟩,⟨b6c1,b6f1⟩,⟨b6c2,b6f2⟩,⟨b6c3,b6f3⟩,⟨b6c4,b6f4⟩⟩:=bx5 (S.box 1 rfl);obtain⟨⟨b4c0,b4f0⟩,⟨b4c1,b4f1⟩,⟨b4c2,b4f2⟩,⟨b4c3,b4f3⟩,⟨b4c4,b4f4⟩⟩:=bx5 (S.box 3 rfl);go_wp2;clear b6c0 b6f0 b6c1 b6f1 b6c2 b6f2 b6c3 b6f3 b6c4 b6f4 b4c0 b4f0 b4c1 b4f1 b4c2 b4f2 b4c3 b4f3 b4c4 b4f4;replace S:Sep w (((((wr.setCell ⟨B4,0,none⟩ (.slice ax R.length cx)).setCell ⟨B4,1,none⟩ (.int .i64 cr)).setCell ⟨B4,2,none⟩ (.int .i64 ca)).setCell ⟨B4,3,none⟩ (.int .i64 cs)).setCell ⟨B4,4,none⟩ (.int .i64 cg)) [plNd (.slice ax R.length cx) vx R,plBox B6 #[.slice ax R.length cx,.int .i64 cr,.int .i64 ca,.int .i64 cs,.int .i64 cg] 31,plOut (.slice ao A.length co) A,plBox B4 #[.slice ax R.length cx,.int .i64 cr,.int .i64 ca,.int .i64 cs,.int .i64 cg] 31]:=((((S.set 3 rfl 0 _).set 3 rfl 1 _).set 3 rfl 2 _).set 3 rfl 3 _).set 3 rfl 4 _;generalize (((((wr.setCell ⟨B4,0,none⟩ (.slice ax R.length cx)).setCell ⟨B4,1,none⟩ (.int .i64 cr)).setCell ⟨B4,2,none⟩ (.int .i64 ca)).setCell ⟨B4,3,none⟩ (.int .i64 cs)).setCell ⟨B4,4,none⟩ (.int .i64 cg))=wD at *;obtain⟨⟨b4c0,b4f0⟩,⟨b4c1,b4f1⟩,⟨b4c2,b4f2⟩,⟨b4c3,b4f3⟩,⟨b4c4,b4f4⟩⟩:=bx5 (S.box 3 rfl);refine bodyPost_ret (v:=.tuple #[.agg #[.slice ax R.length cx,.int .i64 cr,.int .i64 ca,.int .i64 cs,.int .i64 cg],.slice ao A.length co]) (by simp[results,Tryz.results15,go_sem,b4c0,b4c1,b4c2,b4c3,b4c4]) rfl ?_;rw[HX.out.1,HX.out.2,HE.out];replace S:Sep w wD [plNd (.slice ax R.length cx) vx R,plOut (.slice ao A.length co) A]:=(S.drop 1).drop 2;exact⟨_,vx,_,rfl,S⟩
   ·obtain⟨l,bl,fl,hl9,rfl,e0⟩:=atStr hrd hlt;have hls:=HSL.out l (List.mem_of_getElem? hl9);obtain⟨R',tx,hq⟩:∃R' tx,callF R ⟨cr,ca,cs,cg⟩ (wordsB l)=(R',tx):=⟨_,_,rfl⟩;have HStep:Hid (runL ⟨cr,ca,cs,cg⟩ (T,[]) (L.take (k+1))=(R',A++[tx])):=hd0 (by rw[runL_step _ _ hl9,HR.out];dsimp only;rw[hq])
    have HF:Hid (∀(a1:Option Addr) (c1:Nat) (w':World),RdN w' a1 R→MaxG w'→Calls Tryz.prog 10 #[.agg #[.slice a1 R.length c1,.int .i64 cr,.int .i64 ca,.int .i64 cs,.int .i64 cg],.string l] w' (fun e w''=>∃u vs,e=.returned (.tuple #[.agg #[u,.int .i64 cr,.int .i64 ca,.int .i64 cs,.int .i64 cg],.string tx])∧Sep w' w'' [plNd u vs R'])):=hd0 (fun a1 c1 w' h1 hm'=>by
     have h:=implCallLine a1 c1 R cr ca cs cg l w' hls hRl HRT.out (fun _=>HRN.out) h1 hm';rw[callLine_ok ⟨HRO.out,HC.out⟩,hq,show callCr R ⟨cr,ca,cs,cg⟩=⟨cr,ca,cs,cg⟩by unfold callCr;rw[if_pos ⟨HRO.out,HC.out⟩]]at h
     exact h)
    have i0:(k:Int) < (L.length:Int):=by omega
    clear hl9 hq hrd HRT HRO HRN hls;generalize hLl:L.length=nL at *;have HLl:=hd0 hLl;clear hLl;obtain⟨⟨b6c0,b6f0⟩,⟨b6c1,b6f1⟩,⟨b6c2,b6f2⟩,⟨b6c3,b6f3⟩,⟨b6c4,b6f4⟩⟩:=bx5 (S.box 1 rfl)
    go_wp2_with fail
    clear b6c0 b6f0 b6c1 b6f1 b6c2 b6f2 b6c3 b6f3 b6c4 b6f4;refine(HF.out ax cx wr (S.rdN 0 rfl) (hm.ext S.ext)).mono ?_;rintro e w8 ⟨u9,v9,rfl,S9⟩;obtain⟨a9,c9,rfl,_,_⟩:=nd_view (S9.at_ 0 rfl);replace S:Sep w w8 [plNd (.slice a9 R'.length c9) v9 R',plNd (.slice ax R.length cx) vx R,plBox B6 #[.slice ax R.length cx,.int .i64 cr,.int .i64 ca,.int .i64 cs,.int .i64 cg] 31,plOut (.slice ao A.length co) A,plBox B4 #[.slice none 0 0,.int .i64 0,.int .i64 0,.int .i64 0,.int .i64 0] 31]:=S.call S9;clear S9;replace S:=S.alloc_at (n:=w8.heap.size) (by simp) #[.slice a9 R'.length c9,.int .i64 cr,.int .i64 ca,.int .i64 cs,.int .i64 cg] 31;clear HF e0
    go_upto_region 8 with fail
    generalize (w8.alloc (.cells #[.slice a9 R'.length c9,.int .i64 cr,.int .i64 ca,.int .i64 cs,.int .i64 cg] 31))=w9 at *;generalize w8.heap.size=B9 at *;replace S:=S.drew;have HSd:=hd0 S;have hI:Cells5 B9 (.slice a9 R'.length c9) (.int .i64 cr) (.int .i64 ca) (.int .i64 cs) (.int .i64 cg) (World.drew w9):=S.cells5 0 rfl
    repeat clear S
    refine wp_region_c (V:=VAp w (.agg #[.slice a9 R'.length c9,.int .i64 cr,.int .i64 ca,.int .i64 cs,.int .i64 cg]) (.slice ao A.length co) tx A [plBox B9 #[.slice a9 R'.length c9,.int .i64 cr,.int .i64 ca,.int .i64 cs,.int .i64 cg] 31,plNd (.slice a9 R'.length c9) v9 R',plNd (.slice ax R.length cx) vx R,plBox B6 #[.slice ax R.length cx,.int .i64 cr,.int .i64 ca,.int .i64 cs,.int .i64 cg] 31,plOut (.slice ao A.length co) A,plBox B4 #[.slice none 0 0,.int .i64 0,.int .i64 0,.int .i64 0,.int .i64 0] 31] (fun v=>[plBox B9 #[.slice a9 R'.length c9,.int .i64 cr,.int .i64 ca,.int .i64 cs,.int .i64 cg] 31,plNd (.slice a9 R'.length c9) v9 R',plNd (.slice ax R.length cx) vx R,plBox B6 #[.slice ax R.length cx,.int .i64 cr,.int .i64 ca,.int .i64 cs,.int .i64 cg] 31,plOut v (A++[tx]),plBox B4 #[.slice none 0 0,.int .i64 0,.int .i64 0,.int .i64 0,.int .i64 0] 31])) (Cells5 B9 (.slice a9 R'.length c9) (.int .i64 cr) (.int .i64 ca) (.int .i64 cs) (.int .i64 cg)) (fun i=>if i=5 then some 4 else if i=3 then some 4 else none) [] 5 1 rfl (by decide) (by kernel_rfl) (by kernel_rfl) (by kernel_rfl) (by kernel_rfl) hI (fun r hr=>by match r,hr with|0,_=>exact HSd.out) ?_ ?_
    ·intro i o hi ho vz w4 hvl hE hd hrest
     match vz,hvl with
     | [y0,y1,y2,y3,y4],_ =>
     rcases lc5 hi with rfl|rfl|rfl|rfl|rfl
     all_goals
      obtain rfl:=Option.some.inj ho
     ·obtain⟨c0,c1,c2,c3,c4⟩:=hE;clear hd hrest;simp[putAll,Act.put];go_wp2;exact⟨rfl,_,rfl,rfl,⟨c0,c1,c2,c3,c4⟩,fun j u hj hne hcon hnd hnc hv=>hv⟩
     ·clear hd hrest;simp[putAll,Act.put];go_wp2;exact⟨rfl,_,rfl,rfl,hE,fun j u hj hne hcon hnd hnc hv=>hv⟩
     ·clear hd hrest;simp[putAll,Act.put];go_wp2;exact⟨rfl,_,rfl,rfl,hE,fun j u hj hne hcon hnd hnc hv=>hv⟩
     ·have q2:y2=.string tx:=hd ⟨2,.data⟩ (by simp) rfl (.inl rfl);subst q2;clear hd hrest;have rd1:Rd 1 encStr1 (w4.alloc (.cells #[.string tx] 9)) (some ⟨w4.heap.size,0,none⟩) [tx]:=rd_lit_new [tx] encStr1_len rfl;simp[putAll,Act.put];go_wp2;exact OneC.mk (VAp.ext) rfl ⟨_,rfl,rd1⟩ (Cells5.ext hE ((Ext.refl _).alloc _)) ((Ext.refl _).alloc _)
     ·have q1:y1=.slice ao A.length co:=hd ⟨1,.data⟩ (by simp) rfl (.inl rfl);obtain⟨g,q3,rd1⟩:∃g,y3=.slice (some ⟨g,0,none⟩) 1 1∧Rd 1 encStr1 w4 (some ⟨g,0,none⟩) [tx]:=hd ⟨3,.data⟩ (by simp) rfl (.inr rfl);have S4:Sep w w4 [plBox B9 #[.slice a9 R'.length c9,.int .i64 cr,.int .i64 ca,.int .i64 cs,.int .i64 cg] 31,plNd (.slice a9 R'.length c9) v9 R',plNd (.slice ax R.length cx) vx R,plBox B6 #[.slice ax R.length cx,.int .i64 cr,.int .i64 ca,.int .i64 cs,.int .i64 cg] 31,plOut (.slice ao A.length co) A,plBox B4 #[.slice none 0 0,.int .i64 0,.int .i64 0,.int .i64 0,.int .i64 0] 31]:=hrest 0 (by omega) (.inr rfl);subst q1 q3;clear hd hrest hE;simp[putAll,Act.put];refine wpList_append_out rfl _ _ rfl _ A rfl (S4.at_ 4 rfl) ⟨g,0,none⟩ 1 tx rfl rd1 (by omega) ?_;intro v7 w7 hok hch hown;have S5:Sep w w7 [plBox B9 #[.slice a9 R'.length c9,.int .i64 cr,.int .i64 ca,.int .i64 cs,.int .i64 cg] 31,plNd (.slice a9 R'.length c9) v9 R',plNd (.slice ax R.length cx) vx R,plBox B6 #[.slice ax R.length cx,.int .i64 cr,.int .i64 ca,.int .i64 cs,.int .i64 cg] 31,plOut v7 (A++[tx]),plBox B4 #[.slice none 0 0,.int .i64 0,.int .i64 0,.int .i64 0,.int .i64 0] 31]:=S4.put 4 rfl hch hok hown;clear hok hch hown S4 rd1;go_wp2;refine⟨rfl,_,rfl,S5,S5.cells5 0 rfl,fun j u hj hne hcon hnd hnc hv=>?_⟩
      match j,hv with
      | 0,hv=>exact hv
      | 1,hv=>exact hv
      | 2,hv=>exact hv
      | 3,hv=>exact absurd rfl hcon
      | 4,hv=>exact absurd rfl hne
      | 5,hv=>exact absurd rfl hcon
      | (q+6),_=>trivial
    intro vz w7 hvl hE hV _
    match vz,hvl with
    | [y0,y1,y2,y3,y4],_ =>
    have q0:y0=.agg #[.slice a9 R'.length c9,.int .i64 cr,.int .i64 ca,.int .i64 cs,.int .i64 cg]:=hV 0 (by omega) rfl;have S:Sep w w7 [plBox B9 #[.slice a9 R'.length c9,.int .i64 cr,.int .i64 ca,.int .i64 cs,.int .i64 cg] 31,plNd (.slice a9 R'.length c9) v9 R',plNd (.slice ax R.length cx) vx R,plBox B6 #[.slice ax R.length cx,.int .i64 cr,.int .i64 ca,.int .i64 cs,.int .i64 cg] 31,plOut y4 (A++[tx]),plBox B4 #[.slice none 0 0,.int .i64 0,.int .i64 0,.int .i64 0,.int .i64 0] 31]:=hV 4 (by omega) rfl;obtain⟨a7,c7,rfl,_⟩:=out_view (S.at_ 4 rfl);subst q0;clear hV hvl HSd hI hE;simp only[putAll,Act.put,List.take_succ_cons,List.take_zero,List.drop_succ_cons,List.drop_zero];simp;obtain⟨⟨b6c0,b6f0⟩,⟨b6c1,b6f1⟩,⟨b6c2,b6f2⟩,⟨b6c3,b6f3⟩,⟨b6c4,b6f4⟩⟩:=bx5 (S.box 3 rfl)
    go_upto_region 9 with fail
    clear b6c0 b6f0 b6c1 b6f1 b6c2 b6f2 b6c3 b6f3 b6c4 b6f4;replace S:Sep w (((((w7.setCell ⟨B6,0,none⟩ (.slice a9 R'.length c9)).setCell ⟨B6,1,none⟩ (.int .i64 cr)).setCell ⟨B6,2,none⟩ (.int .i64 ca)).setCell ⟨B6,3,none⟩ (.int .i64 cs)).setCell ⟨B6,4,none⟩ (.int .i64 cg)) [plBox B9 #[.slice a9 R'.length c9,.int .i64 cr,.int .i64 ca,.int .i64 cs,.int .i64 cg] 31,plNd (.slice a9 R'.length c9) v9 R',plNd (.slice ax R.length cx) vx R,plBox B6 #[.slice a9 R'.length c9,.int .i64 cr,.int .i64 ca,.int .i64 cs,.int .i64 cg] 31,plOut (.slice a7 (A++[tx]).length c7) (A++[tx]),plBox B4 #[.slice none 0 0,.int .i64 0,.int .i64 0,.int .i64 0,.int .i64 0] 31]:=((((S.set 3 rfl 0 _).set 3 rfl 1 _).set 3 rfl 2 _).set 3 rfl 3 _).set 3 rfl 4 _;generalize (((((w7.setCell ⟨B6,0,none⟩ (.slice a9 R'.length c9)).setCell ⟨B6,1,none⟩ (.int .i64 cr)).setCell ⟨B6,2,none⟩ (.int .i64 ca)).setCell ⟨B6,3,none⟩ (.int .i64 cs)).setCell ⟨B6,4,none⟩ (.int .i64 cg))=w10 at *;replace S:Sep w w10 [plNd (.slice a9 R'.length c9) v9 R',plBox B6 #[.slice a9 R'.length c9,.int .i64 cr,.int .i64 ca,.int .i64 cs,.int .i64 cg] 31,plOut (.slice a7 (A++[tx]).length c7) (A++[tx]),plBox B4 #[.slice none 0 0,.int .i64 0,.int .i64 0,.int .i64 0,.int .i64 0] 31]:=(S.drop 2).drop 0;have HS:=hd0 S;obtain⟨G,hG⟩:∃G,G=A++[tx]:=⟨_,rfl⟩
    have hGl:A.length+1=G.length:=by rw[hG];simp
    rw[←hG]at HS HStep;rw[hGl]
    have hk1:k+1≤nL:=by omega
    have hL:=HLl.out;clear S hG hGl;go_wp2;go_roundw
    case rel=>exact⟨k+1,R',G,a9,c9,v9,a7,c7,by omega,by go_num,rfl,HStep.out,HS.out⟩
    case measure=>simp[intOf];omega
def cntNd (x:Nd):Nat:=5+x.N.length+x.K.length
def sumNd:List Nd→Nat
 | []=>0
 | x :: r=>cntNd x+sumNd r
def RetSM (left:Int) (P:Int→Prop) (w:World) (e:Ending) (w':World):Prop:=∃r:Int,e=.returned (.int .i64 r) ∧ -1≤r∧r≤left∧(0≤r→P r)∧Ext w w'
theorem RetSM.mk {left:Int} {P:Int→Prop} {w w':World} {v:Value} {r:Int} (hv:v=.int .i64 r) (h1 : -1≤r) (h2:r≤left) (h3:0≤r→P r) (hw:Ext w w'):RetSM left P w (.returned v) w':=⟨r,by rw[hv],h1,h2,h3,hw⟩
def KerQ (T:List Nd) (r a s g:Int) (v:Value) (w:World):Prop:=∃a1 c1,v=.agg #[.slice a1 T.length c1,.int .i64 r,.int .i64 a,.int .i64 s,.int .i64 g]∧RdN w a1 T
theorem KerQ.ext {T:List Nd} {r a s g:Int} {v:Value} {w w':World} (h:KerQ T r a s g v w) (hE:Ext w w'):KerQ T r a s g v w':=by
 obtain⟨a1,c1,h1,h2⟩:=h;exact⟨a1,c1,h1,h2.ext hE⟩
theorem sumNd_bd {T:List Nd} {B:Nat} (h:∀x∈T,cntNd x≤B):sumNd T≤T.length*B:=by
 induction T with
 | nil=>exact Nat.zero_le _
 | cons x r ih =>
  have h1:=ih (fun y hy=>h y (List.mem_cons_of_mem _ hy));have h2:=h x (by simp);rw[sumNd,List.length_cons,Nat.succ_mul];omega
def Small (R:List Nd):Prop:=R.length≤1048576∧(∀x∈R,SmN 1048576 x)∧sumNd R≤100000000
theorem small_nil:Small []:=⟨Nat.zero_le _,fun x hx=>by simp at hx,Nat.zero_le _⟩
theorem small_tree {R:List Nd} {b:Nat} (h:TreeOk R) (hb:NB b R) (h1:b≤600000):Small R:=by
 refine⟨by have:=h.max;omega,tree_sm20 h hb (by omega),?_⟩
 have h2:=sumNd_bd (T:=R) (B:=1200005) (fun x hx=>by
  obtain⟨k,hk⟩:=List.getElem?_of_mem hx;have h3:=(h.nodes k x hk).len;have h4:=hb x hx;unfold cntNd
  omega)
 have h5:R.length*1200005≤16*1200005:=Nat.mul_le_mul_right _ h.max;omega
theorem lines_small {T:List Nd} {c:Cr} (h:TreeOk T→NB 524288 T) (L:List ByteArray):Small (callLines T c L).1∧(callLines T c L).2.length≤30:=by
 by_cases hT:TreeOk T∧c.ok∧L.length≤30
 ·have h1:=runL_ok c L (T,[]) 524288 hT.1 (h hT.1)
  have e:callLines T c L=runL c (T,[]) L:=by unfold callLines;rw[if_pos hT]
  rw[e];refine⟨small_tree h1.1 h1.2.1 (by omega),?_⟩;rw[h1.2.2];simp only[List.length_nil];omega
 ·have e:callLines T c L=([],[]):=by unfold callLines;rw[if_neg hT]
  rw[e];exact⟨small_nil,Nat.zero_le _⟩
theorem runL_pre (c:Cr) (A:List ByteArray):∀(L:List ByteArray) (T:List Nd) (B:List ByteArray),runL c (T,A++B) L=((runL c (T,B) L).1,A++(runL c (T,B) L).2)
 | [],T,B=>rfl
 | l :: L,T,B=>by
  show runL c ((callF T c (wordsB l)).1,A++B++[(callF T c (wordsB l)).2]) L=_
  rw[List.append_assoc,runL_pre c A L];rfl
theorem lines_two {T:List Nd} {c:Cr} {L:List ByteArray} (h0:TreeOk T∧c.ok) (hl:L.length≤30) (hb:NB 20 T) (k:Nat) {R:List Nd} {A:List ByteArray} (hR:callLines T c L=(R,A)) :
  ∃R1 A1 A2,callLines T c (L.take k)=(R1,A1)∧linesCr T c (L.take k)=c∧callLines R1 c (L.drop k)=(R,A2)∧linesCr R1 c (L.drop k)=c∧A=A1++A2∧NB 50 R1∧Small R1∧A1.length≤30∧A2.length≤30:=by
 have hl1:(L.take k).length≤30:=by rw[List.length_take];omega
 have hl2:(L.drop k).length≤30:=by rw[List.length_drop];omega
 have e:callLines T c L=runL c (T,[]) L:=by unfold callLines;rw[if_pos ⟨h0.1,h0.2,hl⟩]
 have e1:callLines T c (L.take k)=runL c (T,[]) (L.take k):=by unfold callLines;rw[if_pos ⟨h0.1,h0.2,hl1⟩]
 have g1:=runL_ok c (L.take k) (T,[]) 20 h0.1 hb;obtain⟨R1,A1,hA⟩:∃R1 A1,runL c (T,[]) (L.take k)=(R1,A1):=⟨_,_,rfl⟩;rw[hA]at g1;have hR1:TreeOk R1:=g1.1;have hN1:NB 50 R1:=nb_more g1.2.1 (by omega);have g2:=runL_ok c (L.drop k) (R1,[]) 50 hR1 hN1
 have e2:callLines R1 c (L.drop k)=runL c (R1,[]) (L.drop k):=by unfold callLines;rw[if_pos ⟨hR1,h0.2,hl2⟩]
 obtain⟨R2,A2,hA2⟩:∃R2 A2,runL c (R1,[]) (L.drop k)=(R2,A2):=⟨_,_,rfl⟩;rw[hA2]at g2;have e3:=runL_app c (T,[]) (L.take k) (L.drop k);rw[List.take_append_drop,hA,show((R1,A1):List Nd×List ByteArray)=(R1,A1++[])by rw[List.append_nil],runL_pre,hA2,←e,hR]at e3;obtain⟨rfl,rfl⟩:R=R2∧A=A1++A2:=⟨congrArg Prod.fst e3,congrArg Prod.snd e3⟩;refine⟨R1,A1,A2,by rw[e1,hA],by unfold linesCr;rw[if_pos ⟨h0.1,h0.2,hl1⟩],by rw[e2,hA2],by unfold linesCr;rw[if_pos ⟨hR1,h0.2,hl2⟩],rfl,hN1,small_tree hR1 hN1 (by omega),?_,?_⟩
 ·have:=g1.2.2;simp only[List.length_nil]at this;omega
 ·have:=g2.2.2;simp only[List.length_nil]at this;omega
theorem out_tag {w:World} {u:Value} {A:List ByteArray} (h:(plOut u A).ok w) {b:Nat} (hb:(plOut u A).own b):∃cur,w.heap[b]?=some (.cells cur 9):=row_tag (h.2 hb.1) hb.2
theorem SepM.addBoxO {M:Nat→Prop} {w0 w:World} {u u2:Value} {vs:List Nc} {R:List Nd} {A:List ByteArray} (S:SepM M w0 w [plNd u vs R,plOut u2 A]) {B:Nat} {C:Array Value} (hB:w.heap[B]?=some (.cells C 31)) (hb:w0.heap.size≤B) :
  SepM M w0 w [plBox B C 31,plNd u vs R,plOut u2 A] :=
 S.addBox hB (by decide) hb (fun p hp hown=>by
  have hp':=List.mem_singleton.1 hp;subst hp';obtain⟨cur,hc⟩:=out_tag (S.at_ 1 rfl) hown;rw[hB]at hc;have h1:=Option.some.inj hc
  injection h1 with _ h2
  exact absurd h2 (by decide))
theorem store5o {M:Nat→Prop} {w0 w:World} {u u2:Value} {vs:List Nc} {R:List Nd} {A:List ByteArray} {B:Nat} {C:Array Value} (S:SepM M w0 w [plNd u vs R,plOut u2 A]) (hb:w.heap[B]?=some (.cells C 31)) (hC:C=#[.slice none 0 0,.int .i64 0,.int .i64 0,.int .i64 0,.int .i64 0]) (hB:w0.heap.size≤B) (v0 v1 v2 v3 v4:Value) :
  SepM M w0 (((((w.setCell ⟨B,0,none⟩ v0).setCell ⟨B,1,none⟩ v1).setCell ⟨B,2,none⟩ v2).setCell ⟨B,3,none⟩ v3).setCell ⟨B,4,none⟩ v4) [plBox B #[v0,v1,v2,v3,v4] 31,plNd u vs R,plOut u2 A]:=by
 subst hC;exact(((((S.addBoxO hb hB).set 0 rfl 0 v0).set 0 rfl 1 v1).set 0 rfl 2 v2).set 0 rfl 3 v3).set 0 rfl 4 v4
def VLn (wR:World) (kv lv:Value) (m k:Nat) (P:List ByteArray) (cr ca cs cg:Int) (R:List Nd) (A:List ByteArray):Nat→Value→List Value→World→Prop:=fun i v us wv=>match i with
 | 0=>v=kv
 | 1=>v=lv
 | 2=>v=.int .i64 m
 | 3=>∃a c,v=.slice a k c∧Rd 1 encStr1 wR a P
 | 4=>∃u vs u2,v=.tuple #[.agg #[u,.int .i64 cr,.int .i64 ca,.int .i64 cs,.int .i64 cg],u2]∧Sep wR wv [plNd u vs R,plOut u2 A]
 | 5=>∃u vs u2,v=.tuple #[.agg #[u,.int .i64 cr,.int .i64 ca,.int .i64 cs,.int .i64 cg],u2]∧Sep wR wv [plNd u vs R,plOut u2 A]
 | 6=>∃x a c,v=.agg #[.slice a R.length c,.int .i64 cr,.int .i64 ca,.int .i64 cs,.int .i64 cg]∧us=[.tuple #[v,x]]
 | 7=>∃x,us=[.tuple #[x,v]]
 | 8=>∃B,v=.pointer (some ⟨B,0,none⟩)∧wR.heap.size≤B∧wv.heap[B]?=some (.cells #[.slice none 0 0,.int .i64 0,.int .i64 0,.int .i64 0,.int .i64 0] 31)
 | 9=>∃B a c,us=[.pointer (some ⟨B,0,none⟩),.agg #[.slice a R.length c,.int .i64 cr,.int .i64 ca,.int .i64 cs,.int .i64 cg]]∧wR.heap.size≤B∧wv.heap[B]?=some (.cells #[.slice a R.length c,.int .i64 cr,.int .i64 ca,.int .i64 cs,.int .i64 cg] 31)
 | _=>True
theorem VLn.ext {wR:World} {kv lv:Value} {m k:Nat} {P:List ByteArray} {cr ca cs cg:Int} {R:List Nd} {A:List ByteArray} (i:Nat) (v:Value) (us:List Value) (w1 w2:World) (h:VLn wR kv lv m k P cr ca cs cg R A i v us w1) (hE:Ext w1 w2):VLn wR kv lv m k P cr ca cs cg R A i v us w2:=by
 match i with
 | 0|1|2|3|6|7=>exact h
 | 4=>obtain⟨u,vs,u2,h0,h1⟩:=h;exact⟨u,vs,u2,h0,h1.step hE⟩
 | 5=>obtain⟨u,vs,u2,h0,h1⟩:=h;exact⟨u,vs,u2,h0,h1.step hE⟩
 | 8=>obtain⟨B,h0,h1,h2⟩:=h;exact⟨B,h0,h1,heapx hE h2⟩
 | 9=>obtain⟨B,a,c,h0,h1,h2⟩:=h;exact⟨B,a,c,h0,h1,heapx hE h2⟩
 | (n+10)=>trivial
theorem ln_box {wR w:World} {B:Nat} (hE:Ext wR w) (hb:w.heap[B]?=some (.cells #[.slice none 0 0,.int .i64 0,.int .i64 0,.int .i64 0,.int .i64 0] 31)) (hB:wR.heap.size≤B) (v0 v1 v2 v3 v4:Value) :
  Sep wR (((((w.setCell ⟨B,0,none⟩ v0).setCell ⟨B,1,none⟩ v1).setCell ⟨B,2,none⟩ v2).setCell ⟨B,3,none⟩ v3).setCell ⟨B,4,none⟩ v4) [plBox B #[v0,v1,v2,v3,v4] 31]:=by
 have S:Sep wR w [plBox B #[.slice none 0 0,.int .i64 0,.int .i64 0,.int .i64 0,.int .i64 0] 31]:=(Sep.start wR).cons hE hb (fun b h=>(show b=B from h) ▸ hB);have S:Sep wR (w.setCell ⟨B,0,none⟩ v0) [plBox B #[v0,.int .i64 0,.int .i64 0,.int .i64 0,.int .i64 0] 31]:=S.set 0 rfl 0 v0;have S:Sep wR ((w.setCell ⟨B,0,none⟩ v0).setCell ⟨B,1,none⟩ v1) [plBox B #[v0,v1,.int .i64 0,.int .i64 0,.int .i64 0] 31]:=S.set 0 rfl 1 v1;have S:Sep wR (((w.setCell ⟨B,0,none⟩ v0).setCell ⟨B,1,none⟩ v1).setCell ⟨B,2,none⟩ v2) [plBox B #[v0,v1,v2,.int .i64 0,.int .i64 0] 31]:=S.set 0 rfl 2 v2;have S:Sep wR ((((w.setCell ⟨B,0,none⟩ v0).setCell ⟨B,1,none⟩ v1).setCell ⟨B,2,none⟩ v2).setCell ⟨B,3,none⟩ v3) [plBox B #[v0,v1,v2,v3,.int .i64 0] 31]:=S.set 0 rfl 3 v3;have S:Sep wR (((((w.setCell ⟨B,0,none⟩ v0).setCell ⟨B,1,none⟩ v1).setCell ⟨B,2,none⟩ v2).setCell ⟨B,3,none⟩ v3).setCell ⟨B,4,none⟩ v4) [plBox B #[v0,v1,v2,v3,v4] 31]:=S.set 0 rfl 4 v4;exact S
theorem VLn.store {wR w:World} {kv lv:Value} {m k:Nat} {P:List ByteArray} {cr ca cs cg:Int} {R:List Nd} {A:List ByteArray} {B:Nat} (hb:w.heap[B]?=some (.cells #[.slice none 0 0,.int .i64 0,.int .i64 0,.int .i64 0,.int .i64 0] 31)) (hB:wR.heap.size≤B) (v0 v1 v2 v3 v4:Value) (j:Nat) (u:Value) (us:List Value) (h8:j≠8) (h9:j≠9) (h:VLn wR kv lv m k P cr ca cs cg R A j u us w) :
  VLn wR kv lv m k P cr ca cs cg R A j u us (((((w.setCell ⟨B,0,none⟩ v0).setCell ⟨B,1,none⟩ v1).setCell ⟨B,2,none⟩ v2).setCell ⟨B,3,none⟩ v3).setCell ⟨B,4,none⟩ v4):=by
 match j,h8,h9,h with
 | 0,_,_,h=>exact(show u=kv from h)
 | 1,_,_,h=>exact(show u=lv from h)
 | 2,_,_,h=>exact(show u=.int .i64 m from h)
 | 3,_,_,h=>exact(show ∃a c,u=.slice a k c∧Rd 1 encStr1 wR a P from h)
 | 4,_,_,h=>obtain⟨u5,v5,x5,h0,h1⟩:=h;exact⟨u5,v5,x5,h0,(store5o h1 hb rfl hB v0 v1 v2 v3 v4).drop 0⟩
 | 5,_,_,h=>obtain⟨u5,v5,x5,h0,h1⟩:=h;exact⟨u5,v5,x5,h0,(store5o h1 hb rfl hB v0 v1 v2 v3 v4).drop 0⟩
 | 6,_,_,h=>exact(show ∃x a c,u=.agg #[.slice a R.length c,.int .i64 cr,.int .i64 ca,.int .i64 cs,.int .i64 cg]∧us=[.tuple #[u,x]]from h)
 | 7,_,_,h=>exact(show ∃x,us=[.tuple #[x,u]]from h)
 | 8,h8,_,_=>exact absurd rfl h8
 | 9,_,h9,_=>exact absurd rfl h9
 | (q+10),_,_,_=>trivial
theorem ln_out {wR w:World} {kv lv:Value} {m k:Nat} {P:List ByteArray} {cr ca cs cg:Int} {R:List Nd} {A:List ByteArray} {y5 y6 y7 y8 y9:Value} (h5:VLn wR kv lv m k P cr ca cs cg R A 5 y5 [] w) (h6:VLn wR kv lv m k P cr ca cs cg R A 6 y6 [y5] w) (h7:VLn wR kv lv m k P cr ca cs cg R A 7 y7 [y5] w) (h9:VLn wR kv lv m k P cr ca cs cg R A 9 y9 [y8,y6] w) :
  ∃B a c vs a2 c2,y8=.pointer (some ⟨B,0,none⟩)∧y7=.slice a2 A.length c2∧Sep wR w [plBox B #[.slice a R.length c,.int .i64 cr,.int .i64 ca,.int .i64 cs,.int .i64 cg] 31,plNd (.slice a R.length c) vs R,plOut (.slice a2 A.length c2) A]:=by
 obtain⟨u5,v5,x5,rfl,S5⟩:=h5;obtain⟨x6,a6,c6,rfl,q6⟩:=h6;obtain⟨x7,q7⟩:=h7;obtain⟨B,a,c,q9,hB,hb⟩:=h9
 cases q6
 cases q7
 cases q9
 obtain⟨a2,c2,e2,_⟩:=out_view (S5.at_ 1 rfl);subst e2;exact⟨B,_,_,v5,a2,c2,rfl,rfl,S5.addBoxO hb hB⟩
end Go.Proofs.YtnibbldfohbfkaaGreatDoor
