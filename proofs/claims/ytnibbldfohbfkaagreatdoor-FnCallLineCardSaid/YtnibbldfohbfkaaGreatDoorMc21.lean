/- Parts of one proof: what each theorem proves, and its conditions, stand in its own statement. -/
import Derived.Test.YtnibbldfohbfkaaGreatDoorMc16
import Derived.Test.YtnibbldfohbfkaaGreatDoorMc20
set_option linter.all false
set_option maxRecDepth 100000
set_option maxHeartbeats 32000000
namespace Go.Proofs.YtnibbldfohbfkaaGreatDoor
open Go.RowKit
theorem words_count (s:ByteArray):(wordsB s).length=Lib.countB s ⟨#[32]⟩+1:=by
 have hw:=winv s.data.toList
 have hcnt:=count_lib 32 ((wordsL s.data.toList).map (·.data.toList)) (by simpa using hw.ne) (fun a ha=>by
  obtain⟨p,hp,rfl⟩:=List.mem_map.1 ha
  exact hw.no p hp)
 rw[hw.join,List.length_map]at hcnt;exact hcnt.symm
theorem str_flat:∀W:List ByteArray,W.map Value.string=W.flatMap encStr1
 | []=>rfl
 | a :: W=>by rw[List.map_cons,List.flatMap_cons,str_flat W];rfl
theorem cells2 {w:World} {gw:Nat} {W:List ByteArray} (h:Rd 1 encStr1 w (some ⟨gw,0,none⟩) W) (k:Nat) {a:ByteArray} (hk:W[k]?=some a):w.cell? ⟨gw,k,none⟩=some (.string a):=by
 obtain⟨x,b,o,hx,ha,hc⟩:=atStr h (List.getElem?_eq_some_iff.1 hk).1;rw[hk]at hx
 cases hx
 simp only[Option.some.injEq,Addr.mk.injEq]at ha;obtain⟨rfl,rfl,_⟩:=ha;rw[Nat.zero_add]at hc;exact hc
theorem implChange (at_:Option Addr) (cap:Nat) (T:List Nd) (cr ca cs cg:Int) (gw cw:Nat) (W:List ByteArray) (w:World) (hp:0 < W.length) (hW:∀p∈W,p.size≤1048576) (hrW:Rd 1 encStr1 w (some ⟨gw,0,none⟩) W) (hl:T.length≤1048576) (hT:∀x∈T,SmN 1048576 x) (hNB:NB 1000000 T) (hc:RdN w at_ T) (hm:MaxG w) :
  Calls Tryz.prog 45 #[.agg #[.slice at_ T.length cap,.int .i64 cr,.int .i64 ca,.int .i64 cs,.int .i64 cg],.slice (some ⟨gw,0,none⟩) W.length cw] w (RetCh (changeF T ⟨cr,ca,cs,cg⟩ W) w):=by
 by_cases h2:W.length=2
 ·obtain⟨a,x,rfl⟩:∃a x,W=[a,x]:=by
   match W,h2 with
   | [a,x],_=>exact⟨a,x,rfl⟩
  have e0:=cells2 hrW 0 rfl;have e1:=cells2 hrW 1 rfl;have hx:=hW x (by simp)
  by_cases h_folder:a=⟨#[102,111,108,100,101,114]⟩
  ·exact ich_2 at_ cap T cr ca cs cg gw cw a x w hx hl hT hNB hc hm (.inl h_folder) e0 e1
  by_cases h_file:a=⟨#[102,105,108,101]⟩
  ·exact ich_2 at_ cap T cr ca cs cg gw cw a x w hx hl hT hNB hc hm (.inr (.inl h_file)) e0 e1
  by_cases h_drop:a=⟨#[100,114,111,112]⟩
  ·exact ich_2 at_ cap T cr ca cs cg gw cw a x w hx hl hT hNB hc hm (.inr (.inr h_drop)) e0 e1
  exact ich2_no at_ cap T cr ca cs cg gw cw a x w hx hl hT hNB hc hm h_folder h_file h_drop e0 e1
 ·by_cases h3:W.length=3
  ·obtain⟨a,x,y,rfl⟩:∃a x y,W=[a,x,y]:=by
    match W,h3 with
    | [a,x,y],_=>exact⟨a,x,y,rfl⟩
   have e0:=cells2 hrW 0 rfl;have e1:=cells2 hrW 1 rfl;have e2:=cells2 hrW 2 rfl;have hx:=hW x (by simp);have hy:=hW y (by simp)
   by_cases h_mode:a=⟨#[109,111,100,101]⟩
   ·subst h_mode;exact ich_mode at_ cap T cr ca cs cg gw cw x y w hx hy hl hT hNB hc hm e0 e1 e2
   by_cases h_write:a=⟨#[119,114,105,116,101]⟩
   ·exact ich_3 at_ cap T cr ca cs cg gw cw a x y w hx hy hl hT hNB hc hm (.inl h_write) e0 e1 e2
   by_cases h_link:a=⟨#[108,105,110,107]⟩
   ·exact ich_3 at_ cap T cr ca cs cg gw cw a x y w hx hy hl hT hNB hc hm (.inr (.inl h_link)) e0 e1 e2
   by_cases h_move:a=⟨#[109,111,118,101]⟩
   ·exact ich_3 at_ cap T cr ca cs cg gw cw a x y w hx hy hl hT hNB hc hm (.inr (.inr h_move)) e0 e1 e2
   exact ich3_no at_ cap T cr ca cs cg gw cw a x y w hx hy hl hT hNB hc hm h_write h_mode h_link h_move e0 e1 e2
  ·obtain⟨a,ha⟩:∃a,W[0]?=some a:=⟨_,List.getElem?_eq_getElem hp⟩;have e0:=cells2 hrW 0 ha;clear ha;exact ichn_no at_ cap T cr ca cs cg gw cw W.length W rfl h2 h3 hp a w e0
theorem implTell (at_:Option Addr) (cap:Nat) (T:List Nd) (cr ca cs cg:Int) (gw cw:Nat) (W:List ByteArray) (w:World) (hp:0 < W.length) (hW:∀p∈W,p.size≤1048576) (hrW:Rd 1 encStr1 w (some ⟨gw,0,none⟩) W) (hl:T.length≤1048576) (hT:∀x∈T,SmN 1048576 x) (hc:RdN w at_ T) (hm:MaxG w) :
  Calls Tryz.prog 47 #[.agg #[.slice at_ T.length cap,.int .i64 cr,.int .i64 ca,.int .i64 cs,.int .i64 cg],.slice (some ⟨gw,0,none⟩) W.length cw] w fun e w'=>e=.returned (.string (tellF T ⟨cr,ca,cs,cg⟩ W))∧Ext w w':=by
 by_cases h2:W.length=2
 ·obtain⟨a,x,rfl⟩:∃a x,W=[a,x]:=by
   match W,h2 with
   | [a,x],_=>exact⟨a,x,rfl⟩
  have e0:=cells2 hrW 0 rfl;have e1:=cells2 hrW 1 rfl;have hx:=hW x (by simp)
  by_cases h_read:a=⟨#[114,101,97,100]⟩
  ·subst h_read;exact ite_read at_ cap T cr ca cs cg gw cw x w hx hl hT hc hm e0 e1
  by_cases h_list:a=⟨#[108,105,115,116]⟩
  ·subst h_list;exact ite_list at_ cap T cr ca cs cg gw cw x w hx hl hT hc hm e0 e1
  exact ite2_other at_ cap T cr ca cs cg gw cw a x w h_read h_list e0
 ·obtain⟨a,ha⟩:∃a,W[0]?=some a:=⟨_,List.getElem?_eq_getElem hp⟩;have e0:=cells2 hrW 0 ha;clear ha
  by_cases h_read:a=⟨#[114,101,97,100]⟩
  ·subst h_read;exact iten_read at_ cap T cr ca cs cg gw cw W.length W rfl h2 hp w e0
  by_cases h_list:a=⟨#[108,105,115,116]⟩
  ·subst h_list;exact iten_list at_ cap T cr ca cs cg gw cw W.length W rfl h2 hp w e0
  exact iten_other at_ cap T cr ca cs cg gw cw W.length W a rfl h2 hp w h_read h_list e0
def VTe (wR:World) (B3:Nat) (at_:Option Addr) (cap:Nat) (T:List Nd) (cr ca cs cg:Int) (gw n cw:Nat) (tx:ByteArray):Nat→Value→World→Prop:=fun i v wv=>match i with
 | 0=>v=.pointer (some ⟨B3,0,none⟩)
 | 1=>v=.slice at_ T.length cap
 | 2=>∃vs,Sep wR wv [plNd v vs T]
 | 3=>v=.pointer (some ⟨B3,1,none⟩)
 | 4=>v=.agg #[.int .i64 cr,.int .i64 ca,.int .i64 cs,.int .i64 cg]
 | 5=>∃u vs,v=.agg #[u,.int .i64 cr,.int .i64 ca,.int .i64 cs,.int .i64 cg]∧Sep wR wv [plNd u vs T]
 | 6=>v=.agg #[.slice at_ T.length cap,.int .i64 cr,.int .i64 ca,.int .i64 cs,.int .i64 cg]
 | 7=>v=.slice (some ⟨gw,0,none⟩) n cw
 | 8=>v=.string tx
 | _=>True
theorem VTe.ext {wR:World} {B3:Nat} {at_:Option Addr} {cap:Nat} {T:List Nd} {cr ca cs cg:Int} {gw n cw:Nat} {tx:ByteArray} (i:Nat) (v:Value) (w1 w2:World) (h:VTe wR B3 at_ cap T cr ca cs cg gw n cw tx i v w1) (hE:Ext w1 w2):VTe wR B3 at_ cap T cr ca cs cg gw n cw tx i v w2:=by
 match i with
 | 0|1|3|4|6|7|8=>exact h
 | 2=>obtain⟨vs,h1⟩:=h;exact⟨vs,h1.step hE⟩
 | 5=>obtain⟨u,vs,h0,h1⟩:=h;exact⟨u,vs,h0,h1.step hE⟩
 | (n+9)=>trivial
def VNo (B3:Nat) (u:Value) (cr ca cs cg:Int):Nat→Value→World→Prop:=fun i v _=>match i with
 | 0=>v=u
 | 1=>v=.pointer (some ⟨B3,1,none⟩)
 | 2=>v=.agg #[.int .i64 cr,.int .i64 ca,.int .i64 cs,.int .i64 cg]
 | 3=>v=.agg #[u,.int .i64 cr,.int .i64 ca,.int .i64 cs,.int .i64 cg]
 | 4=>v=.string ⟨#[110,111,110,101]⟩
 | _=>True
theorem VNo.ext {B3:Nat} {u:Value} {cr ca cs cg:Int} (i:Nat) (v:Value) (w1 w2:World) (h:VNo B3 u cr ca cs cg i v w1) (hE:Ext w1 w2):VNo B3 u cr ca cs cg i v w2:=h
theorem implCallLine (at_:Option Addr) (cap:Nat) (T:List Nd) (cr ca cs cg:Int) (s:ByteArray) (w:World) (hs:s.size≤1048576) (hl:T.length≤1048576) (hT:∀x∈T,SmN 1048576 x) (hNB:TreeOk T→NB 1000000 T) (hc:RdN w at_ T) (hm:MaxG w) :
  Calls Tryz.prog 10 #[.agg #[.slice at_ T.length cap,.int .i64 cr,.int .i64 ca,.int .i64 cs,.int .i64 cg],.string s] w (RetK (callLine T ⟨cr,ca,cs,cg⟩ s) (callCr T ⟨cr,ca,cs,cg⟩) w):=by
 have HT:=hd0 hT;have HNB:=hd0 hNB;clear hT hNB
 go_enter Tryz.func10,Tryz.ntmps10
 have S:=Sep.start w;replace S:=S.alloc_at (n:=w.heap.size) (by simp) #[.slice at_ T.length cap,.int .i64 cr,.int .i64 ca,.int .i64 cs,.int .i64 cg] 31;replace S:=S.alloc_at (n:=(w.heap.size+1)) (by simp) #[.slice none 0 0,.int .i64 0,.int .i64 0,.int .i64 0,.int .i64 0] 31
 go_upto_region 1 with fail
 generalize ((w.alloc (.cells #[.slice at_ T.length cap,.int .i64 cr,.int .i64 ca,.int .i64 cs,.int .i64 cg] 31)).alloc (.cells #[.slice none 0 0,.int .i64 0,.int .i64 0,.int .i64 0,.int .i64 0] 31))=w1 at *;generalize w.heap.size+1=B4 at *;generalize w.heap.size=B3 at *;obtain⟨⟨b3c0,b3f0⟩,⟨b3c1,b3f1⟩,⟨b3c2,b3f2⟩,⟨b3c3,b3f3⟩,⟨b3c4,b3f4⟩⟩:=bx5 (S.box 1 rfl)
 go_wp2_with fail
 clear b3c0 b3f0 b3c1 b3f1 b3c2 b3f2 b3c3 b3f3 b3c4 b3f4;refine(implKernelValid at_ cap T cr ca cs cg w1 hl HT.out (hc.ext S.ext)).mono ?_;rintro e w2 ⟨v,rfl,hv,hE⟩;have Hv:=hd0 hv;clear hv;replace S:=S.step hE;clear hE
 cases v with
 | false =>
  have hno:¬(TreeOk T∧Cr.ok ⟨cr,ca,cs,cg⟩):=fun h=>Bool.noConfusion (Hv.out.2 h)
  have HX:Hid (callLine T ⟨cr,ca,cs,cg⟩ s=([],⟨#[]⟩)∧callCr T ⟨cr,ca,cs,cg⟩=⟨0,0,0,0⟩):=hd0 ⟨by unfold callLine;rw[if_neg hno],by unfold callCr;rw[if_neg hno]⟩;clear hno;obtain⟨⟨b4c0,b4f0⟩,⟨b4c1,b4f1⟩,⟨b4c2,b4f2⟩,⟨b4c3,b4f3⟩,⟨b4c4,b4f4⟩⟩:=bx5 (S.box 0 rfl);go_wp2;clear b4c0 b4f0 b4c1 b4f1 b4c2 b4f2 b4c3 b4f3 b4c4 b4f4;replace S:Sep w (((((w2.setCell ⟨B4,0,none⟩ (.slice none 0 0)).setCell ⟨B4,1,none⟩ (.int .i64 0)).setCell ⟨B4,2,none⟩ (.int .i64 0)).setCell ⟨B4,3,none⟩ (.int .i64 0)).setCell ⟨B4,4,none⟩ (.int .i64 0)) [plBox B4 #[.slice none 0 0,.int .i64 0,.int .i64 0,.int .i64 0,.int .i64 0] 31,plBox B3 #[.slice at_ T.length cap,.int .i64 cr,.int .i64 ca,.int .i64 cs,.int .i64 cg] 31]:=((((S.set 0 rfl 0 _).set 0 rfl 1 _).set 0 rfl 2 _).set 0 rfl 3 _).set 0 rfl 4 _;generalize (((((w2.setCell ⟨B4,0,none⟩ (.slice none 0 0)).setCell ⟨B4,1,none⟩ (.int .i64 0)).setCell ⟨B4,2,none⟩ (.int .i64 0)).setCell ⟨B4,3,none⟩ (.int .i64 0)).setCell ⟨B4,4,none⟩ (.int .i64 0))=wD at *;obtain⟨⟨b4c0,b4f0⟩,⟨b4c1,b4f1⟩,⟨b4c2,b4f2⟩,⟨b4c3,b4f3⟩,⟨b4c4,b4f4⟩⟩:=bx5 (S.box 0 rfl);refine bodyPost_ret (v:=.tuple #[.agg #[.slice none 0 0,.int .i64 0,.int .i64 0,.int .i64 0,.int .i64 0],.string ⟨#[]⟩]) (by simp[results,Tryz.results10,go_sem,b4c0,b4c1,b4c2,b4c3,b4c4]) rfl ?_;rw[HX.out.1,HX.out.2];exact⟨_,[],rfl,nil_tree S.ext⟩
 | true =>
  have hyes:TreeOk T∧Cr.ok ⟨cr,ca,cs,cg⟩:=Hv.out.1 rfl;have HX:Hid (callLine T ⟨cr,ca,cs,cg⟩ s=callF T ⟨cr,ca,cs,cg⟩ (wordsB s)∧callCr T ⟨cr,ca,cs,cg⟩=⟨cr,ca,cs,cg⟩):=hd0 ⟨by unfold callLine;rw[if_pos hyes],by unfold callCr;rw[if_pos hyes]⟩;replace HNB:Hid (NB 1000000 T):=hd0 (HNB.out hyes.1);clear Hv hyes
  go_wp2_with fail
  refine(split_any s w2 (by omega) (hm.ext S.ext)).mono ?_;rintro e w3 ⟨rfl,hw3⟩;have hlenW:(wordsB s).length=Lib.countB s ⟨#[32]⟩+1:=words_count s;rw[split_words]at hw3;obtain⟨W,hW⟩:∃W,W=wordsB s:=⟨_,rfl⟩
  have hWs:∀p∈W,p.size≤1048576:=fun p hp=>by rw[hW]at hp;have:=words_size hp;omega
  have hWl:1≤W.length∧W.length≤1048577:=by rw[hW];have h1:=words_pos s;have h2:=words_len s;omega
  rw[←hlenW,←hW];rw[←hW]at hw3;have S:Sep w (w2.alloc (.cells (W.map Value.string).toArray 9)) (plRow 9 1 encStr1 (.slice (some ⟨w2.heap.size,0,none⟩) W.length W.length) W :: _):=S.lit rfl 9 1 encStr1_len W (by rw[List.toList_toArray];exact str_flat W) rfl (by omega);rw[←hw3]at S;have HW:=hd0 hW;clear hW hlenW hw3;generalize w2.heap.size=gw at *;have hrdW:Rd 1 encStr1 w3 (some ⟨gw,0,none⟩) W:=S.rd 0 encStr1_len rfl rfl;have HRW:=hd0 hrdW;have HWs:=hd0 hWs;have HWl:=hd0 hWl;clear hrdW hWs hWl;generalize hn:W.length=n at *;have Hn:=hd0 hn;clear hn;have HTe:=hd0 (fun w' (hE:Ext w3 w')=>implTell at_ cap T cr ca cs cg gw n W w' (by rw[Hn.out];have:=HWl.out;omega) HWs.out (HRW.out.ext hE) hl HT.out (hc.ext (S.ext.trans hE)) (hm.ext (S.ext.trans hE)));rw[Hn.out]at HTe;have HCF:Hid (callF T ⟨cr,ca,cs,cg⟩ W=match changeF T ⟨cr,ca,cs,cg⟩ W with|some r=>doneT T r|none=>(T,tellF T ⟨cr,ca,cs,cg⟩ W)):=hd0 rfl;have HF:=hd0 (implChange at_ cap T cr ca cs cg gw n W w3 (by rw[Hn.out];have:=HWl.out;omega) HWs.out HRW.out hl HT.out HNB.out (hc.ext S.ext) (hm.ext S.ext));rw[Hn.out]at HF;generalize changeF T ⟨cr,ca,cs,cg⟩ W=oc at *;generalize tellF T ⟨cr,ca,cs,cg⟩ W=tx at *;obtain⟨⟨b3c0,b3f0⟩,⟨b3c1,b3f1⟩,⟨b3c2,b3f2⟩,⟨b3c3,b3f3⟩,⟨b3c4,b3f4⟩⟩:=bx5 (S.box 2 rfl)
  go_wp2_with fail
  clear b3c0 b3f0 b3c1 b3f1 b3c2 b3f2 b3c3 b3f3 b3c4 b3f4;refine HF.out.mono ?_;rintro e w8 ⟨u8,v8,rfl,S8⟩;have HE38:=hd0 (S8.ext.trans (Ext.refl w8).drew);have S:=S.call S8;clear HF;obtain⟨ua,uc,rfl,_,_⟩:=nd_view (S8.at_ 0 rfl);clear S8;have S:Sep w w8 [plNd (.slice ua (oc.getD ([],1)).1.length uc) v8 (oc.getD ([],1)).1,plRow 9 1 encStr1 (.slice (some ⟨gw,0,none⟩) n n) W,plBox B4 #[.slice none 0 0,.int .i64 0,.int .i64 0,.int .i64 0,.int .i64 0] 31,plBox B3 #[.slice at_ T.length cap,.int .i64 cr,.int .i64 ca,.int .i64 cs,.int .i64 cg] 31]:=S
  cases oc with
  | none =>
   have HQ:Hid (callF T ⟨cr,ca,cs,cg⟩ W=(T,tx)):=hd0 HCF.out;clear HCF;simp only[Option.getD_none,Option.isSome_none]at S ⊢;replace S:Sep w w8 [plRow 9 1 encStr1 (.slice (some ⟨gw,0,none⟩) n n) W,plBox B4 #[.slice none 0 0,.int .i64 0,.int .i64 0,.int .i64 0,.int .i64 0] 31,plBox B3 #[.slice at_ T.length cap,.int .i64 cr,.int .i64 ca,.int .i64 cs,.int .i64 cg] 31]:=S.drop 0
   go_upto_region 6 with fail
   replace S:=S.drew;obtain⟨b3c0,_⟩:=bx (S.box 2 rfl) 0 rfl;obtain⟨b3c1,_⟩:=bx (S.box 2 rfl) 1 rfl;obtain⟨b3c2,_⟩:=bx (S.box 2 rfl) 2 rfl;obtain⟨b3c3,_⟩:=bx (S.box 2 rfl) 3 rfl;obtain⟨b3c4,_⟩:=bx (S.box 2 rfl) 4 rfl;have hcd:RdN (World.drew w8) at_ T:=hc.ext S.ext;have HSd:=hd0 S;clear S;refine wp_region_c (V:=VTe (World.drew w8) B3 at_ cap T cr ca cs cg gw n n tx) (fun wv=>Ext (World.drew w8) wv) (fun i=>if i=2 then some 5 else none) [] 9 0 rfl (by decide) (by kernel_rfl) (by kernel_rfl) (by kernel_rfl) (by kernel_rfl) (Ext.refl _) (fun r hr=>by omega) ?_ ?_
   ·intro i o hi ho vz w4 hvl hE hd hrest
    match vz,hvl with
    | [y0,y1,y2,y3,y4,y5,y6,y7,y8],_ =>
    rcases lc9 hi with rfl|rfl|rfl|rfl|rfl|rfl|rfl|rfl|rfl
    all_goals
     obtain rfl:=Option.some.inj ho
    ·clear hd hrest;simp[putAll,Act.put];go_wp2;exact OneC.mk (VTe.ext) rfl rfl hE (Ext.refl _)
    ·have q0:y0=.pointer (some ⟨B3,0,none⟩):=hd ⟨0,.data⟩ (by simp) rfl (.inl rfl);have c0:=cell_ext hE b3c0;subst q0;clear hd hrest;simp[putAll,Act.put];go_wp2;exact OneC.mk (VTe.ext) rfl rfl hE (Ext.refl _)
    ·have q1:y1=.slice at_ T.length cap:=hd ⟨1,.data⟩ (by simp) rfl (.inl rfl);have HC:=hd0 (implCopy at_ cap T w4 hl HT.out (hcd.ext hE));subst q1;clear hd hrest;simp[putAll,Act.put]
     go_wp2_with fail
     refine HC.out.mono ?_;rintro e w5 ⟨u5,vs5,rfl,S5⟩;have S6:=S5.since hE;have hE5:=S5.ext;clear HC S5;go_wp2;exact OneC.mk (VTe.ext) rfl ⟨_,S6⟩ (hE.trans hE5) hE5
    ·clear hd hrest;simp[putAll,Act.put];go_wp2;exact OneC.mk (VTe.ext) rfl rfl hE (Ext.refl _)
    ·have q3:y3=.pointer (some ⟨B3,1,none⟩):=hd ⟨3,.data⟩ (by simp) rfl (.inl rfl);have c1:=cell_ext hE b3c1;have c2:=cell_ext hE b3c2;have c3:=cell_ext hE b3c3;have c4:=cell_ext hE b3c4;subst q3;clear hd hrest;simp[putAll,Act.put];go_wp2;exact OneC.mk (VTe.ext) rfl rfl hE (Ext.refl _)
    ·obtain⟨vs2,S2⟩:∃vs,Sep (World.drew w8) w4 [plNd y2 vs T]:=hd ⟨2,.data⟩ (by simp) rfl (.inr rfl);have q4:y4=.agg #[.int .i64 cr,.int .i64 ca,.int .i64 cs,.int .i64 cg]:=hd ⟨4,.data⟩ (by simp) rfl (.inl rfl);obtain⟨ua2,uc2,rfl,_,_⟩:=nd_view (S2.at_ 0 rfl);have HS2:=hd0 S2;subst q4;clear hd hrest S2;simp[putAll,Act.put];go_wp2;refine⟨rfl,_,rfl,⟨_,vs2,rfl,HS2.out⟩,hE,fun j u hj hne hcon hnd hnc hv=>hv⟩
    ·have c0:=cell_ext hE b3c0;have c1:=cell_ext hE b3c1;have c2:=cell_ext hE b3c2;have c3:=cell_ext hE b3c3;have c4:=cell_ext hE b3c4;clear hd hrest;simp[putAll,Act.put];go_wp2;exact OneC.mk (VTe.ext) rfl rfl hE (Ext.refl _)
    ·clear hd hrest;simp[putAll,Act.put];go_wp2;exact OneC.mk (VTe.ext) rfl rfl hE (Ext.refl _)
    ·have q6:y6=.agg #[.slice at_ T.length cap,.int .i64 cr,.int .i64 ca,.int .i64 cs,.int .i64 cg]:=hd ⟨6,.data⟩ (by simp) rfl (.inl rfl);have q7:y7=.slice (some ⟨gw,0,none⟩) n n:=hd ⟨7,.data⟩ (by simp) rfl (.inl rfl);have HC:=hd0 (HTe.out w4 (HE38.out.trans hE));subst q6 q7;clear hd hrest;simp[putAll,Act.put]
     go_wp2_with fail
     refine HC.out.mono ?_;rintro e w5 ⟨rfl,hE5⟩;have HE5:=hd0 hE5;clear HC hE5;go_wp2;exact OneC.mk (VTe.ext) rfl rfl (hE.trans HE5.out) HE5.out
   intro vz w9 hvl hE hV _
   match vz,hvl with
   | [y0,y1,y2,y3,y4,y5,y6,y7,y8],_ =>
   obtain⟨u5,vs5,q5,S5⟩:∃u vs,y5=.agg #[u,.int .i64 cr,.int .i64 ca,.int .i64 cs,.int .i64 cg]∧Sep (World.drew w8) w9 [plNd u vs T]:=hV 5 (by omega) rfl;have q8:y8=.string tx:=hV 8 (by omega) rfl;have S:=HSd.out.call S5;obtain⟨ua5,uc5,rfl,_,_⟩:=nd_view (S5.at_ 0 rfl);have S:Sep w w9 [plNd (.slice ua5 T.length uc5) vs5 T,plRow 9 1 encStr1 (.slice (some ⟨gw,0,none⟩) n n) W,plBox B4 #[.slice none 0 0,.int .i64 0,.int .i64 0,.int .i64 0,.int .i64 0] 31,plBox B3 #[.slice at_ T.length cap,.int .i64 cr,.int .i64 ca,.int .i64 cs,.int .i64 cg] 31]:=S;subst q5 q8;clear S5 HSd hcd hE b3c0 b3c1 b3c2 b3c3 b3c4;clear hV hvl;simp only[putAll,Act.put,List.take_succ_cons,List.take_zero,List.drop_succ_cons,List.drop_zero];simp;obtain⟨⟨b4c0,b4f0⟩,⟨b4c1,b4f1⟩,⟨b4c2,b4f2⟩,⟨b4c3,b4f3⟩,⟨b4c4,b4f4⟩⟩:=bx5 (S.box 2 rfl);go_wp2;clear b4c0 b4f0 b4c1 b4f1 b4c2 b4f2 b4c3 b4f3 b4c4 b4f4;replace S:Sep w (((((w9.setCell ⟨B4,0,none⟩ (.slice ua5 T.length uc5)).setCell ⟨B4,1,none⟩ (.int .i64 cr)).setCell ⟨B4,2,none⟩ (.int .i64 ca)).setCell ⟨B4,3,none⟩ (.int .i64 cs)).setCell ⟨B4,4,none⟩ (.int .i64 cg)) [plNd (.slice ua5 T.length uc5) vs5 T,plRow 9 1 encStr1 (.slice (some ⟨gw,0,none⟩) n n) W,plBox B4 #[.slice ua5 T.length uc5,.int .i64 cr,.int .i64 ca,.int .i64 cs,.int .i64 cg] 31,plBox B3 #[.slice at_ T.length cap,.int .i64 cr,.int .i64 ca,.int .i64 cs,.int .i64 cg] 31]:=((((S.set 2 rfl 0 _).set 2 rfl 1 _).set 2 rfl 2 _).set 2 rfl 3 _).set 2 rfl 4 _;generalize (((((w9.setCell ⟨B4,0,none⟩ (.slice ua5 T.length uc5)).setCell ⟨B4,1,none⟩ (.int .i64 cr)).setCell ⟨B4,2,none⟩ (.int .i64 ca)).setCell ⟨B4,3,none⟩ (.int .i64 cs)).setCell ⟨B4,4,none⟩ (.int .i64 cg))=wD at *;obtain⟨⟨b4c0,b4f0⟩,⟨b4c1,b4f1⟩,⟨b4c2,b4f2⟩,⟨b4c3,b4f3⟩,⟨b4c4,b4f4⟩⟩:=bx5 (S.box 2 rfl);refine bodyPost_ret (v:=.tuple #[.agg #[.slice ua5 T.length uc5,.int .i64 cr,.int .i64 ca,.int .i64 cs,.int .i64 cg],.string tx]) (by simp[results,Tryz.results10,go_sem,b4c0,b4c1,b4c2,b4c3,b4c4]) rfl ?_;rw[HX.out.1,HX.out.2,←HW.out,HQ.out];replace S:Sep w wD [plNd (.slice ua5 T.length uc5) vs5 T]:=((S.drop 1).drop 1).drop 1;exact⟨_,vs5,rfl,S⟩
  | some r =>
   have HQ:Hid (callF T ⟨cr,ca,cs,cg⟩ W=doneT T r):=hd0 HCF.out;clear HCF HTe;simp only[Option.getD_some,Option.isSome_some]at S ⊢;obtain⟨R,f⟩:=r;dsimp only at S HQ ⊢
   by_cases hf:f=0
   ·subst hf;replace HQ:Hid (callF T ⟨cr,ca,cs,cg⟩ W=(R,⟨#[110,111,110,101]⟩)):=hd0 (HQ.out.trans rfl)
    go_upto_region 9 with fail
    replace S:=S.drew;obtain⟨b3c0,_⟩:=bx (S.box 3 rfl) 0 rfl;obtain⟨b3c1,_⟩:=bx (S.box 3 rfl) 1 rfl;obtain⟨b3c2,_⟩:=bx (S.box 3 rfl) 2 rfl;obtain⟨b3c3,_⟩:=bx (S.box 3 rfl) 3 rfl;obtain⟨b3c4,_⟩:=bx (S.box 3 rfl) 4 rfl;have HSd:=hd0 S
    repeat clear S
    generalize hRl:R.length=uc0 at *;refine wp_region_c (V:=VNo B3 (.slice ua uc0 uc) cr ca cs cg) (fun wv=>Ext (World.drew w8) wv) (fun _=>none) [] 5 0 rfl (by decide) (by kernel_rfl) (by kernel_rfl) (by kernel_rfl) (by kernel_rfl) (Ext.refl _) (fun r hr=>by omega) ?_ ?_
    ·intro i o hi ho vz w4 hvl hE hd hrest
     match vz,hvl with
     | [y0,y1,y2,y3,y4],_ =>
     rcases lc5 hi with rfl|rfl|rfl|rfl|rfl
     all_goals
      obtain rfl:=Option.some.inj ho
     ·clear hd hrest;simp[putAll,Act.put];go_wp2;exact OneC.mk (VNo.ext) rfl rfl hE (Ext.refl _)
     ·clear hd hrest;simp[putAll,Act.put];go_wp2;exact OneC.mk (VNo.ext) rfl rfl hE (Ext.refl _)
     ·have q1:y1=.pointer (some ⟨B3,1,none⟩):=hd ⟨1,.data⟩ (by simp) rfl (.inl rfl);have c1:=cell_ext hE b3c1;have c2:=cell_ext hE b3c2;have c3:=cell_ext hE b3c3;have c4:=cell_ext hE b3c4;subst q1;clear hd hrest;simp[putAll,Act.put];go_wp2;exact OneC.mk (VNo.ext) rfl rfl hE (Ext.refl _)
     ·have q0:y0=.slice ua uc0 uc:=hd ⟨0,.data⟩ (by simp) rfl (.inl rfl);have q2:y2=.agg #[.int .i64 cr,.int .i64 ca,.int .i64 cs,.int .i64 cg]:=hd ⟨2,.data⟩ (by simp) rfl (.inl rfl);subst q0 q2;clear hd hrest;simp[putAll,Act.put];go_wp2;exact OneC.mk (VNo.ext) rfl rfl hE (Ext.refl _)
     ·have HC:=hd0 (implFaultText 0 w4);clear hd hrest;simp[putAll,Act.put]
      go_wp2_with fail
      refine HC.out.mono ?_;rintro e w5 ⟨rfl,hE5⟩;have HE5:=hd0 hE5;clear HC hE5;go_wp2;exact OneC.mk (VNo.ext) rfl rfl (hE.trans HE5.out) HE5.out
    intro vz w9 hvl hE hV _
    match vz,hvl with
    | [y0,y1,y2,y3,y4],_ =>
    have q3:y3=.agg #[.slice ua uc0 uc,.int .i64 cr,.int .i64 ca,.int .i64 cs,.int .i64 cg]:=hV 3 (by omega) rfl;have q4:y4=.string ⟨#[110,111,110,101]⟩:=hV 4 (by omega) rfl;subst q3 q4;have S:=HSd.out.step hE;subst hRl;clear HSd hE b3c0 b3c1 b3c2 b3c3 b3c4;clear hV hvl;simp only[putAll,Act.put,List.take_succ_cons,List.take_zero,List.drop_succ_cons,List.drop_zero];simp;obtain⟨⟨b4c0,b4f0⟩,⟨b4c1,b4f1⟩,⟨b4c2,b4f2⟩,⟨b4c3,b4f3⟩,⟨b4c4,b4f4⟩⟩:=bx5 (S.box 2 rfl);go_wp2;clear b4c0 b4f0 b4c1 b4f1 b4c2 b4f2 b4c3 b4f3 b4c4 b4f4;replace S:Sep w (((((w9.setCell ⟨B4,0,none⟩ (.slice ua R.length uc)).setCell ⟨B4,1,none⟩ (.int .i64 cr)).setCell ⟨B4,2,none⟩ (.int .i64 ca)).setCell ⟨B4,3,none⟩ (.int .i64 cs)).setCell ⟨B4,4,none⟩ (.int .i64 cg)) [plNd (.slice ua R.length uc) v8 R,plRow 9 1 encStr1 (.slice (some ⟨gw,0,none⟩) n n) W,plBox B4 #[.slice ua R.length uc,.int .i64 cr,.int .i64 ca,.int .i64 cs,.int .i64 cg] 31,plBox B3 #[.slice at_ T.length cap,.int .i64 cr,.int .i64 ca,.int .i64 cs,.int .i64 cg] 31]:=((((S.set 2 rfl 0 _).set 2 rfl 1 _).set 2 rfl 2 _).set 2 rfl 3 _).set 2 rfl 4 _;generalize (((((w9.setCell ⟨B4,0,none⟩ (.slice ua R.length uc)).setCell ⟨B4,1,none⟩ (.int .i64 cr)).setCell ⟨B4,2,none⟩ (.int .i64 ca)).setCell ⟨B4,3,none⟩ (.int .i64 cs)).setCell ⟨B4,4,none⟩ (.int .i64 cg))=wD at *;obtain⟨⟨b4c0,b4f0⟩,⟨b4c1,b4f1⟩,⟨b4c2,b4f2⟩,⟨b4c3,b4f3⟩,⟨b4c4,b4f4⟩⟩:=bx5 (S.box 2 rfl);refine bodyPost_ret (v:=.tuple #[.agg #[.slice ua R.length uc,.int .i64 cr,.int .i64 ca,.int .i64 cs,.int .i64 cg],.string ⟨#[110,111,110,101]⟩]) (by simp[results,Tryz.results10,go_sem,b4c0,b4c1,b4c2,b4c3,b4c4]) rfl ?_;rw[HX.out.1,HX.out.2,←HW.out,HQ.out];replace S:Sep w wD [plNd (.slice ua R.length uc) v8 R]:=((S.drop 1).drop 1).drop 1;exact⟨_,v8,rfl,S⟩
   ·replace HQ:Hid (callF T ⟨cr,ca,cs,cg⟩ W=(T,faultText f)):=hd0 (HQ.out.trans (by unfold doneT;rw[if_neg hf]))
    have tf:(f != 0)=true:=by simpa using hf
    clear hf;replace S:Sep w w8 [plRow 9 1 encStr1 (.slice (some ⟨gw,0,none⟩) n n) W,plBox B4 #[.slice none 0 0,.int .i64 0,.int .i64 0,.int .i64 0,.int .i64 0] 31,plBox B3 #[.slice at_ T.length cap,.int .i64 cr,.int .i64 ca,.int .i64 cs,.int .i64 cg] 31]:=S.drop 0
    go_upto_region 8 with fail
    replace S:=S.drew;obtain⟨b3c0,_⟩:=bx (S.box 2 rfl) 0 rfl;obtain⟨b3c1,_⟩:=bx (S.box 2 rfl) 1 rfl;obtain⟨b3c2,_⟩:=bx (S.box 2 rfl) 2 rfl;obtain⟨b3c3,_⟩:=bx (S.box 2 rfl) 3 rfl;obtain⟨b3c4,_⟩:=bx (S.box 2 rfl) 4 rfl;have hcd:RdN (World.drew w8) at_ T:=hc.ext S.ext;have HSd:=hd0 S;clear S;refine wp_region_c (V:=VDn (World.drew w8) B3 at_ cap T cr ca cs cg f) (fun wv=>Ext (World.drew w8) wv) (fun i=>if i=2 then some 5 else none) [] 8 0 rfl (by decide) (by kernel_rfl) (by kernel_rfl) (by kernel_rfl) (by kernel_rfl) (Ext.refl _) (fun r hr=>by omega) ?_ ?_
    ·intro i o hi ho vz w4 hvl hE hd hrest
     match vz,hvl with
     | [y0,y1,y2,y3,y4,y5,y6,y7],_ =>
     rcases lc8 hi with rfl|rfl|rfl|rfl|rfl|rfl|rfl|rfl
     all_goals
      obtain rfl:=Option.some.inj ho
     ·clear hd hrest;simp[putAll,Act.put];go_wp2;exact OneC.mk (VDn.ext) rfl rfl hE (Ext.refl _)
     ·have q0:y0=.pointer (some ⟨B3,0,none⟩):=hd ⟨0,.data⟩ (by simp) rfl (.inl rfl);have c0:=cell_ext hE b3c0;subst q0;clear hd hrest;simp[putAll,Act.put];go_wp2;exact OneC.mk (VDn.ext) rfl rfl hE (Ext.refl _)
     ·have q1:y1=.slice at_ T.length cap:=hd ⟨1,.data⟩ (by simp) rfl (.inl rfl);have HC:=hd0 (implCopy at_ cap T w4 hl HT.out (hcd.ext hE));subst q1;clear hd hrest;simp[putAll,Act.put]
      go_wp2_with fail
      refine HC.out.mono ?_;rintro e w5 ⟨u5,vs5,rfl,S5⟩;have S6:=S5.since hE;have hE5:=S5.ext;clear HC S5;go_wp2;exact OneC.mk (VDn.ext) rfl ⟨_,S6⟩ (hE.trans hE5) hE5
     ·clear hd hrest;simp[putAll,Act.put];go_wp2;exact OneC.mk (VDn.ext) rfl rfl hE (Ext.refl _)
     ·have q3:y3=.pointer (some ⟨B3,1,none⟩):=hd ⟨3,.data⟩ (by simp) rfl (.inl rfl);have c1:=cell_ext hE b3c1;have c2:=cell_ext hE b3c2;have c3:=cell_ext hE b3c3;have c4:=cell_ext hE b3c4;subst q3;clear hd hrest;simp[putAll,Act.put];go_wp2;exact OneC.mk (VDn.ext) rfl rfl hE (Ext.refl _)
     ·obtain⟨vs2,S2⟩:∃vs,Sep (World.drew w8) w4 [plNd y2 vs T]:=hd ⟨2,.data⟩ (by simp) rfl (.inr rfl);have q4:y4=.agg #[.int .i64 cr,.int .i64 ca,.int .i64 cs,.int .i64 cg]:=hd ⟨4,.data⟩ (by simp) rfl (.inl rfl);obtain⟨ua2,uc2,rfl,_,_⟩:=nd_view (S2.at_ 0 rfl);have HS2:=hd0 S2;subst q4;clear hd hrest S2;simp[putAll,Act.put];go_wp2;refine⟨rfl,_,rfl,⟨_,vs2,rfl,HS2.out⟩,hE,fun j u hj hne hcon hnd hnc hv=>hv⟩
     ·clear hd hrest;simp[putAll,Act.put];go_wp2;exact OneC.mk (VDn.ext) rfl rfl hE (Ext.refl _)
     ·have q6:y6=.int .i64 f:=hd ⟨6,.data⟩ (by simp) rfl (.inl rfl);have HC:=hd0 (implFaultText f w4);subst q6;clear hd hrest;simp[putAll,Act.put]
      go_wp2_with fail
      refine HC.out.mono ?_;rintro e w5 ⟨rfl,hE5⟩;have HE5:=hd0 hE5;clear HC hE5;go_wp2;exact OneC.mk (VDn.ext) rfl rfl (hE.trans HE5.out) HE5.out
    intro vz w9 hvl hE hV _
    match vz,hvl with
    | [y0,y1,y2,y3,y4,y5,y6,y7],_ =>
    obtain⟨u5,vs5,q5,S5⟩:∃u vs,y5=.agg #[u,.int .i64 cr,.int .i64 ca,.int .i64 cs,.int .i64 cg]∧Sep (World.drew w8) w9 [plNd u vs T]:=hV 5 (by omega) rfl;have q7:y7=.string (faultText f):=hV 7 (by omega) rfl;have S:=HSd.out.call S5;obtain⟨ua5,uc5,rfl,_,_⟩:=nd_view (S5.at_ 0 rfl);have S:Sep w w9 [plNd (.slice ua5 T.length uc5) vs5 T,plRow 9 1 encStr1 (.slice (some ⟨gw,0,none⟩) n n) W,plBox B4 #[.slice none 0 0,.int .i64 0,.int .i64 0,.int .i64 0,.int .i64 0] 31,plBox B3 #[.slice at_ T.length cap,.int .i64 cr,.int .i64 ca,.int .i64 cs,.int .i64 cg] 31]:=S;subst q5 q7;clear S5 HSd hcd hE b3c0 b3c1 b3c2 b3c3 b3c4;clear hV hvl;simp only[putAll,Act.put,List.take_succ_cons,List.take_zero,List.drop_succ_cons,List.drop_zero];simp;generalize faultText f=tx at *;obtain⟨⟨b4c0,b4f0⟩,⟨b4c1,b4f1⟩,⟨b4c2,b4f2⟩,⟨b4c3,b4f3⟩,⟨b4c4,b4f4⟩⟩:=bx5 (S.box 2 rfl);go_wp2;clear b4c0 b4f0 b4c1 b4f1 b4c2 b4f2 b4c3 b4f3 b4c4 b4f4;replace S:Sep w (((((w9.setCell ⟨B4,0,none⟩ (.slice ua5 T.length uc5)).setCell ⟨B4,1,none⟩ (.int .i64 cr)).setCell ⟨B4,2,none⟩ (.int .i64 ca)).setCell ⟨B4,3,none⟩ (.int .i64 cs)).setCell ⟨B4,4,none⟩ (.int .i64 cg)) [plNd (.slice ua5 T.length uc5) vs5 T,plRow 9 1 encStr1 (.slice (some ⟨gw,0,none⟩) n n) W,plBox B4 #[.slice ua5 T.length uc5,.int .i64 cr,.int .i64 ca,.int .i64 cs,.int .i64 cg] 31,plBox B3 #[.slice at_ T.length cap,.int .i64 cr,.int .i64 ca,.int .i64 cs,.int .i64 cg] 31]:=((((S.set 2 rfl 0 _).set 2 rfl 1 _).set 2 rfl 2 _).set 2 rfl 3 _).set 2 rfl 4 _;generalize (((((w9.setCell ⟨B4,0,none⟩ (.slice ua5 T.length uc5)).setCell ⟨B4,1,none⟩ (.int .i64 cr)).setCell ⟨B4,2,none⟩ (.int .i64 ca)).setCell ⟨B4,3,none⟩ (.int .i64 cs)).setCell ⟨B4,4,none⟩ (.int .i64 cg))=wD at *;obtain⟨⟨b4c0,b4f0⟩,⟨b4c1,b4f1⟩,⟨b4c2,b4f2⟩,⟨b4c3,b4f3⟩,⟨b4c4,b4f4⟩⟩:=bx5 (S.box 2 rfl);refine bodyPost_ret (v:=.tuple #[.agg #[.slice ua5 T.length uc5,.int .i64 cr,.int .i64 ca,.int .i64 cs,.int .i64 cg],.string tx]) (by simp[results,Tryz.results10,go_sem,b4c0,b4c1,b4c2,b4c3,b4c4]) rfl ?_;rw[HX.out.1,HX.out.2,←HW.out,HQ.out];replace S:Sep w wD [plNd (.slice ua5 T.length uc5) vs5 T]:=((S.drop 1).drop 1).drop 1;exact⟨_,vs5,rfl,S⟩
def cntNd (x:Nd):Nat:=5+x.N.length+x.K.length
def sumNd:List Nd→Nat
 | []=>0
 | x :: r=>cntNd x+sumNd r
def RetSM (left:Int) (P:Int→Prop) (w:World) (e:Ending) (w':World):Prop:=∃r:Int,e=.returned (.int .i64 r) ∧ -1≤r∧r≤left∧(0≤r→P r)∧Ext w w'
theorem RetSM.mk {left:Int} {P:Int→Prop} {w w':World} {v:Value} {r:Int} (hv:v=.int .i64 r) (h1 : -1≤r) (h2:r≤left) (h3:0≤r→P r) (hw:Ext w w'):RetSM left P w (.returned v) w':=⟨r,by rw[hv],h1,h2,h3,hw⟩
def KerQ (T:List Nd) (r a s g:Int) (v:Value) (w:World):Prop:=∃a1 c1,v=.agg #[.slice a1 T.length c1,.int .i64 r,.int .i64 a,.int .i64 s,.int .i64 g]∧RdN w a1 T
theorem KerQ.ext {T:List Nd} {r a s g:Int} {v:Value} {w w':World} (h:KerQ T r a s g v w) (hE:Ext w w'):KerQ T r a s g v w':=by
 obtain⟨a1,c1,h1,h2⟩:=h;exact⟨a1,c1,h1,h2.ext hE⟩
theorem sumNd_bd {T:List Nd} {B:Nat} (h:∀x∈T,cntNd x≤B):sumNd T≤T.length*B:=by
 induction T with
 | nil=>exact Nat.zero_le _
 | cons x r ih =>
  have h1:=ih (fun y hy=>h y (List.mem_cons_of_mem _ hy));have h2:=h x (by simp);rw[sumNd,List.length_cons,Nat.succ_mul];omega
def Small (R:List Nd):Prop:=R.length≤1048576∧(∀x∈R,SmN 1048576 x)∧sumNd R≤100000000
theorem small_nil:Small []:=⟨Nat.zero_le _,fun x hx=>by simp at hx,Nat.zero_le _⟩
theorem small_tree {R:List Nd} {b:Nat} (h:TreeOk R) (hb:NB b R) (h1:b≤600000):Small R:=by
 refine⟨by have:=h.max;omega,tree_sm20 h hb (by omega),?_⟩
 have h2:=sumNd_bd (T:=R) (B:=1200005) (fun x hx=>by
  obtain⟨k,hk⟩:=List.getElem?_of_mem hx;have h3:=(h.nodes k x hk).len;have h4:=hb x hx;unfold cntNd
  omega)
 have h5:R.length*1200005≤16*1200005:=Nat.mul_le_mul_right _ h.max;omega
theorem line_small {T:List Nd} {c:Cr} (h:TreeOk T→NB 524288 T) (s:ByteArray):Small (callLine T c s).1:=by
 by_cases hT:TreeOk T∧c.ok
 ·have h1:=callF_ok hT.1 (h hT.1) c (wordsB s);rw[callLine_ok hT];exact small_tree h1.1 h1.2 (by omega)
 ·have e:callLine T c s=([],⟨#[]⟩):=by unfold callLine;rw[if_neg hT]
  rw[e];exact small_nil
def VWay (ap:Option Addr) (nP cp:Nat) (P:List ByteArray) (aw:Option Addr) (nW cw k bw off:Nat) (x:ByteArray) (wr:World) (base:Nat):Nat→Value→World→Prop:=fun i v wv=>match i with
 | 0=>∃g,v=.slice (some ⟨g,0,none⟩) 0 0∧base≤g∧wv.heap[g]?=some (.cells #[] 9)
 | 1=>v=.slice ap nP cp
 | 2=>wv.ownsRow base 9 1 v (P).length ((P).flatMap encStr1)
 | 3=>v=.slice aw nW cw
 | 4=>v=.int .i64 k
 | 5=>v=.pointer (some ⟨bw,off+k,none⟩)
 | 6=>v=.string x
 | 7=>∃g,v=.slice (some ⟨g,0,none⟩) 1 1∧base≤g∧wv.heap[g]?=some (.cells #[.string x] 9)
 | 8=>wv.ownsRow base 9 1 v (P++[x]).length ((P++[x]).flatMap encStr1)
 | _=>True
theorem VWay.ext {ap:Option Addr} {nP cp:Nat} {P:List ByteArray} {aw:Option Addr} {nW cw k bw off:Nat} {x:ByteArray} {wr:World} {base:Nat} (i:Nat) (v:Value) (w1 w2:World) (h:VWay ap nP cp P aw nW cw k bw off x wr base i v w1) (hE:Ext w1 w2):VWay ap nP cp P aw nW cw k bw off x wr base i v w2:=by
 match i with
 | 0=>obtain⟨g,h1,h2,h3⟩:=h;exact⟨g,h1,h2,heapx hE h3⟩
 | 1=>exact h
 | 2=>exact ownsRow_ext (show w1.ownsRow _ _ _ _ _ _ from h) hE
 | 3=>exact h
 | 4=>exact h
 | 5=>exact h
 | 6=>exact h
 | 7=>obtain⟨g,h1,h2,h3⟩:=h;exact⟨g,h1,h2,heapx hE h3⟩
 | 8=>exact ownsRow_ext (show w1.ownsRow _ _ _ _ _ _ from h) hE
 | (n+9)=>trivial
def RetWords (s:ByteArray) (w:World) (e:Ending) (w':World):Prop:=∃u W,e=.returned u∧W.length≤s.size+1∧(∀x∈W,x.size≤s.size)∧Sep w w' [plRow 9 1 encStr1 u W]
theorem specWayWords (s:ByteArray) (w:World) (hs:s.size≤1000000):Calls Tryz.prog 158 #[.string s] w (RetWords s w):=by
 go_enter Tryz.func158,Tryz.ntmps158
 have S:=Sep.start w;replace S:Sep w (w.alloc (.cells #[.string ⟨#[]⟩] 9)) [plRow 9 1 encStr1 (.slice (some ⟨w.heap.size,0,none⟩) 1 1) ([⟨#[]⟩]:List ByteArray)]:=S.lit (by simp) _ _ encStr1_len ([⟨#[]⟩]:List ByteArray) rfl rfl (by omega);go_wp2;generalize (w.alloc (.cells #[.string ⟨#[]⟩] 9))=w1 at *
 go_loopw [3,4] (fun o i wr=>∃(k:Nat) (a:Option Addr) (c:Nat) (X:List ByteArray),k≤s.size∧i=.int .i64 k∧o=.slice a X.length c∧1≤X.length∧X.length≤k+1∧(∀x∈X,x.size≤k)∧Sep w wr [plRow 9 1 encStr1 (.slice a X.length c) X]) (fun _ i _=>s.size - (intOf i).toNat)
 case atStart=>exact⟨0,some ⟨w.heap.size,0,none⟩,1,[⟨#[]⟩],Nat.zero_le _,rfl,rfl,by simp,by simp,fun x hx=>by rw[List.mem_singleton.1 hx];exact Nat.zero_le _,S⟩
 case round =>
  clear S;obtain⟨k,a,c,X,hk,rfl,rfl,hX1,hXl,hF,S⟩:=hrel;have HF:=hd0 hF;clear hF
  by_cases hlt:k < s.size
  rotate_left
  ·obtain rfl:k=s.size:=by omega
   have hni:¬(s.size:Int) < (s.size:Int):=by omega
   go_wp2;go_ret;exact⟨_,X,rfl,hXl,HF.out,S⟩
  ·have i0:(k:Int) < (s.size:Int):=by omega
   have i00:(0:Int)≤(k:Int):=by omega
   by_cases hc:s[k].toNat=47
   ·have hc8:s[k]=47:=UInt8.toNat_inj.1 hc
    have tc:(s[k].toNat:Int)=47:=by omega
    have HFN:Hid (∀x∈X++[(⟨#[]⟩:ByteArray)],x.size≤k+1):=hd0 (fun x hx=>by
     rcases List.mem_append.1 hx with hx|hx
     ·have:=HF.out x hx;omega
     ·rw[List.mem_singleton.1 hx];exact Nat.zero_le _)
    clear hc8 hc;have SA:=S.alloc #[.string ⟨#[]⟩] 9;have rd1:Rd 1 encStr1 (wr.alloc (.cells #[.string ⟨#[]⟩] 9)) (some ⟨wr.heap.size,0,none⟩) [(⟨#[]⟩:ByteArray)]:=rd_lit_new [(⟨#[]⟩:ByteArray)] encStr1_len rfl
    go_wp2_with (at_builtin;refine Hid.out (?_:Hid _))
    unfold Hid;refine wpList_append_b rfl _ _ 39 rfl w.heap.size 9 _ 1 _ Tryz.underlying39 infoStr1 rfl (by decide) encStr1_len encStr1_one _ X.length X rfl (SA.row (0+1) rfl) rfl (some ⟨wr.heap.size,0,none⟩) 1 1 [(⟨#[]⟩:ByteArray)] rfl rfl rd1 (by omega) (by omega) SA.chg.size ?_;intro v7 w7 ho hgr hblk;obtain⟨G,hG⟩:∃G,G=X++[(⟨#[]⟩:ByteArray)]:=⟨_,rfl⟩
    have hGl:G.length=X.length+1:=by rw[hG];simp
    have HGl:=hd0 hGl;clear hGl;rw[←hG]at ho HFN;obtain⟨a7,c7,hv7,hk7,_,_⟩:=view_owns encStr1_len ho;subst hv7;have SM:=(SA.grow (0+1) rfl hgr ho hblk).drop 0;clear ho hgr hblk SA rd1 S hG;go_wp2;go_roundw
    case rel=>exact⟨k+1,a7,c7,G,by omega,by go_num,rfl,by have:=HGl.out;omega,by have:=HGl.out;omega,HFN.out,SM⟩
    case measure=>simp[intOf];omega
   ·have hc8:s[k]≠47:=fun h=>hc (by rw[h];rfl)
    have tc:((s[k].toNat:Int) == 47)=false:=by simp;omega
    obtain⟨m,hm⟩:∃m,X.length=m+1:=⟨X.length - 1,by omega⟩;have hx:X[m]?=some X[m]:=List.getElem?_eq_getElem (by omega);obtain⟨l,hl⟩:∃l,l=X[m]:=⟨_,rfl⟩;rw[←hl]at hx;have hrow:=S.row 0 rfl;obtain⟨g,rfl⟩:=row_blk encStr1_len hrow (by omega)
    have g0:wr.cell? ⟨g,m,none⟩=some (.string l):=by
     have:=owns_at encStr1_len hrow m (by omega) 0 (.string l) (by rw[←hl];rfl)
     simpa using this
    have hls:=HF.out l (List.mem_of_getElem? hx)
    have hE1:(s.extract k (k+1)).size=1:=by rw[ext_one hlt];rfl
    have HFN:Hid (∀x∈X.set m (l++s.extract k (k+1)),x.size≤k+1):=hd0 (fun x hx=>by
     rcases List.mem_or_eq_of_mem_set hx with hx|rfl
     ·have:=HF.out x hx;omega
     ·rw[ByteArray.size_append];omega)
    have hml:m < X.length:=by omega
    have t0:(0:Int) < (X.length:Int):=by omega
    have HXm:=hd0 hm
    have hw1:IntKind.i64.wrap ((X.length:Int) - 1)=(m:Int):=by rw[show(X.length:Int) - 1=m by omega];exact IntWalk.i64_in _ (by omega)
    have hmi:(m:Int) < (X.length:Int):=by omega
    have hwk:IntKind.i64.wrap ((k:Int)+1)=(k:Int)+1:=IntWalk.i64_in _ (by omega)
    have hsz:¬9223372036854775807 < l.size+1:=by omega
    have hkt:((k:Int)+1).toNat=k+1:=by omega
    have hk1:(k:Int)+1≤(s.size:Int):=by omega
    have hk2:(k:Int)≤(k:Int)+1:=by omega
    have hk3:(0:Int)≤(k:Int)+1:=by omega
    clear hc8 hc hl hx hm
    go_wp2_with fail
    go_still_tail 17,(by kernel_rfl)
    change wpList _ _ _ _ _ wr.drew
    generalize hw2:wr.drew=w2
    have he2:Ext wr w2:=by rw[←hw2];exact(Ext.refl wr).drew
    have SM:=(S.step he2).rowSet 0 encStr1_len rfl rfl m 0 (.string (l++s.extract k (k+1))) (l++s.extract k (k+1)) hml (by omega) rfl
    have f0:=(S.step he2).row 0 rfl |>.frozenAt
    have g2:=cell_ext he2 g0;have HSM:=hd0 SM;clear SM S g0 hw2 hrow;go_wp2;go_roundw
    case rel=>exact⟨k+1,some ⟨g,0,none⟩,c,X.set m (l++s.extract k (k+1)),by omega,by go_num,by rw[List.length_set],by rw[List.length_set];omega,by rw[List.length_set];omega,HFN.out,by simpa using HSM.out⟩
    case measure=>simp[intOf];omega
def RetBool (w:World) (e:Ending) (w':World):Prop:=∃v:Bool,e=.returned (.bool v)∧Ext w w'
theorem specWayValid (s:ByteArray) (w:World) (hs:s.size≤1000000):Calls Tryz.prog 157 #[.string s] w (RetBool w):=by
 go_enter Tryz.func157,Tryz.ntmps157
 go_wp2_with fail
 refine(specWayWords s w hs).mono ?_;rintro e w1 ⟨u,W,rfl,hWl,hWs,S⟩;have HWs:=hd0 hWs;obtain⟨a,c,rfl,hcap,hrd,_⟩:=view_owns encStr1_len (S.row 0 rfl);have hE0:=S.ext;have Hrd:=hd0 hrd;clear S hWs hrd hcap;go_wp2
 go_loopw [4] (fun i wr=>∃k:Nat,k≤W.length∧i=.int .i64 k∧Ext w1 wr) (fun i _=>W.length - (intOf i).toNat)
 case atStart=>exact⟨0,Nat.zero_le _,rfl,Ext.refl _⟩
 case round =>
  obtain⟨k,hk,rfl,hb⟩:=hrel
  by_cases hlt:k < W.length
  rotate_left
  ·obtain rfl:k=W.length:=by omega
   have hni:¬(W.length:Int) < (W.length:Int):=by omega
   by_cases h12:W.length≤12
   ·have t12:(W.length:Int)≤12:=by omega
    go_wp2;go_ret;exact⟨_,rfl,hE0.trans hb⟩
   ·have t12:¬(W.length:Int)≤12:=by omega
    go_wp2;go_ret;exact⟨_,rfl,hE0.trans hb⟩
  ·obtain⟨x,b,off,hx,rfl,c0⟩:=atStr (Hrd.out.ext hb) hlt
   have i0:(k:Int) < (W.length:Int):=by omega
   have hxs:x.size≤9223372036854775807:=by have:=HWs.out x (List.mem_of_getElem? hx);omega
   clear hx
   cases h1:x.toList.isEmpty with
   | true =>
    go_wp2;go_roundw
    case rel=>exact⟨k+1,by omega,by go_num,hb⟩
    case measure=>simp[intOf];omega
   | false =>
    cases h2:(x.toList == [46])with
    | true =>
     go_wp2;go_roundw
     case rel=>exact⟨k+1,by omega,by go_num,hb⟩
     case measure=>simp[intOf];omega
    | false =>
     cases h3:(x.toList == [46,46])with
     | true =>
      go_wp2;go_roundw
      case rel=>exact⟨k+1,by omega,by go_num,hb⟩
      case measure=>simp[intOf];omega
     | false =>
      go_wp2_with fail
      refine(specNameValid x wr hxs).mono ?_;rintro e w2 ⟨v,rfl,_,hE⟩;clear c0
      cases v with
      | false =>
       go_wp2;go_ret;exact⟨_,rfl,hE0.trans (hb.trans hE)⟩
      | true =>
       go_wp2;go_roundw
       case rel=>exact⟨k+1,by omega,by go_num,hb.trans hE⟩
       case measure=>simp[intOf];omega
def RetText (w:World) (e:Ending) (w':World):Prop:=∃t:ByteArray,e=.returned (.string t)∧t.size≤54∧Ext w w'
theorem specFollowWay (src way:ByteArray) (w:World) (h1:src.size≤1000000) (h2:way.size≤1000000) (h3:0 < way.size) (h4:way[0].toNat≠47):Calls Tryz.prog 135 #[.string src,.string way] w (RetText w):=by
 have te:=isEmpty_pos h3
 have tc:((way[0].toNat:Int) == 47)=false:=by simp;omega
 have z0:(0:Int) < (way.size:Int):=by omega
 clear h4
 go_enter Tryz.func135,Tryz.ntmps135
 go_wp2_with fail
 refine(specPathParts src w (by omega)).mono ?_;rintro e w1 ⟨u,P0,ok,rfl,hR,S⟩;obtain⟨hP6,hP8⟩:=parts_len hR;have HP8:=hd0 hP8;obtain⟨ap0,cp0,rfl,hcap0,hrd0,_⟩:=view_owns encStr1_len (S.row 0 rfl);have Hrd0:=hd0 hrd0;have E1:=S.ext;clear hP8 hrd0 S hR
 cases ok with
 | false =>
  go_wp2;go_ret;exact⟨_,rfl,Nat.zero_le _,E1⟩
 | true =>
  go_wp2_with fail
  refine(specWayValid way w1 h2).mono ?_;rintro e w2 ⟨v,rfl,hE⟩;have E2:=E1.trans hE
  cases v with
  | false =>
   go_wp2;go_ret;exact⟨_,rfl,Nat.zero_le _,E2⟩
  | true =>
   go_wp2_with fail
   refine(specWayWords way w2 h2).mono ?_;rintro e w3 ⟨u,W,rfl,hWl,hWs,S⟩;have HWs:=hd0 hWs;obtain⟨aw,cw,rfl,hcapw,hrdw,_⟩:=view_owns encStr1_len (S.row 0 rfl);have Hrw:=hd0 hrdw;have HP0:Hid (Rd 1 encStr1 w3 ap0 P0):=hd0 ((Hrd0.out.ext hE).ext S.ext);have E3:=hd0 (E2.trans S.ext);have HPs:Hid (∀p∈P0,p.size≤1000000):=hd0 (fun p hp=>by have:=HP8.out p hp;omega);clear hWs hrdw S hcapw Hrd0 E1 E2 hE HP8;go_wp2
   go_loopw [5,8,50,53] (fun ps i _ _ wr=>∃(k:Nat) (a:Option Addr) (c:Nat) (P:List ByteArray),k≤W.length∧i=.int .i64 k∧ps=.slice a P.length c∧P.length≤6∧P.length≤c∧(∀p∈P,p.size≤1000000)∧Rd 1 encStr1 wr a P∧Ext w3 wr) (fun _ i _ _ _=>W.length - (intOf i).toNat)
   case atStart=>exact⟨0,ap0,cp0,P0,Nat.zero_le _,rfl,rfl,hP6,hcap0,HPs.out,HP0.out,Ext.refl _⟩
   case round =>
    clear hcap0 hP6;obtain⟨k,ap,cp,P,hk,rfl,rfl,hP6,hcap,hPs,hrP,hb⟩:=hrel;have HPs2:=hd0 hPs;have HrP:=hd0 hrP;clear hPs hrP
    by_cases hlt:k < W.length
    rotate_left
    ·obtain rfl:k=W.length:=by omega
     have hni:¬(W.length:Int) < (W.length:Int):=by omega
     go_wp2_with fail
     refine(specJoinPath ap cp P wr (by omega) (fun x hx=>by have:=HPs2.out x hx;omega) HrP.out).mono ?_;rintro e w9 ⟨v,rfl,rfl,hE⟩;go_wp2;go_ret;exact⟨_,rfl,joinPath_size P,(E3.out.trans hb).trans hE⟩
    ·obtain⟨x,bw,off,hx,rfl,c0⟩:=atStr (Hrw.out.ext hb) hlt
     have i0:(k:Int) < (W.length:Int):=by omega
     have hxs:=HWs.out x (List.mem_of_getElem? hx)
     have t6:¬(6:Int) < (P.length:Int):=by omega
     clear hx
     cases h1:x.toList.isEmpty with
     | true =>
      go_wp2;go_roundw
      case rel=>exact⟨k+1,ap,cp,P,by omega,by go_num,rfl,hP6,hcap,HPs2.out,HrP.out,hb⟩
      case measure=>simp[intOf];omega
     | false =>
      cases h2:(x.toList == [46])with
      | true =>
       go_wp2;go_roundw
       case rel=>exact⟨k+1,ap,cp,P,by omega,by go_num,rfl,hP6,hcap,HPs2.out,HrP.out,hb⟩
       case measure=>simp[intOf];omega
      | false =>
       cases h3:(x.toList == [46,46])with
       | true =>
        by_cases hP:P=[]
        ·have t0:¬(0:Int) < (P.length:Int):=by rw[hP];simp
         go_wp2;go_roundw
         case rel=>exact⟨k+1,ap,cp,P,by omega,by go_num,rfl,hP6,hcap,HPs2.out,HrP.out,hb⟩
         case measure=>simp[intOf];omega
        ·obtain⟨m,hm⟩:∃m,P.length=m+1:=⟨P.length - 1,by have:=List.length_pos_iff.2 hP;omega⟩;obtain⟨l,b1,off1,_,rfl,_⟩:=atStr HrP.out (show m < P.length by omega)
         have t0:(0:Int) < (P.length:Int):=by omega
         have hwm:IntKind.i64.wrap ((P.length:Int) - 1)=(m:Int):=by rw[show(P.length:Int) - 1=m by omega];exact IntWalk.i64_in _ (by omega)
         have hmc:(m:Int)≤(cp:Int):=by omega
         have t7:¬(6:Int) < (m:Int):=by omega
         have Hm:=hd0 hm;clear hm hP;go_wp2;go_roundw
         case rel=>exact⟨k+1,some ⟨b1,off1,none⟩,cp,P.take m,by omega,by go_num,by rw[List.length_take];have:=Hm.out;congr 1;omega,by rw[List.length_take];have:=Hm.out;omega,by rw[List.length_take];omega,fun p hp=>HPs2.out p (List.mem_of_mem_take hp),HrP.out.take m,hb⟩
         case measure=>simp[intOf];omega
       | false =>
        go_upto_region 11 with fail
        have hrP:=HrP.out;have c3F:=c0;refine wp_region_t (V:=VWay ap P.length cp P (some ⟨bw,off,none⟩) W.length cw k bw off x wr wr.heap.size) (Ext wr) (fun i=>if i=0 then some 2 else if i=2 then some 8 else if i=7 then some 8 else none) [(8,2)] 9 0 rfl (by decide) (by kernel_rfl) (by kernel_rfl) (by kernel_rfl) (by kernel_rfl) (Ext.refl wr).drew (fun r hr=>absurd hr (Nat.not_lt_zero _)) ?_ ?_
        ·intro i o hi ho vz w4 hvl hE hd hrest;have hsz:wr.heap.size≤w4.heap.size:=hE.size
         match vz,hvl with
         | [y0,y1,y2,y3,y4,y5,y6,y7,y8],_ =>
         rcases lc9 hi with rfl|rfl|rfl|rfl|rfl|rfl|rfl|rfl|rfl
         all_goals
          obtain rfl:=Option.some.inj ho
         ·clear hd hrest;simp[putAll,Act.put];go_wp2;exact OneC.mk (VWay.ext) rfl ⟨_,rfl,hsz,heap_alloc_new w4 _⟩ (hE.alloc _) ((Ext.refl _).alloc _)
         ·clear hd hrest;simp[putAll,Act.put];go_wp2;exact OneC.mk (VWay.ext) rfl rfl hE (Ext.refl _)
         ·obtain⟨gq0,q0,hbq0,hgq0⟩:∃g,y0=.slice (some ⟨g,0,none⟩) 0 0∧wr.heap.size≤g∧w4.heap[g]?=some (.cells #[] 9):=hd ⟨0,.data⟩ (by simp) rfl (by decide);have q1:y1=.slice ap P.length cp:=hd ⟨1,.data⟩ (by simp) rfl (by decide);have hr4:=Rd.ext hrP hE;subst q0 q1;clear hd hrest;simp[putAll,Act.put];refine wpList_append_lit rfl _ _ 39 rfl wr.heap.size 9 _ 1 _ Tryz.underlying39 infoStr1 rfl (by decide) encStr1_len encStr1_one gq0 rfl hgq0 hbq0 ap (P.length) _ (P) rfl (rfl) hr4 (by omega) (by omega) hsz ?_;intro v9 w9 ho9 hE9;go_wp2;exact OneC.mk (VWay.ext) rfl ho9 (hE.trans hE9) hE9
         ·clear hd hrest;simp[putAll,Act.put];go_wp2;exact OneC.mk (VWay.ext) rfl rfl hE (Ext.refl _)
         ·clear hd hrest;simp[putAll,Act.put];go_wp2;exact OneC.mk (VWay.ext) rfl rfl hE (Ext.refl _)
         ·have q3:y3=.slice (some ⟨bw,off,none⟩) W.length cw:=hd ⟨3,.data⟩ (by simp) rfl (by decide);have q4:y4=.int .i64 k:=hd ⟨4,.data⟩ (by simp) rfl (by decide);subst q3 q4;clear hd hrest;simp[putAll,Act.put];go_wp2;exact OneC.mk (VWay.ext) rfl rfl hE (Ext.refl _)
         ·have q5:y5=.pointer (some ⟨bw,off+k,none⟩):=hd ⟨5,.data⟩ (by simp) rfl (by decide);have c3:=cell_ext hE c3F;subst q5;clear hd hrest;simp[putAll,Act.put];go_wp2;exact OneC.mk (VWay.ext) rfl rfl hE (Ext.refl _)
         ·have q6:y6=.string x:=hd ⟨6,.data⟩ (by simp) rfl (by decide);subst q6;clear hd hrest;simp[putAll,Act.put];go_wp2;exact OneC.mk (VWay.ext) rfl ⟨_,rfl,hsz,heap_alloc_new w4 _⟩ (hE.alloc _) ((Ext.refl _).alloc _)
         ·have q0:w4.ownsRow wr.heap.size 9 1 y2 (P).length ((P).flatMap encStr1):=hd ⟨2,.data⟩ (by simp) rfl (by decide);obtain⟨gq1,q1,hbq1,hgq1⟩:∃g,y7=.slice (some ⟨g,0,none⟩) 1 1∧wr.heap.size≤g∧w4.heap[g]?=some (.cells #[.string x] 9):=hd ⟨7,.data⟩ (by simp) rfl (by decide);have hrd:Rd 1 encStr1 w4 (some ⟨gq1,0,none⟩) [x]:=rd_lit [x] encStr1_len hgq1 rfl;subst q1;clear hd hrest;simp[putAll,Act.put];refine wpList_append_rd rfl _ _ 39 rfl wr.heap.size 9 _ 1 _ Tryz.underlying39 infoStr1 rfl (by decide) encStr1_len encStr1_one _ (P).length (P) rfl q0 rfl (some ⟨gq1,0,none⟩) 1 1 [x] rfl rfl hrd (by first|omega|(simp;omega)) (by omega) hsz ?_;intro v9 w9 ho9 hg9;have hE9:Ext wr w9:=hE.grown hg9 (fun k h=>(q0.lt k h).1);go_wp2;refine⟨rfl,_,rfl,ho9,hE9,fun j u hj hne hcon hnd hnc hv=>?_⟩
          match j with
          | 0=>exact absurd (by decide) (hnc 2 rfl)
          | 1=>exact hv
          | 2=>exact absurd rfl hcon
          | 3=>exact hv
          | 4=>exact hv
          | 5=>exact hv
          | 6=>exact hv
          | 7=>exact absurd rfl hcon
          | 8=>exact absurd rfl hne
          | (zz+9)=>trivial
        ·intro vz wE hvl hE hV _
         match vz,hvl with
         | [y0,y1,y2,y3,y4,y5,y6,y7,y8],_ =>
          have o8:wE.ownsRow wr.heap.size 9 1 y8 (P++[x]).length ((P++[x]).flatMap encStr1):=hV 8 (by omega) rfl;obtain⟨a8,c8,hv8,hcap8,hrd8,_⟩:=view_owns encStr1_len o8;obtain⟨G,hG⟩:∃G,G=P++[x]:=⟨_,rfl⟩
          have hGl:G.length=P.length+1:=by rw[hG];simp
          have HG:=hd0 hG;rw[←hG]at hv8 hcap8 hrd8;have Hrd8:=hd0 hrd8;clear hV o8 hG hrd8 c0 c3F hrP;subst hv8;have hbE:=hb.trans hE;clear hE;simp only[putAll,Act.put,List.take_succ_cons,List.take_zero,List.drop_succ_cons,List.drop_zero];simp
          by_cases h6:P.length=6
          ·have t7:(6:Int) < (G.length:Int):=by omega
           have HGl:=hd0 hGl;clear hGl;go_wp2;go_ret;exact⟨_,rfl,Nat.zero_le _,E3.out.trans hbE⟩
          ·have t7:¬(6:Int) < (G.length:Int):=by omega
           have HGl:=hd0 hGl;clear hGl;go_wp2;go_roundw
           case rel =>
            refine⟨k+1,a8,c8,G,by omega,by go_num,rfl,by have:=HGl.out;omega,hcap8,fun p hp=>?_,Hrd8.out,hbE⟩;rw[HG.out]at hp
            rcases List.mem_append.1 hp with hp|hp
            ·exact HPs2.out p hp
            ·rw[List.mem_singleton.1 hp];omega
           case measure=>simp[intOf];omega
end Go.Proofs.YtnibbldfohbfkaaGreatDoor
