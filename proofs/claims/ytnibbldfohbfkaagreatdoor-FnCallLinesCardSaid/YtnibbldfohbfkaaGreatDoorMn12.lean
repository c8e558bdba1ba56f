/- Parts of one proof: what each theorem proves, and its conditions, stand in its own statement. -/
import Derived.Test.YtnibbldfohbfkaaGreatDoorMn11
set_option linter.all false
set_option maxRecDepth 100000
set_option maxHeartbeats 32000000
namespace Go.Proofs.YtnibbldfohbfkaaGreatDoor
open Go.RowKit
def insN (x:Nd) (s:ByteArray):List ByteArray:=x.N.take (posOf x.N s)++s :: x.N.drop (posOf x.N s)
def insK (x:Nd) (s:ByteArray) (y:Int):List Int:=x.K.take (posOf x.N s)++y :: x.K.drop (posOf x.N s)
theorem SepM.nd_pin' {M:Nat→Prop} {w0 w:World} {H:List Pl} (S:SepM M w0 w H) (i:Nat) {g n cap:Nat} {vs:List Nc} {T:List Nd} {k:Nat} {c:Nc} {x:Nd} (h:H[i]?=some (plNd (.slice (some ⟨g,0,none⟩) n cap) vs T)) (hc:vs[k]?=some c) (hx:T[k]?=some x) :
  w.ownsRow 0 9 1 (.slice c.an x.N.length c.cn) x.N.length (x.N.flatMap encStr1)∧w.ownsRow 0 3 1 (.slice c.ak x.K.length c.ck) x.K.length (x.K.flatMap encInt1)∧(∀b,((Value.slice c.an x.N.length c.cn).ownBlock=some b∨(Value.slice c.ak x.K.length c.ck).ownBlock=some b)→b≠g∧w0.heap.size≤b∧b < w.heap.size)∧(∀b,(Value.slice c.an x.N.length c.cn).ownBlock=some b→¬(Value.slice c.ak x.K.length c.ck).ownBlock=some b):=by
 obtain⟨h1,h2,h3,h4,h5⟩:=S.at_ i h;obtain⟨e1,p1,p2,p3⟩:=h3 k c x hc hx;subst e1;exact⟨p1,p2,fun b hb=>⟨fun e=>h4 c (List.mem_of_getElem? hc) b hb (by rw[e];rfl),S.lt (List.mem_of_getElem? h) (show(plNd (.slice (some ⟨g,0,none⟩) n cap) vs T).own b from .inr ⟨c,List.mem_of_getElem? hc,hb⟩)⟩,p3⟩
structure AdOk (W0:World) (H:List Pl) (g:Nat) (c:Nc) (N':List ByteArray) (K':List Int) (v9 v17:Value) (wv:World):Prop where
 ex:∃w5,Sep W0 w5 H∧Chg (fun b=>b=g∨pinNd.own c b) w5 wv∧(∀b,v9.ownBlock=some b→(Value.slice c.an c.n.N.length c.cn).ownBlock=some b∨w5.heap.size≤b)∧(∀b,v17.ownBlock=some b→(Value.slice c.ak c.n.K.length c.ck).ownBlock=some b∨w5.heap.size≤b)
 e9:∃a c,v9=.slice a N'.length c
 e17:∃a c,v17=.slice a K'.length c
 r9:wv.ownsRow 0 9 1 v9 N'.length (N'.flatMap encStr1)
 r17:wv.ownsRow 0 3 1 v17 K'.length (K'.flatMap encInt1)
 ng:(∀b,v9.ownBlock=some b→b≠g)∧∀b,v17.ownBlock=some b→b≠g
 apart:∀b,v9.ownBlock=some b→¬v17.ownBlock=some b
theorem AdOk.ext {W0:World} {H:List Pl} {g:Nat} {c:Nc} {N':List ByteArray} {K':List Int} {v9 v17:Value} {w w':World} (h:AdOk W0 H g c N' K' v9 v17 w) (hE:Ext w w'):AdOk W0 H g c N' K' v9 v17 w':=by
 obtain⟨w5,h1,h2,h3,h4⟩:=h.ex;exact⟨⟨w5,h1,h2.trans (Chg.of_ext hE),h3,h4⟩,h.e9,h.e17,ownsRow_ext h.r9 hE,ownsRow_ext h.r17 hE,h.ng,h.apart⟩
theorem AdOk.store {W0:World} {H:List Pl} {g:Nat} {c:Nc} {N':List ByteArray} {K':List Int} {v9 v17:Value} {w:World} (h:AdOk W0 H g c N' K' v9 v17 w) (o:Nat) (u:Value):AdOk W0 H g c N' K' v9 v17 (w.setCell ⟨g,o,none⟩ u):=by
 obtain⟨w5,h1,h2,h3,h4⟩:=h.ex;have hch:=Chg.setCell w g o u;exact⟨⟨w5,h1,h2.trans (hch.mono (fun b hb _=>.inl hb)),h3,h4⟩,h.e9,h.e17,(plRow 9 1 encStr1 v9 N').frame w _ h.r9 (fun b hb=>hch.block b ((plRow 9 1 encStr1 v9 N').lt w b h.r9 hb) (h.ng.1 b hb)),(plRow 3 1 encInt1 v17 K').frame w _ h.r17 (fun b hb=>hch.block b ((plRow 3 1 encInt1 v17 K').lt w b h.r17 hb) (h.ng.2 b hb)),h.ng,h.apart⟩
def VAd (W0:World) (H:List Pl) (g nT cap:Nat) (vs:List Nc) (k:Nat) (x:Nd) (an:Option Addr) (cn:Nat) (ak:Option Addr) (ck:Nat) (s:ByteArray) (y:Int) (base:Nat):Nat→Value→List Value→World→Prop:=fun i v us wv=>match i with
 | 0=>v=.pointer (some ⟨g,k*7,none⟩)
 | 1=>v=.pointer (some ⟨g,k*7,none⟩)
 | 2=>v=.pointer (some ⟨g,k*7,none⟩)
 | 3=>v=.pointer (some ⟨g,k*7,none⟩)
 | 4=>v=.pointer (some ⟨g,k*7+5,none⟩)
 | 5=>v=.slice an x.N.length cn
 | 6=>v=.int .i64 (posOf x.N s:Nat)
 | 7=>v=.string s
 | 8=>∃b,v=.slice (some ⟨b,0,none⟩) 1 1∧base≤b∧wv.heap[b]?=some (.cells #[.string s] 9)
 | 9=>∃a9 c9 w5,v=.slice a9 (insN x s).length c9∧Sep W0 w5 H∧Chg (fun b=>(Value.slice an x.N.length cn).ownBlock=some b) w5 wv∧wv.ownsRow 0 9 1 v (insN x s).length ((insN x s).flatMap encStr1)∧(∀b,v.ownBlock=some b→(Value.slice an x.N.length cn).ownBlock=some b∨w5.heap.size≤b)
 | 10=>v=.pointer (some ⟨g,k*7,none⟩)
 | 11=>v=.pointer (some ⟨g,k*7,none⟩)
 | 12=>v=.pointer (some ⟨g,k*7+6,none⟩)
 | 13=>v=.slice ak x.K.length ck
 | 14=>v=.int .i64 (posOf x.N s:Nat)
 | 15=>v=.int .i64 y
 | 16=>∃b,v=.slice (some ⟨b,0,none⟩) 1 1∧base≤b∧wv.heap[b]?=some (.cells #[.int .i64 y] 3)
 | 17=>AdOk W0 H g ⟨x,an,cn,ak,ck⟩ (insN x s) (insK x s y) (us.getD 0 undef) v wv∧wv.ownsRow 0 89 7 (.slice (some ⟨g,0,none⟩) nT cap) vs.length (vs.flatMap encNc)
 | 18=>v=.pointer (some ⟨g,k*7,none⟩)
 | 19=>v=.pointer (some ⟨g,k*7+5,none⟩)
 | 20=>AdOk W0 H g ⟨x,an,cn,ak,ck⟩ (insN x s) (insK x s y) (us.getD 0 undef) (us.getD 1 undef) wv∧∃a9 c9,us.getD 0 undef=.slice a9 (insN x s).length c9∧wv.ownsRow 0 89 7 (.slice (some ⟨g,0,none⟩) nT cap) nT ((vs.set k (⟨⟨x.fold,x.own,x.grp,x.mode,x.text,insN x s,x.K⟩,a9,c9,ak,ck⟩:Nc)).flatMap encNc)
 | 21=>Sep W0 wv H
 | 22=>wv.cell? ⟨g,k*7+5,none⟩=some (.slice an x.N.length cn)
 | 23=>wv.cell? ⟨g,k*7+6,none⟩=some (.slice ak x.K.length ck)
 | _=>True
theorem VAd.ext {W0:World} {H:List Pl} {g nT cap:Nat} {vs:List Nc} {k:Nat} {x:Nd} {an:Option Addr} {cn:Nat} {ak:Option Addr} {ck:Nat} {s:ByteArray} {y:Int} {base:Nat} (i:Nat) (v:Value) (us:List Value) (w1 w2:World) (h:VAd W0 H g nT cap vs k x an cn ak ck s y base i v us w1) (hE:Ext w1 w2):VAd W0 H g nT cap vs k x an cn ak ck s y base i v us w2:=by
 match i with
 | 0|1|2|3|4|5|6|7|10|11|12|13|14|15|18|19=>exact h
 | 8=>obtain⟨b,h1,h2,h3⟩:=h;exact⟨b,h1,h2,heapx hE h3⟩
 | 9=>obtain⟨a9,c9,w5,h1,h2,h3,h4,h5⟩:=h;exact⟨a9,c9,w5,h1,h2,h3.trans (Chg.of_ext hE),ownsRow_ext h4 hE,h5⟩
 | 16=>obtain⟨b,h1,h2,h3⟩:=h;exact⟨b,h1,h2,heapx hE h3⟩
 | 17=>exact⟨h.1.ext hE,ownsRow_ext h.2 hE⟩
 | 20=>obtain⟨h1,a9,c9,h2,h3⟩:=h;exact⟨h1.ext hE,a9,c9,h2,ownsRow_ext h3 hE⟩
 | 21=>exact SepM.step (show Sep W0 w1 H from h) hE
 | 22=>exact cell_ext hE h
 | 23=>exact cell_ext hE h
 | (n+24)=>trivial
theorem implAddName {W0 w:World} {H:List Pl} (S:Sep W0 w H) (i:Nat) {g nT cap:Nat} {vs:List Nc} {T:List Nd} (hiH:H[i]?=some (plNd (.slice (some ⟨g,0,none⟩) nT cap) vs T)) {k:Nat} {x:Nd} (hxk:T[k]?=some x) (many:Nat) (hN:NodeOk x many) (hNl:x.N.length≤1000000) (s:ByteArray) (y:Int) :
  Calls Tryz.prog 116 #[.pointer (some ⟨g,k*7,none⟩),.string s,.int .i64 y] w (fun e w'=>e=.returned (.tuple #[])∧∃vs',Sep W0 w' (H.set i (plNd (.slice (some ⟨g,0,none⟩) nT cap) vs' (T.set k (putNd x s y))))):=by
 obtain⟨c,g',cap',hu,_,hck,hcn,hcell,hfz,_,_,_,_,hrN,hrK⟩:=S.ndAt i hiH hxk
 obtain⟨rfl,rfl,rfl⟩:g=g'∧nT=T.length∧cap=cap':=by simp only[Value.slice.injEq,Option.some.injEq,Addr.mk.injEq,and_true,true_and]at hu;exact⟨hu.1,hu.2.1,hu.2.2⟩
 obtain⟨x',an,cn,ak,ck⟩:=c;dsimp only at hcn;subst hcn;obtain⟨x,hxx⟩:∃z,z=x':=⟨_,rfl⟩;subst hxx;have hA:=node_asc hN;have HLen:=hd0 hN.len;have d5:w.cell? ⟨g,k*7+5,none⟩=some (.slice an x.N.length cn):=hcell 5 _ rfl;have d6:w.cell? ⟨g,k*7+6,none⟩=some (.slice ak x.K.length ck):=hcell 6 _ rfl;have hgl:=S.lt (List.mem_of_getElem? hiH) (show(plNd (.slice (some ⟨g,0,none⟩) T.length cap) vs T).own g from .inl rfl)
 have hpb0:∀b,pinNd.own (⟨x,an,cn,ak,ck⟩:Nc) b→b < w.heap.size:=fun b hb=>(S.lt (List.mem_of_getElem? hiH) (show(plNd (.slice (some ⟨g,0,none⟩) T.length cap) vs T).own b from .inr ⟨_,List.mem_of_getElem? hck,hb⟩)).2
 have HSe:=hd0 (search_any an cn _ x.N s w rfl hA (by omega) hrN);have HS:=hd0 S;clear hcell hu hA hN hrN hrK S hfz
 go_enter Tryz.func116,Tryz.ntmps116
 go_wp2_with fail
 refine HSe.out.mono ?_;rintro e w1 ⟨fd,rfl,_,hE1⟩
 go_upto_region 1 with fail
 obtain⟨base,hbase⟩:∃base,base=w1.heap.size:=⟨_,rfl⟩
 have hb0:base=(World.drew w1).heap.size:=by rw[hbase];rfl
 have hgb:g < base:=by have:=hE1.size;omega
 have hpb:∀b,pinNd.own (⟨x,an,cn,ak,ck⟩:Nc) b→b < base:=fun b hb=>by have:=hpb0 b hb;have:=hE1.size;omega
 have Sd:Sep W0 (World.drew w1) H:=(HS.out.step hE1).drew;have e5:(World.drew w1).cell? ⟨g,k*7+5,none⟩=some (.slice an x.N.length cn):=cell_ext (hE1.drew) d5;have e6:(World.drew w1).cell? ⟨g,k*7+6,none⟩=some (.slice ak x.K.length ck):=cell_ext (hE1.drew) d6;clear d5 d6 HSe HS hE1 hpb0 hbase hgl;refine wp_region_d (V:=VAd W0 H g T.length cap vs k x an cn ak ck s y base) (fun i=>if i=17 then[9]else if i=20 then[9,17]else[]) (fun _ wv=>Chg (fun b=>b=g∨pinNd.own (⟨x,an,cn,ak,ck⟩:Nc) b) (World.drew w1) wv) (fun i=>if i=21 then some 9 else if i=22 then some 5 else if i=9 then some 17 else if i=17 then some 20 else none) [(17,9),(20,9),(20,17),(20,5)] 21 3 rfl (by decide) (by kernel_rfl) (by kernel_rfl) (by kernel_rfl) (by kernel_rfl) (by kernel_rfl) (Chg.refl _ _) (fun r hr=>match r,hr with|0,_=>Sd|1,_=>e5|2,_=>e6) ?_ ?_
 ·intro i2 o hi ho k2 hk2 vz w4 hvl hI hd hrest
  have hsz:base≤w4.heap.size:=by rw[hb0];exact hI.size
  match vz,hvl with
  | [y0,y1,y2,y3,y4,y5,y6,y7,y8,y9,y10,y11,y12,y13,y14,y15,y16,y17,y18,y19,y20],_ =>
  rcases(show i2=0∨i2=1∨i2=2∨i2=3∨i2=4∨i2=5∨i2=6∨i2=7∨i2=8∨i2=9∨i2=10∨i2=11∨i2=12∨i2=13∨i2=14∨i2=15∨i2=16∨i2=17∨i2=18∨i2=19∨i2=20 by omega)with rfl|rfl|rfl|rfl|rfl|rfl|rfl|rfl|rfl|rfl|rfl|rfl|rfl|rfl|rfl|rfl|rfl|rfl|rfl|rfl|rfl
  all_goals
   obtain rfl:=Option.some.inj ho
  ·clear hd hrest;simp[putAll,Act.put];go_wp2;exact OneD.mk (VAd.ext) rfl rfl hI (Ext.refl _)
  ·clear hd hrest;simp[putAll,Act.put];go_wp2;exact OneD.mk (VAd.ext) rfl rfl hI (Ext.refl _)
  ·clear hd hrest;simp[putAll,Act.put];go_wp2;exact OneD.mk (VAd.ext) rfl rfl hI (Ext.refl _)
  ·have q1:y2=.pointer (some ⟨g,k*7,none⟩):=hd ⟨2,.data⟩ (by simp) rfl (.inl rfl);subst q1;clear hd hrest;simp[putAll,Act.put];go_wp2;exact OneD.mk (VAd.ext) rfl rfl hI (Ext.refl _)
  ·have q1:y3=.pointer (some ⟨g,k*7,none⟩):=hd ⟨3,.data⟩ (by simp) rfl (.inl rfl);subst q1;clear hd hrest;simp[putAll,Act.put];go_wp2;exact OneD.mk (VAd.ext) rfl rfl hI (Ext.refl _)
  ·have q1:y4=.pointer (some ⟨g,k*7+5,none⟩):=hd ⟨4,.data⟩ (by simp) rfl (.inl rfl);have c5:w4.cell? ⟨g,k*7+5,none⟩=some (.slice an x.N.length cn):=hrest 1 (by omega) (.inr rfl);subst q1;clear hd hrest;simp[putAll,Act.put];go_wp2;exact OneD.mk (VAd.ext) rfl rfl hI (Ext.refl _)
  ·clear hd hrest;simp[putAll,Act.put];go_wp2;exact OneD.mk (VAd.ext) rfl rfl hI (Ext.refl _)
  ·clear hd hrest;simp[putAll,Act.put];go_wp2;exact OneD.mk (VAd.ext) rfl rfl hI (Ext.refl _)
  ·have q1:y7=.string s:=hd ⟨7,.data⟩ (by simp) rfl (.inl rfl);subst q1;clear hd hrest;simp[putAll,Act.put];go_wp2;exact OneD.mk (VAd.ext) rfl ⟨_,rfl,hsz,heap_alloc_new w4 _⟩ (hI.trans (Chg.of_ext ((Ext.refl w4).alloc _))) ((Ext.refl _).alloc _)
  ·have q1:y5=.slice an x.N.length cn:=hd ⟨5,.data⟩ (by simp) rfl (.inl rfl);have q2:y6=.int .i64 (posOf x.N s:Nat):=hd ⟨6,.data⟩ (by simp) rfl (.inl rfl);obtain⟨b8,q3,hb8,hh8⟩:∃b,y8=.slice (some ⟨b,0,none⟩) 1 1∧base≤b∧w4.heap[b]?=some (.cells #[.string s] 9):=hd ⟨8,.data⟩ (by simp) rfl (.inl rfl);have S4:Sep W0 w4 H:=hrest 0 (by omega) (.inr rfl);obtain⟨pN,pK,pO,pA⟩:=S4.nd_pin' i hiH hck hxk;have HC:Hid (Calls Tryz.prog 150 #[.slice an x.N.length cn,.int .i64 (posOf x.N s:Nat),.slice (some ⟨b8,0,none⟩) 1 1] w4 (InsQStr 0 (.slice an x.N.length cn) (insN x s) w4)):=hd0 (insStr_any 0 an cn (posOf x.N s) b8 x.N s w4 (posOf_le _ _) hNl (Nat.zero_le _) pN hh8)
   have hgO:¬(Value.slice an x.N.length cn).ownBlock=some g:=fun e=>(pO g (.inl e)).1 rfl
   have hOb:∀b,(Value.slice an x.N.length cn).ownBlock=some b→b < base:=fun b hb=>hpb b (.inl hb)
   have HS4:=hd0 S4;subst q1 q2 q3;clear hd hrest pN pK pO pA S4;simp[putAll,Act.put]
   go_wp2_with fail
   refine HC.out.mono ?_;rintro e w5 ⟨v5,rfl,ho5,hg5,hb5⟩;obtain⟨a9,c9,rfl,_,_,_⟩:=view_owns encStr1_len ho5;have hch:Chg (fun b=>(Value.slice an x.N.length cn).ownBlock=some b) w4 w5:=Chg.of_grown hg5;clear HC hg5;go_wp2;refine⟨rfl,_,rfl,⟨a9,c9,w4,rfl,HS4.out,hch,ho5,hb5⟩,hI.trans (hch.mono (fun b hb _=>.inr (.inl hb))),fun j u us hj hne hcon hnd hnc hv=>?_⟩
   match j with
   | 0|1|2|3|4|5|6|7|10|11|12|13|14|15|18|19=>exact hv
   | 8=>obtain⟨b,h1,h2,h3⟩:=hv;exact⟨b,h1,h2,heap_chg h3 hch (fun e=>by have:=hOb b e;omega)⟩
   | 16=>obtain⟨b,h1,h2,h3⟩:=hv;exact⟨b,h1,h2,heap_chg h3 hch (fun e=>by have:=hOb b e;omega)⟩
   | 9=>exact absurd rfl hne
   | 17=>exact absurd (by decide) hnd
   | 20=>exact absurd (by decide) hnd
   | 21=>exact absurd rfl hcon
   | 22=>exact cell_chg (show w4.cell? _=_ from hv) hch hgO
   | 23=>exact cell_chg (show w4.cell? _=_ from hv) hch hgO
   | (zz+24)=>trivial
  ·clear hd hrest;simp[putAll,Act.put];go_wp2;exact OneD.mk (VAd.ext) rfl rfl hI (Ext.refl _)
  ·have q1:y10=.pointer (some ⟨g,k*7,none⟩):=hd ⟨10,.data⟩ (by simp) rfl (.inl rfl);subst q1;clear hd hrest;simp[putAll,Act.put];go_wp2;exact OneD.mk (VAd.ext) rfl rfl hI (Ext.refl _)
  ·have q1:y11=.pointer (some ⟨g,k*7,none⟩):=hd ⟨11,.data⟩ (by simp) rfl (.inl rfl);subst q1;clear hd hrest;simp[putAll,Act.put];go_wp2;exact OneD.mk (VAd.ext) rfl rfl hI (Ext.refl _)
  ·have q1:y12=.pointer (some ⟨g,k*7+6,none⟩):=hd ⟨12,.data⟩ (by simp) rfl (.inl rfl);have c6:w4.cell? ⟨g,k*7+6,none⟩=some (.slice ak x.K.length ck):=hrest 2 (by omega) (.inl rfl);subst q1;clear hd hrest;simp[putAll,Act.put];go_wp2;exact OneD.mk (VAd.ext) rfl rfl hI (Ext.refl _)
  ·clear hd hrest;simp[putAll,Act.put];go_wp2;exact OneD.mk (VAd.ext) rfl rfl hI (Ext.refl _)
  ·clear hd hrest;simp[putAll,Act.put];go_wp2;exact OneD.mk (VAd.ext) rfl rfl hI (Ext.refl _)
  ·have q1:y15=.int .i64 y:=hd ⟨15,.data⟩ (by simp) rfl (.inl rfl);subst q1;clear hd hrest;simp[putAll,Act.put];go_wp2;exact OneD.mk (VAd.ext) rfl ⟨_,rfl,hsz,heap_alloc_new w4 _⟩ (hI.trans (Chg.of_ext ((Ext.refl w4).alloc _))) ((Ext.refl _).alloc _)
  ·have q1:y13=.slice ak x.K.length ck:=hd ⟨13,.data⟩ (by simp) rfl (.inl rfl);have q2:y14=.int .i64 (posOf x.N s:Nat):=hd ⟨14,.data⟩ (by simp) rfl (.inl rfl);obtain⟨b16,q3,hb16,hh16⟩:∃b,y16=.slice (some ⟨b,0,none⟩) 1 1∧base≤b∧w4.heap[b]?=some (.cells #[.int .i64 y] 3):=hd ⟨16,.data⟩ (by simp) rfl (.inl rfl);obtain⟨a9,c9,w9,q9,S9,hC9,ho9,hb9⟩:∃a9 c9 w5,y9=.slice a9 (insN x s).length c9∧Sep W0 w5 H∧Chg (fun b=>(Value.slice an x.N.length cn).ownBlock=some b) w5 w4∧w4.ownsRow 0 9 1 y9 (insN x s).length ((insN x s).flatMap encStr1)∧(∀b,y9.ownBlock=some b→(Value.slice an x.N.length cn).ownBlock=some b∨w5.heap.size≤b):=hd ⟨9,.chain⟩ (by simp) rfl (.inr rfl);obtain⟨pN,pK,pO,pA⟩:=S9.nd_pin' i hiH hck hxk
   have hgO:∀b,(Value.slice an x.N.length cn).ownBlock=some b→b≠g:=fun b e=>(pO b (.inl e)).1
   have hgK:∀b,(Value.slice ak x.K.length ck).ownBlock=some b→b≠g:=fun b e=>(pO b (.inr e)).1
   have hOb:∀b,(Value.slice ak x.K.length ck).ownBlock=some b→b < base:=fun b hb=>hpb b (.inr hb)
   have hg9:g < w9.heap.size:=(S9.lt (List.mem_of_getElem? hiH) (show(plNd (.slice (some ⟨g,0,none⟩) T.length cap) vs T).own g from .inl rfl)).2
   have hpK9:∀b,(Value.slice ak x.K.length ck).ownBlock=some b→b < w9.heap.size:=fun b hb=>(pO b (.inr hb)).2.2
   have pK4:w4.ownsRow 0 3 1 (.slice ak x.K.length ck) x.K.length (x.K.flatMap encInt1):=(plRow 3 1 encInt1 (.slice ak x.K.length ck) x.K).frame w9 w4 pK (fun b hb=>hC9.block b (hpK9 b hb) (fun e=>pA b e hb));have pR4:w4.ownsRow 0 89 7 (.slice (some ⟨g,0,none⟩) T.length cap) vs.length (vs.flatMap encNc):=(plRow 89 7 encNc (.slice (some ⟨g,0,none⟩) T.length cap) vs).frame w9 w4 (S9.at_ i hiH).1 (fun b hb=>hC9.block b (by have hb':g=b:=Option.some.inj hb;omega) (fun e=>hgO b e (Option.some.inj hb).symm));have HC:Hid (Calls Tryz.prog 151 #[.slice ak x.K.length ck,.int .i64 (posOf x.N s:Nat),.slice (some ⟨b16,0,none⟩) 1 1] w4 (InsQNum 0 (.slice ak x.K.length ck) (insK x s y) w4)):=hd0 (insNum_any 0 ak ck (posOf x.N s) b16 x.K y w4 (by rw[←HLen.out];exact posOf_le _ _) (by rw[←HLen.out];exact hNl) (Nat.zero_le _) pK4 hh16)
   have HA:Hid (∀b,y9.ownBlock=some b→(Value.slice ak x.K.length ck).ownBlock≠some b∧b < w4.heap.size):=hd0 (fun b hb=>⟨fun hk=>by
    rcases hb9 b hb with h|h
    ·exact pA b h hk
    ·have:=hpK9 b hk;omega,(World.ownsRow.lt ho9 b hb).2⟩)
   have HB:=hd0 (And.intro S9 (And.intro hC9 (And.intro ho9 hb9)));have HG:=hd0 (And.intro hgK pR4);have HGN:=hd0 (And.intro hgO hg9);subst q1 q2 q3 q9;clear hd hrest pN pK pO pA S9 hC9 ho9 hb9 pK4 pR4 hpK9 hgO hg9;simp[putAll,Act.put]
   go_wp2_with fail
   refine HC.out.mono ?_;rintro e w5 ⟨v5,rfl,ho5,hg5,hb5⟩;obtain⟨a17,c17,rfl,_,_,_⟩:=view_owns encInt1_len ho5;have hch:Chg (fun b=>(Value.slice ak x.K.length ck).ownBlock=some b) w4 w5:=Chg.of_grown hg5;clear HC hg5;obtain⟨S9,hC9,ho9,hb9⟩:=HB.out
   have hAd:AdOk W0 H g ⟨x,an,cn,ak,ck⟩ (insN x s) (insK x s y) (.slice a9 (insN x s).length c9) (.slice a17 (insK x s y).length c17) w5:=by
    refine⟨⟨w9,S9,(hC9.mono (fun b hb _=>.inr (.inl hb))).trans (hch.mono (fun b hb _=>.inr (.inr hb))),hb9,fun b hb=>?_⟩,⟨_,_,rfl⟩,⟨_,_,rfl⟩,?_,ho5,⟨fun b hb=>?_,fun b hb=>?_⟩,fun b hb hk=>?_⟩
    rotate_left
    ·exact(plRow 9 1 encStr1 (.slice a9 (insN x s).length c9) (insN x s)).frame w4 w5 ho9 (fun b hb=>hch.block b (HA.out b hb).2 (HA.out b hb).1)
    ·rcases hb9 b hb with h|h
     ·exact HGN.out.1 b h
     ·have:=HGN.out.2;omega
    ·rcases hb5 b hb with h|h
     ·exact HG.out.1 b h
     ·have:=HGN.out.2;have:=hC9.size;omega
    ·rcases hb5 b hk with h|h
     ·exact(HA.out b hb).1 h
     ·have:=(HA.out b hb).2;omega
    ·rcases hb5 b hb with h|h
     ·exact .inl h
     ·exact .inr (Nat.le_trans hC9.size h)
   have hRow:w5.ownsRow 0 89 7 (.slice (some ⟨g,0,none⟩) T.length cap) vs.length (vs.flatMap encNc):=(plRow 89 7 encNc (.slice (some ⟨g,0,none⟩) T.length cap) vs).frame w4 w5 HG.out.2 (fun b hb=>hch.block b ((plRow 89 7 encNc (.slice (some ⟨g,0,none⟩) T.length cap) vs).lt w4 b HG.out.2 hb) (fun e=>HG.out.1 b e (Option.some.inj hb).symm));have HF:=hd0 (And.intro hAd hRow);clear S9 hC9 ho9 hb9 HA HB hAd hRow ho5 hb5;go_wp2;refine⟨rfl,_,rfl,HF.out,hI.trans (hch.mono (fun b hb _=>.inr (.inr hb))),fun j u us hj hne hcon hnd hnc hv=>?_⟩
   match j with
   | 0|1|2|3|4|5|6|7|10|11|12|13|14|15|18|19=>exact hv
   | 8=>obtain⟨b,h1,h2,h3⟩:=hv;exact⟨b,h1,h2,heap_chg h3 hch (fun e=>by have:=hOb b e;omega)⟩
   | 16=>obtain⟨b,h1,h2,h3⟩:=hv;exact⟨b,h1,h2,heap_chg h3 hch (fun e=>by have:=hOb b e;omega)⟩
   | 9=>exact absurd rfl hcon
   | 17=>exact absurd rfl hne
   | 20=>exact absurd (by decide) hnd
   | 21=>exact absurd (by decide) (hnc 9 rfl)
   | 22=>exact cell_chg (show w4.cell? _=_ from hv) hch (fun e=>hgK g e rfl)
   | 23=>exact cell_chg (show w4.cell? _=_ from hv) hch (fun e=>hgK g e rfl)
   | (zz+24)=>trivial
  ·have q1:y0=.pointer (some ⟨g,k*7,none⟩):=hd ⟨0,.data⟩ (by simp) rfl (.inl rfl);subst q1;clear hd hrest;simp[putAll,Act.put];go_wp2;exact OneD.mk (VAd.ext) rfl rfl hI (Ext.refl _)
  ·have q1:y18=.pointer (some ⟨g,k*7,none⟩):=hd ⟨18,.data⟩ (by simp) rfl (.inl rfl);subst q1;clear hd hrest;simp[putAll,Act.put];go_wp2;exact OneD.mk (VAd.ext) rfl rfl hI (Ext.refl _)
  ·have q1:y19=.pointer (some ⟨g,k*7+5,none⟩):=hd ⟨19,.data⟩ (by simp) rfl (.inl rfl);obtain⟨hAd,hRow⟩:AdOk W0 H g ⟨x,an,cn,ak,ck⟩ (insN x s) (insK x s y) y9 y17 w4∧w4.ownsRow 0 89 7 (.slice (some ⟨g,0,none⟩) T.length cap) vs.length (vs.flatMap encNc):=hd ⟨17,.chain⟩ (by simp) rfl (.inr rfl);obtain⟨a9,c9,q9⟩:=hAd.e9;have hkl:=(List.getElem?_eq_some_iff.1 hck).1
   have hnv:T.length=vs.length:=by
    rcases hRow.2 with⟨e,_⟩|⟨g',cap',cur,e,_⟩
    ·simp at e
    ·simp only[Value.slice.injEq]at e;exact e.2.1
   obtain⟨p5,f5⟩:=owns_there (show w4.ownsRow 0 89 7 (.slice (some ⟨g,0,none⟩) T.length cap) T.length (vs.flatMap encNc)by rw[hnv];rw[hnv]at hRow;exact hRow) (k*7+5) (by omega);have hAd2:=hd0 (hAd.store (k*7+5) y9);have hck2:vs[k]=⟨x,an,cn,ak,ck⟩:=(List.getElem?_eq_some_iff.1 hck).2;have hR2:=hd0 (owns_set encNc_len (show w4.ownsRow 0 89 7 (.slice (some ⟨g,0,none⟩) T.length cap) T.length (vs.flatMap encNc)by rw[hnv];rw[hnv]at hRow;exact hRow) k 5 (.slice a9 (insN x s).length c9) (⟨⟨x.fold,x.own,x.grp,x.mode,x.text,insN x s,x.K⟩,a9,c9,ak,ck⟩:Nc) hkl (by omega) (by rw[hck2];rfl));have hch:=Chg.setCell w4 g (k*7+5) (.slice a9 (insN x s).length c9);have HQ:=hd0 (And.intro hch hnv);obtain⟨pv,hpv⟩:=Option.isSome_iff_exists.1 p5;subst q1 q9;clear hd hrest hAd hRow p5 hch hnv;simp[putAll,Act.put];go_wp2;refine⟨rfl,undef,rfl,⟨hAd2.out,a9,c9,rfl,hR2.out⟩,hI.trans (HQ.out.1.mono (fun b hb _=>.inl hb)),fun j u us hj hne hcon hnd hnc hv=>?_⟩
   match j with
   | 0|1|2|3|4|5|6|7|10|11|12|13|14|15|18|19=>exact hv
   | 8=>obtain⟨b,h1,h2,h3⟩:=hv;exact⟨b,h1,h2,heap_chg h3 HQ.out.1 (fun e=>by omega)⟩
   | 16=>obtain⟨b,h1,h2,h3⟩:=hv;exact⟨b,h1,h2,heap_chg h3 HQ.out.1 (fun e=>by omega)⟩
   | 9=>exact absurd (by decide) (hnc 17 rfl)
   | 17=>exact absurd rfl hcon
   | 20=>exact absurd rfl hne
   | 21=>exact absurd (by decide) (hnc 9 rfl)
   | 22=>exact absurd (by decide) (hnc 5 rfl)
   | 23 =>
    show(w4.setCell ⟨g,k*7+5,none⟩ (.slice a9 (insN x s).length c9)).cell? ⟨g,k*7+6,none⟩=_
    rw[World.cell?_setCell_other w4 _ _ _ (by intro h;simp at h)];exact hv
   | (zz+24)=>trivial
 ·intro vz wE hvl hI hV hVr
  match vz,hvl with
  | [y0,y1,y2,y3,y4,y5,y6,y7,y8,y9,y10,y11,y12,y13,y14,y15,y16,y17,y18,y19,y20],_ =>
  have q1:y1=.pointer (some ⟨g,k*7,none⟩):=hV 1 (by omega) rfl;obtain⟨hAd,a9,c9,q9,hRow⟩:AdOk W0 H g ⟨x,an,cn,ak,ck⟩ (insN x s) (insK x s y) y9 y17 wE∧∃a9 c9,y9=.slice a9 (insN x s).length c9∧wE.ownsRow 0 89 7 (.slice (some ⟨g,0,none⟩) T.length cap) T.length ((vs.set k (⟨⟨x.fold,x.own,x.grp,x.mode,x.text,insN x s,x.K⟩,a9,c9,ak,ck⟩:Nc)).flatMap encNc):=hV 20 (by omega) rfl;obtain⟨a17,c17,q17⟩:=hAd.e17;subst q1 q9 q17;have hkl:=(List.getElem?_eq_some_iff.1 hck).1;have hvT:vs.length=T.length:=plG_len (Sd.at_ i hiH);obtain⟨p6,f6⟩:=owns_there hRow (k*7+6) (by omega);obtain⟨pv,hpv⟩:=Option.isSome_iff_exists.1 p6;have hR2:=owns_set encNc_len hRow k 6 (.slice a17 (insK x s y).length c17) (⟨putNd x s y,a9,c9,a17,c17⟩:Nc) (by rw[List.length_set];exact hkl) (by omega) (by rw[List.getElem_set_self];rfl);rw[List.set_set]at hR2;have hAd2:=hAd.store (k*7+6) (.slice a17 (insK x s y).length c17);obtain⟨w5,S5,hC5,hn5,hk5⟩:=hAd2.ex
  have hFin:=hd0 (S5.ndPut i hiH hck (c':=(⟨putNd x s y,a9,c9,a17,c17⟩:Nc)) (x':=putNd x s y) (hC5.mono (fun b hb _=>.inr hb)) (by rw[hvT];exact hR2) ⟨rfl,hAd2.r9,hAd2.r17,fun b hb=>hAd2.apart b hb⟩ (fun b hb=>by
   rcases hb with hb|hb
   ·rcases hn5 b hb with h|h
    ·exact .inl (.inl h)
    ·exact .inr h
   ·rcases hk5 b hb with h|h
    ·exact .inl (.inr h)
    ·exact .inr h))
  clear hV hVr hI hAd hAd2 hRow hR2 S5 hC5 hn5 hk5 p6 Sd e5 e6;simp only[putAll,Act.put,List.take_succ_cons,List.take_zero,List.drop_succ_cons,List.drop_zero];simp;go_wp2
  go_end0
  exact⟨rfl,_,hFin.out⟩
theorem RetMk.nil {w w1:World} {R:List Nd×Int} {f:Int} (hE:Ext w w1) (hR:R=([],f)):RetMk R w (.returned (.tuple #[.slice none 0 0,.int .i64 f])) w1:=by
 have S0:=(Sep.of_ext hE).nil 89 7 encNc;have S1:=S0.gPure (P:=pinNd) (T:=([]:List Nd)) 0 rfl rfl (fun k s t hs=>by simp at hs) (fun s hs=>by simp at hs);exact⟨_,[],by rw[hR],by rw[hR];exact S1⟩
def VIm (wR:World) (T:List Nd) (bt off nT cap n Bc:Nat) (fo:Bool) (ca md:Int) (x:Nd):Nat→Value→World→Prop:=fun i v wv=>match i with
 | 0=>v=.slice (some ⟨bt,off,none⟩) nT cap
 | 1=>∃vs,Sep wR wv [plNd v vs T]
 | 2=>v=.bool fo
 | 3=>v=.pointer (some ⟨Bc,1,none⟩)
 | 4=>v=.int .i64 ca
 | 5=>v=.slice (some ⟨bt,off,none⟩) nT cap
 | 6=>v=.int .i64 n
 | 7=>v=.pointer (some ⟨bt,off+n*7,none⟩)
 | 8=>v=.pointer (some ⟨bt,off+n*7+2,none⟩)
 | 9=>v=.int .i64 x.grp
 | 10=>v=.int .i64 md
 | 11=>v=.agg #[.bool fo,.int .i64 ca,.int .i64 x.grp,.int .i64 md,.string ⟨#[]⟩,.slice none 0 0,.slice none 0 0]
 | 12=>∃g,v=.slice (some ⟨g,0,none⟩) 1 1∧wv.heap[g]?=some (.cells #[.bool fo,.int .i64 ca,.int .i64 x.grp,.int .i64 md,.string ⟨#[]⟩,.slice none 0 0,.slice none 0 0] 89)
 | 13=>∃vs,Sep wR wv [plNd v vs (T++[newNd fo ca x.grp md])]
 | _=>True
theorem VIm.ext {wR:World} {T:List Nd} {bt off nT cap n Bc:Nat} {fo:Bool} {ca md:Int} {x:Nd} (i:Nat) (v:Value) (w1 w2:World) (h:VIm wR T bt off nT cap n Bc fo ca md x i v w1) (hE:Ext w1 w2):VIm wR T bt off nT cap n Bc fo ca md x i v w2:=by
 match i with
 | 0|2|3|4|5|6|7|8|9|10|11=>exact h
 | 1=>obtain⟨vs,h1⟩:=h;exact⟨vs,h1.step hE⟩
 | 12=>obtain⟨g,h1,h2⟩:=h;exact⟨g,h1,heapx hE h2⟩
 | 13=>obtain⟨vs,h1⟩:=h;exact⟨vs,h1.step hE⟩
 | (n+14)=>trivial
theorem implMakeNode (a:Option Addr) (cap:Nat) (T:List Nd) (c:Cr) (s:ByteArray) (fo:Bool) (md:Int) (w:World) (hs:s.size≤1048576) (hl:T.length≤1048576) (hT:∀x∈T,SmN 1048576 x) (hNB:NB 1000000 T) (hc:RdN w a T) (hm:MaxG w) :
  Calls Tryz.prog 79 #[.slice a T.length cap,.agg #[.int .i64 c.r,.int .i64 c.a,.int .i64 c.s,.int .i64 c.g],.string s,.bool fo,.int .i64 md] w (RetMk (makeNode T c s fo md) w):=by
 obtain⟨cr,ca,cs,cg⟩:=c;have HT:=hd0 hT;have HM:=hd0 hm;have HNB:=hd0 hNB;clear hT hm hNB;dsimp only
 go_enter Tryz.func79,Tryz.ntmps79
 have S:=Sep.start w;replace S:=S.alloc_at (n:=w.heap.size) (by simp) #[.int .i64 cr,.int .i64 ca,.int .i64 cs,.int .i64 cg] 29
 go_wp2_with fail
 generalize (w.alloc (.cells #[.int .i64 cr,.int .i64 ca,.int .i64 cs,.int .i64 cg] 29))=w1 at *;refine(implPlaceFor a cap T ⟨cr,ca,cs,cg⟩ s w1 hs hl HT.out (hc.ext S.ext) (HM.out.ext S.ext)).mono ?_;rintro e w2 ⟨rfl,hE⟩;replace S:=S.step hE;clear hE
 cases hM:inB md 0 1023 with
 | false =>
  have HMo:=hd0 hM;have HX:=hd0 (mk_mode (T:=T) (c:=⟨cr,ca,cs,cg⟩) (s:=s) (fo:=fo) hM);clear hM
  go_wp2_with (go_at_call 114;refine(isMode_is HMo.out _).mono ?_;rintro e w' ⟨rfl,rfl⟩)
  go_ret2;exact RetMk.nil S.ext HX.out
 | true =>
  have HMo:=hd0 hM;clear hM
  rcases place_cases T ⟨cr,ca,cs,cg⟩ s with⟨n,x,hp,hx,hTr⟩|⟨f,hf,hp⟩
  rotate_left
  ·have HX:=hd0 (mk_fault (T:=T) (c:=⟨cr,ca,cs,cg⟩) (s:=s) (fo:=fo) HMo.out (by rw[hp];exact hf));rw[hp]at HX ⊢
   have tf:(f == 0)=false:=by simpa using hf
   clear hp hf;dsimp only at HX ⊢
   go_wp2_with (go_at_call 114;refine(isMode_is HMo.out _).mono ?_;rintro e w' ⟨rfl,rfl⟩)
   go_ret2;exact RetMk.nil S.ext HX.out
  ·have Hx:=hd0 hx;have hn:=(List.getElem?_eq_some_iff.1 hx).1;have hmax:=hTr.max
   by_cases h16:T.length=16
   ·have HX:=hd0 (mk_full (c:=⟨cr,ca,cs,cg⟩) (s:=s) (fo:=fo) HMo.out hp h16)
    have t16:(T.length:Int)=16:=by omega
    rw[hp];clear hp hx;dsimp only
    go_wp2_with (go_at_call 114;refine(isMode_is HMo.out _).mono ?_;rintro e w' ⟨rfl,rfl⟩)
    go_ret2;exact RetMk.nil S.ext HX.out
   ·have HX:=hd0 (mk_ok (c:=⟨cr,ca,cs,cg⟩) (s:=s) (fo:=fo) HMo.out hp h16 hx)
    have t16:((T.length:Int) == 16)=false:=by simp;omega
    rw[hp];have HN:=hd0 (hTr.nodes n x hx);have hNl:=HNB.out x (List.mem_of_getElem? hx);clear hp hTr h16 hx;dsimp only
    go_wp2_with (first|(go_at_call 114;refine(isMode_is HMo.out _).mono ?_;rintro e w' ⟨rfl,rfl⟩)|fail)
    refine(implAboveOf s w2 hs (HM.out.ext S.ext)).mono ?_;rintro e w3 ⟨rfl,hE⟩;replace S:=S.step hE;clear hE
    have i1:(n:Int) < (T.length:Int):=by omega
    go_upto_region 9 with fail
    have hcR:RdN (World.drew w3) a T:=hc.ext (S.ext.drew);obtain⟨x',bt,off,an,cn,ak,ck,hx',rfl,_,_,d2,_⟩:=atNd hcR hn;obtain rfl:x=x':=Option.some.inj (Hx.out.symm.trans hx');have hgrp:(World.drew w3).cell? ⟨bt,off+n*7+2,none⟩=some (.int .i64 x.grp):=d2;have hbc1:(World.drew w3).cell? ⟨w.heap.size,1,none⟩=some (.int .i64 ca):=(bx (S.drew.box 0 rfl) 1 rfl).1;obtain⟨wR,hwR⟩:∃wR,wR=w3:=⟨_,rfl⟩;subst hwR;have HS:=hd0 S;clear hx' d2 S;refine wp_region_c (V:=VIm (World.drew wR) T bt off T.length cap n w.heap.size fo ca md x) (fun wv=>Ext (World.drew wR) wv) (fun i=>if i=1 then some 13 else if i=12 then some 13 else none) [] 14 0 rfl (by decide) (by kernel_rfl) (by kernel_rfl) (by kernel_rfl) (by kernel_rfl) (Ext.refl _) (fun r hr=>by omega) ?_ ?_
    ·intro i o hi ho vz w4 hvl hE hd hrest
     match vz,hvl with
     | [y0,y1,y2,y3,y4,y5,y6,y7,y8,y9,y10,y11,y12,y13],_ =>
     rcases lc14 hi with rfl|rfl|rfl|rfl|rfl|rfl|rfl|rfl|rfl|rfl|rfl|rfl|rfl|rfl
     all_goals
      obtain rfl:=Option.some.inj ho
     ·clear hd hrest;simp[putAll,Act.put];go_wp2;exact OneC.mk (VIm.ext) rfl rfl hE (Ext.refl _)
     ·have q0:y0=.slice (some ⟨bt,off,none⟩) T.length cap:=hd ⟨0,.data⟩ (by simp) rfl (.inl rfl);subst q0;have HC:=hd0 (implCopy (some ⟨bt,off,none⟩) cap T w4 hl HT.out (hcR.ext hE));clear hd hrest;simp[putAll,Act.put]
      go_wp2_with fail
      refine HC.out.mono ?_;rintro e w5 ⟨u5,vs5,rfl,S5⟩;have S6:=S5.since hE;have hE5:=S5.ext;clear HC S5;go_wp2;exact OneC.mk (VIm.ext) rfl ⟨_,S6⟩ (hE.trans hE5) hE5
     ·clear hd hrest;simp[putAll,Act.put];go_wp2;exact OneC.mk (VIm.ext) rfl rfl hE (Ext.refl _)
     ·clear hd hrest;simp[putAll,Act.put];go_wp2;exact OneC.mk (VIm.ext) rfl rfl hE (Ext.refl _)
     ·have q0:y3=.pointer (some ⟨w.heap.size,1,none⟩):=hd ⟨3,.data⟩ (by simp) rfl (.inl rfl);have c1:=cell_ext hE hbc1;subst q0;clear hd hrest;simp[putAll,Act.put];go_wp2;exact OneC.mk (VIm.ext) rfl rfl hE (Ext.refl _)
     ·clear hd hrest;simp[putAll,Act.put];go_wp2;exact OneC.mk (VIm.ext) rfl rfl hE (Ext.refl _)
     ·clear hd hrest;simp[putAll,Act.put];go_wp2;exact OneC.mk (VIm.ext) rfl rfl hE (Ext.refl _)
     ·have q0:y5=.slice (some ⟨bt,off,none⟩) T.length cap:=hd ⟨5,.data⟩ (by simp) rfl (.inl rfl);have q1:y6=.int .i64 n:=hd ⟨6,.data⟩ (by simp) rfl (.inl rfl);subst q0 q1;clear hd hrest;simp[putAll,Act.put];go_wp2;exact OneC.mk (VIm.ext) rfl rfl hE (Ext.refl _)
     ·have q0:y7=.pointer (some ⟨bt,off+n*7,none⟩):=hd ⟨7,.data⟩ (by simp) rfl (.inl rfl);subst q0;clear hd hrest;simp[putAll,Act.put];go_wp2;exact OneC.mk (VIm.ext) rfl rfl hE (Ext.refl _)
     ·have q0:y8=.pointer (some ⟨bt,off+n*7+2,none⟩):=hd ⟨8,.data⟩ (by simp) rfl (.inl rfl);have c1:=cell_ext hE hgrp;subst q0;clear hd hrest;simp[putAll,Act.put];go_wp2;exact OneC.mk (VIm.ext) rfl rfl hE (Ext.refl _)
     ·clear hd hrest;simp[putAll,Act.put];go_wp2;exact OneC.mk (VIm.ext) rfl rfl hE (Ext.refl _)
     ·have q0:y2=.bool fo:=hd ⟨2,.data⟩ (by simp) rfl (.inl rfl);have q1:y4=.int .i64 ca:=hd ⟨4,.data⟩ (by simp) rfl (.inl rfl);have q2:y9=.int .i64 x.grp:=hd ⟨9,.data⟩ (by simp) rfl (.inl rfl);have q3:y10=.int .i64 md:=hd ⟨10,.data⟩ (by simp) rfl (.inl rfl);subst q0 q1 q2 q3;clear hd hrest;simp[putAll,Act.put];go_wp2;exact OneC.mk (VIm.ext) rfl rfl hE (Ext.refl _)
     ·have q0:y11=.agg #[.bool fo,.int .i64 ca,.int .i64 x.grp,.int .i64 md,.string ⟨#[]⟩,.slice none 0 0,.slice none 0 0]:=hd ⟨11,.data⟩ (by simp) rfl (.inl rfl);subst q0;clear hd hrest;simp[putAll,Act.put];go_wp2;exact OneC.mk (VIm.ext) rfl ⟨_,rfl,heap_alloc_new w4 _⟩ (hE.alloc _) ((Ext.refl _).alloc _)
     ·obtain⟨vs1,S1⟩:∃vs,Sep (World.drew wR) w4 [plNd y1 vs T]:=hd ⟨1,.data⟩ (by simp) rfl (.inr rfl);obtain⟨g12,q12,hh12⟩:∃g,y12=.slice (some ⟨g,0,none⟩) 1 1∧w4.heap[g]?=some (.cells #[.bool fo,.int .i64 ca,.int .i64 x.grp,.int .i64 md,.string ⟨#[]⟩,.slice none 0 0,.slice none 0 0] 89):=hd ⟨12,.data⟩ (by simp) rfl (.inr rfl);have S5:Sep (World.drew wR) w4 [pinNd.one (⟨newNd fo ca x.grp md,none,0,none,0⟩:Nc) (newNd fo ca x.grp md),plNd y1 vs1 T]:=S1.cons (p:=pinNd.one (⟨newNd fo ca x.grp md,none,0,none,0⟩:Nc) (newNd fo ca x.grp md)) (Ext.refl w4) (root_pin _ rfl rfl w4) (fun b hb=>absurd hb (root_own _ b));have hrow:=S5.gRow 1 rfl;have hvl:=plG_len (S5.at_ 1 rfl)
      have hv16:vs1.length≤16:=by omega
      have hrd:Rd 7 encNc w4 (some ⟨g12,0,none⟩) [(⟨newNd fo ca x.grp md,none,0,none,0⟩:Nc)]:=rd_lit [(⟨newNd fo ca x.grp md,none,0,none,0⟩:Nc)] encNc_len hh12 rfl
      have hb1:∀b,y1.ownBlock=some b→(World.drew wR).heap.size≤b:=fun b hb=>S1.base _ (List.mem_cons_self ..) b (.inl hb)
      obtain⟨ua,uc,hu,hucap,_,_⟩:=view_owns encNc_len hrow;subst q12;clear hd hrest S1 hvl;subst hu;simp[putAll,Act.put];refine wpList_append_b rfl _ _ 28 rfl (World.drew wR).heap.size 89 _ 7 _ Tryz.underlying28 infoNd rfl (by decide) encNc_len encNc_one _ vs1.length vs1 rfl hrow rfl (some ⟨g12,0,none⟩) 1 1 [(⟨newNd fo ca x.grp md,none,0,none,0⟩:Nc)] rfl rfl hrd (by omega) (by omega) hE.size ?_;intro v9 w9 ho9 hgr hblk;have S6:Sep (World.drew wR) w9 [plNd v9 (vs1++[(⟨newNd fo ca x.grp md,none,0,none,0⟩:Nc)]) (T++[(newNd fo ca x.grp md)])]:=S5.gPush 1 0 rfl rfl (by decide) hgr ho9 hblk;have hE9:=S6.ext;have hch:Chg (fun b=>(Value.slice ua vs1.length uc).ownBlock=some b) w4 w9:=Chg.of_grown hgr;clear ho9 hblk hrow hrd S5 hgr;go_wp2;refine⟨rfl,_,rfl,⟨_,S6⟩,hE9,fun j u hj hne hcon hnd hnc hv=>?_⟩
      match j with
      | 0|2|3|4|5|6|7|8|9|10|11=>exact hv
      | 1=>exact absurd rfl hcon
      | 12=>exact absurd rfl hcon
      | 13=>exact absurd rfl hne
      | (zz+14)=>trivial
    ·intro vz wE hvl hE hV _
     match vz,hvl with
     | [y0,y1,y2,y3,y4,y5,y6,y7,y8,y9,y10,y11,y12,y13],_ =>
     obtain⟨vs2,S2⟩:∃vs,Sep (World.drew wR) wE [plNd y13 vs (T++[newNd fo ca x.grp md])]:=hV 13 (by omega) rfl;have S:=HS.out.drew.call S2;clear hV HS S2 hgrp hbc1
     have hlT:(T++[newNd fo ca x.grp md]).length=T.length+1:=by simp
     have hxT:(T++[newNd fo ca x.grp md])[n]?=some x:=by rw[List.getElem?_append_left hn];exact Hx.out
     obtain⟨_,g,cap2,hu,hcap2,_⟩:=S.ndAt 0 rfl hxT;rw[hlT]at hu hcap2;subst hu;simp only[putAll,Act.put,List.take_succ_cons,List.take_zero,List.drop_succ_cons,List.drop_zero];simp;have HXT:=hd0 hxT;have HLT:=hd0 hlT
     have i2:(n:Int) < ((T.length:Int)+1):=by omega
     have HS:=hd0 S;clear hxT hlT S
     go_wp2_with fail
     refine(implAddName HS.out 0 rfl HXT.out T.length HN.out hNl (lastOf s) (T.length:Int)).mono ?_;rintro e w5 ⟨rfl,vs5,S5⟩;have HS5:=hd0 S5;clear S5 HS;go_wp2;go_ret2;refine⟨_,vs5,by rw[HX.out];rfl,?_⟩;rw[HX.out];have h1:=HS5.out.drop 1;have e1:(T++[newNd fo ca x.grp md]).set n (putNd x (lastOf s) (T.length:Int))=T.set n (putNd x (lastOf s) (T.length:Int))++[newNd fo ca x.grp md]:=List.set_append_left _ _ hn;rw[e1]at h1;exact h1
theorem implLinkName (a:Option Addr) (cap:Nat) (T:List Nd) (c:Cr) (src dst:ByteArray) (w:World) (hs:src.size≤1048576) (hd:dst.size≤1048576) (hl:T.length≤1048576) (hT:∀x∈T,SmN 1048576 x) (hNB:NB 1000000 T) (hc:RdN w a T) (hm:MaxG w) :
  Calls Tryz.prog 84 #[.slice a T.length cap,.agg #[.int .i64 c.r,.int .i64 c.a,.int .i64 c.s,.int .i64 c.g],.string src,.string dst] w (RetMk (linkName T c src dst) w):=by
 obtain⟨cr,ca,cs,cg⟩:=c;have HT:=hd0 hT;have HM:=hd0 hm;have HNB:=hd0 hNB;clear hT hm hNB;dsimp only
 go_enter Tryz.func84,Tryz.ntmps84
 have S:=Sep.start w;replace S:=S.alloc_at (n:=w.heap.size) (by simp) #[.int .i64 cr,.int .i64 ca,.int .i64 cs,.int .i64 cg] 29
 go_wp2_with fail
 generalize (w.alloc (.cells #[.int .i64 cr,.int .i64 ca,.int .i64 cs,.int .i64 cg] 29))=w1 at *;refine(implFindNode a cap T ⟨cr,ca,cs,cg⟩ src w1 hs hl HT.out (hc.ext S.ext) (HM.out.ext S.ext)).mono ?_;rintro e w2 ⟨rfl,hE⟩;replace S:=S.step hE;clear hE
 rcases find_cases T ⟨cr,ca,cs,cg⟩ src with⟨m,hF,hmT,hTr,_⟩|⟨f,hf,hF⟩
 rotate_left
 ·have HX:=hd0 (lk_fault (dst:=dst) (show(findNode T ⟨cr,ca,cs,cg⟩ src).2≠0 by rw[hF];exact hf));rw[hF]at HX ⊢
  have tf:(f == 0)=false:=by simpa using hf
  clear hF hf;dsimp only at HX ⊢;go_wp2;go_ret2;exact RetMk.nil S.ext HX.out
 ·obtain⟨z,bt,off,zan,zcn,zak,zck,hz,rfl,d0,_⟩:=atNd hc hmT;have hE0:=S.ext;have e0:=cell_ext hE0 d0
  have i1:(m:Int) < (T.length:Int):=by omega
  cases hzf:z.fold with
  | true =>
   have HX:=hd0 (lk_dir (dst:=dst) hF hz hzf);rw[hzf]at e0;rw[hF];clear hF hz hzf d0;dsimp only;go_wp2;go_ret2;exact RetMk.nil S.ext HX.out
  | false =>
   have HZ:=hd0 (And.intro hF (And.intro hz hzf));rw[hzf]at e0;rw[hF];clear hF hz hzf d0;dsimp only;obtain⟨⟨bc0,bf0⟩,⟨bc1,bf1⟩,⟨bc2,bf2⟩,⟨bc3,bf3⟩⟩:=bx4 (S.box 0 rfl)
   go_wp2_with fail
   clear bc0 bf0 bc1 bf1 bc2 bf2 bc3 bf3;refine(implPlaceFor _ cap T ⟨cr,ca,cs,cg⟩ dst w2 hd hl HT.out (hc.ext S.ext) (HM.out.ext S.ext)).mono ?_;rintro e w3 ⟨rfl,hE⟩;replace S:=S.step hE;clear hE;clear e0
   rcases place_cases T ⟨cr,ca,cs,cg⟩ dst with⟨n,x,hp,hx,_⟩|⟨f,hf,hp⟩
   rotate_left
   ·have HX:=hd0 (lk_place HZ.out.1 HZ.out.2.1 HZ.out.2.2 (show(placeFor T ⟨cr,ca,cs,cg⟩ dst).2≠0 by rw[hp];exact hf));rw[hp]at HX ⊢
    have tf:(f == 0)=false:=by simpa using hf
    clear hp hf;dsimp only at HX ⊢;go_wp2;go_ret2;exact RetMk.nil S.ext HX.out
   ·have HX:=hd0 (lk_ok HZ.out.1 HZ.out.2.1 HZ.out.2.2 hp hx);have Hx:=hd0 hx;have hn:=(List.getElem?_eq_some_iff.1 hx).1;have HN:=hd0 (hTr.nodes n x hx);have hNl:=HNB.out x (List.mem_of_getElem? hx);rw[hp];clear hp hx;dsimp only
    go_wp2_with fail
    refine(implAboveOf dst w3 hd (HM.out.ext S.ext)).mono ?_;rintro e w4 ⟨rfl,hE⟩;replace S:=S.step hE;clear hE
    go_wp2_with fail
    refine(implCopy _ cap T w4 hl HT.out (hc.ext S.ext)).mono ?_;rintro e w5 ⟨u,vs,rfl,S5⟩;replace S:Sep w w5 [plNd u vs T,plBox w.heap.size #[.int .i64 cr,.int .i64 ca,.int .i64 cs,.int .i64 cg] 29]:=S.call S5;clear S5;obtain⟨_,g,cap2,rfl,hcap2,_⟩:=S.ndAt 0 rfl Hx.out
    have i2:(n:Int) < (T.length:Int):=by omega
    have HS:=hd0 S;clear S
    go_wp2_with fail
    refine(implAddName HS.out 0 rfl Hx.out T.length HN.out hNl (lastOf dst) (m:Int)).mono ?_;rintro e w6 ⟨rfl,vs6,S6⟩;have HS6:=hd0 (S6.drop 1);clear S6 HS;go_wp2;go_ret2;refine⟨_,vs6,by rw[HX.out];rfl,?_⟩;rw[HX.out];exact HS6.out
theorem fault_cases (f:Int):(inB f 0 7=false∧faultText f=⟨#[]⟩)∨f=0∨f=1∨f=2∨f=3∨f=4∨f=5∨f=6∨f=7:=by
 by_cases h:0≤f∧f≤7
 ·right;omega
 ·refine .inl ⟨by simp[inB];omega,?_⟩;unfold faultText;rw[if_neg (by omega),if_neg (by omega),if_neg (by omega),if_neg (by omega),if_neg (by omega),if_neg (by omega),if_neg (by omega),if_neg (by omega)]
theorem specFaultText (f:Int) (w:World):Calls Tryz.prog 35 #[.int .i64 f] w fun e w'=>e=.returned (.string (faultText f))∧Ext w w':=by
 rcases fault_cases f with⟨h,h2⟩|rfl|rfl|rfl|rfl|rfl|rfl|rfl|rfl
 ·rw[h2];have HM:=hd0 h;clear h h2
  go_enter Tryz.func35,Tryz.ntmps35
  go_wp2_with (go_at_call 68;refine(l1In_is HM.out _).mono ?_;rintro e w' ⟨rfl,rfl⟩)
  go_ret;exact⟨rfl,Ext.refl _⟩
 all_goals
  go_enter Tryz.func35,Tryz.ntmps35
  have S:=Sep.start w
  go_wp2_with (go_at_call 68;refine(l1In_is rfl _).mono ?_;rintro e w' ⟨rfl,rfl⟩)
  go_ret;exact⟨rfl,(Ext.refl _).alloc _⟩
theorem implFaultText (f:Int) (w:World):Calls Tryz.prog 48 #[.int .i64 f] w fun e w'=>e=.returned (.string (faultText f))∧Ext w w':=by
 rcases fault_cases f with⟨h,h2⟩|rfl|rfl|rfl|rfl|rfl|rfl|rfl|rfl
 ·rw[h2];have HM:=hd0 h;clear h h2
  go_enter Tryz.func48,Tryz.ntmps48
  go_wp2_with (go_at_call 91;refine(within_is HM.out _).mono ?_;rintro e w' ⟨rfl,rfl⟩)
  go_ret;exact⟨rfl,Ext.refl _⟩
 ·have i0:∀w,(Instr.index 104 (.agg #[.string ⟨#[110,111,110,101]⟩,.string ⟨#[112,97,116,104]⟩,.string ⟨#[109,105,115,115,105,110,103]⟩,.string ⟨#[97,99,99,101,115,115]⟩,.string ⟨#[107,105,110,100]⟩,.string ⟨#[116,104,101,114,101]⟩,.string ⟨#[102,117,108,108]⟩,.string ⟨#[98,117,115,121]⟩]) (.int .i64 0)).run Tryz.prog w=.ok (.string ⟨#[110,111,110,101]⟩) w:=fun _=>by kernel_rfl
  go_enter Tryz.func48,Tryz.ntmps48
  go_wp2_with (go_at_call 91;refine(within_is rfl _).mono ?_;rintro e w' ⟨rfl,rfl⟩)
  go_ret;exact⟨rfl,by first|exact Ext.refl _|exact(Ext.refl _).alloc _⟩
 ·have i0:∀w,(Instr.index 104 (.agg #[.string ⟨#[110,111,110,101]⟩,.string ⟨#[112,97,116,104]⟩,.string ⟨#[109,105,115,115,105,110,103]⟩,.string ⟨#[97,99,99,101,115,115]⟩,.string ⟨#[107,105,110,100]⟩,.string ⟨#[116,104,101,114,101]⟩,.string ⟨#[102,117,108,108]⟩,.string ⟨#[98,117,115,121]⟩]) (.int .i64 1)).run Tryz.prog w=.ok (.string ⟨#[112,97,116,104]⟩) w:=fun _=>by kernel_rfl
  go_enter Tryz.func48,Tryz.ntmps48
  go_wp2_with (go_at_call 91;refine(within_is rfl _).mono ?_;rintro e w' ⟨rfl,rfl⟩)
  go_ret;exact⟨rfl,by first|exact Ext.refl _|exact(Ext.refl _).alloc _⟩
 ·have i0:∀w,(Instr.index 104 (.agg #[.string ⟨#[110,111,110,101]⟩,.string ⟨#[112,97,116,104]⟩,.string ⟨#[109,105,115,115,105,110,103]⟩,.string ⟨#[97,99,99,101,115,115]⟩,.string ⟨#[107,105,110,100]⟩,.string ⟨#[116,104,101,114,101]⟩,.string ⟨#[102,117,108,108]⟩,.string ⟨#[98,117,115,121]⟩]) (.int .i64 2)).run Tryz.prog w=.ok (.string ⟨#[109,105,115,115,105,110,103]⟩) w:=fun _=>by kernel_rfl
  go_enter Tryz.func48,Tryz.ntmps48
  go_wp2_with (go_at_call 91;refine(within_is rfl _).mono ?_;rintro e w' ⟨rfl,rfl⟩)
  go_ret;exact⟨rfl,by first|exact Ext.refl _|exact(Ext.refl _).alloc _⟩
 ·have i0:∀w,(Instr.index 104 (.agg #[.string ⟨#[110,111,110,101]⟩,.string ⟨#[112,97,116,104]⟩,.string ⟨#[109,105,115,115,105,110,103]⟩,.string ⟨#[97,99,99,101,115,115]⟩,.string ⟨#[107,105,110,100]⟩,.string ⟨#[116,104,101,114,101]⟩,.string ⟨#[102,117,108,108]⟩,.string ⟨#[98,117,115,121]⟩]) (.int .i64 3)).run Tryz.prog w=.ok (.string ⟨#[97,99,99,101,115,115]⟩) w:=fun _=>by kernel_rfl
  go_enter Tryz.func48,Tryz.ntmps48
  go_wp2_with (go_at_call 91;refine(within_is rfl _).mono ?_;rintro e w' ⟨rfl,rfl⟩)
  go_ret;exact⟨rfl,by first|exact Ext.refl _|exact(Ext.refl _).alloc _⟩
 ·have i0:∀w,(Instr.index 104 (.agg #[.string ⟨#[110,111,110,101]⟩,.string ⟨#[112,97,116,104]⟩,.string ⟨#[109,105,115,115,105,110,103]⟩,.string ⟨#[97,99,99,101,115,115]⟩,.string ⟨#[107,105,110,100]⟩,.string ⟨#[116,104,101,114,101]⟩,.string ⟨#[102,117,108,108]⟩,.string ⟨#[98,117,115,121]⟩]) (.int .i64 4)).run Tryz.prog w=.ok (.string ⟨#[107,105,110,100]⟩) w:=fun _=>by kernel_rfl
  go_enter Tryz.func48,Tryz.ntmps48
  go_wp2_with (go_at_call 91;refine(within_is rfl _).mono ?_;rintro e w' ⟨rfl,rfl⟩)
  go_ret;exact⟨rfl,by first|exact Ext.refl _|exact(Ext.refl _).alloc _⟩
 ·have i0:∀w,(Instr.index 104 (.agg #[.string ⟨#[110,111,110,101]⟩,.string ⟨#[112,97,116,104]⟩,.string ⟨#[109,105,115,115,105,110,103]⟩,.string ⟨#[97,99,99,101,115,115]⟩,.string ⟨#[107,105,110,100]⟩,.string ⟨#[116,104,101,114,101]⟩,.string ⟨#[102,117,108,108]⟩,.string ⟨#[98,117,115,121]⟩]) (.int .i64 5)).run Tryz.prog w=.ok (.string ⟨#[116,104,101,114,101]⟩) w:=fun _=>by kernel_rfl
  go_enter Tryz.func48,Tryz.ntmps48
  go_wp2_with (go_at_call 91;refine(within_is rfl _).mono ?_;rintro e w' ⟨rfl,rfl⟩)
  go_ret;exact⟨rfl,by first|exact Ext.refl _|exact(Ext.refl _).alloc _⟩
 ·have i0:∀w,(Instr.index 104 (.agg #[.string ⟨#[110,111,110,101]⟩,.string ⟨#[112,97,116,104]⟩,.string ⟨#[109,105,115,115,105,110,103]⟩,.string ⟨#[97,99,99,101,115,115]⟩,.string ⟨#[107,105,110,100]⟩,.string ⟨#[116,104,101,114,101]⟩,.string ⟨#[102,117,108,108]⟩,.string ⟨#[98,117,115,121]⟩]) (.int .i64 6)).run Tryz.prog w=.ok (.string ⟨#[102,117,108,108]⟩) w:=fun _=>by kernel_rfl
  go_enter Tryz.func48,Tryz.ntmps48
  go_wp2_with (go_at_call 91;refine(within_is rfl _).mono ?_;rintro e w' ⟨rfl,rfl⟩)
  go_ret;exact⟨rfl,by first|exact Ext.refl _|exact(Ext.refl _).alloc _⟩
 ·have i0:∀w,(Instr.index 104 (.agg #[.string ⟨#[110,111,110,101]⟩,.string ⟨#[112,97,116,104]⟩,.string ⟨#[109,105,115,115,105,110,103]⟩,.string ⟨#[97,99,99,101,115,115]⟩,.string ⟨#[107,105,110,100]⟩,.string ⟨#[116,104,101,114,101]⟩,.string ⟨#[102,117,108,108]⟩,.string ⟨#[98,117,115,121]⟩]) (.int .i64 7)).run Tryz.prog w=.ok (.string ⟨#[98,117,115,121]⟩) w:=fun _=>by kernel_rfl
  go_enter Tryz.func48,Tryz.ntmps48
  go_wp2_with (go_at_call 91;refine(within_is rfl _).mono ?_;rintro e w' ⟨rfl,rfl⟩)
  go_ret;exact⟨rfl,by first|exact Ext.refl _|exact(Ext.refl _).alloc _⟩
end Go.Proofs.YtnibbldfohbfkaaGreatDoor
