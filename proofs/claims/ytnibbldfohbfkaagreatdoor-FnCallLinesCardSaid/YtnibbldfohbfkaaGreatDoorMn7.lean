/- Parts of one proof: what each theorem proves, and its conditions, stand in its own statement. -/
import Derived.Lib.Split
import Derived.Lib.Join
import Derived.Test.YtnibbldfohbfkaaGreatDoorMn6
set_option linter.all false
set_option maxRecDepth 100000
set_option maxHeartbeats 32000000
namespace Go.Proofs.YtnibbldfohbfkaaGreatDoor
open Go.RowKit
def VMk (w:World) (g nn cap2:Nat) (fo:Bool) (Bc:Nat) (ca:Int) (bt off nT cap n:Nat) (x:Nd) (md:Int) (vs:List Nc) (T1:List Nd) (RL:List Pl) (wr:World) (base:Nat):Nat→Value→World→Prop:=fun i v wv=>match i with
 | 0=>v=Value.slice (some ⟨g,0,none⟩) nn cap2
 | 1=>v=.bool fo
 | 2=>v=.pointer (some ⟨Bc,1,none⟩)
 | 3=>v=.int .i64 ca
 | 4=>v=.slice (some ⟨bt,off,none⟩) nT cap
 | 5=>v=.int .i64 n
 | 6=>v=.pointer (some ⟨bt,off+n*7,none⟩)
 | 7=>v=.pointer (some ⟨bt,off+n*7+2,none⟩)
 | 8=>v=.int .i64 x.grp
 | 9=>v=.int .i64 md
 | 10=>v=.agg #[.bool fo,.int .i64 ca,.int .i64 x.grp,.int .i64 md,.string ⟨#[]⟩,.slice none 0 0,.slice none 0 0]
 | 11=>∃g,v=.slice (some ⟨g,0,none⟩) 1 1∧base≤g∧wv.heap[g]?=some (.cells #[.bool fo,.int .i64 ca,.int .i64 x.grp,.int .i64 md,.string ⟨#[]⟩,.slice none 0 0,.slice none 0 0] 89)
 | 12=>∃vs2,Sep w wv (plNd v vs2 (T1++[(newNd fo ca x.grp md)]) :: RL)
 | 13=>Sep w wv (plNd (Value.slice (some ⟨g,0,none⟩) nn cap2) vs T1 :: RL)
 | _=>True
theorem VMk.ext {w:World} {g nn cap2:Nat} {fo:Bool} {Bc:Nat} {ca:Int} {bt off nT cap n:Nat} {x:Nd} {md:Int} {vs:List Nc} {T1:List Nd} {RL:List Pl} {wr:World} {base:Nat} (i:Nat) (v:Value) (w1 w2:World) (h:VMk w g nn cap2 fo Bc ca bt off nT cap n x md vs T1 RL wr base i v w1) (hE:Ext w1 w2):VMk w g nn cap2 fo Bc ca bt off nT cap n x md vs T1 RL wr base i v w2:=by
 match i with
 | 0=>exact h
 | 1=>exact h
 | 2=>exact h
 | 3=>exact h
 | 4=>exact h
 | 5=>exact h
 | 6=>exact h
 | 7=>exact h
 | 8=>exact h
 | 9=>exact h
 | 10=>exact h
 | 11=>obtain⟨g,h1,h2,h3⟩:=h;exact⟨g,h1,h2,heapx hE h3⟩
 | 12=>obtain⟨vs2,h1⟩:=h;exact⟨vs2,h1.step hE⟩
 | 13=>exact SepM.step (show Sep w w1 _ from h) hE
 | (n+14)=>trivial
theorem SepM.ndAt {M:Nat→Prop} {w0 w:World} {H:List Pl} (S:SepM M w0 w H) (i:Nat) {u:Value} {vs:List Nc} {T:List Nd} (h:H[i]?=some (plNd u vs T)) {k:Nat} {x:Nd} (hx:T[k]?=some x) :
  ∃(c:Nc) (g cap:Nat),u=.slice (some ⟨g,0,none⟩) T.length cap∧T.length≤cap∧vs[k]?=some c∧c.n=x∧(∀j v,(encNc c)[j]?=some v→w.cell? ⟨g,k*7+j,none⟩=some v)∧(∀j,w.frozen? ⟨g,j,none⟩=false)∧Shape c.an x.N c.cn∧Shape c.ak x.K c.ck∧x.N.length≤c.cn∧x.K.length≤c.ck∧Rd 1 encStr1 w c.an x.N∧Rd 1 encInt1 w c.ak x.K:=by
 have hrow:=S.gRow i h;obtain⟨h1,h2,h3,h4,h5⟩:=S.at_ i h;have hkT:=(List.getElem?_eq_some_iff.1 hx).1
 have hk:k < vs.length:=by omega
 have hc:vs[k]?=some vs[k]:=List.getElem?_eq_getElem hk;obtain⟨e1,r1,r2,_⟩:=h3 k vs[k] x hc hx;obtain⟨a,cap,hu,hcap,hrd,hsh⟩:=view_owns encNc_len hrow
 obtain⟨g,rfl⟩:∃g,a=some ⟨g,0,none⟩:=by
  rcases hsh with⟨_,h0,_⟩|⟨g,h0,_⟩
  ·rw[h0]at hk;exact absurd hk (Nat.not_lt_zero _)
  ·exact⟨g,h0⟩
 obtain⟨b,off,hb,hcell⟩:=hrd k hk
 obtain⟨rfl,rfl⟩:g=b∧0=off:=by simpa using hb
 rw[e1]at r1 r2;obtain⟨a1,c1,hv1,hl1,hd1,hs1⟩:=view_owns encStr1_len r1;obtain⟨a2,c2,hv2,hl2,hd2,hs2⟩:=view_owns encInt1_len r2;simp only[Value.slice.injEq,true_and]at hv1 hv2;obtain⟨k1,k2⟩:=hv1;obtain⟨k3,k4⟩:=hv2;subst hu;refine⟨vs[k],g,cap,by rw[h2],by omega,hc,e1,fun j v hv=>by have:=hcell j v hv;rwa [Nat.zero_add]at this,hrow.frozenAt,?_,?_,by rw[k2];exact hl1,by rw[k4];exact hl2,by rw[k1];exact hd1,by rw[k3];exact hd2⟩
 ·rw[k1,k2]
  rcases hs1 with h|⟨g,h,_⟩
  ·exact .inl h
  ·exact .inr ⟨g,h⟩
 ·rw[k3,k4]
  rcases hs2 with h|⟨g,h,_⟩
  ·exact .inl h
  ·exact .inr ⟨g,h⟩
section
variable {T:List Nd} {c:Cr} {s:ByteArray} {fo:Bool} {md:Int} {n:Nat} {x:Nd}
theorem mk_mode (h:inB md 0 1023=false):makeNode T c s fo md=([],1):=by rw[makeNode,if_pos h]
theorem mk_fault (h:inB md 0 1023=true) (hf:(placeFor T c s).2≠0):makeNode T c s fo md=([],(placeFor T c s).2):=by rw[makeNode,if_neg (by simp[h]),if_pos hf]
theorem mk_full (h:inB md 0 1023=true) (hp:placeFor T c s=((n:Int),0)) (hl:T.length=16):makeNode T c s fo md=([],6):=by rw[makeNode,if_neg (by simp[h]),if_neg (by rw[hp];simp),if_pos hl]
theorem mk_ok (h:inB md 0 1023=true) (hp:placeFor T c s=((n:Int),0)) (hl:¬T.length=16) (hx:T[n]?=some x):makeNode T c s fo md=(T.set n (putNd x (lastOf s) (T.length:Int))++[newNd fo c.a x.grp md],0):=by
 rw[makeNode,if_neg (by simp[h]),if_neg (by rw[hp];simp),if_neg hl,hp];dsimp only;rw[Int.toNat_natCast,hx]
theorem place_cases (T:List Nd) (c:Cr) (s:ByteArray):(∃(n:Nat) (x:Nd),placeFor T c s=((n:Int),0)∧T[n]?=some x∧TreeOk T)∨∃f:Int,f≠0∧placeFor T c s=(-1,f):=by
 rcases placeFor_in T c s with⟨ab,nm,n,x,h1,_,_,h2,_,_,h3,_⟩|⟨h1,h2⟩
 ·exact .inl ⟨n,x,h1,h2,h3⟩
 ·exact .inr ⟨(placeFor T c s).2,h1,by rw[←h2]⟩
end
def RetMk (R:List Nd×Int) (w:World) (e:Ending) (w':World):Prop:=∃u vs,e=.returned (.tuple #[u,.int .i64 R.2])∧Sep w w' [plNd u vs R.1]
theorem RetMk.empty {w w1:World} {R:List Nd×Int} {f:Int} (hE:Ext w w1) (hR:R=([],f)):RetMk R w (.returned (.tuple #[.slice (some ⟨w1.heap.size,0,none⟩) 0 0,.int .i64 f])) (w1.alloc (.cells #[] 89)):=by
 have S0:=(Sep.of_ext hE).lit0 (n:=w1.heap.size) rfl 89 7 encNc;have S1:=S0.gPure (P:=pinNd) (T:=([]:List Nd)) 0 rfl rfl (fun k s t hs=>by simp at hs) (fun s hs=>by simp at hs);exact⟨_,[],by rw[hR],by rw[hR];exact S1⟩
theorem specMakeNode (a:Option Addr) (cap:Nat) (T:List Nd) (c:Cr) (s:ByteArray) (fo:Bool) (md:Int) (w:World) (hs:s.size≤1048576) (hl:T.length≤1048576) (hT:∀x∈T,SmN 1048576 x) (hc:RdN w a T) :
  Calls Tryz.prog 31 #[.slice a T.length cap,.agg #[.int .i64 c.r,.int .i64 c.a,.int .i64 c.s,.int .i64 c.g],.string s,.bool fo,.int .i64 md] w (RetMk (makeNode T c s fo md) w):=by
 obtain⟨cr,ca,cs,cg⟩:=c;have HT:=hd0 hT;clear hT;dsimp only
 go_enter Tryz.func31,Tryz.ntmps31
 have S:=Sep.start w;replace S:=S.alloc_at (n:=w.heap.size) (by simp) #[.int .i64 cr,.int .i64 ca,.int .i64 cs,.int .i64 cg] 29
 go_wp2_with fail
 generalize (w.alloc (.cells #[.int .i64 cr,.int .i64 ca,.int .i64 cs,.int .i64 cg] 29))=w1 at *;refine(specPlaceFor a cap T ⟨cr,ca,cs,cg⟩ s w1 hs hl HT.out (hc.ext S.ext)).mono ?_;rintro e w2 ⟨rfl,hE⟩;replace S:=S.step hE;clear hE
 go_wp2_with fail
 refine(specAboveOf s w2 hs).mono ?_;rintro e w3 ⟨rfl,hE⟩;replace S:=S.step hE;clear hE
 cases hM:inB md 0 1023 with
 | false =>
  have HM:=hd0 hM;have HX:=hd0 (mk_mode (T:=T) (c:=⟨cr,ca,cs,cg⟩) (s:=s) (fo:=fo) hM);clear hM
  go_wp2_with (go_at_call 68;refine(l1In_is HM.out _).mono ?_;rintro e w' ⟨rfl,rfl⟩)
  go_ret2;exact RetMk.empty S.ext HX.out
 | true =>
  have HM:=hd0 hM;clear hM
  rcases place_cases T ⟨cr,ca,cs,cg⟩ s with⟨n,x,hp,hx,hTr⟩|⟨f,hf,hp⟩
  rotate_left
  ·have HX:=hd0 (mk_fault (T:=T) (c:=⟨cr,ca,cs,cg⟩) (s:=s) (fo:=fo) HM.out (by rw[hp];exact hf));rw[hp]at HX ⊢
   have tf:(f == 0)=false:=by simpa using hf
   clear hp hf;dsimp only at HX ⊢
   go_wp2_with (go_at_call 68;refine(l1In_is HM.out _).mono ?_;rintro e w' ⟨rfl,rfl⟩)
   go_ret2;exact RetMk.empty S.ext HX.out
  ·have Hx:=hd0 hx;have hn:=(List.getElem?_eq_some_iff.1 hx).1;have hmax:=hTr.max
   by_cases h16:T.length=16
   ·have HX:=hd0 (mk_full (c:=⟨cr,ca,cs,cg⟩) (s:=s) (fo:=fo) HM.out hp h16)
    have t16:(T.length:Int)=16:=by omega
    rw[hp];clear hp hx;dsimp only
    go_wp2_with (go_at_call 68;refine(l1In_is HM.out _).mono ?_;rintro e w' ⟨rfl,rfl⟩)
    go_ret2;exact RetMk.empty S.ext HX.out
   ·have HX:=hd0 (mk_ok (c:=⟨cr,ca,cs,cg⟩) (s:=s) (fo:=fo) HM.out hp h16 hx)
    have t16:((T.length:Int) == 16)=false:=by simp;omega
    rw[hp];have HTr:=hd0 hTr;clear hp hTr h16 hx;dsimp only
    go_wp2_with (first|(go_at_call 68;refine(l1In_is HM.out _).mono ?_;rintro e w' ⟨rfl,rfl⟩)|fail)
    refine(specCopy a cap T w3 hl HT.out (hc.ext S.ext)).mono ?_;rintro e w4 ⟨u,vs,rfl,S4⟩;replace S:Sep w w4 [plNd u vs T,plBox w.heap.size #[.int .i64 cr,.int .i64 ca,.int .i64 cs,.int .i64 cg] 29]:=S.call S4;clear S4;obtain⟨xc,g,cap2,rfl,hcap2,hxc,hxn,hcell,hfz,hsn,hsk,hcn,hck,hrn,hrk⟩:=S.ndAt 0 rfl Hx.out;obtain⟨x',an,cn,ak,ck⟩:=xc;dsimp only at hxn hsn hsk hcn hck hrn hrk;subst hxn;have d0:w4.cell? ⟨g,n*7,none⟩=some (.bool x'.fold):=hcell 0 _ rfl;have d1:w4.cell? ⟨g,n*7+1,none⟩=some (.int .i64 x'.own):=hcell 1 _ rfl;have d2:w4.cell? ⟨g,n*7+2,none⟩=some (.int .i64 x'.grp):=hcell 2 _ rfl;have d3:w4.cell? ⟨g,n*7+3,none⟩=some (.int .i64 x'.mode):=hcell 3 _ rfl;have d4:w4.cell? ⟨g,n*7+4,none⟩=some (.string x'.text):=hcell 4 _ rfl;have d5:w4.cell? ⟨g,n*7+5,none⟩=some (.slice an x'.N.length cn):=hcell 5 _ rfl;have d6:w4.cell? ⟨g,n*7+6,none⟩=some (.slice ak x'.K.length ck):=hcell 6 _ rfl;have hN:=HTr.out.nodes n x' Hx.out;have HN:=hd0 hN;have hsx:=HT.out x' (List.mem_of_getElem? Hx.out);have hNl:=hsx.2.1;have Hput:=hd0 (specPut x' an ak cn ck (lastOf s) (T.length:Int) w4 hNl hN.len hcn hck hsn hsk hrn hrk)
    have i0:(n:Int) < (T.length:Int):=by omega
    have HK:=hd0 hxc;clear hcell hN hsx hNl hcn hck hsn hsk hrn hrk hxc
    go_wp2_with fail
    refine Hput.out.mono ?_;rintro e w5 ⟨an2,cn2,ak2,ck2,rfl,S5⟩;have g0:=cell_ext S5.ext d0;have g1:=cell_ext S5.ext d1;have g2:=cell_ext S5.ext d2;have g3:=cell_ext S5.ext d3;have g4:=cell_ext S5.ext d4;have g5:=cell_ext S5.ext d5;have g6:=cell_ext S5.ext d6;obtain⟨X2,hX2⟩:∃X2,X2=putNd x' (lastOf s) (T.length:Int):=⟨_,rfl⟩;rw[←hX2]at S5 HX;have HX2:=hd0 hX2;rw[←hX2];clear hX2 d0 d1 d2 d3 d4 d5 d6 Hput hfz;replace S:Sep w w5 [plRow 3 1 encInt1 (.slice ak2 X2.K.length ck2) X2.K,plRow 9 1 encStr1 (.slice an2 X2.N.length cn2) X2.N,plNd (.slice (some ⟨g,0,none⟩) T.length cap2) vs T,plBox w.heap.size #[.int .i64 cr,.int .i64 ca,.int .i64 cs,.int .i64 cg] 29]:=S.call S5;clear S5;have hvl:=plG_len (S.at_ 2 rfl);have hrow:=S.gRow 2 rfl;rw[hvl]at hrow;have hfz:=hrow.frozenAt;clear hrow;have S6:=S.ofRows 1 0 (⟨X2,an2,cn2,ak2,ck2⟩:Nc) rfl rfl (by decide);have S7:=S6.gPut 1 0 encNc_len rfl rfl (by decide) (k:=n) (by omega);have S8:Sep w (((((((w5.setCell ⟨g,n*7,none⟩ (.bool X2.fold)).setCell ⟨g,n*7+1,none⟩ (.int .i64 X2.own)).setCell ⟨g,n*7+2,none⟩ (.int .i64 X2.grp)).setCell ⟨g,n*7+3,none⟩ (.int .i64 X2.mode)).setCell ⟨g,n*7+4,none⟩ (.string X2.text)).setCell ⟨g,n*7+5,none⟩ (.slice an2 X2.N.length cn2)).setCell ⟨g,n*7+6,none⟩ (.slice ak2 X2.K.length ck2)) [plNd (.slice (some ⟨g,0,none⟩) T.length cap2) (vs.set n ⟨X2,an2,cn2,ak2,ck2⟩) (T.set n X2),plBox w.heap.size #[.int .i64 cr,.int .i64 ca,.int .i64 cs,.int .i64 cg] 29]:=S7;have HS8:=hd0 S8;clear S S6 S7 S8
    go_upto_region 11 with fail
    obtain⟨wD,hwD⟩:∃wD,wD=(((((((w5.setCell ⟨g,n*7,none⟩ (.bool X2.fold)).setCell ⟨g,n*7+1,none⟩ (.int .i64 X2.own)).setCell ⟨g,n*7+2,none⟩ (.int .i64 X2.grp)).setCell ⟨g,n*7+3,none⟩ (.int .i64 X2.mode)).setCell ⟨g,n*7+4,none⟩ (.string X2.text)).setCell ⟨g,n*7+5,none⟩ (.slice an2 X2.N.length cn2)).setCell ⟨g,n*7+6,none⟩ (.slice ak2 X2.K.length ck2)):=⟨_,rfl⟩;rw[←hwD]at HS8 ⊢;clear hwD g0 g1 g2 g3 g4 g5 g6 hfz;have S:=HS8.out;obtain⟨V2,hV2⟩:∃V2,V2=vs.set n (⟨X2,an2,cn2,ak2,ck2⟩:Nc):=⟨_,rfl⟩;obtain⟨T2,hT2⟩:∃T2,T2=T.set n X2:=⟨_,rfl⟩;rw[←hT2]at HX
    have hV2l:V2.length≤16:=by rw[hV2,List.length_set];omega
    rw[←hV2,←hT2]at S;clear hV2 hT2 HS8 hvl;obtain⟨z,bt,off,zan,zcn,zak,zck,hz,rfl,_,_,z2,_⟩:=atNd hc hn;rw[Hx.out]at hz
    cases hz
    have Sd:Sep w (World.drew wD) [plNd (.slice (some ⟨g,0,none⟩) T.length cap2) V2 T2,plBox w.heap.size #[.int .i64 cr,.int .i64 ca,.int .i64 cs,.int .i64 cg] 29]:=S.drew
    have hI0:∀wv,Chg (fun b=>(Value.slice (some ⟨g,0,none⟩) T.length cap2).ownBlock=some b) (World.drew wD) wv→Ext w wv:=fun wv hI=>Chg.ext (S.ext.drew) hI (fun b hb=>(S.lt (List.mem_cons_self ..) (show(plNd (.slice (some ⟨g,0,none⟩) T.length cap2) V2 T2).own b from .inl hb)).1)
    have hbc1:∀wv,Chg (fun b=>(Value.slice (some ⟨g,0,none⟩) T.length cap2).ownBlock=some b) (World.drew wD) wv→wv.cell? ⟨w.heap.size,1,none⟩=some (.int .i64 ca):=fun wv hI=>cell_chg (bx (Sd.box 1 rfl) 1 rfl).1 hI (fun hb=>Sd.ne (i:=0) (j:=1) rfl rfl (by decide) (show(plNd (.slice (some ⟨g,0,none⟩) T.length cap2) V2 T2).own w.heap.size from .inl hb) rfl)
    have hgrp:∀wv,Chg (fun b=>(Value.slice (some ⟨g,0,none⟩) T.length cap2).ownBlock=some b) (World.drew wD) wv→wv.cell? ⟨bt,off+n*7+2,none⟩=some (.int .i64 x'.grp):=fun wv hI=>cell_ext (hI0 wv hI) z2
    have HX3:=HX;clear HX z2 S;refine wp_region_t (V:=VMk w g T.length cap2 fo w.heap.size ca bt off T.length cap n x' md V2 T2 [plBox w.heap.size #[.int .i64 cr,.int .i64 ca,.int .i64 cs,.int .i64 cg] 29] wD wD.heap.size) (Chg (fun b=>((Value.slice (some ⟨g,0,none⟩) T.length cap2)).ownBlock=some b) (World.drew wD)) (fun i=>if i=11 then some 12 else if i=13 then some 12 else none) [] 13 1 rfl (by decide) (by kernel_rfl) (by kernel_rfl) (by kernel_rfl) (by kernel_rfl) (Chg.refl _ _) (fun r hr=>match r,hr with|0,_=>Sd) ?_ ?_
    ·intro i o hi ho vz w4 hvl hE hd hrest;have hsz:wD.heap.size≤w4.heap.size:=hE.size;have hE4:=hI0 w4 hE
     match vz,hvl with
     | [y0,y1,y2,y3,y4,y5,y6,y7,y8,y9,y10,y11,y12],_ =>
     rcases lc13 hi with rfl|rfl|rfl|rfl|rfl|rfl|rfl|rfl|rfl|rfl|rfl|rfl|rfl
     all_goals
      obtain rfl:=Option.some.inj ho
     ·clear hd hrest;simp[putAll,Act.put];go_wp2;exact OneC.mk (VMk.ext) rfl rfl hE (Ext.refl _)
     ·clear hd hrest;simp[putAll,Act.put];go_wp2;exact OneC.mk (VMk.ext) rfl rfl hE (Ext.refl _)
     ·clear hd hrest;simp[putAll,Act.put];go_wp2;exact OneC.mk (VMk.ext) rfl rfl hE (Ext.refl _)
     ·have q2:y2=.pointer (some ⟨w.heap.size,1,none⟩):=hd ⟨2,.data⟩ (by simp) rfl (by decide);have c3:=hbc1 w4 hE;subst q2;clear hd hrest;simp[putAll,Act.put];go_wp2;exact OneC.mk (VMk.ext) rfl rfl hE (Ext.refl _)
     ·clear hd hrest;simp[putAll,Act.put];go_wp2;exact OneC.mk (VMk.ext) rfl rfl hE (Ext.refl _)
     ·clear hd hrest;simp[putAll,Act.put];go_wp2;exact OneC.mk (VMk.ext) rfl rfl hE (Ext.refl _)
     ·have q4:y4=.slice (some ⟨bt,off,none⟩) T.length cap:=hd ⟨4,.data⟩ (by simp) rfl (by decide);have q5:y5=.int .i64 n:=hd ⟨5,.data⟩ (by simp) rfl (by decide);subst q4 q5;clear hd hrest;simp[putAll,Act.put];go_wp2;exact OneC.mk (VMk.ext) rfl rfl hE (Ext.refl _)
     ·have q6:y6=.pointer (some ⟨bt,off+n*7,none⟩):=hd ⟨6,.data⟩ (by simp) rfl (by decide);subst q6;clear hd hrest;simp[putAll,Act.put];go_wp2;exact OneC.mk (VMk.ext) rfl rfl hE (Ext.refl _)
     ·have q7:y7=.pointer (some ⟨bt,off+n*7+2,none⟩):=hd ⟨7,.data⟩ (by simp) rfl (by decide);have c3:=hgrp w4 hE;subst q7;clear hd hrest;simp[putAll,Act.put];go_wp2;exact OneC.mk (VMk.ext) rfl rfl hE (Ext.refl _)
     ·clear hd hrest;simp[putAll,Act.put];go_wp2;exact OneC.mk (VMk.ext) rfl rfl hE (Ext.refl _)
     ·have q1:y1=.bool fo:=hd ⟨1,.data⟩ (by simp) rfl (by decide);have q3:y3=.int .i64 ca:=hd ⟨3,.data⟩ (by simp) rfl (by decide);have q8:y8=.int .i64 x'.grp:=hd ⟨8,.data⟩ (by simp) rfl (by decide);have q9:y9=.int .i64 md:=hd ⟨9,.data⟩ (by simp) rfl (by decide);subst q1 q3 q8 q9;clear hd hrest;simp[putAll,Act.put];go_wp2;exact OneC.mk (VMk.ext) rfl rfl hE (Ext.refl _)
     ·have q10:y10=.agg #[.bool fo,.int .i64 ca,.int .i64 x'.grp,.int .i64 md,.string ⟨#[]⟩,.slice none 0 0,.slice none 0 0]:=hd ⟨10,.data⟩ (by simp) rfl (by decide);subst q10;clear hd hrest;simp[putAll,Act.put];go_wp2;exact OneC.mk (VMk.ext) rfl ⟨_,rfl,hsz,heap_alloc_new w4 _⟩ (hE.trans (Chg.of_ext ((Ext.refl w4).alloc _))) ((Ext.refl _).alloc _)
     ·have q0:y0=Value.slice (some ⟨g,0,none⟩) T.length cap2:=hd ⟨0,.data⟩ (by simp) rfl (by decide);obtain⟨gq1,q1,hbq1,hgq1⟩:∃g,y11=.slice (some ⟨g,0,none⟩) 1 1∧wD.heap.size≤g∧w4.heap[g]?=some (.cells #[.bool fo,.int .i64 ca,.int .i64 x'.grp,.int .i64 md,.string ⟨#[]⟩,.slice none 0 0,.slice none 0 0] 89):=hd ⟨11,.data⟩ (by simp) rfl (by decide);have S4:Sep w w4 (plNd (Value.slice (some ⟨g,0,none⟩) T.length cap2) V2 T2 :: [plBox w.heap.size #[.int .i64 cr,.int .i64 ca,.int .i64 cs,.int .i64 cg] 29]):=hrest 0 (by omega) (.inr rfl);have S5:Sep w w4 (pinNd.one (⟨newNd fo ca x'.grp md,none,0,none,0⟩:Nc) (newNd fo ca x'.grp md) :: plNd (Value.slice (some ⟨g,0,none⟩) T.length cap2) V2 T2 :: [plBox w.heap.size #[.int .i64 cr,.int .i64 ca,.int .i64 cs,.int .i64 cg] 29]):=S4.cons (p:=pinNd.one (⟨newNd fo ca x'.grp md,none,0,none,0⟩:Nc) (newNd fo ca x'.grp md)) (Ext.refl w4) (root_pin _ rfl rfl w4) (fun b hb=>absurd hb (root_own _ b));have hrow:=S5.gRow 1 rfl;have hrd:Rd 7 encNc w4 (some ⟨gq1,0,none⟩) [(⟨newNd fo ca x'.grp md,none,0,none,0⟩:Nc)]:=rd_lit [(⟨newNd fo ca x'.grp md,none,0,none,0⟩:Nc)] encNc_len hgq1 rfl;subst q0 q1;clear hd hrest S4;simp[putAll,Act.put];refine wpList_append_b rfl _ _ 28 rfl w.heap.size 89 _ 7 _ Tryz.underlying28 infoNd rfl (by decide) encNc_len encNc_one _ (V2).length V2 rfl hrow rfl (some ⟨gq1,0,none⟩) 1 1 [(⟨newNd fo ca x'.grp md,none,0,none,0⟩:Nc)] rfl rfl hrd (by omega) (by omega) hE4.size ?_;intro v9 w9 ho9 hgr hblk;have S6:Sep w w9 (plNd v9 (V2++[(⟨newNd fo ca x'.grp md,none,0,none,0⟩:Nc)]) (T2++[(newNd fo ca x'.grp md)]) :: [plBox w.heap.size #[.int .i64 cr,.int .i64 ca,.int .i64 cs,.int .i64 cg] 29]):=S5.gPush 1 0 rfl rfl (by decide) hgr ho9 hblk;have hch:=Chg.of_grown hgr;clear ho9 hblk hrow hrd S5 hgr;go_wp2;refine⟨rfl,_,rfl,⟨_,S6⟩,hE.trans hch,fun j u hj hne hcon hnd hnc hv=>?_⟩
      match j with
      | 0=>exact hv
      | 1=>exact hv
      | 2=>exact hv
      | 3=>exact hv
      | 4=>exact hv
      | 5=>exact hv
      | 6=>exact hv
      | 7=>exact hv
      | 8=>exact hv
      | 9=>exact hv
      | 10=>exact hv
      | 11=>exact absurd rfl hcon
      | 12=>exact absurd rfl hne
      | 13=>exact absurd rfl hcon
      | (zz+14)=>trivial
    ·intro vz wE hvl hE hV _
     match vz,hvl with
     | [y0,y1,y2,y3,y4,y5,y6,y7,y8,y9,y10,y11,y12],_ =>
      obtain⟨vs3,S11⟩:∃vs2,Sep w wE (plNd y12 vs2 (T2++[newNd fo ca x'.grp md]) :: [plBox w.heap.size #[.int .i64 cr,.int .i64 ca,.int .i64 cs,.int .i64 cg] 29]):=hV 12 (by omega) rfl;clear hV hI0 hbc1 hgrp Sd hE;simp only[putAll,Act.put,List.take_succ_cons,List.take_zero,List.drop_succ_cons,List.drop_zero];simp;have S12:=S11.drop 1;clear S11;go_wp2;go_ret2;exact⟨_,vs3,by rw[HX3.out];rfl,by rw[HX3.out];exact S12⟩
def mdCh (m:Int) (k:Nat):UInt8:=if m / 2 ^ k % 2=1 then(if k % 3=2 then 114 else if k % 3=1 then 119 else 120)else 45
def mdPre (m:Int) (j:Nat):List UInt8:=(List.range j).map (fun i=>mdCh m (8 - i))
theorem mdPre_step (m:Int) (j:Nat):mdPre m (j+1)=mdPre m j++[mdCh m (8 - j)]:=by simp[mdPre,List.range_succ]
theorem mdPre_len (m:Int) (j:Nat):(mdPre m j).length=j:=by simp[mdPre]
theorem mdPre_lim (m:Int) (j:Nat) (h:j≤9):¬9223372036854775807 < (mdPre m j).length+1:=by rw[mdPre_len];omega
def modeL (m:Int):List UInt8:=mdPre m 9++if 512≤m then[43]else[]
def modeText (m:Int):ByteArray:=if inB m 0 1023=true then⟨(modeL m).toArray⟩else⟨#[]⟩
theorem ba_push (l:List UInt8) (c:UInt8):(⟨l.toArray⟩:ByteArray)++⟨#[c]⟩=⟨(l++[c]).toArray⟩:=by
 apply ByteArray.ext;simp[ByteArray.data_append]
theorem specModeText (m:Int) (w:World):Calls Tryz.prog 75 #[.int .i64 m] w fun e w'=>e=.returned (.string (modeText m))∧w=w':=by
 cases hM:inB m 0 1023 with
 | false =>
  have HX:Hid (modeText m=⟨#[]⟩):=hd0 (by unfold modeText;rw[if_neg (by simp[hM])]);have HMo:=hd0 hM;clear hM
  go_enter Tryz.func75,Tryz.ntmps75
  go_wp2_with (go_at_call 68;refine(l1In_is HMo.out _).mono ?_;rintro e w' ⟨rfl,rfl⟩)
  go_ret;exact⟨by rw[HX.out];rfl,rfl⟩
 | true =>
  have HX:Hid (modeText m=⟨(modeL m).toArray⟩):=hd0 (by unfold modeText;rw[if_pos hM]);have HMo:=hd0 hM;obtain⟨hm0,hm1⟩:=inB_iff.1 hM;clear hM
  go_enter Tryz.func75,Tryz.ntmps75
  go_wp2_with (go_at_call 68;refine(l1In_is HMo.out _).mono ?_;rintro e w' ⟨rfl,rfl⟩)
  go_loopw [3,4] (fun o i wr=>∃j:Nat,j≤9∧o=.string ⟨(mdPre m j).toArray⟩∧i=.int .i64 (8 - (j:Int))∧w=wr) (fun _ i _=>(intOf i+1).toNat)
  case atStart=>exact⟨0,by omega,rfl,rfl,rfl⟩
  case round =>
   obtain⟨j,hj,rfl,rfl,rfl⟩:=hrel
   by_cases h9:j=9
   ·subst h9;have hl:=mdPre_lim m 9 (by omega)
    by_cases hs:512≤m
    ·have HN:Hid ((⟨(mdPre m 9).toArray⟩++⟨#[43]⟩:ByteArray)=⟨(modeL m).toArray⟩):=hd0 (by rw[ba_push];unfold modeL;rw[if_pos hs]);go_wp2;go_ret;exact⟨by rw[HX.out,←HN.out];rfl,rfl⟩
    ·have HN:Hid ((⟨(mdPre m 9).toArray⟩:ByteArray)=⟨(modeL m).toArray⟩):=hd0 (by unfold modeL;rw[if_neg hs,List.append_nil]);go_wp2;go_ret;exact⟨by rw[HX.out,←HN.out];rfl,rfl⟩
   ·rcases(show j=0∨j=1∨j=2∨j=3∨j=4∨j=5∨j=6∨j=7∨j=8 by omega)with rfl|rfl|rfl|rfl|rfl|rfl|rfl|rfl|rfl
    ·have hl:=mdPre_lim m 0 (by omega)
     by_cases hb:m / 256 % 2=1
     ·have tb:(m / 256 % 2 == 1)=true:=by simpa using hb
      have HN:Hid ((⟨(mdPre m 0).toArray⟩++(⟨#[120,119,114]⟩:ByteArray).extract 2 3:ByteArray)=⟨(mdPre m 1).toArray⟩):=hd0 (by
       rw[mdPre_step m 0,show mdCh m (8 - 0)=114 from(by unfold mdCh;rw[if_pos (show(m / 2 ^ (8 - 0) % 2=1)from by simpa using hb)];try rfl),←ba_push];try rfl)
      clear hb;go_wp2;go_roundw
      case rel=>exact⟨1,by omega,by rw[HN.out],by first|rfl|(go_num;done)|(simp;done),by first|rfl|trivial⟩
      case measure=>simp[intOf]
     ·have tb:(m / 256 % 2 == 1)=false:=by simpa using hb
      have HN:Hid ((⟨(mdPre m 0).toArray⟩++⟨#[45]⟩:ByteArray)=⟨(mdPre m 1).toArray⟩):=hd0 (by
       rw[mdPre_step m 0,show mdCh m (8 - 0)=45 from(by unfold mdCh;rw[if_neg (show ¬(m / 2 ^ (8 - 0) % 2=1)from by simpa using hb)];try rfl),←ba_push];try rfl)
      clear hb;go_wp2;go_roundw
      case rel=>exact⟨1,by omega,by rw[HN.out],by first|rfl|(go_num;done)|(simp;done),by first|rfl|trivial⟩
      case measure=>simp[intOf]
    ·have hl:=mdPre_lim m 1 (by omega)
     by_cases hb:m / 128 % 2=1
     ·have tb:(m / 128 % 2 == 1)=true:=by simpa using hb
      have HN:Hid ((⟨(mdPre m 1).toArray⟩++(⟨#[120,119,114]⟩:ByteArray).extract 1 2:ByteArray)=⟨(mdPre m 2).toArray⟩):=hd0 (by
       rw[mdPre_step m 1,show mdCh m (8 - 1)=119 from(by unfold mdCh;rw[if_pos (show(m / 2 ^ (8 - 1) % 2=1)from by simpa using hb)];try rfl),←ba_push];try rfl)
      clear hb;go_wp2;go_roundw
      case rel=>exact⟨2,by omega,by rw[HN.out],by first|rfl|(go_num;done)|(simp;done),by first|rfl|trivial⟩
      case measure=>simp[intOf]
     ·have tb:(m / 128 % 2 == 1)=false:=by simpa using hb
      have HN:Hid ((⟨(mdPre m 1).toArray⟩++⟨#[45]⟩:ByteArray)=⟨(mdPre m 2).toArray⟩):=hd0 (by
       rw[mdPre_step m 1,show mdCh m (8 - 1)=45 from(by unfold mdCh;rw[if_neg (show ¬(m / 2 ^ (8 - 1) % 2=1)from by simpa using hb)];try rfl),←ba_push];try rfl)
      clear hb;go_wp2;go_roundw
      case rel=>exact⟨2,by omega,by rw[HN.out],by first|rfl|(go_num;done)|(simp;done),by first|rfl|trivial⟩
      case measure=>simp[intOf]
    ·have hl:=mdPre_lim m 2 (by omega)
     by_cases hb:m / 64 % 2=1
     ·have tb:(m / 64 % 2 == 1)=true:=by simpa using hb
      have HN:Hid ((⟨(mdPre m 2).toArray⟩++(⟨#[120,119,114]⟩:ByteArray).extract 0 1:ByteArray)=⟨(mdPre m 3).toArray⟩):=hd0 (by
       rw[mdPre_step m 2,show mdCh m (8 - 2)=120 from(by unfold mdCh;rw[if_pos (show(m / 2 ^ (8 - 2) % 2=1)from by simpa using hb)];try rfl),←ba_push];try rfl)
      clear hb;go_wp2;go_roundw
      case rel=>exact⟨3,by omega,by rw[HN.out],by first|rfl|(go_num;done)|(simp;done),by first|rfl|trivial⟩
      case measure=>simp[intOf]
     ·have tb:(m / 64 % 2 == 1)=false:=by simpa using hb
      have HN:Hid ((⟨(mdPre m 2).toArray⟩++⟨#[45]⟩:ByteArray)=⟨(mdPre m 3).toArray⟩):=hd0 (by
       rw[mdPre_step m 2,show mdCh m (8 - 2)=45 from(by unfold mdCh;rw[if_neg (show ¬(m / 2 ^ (8 - 2) % 2=1)from by simpa using hb)];try rfl),←ba_push];try rfl)
      clear hb;go_wp2;go_roundw
      case rel=>exact⟨3,by omega,by rw[HN.out],by first|rfl|(go_num;done)|(simp;done),by first|rfl|trivial⟩
      case measure=>simp[intOf]
    ·have hl:=mdPre_lim m 3 (by omega)
     by_cases hb:m / 32 % 2=1
     ·have tb:(m / 32 % 2 == 1)=true:=by simpa using hb
      have HN:Hid ((⟨(mdPre m 3).toArray⟩++(⟨#[120,119,114]⟩:ByteArray).extract 2 3:ByteArray)=⟨(mdPre m 4).toArray⟩):=hd0 (by
       rw[mdPre_step m 3,show mdCh m (8 - 3)=114 from(by unfold mdCh;rw[if_pos (show(m / 2 ^ (8 - 3) % 2=1)from by simpa using hb)];try rfl),←ba_push];try rfl)
      clear hb;go_wp2;go_roundw
      case rel=>exact⟨4,by omega,by rw[HN.out],by first|rfl|(go_num;done)|(simp;done),by first|rfl|trivial⟩
      case measure=>simp[intOf]
     ·have tb:(m / 32 % 2 == 1)=false:=by simpa using hb
      have HN:Hid ((⟨(mdPre m 3).toArray⟩++⟨#[45]⟩:ByteArray)=⟨(mdPre m 4).toArray⟩):=hd0 (by
       rw[mdPre_step m 3,show mdCh m (8 - 3)=45 from(by unfold mdCh;rw[if_neg (show ¬(m / 2 ^ (8 - 3) % 2=1)from by simpa using hb)];try rfl),←ba_push];try rfl)
      clear hb;go_wp2;go_roundw
      case rel=>exact⟨4,by omega,by rw[HN.out],by first|rfl|(go_num;done)|(simp;done),by first|rfl|trivial⟩
      case measure=>simp[intOf]
    ·have hl:=mdPre_lim m 4 (by omega)
     by_cases hb:m / 16 % 2=1
     ·have tb:(m / 16 % 2 == 1)=true:=by simpa using hb
      have HN:Hid ((⟨(mdPre m 4).toArray⟩++(⟨#[120,119,114]⟩:ByteArray).extract 1 2:ByteArray)=⟨(mdPre m 5).toArray⟩):=hd0 (by
       rw[mdPre_step m 4,show mdCh m (8 - 4)=119 from(by unfold mdCh;rw[if_pos (show(m / 2 ^ (8 - 4) % 2=1)from by simpa using hb)];try rfl),←ba_push];try rfl)
      clear hb;go_wp2;go_roundw
      case rel=>exact⟨5,by omega,by rw[HN.out],by first|rfl|(go_num;done)|(simp;done),by first|rfl|trivial⟩
      case measure=>simp[intOf]
     ·have tb:(m / 16 % 2 == 1)=false:=by simpa using hb
      have HN:Hid ((⟨(mdPre m 4).toArray⟩++⟨#[45]⟩:ByteArray)=⟨(mdPre m 5).toArray⟩):=hd0 (by
       rw[mdPre_step m 4,show mdCh m (8 - 4)=45 from(by unfold mdCh;rw[if_neg (show ¬(m / 2 ^ (8 - 4) % 2=1)from by simpa using hb)];try rfl),←ba_push];try rfl)
      clear hb;go_wp2;go_roundw
      case rel=>exact⟨5,by omega,by rw[HN.out],by first|rfl|(go_num;done)|(simp;done),by first|rfl|trivial⟩
      case measure=>simp[intOf]
    ·have hl:=mdPre_lim m 5 (by omega)
     by_cases hb:m / 8 % 2=1
     ·have tb:(m / 8 % 2 == 1)=true:=by simpa using hb
      have HN:Hid ((⟨(mdPre m 5).toArray⟩++(⟨#[120,119,114]⟩:ByteArray).extract 0 1:ByteArray)=⟨(mdPre m 6).toArray⟩):=hd0 (by
       rw[mdPre_step m 5,show mdCh m (8 - 5)=120 from(by unfold mdCh;rw[if_pos (show(m / 2 ^ (8 - 5) % 2=1)from by simpa using hb)];try rfl),←ba_push];try rfl)
      clear hb;go_wp2;go_roundw
      case rel=>exact⟨6,by omega,by rw[HN.out],by first|rfl|(go_num;done)|(simp;done),by first|rfl|trivial⟩
      case measure=>simp[intOf]
     ·have tb:(m / 8 % 2 == 1)=false:=by simpa using hb
      have HN:Hid ((⟨(mdPre m 5).toArray⟩++⟨#[45]⟩:ByteArray)=⟨(mdPre m 6).toArray⟩):=hd0 (by
       rw[mdPre_step m 5,show mdCh m (8 - 5)=45 from(by unfold mdCh;rw[if_neg (show ¬(m / 2 ^ (8 - 5) % 2=1)from by simpa using hb)];try rfl),←ba_push];try rfl)
      clear hb;go_wp2;go_roundw
      case rel=>exact⟨6,by omega,by rw[HN.out],by first|rfl|(go_num;done)|(simp;done),by first|rfl|trivial⟩
      case measure=>simp[intOf]
    ·have hl:=mdPre_lim m 6 (by omega)
     by_cases hb:m / 4 % 2=1
     ·have tb:(m / 4 % 2 == 1)=true:=by simpa using hb
      have HN:Hid ((⟨(mdPre m 6).toArray⟩++(⟨#[120,119,114]⟩:ByteArray).extract 2 3:ByteArray)=⟨(mdPre m 7).toArray⟩):=hd0 (by
       rw[mdPre_step m 6,show mdCh m (8 - 6)=114 from(by unfold mdCh;rw[if_pos (show(m / 2 ^ (8 - 6) % 2=1)from by simpa using hb)];try rfl),←ba_push];try rfl)
      clear hb;go_wp2;go_roundw
      case rel=>exact⟨7,by omega,by rw[HN.out],by first|rfl|(go_num;done)|(simp;done),by first|rfl|trivial⟩
      case measure=>simp[intOf]
     ·have tb:(m / 4 % 2 == 1)=false:=by simpa using hb
      have HN:Hid ((⟨(mdPre m 6).toArray⟩++⟨#[45]⟩:ByteArray)=⟨(mdPre m 7).toArray⟩):=hd0 (by
       rw[mdPre_step m 6,show mdCh m (8 - 6)=45 from(by unfold mdCh;rw[if_neg (show ¬(m / 2 ^ (8 - 6) % 2=1)from by simpa using hb)];try rfl),←ba_push];try rfl)
      clear hb;go_wp2;go_roundw
      case rel=>exact⟨7,by omega,by rw[HN.out],by first|rfl|(go_num;done)|(simp;done),by first|rfl|trivial⟩
      case measure=>simp[intOf]
    ·have hl:=mdPre_lim m 7 (by omega)
     by_cases hb:m / 2 % 2=1
     ·have tb:(m / 2 % 2 == 1)=true:=by simpa using hb
      have HN:Hid ((⟨(mdPre m 7).toArray⟩++(⟨#[120,119,114]⟩:ByteArray).extract 1 2:ByteArray)=⟨(mdPre m 8).toArray⟩):=hd0 (by
       rw[mdPre_step m 7,show mdCh m (8 - 7)=119 from(by unfold mdCh;rw[if_pos (show(m / 2 ^ (8 - 7) % 2=1)from by simpa using hb)];try rfl),←ba_push];try rfl)
      clear hb;go_wp2;go_roundw
      case rel=>exact⟨8,by omega,by rw[HN.out],by first|rfl|(go_num;done)|(simp;done),by first|rfl|trivial⟩
      case measure=>simp[intOf]
     ·have tb:(m / 2 % 2 == 1)=false:=by simpa using hb
      have HN:Hid ((⟨(mdPre m 7).toArray⟩++⟨#[45]⟩:ByteArray)=⟨(mdPre m 8).toArray⟩):=hd0 (by
       rw[mdPre_step m 7,show mdCh m (8 - 7)=45 from(by unfold mdCh;rw[if_neg (show ¬(m / 2 ^ (8 - 7) % 2=1)from by simpa using hb)];try rfl),←ba_push];try rfl)
      clear hb;go_wp2;go_roundw
      case rel=>exact⟨8,by omega,by rw[HN.out],by first|rfl|(go_num;done)|(simp;done),by first|rfl|trivial⟩
      case measure=>simp[intOf]
    ·have hl:=mdPre_lim m 8 (by omega)
     by_cases hb:m % 2=1
     ·have tb:(m % 2 == 1)=true:=by simpa using hb
      have HN:Hid ((⟨(mdPre m 8).toArray⟩++(⟨#[120,119,114]⟩:ByteArray).extract 0 1:ByteArray)=⟨(mdPre m 9).toArray⟩):=hd0 (by
       rw[mdPre_step m 8,show mdCh m (8 - 8)=120 from(by unfold mdCh;rw[if_pos (show(m / 2 ^ (8 - 8) % 2=1)from by simpa using hb)];try rfl),←ba_push];try rfl)
      clear hb;go_wp2;go_roundw
      case rel=>exact⟨9,by omega,by rw[HN.out],by first|rfl|(go_num;done)|(simp;done),by first|rfl|trivial⟩
      case measure=>simp[intOf]
     ·have tb:(m % 2 == 1)=false:=by simpa using hb
      have HN:Hid ((⟨(mdPre m 8).toArray⟩++⟨#[45]⟩:ByteArray)=⟨(mdPre m 9).toArray⟩):=hd0 (by
       rw[mdPre_step m 8,show mdCh m (8 - 8)=45 from(by unfold mdCh;rw[if_neg (show ¬(m / 2 ^ (8 - 8) % 2=1)from by simpa using hb)];try rfl),←ba_push];try rfl)
      clear hb;go_wp2;go_roundw
      case rel=>exact⟨9,by omega,by rw[HN.out],by first|rfl|(go_num;done)|(simp;done),by first|rfl|trivial⟩
      case measure=>simp[intOf]
def rdPre (l:List UInt8) (k:Nat):Int:=(l.take k).foldl (fun m c=>2*m+if c=45 then 0 else 1) 0
theorem rdPre_step {s:ByteArray} {k:Nat} (h:k < s.size):rdPre s.data.toList (k+1)=2*rdPre s.data.toList k+if s[k]=45 then 0 else 1:=by
 have h':k < s.data.toList.length:=by rw[Array.length_toList];exact h
 unfold rdPre;rw[List.take_add_one,List.getElem?_eq_getElem h',Option.toList_some,List.foldl_append];rfl
theorem rdPre_bd (l:List UInt8):∀k,0≤rdPre l k∧rdPre l k < 2 ^ k
 | 0=>by simp[rdPre]
 | k+1=>by
  obtain⟨h1,h2⟩:=rdPre_bd l k
  have e:(2:Int) ^ (k+1)=2*2 ^ k:=by rw[Int.pow_succ];omega
  unfold rdPre at h1 h2 ⊢;rw[List.take_add_one]
  cases l[k]? with
  | none=>rw[Option.toList_none,List.append_nil];omega
  | some c =>
   rw[Option.toList_some,List.foldl_append];simp only[List.foldl_cons,List.foldl_nil]
   split<;>omega
def rdL (l:List UInt8):Int:=rdPre l (min l.length 9)+if l.length=10 then 512 else 0
def readMode (s:ByteArray):Int×Bool:=if (s.size=9∨s.size=10)∧modeText (rdL s.data.toList)=s then(rdL s.data.toList,true)else(0,false)
theorem mode_all:∀q:Fin 1024,rdL (modeL (q.val:Int))=(q.val:Int)∧((modeL (q.val:Int)).length=9∨(modeL (q.val:Int)).length=10):=by decide +kernel
theorem mode_back {m:Int} (h:inB m 0 1023=true):readMode (modeText m)=(m,true):=by
 obtain⟨h0,h1⟩:=inB_iff.1 h;have ha:=mode_all ⟨m.toNat,by omega⟩;simp only[show((m.toNat:Nat):Int)=m by omega]at ha
 have e:modeText m=⟨(modeL m).toArray⟩:=by unfold modeText;rw[if_pos h]
 have ed:(modeText m).data.toList=modeL m:=by rw[e]
 have es:(modeText m).size=(modeL m).length:=by rw[e];simp[ByteArray.size]
 unfold readMode;rw[ed,ha.1,es,if_pos ⟨ha.2,rfl⟩]
theorem mode_none {s:ByteArray} (h:∀m,inB m 0 1023=true→modeText m≠s):readMode s=(0,false):=by
 unfold readMode;rw[if_neg];rintro⟨h1,h2⟩
 by_cases hb:inB (rdL s.data.toList) 0 1023=true
 ·exact h _ hb h2
 ·unfold modeText at h2;rw[if_neg hb]at h2;rw[←h2]at h1
  rcases h1 with h1|h1<;>cases h1
theorem idx_at {A R:List UInt8} {c:UInt8} (h:c∉A):Lib.index (A++c :: R) [c]=A.length:=by
 refine Lib.index_first (by simp) (by simp[Lib.occAt,List.isPrefixOf]) (fun j hj=>?_)
 cases ho:Lib.occAt (A++c :: R) [c] j with
 | false=>rfl
 | true =>
  have h1:=Lib.occAt_head rfl ho;rw[List.getElem?_append_left hj]at h1;exact absurd (List.mem_of_getElem? h1) h
theorem idx_no {A:List UInt8} {c:UInt8} (h:c∉A):Lib.index A [c] = -1:=by
 refine Lib.index_none (fun j _=>?_)
 cases ho:Lib.occAt A [c] j with
 | false=>rfl
 | true=>exact absurd (List.mem_of_getElem? (Lib.occAt_head rfl ho)) h
theorem join_two (c:UInt8) (a b:List UInt8) (r:List (List UInt8)):Lib.join (a :: b :: r) [c]=a++c :: Lib.join (b :: r) [c]:=by
 rw[Lib.join_cons,Lib.join_cons];simp[Lib.joinTail]
theorem split_of_join (c:UInt8):∀(ls:List (List UInt8)) (k:Nat),ls≠[]→ls.length≤k+1→(∀a∈ls,c∉a)→Lib.splitK [c] 0 k (Lib.join ls [c])=ls
 | [],_,h,_,_=>absurd rfl h
 | [a],k,_,_,h=>by
  rw[Lib.join_one]
  cases k with
  | zero=>rfl
  | succ k=>simp[Lib.splitK,idx_no (h a (by simp))]
 | a :: b :: r,0,_,hl,_=>by simp at hl
 | a :: b :: r,k+1,_,hl,h=>by
  rw[join_two];have h1:=idx_at (R:=Lib.join (b :: r) [c]) (h a (by simp));have ih:=split_of_join c (b :: r) k (by simp) (by simp only[List.length_cons]at hl ⊢;omega) (fun x hx=>h x (List.mem_cons_of_mem _ hx))
  have hne:¬((a.length:Int) == -1)=true:=by simp
  unfold Lib.splitK;rw[h1,if_neg hne];simp[ih]
theorem joinB_app (P:List ByteArray) (o:ByteArray):(P.foldl (fun o p=>o++⟨#[47]⟩++p) o).data.toList=o.data.toList++(P.map (fun p=>47 :: p.data.toList)).flatten:=by
 induction P generalizing o with
 | nil=>simp
 | cons p P ih=>rw[List.foldl_cons,ih];simp[ByteArray.data_append]
theorem joinB_lib {P:List ByteArray} (h:P≠[]):joinB P=⟨#[47]⟩++⟨(Lib.join (P.map (·.data.toList)) [47]).toArray⟩:=by
 cases P with
 | nil=>exact absurd rfl h
 | cons p P =>
  apply ByteArray.ext;apply Array.toList_inj.1;unfold joinB;rw[joinB_app,List.map_cons,List.map_cons,Lib.join_cons];simp[Lib.joinTail,ByteArray.data_append,List.map_map,Function.comp_def]
theorem joinB_head {P:List ByteArray} (h:P≠[]):∃t,joinB P=⟨#[47]⟩++t:=⟨_,joinB_lib h⟩
theorem joinPath_head {Q:List ByteArray} (h:PartsOk Q):∃t:ByteArray,joinPath Q=⟨#[47]⟩++t:=by
 by_cases hQ:Q=[]
 ·refine⟨⟨#[]⟩,?_⟩;rw[joinPath,if_pos hQ];apply ByteArray.ext;simp[ByteArray.data_append]
 ·obtain⟨t,ht⟩:=joinB_head hQ;exact⟨t,by rw[joinPath_ok h hQ,ht]⟩
theorem ba_eq {a b:ByteArray} (h:a.data.toList=b.data.toList):a=b:=ByteArray.ext (Array.toList_inj.1 h)
theorem parts_head {s:ByteArray} (h:∀t,s≠⟨#[47]⟩++t):PartsR s [] false:=.inr ⟨rfl,rfl,fun Q hQ e=>by
 obtain⟨t,ht⟩:=joinPath_head hQ
 exact h t (by rw[←e,ht])⟩
theorem split_path {t:ByteArray} {Q:List ByteArray} (h:PartsOk Q) (hQ:Q≠[]) (e:joinPath Q=⟨#[47]⟩++t):Lib.splitB ⟨#[47]⟩ 0 (min 7 (t.size+1) - 1) t=Q:=by
 have e2:t.data.toList=Lib.join (Q.map (·.data.toList)) [47]:=by
  rw[joinPath_ok h hQ,joinB_lib hQ]at e;have:=congrArg (fun x:ByteArray=>x.data.toList) e;simp[ByteArray.data_append]at this;exact this.symm
 have hlen:Q.length≤min 7 (t.size+1) - 1+1:=by
  have h1:t.size=(Lib.join (Q.map (·.data.toList)) [47]).length:=by rw[←e2,Array.length_toList];rfl
  have h2:Q.length≤t.size+1:=by
   rw[h1];clear e e2 h1 h
   cases Q with
   | nil=>simp
   | cons p Q =>
    rw[List.map_cons,Lib.join_cons,List.length_append,Lib.joinTail_length,List.length_map];simp only[List.length_cons,List.length_nil,Nat.zero_add,Nat.one_mul];omega
  have:=h.2;omega
 have h1:=Lib.splitB_data ⟨#[47]⟩ 0 (min 7 (t.size+1) - 1) t;rw[e2]at h1;have h2:(⟨#[47]⟩:ByteArray).data.toList=[47]:=rfl
 rw[h2,split_of_join 47 _ _ (by simpa using hQ) (by rw[List.length_map];exact hlen) (fun a ha=>by
  obtain⟨p,hp,rfl⟩:=List.mem_map.1 ha
  exact fun hm=>name_noslash (h.1 p hp) 47 hm rfl)]at h1
 have inj:Function.Injective (fun x:ByteArray=>x.data.toList):=fun a b hab=>ba_eq hab
 exact(List.map_inj_right (fun a b hab=>inj hab)).1 h1
theorem parts_split_yes {t:ByteArray} {X:List ByteArray} (ht:0 < t.size) (h:joinPath X=⟨#[47]⟩++t):PartsR (⟨#[47]⟩++t) X true:=by
 have hsz:(⟨#[47]⟩++t:ByteArray).size=1+t.size:=by rw[ByteArray.size_append];rfl
 refine parts_yes (fun e=>?_) (by omega) h;have:=congrArg ByteArray.size e;rw[hsz]at this;have h1:(⟨#[47]⟩:ByteArray).size=1:=rfl;omega
theorem parts_split_no {t:ByteArray} (ht:0 < t.size) (h:joinPath (Lib.splitB ⟨#[47]⟩ 0 (min 7 (t.size+1) - 1) t)≠⟨#[47]⟩++t):PartsR (⟨#[47]⟩++t) [] false:=.inr ⟨rfl,rfl,fun Q hQ e=>by
 by_cases hn:Q=[]
 ·rw[joinPath,if_pos hn]at e;have:=congrArg ByteArray.size e;rw[ByteArray.size_append]at this;have h1:(⟨#[47]⟩:ByteArray).size=1:=rfl;omega
 ·rw[split_path hQ hn e]at h
  exact h e⟩
theorem split_small (t:ByteArray) (k:Nat):∀p∈Lib.splitB ⟨#[47]⟩ 0 k t,p.size≤t.size:=by
 induction k generalizing t with
 | zero=>intro p hp;rw[List.mem_singleton.1 (show p∈[t]from hp)];exact Nat.le_refl _
 | succ k ih =>
  intro p hp;unfold Lib.splitB at hp
  split at hp
  ·rw[List.mem_singleton.1 hp];exact Nat.le_refl _
  ·rcases List.mem_cons.1 hp with rfl|hp
   ·rw[ByteArray.size_extract];omega
   ·have:=ih _ p hp;rw[ByteArray.size_extract]at this;omega
def stepW (out:List ByteArray) (c:UInt8):List ByteArray:=if c=32 then out++[⟨#[]⟩]else match out.getLast? with
 | none=>[]
 | some l=>out.dropLast++[l++⟨#[c]⟩]
def wordsL (s:List UInt8):List ByteArray:=s.foldl stepW [⟨#[]⟩]
def wordsB (s:ByteArray):List ByteArray:=wordsL s.data.toList
theorem stepW_sp (Q:List ByteArray):stepW Q 32=Q++[⟨#[]⟩]:=by simp[stepW]
theorem snoc_of {X:List ByteArray} {m:Nat} {l:ByteArray} (hm:X.length=m+1) (hx:X[m]?=some l):X=X.take m++[l]:=by
 have e:X.take (m+1)=X.take m++[l]:=by rw[List.take_add_one,hx];rfl
 rw[←e,List.take_of_length_le (by omega)]
theorem stepW_char (Q:List ByteArray) (p:ByteArray) {c:UInt8} (h:c≠32):stepW (Q++[p]) c=Q++[p++⟨#[c]⟩]:=by simp[stepW,h]
theorem stepW_last {X:List ByteArray} {m:Nat} {l:ByteArray} {c:UInt8} (h:c≠32) (hm:X.length=m+1) (hx:X[m]?=some l):stepW X c=X.set m (l++⟨#[c]⟩):=by
 have e:=snoc_of hm hx
 have hl:(X.take m).length=m:=by rw[List.length_take];omega
 rw[e,stepW_char _ _ h,List.set_append,hl,if_neg (by omega),Nat.sub_self];rfl
theorem words_step {s:ByteArray} {k:Nat} (h:k < s.size):wordsL (s.data.toList.take (k+1))=stepW (wordsL (s.data.toList.take k)) s[k]:=by
 have h':k < s.data.toList.length:=by rw[Array.length_toList];exact h
 rw[List.take_add_one,List.getElem?_eq_getElem h'];unfold wordsL;rw[List.foldl_append];rfl
theorem join_snoc (c:UInt8) (a:List UInt8):∀ls:List (List UInt8),ls≠[]→Lib.join (ls++[a]) [c]=Lib.join ls [c]++c :: a
 | [],h=>absurd rfl h
 | [x],_=>by show Lib.join [x,a] [c]=_;rw[join_two];simp[Lib.join]
 | x :: y :: r,_=>by
  show Lib.join (x :: y :: (r++[a])) [c]=_
  rw[join_two,join_two];have:=join_snoc c a (y :: r) (by simp);rw[List.cons_append]at this;rw[this];simp
theorem join_last (c:UInt8) (a b:List UInt8):∀ls:List (List UInt8),Lib.join (ls++[a++b]) [c]=Lib.join (ls++[a]) [c]++b
 | []=>by simp[Lib.join]
 | x :: r=>by
  rw[join_snoc c _ (x :: r) (by simp),join_snoc c _ (x :: r) (by simp)];simp
structure WInv (Q:List ByteArray) (l:List UInt8):Prop where
 ne:Q≠[]
 join:Lib.join (Q.map (·.data.toList)) [32]=l
 no:∀p∈Q,(32:UInt8)∉p.data.toList
 sz:∀p∈Q,p.size≤l.length
 len:Q.length≤l.length+1
theorem winv_step {Q:List ByteArray} {l:List UInt8} (h:WInv Q l) (c:UInt8):WInv (stepW Q c) (l++[c]):=by
 by_cases hc:c=32
 ·subst hc;rw[stepW_sp];refine⟨by simp,?_,fun p hp=>?_,fun p hp=>?_,?_⟩
  ·rw[List.map_append,List.map_singleton,join_snoc 32 _ _ (by simpa using h.ne),h.join]
  ·rcases List.mem_append.1 hp with hp|hp
   ·exact h.no p hp
   ·rw[List.mem_singleton.1 hp];exact List.not_mem_nil
  ·rw[List.length_append]
   rcases List.mem_append.1 hp with hp|hp
   ·have:=h.sz p hp;omega
   ·rw[List.mem_singleton.1 hp];exact Nat.zero_le _
  ·simp only[List.length_append,List.length_singleton];have:=h.len;omega
 ·obtain⟨m,hm⟩:∃m,Q.length=m+1:=⟨Q.length - 1,by have:=List.length_pos_iff.2 h.ne;omega⟩;have hx:Q[m]?=some Q[m]:=List.getElem?_eq_getElem (by omega);have e:=snoc_of hm hx;have hq:Q[m]∈Q:=List.getElem_mem _;generalize Q[m]=x at *
  have hsub:∀p∈Q.take m,p∈Q:=fun p hp=>List.mem_of_mem_take hp
  have h2:=h.join;rw[e]at h2 ⊢;rw[stepW_char _ _ hc]
  have hd:(x++⟨#[c]⟩:ByteArray).data.toList=x.data.toList++[c]:=by simp[ByteArray.data_append]
  have hs:(x++⟨#[c]⟩:ByteArray).size=x.size+1:=by rw[ByteArray.size_append];rfl
  refine⟨by simp,?_,fun p hp=>?_,fun p hp=>?_,?_⟩
  ·rw[List.map_append,List.map_singleton,hd,join_last];rw[List.map_append,List.map_singleton]at h2;rw[h2]
  ·rcases List.mem_append.1 hp with hp|hp
   ·exact h.no p (hsub p hp)
   ·rw[List.mem_singleton.1 hp,hd];intro hm
    rcases List.mem_append.1 hm with hm|hm
    ·exact h.no x hq hm
    ·exact hc (List.mem_singleton.1 hm).symm
  ·rw[List.length_append,List.length_singleton]
   rcases List.mem_append.1 hp with hp|hp
   ·have:=h.sz p (hsub p hp);omega
   ·rw[List.mem_singleton.1 hp,hs];have:=h.sz x hq;omega
  ·have:=h.len;simp only[List.length_append,List.length_singleton,List.length_take];omega
theorem winv (l:List UInt8):WInv (wordsL l) l:=by
 suffices h:∀(l2:List UInt8) (Q:List ByteArray) (l:List UInt8),WInv Q l→WInv (l2.foldl stepW Q) (l++l2)by
  have:=h l [⟨#[]⟩] [] ⟨by simp,by simp[Lib.join],fun p hp=>by rw[List.mem_singleton.1 hp];exact List.not_mem_nil,fun p hp=>by rw[List.mem_singleton.1 hp];exact Nat.le_refl _,by simp⟩
  rwa [List.nil_append]at this
 intro l2
 induction l2 with
 | nil=>intro Q l h;rw[List.append_nil];exact h
 | cons c l2 ih =>
  intro Q l h;have:=ih _ _ (winv_step h c)
  rwa [List.append_assoc,List.singleton_append]at this
theorem words_len (s:ByteArray):(wordsB s).length≤s.size+1:=by
 have h:=(winv s.data.toList).len;rw[Array.length_toList]at h;exact h
theorem words_size {s:ByteArray} {p:ByteArray} (hp:p∈wordsB s):p.size≤s.size:=by
 have h:=(winv s.data.toList).sz p hp;rw[Array.length_toList]at h;exact h
theorem words_pos (s:ByteArray):1≤(wordsB s).length:=List.length_pos_iff.2 (winv s.data.toList).ne
theorem count_lib (c:UInt8):∀ls:List (List UInt8),ls≠[]→(∀a∈ls,c∉a)→Lib.count (Lib.join ls [c]) [c]+1=ls.length
 | [],h,_=>absurd rfl h
 | [a],_,h=>by
  have e:Lib.join [a] [c]=a:=by simp[Lib.join]
  rw[e,Lib.count_miss (idx_no (h a (List.mem_cons_self ..)))];rfl
 | a :: b :: r,_,h=>by
  have ih:=count_lib c (b :: r) (by simp) (fun x hx=>h x (List.mem_cons_of_mem _ hx));rw[join_two,Lib.count_hit (by simp) (idx_at (h a (List.mem_cons_self ..)))]
  have e:(a++c :: Lib.join (b :: r) [c]).drop (a.length+[c].length)=Lib.join (b :: r) [c]:=by
   rw[List.length_singleton,List.drop_append];simp
  rw[e];simp only[List.length_cons]at ih ⊢;omega
theorem split_words (s:ByteArray):Lib.splitB ⟨#[32]⟩ 0 (Lib.countB s ⟨#[32]⟩) s=wordsB s:=by
 have hw:=winv s.data.toList;have h1:=Lib.splitB_data ⟨#[32]⟩ 0 (Lib.countB s ⟨#[32]⟩) s
 have hne:(wordsL s.data.toList).map (·.data.toList)≠[]:=by simpa using hw.ne
 have hno:∀a∈(wordsL s.data.toList).map (·.data.toList),(32:UInt8)∉a:=fun a ha=>by
  obtain⟨p,hp,rfl⟩:=List.mem_map.1 ha;exact hw.no p hp
 have hcnt:=count_lib 32 _ hne hno;rw[hw.join]at hcnt;have h2:=split_of_join 32 _ (Lib.countB s ⟨#[32]⟩) hne (by show _≤Lib.count s.data.toList [32]+1;omega) hno;rw[hw.join]at h2;have h3:(Lib.splitB ⟨#[32]⟩ 0 (Lib.countB s ⟨#[32]⟩) s).map (·.data.toList)=(wordsB s).map (·.data.toList):=h1.trans h2;exact(List.map_inj_right (fun a b h=>ba_eq h)).1 h3
section
variable {T:List Nd} {c:Cr} {src dst:ByteArray} {n k:Nat} {x z:Nd}
theorem lk_fault (hf:(findNode T c src).2≠0):linkName T c src dst=([],(findNode T c src).2):=by rw[linkName,if_pos hf]
theorem lk_dir (hF:findNode T c src=((k:Int),0)) (hz:T[k]?=some z) (h:z.fold=true):linkName T c src dst=([],4):=by
 rw[linkName,if_neg (by rw[hF];simp),hF];dsimp only;rw[Int.toNat_natCast,hz];dsimp only;rw[if_pos h]
theorem lk_file (hF : findNode T c src = ((k : Int), 0)) (hz : T[k]? = some z) (h : z.fold = false) : linkName T c src dst = if (placeFor T c dst).2 ≠ 0 then ([], (placeFor T c dst).2) else match T[(placeFor T c dst).1.toNat]? with
      | none=>([],1)
      | some x=>(T.set (placeFor T c dst).1.toNat (putNd x (lastOf dst) (k:Int)),0):=by
 rw[linkName,if_neg (by rw[hF];simp),hF];dsimp only;rw[Int.toNat_natCast,hz];dsimp only;rw[if_neg (by simp[h])];rfl
theorem lk_place (hF:findNode T c src=((k:Int),0)) (hz:T[k]?=some z) (h:z.fold=false) (hf:(placeFor T c dst).2≠0):linkName T c src dst=([],(placeFor T c dst).2):=by rw[lk_file hF hz h,if_pos hf]
theorem lk_ok (hF:findNode T c src=((k:Int),0)) (hz:T[k]?=some z) (h:z.fold=false) (hp:placeFor T c dst=((n:Int),0)) (hx:T[n]?=some x):linkName T c src dst=(T.set n (putNd x (lastOf dst) (k:Int)),0):=by
 rw[lk_file hF hz h,if_neg (by rw[hp];simp),hp];dsimp only;rw[Int.toNat_natCast,hx]
end
theorem specLinkName (a:Option Addr) (cap:Nat) (T:List Nd) (c:Cr) (src dst:ByteArray) (w:World) (hs:src.size≤1048576) (hd:dst.size≤1048576) (hl:T.length≤1048576) (hT:∀x∈T,SmN 1048576 x) (hc:RdN w a T) :
  Calls Tryz.prog 40 #[.slice a T.length cap,.agg #[.int .i64 c.r,.int .i64 c.a,.int .i64 c.s,.int .i64 c.g],.string src,.string dst] w (RetMk (linkName T c src dst) w):=by
 obtain⟨cr,ca,cs,cg⟩:=c;have HT:=hd0 hT;clear hT;dsimp only
 go_enter Tryz.func40,Tryz.ntmps40
 have S:=Sep.start w;replace S:=S.alloc_at (n:=w.heap.size) (by simp) #[.int .i64 cr,.int .i64 ca,.int .i64 cs,.int .i64 cg] 29
 go_wp2_with fail
 generalize (w.alloc (.cells #[.int .i64 cr,.int .i64 ca,.int .i64 cs,.int .i64 cg] 29))=w1 at *;refine(specFindNode a cap T ⟨cr,ca,cs,cg⟩ src w1 hs hl HT.out (hc.ext S.ext)).mono ?_;rintro e w2 ⟨rfl,hE⟩;replace S:=S.step hE;clear hE
 rcases find_cases T ⟨cr,ca,cs,cg⟩ src with⟨k,hF,hk,_,_⟩|⟨f,hf,hF⟩
 rotate_left
 ·have HX:=hd0 (lk_fault (T:=T) (c:=⟨cr,ca,cs,cg⟩) (dst:=dst) (by rw[hF];exact hf));rw[hF]at HX ⊢
  have tf:(f == 0)=false:=by simpa using hf
  clear hF hf;dsimp only at HX ⊢;go_wp2;go_ret2;exact RetMk.empty S.ext HX.out
 ·rw[hF];dsimp only;obtain⟨z,bt,off,zan,zcn,zak,zck,hz,rfl,c0,_⟩:=atNd hc hk;have d0:=cell_ext S.ext c0
  have i1:(k:Int) < (T.length:Int):=by omega
  have Hz:=hd0 hz;clear c0 hz
  cases hzf:z.fold with
  | true =>
   have HX:=hd0 (lk_dir (dst:=dst) hF Hz.out hzf);rw[hzf]at d0;clear hF hzf;go_wp2;go_ret2;exact RetMk.empty S.ext HX.out
  | false =>
   rw[hzf]at d0;have HF:=hd0 hF;have Hzf:=hd0 hzf;clear hF hzf;obtain⟨⟨bc0,bf0⟩,⟨bc1,bf1⟩,⟨bc2,bf2⟩,⟨bc3,bf3⟩⟩:=bx4 (S.box 0 rfl)
   go_wp2_with fail
   refine(specPlaceFor (some ⟨bt,off,none⟩) cap T ⟨cr,ca,cs,cg⟩ dst w2 hd hl HT.out (hc.ext S.ext)).mono ?_;rintro e w3 ⟨rfl,hE⟩;clear bc0 bf0 bc1 bf1 bc2 bf2 bc3 bf3;replace S:=S.step hE;clear hE;clear d0
   rcases place_cases T ⟨cr,ca,cs,cg⟩ dst with⟨n,x,hp,hx,hTr⟩|⟨f,hf,hp⟩
   rotate_left
   ·have HX:=hd0 (lk_place (dst:=dst) HF.out Hz.out Hzf.out (by rw[hp];exact hf));rw[hp]at HX ⊢
    have tf:(f == 0)=false:=by simpa using hf
    clear hp hf;dsimp only at HX ⊢;go_wp2;go_ret2;exact RetMk.empty S.ext HX.out
   ·have HX:=hd0 (lk_ok HF.out Hz.out Hzf.out hp hx);have Hx:=hd0 hx;have hn:=(List.getElem?_eq_some_iff.1 hx).1;have HTr:=hd0 hTr;rw[hp];clear hp hx hTr;dsimp only
    go_wp2_with fail
    refine(specAboveOf dst w3 hd).mono ?_;rintro e w3b ⟨rfl,hE⟩;replace S:=S.step hE;clear hE
    go_wp2_with fail
    refine(specCopy (some ⟨bt,off,none⟩) cap T w3b hl HT.out (hc.ext S.ext)).mono ?_;rintro e w4 ⟨u,vs,rfl,S4⟩;replace S:Sep w w4 [plNd u vs T,plBox w.heap.size #[.int .i64 cr,.int .i64 ca,.int .i64 cs,.int .i64 cg] 29]:=S.call S4;clear S4;obtain⟨xc,g,cap2,rfl,hcap2,hxc,hxn,hcell,hfz,hsn,hsk,hcn,hck,hrn,hrk⟩:=S.ndAt 0 rfl Hx.out;obtain⟨x',an,cn,ak,ck⟩:=xc;dsimp only at hxn hsn hsk hcn hck hrn hrk;subst hxn;have d0:w4.cell? ⟨g,n*7,none⟩=some (.bool x'.fold):=hcell 0 _ rfl;have d1:w4.cell? ⟨g,n*7+1,none⟩=some (.int .i64 x'.own):=hcell 1 _ rfl;have d2:w4.cell? ⟨g,n*7+2,none⟩=some (.int .i64 x'.grp):=hcell 2 _ rfl;have d3:w4.cell? ⟨g,n*7+3,none⟩=some (.int .i64 x'.mode):=hcell 3 _ rfl;have d4:w4.cell? ⟨g,n*7+4,none⟩=some (.string x'.text):=hcell 4 _ rfl;have d5:w4.cell? ⟨g,n*7+5,none⟩=some (.slice an x'.N.length cn):=hcell 5 _ rfl;have d6:w4.cell? ⟨g,n*7+6,none⟩=some (.slice ak x'.K.length ck):=hcell 6 _ rfl;have hN:=HTr.out.nodes n x' Hx.out;have hsx:=HT.out x' (List.mem_of_getElem? Hx.out);have hNl:=hsx.2.1;have Hput:=hd0 (specPut x' an ak cn ck (lastOf dst) (k:Int) w4 hNl hN.len hcn hck hsn hsk hrn hrk)
    have i0:(n:Int) < (T.length:Int):=by omega
    clear hcell hN hsx hNl hcn hck hsn hsk hrn hrk hxc
    go_wp2_with fail
    refine Hput.out.mono ?_;rintro e w5 ⟨an2,cn2,ak2,ck2,rfl,S5⟩;have g0:=cell_ext S5.ext d0;have g1:=cell_ext S5.ext d1;have g2:=cell_ext S5.ext d2;have g3:=cell_ext S5.ext d3;have g4:=cell_ext S5.ext d4;have g5:=cell_ext S5.ext d5;have g6:=cell_ext S5.ext d6;obtain⟨X2,hX2⟩:∃X2,X2=putNd x' (lastOf dst) (k:Int):=⟨_,rfl⟩;rw[←hX2]at S5 HX;rw[←hX2];clear hX2 d0 d1 d2 d3 d4 d5 d6 Hput hfz;replace S:Sep w w5 [plRow 3 1 encInt1 (.slice ak2 X2.K.length ck2) X2.K,plRow 9 1 encStr1 (.slice an2 X2.N.length cn2) X2.N,plNd (.slice (some ⟨g,0,none⟩) T.length cap2) vs T,plBox w.heap.size #[.int .i64 cr,.int .i64 ca,.int .i64 cs,.int .i64 cg] 29]:=S.call S5;clear S5;have hvl:=plG_len (S.at_ 2 rfl);have hrow:=S.gRow 2 rfl;rw[hvl]at hrow;have hfz:=hrow.frozenAt;clear hrow;have S6:=S.ofRows 1 0 (⟨X2,an2,cn2,ak2,ck2⟩:Nc) rfl rfl (by decide);have S7:=S6.gPut 1 0 encNc_len rfl rfl (by decide) (k:=n) (by omega);have S8:Sep w (((((((w5.setCell ⟨g,n*7,none⟩ (.bool X2.fold)).setCell ⟨g,n*7+1,none⟩ (.int .i64 X2.own)).setCell ⟨g,n*7+2,none⟩ (.int .i64 X2.grp)).setCell ⟨g,n*7+3,none⟩ (.int .i64 X2.mode)).setCell ⟨g,n*7+4,none⟩ (.string X2.text)).setCell ⟨g,n*7+5,none⟩ (.slice an2 X2.N.length cn2)).setCell ⟨g,n*7+6,none⟩ (.slice ak2 X2.K.length ck2)) [plNd (.slice (some ⟨g,0,none⟩) T.length cap2) (vs.set n ⟨X2,an2,cn2,ak2,ck2⟩) (T.set n X2),plBox w.heap.size #[.int .i64 cr,.int .i64 ca,.int .i64 cs,.int .i64 cg] 29]:=S7;have S9:=S8.drop 1;have HS8:=hd0 S9;clear S S6 S7 S8 S9 hvl;go_wp2;go_ret2;exact⟨_,_,by rw[HX.out];rfl,by rw[HX.out];exact HS8.out⟩
def joinW (N:List ByteArray):ByteArray:=⟨(Lib.join (N.map (·.data.toList)) [32]).toArray⟩
def doneT (T:List Nd) (r:List Nd×Int):List Nd×ByteArray:=if r.2=0 then(r.1,faultText 0)else(T,faultText r.2)
open Classical in
noncomputable def changeF (T:List Nd) (c:Cr):List ByteArray→Option (List Nd×Int)
 | [a,x]=>if a=⟨#[102,111,108,100,101,114]⟩then some (makeNode T c x true 493)else if a=⟨#[102,105,108,101]⟩then some (makeNode T c x false 420)else if a=⟨#[100,114,111,112]⟩then some (dropName T c x)else none
 | [a,x,y]=>if a=⟨#[119,114,105,116,101]⟩then some (writeFile T c x y)else if a=⟨#[109,111,100,101]⟩then(if (readMode y).2=true then some (changeMode T c x (readMode y).1)else some ([],1))
   else if a=⟨#[108,105,110,107]⟩then some (linkName T c x y)else if a=⟨#[109,111,118,101]⟩then some (moveName T c x y)else none
 | _=>none
open Classical in
noncomputable def tellF (T:List Nd) (c:Cr):List ByteArray→ByteArray
 | [a,x]=>if a=⟨#[114,101,97,100]⟩then(if (readFile T c x).2=0 then⟨#[61]⟩++(readFile T c x).1 else faultText (readFile T c x).2)else if a=⟨#[108,105,115,116]⟩then(if (listNames T c x).2=0 then⟨#[61]⟩++joinW (listNames T c x).1 else faultText (listNames T c x).2)else faultText 1
 | _=>faultText 1
noncomputable def callF (T:List Nd) (c:Cr) (W:List ByteArray):List Nd×ByteArray:=match changeF T c W with
 | some r=>doneT T r
 | none=>(T,tellF T c W)
open Classical in
noncomputable def callLine (T:List Nd) (c:Cr) (line:ByteArray):List Nd×ByteArray:=if TreeOk T∧c.ok then callF T c (wordsB line)else([],⟨#[]⟩)
theorem done_ok {T:List Nd} (hT:TreeOk T) {r:List Nd×Int} (h:r.2=0→TreeOk r.1):TreeOk (doneT T r).1:=by
 unfold doneT
 split
 ·rename_i h0;exact h h0
 ·exact hT
theorem cf_folder (T:List Nd) (c:Cr) (x:ByteArray):callF T c [⟨#[102,111,108,100,101,114]⟩,x]=doneT T (makeNode T c x true 493):=by
 have h:changeF T c [⟨#[102,111,108,100,101,114]⟩,x]=some (makeNode T c x true 493):=by
  unfold changeF;dsimp only;rw[if_pos rfl]
 unfold callF;rw[h]
theorem cf_file (T:List Nd) (c:Cr) (x:ByteArray):callF T c [⟨#[102,105,108,101]⟩,x]=doneT T (makeNode T c x false 420):=by
 have h:changeF T c [⟨#[102,105,108,101]⟩,x]=some (makeNode T c x false 420):=by
  unfold changeF;dsimp only;rw[if_neg (by decide),if_pos rfl]
 unfold callF;rw[h]
theorem cf_drop (T:List Nd) (c:Cr) (x:ByteArray):callF T c [⟨#[100,114,111,112]⟩,x]=doneT T (dropName T c x):=by
 have h:changeF T c [⟨#[100,114,111,112]⟩,x]=some (dropName T c x):=by
  unfold changeF;dsimp only;rw[if_neg (by decide),if_neg (by decide),if_pos rfl]
 unfold callF;rw[h]
theorem cf_write (T:List Nd) (c:Cr) (x y:ByteArray):callF T c [⟨#[119,114,105,116,101]⟩,x,y]=doneT T (writeFile T c x y):=by
 have h:changeF T c [⟨#[119,114,105,116,101]⟩,x,y]=some (writeFile T c x y):=by
  unfold changeF;dsimp only;rw[if_pos rfl]
 unfold callF;rw[h]
theorem cf_link (T:List Nd) (c:Cr) (x y:ByteArray):callF T c [⟨#[108,105,110,107]⟩,x,y]=doneT T (linkName T c x y):=by
 have h:changeF T c [⟨#[108,105,110,107]⟩,x,y]=some (linkName T c x y):=by
  unfold changeF;dsimp only;rw[if_neg (by decide),if_neg (by decide),if_pos rfl]
 unfold callF;rw[h]
theorem cf_move (T:List Nd) (c:Cr) (x y:ByteArray):callF T c [⟨#[109,111,118,101]⟩,x,y]=doneT T (moveName T c x y):=by
 have h:changeF T c [⟨#[109,111,118,101]⟩,x,y]=some (moveName T c x y):=by
  unfold changeF;dsimp only;rw[if_neg (by decide),if_neg (by decide),if_neg (by decide),if_pos rfl]
 unfold callF;rw[h]
theorem cf_len (T:List Nd) (c:Cr) {W:List ByteArray} (h2:W.length≠2) (h3:W.length≠3):callF T c W=(T,faultText 1):=by
 match W,h2,h3 with
 | [],_,_=>rfl
 | [_],_,_=>rfl
 | [_,_],h,_=>exact absurd rfl h
 | [_,_,_],_,h=>exact absurd rfl h
 | _ :: _ :: _ :: _ :: _,_,_=>rfl
theorem cf_two (T:List Nd) (c:Cr) {a:ByteArray} (x:ByteArray) (h0:a≠⟨#[102,111,108,100,101,114]⟩) (h1:a≠⟨#[102,105,108,101]⟩) (h2:a≠⟨#[100,114,111,112]⟩) (h3:a≠⟨#[114,101,97,100]⟩) (h4:a≠⟨#[108,105,115,116]⟩):callF T c [a,x]=(T,faultText 1):=by
 have h:changeF T c [a,x]=none:=by
  unfold changeF;dsimp only;rw[if_neg h0,if_neg h1,if_neg h2]
 unfold callF;rw[h];dsimp only;unfold tellF;dsimp only;rw[if_neg h3,if_neg h4]
theorem cf_three (T:List Nd) (c:Cr) {a:ByteArray} (x y:ByteArray) (h0:a≠⟨#[119,114,105,116,101]⟩) (h1:a≠⟨#[109,111,100,101]⟩) (h2:a≠⟨#[108,105,110,107]⟩) (h3:a≠⟨#[109,111,118,101]⟩):callF T c [a,x,y]=(T,faultText 1):=by
 have h:changeF T c [a,x,y]=none:=by
  unfold changeF;dsimp only;rw[if_neg h0,if_neg h1,if_neg h2,if_neg h3]
 unfold callF;rw[h];rfl
end Go.Proofs.YtnibbldfohbfkaaGreatDoor
