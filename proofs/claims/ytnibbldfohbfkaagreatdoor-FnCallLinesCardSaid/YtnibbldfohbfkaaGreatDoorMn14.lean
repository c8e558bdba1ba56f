/- Parts of one proof: what each theorem proves, and its conditions, stand in its own statement. -/
import Derived.Test.YtnibbldfohbfkaaGreatDoorMn13
set_option linter.all false
set_option maxRecDepth 100000
set_option maxHeartbeats 32000000
namespace Go.Proofs.YtnibbldfohbfkaaGreatDoor
open Go.RowKit
theorem era_takeNd (x:Nd) (s:ByteArray):takeNd x s=eraNd x (posOf x.N s):=rfl
theorem sm_era {x:Nd} {p:Nat} (h:SmN 1048576 x):SmN 1048576 (eraNd x p):=⟨h.1,by have:=h.2.1;have:(x.N.eraseIdx p).length≤x.N.length:=(List.eraseIdx_sublist ..).length_le;show(x.N.eraseIdx p).length≤_;omega,fun s hs=>h.2.2.1 s ((List.eraseIdx_sublist ..).subset hs),by have:=h.2.2.2;have:(x.K.eraseIdx p).length≤x.K.length:=(List.eraseIdx_sublist ..).length_le;show(x.K.eraseIdx p).length≤_;omega⟩
theorem links_almost {T:List Nd} {kid:Nat} {L:List Int} (h:AlmostOk T kid) (hL:LinksR T L):L=cntL T.length (kids T):=by
 rcases hL with⟨_,h1⟩|⟨h1,_⟩
 ·exact h1
 ·exact absurd (linkOk_of h.max h.nodes) h1
theorem implDropT {W0 w:World} {H:List Pl} (S:Sep W0 w H) (i:Nat) {g cap:Nat} {vs:List Nc} {T:List Nd} (hiH:H[i]?=some (plNd (.slice (some ⟨g,0,none⟩) T.length cap) vs T)) {k kid:Nat} {x z:Nd} {s:ByteArray} (hD:DropOk T k x s kid z) (hT:∀x∈T,SmN 1048576 x) (hNl:x.N.length≤1000000) :
  Calls Tryz.prog 119 #[.slice (some ⟨g,0,none⟩) T.length cap,.int .i64 k,.string s] w (fun e w'=>∃u' vs',e=.returned u'∧Sep W0 w' (H.set i (plNd u' vs' (dropT T k x s kid)))):=by
 have hxk:=hD.hx;have hN:=hD.tree.nodes k x hxk;obtain⟨hp,hps,hpk,hk1,hk2,hfo⟩:=kid_place hN (s:=s) (by rw[hD.kd];omega);rw[hD.kd]at hpk;obtain⟨c,g',cap',hu,hTc,hck,hcn,hcell,hfz,_,_,_,_,hrN,hrK⟩:=S.ndAt i hiH hxk
 obtain⟨rfl,rfl⟩:g=g'∧cap=cap':=by simp only[Value.slice.injEq,Option.some.injEq,Addr.mk.injEq,and_true,true_and]at hu;exact⟨hu.1,hu.2⟩
 obtain⟨pN,pK,_,_⟩:=S.nd_pin' i hiH hck hxk;obtain⟨x',an,cn,ak,ck⟩:=c;dsimp only at hcn pN pK hrN hrK;subst hcn;obtain⟨x,hxx⟩:∃z,z=x':=⟨_,rfl⟩;subst hxx;have hlen:=hN.len;obtain⟨gn,rfl⟩:=row_blk encStr1_len pN (by omega);obtain⟨gk,rfl⟩:=row_blk encInt1_len pK (by omega);have hA:=node_asc hN;have d5:w.cell? ⟨g,k*7+5,none⟩=some (.slice (some ⟨gn,0,none⟩) x.N.length cn):=hcell 5 _ rfl;have d6:w.cell? ⟨g,k*7+6,none⟩=some (.slice (some ⟨gk,0,none⟩) x.K.length ck):=hcell 6 _ rfl;obtain⟨yk,bk,ok,hyk,hbk,dk⟩:=atInt hrK (show posOf x.N s < x.K.length by omega)
 obtain⟨rfl,rfl⟩:gk=bk∧0=ok:=by simpa using hbk
 rw[Nat.zero_add]at dk;obtain rfl:yk=(kid:Int):=Option.some.inj (hyk.symm.trans hpk);have HLen:=hd0 hlen
 have hkT:(k:Int) < (T.length:Int):=by have:=(List.getElem?_eq_some_iff.1 hxk).1;omega
 have hpi:((posOf x.N s:Nat):Int) < (x.K.length:Int):=by omega
 have hpw:IntKind.i64.wrap (((posOf x.N s:Nat):Int)+1)=((posOf x.N s:Nat):Int)+1:=IntWalk.i64_in _ (by omega);have hkw:IntKind.i64.wrap ((kid:Int)+1)=(kid:Int)+1:=IntWalk.i64_in _ (by have:=hD.tree.max;have:=hD.kd;omega);have HSe:=hd0 (search_any (some ⟨gn,0,none⟩) cn _ x.N s w rfl hA (by omega) hrN);have HD:=hd0 hD;have HT:=hd0 hT;have hmax:=hD.tree.max;clear hcell hu hA hN hrN hrK hfz hyk hbk hpk hps hlen pN pK hfo hD hT
 go_enter Tryz.func119,Tryz.ntmps119
 go_wp2_with fail
 refine HSe.out.mono ?_;rintro e w1 ⟨fd,rfl,_,hE1⟩;replace S:=S.step hE1;replace d5:=cell_ext hE1 d5;replace d6:=cell_ext hE1 d6;replace dk:=cell_ext hE1 dk;clear HSe hE1;obtain⟨p,hpp⟩:∃p,p=posOf x.N s:=⟨_,rfl⟩;rw[←hpp]at hp hpi hpw dk ⊢;have Hpp:=hd0 hpp;clear hpp
 go_upto_region 3 with fail
 have e5:(World.drew w1).cell? ⟨g,k*7+5,none⟩=some (.slice (some ⟨gn,0,none⟩) x.N.length cn):=cell_ext (Ext.refl w1).drew d5;have e6:(World.drew w1).cell? ⟨g,k*7+6,none⟩=some (.slice (some ⟨gk,0,none⟩) x.K.length ck):=cell_ext (Ext.refl w1).drew d6;clear d5 d6 dk hpi;have Sd:Sep W0 (World.drew w1) H:=S.drew;refine wp_region_d (V:=VTk W0 H g T.length cap vs k x gn cn gk ck p) (fun i=>if i=21 then[12]else if i=24 then[21]else[]) (fun _ wv=>Chg (fun b=>b=g∨pinNd.own (⟨x,some ⟨gn,0,none⟩,cn,some ⟨gk,0,none⟩,ck⟩:Nc) b) (World.drew w1) wv) (fun i=>if i=25 then some 12 else if i=26 then some 8 else if i=12 then some 21 else if i=21 then some 24 else none) [(21,12),(24,12),(24,21),(24,8)] 25 3 rfl (by decide) (by kernel_rfl) (by kernel_rfl) (by kernel_rfl) (by kernel_rfl) (by kernel_rfl) (Chg.refl _ _) (fun r hr=>match r,hr with|0,_=>Sd|1,_=>e5|2,_=>e6) ?_ ?_
 ·intro i2 o hi ho k2 hk2 vz w4 hvl hI hd hrest
  match vz,hvl with
  | [y0,y1,y2,y3,y4,y5,y6,y7,y8,y9,y10,y11,y12,y13,y14,y15,y16,y17,y18,y19,y20,y21,y22,y23,y24],_ =>
  rcases(show i2=0∨i2=1∨i2=2∨i2=3∨i2=4∨i2=5∨i2=6∨i2=7∨i2=8∨i2=9∨i2=10∨i2=11∨i2=12∨i2=13∨i2=14∨i2=15∨i2=16∨i2=17∨i2=18∨i2=19∨i2=20∨i2=21∨i2=22∨i2=23∨i2=24 by omega)with rfl|rfl|rfl|rfl|rfl|rfl|rfl|rfl|rfl|rfl|rfl|rfl|rfl|rfl|rfl|rfl|rfl|rfl|rfl|rfl|rfl|rfl|rfl|rfl|rfl
  all_goals
   obtain rfl:=Option.some.inj ho
  ·clear hd hrest;simp[putAll,Act.put];go_wp2;exact OneD.mk (VTk.ext) rfl rfl hI (Ext.refl _)
  ·clear hd hrest;simp[putAll,Act.put];go_wp2;exact OneD.mk (VTk.ext) rfl rfl hI (Ext.refl _)
  ·clear hd hrest;simp[putAll,Act.put];go_wp2;exact OneD.mk (VTk.ext) rfl rfl hI (Ext.refl _)
  ·clear hd hrest;simp[putAll,Act.put];go_wp2;exact OneD.mk (VTk.ext) rfl rfl hI (Ext.refl _)
  ·clear hd hrest;simp[putAll,Act.put];go_wp2;exact OneD.mk (VTk.ext) rfl rfl hI (Ext.refl _)
  ·clear hd hrest;simp[putAll,Act.put];go_wp2;exact OneD.mk (VTk.ext) rfl rfl hI (Ext.refl _)
  ·have q4:y4=.slice (some ⟨g,0,none⟩) T.length cap:=hd ⟨4,.data⟩ (by simp) rfl (.inl rfl);have q5:y5=.int .i64 (k:Nat):=hd ⟨5,.data⟩ (by simp) rfl (.inl rfl);subst q4 q5;clear hd hrest;simp[putAll,Act.put];go_wp2;exact OneD.mk (VTk.ext) rfl rfl hI (Ext.refl _)
  ·have q6:y6=.pointer (some ⟨g,k*7,none⟩):=hd ⟨6,.data⟩ (by simp) rfl (.inl rfl);subst q6;clear hd hrest;simp[putAll,Act.put];go_wp2;exact OneD.mk (VTk.ext) rfl rfl hI (Ext.refl _)
  ·have q7:y7=.pointer (some ⟨g,k*7+5,none⟩):=hd ⟨7,.data⟩ (by simp) rfl (.inl rfl);have c5:w4.cell? ⟨g,k*7+5,none⟩=some (.slice (some ⟨gn,0,none⟩) x.N.length cn):=hrest 1 (by omega) (.inr rfl);subst q7;clear hd hrest;simp[putAll,Act.put];go_wp2;exact OneD.mk (VTk.ext) rfl rfl hI (Ext.refl _)
  ·clear hd hrest;simp[putAll,Act.put];go_wp2;exact OneD.mk (VTk.ext) rfl rfl hI (Ext.refl _)
  ·clear hd hrest;simp[putAll,Act.put];go_wp2;exact OneD.mk (VTk.ext) rfl rfl hI (Ext.refl _)
  ·have q10:y10=.int .i64 (p:Nat):=hd ⟨10,.data⟩ (by simp) rfl (.inl rfl);subst q10;clear hd hrest;simp[putAll,Act.put];go_wp2;exact OneD.mk (VTk.ext) rfl rfl hI (Ext.refl _)
  ·have q8:y8=.slice (some ⟨gn,0,none⟩) x.N.length cn:=hd ⟨8,.data⟩ (by simp) rfl (.inl rfl);have q9:y9=.int .i64 (p:Nat):=hd ⟨9,.data⟩ (by simp) rfl (.inl rfl);have q11:y11=.int .i64 ((p:Int)+1):=hd ⟨11,.data⟩ (by simp) rfl (.inl rfl);have S4:Sep W0 w4 H:=hrest 0 (by omega) (.inr rfl);obtain⟨pN,pK,pO,pA⟩:=S4.nd_pin' i hiH hck hxk
   have HC:Hid (Calls Tryz.prog 126 #[.slice (some ⟨gn,0,none⟩) x.N.length cn,.int .i64 (p:Nat),.int .i64 ((p:Int)+1)] w4 fun e w'=>e=.returned (.slice (some ⟨gn,0,none⟩) (eraNd x p).N.length cn)∧w'.ownsRow 0 9 1 (.slice (some ⟨gn,0,none⟩) (eraNd x p).N.length cn) (eraNd x p).N.length ((eraNd x p).N.flatMap encStr1)∧w4.grownBy w' (some gn)):=hd0 (by
    have h:=delStr_any 0 gn cn p (p+1) x.N w4 (by omega) (by omega) pN
    have e1:x.N.length - (p+1 - p)=(eraNd x p).N.length:=by show _=(x.N.eraseIdx p).length;rw[List.length_eraseIdx_of_lt hp];omega
    rw[e1,era_take]at h
    exact h)
   have hgn:gn≠g:=(pO gn (.inl rfl)).1;have HS4:=hd0 S4;subst q8 q9 q11;clear hd hrest pN pK pO pA S4;simp[putAll,Act.put]
   go_wp2_with fail
   refine HC.out.mono ?_;rintro e w5 ⟨rfl,ho5,hg5⟩;have hch:Chg (fun b=>b=gn) w4 w5:=(Chg.of_row hg5).mono (fun b hb _=>(Option.some.inj hb).symm);clear HC hg5;go_wp2;refine⟨rfl,_,rfl,⟨rfl,w4,HS4.out,hch,ho5⟩,hI.trans (hch.mono (fun b hb _=>.inr (.inl (by rw[hb];rfl)))),fun j u us hj hne hcon hnd hnc hv=>?_⟩
   match j with
   | 0|1|2|3|4|5|6|7|8|9|10|11|13|14|15|16|17|18|19|20|22|23=>exact hv
   | 12=>exact absurd rfl hne
   | 21=>exact absurd (by decide) hnd
   | 24=>exact absurd (by decide) hnd
   | 25=>exact absurd rfl hcon
   | 26=>exact cell_chg (show w4.cell? _=_ from hv) hch (fun e=>hgn e.symm)
   | 27=>exact cell_chg (show w4.cell? _=_ from hv) hch (fun e=>hgn e.symm)
   | (zz+28)=>trivial
  ·clear hd hrest;simp[putAll,Act.put];go_wp2;exact OneD.mk (VTk.ext) rfl rfl hI (Ext.refl _)
  ·clear hd hrest;simp[putAll,Act.put];go_wp2;exact OneD.mk (VTk.ext) rfl rfl hI (Ext.refl _)
  ·have q13:y13=.slice (some ⟨g,0,none⟩) T.length cap:=hd ⟨13,.data⟩ (by simp) rfl (.inl rfl);have q14:y14=.int .i64 (k:Nat):=hd ⟨14,.data⟩ (by simp) rfl (.inl rfl);subst q13 q14;clear hd hrest;simp[putAll,Act.put];go_wp2;exact OneD.mk (VTk.ext) rfl rfl hI (Ext.refl _)
  ·have q15:y15=.pointer (some ⟨g,k*7,none⟩):=hd ⟨15,.data⟩ (by simp) rfl (.inl rfl);subst q15;clear hd hrest;simp[putAll,Act.put];go_wp2;exact OneD.mk (VTk.ext) rfl rfl hI (Ext.refl _)
  ·have q16:y16=.pointer (some ⟨g,k*7+6,none⟩):=hd ⟨16,.data⟩ (by simp) rfl (.inl rfl);have c6:w4.cell? ⟨g,k*7+6,none⟩=some (.slice (some ⟨gk,0,none⟩) x.K.length ck):=hrest 2 (by omega) (.inl rfl);subst q16;clear hd hrest;simp[putAll,Act.put];go_wp2;exact OneD.mk (VTk.ext) rfl rfl hI (Ext.refl _)
  ·clear hd hrest;simp[putAll,Act.put];go_wp2;exact OneD.mk (VTk.ext) rfl rfl hI (Ext.refl _)
  ·clear hd hrest;simp[putAll,Act.put];go_wp2;exact OneD.mk (VTk.ext) rfl rfl hI (Ext.refl _)
  ·have q19:y19=.int .i64 (p:Nat):=hd ⟨19,.data⟩ (by simp) rfl (.inl rfl);subst q19;clear hd hrest;simp[putAll,Act.put];go_wp2;exact OneD.mk (VTk.ext) rfl rfl hI (Ext.refl _)
  ·have q17:y17=.slice (some ⟨gk,0,none⟩) x.K.length ck:=hd ⟨17,.data⟩ (by simp) rfl (.inl rfl);have q18:y18=.int .i64 (p:Nat):=hd ⟨18,.data⟩ (by simp) rfl (.inl rfl);have q20:y20=.int .i64 ((p:Int)+1):=hd ⟨20,.data⟩ (by simp) rfl (.inl rfl);obtain⟨q12,w9,S9,hC9,ho9⟩:y12=.slice (some ⟨gn,0,none⟩) (eraNd x p).N.length cn∧∃w5,Sep W0 w5 H∧Chg (fun b=>b=gn) w5 w4∧w4.ownsRow 0 9 1 y12 (eraNd x p).N.length ((eraNd x p).N.flatMap encStr1):=hd ⟨12,.chain⟩ (by simp) rfl (.inr rfl);obtain⟨pN,pK,pO,pA⟩:=S9.nd_pin' i hiH hck hxk;have hgn:gn≠g:=(pO gn (.inl rfl)).1;have hgk:gk≠g:=(pO gk (.inr rfl)).1
   have hnk:gn≠gk:=fun e=>pA gn rfl (by rw[e];rfl)
   have hg9:g < w9.heap.size:=(S9.lt (List.mem_of_getElem? hiH) (show(plNd (.slice (some ⟨g,0,none⟩) T.length cap) vs T).own g from .inl rfl)).2;have hk9:gk < w9.heap.size:=(pO gk (.inr rfl)).2.2;have hn4:gn < w4.heap.size:=Nat.lt_of_lt_of_le (pO gn (.inl rfl)).2.2 hC9.size
   have pK4:w4.ownsRow 0 3 1 (.slice (some ⟨gk,0,none⟩) x.K.length ck) x.K.length (x.K.flatMap encInt1):=(plRow 3 1 encInt1 (.slice (some ⟨gk,0,none⟩) x.K.length ck) x.K).frame w9 w4 pK (fun b hb=>by
    have hb':gk=b:=Option.some.inj hb;subst hb'
    exact hC9.block gk hk9 (fun e=>hnk e.symm))
   have hvT:vs.length=T.length:=plG_len (S9.at_ i hiH)
   have pR4:w4.ownsRow 0 89 7 (.slice (some ⟨g,0,none⟩) T.length cap) T.length (vs.flatMap encNc):=by
    have h:=(plRow 89 7 encNc (.slice (some ⟨g,0,none⟩) T.length cap) vs).frame w9 w4 (S9.at_ i hiH).1 (fun b hb=>by
     have hb':g=b:=Option.some.inj hb;subst hb'
     exact hC9.block g hg9 (fun e=>hgn e.symm))
    have h':w4.ownsRow 0 89 7 (.slice (some ⟨g,0,none⟩) T.length cap) vs.length (vs.flatMap encNc):=h;rw[hvT]at h';exact h'
   have HC:Hid (Calls Tryz.prog 127 #[.slice (some ⟨gk,0,none⟩) x.K.length ck,.int .i64 (p:Nat),.int .i64 ((p:Int)+1)] w4 fun e w'=>e=.returned (.slice (some ⟨gk,0,none⟩) (eraNd x p).K.length ck)∧w'.ownsRow 0 3 1 (.slice (some ⟨gk,0,none⟩) (eraNd x p).K.length ck) (eraNd x p).K.length ((eraNd x p).K.flatMap encInt1)∧w4.grownBy w' (some gk)):=hd0 (by
    have hpK:p < x.K.length:=by rw[←HLen.out];exact hp
    have h:=delInt_any 0 gk ck p (p+1) x.K w4 (by omega) (by omega) pK4
    have e1:x.K.length - (p+1 - p)=(eraNd x p).K.length:=by show _=(x.K.eraseIdx p).length;rw[List.length_eraseIdx_of_lt hpK];omega
    rw[e1,era_take]at h
    exact h)
   have HB:=hd0 (And.intro S9 (And.intro hC9 ho9));have HV:=hd0 (And.intro hvT pR4);have HH:=hd0 (And.intro hgn (And.intro hgk (And.intro hnk (And.intro hn4 hg9))));subst q17 q18 q20 q12;clear hd hrest pN pK pO pA S9 hC9 ho9 pK4 pR4 hvT hgn hgk hnk hn4 hg9 hk9;simp[putAll,Act.put]
   go_wp2_with fail
   refine HC.out.mono ?_;rintro e w5 ⟨rfl,ho5,hg5⟩;have hch:Chg (fun b=>b=gk) w4 w5:=(Chg.of_row hg5).mono (fun b hb _=>(Option.some.inj hb).symm);clear HC hg5;obtain⟨S9,hC9,ho9⟩:=HB.out;obtain⟨hgn,hgk,hnk,hn4,hg9⟩:=HH.out
   have hAd:AdOk W0 H g (⟨x,some ⟨gn,0,none⟩,cn,some ⟨gk,0,none⟩,ck⟩:Nc) (eraNd x p).N (eraNd x p).K (.slice (some ⟨gn,0,none⟩) (eraNd x p).N.length cn) (.slice (some ⟨gk,0,none⟩) (eraNd x p).K.length ck) w5:=by
    refine⟨⟨w9,S9,(hC9.mono (fun b hb _=>.inr (.inl (by rw[hb];rfl)))).trans (hch.mono (fun b hb _=>.inr (.inr (by rw[hb];rfl)))),fun b hb=>.inl hb,fun b hb=>.inl hb⟩,⟨_,_,rfl⟩,⟨_,_,rfl⟩,?_,ho5,⟨fun b hb e=>?_,fun b hb e=>?_⟩,fun b hb hk=>?_⟩
    ·exact(plRow 9 1 encStr1 (.slice (some ⟨gn,0,none⟩) (eraNd x p).N.length cn) (eraNd x p).N).frame w4 w5 ho9 (fun b hb=>by
      have hb':gn=b:=Option.some.inj hb;subst hb'
      exact hch.block gn hn4 hnk)
    ·exact hgn ((Option.some.inj hb:gn=b).trans e)
    ·exact hgk ((Option.some.inj hb:gk=b).trans e)
    ·exact hnk ((Option.some.inj hb:gn=b).trans (Option.some.inj hk:gk=b).symm)
   have hRow:w5.ownsRow 0 89 7 (.slice (some ⟨g,0,none⟩) T.length cap) T.length (vs.flatMap encNc):=by
    have h':(plRow 89 7 encNc (.slice (some ⟨g,0,none⟩) T.length cap) vs).ok w4:=by
     show World.ownsRow _ _ _ _ _ vs.length _
     rw[HV.out.1];exact HV.out.2
    have h:=(plRow 89 7 encNc (.slice (some ⟨g,0,none⟩) T.length cap) vs).frame w4 w5 h' (fun b hb=>by
     have hb':g=b:=Option.some.inj hb;subst hb'
     exact hch.block g (Nat.lt_of_lt_of_le hg9 hC9.size) (fun e=>hgk e.symm))
    have h2:w5.ownsRow 0 89 7 (.slice (some ⟨g,0,none⟩) T.length cap) vs.length (vs.flatMap encNc):=h;rw[HV.out.1]at h2;exact h2
   have HF:=hd0 (And.intro hAd hRow);clear S9 hC9 ho9 HB hAd hRow ho5 hgn hnk hn4 hg9;go_wp2;refine⟨rfl,_,rfl,⟨rfl,rfl,HF.out.1,HF.out.2⟩,hI.trans (hch.mono (fun b hb _=>.inr (.inr (by rw[hb];rfl)))),fun j u us hj hne hcon hnd hnc hv=>?_⟩
   match j with
   | 0|1|2|3|4|5|6|7|8|9|10|11|13|14|15|16|17|18|19|20|22|23=>exact hv
   | 12=>exact absurd rfl hcon
   | 21=>exact absurd rfl hne
   | 24=>exact absurd (by decide) hnd
   | 25=>exact absurd (by decide) (hnc 12 rfl)
   | 26=>exact cell_chg (show w4.cell? _=_ from hv) hch (fun e=>hgk e.symm)
   | 27=>exact cell_chg (show w4.cell? _=_ from hv) hch (fun e=>hgk e.symm)
   | (zz+28)=>trivial
  ·have q0:y0=.slice (some ⟨g,0,none⟩) T.length cap:=hd ⟨0,.data⟩ (by simp) rfl (.inl rfl);have q1:y1=.int .i64 (k:Nat):=hd ⟨1,.data⟩ (by simp) rfl (.inl rfl);subst q0 q1;clear hd hrest;simp[putAll,Act.put];go_wp2;exact OneD.mk (VTk.ext) rfl rfl hI (Ext.refl _)
  ·have q22:y22=.pointer (some ⟨g,k*7,none⟩):=hd ⟨22,.data⟩ (by simp) rfl (.inl rfl);subst q22;clear hd hrest;simp[putAll,Act.put];go_wp2;exact OneD.mk (VTk.ext) rfl rfl hI (Ext.refl _)
  ·have q23:y23=.pointer (some ⟨g,k*7+5,none⟩):=hd ⟨23,.data⟩ (by simp) rfl (.inl rfl);obtain⟨q21,q12,hAd,hRow⟩:y21=.slice (some ⟨gk,0,none⟩) (eraNd x p).K.length ck∧y12=.slice (some ⟨gn,0,none⟩) (eraNd x p).N.length cn∧AdOk W0 H g (⟨x,some ⟨gn,0,none⟩,cn,some ⟨gk,0,none⟩,ck⟩:Nc) (eraNd x p).N (eraNd x p).K (.slice (some ⟨gn,0,none⟩) (eraNd x p).N.length cn) y21 w4∧w4.ownsRow 0 89 7 (.slice (some ⟨g,0,none⟩) T.length cap) T.length (vs.flatMap encNc):=hd ⟨21,.chain⟩ (by simp) rfl (.inr rfl);have hkl:=(List.getElem?_eq_some_iff.1 hck).1
   have hkT2:k < T.length:=by omega
   obtain⟨p5,f5⟩:=owns_there hRow (k*7+5) (by omega);rw[q21]at hAd;have hAd2:=hd0 (hAd.store (k*7+5) (.slice (some ⟨gn,0,none⟩) (eraNd x p).N.length cn));have hck2:vs[k]=(⟨x,some ⟨gn,0,none⟩,cn,some ⟨gk,0,none⟩,ck⟩:Nc):=(List.getElem?_eq_some_iff.1 hck).2;have hR2:=hd0 (owns_set encNc_len hRow k 5 (.slice (some ⟨gn,0,none⟩) (eraNd x p).N.length cn) (⟨⟨x.fold,x.own,x.grp,x.mode,x.text,(eraNd x p).N,x.K⟩,some ⟨gn,0,none⟩,cn,some ⟨gk,0,none⟩,ck⟩:Nc) hkl (by omega) (by rw[hck2];rfl));have hch:=Chg.setCell w4 g (k*7+5) (.slice (some ⟨gn,0,none⟩) (eraNd x p).N.length cn);have HQ:=hd0 hch;obtain⟨pv,hpv⟩:=Option.isSome_iff_exists.1 p5;subst q23 q12 q21;clear hd hrest hAd hRow p5 hch;simp[putAll,Act.put];go_wp2;refine⟨rfl,undef,rfl,⟨rfl,hAd2.out,hR2.out⟩,hI.trans (HQ.out.mono (fun b hb _=>.inl hb)),fun j u us hj hne hcon hnd hnc hv=>?_⟩
   match j with
   | 0|1|2|3|4|5|6|7|8|9|10|11|13|14|15|16|17|18|19|20|22|23=>exact hv
   | 12=>exact absurd (by decide) (hnc 21 rfl)
   | 21=>exact absurd rfl hcon
   | 24=>exact absurd rfl hne
   | 25=>exact absurd (by decide) (hnc 12 rfl)
   | 26=>exact absurd (by decide) (hnc 8 rfl)
   | 27 =>
    show(w4.setCell ⟨g,k*7+5,none⟩ (.slice (some ⟨gn,0,none⟩) (eraNd x p).N.length cn)).cell? ⟨g,k*7+6,none⟩=_
    rw[World.cell?_setCell_other w4 _ _ _ (by intro h;simp at h)];exact hv
   | (zz+28)=>trivial
 ·intro vz wE hvl hI hV hVr
  match vz,hvl with
  | [y0,y1,y2,y3,y4,y5,y6,y7,y8,y9,y10,y11,y12,y13,y14,y15,y16,y17,y18,y19,y20,y21,y22,y23,y24],_ =>
  have q2:y2=.slice (some ⟨g,0,none⟩) T.length cap:=hV 2 (by omega) rfl;have q3:y3=.int .i64 (k:Nat):=hV 3 (by omega) rfl;obtain⟨q21,hAd,hRow⟩:y21=.slice (some ⟨gk,0,none⟩) (eraNd x p).K.length ck∧AdOk W0 H g (⟨x,some ⟨gn,0,none⟩,cn,some ⟨gk,0,none⟩,ck⟩:Nc) (eraNd x p).N (eraNd x p).K (.slice (some ⟨gn,0,none⟩) (eraNd x p).N.length cn) (.slice (some ⟨gk,0,none⟩) (eraNd x p).K.length ck) wE∧wE.ownsRow 0 89 7 (.slice (some ⟨g,0,none⟩) T.length cap) T.length ((vs.set k (⟨⟨x.fold,x.own,x.grp,x.mode,x.text,(eraNd x p).N,x.K⟩,some ⟨gn,0,none⟩,cn,some ⟨gk,0,none⟩,ck⟩:Nc)).flatMap encNc):=hV 24 (by omega) rfl;subst q2 q3 q21;have hkl:=(List.getElem?_eq_some_iff.1 hck).1;have hvT:vs.length=T.length:=plG_len (Sd.at_ i hiH);obtain⟨p6,f6⟩:=owns_there hRow (k*7+6) (by omega);obtain⟨pv,hpv⟩:=Option.isSome_iff_exists.1 p6;have hR2:=owns_set encNc_len hRow k 6 (.slice (some ⟨gk,0,none⟩) (eraNd x p).K.length ck) (⟨eraNd x p,some ⟨gn,0,none⟩,cn,some ⟨gk,0,none⟩,ck⟩:Nc) (by rw[List.length_set];exact hkl) (by omega) (by rw[List.getElem_set_self];rfl);rw[List.set_set]at hR2;have hAd2:=hAd.store (k*7+6) (.slice (some ⟨gk,0,none⟩) (eraNd x p).K.length ck);obtain⟨w5,S5,hC5,hn5,hk5⟩:=hAd2.ex;have hFin:Hid (Sep W0 (wE.setCell ⟨g,k*7+6,none⟩ (.slice (some ⟨gk,0,none⟩) (eraNd x p).K.length ck)) (H.set i (plNd (.slice (some ⟨g,0,none⟩) T.length cap) (vs.set k (⟨eraNd x p,some ⟨gn,0,none⟩,cn,some ⟨gk,0,none⟩,ck⟩:Nc)) (T.set k (eraNd x p))))):=hd0 (S5.ndPut i hiH hck (c':=(⟨eraNd x p,some ⟨gn,0,none⟩,cn,some ⟨gk,0,none⟩,ck⟩:Nc)) (x':=eraNd x p) (hC5.mono (fun b hb _=>.inr hb)) (by rw[hvT];exact hR2) ⟨rfl,hAd2.r9,hAd2.r17,fun b hb=>hAd2.apart b hb⟩ (fun b hb=>.inl hb));clear hV hVr hI hAd hAd2 hRow hR2 S5 hC5 hn5 hk5 p6 Sd e5 e6;simp only[putAll,Act.put,List.take_succ_cons,List.take_zero,List.drop_succ_cons,List.drop_zero];simp
  go_upto_region 4 with fail
  clear hpv f6;generalize (wE.setCell ⟨g,k*7+6,none⟩ (.slice (some ⟨gk,0,none⟩) (eraNd x p).K.length ck))=w2 at *;have HA:=hd0 (take_almost HD.out);obtain⟨kd1,kd2,kd3,kd4,kd5⟩:=drop_kid HD.out
  have HT2:Hid (∀y∈T.set k (eraNd x p),SmN 1048576 y):=hd0 (fun y hy=>by
   rcases List.mem_or_eq_of_mem_set hy with hy|rfl
   ·exact HT.out y hy
   ·exact sm_era (HT.out x (List.mem_of_getElem? hxk)))
  obtain⟨T1,hT1⟩:∃T1,T1=T.set k (eraNd x p):=⟨_,rfl⟩;obtain⟨v1,hv1⟩:∃v1,v1=vs.set k (⟨eraNd x p,some ⟨gn,0,none⟩,cn,some ⟨gk,0,none⟩,ck⟩:Nc):=⟨_,rfl⟩;have hFi:=hFin.out;rw[←hv1,←hT1]at hFi;rw[era_takeNd,←Hpp.out,←hT1]at HA kd5;rw[←hT1]at HT2;have HR:Hid (dropT T k x s kid=if 0 < (kids T1).count (kid:Int)then T1 else(T1.eraseIdx kid).map (renNd kid)):=hd0 (by rw[hT1,Hpp.out];rfl)
  have hl1:T.length=T1.length:=by rw[hT1,List.length_set]
  have hset:∀Q,(H.set i (plNd (.slice (some ⟨g,0,none⟩) T.length cap) v1 T1)).set i Q=H.set i Q:=fun Q=>List.set_set ..
  have hiL:=(List.getElem?_eq_some_iff.1 hiH).1;obtain⟨H1,hH1⟩:∃H1,H1=H.set i (plNd (.slice (some ⟨g,0,none⟩) T.length cap) v1 T1):=⟨_,rfl⟩;rw[←hH1]at hFi hset
  have hi1:H1[i]?=some (plNd (.slice (some ⟨g,0,none⟩) T1.length cap) v1 T1):=by rw[hH1,List.getElem?_set_self hiL,hl1]
  have Hset:=hd0 hset;have HK5:=hd0 kd5;have HK4:=hd0 kd4;rw[hl1]at kd3 hkT hmax ⊢;clear hFin hT1 hv1 hl1 hset hH1 hiH hck hxk kd5 kd4 HD Hpp hp hpw
  go_wp2_with fail
  refine(implLinksOf (some ⟨g,0,none⟩) cap T1 w2 (by omega) HT2.out (hFi.rdN i hi1)).mono ?_;rintro e w3 ⟨v,rfl,⟨L,hoL,hLR⟩,hE3⟩;obtain rfl:=links_almost HA.out hLR;obtain⟨la,lc,rfl,_,hrL,_⟩:=view_owns encInt1_len hoL;have hll:(cntL T1.length (kids T1)).length=T1.length:=cntL_len _ _;obtain⟨yl,bl,ol,hyl,rfl,dl⟩:=atInt hrL (show kid < (cntL T1.length (kids T1)).length by omega);obtain rfl:yl=((kids T1).count (kid:Int):Int):=Option.some.inj (hyl.symm.trans (cntL_get kd3));have S3:=hFi.step hE3
  have hki:(kid:Int) < ((cntL T1.length (kids T1)).length:Int):=by omega
  generalize cntL T1.length (kids T1)=L at *;clear hoL hLR hrL hyl hll hE3 hFi
  by_cases hcnt:0 < (kids T1).count (kid:Int)
  ·have HX:=hd0 (HR.out.trans (if_pos hcnt))
   have hci:(0:Int) < ((kids T1).count (kid:Int):Int):=by omega
   have S4:Sep W0 w3 (H.set i (plNd (.slice (some ⟨g,0,none⟩) T1.length cap) v1 T1)):=by
    have h:=Hset.out (plNd (.slice (some ⟨g,0,none⟩) T1.length cap) v1 T1)
    have h2:H1.set i (plNd (.slice (some ⟨g,0,none⟩) T1.length cap) v1 T1)=H1:=by
     apply List.ext_getElem?;intro j
     by_cases hj:i=j
     ·subst hj;rw[List.getElem?_set_self (List.getElem?_eq_some_iff.1 hi1).1,hi1]
     ·rw[List.getElem?_set_ne hj]
    rw[←h,h2];exact S3
   have HS4:=hd0 S4;clear S3 S4 hcnt;generalize (kids T1).count (kid:Int)=cnt at *;go_wp2;go_ret;exact⟨_,v1,rfl,by rw[HX.out];exact HS4.out⟩
  ·have HX:=hd0 (HR.out.trans (if_neg hcnt))
   have hci:¬(0:Int) < ((kids T1).count (kid:Int):Int):=by omega
   have hv1:=plG_len (S3.at_ i hi1)
   have hown:w3.ownsRow 0 89 7 (.slice (some ⟨g,0,none⟩) v1.length cap) v1.length (v1.flatMap encNc):=by
    have h:=(S3.at_ i hi1).1;rw[←hv1]at h;exact h
   have HC:Hid (Calls Tryz.prog 152 #[.slice (some ⟨g,0,none⟩) T1.length cap,.int .i64 (kid:Nat),.int .i64 ((kid:Int)+1)] w3 fun e w'=>e=.returned (.slice (some ⟨g,0,none⟩) (T1.length - (kid+1 - kid)) cap) ∧
    w'.ownsRow 0 89 7 (.slice (some ⟨g,0,none⟩) (T1.length - (kid+1 - kid)) cap) (T1.length - (kid+1 - kid)) ((v1.take kid++v1.drop (kid+1)).flatMap encNc)∧w3.grownBy w' (some g)):=hd0 (by
    have h:=delNd_any 0 g cap kid (kid+1) v1 w3 (by omega) (by omega) hown;rw[hv1]at h
    exact h)
   have HV1:=hd0 hv1;have HS3:=hd0 S3;clear hown hv1 S3 hcnt;generalize (kids T1).count (kid:Int)=cnt at *
   go_wp2_with fail
   refine HC.out.mono ?_;rintro e w4 ⟨rfl,ho4,hg4⟩
   have hlE:T1.length - (kid+1 - kid)=(T1.eraseIdx kid).length:=by rw[List.length_eraseIdx_of_lt kd3];omega
   have hlV:(v1.eraseIdx kid).length=(T1.eraseIdx kid).length:=by rw[List.length_eraseIdx,List.length_eraseIdx,HV1.out]
   rw[hlE]at ho4 ⊢;rw[era_take]at ho4;have S4:=HS3.out.gCut i hi1 kid hg4 (by rw[hlV];exact ho4);rw[Hset.out]at S4;clear ho4 hg4 HC hlE hlV HS3
   have HT3:Hid (∀y∈T1.eraseIdx kid,SmN 1048576 y∧∀q∈y.K,1≤q∧q≤16):=hd0 (fun y hy=>by
    have hy':=(List.eraseIdx_sublist ..).subset hy;refine⟨HT2.out y hy',fun q hq=>?_⟩;obtain⟨l,hl⟩:=List.getElem?_of_mem hy';have:=inB_iff.1 (nodeOk_kid (HA.out.nodes l y hl) hq)
    omega)
   generalize v1.eraseIdx kid=v2 at *
   have hT2l:(T1.eraseIdx kid).length≤16:=by have:=(List.eraseIdx_sublist T1 kid).length_le;omega
   generalize T1.eraseIdx kid=T2 at *;clear HA HT2 HK5 HK4 HV1 HR;have hiL2:i < H.length:=hiL;go_wp2
   go_loopw [11,12,13,72,79] (fun _ _ _ ix _ wr=>∃(q:Nat) (v3:List Nc),q≤T2.length∧ix=.int .i64 q∧Sep W0 wr (H.set i (plNd (.slice (some ⟨g,0,none⟩) T2.length cap) v3 (mapMix (renNd kid) T2 q)))) (fun _ _ _ ix _ _=>T2.length - (intOf ix).toNat)
   case atStart=>exact⟨0,v2,Nat.zero_le _,rfl,by rw[mm_zero];exact S4⟩
   case round =>
    clear S4;obtain⟨q,v3,hq,rfl,S⟩:=hrel
    by_cases hlt:q < T2.length
    rotate_left
    ·obtain rfl:q=T2.length:=by omega
     have hni:¬(T2.length:Int) < (T2.length:Int):=by omega
     rw[mm_full]at S;have HS:=hd0 S;clear S;go_wp2;go_ret
     first|exact⟨_,v3,rfl,by rw[HX.out];exact HS.out⟩|exact⟨_,rfl,v3,by rw[HX.out];exact HS.out⟩
    ·obtain⟨x2,hx2⟩:∃x2,T2[q]?=some x2:=⟨_,List.getElem?_eq_getElem hlt⟩;have Hx2:=hd0 hx2
     have hxm:(mapMix (renNd kid) T2 q)[q]?=some x2:=by rw[mm_at (by omega)];exact hx2
     have hi3:(H.set i (plNd (.slice (some ⟨g,0,none⟩) T2.length cap) v3 (mapMix (renNd kid) T2 q)))[i]?=some (plNd (.slice (some ⟨g,0,none⟩) T2.length cap) v3 (mapMix (renNd kid) T2 q)):=List.getElem?_set_self hiL2;obtain⟨c,g',cap',hu,_,hck,hcn,hcell,_,_,hsk,_,hckl,hrN,hrK⟩:=S.ndAt i hi3 hxm
     obtain⟨rfl,rfl⟩:g=g'∧cap=cap':=by simp only[Value.slice.injEq,Option.some.injEq,Addr.mk.injEq,and_true,true_and]at hu;exact⟨hu.1,hu.2.2⟩
     obtain⟨x2',an2,cn2,ak2,ck2⟩:=c;dsimp only at hcn hckl hsk hrK;subst hcn;obtain⟨x2,hxx⟩:∃z,z=x2':=⟨_,rfl⟩;subst hxx;have c0:wr.cell? ⟨g,q*7,none⟩=some (.bool x2.fold):=hcell 0 _ rfl;have c1:wr.cell? ⟨g,q*7+1,none⟩=some (.int .i64 x2.own):=hcell 1 _ rfl;have c2:wr.cell? ⟨g,q*7+2,none⟩=some (.int .i64 x2.grp):=hcell 2 _ rfl;have c3:wr.cell? ⟨g,q*7+3,none⟩=some (.int .i64 x2.mode):=hcell 3 _ rfl;have c4:wr.cell? ⟨g,q*7+4,none⟩=some (.string x2.text):=hcell 4 _ rfl;have c5:wr.cell? ⟨g,q*7+5,none⟩=some (.slice an2 x2.N.length cn2):=hcell 5 _ rfl;have c6:wr.cell? ⟨g,q*7+6,none⟩=some (.slice ak2 x2.K.length ck2):=hcell 6 _ rfl;have hKl:x2.K.length≤1048576:=(HT3.out x2 (List.mem_of_getElem? hx2)).1.2.2.2;have HK16:=hd0 (HT3.out x2 (List.mem_of_getElem? hx2)).2
     have iq:(q:Int) < (T2.length:Int):=by omega
     have SB:=S.alloc #[.bool x2.fold,.int .i64 x2.own,.int .i64 x2.grp,.int .i64 x2.mode,.string x2.text,.slice an2 x2.N.length cn2,.slice ak2 x2.K.length ck2] 89;have HSk:=hd0 hsk;have Hm:=hd0 hxm;have Hck:=hd0 hck;have Hcl:=hd0 hckl;clear hcell hu hck hrN hrK hx2 hxm hi3 S hsk hckl
     go_upto_region 10 with fail
     clear c0 c1 c2 c3 c4 c5 c6;generalize hwB:(wr.alloc (.cells #[.bool x2.fold,.int .i64 x2.own,.int .i64 x2.grp,.int .i64 x2.mode,.string x2.text,.slice an2 x2.N.length cn2,.slice ak2 x2.K.length ck2] 89))=wB at *;generalize wr.heap.size=B at *;clear hwB;obtain⟨b6,_⟩:=bx (SB.box 0 rfl) 6 rfl
     have HSB:Hid (∃v4:List Nc,v4[q]?=some ⟨kidNd x2 (mapMix (renum kid) x2.K 0),an2,cn2,ak2,ck2⟩∧Sep W0 wB (plBox B #[.bool x2.fold,.int .i64 x2.own,.int .i64 x2.grp,.int .i64 x2.mode,.string x2.text,.slice an2 x2.N.length cn2,.slice ak2 x2.K.length ck2] 89 :: H.set i (plNd (.slice (some ⟨g,0,none⟩) T2.length cap) v4 ((mapMix (renNd kid) T2 q).set q (kidNd x2 (mapMix (renum kid) x2.K 0)))))):=hd0 ⟨v3,by rw[mm_zero];exact Hck.out,by
      rw[mm_zero]
      have e:(mapMix (renNd kid) T2 q).set q (kidNd x2 x2.K)=mapMix (renNd kid) T2 q:=by
       apply List.ext_getElem?;intro j
       by_cases hj:q=j
       ·subst hj;rw[List.getElem?_set_self (List.getElem?_eq_some_iff.1 Hm.out).1,Hm.out];rfl
       ·rw[List.getElem?_set_ne hj]
      rw[e];exact SB⟩
     clear SB;go_wp2;clear b6
     go_loopw [12,13,79] (fun _ _ jx wz=>∃(j:Nat) (v4:List Nc),j≤x2.K.length∧jx=.int .i64 j∧v4[q]?=some ⟨kidNd x2 (mapMix (renum kid) x2.K j),an2,cn2,ak2,ck2⟩∧Sep W0 wz (plBox B #[.bool x2.fold,.int .i64 x2.own,.int .i64 x2.grp,.int .i64 x2.mode,.string x2.text,.slice an2 x2.N.length cn2,.slice ak2 x2.K.length ck2] 89 :: H.set i (plNd (.slice (some ⟨g,0,none⟩) T2.length cap) v4 ((mapMix (renNd kid) T2 q).set q (kidNd x2 (mapMix (renum kid) x2.K j)))))) (fun _ _ jx _=>x2.K.length - (intOf jx).toNat)
     case atStart =>
      obtain⟨v4,h1,h2⟩:=HSB.out;exact⟨0,v4,Nat.zero_le _,rfl,h1,h2⟩
     case round =>
      obtain⟨j,v4,hj,rfl,hc4,S⟩:=hrel;have hqm:q < (mapMix (renNd kid) T2 q).length:=(List.getElem?_eq_some_iff.1 Hm.out).1
      have hi4:(plBox B #[.bool x2.fold,.int .i64 x2.own,.int .i64 x2.grp,.int .i64 x2.mode,.string x2.text,.slice an2 x2.N.length cn2,.slice ak2 x2.K.length ck2] 89 :: H.set i (plNd (.slice (some ⟨g,0,none⟩) T2.length cap) v4 ((mapMix (renNd kid) T2 q).set q (kidNd x2 (mapMix (renum kid) x2.K j)))))[i+1]?=some (plNd (.slice (some ⟨g,0,none⟩) T2.length cap) v4 ((mapMix (renNd kid) T2 q).set q (kidNd x2 (mapMix (renum kid) x2.K j)))):=by rw[List.getElem?_cons_succ];exact List.getElem?_set_self hiL2
      have hx4:((mapMix (renNd kid) T2 q).set q (kidNd x2 (mapMix (renum kid) x2.K j)))[q]?=some (kidNd x2 (mapMix (renum kid) x2.K j)):=List.getElem?_set_self hqm
      by_cases hjl:j < x2.K.length
      rotate_left
      ·obtain rfl:j=x2.K.length:=by omega
       have hni:¬(x2.K.length:Int) < (x2.K.length:Int):=by omega
       have S5:Sep W0 wr (H.set i (plNd (.slice (some ⟨g,0,none⟩) T2.length cap) v4 (mapMix (renNd kid) T2 (q+1)))):=by
        have h:=S.drop 0;rw[mm_full]at h;have e:=mm_set (f:=renNd kid) Hx2.out;rw[←e];exact h
       have HS5:=hd0 S5;clear S S5 hi4 hx4 hc4;go_wp2;go_roundw
       case rel=>exact⟨q+1,v4,by omega,by go_num,HS5.out⟩
       case measure=>simp[intOf];omega
      ·obtain⟨y,hy⟩:∃y,x2.K[j]?=some y:=⟨_,List.getElem?_eq_getElem hjl⟩
       have hym:(mapMix (renum kid) x2.K j)[j]?=some y:=by rw[mm_at (by omega)];exact hy
       have hml:(mapMix (renum kid) x2.K j).length=x2.K.length:=mm_len (by omega);obtain⟨c5,g5,cap5,hu5,_,hck5,_,_,_,_,_,_,_,_,hrK5⟩:=S.ndAt (i+1) hi4 hx4;obtain rfl:c5=⟨kidNd x2 (mapMix (renum kid) x2.K j),an2,cn2,ak2,ck2⟩:=Option.some.inj (hck5.symm.trans hc4);obtain⟨y',bk2,ok2,hy',hbk2,dk2⟩:=atInt hrK5 (show j < (kidNd x2 (mapMix (renum kid) x2.K j)).K.length by show j < (mapMix (renum kid) x2.K j).length;omega);obtain rfl:y=y':=Option.some.inj (hym.symm.trans hy')
       have hak:∃gk2,ak2=some ⟨gk2,0,none⟩:=by
        rcases HSk.out with⟨h1,h2,h3⟩|⟨g2,h2⟩
        ·have:=Hcl.out;omega
        ·exact⟨g2,h2⟩
       obtain⟨gk2,rfl⟩:=hak
       obtain⟨rfl,rfl⟩:gk2=bk2∧0=ok2:=by simpa using hbk2
       rw[Nat.zero_add]at dk2;obtain⟨b6,bf6⟩:=bx (S.box 0 rfl) 6 rfl
       have iji:(j:Int) < (x2.K.length:Int):=by omega
       have hy16:=HK16.out y (List.mem_of_getElem? hy)
       by_cases hgt:(kid:Int) < y
       ·have hyw:IntKind.i64.wrap (y - 1)=y - 1:=IntWalk.i64_in _ (by omega);have S6:=S.ndKid (i+1) hi4 hc4 hx4 rfl j (y - 1) (by show j < (mapMix (renum kid) x2.K j).length;omega);have pKj:=(S.nd_pin' (i+1) hi4 hc4 hx4).2.1;obtain⟨_,fk⟩:=owns_there pKj j (by rw[Nat.mul_one];show j < (mapMix (renum kid) x2.K j).length;omega)
        have e1:(mapMix (renum kid) x2.K j).set j (y - 1)=mapMix (renum kid) x2.K (j+1):=by
         have h:=mm_set (f:=renum kid) hy;rw[show renum kid y=y - 1 by unfold renum;rw[if_pos hgt]]at h;exact h
        have HS6:Hid (∃v5:List Nc,v5[q]?=some ⟨kidNd x2 (mapMix (renum kid) x2.K (j+1)),an2,cn2,some ⟨gk2,0,none⟩,ck2⟩∧Sep W0 (wr.setCell ⟨gk2,j,none⟩ (.int .i64 (y - 1))) (plBox B #[.bool x2.fold,.int .i64 x2.own,.int .i64 x2.grp,.int .i64 x2.mode,.string x2.text,.slice an2 x2.N.length cn2,.slice (some ⟨gk2,0,none⟩) x2.K.length ck2] 89 :: H.set i (plNd (.slice (some ⟨g,0,none⟩) T2.length cap) v5 ((mapMix (renNd kid) T2 q).set q (kidNd x2 (mapMix (renum kid) x2.K (j+1))))))):=hd0 ⟨_,List.getElem?_set_self (List.getElem?_eq_some_iff.1 hc4).1 |>.trans (by rw[←e1]),by
         rw[List.set_cons_succ,List.set_set,List.set_set]at S6;rw[←e1]
         exact S6⟩
        clear S S6 hi4 hx4 hc4 hck5 hrK5 hu5 hy' hym hml e1 pKj;go_wp2;go_roundw
        case rel =>
         obtain⟨v5,h1,h2⟩:=HS6.out;exact⟨j+1,v5,by omega,by go_num,h1,h2⟩
        case measure=>simp[intOf];omega
       ·have e1:mapMix (renum kid) x2.K j=mapMix (renum kid) x2.K (j+1):=mm_same hy (by unfold renum;rw[if_neg hgt]);have HS6:=hd0 (And.intro hc4 S);rw[e1]at HS6;clear S hi4 hx4 hc4 hck5 hrK5 hu5 hy' hym hml e1;go_wp2;go_roundw
        case rel=>exact⟨j+1,v4,by omega,by go_num,HS6.out.1,HS6.out.2⟩
        case measure=>simp[intOf];omega
section
variable {β α:Type} {e nf:Nat} {enc:β→List Value} {P:Pin β α} {M:Nat→Prop} {w0 w:World} {R:List Pl}
theorem SepM.gMove {u u':Value} {vs:List β} {T:List α} {p:Nat} (S:SepM M w0 w (plRow e nf enc u' (vs.eraseIdx p) :: plG e nf enc P u vs T :: R)) :
  SepM M w0 w (plG e nf enc P u' (vs.eraseIdx p) (T.eraseIdx p) :: R):=by
 obtain⟨h1,h2,h3,h4,h5⟩:=S.at_ 1 rfl;have hrow:=S.at_ 0 rfl
 have hat:∀(l:Nat) (s:β),(vs.eraseIdx p)[l]?=some s→vs[if l < p then l else l+1]?=some s:=fun l s hs=>by
  rw[era_at]at hs
  split<;>rename_i h
  ·rwa [if_pos h]at hs
  ·rwa [if_neg h]at hs
 have hatT:∀(l:Nat) (s:α),(T.eraseIdx p)[l]?=some s→T[if l < p then l else l+1]?=some s:=fun l s hs=>by
  rw[era_at]at hs
  split<;>rename_i h
  ·rwa [if_pos h]at hs
  ·rwa [if_neg h]at hs
 have hsub:∀b,(plG e nf enc P u' (vs.eraseIdx p) (T.eraseIdx p)).own b→(plRow e nf enc u' (vs.eraseIdx p)).own b∨(plG e nf enc P u vs T).own b:=fun b hb=>by
  rcases hb with hb|⟨s,hs,hb⟩
  ·exact .inl hb
  ·exact .inr (.inr ⟨s,(List.eraseIdx_sublist ..).subset hs,hb⟩)
 have hap:=S.apart;rw[List.pairwise_cons,List.pairwise_cons]at hap;obtain⟨a1,a2,a3⟩:=hap;refine⟨S.chg,S.small,fun q hq=>?_,fun q hq b hb=>?_,List.pairwise_cons.2 ⟨fun r hr b hb=>?_,a3⟩⟩
 ·rcases List.mem_cons.1 hq with rfl|hq
  ·refine⟨hrow,by rw[List.length_eraseIdx,List.length_eraseIdx,h2],fun l s t hs ht=>?_,fun s hs b hb hb2=>?_,fun l m s s' hlm hs hs' b hb hb'=>?_⟩
   ·exact h3 _ s t (hat l s hs) (hatT l t ht)
   ·exact a1 _ (List.mem_cons_self ..) b (show(plRow e nf enc u' (vs.eraseIdx p)).own b from hb2) (.inr ⟨s,(List.eraseIdx_sublist ..).subset hs,hb⟩)
   ·exact h5 _ _ s s' (fun e=>hlm (by split at e<;>split at e<;>omega)) (hat l s hs) (hat m s' hs') b hb hb'
  ·exact S.ok q (List.mem_cons_of_mem _ (List.mem_cons_of_mem _ hq))
 ·rcases List.mem_cons.1 hq with rfl|hq
  ·rcases hsub b hb with h|h
   ·exact S.base _ (List.mem_cons_self ..) b h
   ·exact S.base _ (List.mem_cons_of_mem _ (List.mem_cons_self ..)) b h
  ·exact S.base q (List.mem_cons_of_mem _ (List.mem_cons_of_mem _ hq)) b hb
 ·rcases hsub b hb with h|h
  ·exact a1 r (List.mem_cons_of_mem _ hr) b h
  ·exact a2 r hr b h
end
def numL (p k n:Nat):List Int:=(List.range n).map (fun j=>if j < k then renum p (j:Int)else 0)
theorem numL_len (p k n:Nat):(numL p k n).length=n:=by simp[numL]
theorem numL_zero (p n:Nat):numL p 0 n=List.replicate n (0:Int):=by
 apply List.ext_getElem?;intro j;simp only[numL,List.getElem?_map,List.getElem?_replicate]
 by_cases hj:j < n
 ·rw[List.getElem?_range hj,if_pos hj];simp
 ·rw[if_neg hj,List.getElem?_eq_none (by simpa using hj)];rfl
theorem numL_set {p k n:Nat}:(numL p k n).set k (renum p (k:Int))=numL p (k+1) n:=by
 apply List.ext_getElem?;intro j
 by_cases hj:j < n
 ·by_cases e:k=j
  ·subst e;rw[List.getElem?_set_self (by rw[numL_len];exact hj)];simp only[numL,List.getElem?_map,List.getElem?_range hj];simp
  ·rw[List.getElem?_set_ne e];simp only[numL,List.getElem?_map,List.getElem?_range hj,Option.map_some]
   by_cases h1:j < k
   ·rw[if_pos h1,if_pos (by omega)]
   ·rw[if_neg h1,if_neg (by omega)]
 ·rw[List.getElem?_eq_none (by rw[List.length_set,numL_len];omega),List.getElem?_eq_none (by rw[numL_len];omega)]
theorem numL_get {p n j:Nat} (hj:j < n):(numL p n n)[j]?=some (renum p (j:Int)):=by
 simp only[numL,List.getElem?_map,List.getElem?_range hj,Option.map_some];rw[if_pos hj]
theorem era_num {α:Type} {l:List α} {p k:Nat} (hk:k≤l.length):(((l.take k).eraseIdx p).length:Int)=renum p (k:Int):=by
 rw[List.length_eraseIdx,List.length_take,Nat.min_eq_left hk];unfold renum
 split
 ·rw[if_pos (by omega)];omega
 ·rw[if_neg (by omega)]
theorem renNd_same {p:Nat} {x:Nd} (h:∀y∈x.K,y≤(p:Int)):renNd p x=x:=by
 have:x.K.map (renum p)=x.K:=by
  conv=>rhs;rw[←List.map_id x.K]
  exact List.map_congr_left (fun y hy=>by unfold renum;rw[if_neg (by have:=h y hy;omega)];rfl)
 unfold renNd;rw[this]
theorem specClean {W0 w:World} {H:List Pl} {g cap:Nat} {vs:List Nc} {T:List Nd} (S:Sep W0 w (plNd (.slice (some ⟨g,0,none⟩) T.length cap) vs T :: H)) {kid:Nat} (hA:AlmostOk T kid) (hk1:1≤kid) (hkT:kid < T.length) (hT:∀x∈T,SmN 1048576 x) :
  Calls Tryz.prog 73 #[.slice (some ⟨g,0,none⟩) T.length cap] w (fun e w'=>∃u' vs',e=.returned u'∧Sep W0 w' (plNd u' vs' (if 0 < (kids T).count (kid:Int)then T else(T.eraseIdx kid).map (renNd kid)) :: H)):=by
 obtain⟨i0,hinfo,hz0,hz1,hz2⟩:=info_parts infoInt;have HA:=hd0 hA;have HT:=hd0 hT;have hmax:=hA.max;have hpos:=hA.pos;obtain⟨p,hp⟩:∃p,p=if 0 < (kids T).count (kid:Int)then T.length else kid:=⟨_,rfl⟩
 have hp1:1≤p:=by rw[hp];split<;>omega
 have HSel:Hid (∀k,k < T.length→((k=0∨0 < (kids T).count (k:Int))↔k≠p)):=hd0 (fun k hk=>by
  by_cases hc:0 < (kids T).count (kid:Int)
  ·rw[if_pos hc]at hp;refine⟨fun _=>by omega,fun _=>?_⟩
   by_cases h0:k=0
   ·exact .inl h0
   ·by_cases hkk:k=kid
    ·rw[hkk];exact .inr hc
    ·exact .inr (hA.links k T[k] (List.getElem?_eq_getElem hk) (by omega) hkk).1
  ·rw[if_neg hc]at hp;refine⟨fun h=>?_,fun h=>?_⟩
   ·rcases h with h|h
    ·omega
    ·intro e;rw[e,hp]at h;exact hc h
   ·by_cases h0:k=0
    ·exact .inl h0
    ·exact .inr (hA.links k T[k] (List.getElem?_eq_getElem hk) (by omega) (by omega)).1)
 have HR:Hid ((if 0 < (kids T).count (kid:Int)then T else(T.eraseIdx kid).map (renNd kid))=(T.eraseIdx p).map (renNd p)):=hd0 (by
  by_cases hc:0 < (kids T).count (kid:Int)
  ·rw[if_pos hc]at hp ⊢;rw[List.eraseIdx_of_length_le (by omega)]
   conv=>lhs;rw[←List.map_id T]
   refine List.map_congr_left (fun x hx=>?_);obtain⟨j,hj⟩:=List.getElem?_of_mem hx;refine(renNd_same (fun y hy=>?_)).symm;have:=inB_iff.1 (nodeOk_kid (hA.nodes j x hj) hy);omega
  ·rw[if_neg hc]at hp ⊢
   rw[hp])
 rw[HR.out]
 have HKd:Hid (∀(k:Nat) x,T[k]?=some x→∀y∈x.K,1≤y∧y < T.length):=hd0 (fun k x hx y hy=>by
  have:=inB_iff.1 (nodeOk_kid (hA.nodes k x hx) hy)
  omega)
 clear HR hp hA hT;have hvl:=plG_len (S.at_ 0 rfl);have HLk:=hd0 (fun h=>(specLinksOf (some ⟨g,0,none⟩) cap T w (by omega) HT.out h));have hrd:=S.rdN 0 rfl
 go_enter Tryz.func73,Tryz.ntmps73
 go_wp2_with fail
 refine(HLk.out hrd).mono ?_;rintro e w1 ⟨v,rfl,⟨L,hoL,hLR⟩,hE1⟩;obtain rfl:=links_almost HA.out hLR;have S1:=(S.step hE1);have S2:Sep W0 w1 (plRow 3 1 encInt1 v (cntL T.length (kids T)) :: plNd (.slice (some ⟨g,0,none⟩) T.length cap) vs T :: H):=S.owned hE1 (Nat.le_refl _) hoL;obtain⟨la,lc,rfl,_,_,_⟩:=view_owns encInt1_len hoL;have hll:(cntL T.length (kids T)).length=T.length:=cntL_len _ _;have HLL:=hd0 hll;have HS2:=hd0 S2;clear S S1 S2 hoL hLR hE1 HLk hrd hll
 go_wp2_with (at_make;refine wpList_make_full _ rfl _ _ 86 rfl w1.heap.size 3 i0 _ 1 Tryz.underlying86 hinfo hz0 hz1 _ _ _ _ T.length rfl rfl rfl rfl ?b1 ?b2 ?b3 ?_)
 case b1=>rw[hz2];omega
 case b2=>unfold maxLen;omega
 case b3=>exact Nat.le_refl _
 intro w2 hown2 hgr2;have hEm:=ext_of_grown hgr2
 have ho2:w2.ownsRow w1.heap.size 3 1 (.slice (some ⟨w1.heap.size,0,none⟩) T.length T.length) (numL p 0 T.length).length ((numL p 0 T.length).flatMap encInt1):=by rw[numL_len,numL_zero,←madeInt];exact hown2
 have S3:=(HS2.out.owned hEm (Nat.le_refl _) ho2).lit0 (n:=w2.heap.size) rfl 89 7 encNc;have HS3:=hd0 S3;clear hown2 hgr2 hEm ho2 S3 HS2;generalize w1.heap.size=gn at *
 go_upto_region 4 with fail
 have HS4:Hid (∃(ao:Option Addr) (co:Nat) (G:List Nc),(.slice (some ⟨w2.heap.size,0,none⟩) 0 0:Value)=.slice ao G.length co∧G=(vs.take 0).eraseIdx p∧Sep W0 (w2.alloc (.cells #[] 89)) (plRow 89 7 encNc (.slice ao G.length co) G :: plRow 3 1 encInt1 (.slice (some ⟨gn,0,none⟩) T.length T.length) (numL p 0 T.length) :: plRow 3 1 encInt1 (.slice la (cntL T.length (kids T)).length lc) (cntL T.length (kids T)) :: plNd (.slice (some ⟨g,0,none⟩) T.length cap) vs T :: H)):=hd0 ⟨_,0,[],rfl,by simp,HS3.out⟩;clear HS3;generalize w2.alloc (.cells #[] 89)=w3 at *;generalize w2.heap.size=B0 at *;go_wp2
 go_loopw [5,6] (fun o i wr=>∃(k:Nat) (ao:Option Addr) (co:Nat) (G:List Nc),k≤T.length∧i=.int .i64 k∧o=.slice ao G.length co∧G=(vs.take k).eraseIdx p∧Sep W0 wr (plRow 89 7 encNc (.slice ao G.length co) G :: plRow 3 1 encInt1 (.slice (some ⟨gn,0,none⟩) T.length T.length) (numL p k T.length) :: plRow 3 1 encInt1 (.slice la (cntL T.length (kids T)).length lc) (cntL T.length (kids T)) :: plNd (.slice (some ⟨g,0,none⟩) T.length cap) vs T :: H)) (fun _ i _=>T.length - (intOf i).toNat)
 case atStart =>
  obtain⟨ao,co,G,h1,h2,h3⟩:=HS4.out;exact⟨0,ao,co,G,Nat.zero_le _,rfl,h1,h2,h3⟩
 case round =>
  clear HS4;obtain⟨k,ao,co,G,hk,rfl,rfl,hG,S⟩:=hrel;have HG:=hd0 hG;clear hG
  by_cases hlt:k < T.length
  ·have i0:(k:Int) < (T.length:Int):=by omega
   have hsl:=HSel.out k hlt
   have e1:(numL p k T.length).set k (G.length:Int)=numL p (k+1) T.length:=by rw[HG.out,era_num (by omega),numL_set]
   have SM:=S.rowSet 1 encInt1_len rfl (numL_len ..).symm k 0 (.int .i64 (G.length:Int)) (G.length:Int) (by rw[numL_len];omega) (by omega) rfl;rw[Nat.mul_one,Nat.add_zero]at SM
   have SM2:Sep W0 (wr.setCell ⟨gn,k,none⟩ (.int .i64 (G.length:Int))) (plRow 89 7 encNc (.slice ao G.length co) G :: plRow 3 1 encInt1 (.slice (some ⟨gn,0,none⟩) T.length T.length) (numL p (k+1) T.length) :: plRow 3 1 encInt1 (.slice la (cntL T.length (kids T)).length lc) (cntL T.length (kids T)) :: plNd (.slice (some ⟨g,0,none⟩) T.length cap) vs T :: H):=by rw[←e1];exact SM
   have f0:=S.row 1 rfl;rw[numL_len]at f0;obtain⟨hs1,f1⟩:=owns_there f0 k (by omega);obtain⟨v0,hv0⟩:=Option.isSome_iff_exists.1 hs1;clear f0 hs1;have HSM:=hd0 SM2;clear SM SM2 S e1
   go_upto_region 8 with fail
   clear f1 hv0;have S:=HSM.out;clear HSM;generalize wr.setCell ⟨gn,k,none⟩ (.int .i64 (G.length:Int))=wA at *;obtain⟨y,bl,ol,hyl,rfl,dl⟩:=atInt (S.rd 2 encInt1_len rfl rfl) (show k < (cntL T.length (kids T)).length by have:=HLL.out;omega);obtain rfl:y=((kids T).count (k:Int):Int):=Option.some.inj (hyl.symm.trans (cntL_get hlt))
   have il:(k:Int) < ((cntL T.length (kids T)).length:Int):=by have:=HLL.out;omega
   clear hyl
   by_cases h0:k=0
   ·have hsel:k≠p:=hsl.1 (.inl h0)
    have t0:((k:Int) == 0)=true:=by simp;omega
    clear hsl h0;have hxk:T[k]?=some T[k]:=List.getElem?_eq_getElem hlt;obtain⟨c,g',cap',hu,_,hck0,hcn0,hcell,_,_,_,_,_,_,_⟩:=S.ndAt 3 rfl hxk
    obtain⟨rfl,rfl⟩:g=g'∧cap=cap':=by simp only[Value.slice.injEq,Option.some.injEq,Addr.mk.injEq,and_true,true_and]at hu;exact⟨hu.1,hu.2⟩
    obtain⟨x,an,cn,ak,ck⟩:=c;have c0:wA.cell? ⟨g,k*7,none⟩=some (.bool x.fold):=hcell 0 _ rfl;have c1:wA.cell? ⟨g,k*7+1,none⟩=some (.int .i64 x.own):=hcell 1 _ rfl;have c2:wA.cell? ⟨g,k*7+2,none⟩=some (.int .i64 x.grp):=hcell 2 _ rfl;have c3:wA.cell? ⟨g,k*7+3,none⟩=some (.int .i64 x.mode):=hcell 3 _ rfl;have c4:wA.cell? ⟨g,k*7+4,none⟩=some (.string x.text):=hcell 4 _ rfl;have c5:wA.cell? ⟨g,k*7+5,none⟩=some (.slice an x.N.length cn):=hcell 5 _ rfl;have c6:wA.cell? ⟨g,k*7+6,none⟩=some (.slice ak x.K.length ck):=hcell 6 _ rfl;have HGn:Hid (G++[(⟨x,an,cn,ak,ck⟩:Nc)]=(vs.take (k+1)).eraseIdx p):=hd0 (by rw[HG.out];exact era_push hck0 hsel)
    have hGl:G.length≤16:=by rw[HG.out];exact Nat.le_trans era_lenT (by omega)
    clear hcell hu hcn0 hck0 hxk;have SA:=S.alloc #[.bool x.fold,.int .i64 x.own,.int .i64 x.grp,.int .i64 x.mode,.string x.text,.slice an x.N.length cn,.slice ak x.K.length ck] 89;have rd1:Rd 7 encNc (wA.alloc (.cells #[.bool x.fold,.int .i64 x.own,.int .i64 x.grp,.int .i64 x.mode,.string x.text,.slice an x.N.length cn,.slice ak x.K.length ck] 89)) (some ⟨wA.heap.size,0,none⟩) [(⟨x,an,cn,ak,ck⟩:Nc)]:=rd_lit_new [(⟨x,an,cn,ak,ck⟩:Nc)] encNc_len rfl;have HSA:=hd0 SA;clear SA S
    go_wp2_with (at_builtin;refine Hid.out (?_:Hid _))
    unfold Hid;refine wpList_append_b rfl _ _ 28 rfl W0.heap.size 89 _ 7 _ Tryz.underlying28 infoNd rfl (by decide) encNc_len encNc_one _ G.length G rfl (HSA.out.row 1 rfl) rfl (some ⟨wA.heap.size,0,none⟩) 1 1 [(⟨x,an,cn,ak,ck⟩:Nc)] rfl rfl rd1 (by omega) (by omega) HSA.out.chg.size ?_;intro v7 w7 ho hgr hblk;obtain⟨a7,c7,hv7,_,_,_⟩:=view_owns encNc_len ho;subst hv7;have SM:=(HSA.out.grow 1 rfl hgr ho hblk).drop 0;have SM2:Sep W0 w7 (plRow 89 7 encNc (.slice a7 (G++[(⟨x,an,cn,ak,ck⟩:Nc)]).length c7) (G++[(⟨x,an,cn,ak,ck⟩:Nc)]) :: plRow 3 1 encInt1 (.slice (some ⟨gn,0,none⟩) T.length T.length) (numL p (k+1) T.length) :: plRow 3 1 encInt1 (.slice (some ⟨bl,ol,none⟩) (cntL T.length (kids T)).length lc) (cntL T.length (kids T)) :: plNd (.slice (some ⟨g,0,none⟩) T.length cap) vs T :: H):=SM;have HSM:=hd0 SM2;clear ho hgr hblk rd1 SM SM2 HSA c0 c1 c2 c3 c4 c5 c6 dl;obtain⟨G2,hG2⟩:∃G2,G2=G++[(⟨x,an,cn,ak,ck⟩:Nc)]:=⟨_,rfl⟩;rw[←hG2]at HSM HGn ⊢;clear hG2;go_wp2;go_roundw
    case rel=>exact⟨k+1,a7,c7,G2,by omega,by go_num,rfl,HGn.out,HSM.out⟩
    case measure=>simp[intOf];omega
   ·by_cases hc:0 < (kids T).count (k:Int)
    ·have hsel:k≠p:=hsl.1 (.inr hc)
     have t0:((k:Int) == 0)=false:=by simp;omega
     have hci:(0:Int) < ((kids T).count (k:Int):Int):=by omega
     clear hsl hc h0;generalize (kids T).count (k:Int)=cnt at *;have hxk:T[k]?=some T[k]:=List.getElem?_eq_getElem hlt;obtain⟨c,g',cap',hu,_,hck0,hcn0,hcell,_,_,_,_,_,_,_⟩:=S.ndAt 3 rfl hxk
     obtain⟨rfl,rfl⟩:g=g'∧cap=cap':=by simp only[Value.slice.injEq,Option.some.injEq,Addr.mk.injEq,and_true,true_and]at hu;exact⟨hu.1,hu.2⟩
     obtain⟨x,an,cn,ak,ck⟩:=c;have c0:wA.cell? ⟨g,k*7,none⟩=some (.bool x.fold):=hcell 0 _ rfl;have c1:wA.cell? ⟨g,k*7+1,none⟩=some (.int .i64 x.own):=hcell 1 _ rfl;have c2:wA.cell? ⟨g,k*7+2,none⟩=some (.int .i64 x.grp):=hcell 2 _ rfl;have c3:wA.cell? ⟨g,k*7+3,none⟩=some (.int .i64 x.mode):=hcell 3 _ rfl;have c4:wA.cell? ⟨g,k*7+4,none⟩=some (.string x.text):=hcell 4 _ rfl;have c5:wA.cell? ⟨g,k*7+5,none⟩=some (.slice an x.N.length cn):=hcell 5 _ rfl;have c6:wA.cell? ⟨g,k*7+6,none⟩=some (.slice ak x.K.length ck):=hcell 6 _ rfl;have HGn:Hid (G++[(⟨x,an,cn,ak,ck⟩:Nc)]=(vs.take (k+1)).eraseIdx p):=hd0 (by rw[HG.out];exact era_push hck0 hsel)
     have hGl:G.length≤16:=by rw[HG.out];exact Nat.le_trans era_lenT (by omega)
     clear hcell hu hcn0 hck0 hxk;have SA:=S.alloc #[.bool x.fold,.int .i64 x.own,.int .i64 x.grp,.int .i64 x.mode,.string x.text,.slice an x.N.length cn,.slice ak x.K.length ck] 89;have rd1:Rd 7 encNc (wA.alloc (.cells #[.bool x.fold,.int .i64 x.own,.int .i64 x.grp,.int .i64 x.mode,.string x.text,.slice an x.N.length cn,.slice ak x.K.length ck] 89)) (some ⟨wA.heap.size,0,none⟩) [(⟨x,an,cn,ak,ck⟩:Nc)]:=rd_lit_new [(⟨x,an,cn,ak,ck⟩:Nc)] encNc_len rfl;have HSA:=hd0 SA;clear SA S
     go_wp2_with (at_builtin;refine Hid.out (?_:Hid _))
     unfold Hid;refine wpList_append_b rfl _ _ 28 rfl W0.heap.size 89 _ 7 _ Tryz.underlying28 infoNd rfl (by decide) encNc_len encNc_one _ G.length G rfl (HSA.out.row 1 rfl) rfl (some ⟨wA.heap.size,0,none⟩) 1 1 [(⟨x,an,cn,ak,ck⟩:Nc)] rfl rfl rd1 (by omega) (by omega) HSA.out.chg.size ?_;intro v7 w7 ho hgr hblk;obtain⟨a7,c7,hv7,_,_,_⟩:=view_owns encNc_len ho;subst hv7;have SM:=(HSA.out.grow 1 rfl hgr ho hblk).drop 0;have SM2:Sep W0 w7 (plRow 89 7 encNc (.slice a7 (G++[(⟨x,an,cn,ak,ck⟩:Nc)]).length c7) (G++[(⟨x,an,cn,ak,ck⟩:Nc)]) :: plRow 3 1 encInt1 (.slice (some ⟨gn,0,none⟩) T.length T.length) (numL p (k+1) T.length) :: plRow 3 1 encInt1 (.slice (some ⟨bl,ol,none⟩) (cntL T.length (kids T)).length lc) (cntL T.length (kids T)) :: plNd (.slice (some ⟨g,0,none⟩) T.length cap) vs T :: H):=SM;have HSM:=hd0 SM2;clear ho hgr hblk rd1 SM SM2 HSA c0 c1 c2 c3 c4 c5 c6 dl;obtain⟨G2,hG2⟩:∃G2,G2=G++[(⟨x,an,cn,ak,ck⟩:Nc)]:=⟨_,rfl⟩;rw[←hG2]at HSM HGn ⊢;clear hG2;go_wp2;go_roundw
     case rel=>exact⟨k+1,a7,c7,G2,by omega,by go_num,rfl,HGn.out,HSM.out⟩
     case measure=>simp[intOf];omega
    ·have hsel:k=p:=Classical.byContradiction (fun h=>(hsl.2 h).elim h0 hc)
     have t0:((k:Int) == 0)=false:=by simp;omega
     have hci:¬(0:Int) < ((kids T).count (k:Int):Int):=by omega
     have hkv:vs[k]?=some vs[k]:=List.getElem?_eq_getElem (by omega);have HGn:Hid (G=(vs.take (k+1)).eraseIdx p):=hd0 (by rw[HG.out,←hsel];exact era_skipT hkv);have HS:=hd0 S;clear hsl hc h0 hsel hkv S;generalize (kids T).count (k:Int)=cnt at *;go_wp2;go_roundw
     case rel=>exact⟨k+1,ao,co,G,by omega,by go_num,rfl,HGn.out,HS.out⟩
     case measure=>simp[intOf];omega
  ·obtain rfl:k=T.length:=by omega
   have hni:¬(T.length:Int) < (T.length:Int):=by omega
   have eG:G=vs.eraseIdx p:=by rw[HG.out,←hvl,List.take_length]
   subst eG;have S5:Sep W0 wr (plNd (.slice ao (vs.eraseIdx p).length co) (vs.eraseIdx p) (T.eraseIdx p) :: plRow 3 1 encInt1 (.slice (some ⟨gn,0,none⟩) T.length T.length) (numL p T.length T.length) :: plRow 3 1 encInt1 (.slice la (cntL T.length (kids T)).length lc) (cntL T.length (kids T)) :: H):=(S.perm (List.Perm.cons _ ((List.Perm.cons _ (List.Perm.swap ..)).trans (List.Perm.swap ..)))).gMove
   have hle:(vs.eraseIdx p).length=(T.eraseIdx p).length:=by rw[List.length_eraseIdx,List.length_eraseIdx,hvl]
   have h2p:0 < (T.eraseIdx p).length:=by rw[List.length_eraseIdx];split<;>omega
   have h2m:(T.eraseIdx p).length≤16:=Nat.le_trans (List.eraseIdx_sublist ..).length_le hmax
   have HT2:Hid (∀y∈T.eraseIdx p,SmN 1048576 y∧∀q∈y.K,1≤q∧q < T.length):=hd0 (fun y hy=>by
    have hy':=(List.eraseIdx_sublist ..).subset hy;obtain⟨l,hl⟩:=List.getElem?_of_mem hy'
    exact⟨HT.out y hy',HKd.out l y hl⟩)
   rw[hle]at S5 ⊢
   obtain⟨g2,rfl⟩:∃g2,ao=some ⟨g2,0,none⟩:=by
    have h:=S5.gRow 0 rfl;rw[hle]at h;obtain⟨g2,h2⟩:=row_blk encNc_len (by rw[hle];exact h) (by omega);exact⟨g2,h2⟩
   have HS5:=hd0 S5;clear S S5 HG HSel hle hvl;generalize vs.eraseIdx p=v2 at *;generalize hT2e:T.eraseIdx p=T2 at *;have HT2e:=hd0 hT2e;clear hT2e;go_wp2;obtain⟨RL,hRL⟩:∃RL,RL=plRow 3 1 encInt1 (.slice (some ⟨gn,0,none⟩) T.length T.length) (numL p T.length T.length) :: plRow 3 1 encInt1 (.slice la (cntL T.length (kids T)).length lc) (cntL T.length (kids T)) :: H:=⟨_,rfl⟩
   have hR0:RL[0]?=some (plRow 3 1 encInt1 (.slice (some ⟨gn,0,none⟩) T.length T.length) (numL p T.length T.length)):=by rw[hRL];rfl
   have HRL:=hd0 hRL;rw[←hRL]at HS5;clear hRL
   go_loopw [7,8] (fun ix _ wz=>∃(q:Nat) (v3:List Nc),q≤T2.length∧ix=.int .i64 q∧Sep W0 wz (plNd (.slice (some ⟨g2,0,none⟩) T2.length co) v3 (mapMix (renNd p) T2 q) :: RL)) (fun ix _ _=>T2.length - (intOf ix).toNat)
   case atStart=>exact⟨0,v2,Nat.zero_le _,rfl,by rw[mm_zero];exact HS5.out⟩
   case round =>
    clear HS5;obtain⟨q,v3,hq,rfl,S⟩:=hrel
    by_cases hlt2:q < T2.length
    rotate_left
    ·obtain rfl:q=T2.length:=by omega
     have hni2:¬(T2.length:Int) < (T2.length:Int):=by omega
     rw[mm_full,HRL.out]at S;have HS:=hd0 (S.keep (plNd (.slice (some ⟨g2,0,none⟩) T2.length co) v3 (T2.map (renNd p)) :: H) (List.Sublist.cons_cons _ (List.Sublist.cons _ (List.Sublist.cons _ (List.Sublist.refl _)))));clear S;go_wp2;go_ret
     first|exact⟨_,v3,rfl,by rw[HT2e.out];exact HS.out⟩|exact⟨_,rfl,v3,by rw[HT2e.out];exact HS.out⟩
    ·obtain⟨x2,hx2⟩:∃x2,T2[q]?=some x2:=⟨_,List.getElem?_eq_getElem hlt2⟩;have Hx2:=hd0 hx2
     have hxm:(mapMix (renNd p) T2 q)[q]?=some x2:=by rw[mm_at (by omega)];exact hx2
     obtain⟨c,g',cap',hu,_,hck,hcn,hcell,_,_,hsk,_,hckl,hrN,hrK⟩:=S.ndAt 0 (u:=.slice (some ⟨g2,0,none⟩) T2.length co) rfl hxm
     obtain⟨rfl,rfl⟩:g2=g'∧co=cap':=by simp only[Value.slice.injEq,Option.some.injEq,Addr.mk.injEq,and_true,true_and]at hu;exact⟨hu.1,hu.2.2⟩
     obtain⟨x2',an2,cn2,ak2,ck2⟩:=c;dsimp only at hcn hckl hsk hrK;subst hcn;obtain⟨x2,hxx⟩:∃z,z=x2':=⟨_,rfl⟩;subst hxx;have HK16:=hd0 (HT2.out x2 (List.mem_of_getElem? hx2)).2;have hKl:x2.K.length≤1048576:=(HT2.out x2 (List.mem_of_getElem? hx2)).1.2.2.2
     have iq:(q:Int) < (T2.length:Int):=by omega
     have HSk:=hd0 hsk;have Hm:=hd0 hxm;have Hcl:=hd0 hckl
     have HSB:Hid (∃v4:List Nc,v4[q]?=some ⟨kidNd x2 (mapMix (renum p) x2.K 0),an2,cn2,ak2,ck2⟩∧Sep W0 wr (plNd (.slice (some ⟨g2,0,none⟩) T2.length co) v4 ((mapMix (renNd p) T2 q).set q (kidNd x2 (mapMix (renum p) x2.K 0))) :: RL)):=hd0 ⟨v3,by rw[mm_zero];exact hck,by
      rw[mm_zero]
      have e:(mapMix (renNd p) T2 q).set q (kidNd x2 x2.K)=mapMix (renNd p) T2 q:=by
       apply List.ext_getElem?;intro j
       by_cases hj:q=j
       ·subst hj;rw[List.getElem?_set_self (List.getElem?_eq_some_iff.1 Hm.out).1,Hm.out];rfl
       ·rw[List.getElem?_set_ne hj]
      rw[e];exact S⟩
     clear hcell hu hck hrN hrK hx2 hxm S hsk hckl;go_wp2
     go_loopw [8] (fun jx wz=>∃(j:Nat) (v4:List Nc),j≤x2.K.length∧jx=.int .i64 j∧v4[q]?=some ⟨kidNd x2 (mapMix (renum p) x2.K j),an2,cn2,ak2,ck2⟩∧Sep W0 wz (plNd (.slice (some ⟨g2,0,none⟩) T2.length co) v4 ((mapMix (renNd p) T2 q).set q (kidNd x2 (mapMix (renum p) x2.K j))) :: RL)) (fun jx _=>x2.K.length - (intOf jx).toNat)
     case atStart =>
      obtain⟨v4,h1,h2⟩:=HSB.out;exact⟨0,v4,Nat.zero_le _,rfl,h1,h2⟩
     case round =>
      clear HSB;obtain⟨j,v4,hj,rfl,hc4,S⟩:=hrel;have hqm:q < (mapMix (renNd p) T2 q).length:=(List.getElem?_eq_some_iff.1 Hm.out).1;have hx4:((mapMix (renNd p) T2 q).set q (kidNd x2 (mapMix (renum p) x2.K j)))[q]?=some (kidNd x2 (mapMix (renum p) x2.K j)):=List.getElem?_set_self hqm;have hml:(mapMix (renum p) x2.K j).length=x2.K.length:=mm_len (by omega);obtain⟨c5,g5,cap5,hu5,_,hck5,_,hcell5,_,_,_,_,_,_,hrK5⟩:=S.ndAt 0 (u:=.slice (some ⟨g2,0,none⟩) T2.length co) rfl hx4
      obtain⟨rfl,rfl⟩:g2=g5∧co=cap5:=by simp only[Value.slice.injEq,Option.some.injEq,Addr.mk.injEq,and_true,true_and]at hu5;exact⟨hu5.1,hu5.2.2⟩
      obtain rfl:c5=⟨kidNd x2 (mapMix (renum p) x2.K j),an2,cn2,ak2,ck2⟩:=Option.some.inj (hck5.symm.trans hc4)
      have c6:wr.cell? ⟨g2,q*7+6,none⟩=some (.slice ak2 x2.K.length ck2):=by
       have h:=hcell5 6 (.slice ak2 (mapMix (renum p) x2.K j).length ck2) rfl;rw[hml]at h;exact h
      clear hcell5 hu5
      by_cases hjl:j < x2.K.length
      rotate_left
      ·obtain rfl:j=x2.K.length:=by omega
       have hni3:¬(x2.K.length:Int) < (x2.K.length:Int):=by omega
       have S5:Sep W0 wr (plNd (.slice (some ⟨g2,0,none⟩) T2.length co) v4 (mapMix (renNd p) T2 (q+1)) :: RL):=by
        have h:=S;rw[mm_full]at h;have e:=mm_set (f:=renNd p) Hx2.out;rw[←e];exact h
       have HS5:=hd0 S5;clear S S5 hx4 hc4 hck5 hrK5 hml;go_wp2;go_roundw
       case rel=>exact⟨q+1,v4,by omega,by go_num,HS5.out⟩
       case measure=>simp[intOf];omega
      ·obtain⟨y,hy⟩:∃y,x2.K[j]?=some y:=⟨_,List.getElem?_eq_getElem hjl⟩
       have hym:(mapMix (renum p) x2.K j)[j]?=some y:=by rw[mm_at (by omega)];exact hy
       obtain⟨y',bk2,ok2,hy',hbk2,dk2⟩:=atInt hrK5 (show j < (kidNd x2 (mapMix (renum p) x2.K j)).K.length by show j < (mapMix (renum p) x2.K j).length;omega);obtain rfl:y=y':=Option.some.inj (hym.symm.trans hy')
       have hak:∃gk2,ak2=some ⟨gk2,0,none⟩:=by
        rcases HSk.out with⟨h1,h2,h3⟩|⟨g2,h2⟩
        ·have:=Hcl.out;omega
        ·exact⟨g2,h2⟩
       obtain⟨gk2,rfl⟩:=hak
       obtain⟨rfl,rfl⟩:gk2=bk2∧0=ok2:=by simpa using hbk2
       rw[Nat.zero_add]at dk2
       have iji:(j:Int) < (x2.K.length:Int):=by omega
       have hy16:=HK16.out y (List.mem_of_getElem? hy);obtain⟨m,rfl⟩:∃m:Nat,y=(m:Int):=⟨y.toNat,by omega⟩;obtain⟨ym,bm,om,hym2,hbm,dm⟩:=atInt (S.rd 1 encInt1_len (a:=some ⟨gn,0,none⟩) (cap:=T.length) (n:=T.length) (l:=numL p T.length T.length) (by rw[List.getElem?_cons_succ];exact hR0) (numL_len ..).symm) (show m < (numL p T.length T.length).length by rw[numL_len];omega)
       obtain⟨rfl,rfl⟩:gn=bm∧0=om:=by simpa using hbm
       rw[Nat.zero_add]at dm;obtain rfl:ym=renum p (m:Int):=Option.some.inj (hym2.symm.trans (numL_get (by omega)))
       have im:(m:Int) < (T.length:Int):=by omega
       have HSp:=hd0 S;have Hx4:=hd0 hx4;have Hc4:=hd0 hc4;have Hy:=hd0 hy;clear S hx4 hc4 hy hck5 hrK5 hy' hym hym2 hml
       go_wp2_with fail
       go_still_tail 17,(by kernel_rfl)
       change wpList _ _ _ _ _ wr.drew
       generalize hw2:wr.drew=wD
       have he2:Ext wr wD:=by rw[←hw2];exact(Ext.refl wr).drew
       have S:=HSp.out.step he2;have hx4:=Hx4.out;have hc4:=Hc4.out;have hy:=Hy.out;replace dk2:=cell_ext he2 dk2;clear c6 dm hw2 he2 HSp Hx4 Hc4 Hy;have S6:=S.ndKid 0 (g:=g2) (n:=T2.length) (cap:=co) rfl hc4 hx4 rfl j (renum p (m:Int)) (by show j < (mapMix (renum p) x2.K j).length;rw[mm_len (by omega)];exact hjl);have pKj:=(S.nd_pin' 0 rfl hc4 hx4).2.1;obtain⟨_,fk⟩:=owns_there pKj j (by rw[Nat.mul_one];show j < (mapMix (renum p) x2.K j).length;rw[mm_len (by omega)];exact hjl);have e1:(mapMix (renum p) x2.K j).set j (renum p (m:Int))=mapMix (renum p) x2.K (j+1):=mm_set (f:=renum p) hy
       have HS6:Hid (∃v5:List Nc,v5[q]?=some ⟨kidNd x2 (mapMix (renum p) x2.K (j+1)),an2,cn2,some ⟨gk2,0,none⟩,ck2⟩∧Sep W0 (wD.setCell ⟨gk2,j,none⟩ (.int .i64 (renum p (m:Int)))) (plNd (.slice (some ⟨g2,0,none⟩) T2.length co) v5 ((mapMix (renNd p) T2 q).set q (kidNd x2 (mapMix (renum p) x2.K (j+1)))) :: RL)):=hd0 ⟨_,List.getElem?_set_self (List.getElem?_eq_some_iff.1 hc4).1 |>.trans (by rw[←e1]),by
        rw[List.set_cons_zero,List.set_set]at S6;rw[←e1]
        exact S6⟩
       generalize renum p (m:Int)=rm at *;clear S S6 hx4 hc4 hy e1 pKj;go_wp2;go_roundw
       case rel =>
        obtain⟨v5,h1,h2⟩:=HS6.out;exact⟨j+1,v5,by omega,by go_num,h1,h2⟩
       case measure=>simp[intOf];omega
end Go.Proofs.YtnibbldfohbfkaaGreatDoor
