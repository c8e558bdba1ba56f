/- FnCallLines returns true and leaves its argument alone, for every argument that can be read; what its row lists is tied to the text. No condition. -/
import Derived.Test.YtnibbldfohbfkaaGreatDoorMn26
set_option linter.all false
set_option maxRecDepth 100000
set_option maxHeartbeats 32000000
namespace Go.Proofs.YtnibbldfohbfkaaGreatDoor
open Go.RowKit
theorem fnCallLines_any (ac:Option Addr) (capc:Nat) (code:List Int) (w:World) (hm:MaxG w) (hlc:code.length≤9223372036854775807) (hcap:code.length≤capc) (hu:∀x∈code,0≤x∧x≤255) (hcc:Rd 1 encU8 w ac code) :
  Calls Tryz.prog 4 #[.slice ac code.length capc] w (RetB True w):=by
 go_enter Tryz.func4,Tryz.ntmps4
 by_cases hbig:1048576 < code.length
 ·have hb:(1048576:Int) < (code.length:Int):=by omega
  go_wp2;go_ret;exact RetB.mk true rfl (by simp) (Ext.refl _)
 have hb:(code.length:Int)≤1048576:=by omega
 have S:=Sep.start w
 go_wp2_with fail
 refine(drawCallLines ac capc code w hlc hcap hu hcc).mono ?_;rintro e w1 ⟨at_,ct,vs,T,r,a,s,g,bl,cl,L,rfl,hT1,hT2,hL1,hLc,hL2,U⟩;have HLT:Hid (∀t∈T,SmN 1048576 t):=hd0 (sm_all (fun x hx=>(hT2 x hx).1));have HNB:Hid (NB 20 T):=hd0 (fun x hx=>(hT2 x hx).2);have HSL:Hid (∀x∈L,x.size≤1048576):=hd0 (fun x hx=>by have:=hL2 x hx;omega)
 have hlT:T.length≤1048576:=by omega
 have hlL:L.length≤1048576:=by omega
 clear hT2 hL2 hb hbig;obtain⟨R,tx,hR⟩:∃R tx,callLines T ⟨r,a,s,g⟩ L=(R,tx):=⟨_,_,rfl⟩;obtain⟨cr,ca,cs,cg,hcr⟩:∃cr ca cs cg,linesCr T ⟨r,a,s,g⟩ L=⟨cr,ca,cs,cg⟩:=⟨_,_,_,_,rfl⟩
 have HSp:Hid (∀(a1:Option Addr) (c1:Nat) (a2:Option Addr) (c2:Nat) (w':World),RdN w' a1 T→Rd 1 encStr1 w' a2 L→MaxG w'→Calls Tryz.prog 16 #[.agg #[.slice a1 T.length c1,.int .i64 r,.int .i64 a,.int .i64 s,.int .i64 g],.slice a2 L.length c2] w' (fun e w''=>∃u vs u2,e=.returned (.tuple #[.agg #[u,.int .i64 cr,.int .i64 ca,.int .i64 cs,.int .i64 cg],u2])∧Sep w' w'' [plNd u vs R,plOut u2 tx])):=hd0 (fun a1 c1 a2 c2 w' hrd hrd2 hm'=>by
  have h:=specCallLines a1 c1 T r a s g a2 c2 L w' hlT HLT.out (fun _=>nb_more HNB.out (by omega)) hrd hlL HSL.out hrd2;rw[hR,hcr]at h
  exact h)
 have HIm:Hid (∀(a1:Option Addr) (c1:Nat) (a2:Option Addr) (c2:Nat) (w':World),RdN w' a1 T→Rd 1 encStr1 w' a2 L→MaxG w'→Calls Tryz.prog 15 #[.agg #[.slice a1 T.length c1,.int .i64 r,.int .i64 a,.int .i64 s,.int .i64 g],.slice a2 L.length c2] w' (fun e w''=>∃u vs u2,e=.returned (.tuple #[.agg #[u,.int .i64 cr,.int .i64 ca,.int .i64 cs,.int .i64 cg],u2])∧Sep w' w'' [plNd u vs R,plOut u2 tx])):=hd0 (fun a1 c1 a2 c2 w' hrd hrd2 hm'=>by
  have h:=implCallLines a1 c1 T r a s g a2 c2 L w' hlT HLT.out (fun _=>nb_more HNB.out (by omega)) hrd hlL HSL.out hrd2 hm';rw[hR,hcr]at h
  exact h)
 have HBd:Hid (Small R):=hd0 (by have h:=(lines_small (c:=⟨r,a,s,g⟩) (fun _=>nb_more HNB.out (by omega)) L).1;rw[hR]at h;exact h)
 have hlA:tx.length≤30:=by have h:=(lines_small (T:=T) (c:=⟨r,a,s,g⟩) (fun _=>nb_more HNB.out (by omega)) L).2;rw[hR]at h;exact h
 have HNo:Hid (¬((TreeOk T∧CredOk r a s g)∧L.length≤30)→(R=[]∧cr=0∧ca=0∧cs=0∧cg=0)∧tx=[]):=hd0 (fun h=>by
  have h0:¬(TreeOk T∧Cr.ok ⟨r,a,s,g⟩∧L.length≤30):=fun h1=>h ⟨⟨h1.1,h1.2.1⟩,h1.2.2⟩
  unfold callLines at hR;unfold linesCr at hcr;rw[if_neg h0]at hR hcr
  cases hR
  cases hcr
  exact⟨⟨rfl,rfl,rfl,rfl,rfl⟩,rfl⟩)
 have HYe:Hid (TreeOk T∧CredOk r a s g→L.length≤30→∀k,(r=cr∧a=ca∧s=cs∧g=cg)∧∃R1 A1 A2,callLines T ⟨r,a,s,g⟩ (L.take k)=(R1,A1)∧linesCr T ⟨r,a,s,g⟩ (L.take k)=⟨r,a,s,g⟩∧callLines R1 ⟨r,a,s,g⟩ (L.drop k)=(R,A2)∧linesCr R1 ⟨r,a,s,g⟩ (L.drop k)=⟨r,a,s,g⟩∧tx=A1++A2∧NB 50 R1∧Small R1∧A1.length≤30∧A2.length≤30):=hd0 (fun h hl k=>by
  have h0:TreeOk T∧Cr.ok ⟨r,a,s,g⟩:=h;refine⟨?_,lines_two h0 hl HNB.out k hR⟩;unfold linesCr at hcr;rw[if_pos ⟨h0.1,h0.2,hl⟩]at hcr
  cases hcr
  exact⟨rfl,rfl,rfl,rfl⟩)
 clear hR hcr;have hlR:R.length≤1048576:=HBd.out.1;replace S:Sep w w1 [plRow 9 1 encStr1 (.slice (some ⟨bl,0,none⟩) L.length cl) L,plNd (.slice at_ T.length ct) vs T]:=S.call U;clear U;replace S:=S.alloc_at (n:=w1.heap.size) (by simp) #[.slice at_ T.length ct,.int .i64 r,.int .i64 a,.int .i64 s,.int .i64 g] 31;obtain⟨⟨bmc0,bmf0⟩,⟨bmc1,bmf1⟩,⟨bmc2,bmf2⟩,⟨bmc3,bmf3⟩,⟨bmc4,bmf4⟩⟩:=bx5 (S.box 0 rfl)
 go_wp2_with fail
 generalize (w1.alloc (.cells #[.slice at_ T.length ct,.int .i64 r,.int .i64 a,.int .i64 s,.int .i64 g] 31))=w2 at *;generalize w1.heap.size=B1 at *;clear bmc0 bmf0 bmc1 bmf1 bmc2 bmf2 bmc3 bmf3 bmc4 bmf4;refine(HIm.out at_ ct _ cl _ (S.rdN 2 rfl) (S.rd 1 encStr1_len rfl rfl) (hm.ext S.ext)).mono ?_;rintro e w3 ⟨uG,vG,u2G,rfl,U⟩;obtain⟨aG,cG,rfl,_,_⟩:=nd_view (U.at_ 0 rfl);obtain⟨aaG,ccG,rfl,_⟩:=out_view (U.at_ 1 rfl);replace S:Sep w w3 [plNd (.slice aG R.length cG) vG R,plOut (.slice aaG tx.length ccG) tx,plBox B1 #[.slice at_ T.length ct,.int .i64 r,.int .i64 a,.int .i64 s,.int .i64 g] 31,plRow 9 1 encStr1 (.slice (some ⟨bl,0,none⟩) L.length cl) L,plNd (.slice at_ T.length ct) vs T]:=S.call U;clear U;replace S:=S.alloc_at (n:=w3.heap.size) (by simp) #[.slice aG R.length cG,.int .i64 cr,.int .i64 ca,.int .i64 cs,.int .i64 cg] 31;obtain⟨⟨bmc0,bmf0⟩,⟨bmc1,bmf1⟩,⟨bmc2,bmf2⟩,⟨bmc3,bmf3⟩,⟨bmc4,bmf4⟩⟩:=bx5 (S.box 3 rfl)
 go_wp2_with fail
 generalize (w3.alloc (.cells #[.slice aG R.length cG,.int .i64 cr,.int .i64 ca,.int .i64 cs,.int .i64 cg] 31))=w4 at *;clear bmc0 bmf0 bmc1 bmf1 bmc2 bmf2 bmc3 bmf3 bmc4 bmf4;refine(HSp.out at_ ct _ cl _ (S.rdN 5 rfl) (S.rd 4 encStr1_len rfl rfl) (hm.ext S.ext)).mono ?_;rintro e w5 ⟨uW,vW,u2W,rfl,U⟩;obtain⟨aW,cW,rfl,_,_⟩:=nd_view (U.at_ 0 rfl);obtain⟨aaW,ccW,rfl,_⟩:=out_view (U.at_ 1 rfl);clear HSp HIm;replace S:Sep w w5 [plNd (.slice aW R.length cW) vW R,plOut (.slice aaW tx.length ccW) tx,plBox w3.heap.size #[.slice aG R.length cG,.int .i64 cr,.int .i64 ca,.int .i64 cs,.int .i64 cg] 31,plNd (.slice aG R.length cG) vG R,plOut (.slice aaG tx.length ccG) tx,plBox B1 #[.slice at_ T.length ct,.int .i64 r,.int .i64 a,.int .i64 s,.int .i64 g] 31,plRow 9 1 encStr1 (.slice (some ⟨bl,0,none⟩) L.length cl) L,plNd (.slice at_ T.length ct) vs T]:=S.call U;clear U;replace S:=S.alloc_at (n:=w5.heap.size) (by simp) #[.slice aW R.length cW,.int .i64 cr,.int .i64 ca,.int .i64 cs,.int .i64 cg] 31;obtain⟨⟨bxc0,bxf0⟩,⟨bxc1,bxf1⟩,⟨bxc2,bxf2⟩,⟨bxc3,bxf3⟩,⟨bxc4,bxf4⟩⟩:=bx5 (S.box 3 rfl)
 go_wp2_with fail
 generalize (w5.alloc (.cells #[.slice aW R.length cW,.int .i64 cr,.int .i64 ca,.int .i64 cs,.int .i64 cg] 31))=w6 at *;clear bxc0 bxf0 bxc1 bxf1 bxc2 bxf2 bxc3 bxf3 bxc4 bxf4;refine(sameKernel_eq aG aW cG cW R cr ca cs cg _ hlR HBd.out.2.1 (S.rdN 4 rfl) (S.rdN 1 rfl)).mono ?_;rintro e w7 ⟨q,rfl,hq,hE⟩;obtain rfl:q=true:=hq.2 trivial;clear hq;replace S:=S.step hE;clear hE
 go_wp2_with fail
 refine(sameTexts_eq aaG aaW ccG ccW tx _ (by omega) (out_rd (S.at_ 5 rfl)) (out_rd (S.at_ 2 rfl))).mono ?_;rintro e w8 ⟨q,rfl,hq,hE⟩;obtain rfl:q=true:=hq.2 trivial;clear hq;replace S:=S.step hE;clear hE;replace S:Sep w w8 [plBox w3.heap.size #[.slice aG R.length cG,.int .i64 cr,.int .i64 ca,.int .i64 cs,.int .i64 cg] 31,plNd (.slice aG R.length cG) vG R,plOut (.slice aaG tx.length ccG) tx,plBox B1 #[.slice at_ T.length ct,.int .i64 r,.int .i64 a,.int .i64 s,.int .i64 g] 31,plRow 9 1 encStr1 (.slice (some ⟨bl,0,none⟩) L.length cl) L,plNd (.slice at_ T.length ct) vs T]:=((S.drop 0).drop 0).drop 0;obtain⟨⟨bmc0,bmf0⟩,⟨bmc1,bmf1⟩,⟨bmc2,bmf2⟩,⟨bmc3,bmf3⟩,⟨bmc4,bmf4⟩⟩:=bx5 (S.box 3 rfl)
 go_wp2_with fail
 clear bmc0 bmf0 bmc1 bmf1 bmc2 bmf2 bmc3 bmf3 bmc4 bmf4;refine(implKernelValid at_ ct T r a s g _ hlT HLT.out (S.rdN 5 rfl)).mono ?_;rintro e w9 ⟨v0,rfl,hv0,hE⟩;have Hv0:=hd0 hv0;clear hv0;replace S:=S.step hE;clear hE
 by_cases hno:¬((TreeOk T∧CredOk r a s g)∧L.length≤30)
 ·have HN:=hd0 (HNo.out hno);obtain rfl:=HN.out.2
  have hor:v0=false∨(v0=true∧(30:Int) < (L.length:Int)):=by
   cases v0 with
   | false=>exact .inl rfl
   | true =>
    refine .inr ⟨rfl,?_⟩;have hv:=Hv0.out.1 rfl
    by_cases h30:L.length≤30
    ·exact absurd ⟨hv,h30⟩ hno
    ·omega
  clear HNo HYe hno Hv0;obtain⟨⟨bxc0,bxf0⟩,⟨bxc1,bxf1⟩,⟨bxc2,bxf2⟩,⟨bxc3,bxf3⟩,⟨bxc4,bxf4⟩⟩:=bx5 (S.box 0 rfl)
  rcases hor with rfl|⟨rfl,h30⟩
  all_goals
   go_wp2_with fail
   clear bxc0 bxc1 bxc2 bxc3 bxc4;refine(sameKernel_is (R:=[]) HN.out.1 aG none cG 0 _ hlR HBd.out.2.1 (S.rdN 1 rfl) (rdN_none _)).mono ?_;rintro e w10 ⟨q,rfl,hq,hE⟩;obtain rfl:q=true:=hq.2 trivial;clear hq;have hE10:=S.ext.trans hE;clear hE S
   go_wp2_with fail
   refine(alive_any _).mono ?_;rintro e w11 ⟨q,rfl,hq,hE⟩;obtain rfl:q=true:=hq.2 trivial;clear hq;go_wp2;go_ret;exact RetB.mk true rfl (by simp) (hE10.trans hE)
 have hyes:=Classical.not_not.1 hno;obtain rfl:v0=true:=Hv0.out.2 hyes.1
 have h30:¬(30:Int) < (L.length:Int):=by have:=hyes.2;omega
 obtain⟨h,hh⟩:∃h:Nat,h=L.length / 2:=⟨_,rfl⟩;obtain⟨⟨hy1,hy2,hy3,hy4⟩,R1,A1,A2,e1,e2,e3,e4,e5,e6,e7,e8,e9⟩:=HYe.out hyes.1 hyes.2 h;clear HNo HYe hno Hv0 hyes;subst hy1 hy2 hy3 hy4
 have d1:(L.length:Int).tdiv 2=(h:Int):=by rw[Int.tdiv_eq_ediv_of_nonneg (by omega)];omega
 have hle:h≤L.length:=by omega
 have hhalf:h=0∨h < L.length:=by omega
 have HLd:=hd0 (List.length_drop (i:=h) (l:=L));have HLt:Hid ((L.take h).length=h):=hd0 (by rw[List.length_take];omega);have HTx:=hd0 e5;have HB1:=hd0 e7;have hlR1:R1.length≤1048576:=e7.1
 have H1:Hid (∀(a1:Option Addr) (c1:Nat) (a2:Option Addr) (c2:Nat) (w':World),RdN w' a1 T→Rd 1 encStr1 w' a2 (L.take h)→MaxG w'→Calls Tryz.prog 15 #[.agg #[.slice a1 T.length c1,.int .i64 r,.int .i64 a,.int .i64 s,.int .i64 g],.slice a2 h c2] w' (fun e w''=>∃u vs u2,e=.returned (.tuple #[.agg #[u,.int .i64 r,.int .i64 a,.int .i64 s,.int .i64 g],u2])∧Sep w' w'' [plNd u vs R1,plOut u2 A1])):=hd0 (fun a1 c1 a2 c2 w' hrd hrd2 hm'=>by
  have h5:=implCallLines a1 c1 T r a s g a2 c2 (L.take h) w' hlT HLT.out (fun _=>nb_more HNB.out (by omega)) hrd (by rw[HLt.out];omega) (fun x hx=>HSL.out x (List.mem_of_mem_take hx)) hrd2 hm';rw[e1,e2,HLt.out]at h5
  exact h5)
 have H2:Hid (∀(a1:Option Addr) (c1:Nat) (a2:Option Addr) (c2:Nat) (w':World),RdN w' a1 R1→Rd 1 encStr1 w' a2 (L.drop h)→MaxG w'→Calls Tryz.prog 15 #[.agg #[.slice a1 R1.length c1,.int .i64 r,.int .i64 a,.int .i64 s,.int .i64 g],.slice a2 (L.length - h) c2] w' (fun e w''=>∃u vs u2,e=.returned (.tuple #[.agg #[u,.int .i64 r,.int .i64 a,.int .i64 s,.int .i64 g],u2])∧Sep w' w'' [plNd u vs R,plOut u2 A2])):=hd0 (fun a1 c1 a2 c2 w' hrd hrd2 hm'=>by
  have h5:=implCallLines a1 c1 R1 r a s g a2 c2 (L.drop h) w' hlR1 HB1.out.2.1 (fun _=>nb_more e6 (by omega)) hrd (by rw[HLd.out];omega) (fun x hx=>HSL.out x (List.mem_of_mem_drop hx)) hrd2 hm';rw[e3,e4,HLd.out]at h5
  exact h5)
 obtain⟨P1,hP1⟩:∃P,P=L.take h:=⟨_,rfl⟩;obtain⟨P2,hP2⟩:∃P,P=L.drop h:=⟨_,rfl⟩;rw[←hP1]at H1 HLt;rw[←hP2]at H2 HLd;have HP1:=hd0 hP1;have HP2:=hd0 hP2;clear e1 e2 e3 e4 e5 e6 e7 hP1 hP2 hh
 go_upto_region 11 with fail
 replace S:=S.step (Ext.refl _).drew;obtain⟨dc0,dc1,dc2,dc3,dc4⟩:Cells5 B1 (.slice at_ T.length ct) (.int .i64 r) (.int .i64 a) (.int .i64 s) (.int .i64 g) (World.drew w9):=S.cells5 3 rfl;have hcd:RdN (World.drew w9) at_ T:=S.rdN 5 rfl
 have hrd:Rd 1 encStr1 (World.drew w9) (some ⟨bl,0,none⟩) P1:=by rw[HP1.out];exact Rd.take (S.rd 4 encStr1_len rfl rfl) h
 have hmd:MaxG (World.drew w9):=hm.ext S.ext;have HSd:=hd0 S
 repeat clear S
 refine wp_region_d (V:=VLn (World.drew w9) (.agg #[.slice at_ T.length ct,.int .i64 r,.int .i64 a,.int .i64 s,.int .i64 g]) (.slice (some ⟨bl,0,none⟩) L.length cl) h h P1 r a s g R1 A1) (fun i=>if i=6 then[5]else if i=7 then[5]else if i=9 then[8,6]else[]) (fun _ wv=>Ext (World.drew w9) wv) (fun i=>if i=8 then some 9 else none) [] 10 0 rfl (by decide) (by kernel_rfl) (by kernel_rfl) (by kernel_rfl) (by kernel_rfl) (by kernel_rfl) (Ext.refl _) (fun r hr=>by omega) ?_ ?_
 ·intro i o hi ho kk hkk vz w4 hvl hE hd hrest
  match vz,hvl with
  | [y0,y1,y2,y3,y4,y5,y6,y7,y8,y9],_ =>
  rcases lc10 hi with rfl|rfl|rfl|rfl|rfl|rfl|rfl|rfl|rfl|rfl
  all_goals
   obtain rfl:=Option.some.inj ho
  ·have c0:=cell_ext hE dc0;have c1:=cell_ext hE dc1;have c2:=cell_ext hE dc2;have c3:=cell_ext hE dc3;have c4:=cell_ext hE dc4;clear hd hrest;simp[putAll,Act.put];go_wp2;exact OneD.mk (VLn.ext) rfl rfl hE (Ext.refl _)
  ·clear hd hrest;simp[putAll,Act.put];go_wp2;exact OneD.mk (VLn.ext) rfl rfl hE (Ext.refl _)
  ·clear hd hrest;simp[putAll,Act.put];go_wp2;exact OneD.mk (VLn.ext) rfl rfl hE (Ext.refl _)
  ·have q1:y1=.slice (some ⟨bl,0,none⟩) L.length cl:=hd ⟨1,.data⟩ (by simp) rfl (.inl rfl);have q2:y2=.int .i64 h:=hd ⟨2,.data⟩ (by simp) rfl (.inl rfl);subst q1 q2;clear hd hrest
   have hle2:h≤cl:=by omega
   simp[putAll,Act.put];go_wp2;exact OneD.mk (VLn.ext) rfl ⟨_,_,rfl,hrd⟩ hE (Ext.refl _)
  ·have q0:y0=.agg #[.slice at_ T.length ct,.int .i64 r,.int .i64 a,.int .i64 s,.int .i64 g]:=hd ⟨0,.data⟩ (by simp) rfl (.inl rfl);obtain⟨a9,c9,q3,hr9⟩:∃a c,y3=.slice a h c∧Rd 1 encStr1 (World.drew w9) a P1:=hd ⟨3,.data⟩ (by simp) rfl (.inl rfl);have HC9:=hd0 (H1.out at_ ct a9 c9 w4 (hcd.ext hE) (hr9.ext hE) (hmd.ext hE));subst q0 q3;clear hd hrest hr9;simp[putAll,Act.put]
   go_wp2_with fail
   refine HC9.out.mono ?_;rintro e w5 ⟨u5,vs5,v5,rfl,S5⟩;have S6:=S5.since hE;have hE5:=S5.ext;clear HC9 S5;go_wp2;exact OneD.mk (VLn.ext) rfl ⟨_,_,_,rfl,S6⟩ (hE.trans hE5) hE5
  ·obtain⟨u4,vs4,v4,q4,S4⟩:∃u vs u2,y4=.tuple #[.agg #[u,.int .i64 r,.int .i64 a,.int .i64 s,.int .i64 g],u2]∧Sep (World.drew w9) w4 [plNd u vs R1,plOut u2 A1]:=hd ⟨4,.data⟩ (by simp) rfl (.inl rfl);have HS4:=hd0 S4;subst q4;clear hd hrest S4;simp[putAll,Act.put];go_wp2;exact OneD.mk (VLn.ext) rfl ⟨_,_,_,rfl,HS4.out⟩ hE (Ext.refl _)
  ·obtain⟨u5,vs5,v5,q5,S5⟩:∃u vs u2,y5=.tuple #[.agg #[u,.int .i64 r,.int .i64 a,.int .i64 s,.int .i64 g],u2]∧Sep (World.drew w9) w4 [plNd u vs R1,plOut u2 A1]:=hd ⟨5,.data⟩ (by simp) rfl (.inl rfl);obtain⟨a5,c5,rfl,_,_⟩:=nd_view (S5.at_ 0 rfl);obtain⟨a6,c6,rfl,_⟩:=out_view (S5.at_ 1 rfl);subst q5;clear hd hrest S5;simp[putAll,Act.put];go_wp2;exact OneD.mk (VLn.ext) rfl ⟨_,_,_,rfl,rfl⟩ hE (Ext.refl _)
  ·obtain⟨u5,vs5,v5,q5,S5⟩:∃u vs u2,y5=.tuple #[.agg #[u,.int .i64 r,.int .i64 a,.int .i64 s,.int .i64 g],u2]∧Sep (World.drew w9) w4 [plNd u vs R1,plOut u2 A1]:=hd ⟨5,.data⟩ (by simp) rfl (.inl rfl);obtain⟨a5,c5,rfl,_,_⟩:=nd_view (S5.at_ 0 rfl);obtain⟨a6,c6,rfl,_⟩:=out_view (S5.at_ 1 rfl);subst q5;clear hd hrest S5;simp[putAll,Act.put];go_wp2;exact OneD.mk (VLn.ext) rfl ⟨_,rfl⟩ hE (Ext.refl _)
  ·clear hd hrest;have hsz:=hE.size;simp[putAll,Act.put];go_wp2;exact OneD.mk (VLn.ext) rfl ⟨_,rfl,hsz,heap_alloc_new w4 _⟩ (hE.alloc _) ((Ext.refl _).alloc _)
  ·obtain⟨B9,q8,hB9,hb9⟩:∃B,y8=.pointer (some ⟨B,0,none⟩)∧(World.drew w9).heap.size≤B∧w4.heap[B]?=some (.cells #[.slice none 0 0,.int .i64 0,.int .i64 0,.int .i64 0,.int .i64 0] 31):=hd ⟨8,.data⟩ (by simp) rfl (.inr rfl);obtain⟨x6,au,cu,q6,_⟩:∃x u3 c3,y6=.agg #[.slice u3 R1.length c3,.int .i64 r,.int .i64 a,.int .i64 s,.int .i64 g]∧[y5]=[.tuple #[y6,x]]:=hd ⟨6,.data⟩ (by simp) rfl (.inl rfl);obtain⟨d0,f0⟩:=bx hb9 0 rfl;obtain⟨d1,f1⟩:=bx hb9 1 rfl;obtain⟨d2,f2⟩:=bx hb9 2 rfl;obtain⟨d3,f3⟩:=bx hb9 3 rfl;obtain⟨d4,f4⟩:=bx hb9 4 rfl;have HB:=hd0 hb9;subst q8 q6;clear hd hrest hb9;simp at d0 d1 d2 d3 d4;simp[putAll,Act.put];go_wp2;have hb9:=HB.out;have SB:=ln_box hE hb9 hB9 (.slice au R1.length cu) (.int .i64 r) (.int .i64 a) (.int .i64 s) (.int .i64 g);exact⟨rfl,undef,rfl,⟨B9,au,cu,rfl,hB9,SB.box 0 rfl⟩,SB.ext,fun j u us hj hne hcon hnd hnc hv=>VLn.store hb9 hB9 _ _ _ _ _ j u us (fun e=>by subst e;exact hcon rfl) hne hv⟩
 intro vz w10 hvl hE hV _
 match vz,hvl with
 | [y0,y1,y2,y3,y4,y5,y6,y7,y8,y9],_ =>
 obtain⟨B3,aF,cF,vF,aaF,ccF,rfl,rfl,S5⟩:=ln_out (hV 5 (by omega) rfl) (hV 6 (by omega) rfl) (hV 7 (by omega) rfl) (hV 9 (by omega) rfl);have S:=HSd.out;clear hV hE HSd hcd hrd hmd dc0 dc1 dc2 dc3 dc4;simp only[putAll,Act.put,List.take_succ_cons,List.take_zero,List.drop_succ_cons,List.drop_zero];simp;replace S:Sep w w10 [plBox B3 #[.slice aF R1.length cF,.int .i64 r,.int .i64 a,.int .i64 s,.int .i64 g] 31,plNd (.slice aF R1.length cF) vF R1,plOut (.slice aaF A1.length ccF) A1,plBox w3.heap.size #[.slice aG R.length cG,.int .i64 r,.int .i64 a,.int .i64 s,.int .i64 g] 31,plNd (.slice aG R.length cG) vG R,plOut (.slice aaG tx.length ccG) tx,plBox B1 #[.slice at_ T.length ct,.int .i64 r,.int .i64 a,.int .i64 s,.int .i64 g] 31,plRow 9 1 encStr1 (.slice (some ⟨bl,0,none⟩) L.length cl) L,plNd (.slice at_ T.length ct) vs T]:=S.call S5;clear S5;clear H1
 go_upto_region 12 with fail
 replace S:=S.step (Ext.refl _).drew;obtain⟨dc0,dc1,dc2,dc3,dc4⟩:Cells5 B3 (.slice aF R1.length cF) (.int .i64 r) (.int .i64 a) (.int .i64 s) (.int .i64 g) (World.drew w10):=S.cells5 0 rfl;have hcd:RdN (World.drew w10) aF R1:=S.rdN 1 rfl
 have hrd:Rd 1 encStr1 (World.drew w10) (some ⟨bl,h,none⟩) P2:=by rw[HP2.out];have h5:=Rd.drop (S.rd 7 encStr1_len rfl rfl) h;rw[Nat.zero_add,Nat.mul_one]at h5;exact h5
 have hmd:MaxG (World.drew w10):=hm.ext S.ext;have HSd:=hd0 S
 repeat clear S
 refine wp_region_d (V:=VLn (World.drew w10) (.agg #[.slice aF R1.length cF,.int .i64 r,.int .i64 a,.int .i64 s,.int .i64 g]) (.slice (some ⟨bl,0,none⟩) L.length cl) h (L.length - h) P2 r a s g R A2) (fun i=>if i=6 then[5]else if i=7 then[5]else if i=9 then[8,6]else[]) (fun _ wv=>Ext (World.drew w10) wv) (fun i=>if i=8 then some 9 else none) [] 10 0 rfl (by decide) (by kernel_rfl) (by kernel_rfl) (by kernel_rfl) (by kernel_rfl) (by kernel_rfl) (Ext.refl _) (fun r hr=>by omega) ?_ ?_
 ·intro i o hi ho kk hkk vz w4 hvl hE hd hrest
  match vz,hvl with
  | [y0,y1,y2,y3,y4,y5,y6,y7,y8,y9],_ =>
  rcases lc10 hi with rfl|rfl|rfl|rfl|rfl|rfl|rfl|rfl|rfl|rfl
  all_goals
   obtain rfl:=Option.some.inj ho
  ·have c0:=cell_ext hE dc0;have c1:=cell_ext hE dc1;have c2:=cell_ext hE dc2;have c3:=cell_ext hE dc3;have c4:=cell_ext hE dc4;clear hd hrest;simp[putAll,Act.put];go_wp2;exact OneD.mk (VLn.ext) rfl rfl hE (Ext.refl _)
  ·clear hd hrest;simp[putAll,Act.put];go_wp2;exact OneD.mk (VLn.ext) rfl rfl hE (Ext.refl _)
  ·clear hd hrest;simp[putAll,Act.put];go_wp2;exact OneD.mk (VLn.ext) rfl rfl hE (Ext.refl _)
  ·have q1:y1=.slice (some ⟨bl,0,none⟩) L.length cl:=hd ⟨1,.data⟩ (by simp) rfl (.inl rfl);have q2:y2=.int .i64 h:=hd ⟨2,.data⟩ (by simp) rfl (.inl rfl);subst q1 q2;clear hd hrest
   by_cases hcm:cl=h
   ·have hk0:L.length - h=0:=by omega
    have hP0:P2=[]:=List.eq_nil_of_length_eq_zero (by rw[HLd.out];exact hk0);simp[putAll,Act.put];go_wp2
    first
     | exact OneD.mk (VLn.ext) rfl ⟨_,_,rfl,by rw[hP0];exact Rd.nil⟩ hE (Ext.refl _)
     | exact OneD.mk (VLn.ext) rfl ⟨_,_,by rw[hk0],by rw[hP0];exact Rd.nil⟩ hE (Ext.refl _)
   ·simp[putAll,Act.put];go_wp2;exact OneD.mk (VLn.ext) rfl ⟨_,_,rfl,hrd⟩ hE (Ext.refl _)
  ·have q0:y0=.agg #[.slice aF R1.length cF,.int .i64 r,.int .i64 a,.int .i64 s,.int .i64 g]:=hd ⟨0,.data⟩ (by simp) rfl (.inl rfl);obtain⟨a9,c9,q3,hr9⟩:∃a c,y3=.slice a (L.length - h) c∧Rd 1 encStr1 (World.drew w10) a P2:=hd ⟨3,.data⟩ (by simp) rfl (.inl rfl);have HC9:=hd0 (H2.out aF cF a9 c9 w4 (hcd.ext hE) (hr9.ext hE) (hmd.ext hE));subst q0 q3;clear hd hrest hr9;simp[putAll,Act.put]
   go_wp2_with fail
   refine HC9.out.mono ?_;rintro e w5 ⟨u5,vs5,v5,rfl,S5⟩;have S6:=S5.since hE;have hE5:=S5.ext;clear HC9 S5;go_wp2;exact OneD.mk (VLn.ext) rfl ⟨_,_,_,rfl,S6⟩ (hE.trans hE5) hE5
  ·obtain⟨u4,vs4,v4,q4,S4⟩:∃u vs u2,y4=.tuple #[.agg #[u,.int .i64 r,.int .i64 a,.int .i64 s,.int .i64 g],u2]∧Sep (World.drew w10) w4 [plNd u vs R,plOut u2 A2]:=hd ⟨4,.data⟩ (by simp) rfl (.inl rfl);have HS4:=hd0 S4;subst q4;clear hd hrest S4;simp[putAll,Act.put];go_wp2;exact OneD.mk (VLn.ext) rfl ⟨_,_,_,rfl,HS4.out⟩ hE (Ext.refl _)
  ·obtain⟨u5,vs5,v5,q5,S5⟩:∃u vs u2,y5=.tuple #[.agg #[u,.int .i64 r,.int .i64 a,.int .i64 s,.int .i64 g],u2]∧Sep (World.drew w10) w4 [plNd u vs R,plOut u2 A2]:=hd ⟨5,.data⟩ (by simp) rfl (.inl rfl);obtain⟨a5,c5,rfl,_,_⟩:=nd_view (S5.at_ 0 rfl);obtain⟨a6,c6,rfl,_⟩:=out_view (S5.at_ 1 rfl);subst q5;clear hd hrest S5;simp[putAll,Act.put];go_wp2;exact OneD.mk (VLn.ext) rfl ⟨_,_,_,rfl,rfl⟩ hE (Ext.refl _)
  ·obtain⟨u5,vs5,v5,q5,S5⟩:∃u vs u2,y5=.tuple #[.agg #[u,.int .i64 r,.int .i64 a,.int .i64 s,.int .i64 g],u2]∧Sep (World.drew w10) w4 [plNd u vs R,plOut u2 A2]:=hd ⟨5,.data⟩ (by simp) rfl (.inl rfl);obtain⟨a5,c5,rfl,_,_⟩:=nd_view (S5.at_ 0 rfl);obtain⟨a6,c6,rfl,_⟩:=out_view (S5.at_ 1 rfl);subst q5;clear hd hrest S5;simp[putAll,Act.put];go_wp2;exact OneD.mk (VLn.ext) rfl ⟨_,rfl⟩ hE (Ext.refl _)
  ·clear hd hrest;have hsz:=hE.size;simp[putAll,Act.put];go_wp2;exact OneD.mk (VLn.ext) rfl ⟨_,rfl,hsz,heap_alloc_new w4 _⟩ (hE.alloc _) ((Ext.refl _).alloc _)
  ·obtain⟨B9,q8,hB9,hb9⟩:∃B,y8=.pointer (some ⟨B,0,none⟩)∧(World.drew w10).heap.size≤B∧w4.heap[B]?=some (.cells #[.slice none 0 0,.int .i64 0,.int .i64 0,.int .i64 0,.int .i64 0] 31):=hd ⟨8,.data⟩ (by simp) rfl (.inr rfl);obtain⟨x6,au,cu,q6,_⟩:∃x u3 c3,y6=.agg #[.slice u3 R.length c3,.int .i64 r,.int .i64 a,.int .i64 s,.int .i64 g]∧[y5]=[.tuple #[y6,x]]:=hd ⟨6,.data⟩ (by simp) rfl (.inl rfl);obtain⟨d0,f0⟩:=bx hb9 0 rfl;obtain⟨d1,f1⟩:=bx hb9 1 rfl;obtain⟨d2,f2⟩:=bx hb9 2 rfl;obtain⟨d3,f3⟩:=bx hb9 3 rfl;obtain⟨d4,f4⟩:=bx hb9 4 rfl;have HB:=hd0 hb9;subst q8 q6;clear hd hrest hb9;simp at d0 d1 d2 d3 d4;simp[putAll,Act.put];go_wp2;have hb9:=HB.out;have SB:=ln_box hE hb9 hB9 (.slice au R.length cu) (.int .i64 r) (.int .i64 a) (.int .i64 s) (.int .i64 g);exact⟨rfl,undef,rfl,⟨B9,au,cu,rfl,hB9,SB.box 0 rfl⟩,SB.ext,fun j u us hj hne hcon hnd hnc hv=>VLn.store hb9 hB9 _ _ _ _ _ j u us (fun e=>by subst e;exact hcon rfl) hne hv⟩
 intro vz w11 hvl hE hV _
 match vz,hvl with
 | [y0,y1,y2,y3,y4,y5,y6,y7,y8,y9],_ =>
 obtain⟨B4,aQ,cQ,vQ,aaQ,ccQ,rfl,rfl,S5⟩:=ln_out (hV 5 (by omega) rfl) (hV 6 (by omega) rfl) (hV 7 (by omega) rfl) (hV 9 (by omega) rfl);have S:=HSd.out;clear hV hE HSd hcd hrd hmd dc0 dc1 dc2 dc3 dc4;simp only[putAll,Act.put,List.take_succ_cons,List.take_zero,List.drop_succ_cons,List.drop_zero];simp;replace S:Sep w w11 [plBox B4 #[.slice aQ R.length cQ,.int .i64 r,.int .i64 a,.int .i64 s,.int .i64 g] 31,plNd (.slice aQ R.length cQ) vQ R,plOut (.slice aaQ A2.length ccQ) A2,plBox B3 #[.slice aF R1.length cF,.int .i64 r,.int .i64 a,.int .i64 s,.int .i64 g] 31,plNd (.slice aF R1.length cF) vF R1,plOut (.slice aaF A1.length ccF) A1,plBox w3.heap.size #[.slice aG R.length cG,.int .i64 r,.int .i64 a,.int .i64 s,.int .i64 g] 31,plNd (.slice aG R.length cG) vG R,plOut (.slice aaG tx.length ccG) tx,plBox B1 #[.slice at_ T.length ct,.int .i64 r,.int .i64 a,.int .i64 s,.int .i64 g] 31,plRow 9 1 encStr1 (.slice (some ⟨bl,0,none⟩) L.length cl) L,plNd (.slice at_ T.length ct) vs T]:=S.call S5;clear S5;clear H2 d1;obtain⟨⟨bqc0,bqf0⟩,⟨bqc1,bqf1⟩,⟨bqc2,bqf2⟩,⟨bqc3,bqf3⟩,⟨bqc4,bqf4⟩⟩:=bx5 (S.box 0 rfl);obtain⟨⟨bxc0,bxf0⟩,⟨bxc1,bxf1⟩,⟨bxc2,bxf2⟩,⟨bxc3,bxf3⟩,⟨bxc4,bxf4⟩⟩:=bx5 (S.box 6 rfl)
 go_wp2_with fail
 clear bqc0 bqf0 bqc1 bqf1 bqc2 bqf2 bqc3 bqf3 bqc4 bqf4 bxc0 bxf0 bxc1 bxf1 bxc2 bxf2 bxc3 bxf3 bxc4 bxf4;refine(sameKernel_eq aQ aG cQ cG R r a s g _ hlR HBd.out.2.1 (S.rdN 1 rfl) (S.rdN 7 rfl)).mono ?_;rintro e w12 ⟨q,rfl,hq,hE⟩;obtain rfl:q=true:=hq.2 trivial;clear hq;replace S:=S.step hE;clear hE;replace S:Sep w (w12.alloc (.cells #[] 9)) [plRow 9 1 encStr1 (.slice (some ⟨w12.heap.size,0,none⟩) 0 0) [],plBox B4 #[.slice aQ R.length cQ,.int .i64 r,.int .i64 a,.int .i64 s,.int .i64 g] 31,plNd (.slice aQ R.length cQ) vQ R,plOut (.slice aaQ A2.length ccQ) A2,plBox B3 #[.slice aF R1.length cF,.int .i64 r,.int .i64 a,.int .i64 s,.int .i64 g] 31,plNd (.slice aF R1.length cF) vF R1,plOut (.slice aaF A1.length ccF) A1,plBox w3.heap.size #[.slice aG R.length cG,.int .i64 r,.int .i64 a,.int .i64 s,.int .i64 g] 31,plNd (.slice aG R.length cG) vG R,plOut (.slice aaG tx.length ccG) tx,plBox B1 #[.slice at_ T.length ct,.int .i64 r,.int .i64 a,.int .i64 s,.int .i64 g] 31,plRow 9 1 encStr1 (.slice (some ⟨bl,0,none⟩) L.length cl) L,plNd (.slice at_ T.length ct) vs T]:=S.lit0 (by simp) _ _ _;have hsz:=S.ext.size
 go_wp2_with (at_builtin;refine wpList_unguard rfl ?_;refine Hid.out (?_:Hid _))
 unfold Hid;refine(wpList_append_b rfl _ _ 39 rfl w.heap.size 9 _ 1 _ Tryz.underlying39 infoStr1 rfl (by decide) encStr1_len encStr1_one _ 0 ([]:List ByteArray) rfl (S.row 0 rfl) rfl aaF A1.length ccF A1 rfl rfl (out_rd (S.at_ 6 rfl)) (by omega) (by decide) hsz ?_);intro v1 w13 ho hgr hblk;replace ho:w13.ownsRow w.heap.size 9 1 v1 A1.length (A1.flatMap encStr1):=ho;obtain⟨a7,c7,hv7,_,_,_⟩:=view_owns encStr1_len ho;subst hv7;replace S:Sep w w13 [plRow 9 1 encStr1 (.slice a7 A1.length c7) A1,plBox B4 #[.slice aQ R.length cQ,.int .i64 r,.int .i64 a,.int .i64 s,.int .i64 g] 31,plNd (.slice aQ R.length cQ) vQ R,plOut (.slice aaQ A2.length ccQ) A2,plBox B3 #[.slice aF R1.length cF,.int .i64 r,.int .i64 a,.int .i64 s,.int .i64 g] 31,plNd (.slice aF R1.length cF) vF R1,plOut (.slice aaF A1.length ccF) A1,plBox w3.heap.size #[.slice aG R.length cG,.int .i64 r,.int .i64 a,.int .i64 s,.int .i64 g] 31,plNd (.slice aG R.length cG) vG R,plOut (.slice aaG tx.length ccG) tx,plBox B1 #[.slice at_ T.length ct,.int .i64 r,.int .i64 a,.int .i64 s,.int .i64 g] 31,plRow 9 1 encStr1 (.slice (some ⟨bl,0,none⟩) L.length cl) L,plNd (.slice at_ T.length ct) vs T]:=S.grow 0 rfl hgr ho hblk;clear ho hgr hblk hsz;have hsz:=S.ext.size
 go_wp2_with (at_builtin;refine wpList_unguard rfl ?_;refine Hid.out (?_:Hid _))
 unfold Hid;refine(wpList_append_b rfl _ _ 39 rfl w.heap.size 9 _ 1 _ Tryz.underlying39 infoStr1 rfl (by decide) encStr1_len encStr1_one _ A1.length A1 rfl (S.row 0 rfl) rfl aaQ A2.length ccQ A2 rfl rfl (out_rd (S.at_ 3 rfl)) (by omega) (by decide) hsz ?_);intro v2 w14 ho hgr hblk;rw[←HTx.out]at ho;obtain⟨a8,c8,hv8,_,_,_⟩:=view_owns encStr1_len ho;subst hv8;replace S:Sep w w14 [plRow 9 1 encStr1 (.slice a8 tx.length c8) tx,plBox B4 #[.slice aQ R.length cQ,.int .i64 r,.int .i64 a,.int .i64 s,.int .i64 g] 31,plNd (.slice aQ R.length cQ) vQ R,plOut (.slice aaQ A2.length ccQ) A2,plBox B3 #[.slice aF R1.length cF,.int .i64 r,.int .i64 a,.int .i64 s,.int .i64 g] 31,plNd (.slice aF R1.length cF) vF R1,plOut (.slice aaF A1.length ccF) A1,plBox w3.heap.size #[.slice aG R.length cG,.int .i64 r,.int .i64 a,.int .i64 s,.int .i64 g] 31,plNd (.slice aG R.length cG) vG R,plOut (.slice aaG tx.length ccG) tx,plBox B1 #[.slice at_ T.length ct,.int .i64 r,.int .i64 a,.int .i64 s,.int .i64 g] 31,plRow 9 1 encStr1 (.slice (some ⟨bl,0,none⟩) L.length cl) L,plNd (.slice at_ T.length ct) vs T]:=S.grow 0 rfl hgr ho hblk;clear ho hgr hblk hsz
 go_wp2_with fail
 refine(sameTexts_eq a8 aaG c8 ccG tx _ (by omega) (S.rd 0 encStr1_len rfl rfl) (out_rd (S.at_ 9 rfl))).mono ?_;rintro e w15 ⟨q,rfl,hq,hE⟩;obtain rfl:q=true:=hq.2 trivial;clear hq;replace S:=S.step hE;clear hE;go_wp2;go_ret;exact RetB.mk true rfl (by simp) S.ext
end Go.Proofs.YtnibbldfohbfkaaGreatDoor

/- FnCallLines returns true and leaves its argument alone, for every argument that can be read; what its row lists is tied to the text. No condition. -/
namespace Go.Proofs.YtnibbldfohbfkaaGreatDoor.fnCallLines
open Go.ChangeShapes Go.WideShapes Go.ChangeAt Go.RowKit Go.Deep
theorem lifted (os : Os) (started : os.Started) (H : Type) (enc : TypeId × Value → H) :
  ReturnsInHanded {} Tryz.checked os 4 .any (fun w args => (Rows.fnCallLinesSpec.pre enc Tryz.prog Tryz.f4 Rows.fnCallLinesRow.domain false w args ∧ laidMetH Tryz.prog Rows.fnCallLinesRow.laid w) ∧ sizedMet enc Tryz.prog Tryz.f4 (OpenSpec.ofChange Rows.fnCallLinesSpec) false w args) (Rows.fnCallLinesSpec.post enc Tryz.prog Tryz.f4 false true false false) := by
 refine wrapD (C := Tryz.checked) rowOwn started (by kernel_rfl) Tryz.func4
  (ChangeSpec.witness_shaped (enc := enc) (C := Tryz.checked) (os := os) (X := fun w _ => laidMetH Tryz.prog Rows.fnCallLinesRow.laid w) false (World.laidAll Tryz.prog os Rows.fnCallLinesRow.laid) #[.slice none 0 0] 8 (World.laidAll_os _ _ _) (World.shaped_of_ZipB (by kernel_rfl) (by kernel_rfl)) (by kernel_rfl) (by kernel_rfl) (by kernel_rfl) (by rw [MakeChecks.laidMetH_plain _ _ _ (by kernel_rfl)]; exact laidMet_laidAll _ (by kernel_rfl) (by kernel_rfl))) ?_
 intro W base args ds gs before hval0 hW hsh; obtain ⟨m, hm⟩ : ∃ m, W.cell? ⟨maxLenG, 0, none⟩ = some (.int .i64 m) := cell_of_shapedOpen_int (P := Tryz.prog) (t := 3) (zero := #[.int .i64 0]) hsh (by decide +kernel) (by kernel_rfl) rfl (by kernel_rfl) (by kernel_rfl) Tryz.underlying3; have hval : ∀ (j : Nat) t v, Tryz.f4.params[j]? = some t → args[j]? = some v → Value.okWide Tryz.prog W .any base t v := hval0; have hW' := hW; obtain ⟨p, q, hA0, hV, rfl, hfz, hnd⟩ := hW; have hA : DataW.TrodAll enc Tryz.prog W 0 (fun _ => true) true Tryz.f4.params.toList args.toList ds p := hA0; rw [Tryz.params4] at hA hval; obtain ⟨v0, vs0, d0, ds0, p0, q0, hargs, rfl, rfl, h0, r0⟩ := trodAll_cons hA; obtain ⟨rfl, rfl, rfl⟩ := trodAll_nil r0
 obtain rfl : args = #[v0] := by cases args; simp_all
 obtain ⟨rfl, rfl⟩ := trodVars_none hV; obtain ⟨acode, capcode, code, rfl, hlcode, hgcode, hrcode⟩ := open_rd_arg (encA := encU8) (good := fun x => 0 ≤ x ∧ x ≤ 255) Tryz.underlying38 (by kernel_rfl : Tryz.prog.cellsOf 5 = 1) (by omega) encU8_len openU8 (hval 0 38 v0 rfl rfl) h0; have hkcode := trod_cap Tryz.underlying38 h0
 refine (fnCallLines_any acode capcode code W ⟨m, hm⟩ hlcode hkcode hgcode hrcode).mono fun e W' ⟨b, he, hb, hE⟩ => ?_
 obtain rfl : b = true := hb.2 trivial; subst he; exact ⟨_, rfl, law_post (tb := 4) rowLaid hW' rfl (by kernel_rfl) Tryz.underlying4 (by rw [Tryz.params4]; exact (by decide +kernel)) rfl rfl rfl hE⟩
theorem said : Rows.FnCallLinesSaid :=
 OpenClaim.holds_of_wide 4 Tryz.f4 rfl rfl rfl rfl rfl rfl rfl ⟨rfl, rfl, rfl, rfl, rfl⟩ rfl rfl rfl rfl rfl (by kernel_rfl) Tryz.func4 (by kernel_rfl)
  (of_decide_eq_true (by kernel_rfl)) (by unfold Func.isWrapper; first | (rw [if_pos (by decide +kernel)]; kernel_rfl) | (rw [if_neg (by decide +kernel)]; exact ⟨rfl, rfl⟩))
  (fun os started H enc _ => lifted os started H enc)
theorem proved : Rows.FnCallLinesCardSaid :=
 Claim7.holds_tied_plain_at .later [] [.data, .pinned] true (true, "8145477ae8edc14bff9d8d1b452ee3239b57e774fe05c38056aa3212d8f66624") false said (fun _ h => by cases h) (by kernel_rfl) (fun _ h => by cases h) fnCallLines_row_tie rfl ⟨rfl, rfl⟩ (by kernel_rfl) rfl
  (fun f fn hf hfn => by
   obtain rfl : f = 4 := Option.some.inj ((show Tryz.prog.funcNamed "loop.example/userspaces/laws.FnCallLines" = some 4 by kernel_rfl).symm.trans hf) |>.symm
   obtain rfl : fn = Tryz.f4 := (Option.some.inj (Tryz.func4.symm.trans hfn)).symm
   exact ⟨by kernel_rfl, fun j t ht => by
    rw [Tryz.params4] at ht
    have hm : t ∈ [38] := by simpa using Array.mem_of_getElem? ht
    have hall : ([38].all fun u => !Tryz.prog.wantsStandIn u) = true := by kernel_rfl
    exact (show Tryz.prog.wantsStandIn t = false by simpa using List.all_eq_true.1 hall t hm)⟩)
  (by kernel_rfl)
#print axioms proved
end Go.Proofs.YtnibbldfohbfkaaGreatDoor.fnCallLines
