/- Parts of one proof: what each theorem proves, and its conditions, stand in its own statement. -/
import Derived.Test.YtnibbldfohbfkaaGreatDoorMn14
set_option linter.all false
set_option maxRecDepth 100000
set_option maxHeartbeats 32000000
namespace Go.Proofs.YtnibbldfohbfkaaGreatDoor
open Go.RowKit
theorem and512_all:∀q:Fin 1024,(bits BinOp.and IntKind.i64 (q.val:Int) 512 != 0)=decide (512≤(q.val:Int)):=by decide +kernel
theorem and512 {m:Int} (h:inB m 0 1023=true):(bits BinOp.and IntKind.i64 m 512 != 0)=decide (512≤m):=by
 obtain⟨h0,h1⟩:=inB_iff.1 h;have:=and512_all ⟨m.toNat,by omega⟩
 rwa [show((m.toNat:Nat):Int)=m by omega]at this
theorem implMayDropF (a:Option Addr) (cap:Nat) (T:List Nd) (c:Cr) (s:ByteArray) (full:Bool) (w:World) (hs:s.size≤1048576) (hl:T.length≤1048576) (hT:∀x∈T,SmN 1048576 x) (hc:RdN w a T) (hm:MaxG w) :
  Calls Tryz.prog 123 #[.slice a T.length cap,.agg #[.int .i64 c.r,.int .i64 c.a,.int .i64 c.s,.int .i64 c.g],.string s,.bool full] w (RetI (mayDropF T c s full) w):=by
 obtain⟨cr,ca,cs,cg⟩:=c;have HT:=hd0 hT;have HM:=hd0 hm;clear hT hm;dsimp only
 go_enter Tryz.func123,Tryz.ntmps123
 have S:=Sep.start w;replace S:=S.alloc_at (n:=w.heap.size) (by simp) #[.int .i64 cr,.int .i64 ca,.int .i64 cs,.int .i64 cg] 29
 go_wp2_with fail
 generalize (w.alloc (.cells #[.int .i64 cr,.int .i64 ca,.int .i64 cs,.int .i64 cg] 29))=w1 at *;refine(implFolderAbove a cap T ⟨cr,ca,cs,cg⟩ s w1 hs hl HT.out (hc.ext S.ext) (HM.out.ext S.ext)).mono ?_;rintro e w2 ⟨rfl,hE⟩;replace S:=S.step hE;clear hE
 rcases fa_cases T ⟨cr,ca,cs,cg⟩ s with⟨n,x,hF⟩|⟨f,hf,hF⟩
 rotate_left
 ·have HX:=hd0 (md_fault (full:=full) hf hF);rw[hF]
  have tf:(f == 0)=false:=by simpa using hf
  clear hf hF;dsimp only;go_wp2;go_ret;exact⟨by rw[HX.out];rfl,S.ext⟩
 have HF:=hd0 hF;rw[hF.eq];obtain⟨x',b',off,an,cn,ak,ck,hx,rfl,c0,c1,c2,c3,c4,c5,c6,hcn,hck,hrn,hrk⟩:=atNd hc (List.getElem?_eq_some_iff.1 hF.hx).1;obtain rfl:x=x':=Option.some.inj (hF.hx.symm.trans hx);have hN:=hF.tree.nodes n x hx;have Hmo:=hd0 hN.mode;have hNl:x.N.length≤1048576:=(HT.out x (List.mem_of_getElem? hx)).2.1
 have i1:(n:Int) < (T.length:Int):=by have:=(List.getElem?_eq_some_iff.1 hx).1;omega
 have hE:=S.ext;have d0:=cell_ext hE c0;have d1:=cell_ext hE c1;have d2:=cell_ext hE c2;have d3:=cell_ext hE c3;have d4:=cell_ext hE c4;have d5:=cell_ext hE c5;have d6:=cell_ext hE c6;have HKd:=hd0 (implKid x T.length an ak cn ck (lastOf s) w2 hN hNl (hrn.ext hE) (hrk.ext hE));have HKp:=hd0 (fun h=>kid_place hN (s:=lastOf s) h);clear hx hN c0 c1 c2 c3 c4 c5 c6 hcn hck hrn hrk hE hF;dsimp only
 go_wp2_with fail
 refine HKd.out.mono ?_;rintro e w3 ⟨rfl,hw3⟩;have g0:=cell_ext hw3 d0;have g1:=cell_ext hw3 d1;have g3:=cell_ext hw3 d3;clear d0 d1 d2 d3 d4 d5 d6 HKd;replace S:=S.step hw3;clear hw3
 by_cases hkid:kidOf x.N x.K (lastOf s) < 0
 ·have HX:=hd0 (md_miss (full:=full) HF.out hkid);clear g0 g1 g3;go_wp2;go_ret;exact⟨by rw[HX.out];rfl,S.ext⟩
 ·obtain⟨_,_,_,k4,k5,_⟩:=HKp.out (by omega);obtain⟨kid,hkd⟩:∃kid:Nat,kidOf x.N x.K (lastOf s)=(kid:Int):=⟨_,(Int.toNat_of_nonneg (by omega)).symm⟩;obtain⟨z,b2,off2,zan,zcn,zak,zck,hz,hzb,_,y1,_,_,_,y5,_⟩:=atNd (hc.ext S.ext) (show kid < T.length by omega)
  obtain⟨rfl,rfl⟩:b'=b2∧off=off2:=by simpa using hzb
  have HK:=hd0 (md_kid (full:=full) HF.out hkd hz)
  have i2:(kid:Int) < (T.length:Int):=by omega
  rw[hkd]at hkid ⊢;have d0:=g0;have d1:=g1;have d3:=g3;have z1:=y1;have z5:=y5;clear g0 g1 g3 y1 y5 k4 k5 hkd hz hzb HKp HF;obtain⟨⟨bc0,bf0⟩,⟨bc1,bf1⟩,⟨bc2,bf2⟩,⟨bc3,bf3⟩⟩:=bx4 (S.box 0 rfl)
  rcases stuck_cases ⟨cr,ca,cs,cg⟩ x z with⟨h1,hst⟩|⟨h1,h2,hst⟩|⟨h1,h2,h3,hst⟩|⟨h1,h2,h3,h4,hst⟩|⟨h1,h2,h3,h4,hst⟩
  ·have Hst:=hd0 hst
   have tm:bits BinOp.and IntKind.i64 x.mode 512=0:=by have h:=and512 Hmo.out;rw[decide_eq_false h1]at h;simpa using h
   clear h1 hst
   go_wp2_with fail
   have q0:=ExtW.cell d0;have q1:=ExtW.cell d1;have q3:=ExtW.cell d3;have qz1:=ExtW.cell z1;have qz5:=ExtW.cell z5;have bl:=ExtW.lt d0;have r0:=ExtW.cell bc0;have r1:=ExtW.cell bc1;have br:=ExtW.lt bc0;have HSx:=hd0 S;clear d0 d1 d3 z1 z5 bc0 bc1 bc2 bc3 bf0 bf1 bf2 bf3 S
   (refine wp_region_quiet_ext (by kernel_rfl) (by kernel_rfl) ?_;(repeat (go_big_quiet_step ((fail))));refine wpQuiet_nil ?_;intro _ hw';obtain⟨sq,hw''⟩:=hw';subst hw'')
   obtain⟨w5,hw5⟩:=sq;have pz5:=qz5 ⟨w5,hw5⟩;clear q0 q1 q3 qz1 qz5 bl r0 r1 br
   cases full with
   | true =>
    have HX:=hd0 (HK.out.trans (by rw[if_neg (by rw[Hst.out];decide),if_neg (by simp)]));go_wp2;go_ret;exact⟨by rw[HX.out];rfl,HSx.out.ext.trans hw5⟩
   | false =>
    by_cases hz0:0 < z.N.length
    ·have HX:=hd0 (HK.out.trans (by rw[if_neg (by rw[Hst.out];decide),if_pos ⟨rfl,hz0⟩]))
     have hzi:(0:Int) < (z.N.length:Int):=by omega
     go_wp2;go_ret;exact⟨by rw[HX.out];rfl,HSx.out.ext.trans hw5⟩
    ·have HX:=hd0 (HK.out.trans (by rw[if_neg (by rw[Hst.out];decide),if_neg (fun h=>hz0 h.2)]))
     have hzi:¬(0:Int) < (z.N.length:Int):=by omega
     go_wp2;go_ret;exact⟨by rw[HX.out];rfl,HSx.out.ext.trans hw5⟩
  ·have Hst:=hd0 hst
   have tm:(bits BinOp.and IntKind.i64 x.mode 512 != 0)=true:=by rw[and512 Hmo.out];simpa using h1
   have ta:ca=0:=h2;clear h2;subst ta;clear h1 hst
   go_wp2_with fail
   have q0:=ExtW.cell d0;have q1:=ExtW.cell d1;have q3:=ExtW.cell d3;have qz1:=ExtW.cell z1;have qz5:=ExtW.cell z5;have bl:=ExtW.lt d0;have r0:=ExtW.cell bc0;have r1:=ExtW.cell bc1;have br:=ExtW.lt bc0;have HSx:=hd0 S;clear d0 d1 d3 z1 z5 bc0 bc1 bc2 bc3 bf0 bf1 bf2 bf3 S
   (refine wp_region_quiet_ext (by kernel_rfl) (by kernel_rfl) ?_;(repeat (go_big_quiet_step ((fail))));refine wpQuiet_nil ?_;intro _ hw';obtain⟨sq,hw''⟩:=hw';subst hw'')
   obtain⟨w5,hw5⟩:=sq;have pz5:=qz5 ⟨w5,hw5⟩;clear q0 q1 q3 qz1 qz5 bl r0 r1 br
   cases full with
   | true =>
    have HX:=hd0 (HK.out.trans (by rw[if_neg (by rw[Hst.out];decide),if_neg (by simp)]));go_wp2;go_ret;exact⟨by rw[HX.out];rfl,HSx.out.ext.trans hw5⟩
   | false =>
    by_cases hz0:0 < z.N.length
    ·have HX:=hd0 (HK.out.trans (by rw[if_neg (by rw[Hst.out];decide),if_pos ⟨rfl,hz0⟩]))
     have hzi:(0:Int) < (z.N.length:Int):=by omega
     go_wp2;go_ret;exact⟨by rw[HX.out];rfl,HSx.out.ext.trans hw5⟩
    ·have HX:=hd0 (HK.out.trans (by rw[if_neg (by rw[Hst.out];decide),if_neg (fun h=>hz0 h.2)]))
     have hzi:¬(0:Int) < (z.N.length:Int):=by omega
     go_wp2;go_ret;exact⟨by rw[HX.out];rfl,HSx.out.ext.trans hw5⟩
  ·have Hst:=hd0 hst
   have tm:(bits BinOp.and IntKind.i64 x.mode 512 != 0)=true:=by rw[and512 Hmo.out];simpa using h1
   have ta:(ca != 0)=true:=by simpa using h2
   have to_:(ca != x.own)=false:=by simpa using h3
   clear h1 h2 h3 hst
   go_wp2_with fail
   have q0:=ExtW.cell d0;have q1:=ExtW.cell d1;have q3:=ExtW.cell d3;have qz1:=ExtW.cell z1;have qz5:=ExtW.cell z5;have bl:=ExtW.lt d0;have r0:=ExtW.cell bc0;have r1:=ExtW.cell bc1;have br:=ExtW.lt bc0;have HSx:=hd0 S;clear d0 d1 d3 z1 z5 bc0 bc1 bc2 bc3 bf0 bf1 bf2 bf3 S
   (refine wp_region_quiet_ext (by kernel_rfl) (by kernel_rfl) ?_;(repeat (go_big_quiet_step ((fail))));refine wpQuiet_nil ?_;intro _ hw';obtain⟨sq,hw''⟩:=hw';subst hw'')
   obtain⟨w5,hw5⟩:=sq;have pz5:=qz5 ⟨w5,hw5⟩;clear q0 q1 q3 qz1 qz5 bl r0 r1 br
   cases full with
   | true =>
    have HX:=hd0 (HK.out.trans (by rw[if_neg (by rw[Hst.out];decide),if_neg (by simp)]));go_wp2;go_ret;exact⟨by rw[HX.out];rfl,HSx.out.ext.trans hw5⟩
   | false =>
    by_cases hz0:0 < z.N.length
    ·have HX:=hd0 (HK.out.trans (by rw[if_neg (by rw[Hst.out];decide),if_pos ⟨rfl,hz0⟩]))
     have hzi:(0:Int) < (z.N.length:Int):=by omega
     go_wp2;go_ret;exact⟨by rw[HX.out];rfl,HSx.out.ext.trans hw5⟩
    ·have HX:=hd0 (HK.out.trans (by rw[if_neg (by rw[Hst.out];decide),if_neg (fun h=>hz0 h.2)]))
     have hzi:¬(0:Int) < (z.N.length:Int):=by omega
     go_wp2;go_ret;exact⟨by rw[HX.out];rfl,HSx.out.ext.trans hw5⟩
  ·have Hst:=hd0 hst
   have tm:(bits BinOp.and IntKind.i64 x.mode 512 != 0)=true:=by rw[and512 Hmo.out];simpa using h1
   have ta:(ca != 0)=true:=by simpa using h2
   have to_:(ca != x.own)=true:=by simpa using h3
   have tz:(ca != z.own)=false:=by simpa using h4
   clear h1 h2 h3 h4 hst
   go_wp2_with fail
   have q0:=ExtW.cell d0;have q1:=ExtW.cell d1;have q3:=ExtW.cell d3;have qz1:=ExtW.cell z1;have qz5:=ExtW.cell z5;have bl:=ExtW.lt d0;have r0:=ExtW.cell bc0;have r1:=ExtW.cell bc1;have br:=ExtW.lt bc0;have HSx:=hd0 S;clear d0 d1 d3 z1 z5 bc0 bc1 bc2 bc3 bf0 bf1 bf2 bf3 S
   (refine wp_region_quiet_ext (by kernel_rfl) (by kernel_rfl) ?_;(repeat (go_big_quiet_step ((fail))));refine wpQuiet_nil ?_;intro _ hw';obtain⟨sq,hw''⟩:=hw';subst hw'')
   obtain⟨w5,hw5⟩:=sq;have pz5:=qz5 ⟨w5,hw5⟩;clear q0 q1 q3 qz1 qz5 bl r0 r1 br
   cases full with
   | true =>
    have HX:=hd0 (HK.out.trans (by rw[if_neg (by rw[Hst.out];decide),if_neg (by simp)]));go_wp2;go_ret;exact⟨by rw[HX.out];rfl,HSx.out.ext.trans hw5⟩
   | false =>
    by_cases hz0:0 < z.N.length
    ·have HX:=hd0 (HK.out.trans (by rw[if_neg (by rw[Hst.out];decide),if_pos ⟨rfl,hz0⟩]))
     have hzi:(0:Int) < (z.N.length:Int):=by omega
     go_wp2;go_ret;exact⟨by rw[HX.out];rfl,HSx.out.ext.trans hw5⟩
    ·have HX:=hd0 (HK.out.trans (by rw[if_neg (by rw[Hst.out];decide),if_neg (fun h=>hz0 h.2)]))
     have hzi:¬(0:Int) < (z.N.length:Int):=by omega
     go_wp2;go_ret;exact⟨by rw[HX.out];rfl,HSx.out.ext.trans hw5⟩
  ·have Hst:=hd0 hst
   have tm:(bits BinOp.and IntKind.i64 x.mode 512 != 0)=true:=by rw[and512 Hmo.out];simpa using h1
   have ta:(ca != 0)=true:=by simpa using h2
   have to_:(ca != x.own)=true:=by simpa using h3
   have tz:(ca != z.own)=true:=by simpa using h4
   clear h1 h2 h3 h4 hst
   go_wp2_with fail
   have q0:=ExtW.cell d0;have q1:=ExtW.cell d1;have q3:=ExtW.cell d3;have qz1:=ExtW.cell z1;have qz5:=ExtW.cell z5;have bl:=ExtW.lt d0;have r0:=ExtW.cell bc0;have r1:=ExtW.cell bc1;have br:=ExtW.lt bc0;have HSx:=hd0 S;clear d0 d1 d3 z1 z5 bc0 bc1 bc2 bc3 bf0 bf1 bf2 bf3 S
   (refine wp_region_quiet_ext (by kernel_rfl) (by kernel_rfl) ?_;(repeat (go_big_quiet_step ((fail))));refine wpQuiet_nil ?_;intro _ hw';obtain⟨sq,hw''⟩:=hw';subst hw'')
   obtain⟨w5,hw5⟩:=sq;have pz5:=qz5 ⟨w5,hw5⟩;clear q0 q1 q3 qz1 qz5 bl r0 r1 br;have HX:=hd0 (HK.out.trans (by rw[if_pos Hst.out]));go_wp2;go_ret;exact⟨by rw[HX.out];rfl,HSx.out.ext.trans hw5⟩
theorem implMayDrop (a:Option Addr) (cap:Nat) (T:List Nd) (c:Cr) (s:ByteArray) (w:World) (hs:s.size≤1048576) (hl:T.length≤1048576) (hT:∀x∈T,SmN 1048576 x) (hc:RdN w a T) (hm:MaxG w) :
  Calls Tryz.prog 117 #[.slice a T.length cap,.agg #[.int .i64 c.r,.int .i64 c.a,.int .i64 c.s,.int .i64 c.g],.string s] w (RetI (mayDropF T c s false) w):=by
 obtain⟨cr,ca,cs,cg⟩:=c;have HT:=hd0 hT;have HM:=hd0 hm;clear hT hm;dsimp only
 go_enter Tryz.func117,Tryz.ntmps117
 have S:=Sep.start w;replace S:=S.alloc_at (n:=w.heap.size) (by simp) #[.int .i64 cr,.int .i64 ca,.int .i64 cs,.int .i64 cg] 29
 go_wp2_with fail
 generalize (w.alloc (.cells #[.int .i64 cr,.int .i64 ca,.int .i64 cs,.int .i64 cg] 29))=w1 at *;refine(implMayDropF a cap T ⟨cr,ca,cs,cg⟩ s false w1 hs hl HT.out (hc.ext S.ext) (HM.out.ext S.ext)).mono ?_;rintro e w2 ⟨rfl,hE⟩;replace S:=S.step hE;clear hE;go_wp2;go_ret;exact⟨rfl,S.ext⟩
theorem implDropName (a:Option Addr) (cap:Nat) (T:List Nd) (c:Cr) (s:ByteArray) (w:World) (hs:s.size≤1048576) (hl:T.length≤1048576) (hT:∀x∈T,SmN 1048576 x) (hc:RdN w a T) (hm:MaxG w) (hNB:NB 1000000 T) :
  Calls Tryz.prog 80 #[.slice a T.length cap,.agg #[.int .i64 c.r,.int .i64 c.a,.int .i64 c.s,.int .i64 c.g],.string s] w (RetMk (dropName T c s) w):=by
 obtain⟨cr,ca,cs,cg⟩:=c;have HT:=hd0 hT;have HM:=hd0 hm;have HNB:=hd0 hNB;clear hT hm hNB;dsimp only
 go_enter Tryz.func80,Tryz.ntmps80
 have S:=Sep.start w;replace S:=S.alloc_at (n:=w.heap.size) (by simp) #[.int .i64 cr,.int .i64 ca,.int .i64 cs,.int .i64 cg] 29
 go_wp2_with fail
 generalize (w.alloc (.cells #[.int .i64 cr,.int .i64 ca,.int .i64 cs,.int .i64 cg] 29))=w1 at *;refine(implMayDrop a cap T ⟨cr,ca,cs,cg⟩ s w1 hs hl HT.out (hc.ext S.ext) (HM.out.ext S.ext)).mono ?_;rintro e w2 ⟨rfl,hE⟩;replace S:=S.step hE;clear hE
 by_cases hmd:mayDropF T ⟨cr,ca,cs,cg⟩ s false=0
 rotate_left
 ·have HX:=hd0 (dn_bad hmd rfl)
  have tf:(mayDropF T ⟨cr,ca,cs,cg⟩ s false == 0)=false:=by simpa using hmd
  clear hmd;generalize mayDropF T ⟨cr,ca,cs,cg⟩ s false=f at *;go_wp2;go_ret2;exact RetMk.nil S.ext HX.out
 ·rcases md_cases T ⟨cr,ca,cs,cg⟩ s with⟨m,kid,x,z,hD,_,h7,_⟩|⟨f,hf,_,_,h⟩
  rotate_left
  ·exact absurd (h.symm.trans hmd) hf
  ·have h0:z.N.length=0:=by
    by_cases h0:z.N.length=0
    ·exact h0
    ·have:=(h7 (by omega)).symm.trans hmd;cases this
   have HX:=hd0 (dn_ok hD hmd);have HD:=hd0 (md_drop hD h0);have HF:=hd0 hD.fa;have hx:=hD.fa.hx;have hNl:=HNB.out x (List.mem_of_getElem? hx);rw[hmd];clear hmd hD h7 h0;obtain⟨⟨bc0,bf0⟩,⟨bc1,bf1⟩,⟨bc2,bf2⟩,⟨bc3,bf3⟩⟩:=bx4 (S.box 0 rfl)
   go_wp2_with fail
   clear bc0 bf0 bc1 bf1 bc2 bf2 bc3 bf3;refine(implFolderAbove a cap T ⟨cr,ca,cs,cg⟩ s w2 hs hl HT.out (hc.ext S.ext) (HM.out.ext S.ext)).mono ?_;rintro e w3 ⟨rfl,hE⟩;rw[HF.out.eq];dsimp only;replace S:=S.step hE;clear hE
   go_wp2_with fail
   refine(implCopy a cap T w3 hl HT.out (hc.ext S.ext)).mono ?_;rintro e w4 ⟨u,vs,rfl,S4⟩;replace S:Sep w w4 [plNd u vs T,plBox w.heap.size #[.int .i64 cr,.int .i64 ca,.int .i64 cs,.int .i64 cg] 29]:=S.call S4;clear S4;obtain⟨_,g,cap2,rfl,_,_⟩:=S.ndAt 0 rfl hx;have HS:=hd0 S;clear S
   go_wp2_with fail
   refine(implDropT HS.out 0 rfl HD.out HT.out hNl).mono ?_;rintro e w5 ⟨u',vs',rfl,S5⟩;have HS5:=hd0 (S5.drop 1);clear S5 HS;go_wp2;go_ret2;refine⟨u',vs',by rw[HX.out];rfl,?_⟩;rw[HX.out];exact HS5.out
theorem idx_pos {N:List ByteArray} (h:Asc N) {s:ByteArray} {k:Nat} (hk:N[k]?=some s):Lib.idxOfS N s=(posOf N s:Nat):=by
 rw[posOf_mem h hk];have hkl:=(List.getElem?_eq_some_iff.1 hk).1
 have h1:=Lib.idxOfS_hit N N.length k s hkl (Nat.le_refl _) (by rw[List.getD_eq_getElem?_getD,hk];rfl) (fun j hj e=>by
  have hjl:j < N.length:=by omega
  have h1:N[j]?=some s:=by
   rw[List.getD_eq_getElem?_getD,List.getElem?_eq_getElem hjl]at e;rw[List.getElem?_eq_getElem hjl];exact congrArg some e
  have:=asc_ne h h1 hk
  omega)
 rwa [List.take_length]at h1
theorem implMoveName (a:Option Addr) (cap:Nat) (T:List Nd) (c:Cr) (src dst:ByteArray) (w:World) (hs:src.size≤1048576) (hd:dst.size≤1048576) (hl:T.length≤1048576) (hT:∀x∈T,SmN 1048576 x) (hNB:NB 1000000 T) (hc:RdN w a T) (hm:MaxG w) :
  Calls Tryz.prog 85 #[.slice a T.length cap,.agg #[.int .i64 c.r,.int .i64 c.a,.int .i64 c.s,.int .i64 c.g],.string src,.string dst] w (RetMk (moveName T c src dst) w):=by
 obtain⟨cr,ca,cs,cg⟩:=c;have HT:=Lib.hid hT;have HM:=Lib.hid hm;have HNB:=Lib.hid hNB;clear hT hm hNB;dsimp only
 go_enter Tryz.func85,Tryz.ntmps85
 have S:=Sep.start w;replace S:=S.alloc_at (n:=w.heap.size) (by simp) #[.int .i64 cr,.int .i64 ca,.int .i64 cs,.int .i64 cg] 29
 go_wp2_with fail
 generalize (w.alloc (.cells #[.int .i64 cr,.int .i64 ca,.int .i64 cs,.int .i64 cg] 29))=w1 at *;refine(implMayDropF a cap T ⟨cr,ca,cs,cg⟩ src true w1 hs hl HT.out (hc.ext S.ext) (HM.out.ext S.ext)).mono ?_;rintro e w2 ⟨rfl,hE⟩;replace S:=S.step hE;clear hE
 rcases md_cases T ⟨cr,ca,cs,cg⟩ src with⟨m,kid,x,z,hD,hd0,_,_⟩|⟨f,hf,_,hd0,_⟩
 rotate_left
 ·have HX:=Lib.hid (mv_bad (dst:=dst) hf hd0);rw[hd0]
  have tf:(f == 0)=false:=by simpa using hf
  clear hf hd0;go_wp2;go_ret2;exact RetMk.nil S.ext HX.out
 have HD:=Lib.hid hD;have HD0:=Lib.hid hd0;have hxm:=hD.fa.hx;have hN:=hD.fa.tree.nodes m x hxm;obtain⟨hp,hps,hpk,hk1,hk2,hfo⟩:=kid_place hN (s:=lastOf src) (by rw[hD.kd];omega);rw[hD.kd]at hpk hk1 hk2;have hNl:=HNB.out x (List.mem_of_getElem? hxm);have HN:=Lib.hid hN;have HLen:=Lib.hid hN.len;have HA:=Lib.hid (node_asc hN);have hmax:=hD.fa.tree.max
 have hmT:(m:Int) < (T.length:Int):=by have:=(List.getElem?_eq_some_iff.1 hxm).1;omega
 have hkT:(kid:Int) < (T.length:Int):=by omega
 have Hxm:=Lib.hid hxm;have HPS:=Lib.hid hps;rw[hd0];clear hD hd0 hN hfo hpk hps hxm;obtain⟨⟨bc0,bf0⟩,⟨bc1,bf1⟩,⟨bc2,bf2⟩,⟨bc3,bf3⟩⟩:=bx4 (S.box 0 rfl)
 go_wp2_with fail
 clear bc0 bf0 bc1 bf1 bc2 bf2 bc3 bf3;refine(implFolderAbove a cap T ⟨cr,ca,cs,cg⟩ src w2 hs hl HT.out (hc.ext S.ext) (HM.out.ext S.ext)).mono ?_;rintro e w3 ⟨rfl,hE⟩;rw[HD.out.fa.eq];dsimp only;replace S:=S.step hE;clear hE;obtain⟨x',b',off,an,cn,ak,ck,hx,rfl,c0,c1,c2,c3,c4,c5,c6,hcn,hck,hrn,hrk⟩:=atNd (hc.ext S.ext) (show m < T.length by omega);obtain rfl:x=x':=Option.some.inj (Hxm.out.symm.trans hx);have HKd:=Lib.hid (implKid x T.length an ak cn ck (lastOf src) w3 HN.out (by omega) hrn hrk);rw[HD.out.kd]at HKd;obtain⟨z',b2,off2,_,_,_,_,hz,hzb,z0,_⟩:=atNd (hc.ext S.ext) (show kid < T.length by omega)
 obtain⟨rfl,rfl⟩:b'=b2∧off=off2:=by simpa using hzb
 obtain rfl:z=z':=Option.some.inj (HD.out.hz.symm.trans hz);clear hx hz hzb hcn hck hrn hrk
 go_wp2_with fail
 refine HKd.out.mono ?_;rintro e w4 ⟨rfl,hE⟩;clear c0 c1 c2 c3 c4 c5 c6 HKd;have z1:=cell_ext hE z0;clear z0;replace S:=S.step hE;clear hE;obtain⟨⟨bc0,bf0⟩,⟨bc1,bf1⟩,⟨bc2,bf2⟩,⟨bc3,bf3⟩⟩:=bx4 (S.box 0 rfl)
 go_wp2_with fail
 clear bc0 bf0 bc1 bf1 bc2 bf2 bc3 bf3;refine(implPlaceFor _ cap T ⟨cr,ca,cs,cg⟩ dst w4 hd hl HT.out (hc.ext S.ext) (HM.out.ext S.ext)).mono ?_;rintro e w5 ⟨rfl,hE⟩;replace z1:=cell_ext hE z1;replace S:=S.step hE;clear hE
 rcases fa_cases T ⟨cr,ca,cs,cg⟩ dst with⟨n,y0,hG⟩|⟨f,hf,hF⟩
 rotate_left
 ·have hp0:=pf_bad hf hF;have HX:=Lib.hid (mv_place HD0.out hf hp0);rw[hp0]
  have tf:(f == 0)=false:=by simpa using hf
  clear hf hF hp0;dsimp only;go_wp2;go_ret2;exact RetMk.nil S.ext HX.out
 by_cases hth:0≤kidOf y0.N y0.K (lastOf dst)
 ·have hp0:=(pf_good hG).trans (if_pos hth);have HX:=Lib.hid (mv_place HD0.out (by decide) hp0);rw[hp0];clear hG hth hp0;dsimp only;go_wp2;go_ret2;exact RetMk.nil S.ext HX.out
 have hp0:=(pf_good hG).trans (if_neg hth);have hnT:=(List.getElem?_eq_some_iff.1 hG.hx).1;have hnd:lastOf dst∉y0.N:=kidOf_none _ _ _ (hG.tree.nodes n y0 hG.hx).len (fun v hv=>by have:=inB_iff.1 (nodeOk_kid (hG.tree.nodes n y0 hG.hx) hv);omega) (by omega);have HG:=Lib.hid hG;have HND:=Lib.hid hnd
 have hnTi:(n:Int) < (T.length:Int):=by omega
 rw[hp0];have HP0:=Lib.hid hp0;clear hG hth hp0 hnd;dsimp only
 by_cases hbad:z.fold=true∧m≠n
 ·have HX:=Lib.hid (mv_kind HD0.out HD.out HP0.out hbad.1 hbad.2);rw[hbad.1]at z1
  have tn:((n:Int) == (m:Int))=false:=by have:=hbad.2;simp;omega
  clear hbad;go_wp2;go_ret2;exact RetMk.nil S.ext HX.out
 ·have hgood:z.fold=false∨m=n:=by
   cases hzf:z.fold with
   | false=>exact .inl rfl
   | true=>exact .inr (Classical.byContradiction (fun h=>hbad ⟨hzf,h⟩))
  have HGd:=Lib.hid hgood
  -- the node to put the name into
  obtain⟨y,hy⟩:∃y,(T.set m (takeNd x (lastOf src)))[n]?=some y:=⟨_,List.getElem?_eq_getElem (by rw[List.length_set];exact hnT)⟩
  have hyN:NodeOk y T.length∧y.N.length≤1000000:=by
   rcases take_get Hxm.out _ hy with⟨e,rfl⟩|⟨_,e⟩
   ·refine⟨takeNd_ok HN.out (kid_place HN.out (s:=lastOf src) (by rw[HD.out.kd];omega)).2.2.2.2.2,?_⟩;have:(x.N.eraseIdx (posOf x.N (lastOf src))).length≤x.N.length:=(List.eraseIdx_sublist ..).length_le
    show(x.N.eraseIdx (posOf x.N (lastOf src))).length≤_
    omega
   ·exact⟨HD.out.fa.tree.nodes n y e,HNB.out y (List.mem_of_getElem? e)⟩
  have HX:=Lib.hid (mv_ok HD0.out HD.out HP0.out hgood hy);have Hy:=Lib.hid hy;have HyN:=Lib.hid hyN
  have hzn:(z.fold=false)∨(z.fold=true∧m=n):=by
   rcases hgood with h|h
   ·exact .inl h
   ·cases hzf:z.fold with
    | false=>exact .inl rfl
    | true=>exact .inr ⟨rfl,h⟩
  clear hbad hgood hy hyN;have HAb:=Lib.hid (fun w' (hE:Ext w5 w')=>implAboveOf dst w' hd (HM.out.ext (S.ext.trans hE)));have HCp:=Lib.hid (fun w' (hE:Ext w w')=>implCopy (some ⟨b',off,none⟩) cap T w' hl HT.out (hc.ext hE))
  have key:∀(zb:Bool),z.fold=zb→(zb=true→(n:Int)=(m:Int))→True:=fun _ _ _=>trivial
  clear key
  rcases hzn with hzf|⟨hzf,hmn⟩
  ·rw[hzf]at z1;clear hzf
   go_wp2_with fail
   refine(HAb.out w5 (Ext.refl _)).mono ?_;rintro e w6 ⟨rfl,hE⟩;replace S:=S.step hE;clear hE;clear z1
   go_wp2_with fail
   refine(HCp.out w6 S.ext).mono ?_;rintro e w7 ⟨u,vs,rfl,S7⟩;replace S:Sep w w7 [plNd u vs T,plBox w.heap.size #[.int .i64 cr,.int .i64 ca,.int .i64 cs,.int .i64 cg] 29]:=S.call S7;clear S7;have hxm:=Hxm.out;obtain⟨c,g,cap2,rfl,hcap2,hck,hcn,hcell,hfz,_,_,_,_,hrN,hrK⟩:=S.ndAt 0 rfl hxm;obtain⟨pN,pK,_,_⟩:=S.nd_pin' 0 rfl hck hxm;obtain⟨x',an2,cn2,ak2,ck2⟩:=c;dsimp only at hcn pN pK hrN hrK;subst hcn;obtain⟨gn,rfl⟩:=row_blk encStr1_len pN (by omega);obtain⟨gk,rfl⟩:=row_blk encInt1_len pK (by have:=HLen.out;omega);obtain⟨x,hxx⟩:∃z,z=x':=⟨_,rfl⟩;subst hxx;have d5:w7.cell? ⟨g,m*7+5,none⟩=some (.slice (some ⟨gn,0,none⟩) x.N.length cn2):=hcell 5 _ rfl;have d6:w7.cell? ⟨g,m*7+6,none⟩=some (.slice (some ⟨gk,0,none⟩) x.K.length ck2):=hcell 6 _ rfl
   have HIx:Hid (Calls Tryz.prog 125 #[.slice (some ⟨gn,0,none⟩) x.N.length cn2,.string (lastOf src)] w7 fun e w'=>e=.returned (.int .i64 (posOf x.N (lastOf src):Nat))∧w'=w7):=Lib.hid (by
    have h:=index_raw gn 0 x.N.length cn2 x.N (lastOf src) w7 (Nat.le_refl _) (by omega) (fun j hj=>by
     obtain⟨v,b9,o9,hv,hb9,hc9⟩:=atStr hrN hj
     obtain⟨rfl,rfl⟩:gn=b9∧0=o9:=by simpa using hb9
     rw[hc9,List.getD_eq_getElem?_getD,hv];rfl)
    rw[List.take_length,idx_pos HA.out HPS.out]at h
    exact h)
   have hpw:IntKind.i64.wrap (((posOf x.N (lastOf src):Nat):Int)+1)=((posOf x.N (lastOf src):Nat):Int)+1:=IntWalk.i64_in _ (by omega);clear hcell hfz hrN hrK pN pK
   go_wp2_with fail
   refine HIx.out.mono ?_;rintro e w8 ⟨rfl,rfl⟩;clear HIx;obtain⟨p,hpp⟩:∃p,p=posOf x.N (lastOf src):=⟨_,rfl⟩;rw[←hpp]at hp hpw ⊢;have Hpp:=Lib.hid hpp;clear hpp
   go_upto_region 14 with fail
   have e5:(World.drew w8).cell? ⟨g,m*7+5,none⟩=some (.slice (some ⟨gn,0,none⟩) x.N.length cn2):=cell_ext (Ext.refl w8).drew d5;have e6:(World.drew w8).cell? ⟨g,m*7+6,none⟩=some (.slice (some ⟨gk,0,none⟩) x.K.length ck2):=cell_ext (Ext.refl w8).drew d6;clear d5 d6;have hkidT:=hkT;clear hkT;have hkT:=hmT;obtain⟨H,hH⟩:∃H,H=[plNd (.slice (some ⟨g,0,none⟩) T.length cap2) vs T,plBox w.heap.size #[.int .i64 cr,.int .i64 ca,.int .i64 cs,.int .i64 cg] 29]:=⟨_,rfl⟩
   have hiH:H[0]?=some (plNd (.slice (some ⟨g,0,none⟩) T.length cap2) vs T):=by rw[hH];rfl
   rw[←hH]at S;have HH:=Lib.hid hH;clear hH;have Sd:Sep w (World.drew w8) H:=S.drew;refine wp_region_d (V:=VTk w H g T.length cap2 vs m x gn cn2 gk ck2 p) (fun i=>if i=21 then[12]else if i=24 then[21]else[]) (fun _ wv=>Chg (fun b=>b=g∨pinNd.own (⟨x,some ⟨gn,0,none⟩,cn2,some ⟨gk,0,none⟩,ck2⟩:Nc) b) (World.drew w8) wv) (fun i=>if i=25 then some 12 else if i=26 then some 8 else if i=12 then some 21 else if i=21 then some 24 else none) [(21,12),(24,12),(24,21),(24,8)] 25 3 rfl (by decide) (by kernel_rfl) (by kernel_rfl) (by kernel_rfl) (by kernel_rfl) (by kernel_rfl) (Chg.refl _ _) (fun r hr=>match r,hr with|0,_=>Sd|1,_=>e5|2,_=>e6) ?_ ?_
   ·intro i2 o hi ho k2 hk2 vz w4 hvl hI hd hrest
    match vz,hvl with
    | [y0,y1,y2,y3,y4,y5,y6,y7,y8,y9,y10,y11,y12,y13,y14,y15,y16,y17,y18,y19,y20,y21,y22,y23,y24],_ =>
    rcases(show i2=0∨i2=1∨i2=2∨i2=3∨i2=4∨i2=5∨i2=6∨i2=7∨i2=8∨i2=9∨i2=10∨i2=11∨i2=12∨i2=13∨i2=14∨i2=15∨i2=16∨i2=17∨i2=18∨i2=19∨i2=20∨i2=21∨i2=22∨i2=23∨i2=24 by omega)with rfl|rfl|rfl|rfl|rfl|rfl|rfl|rfl|rfl|rfl|rfl|rfl|rfl|rfl|rfl|rfl|rfl|rfl|rfl|rfl|rfl|rfl|rfl|rfl|rfl
    all_goals
     obtain rfl:=Option.some.inj ho
    ·clear hd hrest;simp[putAll,Act.put];go_wp2;exact OneD.mk (VTk.ext) rfl rfl hI (Ext.refl _)
    ·clear hd hrest;simp[putAll,Act.put];go_wp2;exact OneD.mk (VTk.ext) rfl rfl hI (Ext.refl _)
    ·clear hd hrest;simp[putAll,Act.put];go_wp2;exact OneD.mk (VTk.ext) rfl rfl hI (Ext.refl _)
    ·clear hd hrest;simp[putAll,Act.put];go_wp2;exact OneD.mk (VTk.ext) rfl rfl hI (Ext.refl _)
    ·clear hd hrest;simp[putAll,Act.put];go_wp2;exact OneD.mk (VTk.ext) rfl rfl hI (Ext.refl _)
    ·clear hd hrest;simp[putAll,Act.put];go_wp2;exact OneD.mk (VTk.ext) rfl rfl hI (Ext.refl _)
    ·have q4:y4=.slice (some ⟨g,0,none⟩) T.length cap2:=hd ⟨4,.data⟩ (by simp) rfl (.inl rfl);have q5:y5=.int .i64 (m:Nat):=hd ⟨5,.data⟩ (by simp) rfl (.inl rfl);subst q4 q5;clear hd hrest;simp[putAll,Act.put];go_wp2;exact OneD.mk (VTk.ext) rfl rfl hI (Ext.refl _)
    ·have q6:y6=.pointer (some ⟨g,m*7,none⟩):=hd ⟨6,.data⟩ (by simp) rfl (.inl rfl);subst q6;clear hd hrest;simp[putAll,Act.put];go_wp2;exact OneD.mk (VTk.ext) rfl rfl hI (Ext.refl _)
    ·have q7:y7=.pointer (some ⟨g,m*7+5,none⟩):=hd ⟨7,.data⟩ (by simp) rfl (.inl rfl);have c5:w4.cell? ⟨g,m*7+5,none⟩=some (.slice (some ⟨gn,0,none⟩) x.N.length cn2):=hrest 1 (by omega) (.inr rfl);subst q7;clear hd hrest;simp[putAll,Act.put];go_wp2;exact OneD.mk (VTk.ext) rfl rfl hI (Ext.refl _)
    ·clear hd hrest;simp[putAll,Act.put];go_wp2;exact OneD.mk (VTk.ext) rfl rfl hI (Ext.refl _)
    ·clear hd hrest;simp[putAll,Act.put];go_wp2;exact OneD.mk (VTk.ext) rfl rfl hI (Ext.refl _)
    ·have q10:y10=.int .i64 (p:Nat):=hd ⟨10,.data⟩ (by simp) rfl (.inl rfl);subst q10;clear hd hrest;simp[putAll,Act.put];go_wp2;exact OneD.mk (VTk.ext) rfl rfl hI (Ext.refl _)
    ·have q8:y8=.slice (some ⟨gn,0,none⟩) x.N.length cn2:=hd ⟨8,.data⟩ (by simp) rfl (.inl rfl);have q9:y9=.int .i64 (p:Nat):=hd ⟨9,.data⟩ (by simp) rfl (.inl rfl);have q11:y11=.int .i64 ((p:Int)+1):=hd ⟨11,.data⟩ (by simp) rfl (.inl rfl);have S4:Sep w w4 H:=hrest 0 (by omega) (.inr rfl);obtain⟨pN,pK,pO,pA⟩:=S4.nd_pin' 0 hiH hck hxm
     have HC:Hid (Calls Tryz.prog 126 #[.slice (some ⟨gn,0,none⟩) x.N.length cn2,.int .i64 (p:Nat),.int .i64 ((p:Int)+1)] w4 fun e w'=>e=.returned (.slice (some ⟨gn,0,none⟩) (eraNd x p).N.length cn2)∧w'.ownsRow 0 9 1 (.slice (some ⟨gn,0,none⟩) (eraNd x p).N.length cn2) (eraNd x p).N.length ((eraNd x p).N.flatMap encStr1)∧w4.grownBy w' (some gn)):=Lib.hid (by
      have h:=delStr_any 0 gn cn2 p (p+1) x.N w4 (by omega) (by omega) pN
      have e1:x.N.length - (p+1 - p)=(eraNd x p).N.length:=by show _=(x.N.eraseIdx p).length;rw[List.length_eraseIdx_of_lt hp];omega
      rw[e1,era_take]at h
      exact h)
     have hgn:gn≠g:=(pO gn (.inl rfl)).1;have HS4:=Lib.hid S4;subst q8 q9 q11;clear hd hrest pN pK pO pA S4;simp[putAll,Act.put]
     go_wp2_with fail
     refine HC.out.mono ?_;rintro e w5 ⟨rfl,ho5,hg5⟩;have hch:Chg (fun b=>b=gn) w4 w5:=(Chg.of_row hg5).mono (fun b hb _=>(Option.some.inj hb).symm);clear HC hg5;go_wp2;refine⟨rfl,_,rfl,⟨rfl,w4,HS4.out,hch,ho5⟩,hI.trans (hch.mono (fun b hb _=>.inr (.inl (by rw[hb];rfl)))),fun j u us hj hne hcon hnd hnc hv=>?_⟩
     match j with
     | 0|1|2|3|4|5|6|7|8|9|10|11|13|14|15|16|17|18|19|20|22|23=>exact hv
     | 12=>exact absurd rfl hne
     | 21=>exact absurd (by decide) hnd
     | 24=>exact absurd (by decide) hnd
     | 25=>exact absurd rfl hcon
     | 26=>exact cell_chg (show w4.cell? _=_ from hv) hch (fun e=>hgn e.symm)
     | 27=>exact cell_chg (show w4.cell? _=_ from hv) hch (fun e=>hgn e.symm)
     | (zz+28)=>trivial
    ·clear hd hrest;simp[putAll,Act.put];go_wp2;exact OneD.mk (VTk.ext) rfl rfl hI (Ext.refl _)
    ·clear hd hrest;simp[putAll,Act.put];go_wp2;exact OneD.mk (VTk.ext) rfl rfl hI (Ext.refl _)
    ·have q13:y13=.slice (some ⟨g,0,none⟩) T.length cap2:=hd ⟨13,.data⟩ (by simp) rfl (.inl rfl);have q14:y14=.int .i64 (m:Nat):=hd ⟨14,.data⟩ (by simp) rfl (.inl rfl);subst q13 q14;clear hd hrest;simp[putAll,Act.put];go_wp2;exact OneD.mk (VTk.ext) rfl rfl hI (Ext.refl _)
    ·have q15:y15=.pointer (some ⟨g,m*7,none⟩):=hd ⟨15,.data⟩ (by simp) rfl (.inl rfl);subst q15;clear hd hrest;simp[putAll,Act.put];go_wp2;exact OneD.mk (VTk.ext) rfl rfl hI (Ext.refl _)
    ·have q16:y16=.pointer (some ⟨g,m*7+6,none⟩):=hd ⟨16,.data⟩ (by simp) rfl (.inl rfl);have c6:w4.cell? ⟨g,m*7+6,none⟩=some (.slice (some ⟨gk,0,none⟩) x.K.length ck2):=hrest 2 (by omega) (.inl rfl);subst q16;clear hd hrest;simp[putAll,Act.put];go_wp2;exact OneD.mk (VTk.ext) rfl rfl hI (Ext.refl _)
    ·clear hd hrest;simp[putAll,Act.put];go_wp2;exact OneD.mk (VTk.ext) rfl rfl hI (Ext.refl _)
    ·clear hd hrest;simp[putAll,Act.put];go_wp2;exact OneD.mk (VTk.ext) rfl rfl hI (Ext.refl _)
    ·have q19:y19=.int .i64 (p:Nat):=hd ⟨19,.data⟩ (by simp) rfl (.inl rfl);subst q19;clear hd hrest;simp[putAll,Act.put];go_wp2;exact OneD.mk (VTk.ext) rfl rfl hI (Ext.refl _)
    ·have q17:y17=.slice (some ⟨gk,0,none⟩) x.K.length ck2:=hd ⟨17,.data⟩ (by simp) rfl (.inl rfl);have q18:y18=.int .i64 (p:Nat):=hd ⟨18,.data⟩ (by simp) rfl (.inl rfl);have q20:y20=.int .i64 ((p:Int)+1):=hd ⟨20,.data⟩ (by simp) rfl (.inl rfl);obtain⟨q12,w9,S9,hC9,ho9⟩:y12=.slice (some ⟨gn,0,none⟩) (eraNd x p).N.length cn2∧∃w5,Sep w w5 H∧Chg (fun b=>b=gn) w5 w4∧w4.ownsRow 0 9 1 y12 (eraNd x p).N.length ((eraNd x p).N.flatMap encStr1):=hd ⟨12,.chain⟩ (by simp) rfl (.inr rfl);obtain⟨pN,pK,pO,pA⟩:=S9.nd_pin' 0 hiH hck hxm;have hgn:gn≠g:=(pO gn (.inl rfl)).1;have hgk:gk≠g:=(pO gk (.inr rfl)).1
     have hnk:gn≠gk:=fun e=>pA gn rfl (by rw[e];rfl)
     have hg9:g < w9.heap.size:=(S9.lt (List.mem_of_getElem? hiH) (show(plNd (.slice (some ⟨g,0,none⟩) T.length cap2) vs T).own g from .inl rfl)).2;have hk9:gk < w9.heap.size:=(pO gk (.inr rfl)).2.2;have hn4:gn < w4.heap.size:=Nat.lt_of_lt_of_le (pO gn (.inl rfl)).2.2 hC9.size
     have pK4:w4.ownsRow 0 3 1 (.slice (some ⟨gk,0,none⟩) x.K.length ck2) x.K.length (x.K.flatMap encInt1):=(plRow 3 1 encInt1 (.slice (some ⟨gk,0,none⟩) x.K.length ck2) x.K).frame w9 w4 pK (fun b hb=>by
      have hb':gk=b:=Option.some.inj hb;subst hb'
      exact hC9.block gk hk9 (fun e=>hnk e.symm))
     have hvT:vs.length=T.length:=plG_len (S9.at_ 0 hiH)
     have pR4:w4.ownsRow 0 89 7 (.slice (some ⟨g,0,none⟩) T.length cap2) T.length (vs.flatMap encNc):=by
      have h:=(plRow 89 7 encNc (.slice (some ⟨g,0,none⟩) T.length cap2) vs).frame w9 w4 (S9.at_ 0 hiH).1 (fun b hb=>by
       have hb':g=b:=Option.some.inj hb;subst hb'
       exact hC9.block g hg9 (fun e=>hgn e.symm))
      have h':w4.ownsRow 0 89 7 (.slice (some ⟨g,0,none⟩) T.length cap2) vs.length (vs.flatMap encNc):=h;rw[hvT]at h';exact h'
     have HC:Hid (Calls Tryz.prog 127 #[.slice (some ⟨gk,0,none⟩) x.K.length ck2,.int .i64 (p:Nat),.int .i64 ((p:Int)+1)] w4 fun e w'=>e=.returned (.slice (some ⟨gk,0,none⟩) (eraNd x p).K.length ck2)∧w'.ownsRow 0 3 1 (.slice (some ⟨gk,0,none⟩) (eraNd x p).K.length ck2) (eraNd x p).K.length ((eraNd x p).K.flatMap encInt1)∧w4.grownBy w' (some gk)):=Lib.hid (by
      have hpK:p < x.K.length:=by rw[←HLen.out];exact hp
      have h:=delInt_any 0 gk ck2 p (p+1) x.K w4 (by omega) (by omega) pK4
      have e1:x.K.length - (p+1 - p)=(eraNd x p).K.length:=by show _=(x.K.eraseIdx p).length;rw[List.length_eraseIdx_of_lt hpK];omega
      rw[e1,era_take]at h
      exact h)
     have HB:=Lib.hid (And.intro S9 (And.intro hC9 ho9));have HV:=Lib.hid (And.intro hvT pR4);have HH:=Lib.hid (And.intro hgn (And.intro hgk (And.intro hnk (And.intro hn4 hg9))));subst q17 q18 q20 q12;clear hd hrest pN pK pO pA S9 hC9 ho9 pK4 pR4 hvT hgn hgk hnk hn4 hg9 hk9;simp[putAll,Act.put]
     go_wp2_with fail
     refine HC.out.mono ?_;rintro e w5 ⟨rfl,ho5,hg5⟩;have hch:Chg (fun b=>b=gk) w4 w5:=(Chg.of_row hg5).mono (fun b hb _=>(Option.some.inj hb).symm);clear HC hg5;obtain⟨S9,hC9,ho9⟩:=HB.out;obtain⟨hgn,hgk,hnk,hn4,hg9⟩:=HH.out
     have hAd:AdOk w H g (⟨x,some ⟨gn,0,none⟩,cn2,some ⟨gk,0,none⟩,ck2⟩:Nc) (eraNd x p).N (eraNd x p).K (.slice (some ⟨gn,0,none⟩) (eraNd x p).N.length cn2) (.slice (some ⟨gk,0,none⟩) (eraNd x p).K.length ck2) w5:=by
      refine⟨⟨w9,S9,(hC9.mono (fun b hb _=>.inr (.inl (by rw[hb];rfl)))).trans (hch.mono (fun b hb _=>.inr (.inr (by rw[hb];rfl)))),fun b hb=>.inl hb,fun b hb=>.inl hb⟩,⟨_,_,rfl⟩,⟨_,_,rfl⟩,?_,ho5,⟨fun b hb e=>?_,fun b hb e=>?_⟩,fun b hb hk=>?_⟩
      ·exact(plRow 9 1 encStr1 (.slice (some ⟨gn,0,none⟩) (eraNd x p).N.length cn2) (eraNd x p).N).frame w4 w5 ho9 (fun b hb=>by
        have hb':gn=b:=Option.some.inj hb;subst hb'
        exact hch.block gn hn4 hnk)
      ·exact hgn ((Option.some.inj hb:gn=b).trans e)
      ·exact hgk ((Option.some.inj hb:gk=b).trans e)
      ·exact hnk ((Option.some.inj hb:gn=b).trans (Option.some.inj hk:gk=b).symm)
     have hRow:w5.ownsRow 0 89 7 (.slice (some ⟨g,0,none⟩) T.length cap2) T.length (vs.flatMap encNc):=by
      have h':(plRow 89 7 encNc (.slice (some ⟨g,0,none⟩) T.length cap2) vs).ok w4:=by
       show World.ownsRow _ _ _ _ _ vs.length _
       rw[HV.out.1];exact HV.out.2
      have h:=(plRow 89 7 encNc (.slice (some ⟨g,0,none⟩) T.length cap2) vs).frame w4 w5 h' (fun b hb=>by
       have hb':g=b:=Option.some.inj hb;subst hb'
       exact hch.block g (Nat.lt_of_lt_of_le hg9 hC9.size) (fun e=>hgk e.symm))
      have h2:w5.ownsRow 0 89 7 (.slice (some ⟨g,0,none⟩) T.length cap2) vs.length (vs.flatMap encNc):=h;rw[HV.out.1]at h2;exact h2
     have HF:=Lib.hid (And.intro hAd hRow);clear S9 hC9 ho9 HB hAd hRow ho5 hgn hnk hn4 hg9;go_wp2;refine⟨rfl,_,rfl,⟨rfl,rfl,HF.out.1,HF.out.2⟩,hI.trans (hch.mono (fun b hb _=>.inr (.inr (by rw[hb];rfl)))),fun j u us hj hne hcon hnd hnc hv=>?_⟩
     match j with
     | 0|1|2|3|4|5|6|7|8|9|10|11|13|14|15|16|17|18|19|20|22|23=>exact hv
     | 12=>exact absurd rfl hcon
     | 21=>exact absurd rfl hne
     | 24=>exact absurd (by decide) hnd
     | 25=>exact absurd (by decide) (hnc 12 rfl)
     | 26=>exact cell_chg (show w4.cell? _=_ from hv) hch (fun e=>hgk e.symm)
     | 27=>exact cell_chg (show w4.cell? _=_ from hv) hch (fun e=>hgk e.symm)
     | (zz+28)=>trivial
    ·have q0:y0=.slice (some ⟨g,0,none⟩) T.length cap2:=hd ⟨0,.data⟩ (by simp) rfl (.inl rfl);have q1:y1=.int .i64 (m:Nat):=hd ⟨1,.data⟩ (by simp) rfl (.inl rfl);subst q0 q1;clear hd hrest;simp[putAll,Act.put];go_wp2;exact OneD.mk (VTk.ext) rfl rfl hI (Ext.refl _)
    ·have q22:y22=.pointer (some ⟨g,m*7,none⟩):=hd ⟨22,.data⟩ (by simp) rfl (.inl rfl);subst q22;clear hd hrest;simp[putAll,Act.put];go_wp2;exact OneD.mk (VTk.ext) rfl rfl hI (Ext.refl _)
    ·have q23:y23=.pointer (some ⟨g,m*7+5,none⟩):=hd ⟨23,.data⟩ (by simp) rfl (.inl rfl);obtain⟨q21,q12,hAd,hRow⟩:y21=.slice (some ⟨gk,0,none⟩) (eraNd x p).K.length ck2∧y12=.slice (some ⟨gn,0,none⟩) (eraNd x p).N.length cn2∧AdOk w H g (⟨x,some ⟨gn,0,none⟩,cn2,some ⟨gk,0,none⟩,ck2⟩:Nc) (eraNd x p).N (eraNd x p).K (.slice (some ⟨gn,0,none⟩) (eraNd x p).N.length cn2) y21 w4∧w4.ownsRow 0 89 7 (.slice (some ⟨g,0,none⟩) T.length cap2) T.length (vs.flatMap encNc):=hd ⟨21,.chain⟩ (by simp) rfl (.inr rfl);have hkl:=(List.getElem?_eq_some_iff.1 hck).1
     have hkT2:m < T.length:=by omega
     obtain⟨p5,f5⟩:=owns_there hRow (m*7+5) (by omega);rw[q21]at hAd;have hAd2:=Lib.hid (hAd.store (m*7+5) (.slice (some ⟨gn,0,none⟩) (eraNd x p).N.length cn2));have hck2:vs[m]=(⟨x,some ⟨gn,0,none⟩,cn2,some ⟨gk,0,none⟩,ck2⟩:Nc):=(List.getElem?_eq_some_iff.1 hck).2;have hR2:=Lib.hid (owns_set encNc_len hRow m 5 (.slice (some ⟨gn,0,none⟩) (eraNd x p).N.length cn2) (⟨⟨x.fold,x.own,x.grp,x.mode,x.text,(eraNd x p).N,x.K⟩,some ⟨gn,0,none⟩,cn2,some ⟨gk,0,none⟩,ck2⟩:Nc) hkl (by omega) (by rw[hck2];rfl));have hch:=Chg.setCell w4 g (m*7+5) (.slice (some ⟨gn,0,none⟩) (eraNd x p).N.length cn2);have HQ:=Lib.hid hch;obtain⟨pv,hpv⟩:=Option.isSome_iff_exists.1 p5;subst q23 q12 q21;clear hd hrest hAd hRow p5 hch;simp[putAll,Act.put];go_wp2;refine⟨rfl,undef,rfl,⟨rfl,hAd2.out,hR2.out⟩,hI.trans (HQ.out.mono (fun b hb _=>.inl hb)),fun j u us hj hne hcon hnd hnc hv=>?_⟩
     match j with
     | 0|1|2|3|4|5|6|7|8|9|10|11|13|14|15|16|17|18|19|20|22|23=>exact hv
     | 12=>exact absurd (by decide) (hnc 21 rfl)
     | 21=>exact absurd rfl hcon
     | 24=>exact absurd rfl hne
     | 25=>exact absurd (by decide) (hnc 12 rfl)
     | 26=>exact absurd (by decide) (hnc 8 rfl)
     | 27 =>
      show(w4.setCell ⟨g,m*7+5,none⟩ (.slice (some ⟨gn,0,none⟩) (eraNd x p).N.length cn2)).cell? ⟨g,m*7+6,none⟩=_
      rw[World.cell?_setCell_other w4 _ _ _ (by intro h;simp at h)];exact hv
     | (zz+28)=>trivial
   ·intro vz wE hvl hI hV hVr
    match vz,hvl with
    | [y0,y1,y2,y3,y4,y5,y6,y7,y8,y9,y10,y11,y12,y13,y14,y15,y16,y17,y18,y19,y20,y21,y22,y23,y24],_ =>
    have q2:y2=.slice (some ⟨g,0,none⟩) T.length cap2:=hV 2 (by omega) rfl;have q3:y3=.int .i64 (m:Nat):=hV 3 (by omega) rfl;obtain⟨q21,hAd,hRow⟩:y21=.slice (some ⟨gk,0,none⟩) (eraNd x p).K.length ck2∧AdOk w H g (⟨x,some ⟨gn,0,none⟩,cn2,some ⟨gk,0,none⟩,ck2⟩:Nc) (eraNd x p).N (eraNd x p).K (.slice (some ⟨gn,0,none⟩) (eraNd x p).N.length cn2) (.slice (some ⟨gk,0,none⟩) (eraNd x p).K.length ck2) wE∧wE.ownsRow 0 89 7 (.slice (some ⟨g,0,none⟩) T.length cap2) T.length ((vs.set m (⟨⟨x.fold,x.own,x.grp,x.mode,x.text,(eraNd x p).N,x.K⟩,some ⟨gn,0,none⟩,cn2,some ⟨gk,0,none⟩,ck2⟩:Nc)).flatMap encNc):=hV 24 (by omega) rfl;subst q2 q3 q21;have hkl:=(List.getElem?_eq_some_iff.1 hck).1;have hvT:vs.length=T.length:=plG_len (Sd.at_ 0 hiH);obtain⟨p6,f6⟩:=owns_there hRow (m*7+6) (by omega);obtain⟨pv,hpv⟩:=Option.isSome_iff_exists.1 p6;have hR2:=owns_set encNc_len hRow m 6 (.slice (some ⟨gk,0,none⟩) (eraNd x p).K.length ck2) (⟨eraNd x p,some ⟨gn,0,none⟩,cn2,some ⟨gk,0,none⟩,ck2⟩:Nc) (by rw[List.length_set];exact hkl) (by omega) (by rw[List.getElem_set_self];rfl);rw[List.set_set]at hR2;have hAd2:=hAd.store (m*7+6) (.slice (some ⟨gk,0,none⟩) (eraNd x p).K.length ck2);obtain⟨w5,S5,hC5,hn5,hk5⟩:=hAd2.ex;have hFin:Hid (Sep w (wE.setCell ⟨g,m*7+6,none⟩ (.slice (some ⟨gk,0,none⟩) (eraNd x p).K.length ck2)) (H.set 0 (plNd (.slice (some ⟨g,0,none⟩) T.length cap2) (vs.set m (⟨eraNd x p,some ⟨gn,0,none⟩,cn2,some ⟨gk,0,none⟩,ck2⟩:Nc)) (T.set m (eraNd x p))))):=Lib.hid (S5.ndPut 0 hiH hck (c':=(⟨eraNd x p,some ⟨gn,0,none⟩,cn2,some ⟨gk,0,none⟩,ck2⟩:Nc)) (x':=eraNd x p) (hC5.mono (fun b hb _=>.inr hb)) (by rw[hvT];exact hR2) ⟨rfl,hAd2.r9,hAd2.r17,fun b hb=>hAd2.apart b hb⟩ (fun b hb=>.inl hb));clear hV hVr hI hAd hAd2 hRow hR2 S5 hC5 hn5 hk5 p6 Sd e5 e6;simp only[putAll,Act.put,List.take_succ_cons,List.take_zero,List.drop_succ_cons,List.drop_zero];simp
    go_upto_region 15 with fail
    clear hpv f6;generalize (wE.setCell ⟨g,m*7+6,none⟩ (.slice (some ⟨gk,0,none⟩) (eraNd x p).K.length ck2))=w9 at *;obtain⟨T1,hT1⟩:∃T1,T1=T.set m (eraNd x p):=⟨_,rfl⟩;obtain⟨v1,hv1⟩:∃v1,v1=vs.set m (⟨eraNd x p,some ⟨gn,0,none⟩,cn2,some ⟨gk,0,none⟩,ck2⟩:Nc):=⟨_,rfl⟩;have hFi:=hFin.out;rw[←hv1,←hT1,HH.out]at hFi
    have hy1:T1[n]?=some y:=by rw[hT1,Hpp.out];exact Hy.out
    have hl1:T.length=T1.length:=by rw[hT1,List.length_set]
    have HT1:=Lib.hid hT1;have Hy1:=Lib.hid hy1;have hyl:=HyN.out.2;clear hFin hv1 hT1 hy1 hiH hck hxm hp hpw;have hFi2:Sep w w9 [plNd (.slice (some ⟨g,0,none⟩) T.length cap2) v1 T1,plBox w.heap.size #[.int .i64 cr,.int .i64 ca,.int .i64 cs,.int .i64 cg] 29]:=hFi;have HFi:=Lib.hid hFi2;have HL1:=Lib.hid hl1;clear hFi hFi2 hl1
    go_wp2_with fail
    refine(implAddName HFi.out 0 rfl Hy1.out T.length HyN.out.1 hyl (lastOf dst) (kid:Int)).mono ?_;rintro e wA ⟨rfl,vs6,S6⟩;have HS6:=Lib.hid (S6.drop 1);clear S6 HFi;go_wp2;go_ret2;refine⟨_,vs6,by rw[HX.out];rfl,?_⟩;rw[HX.out];have h:=HS6.out;rw[HT1.out,Hpp.out]at h;exact h
  ·rw[hzf]at z1;clear hzf
   have tn:((n:Int) == (m:Int))=true:=by simp;omega
   have Hmn:=Lib.hid hmn;clear hmn
   go_wp2_with fail
   refine(HAb.out w5 (Ext.refl _)).mono ?_;rintro e w6 ⟨rfl,hE⟩;replace S:=S.step hE;clear hE;clear z1
   go_wp2_with fail
   refine(HCp.out w6 S.ext).mono ?_;rintro e w7 ⟨u,vs,rfl,S7⟩;replace S:Sep w w7 [plNd u vs T,plBox w.heap.size #[.int .i64 cr,.int .i64 ca,.int .i64 cs,.int .i64 cg] 29]:=S.call S7;clear S7;have hxm:=Hxm.out;obtain⟨c,g,cap2,rfl,hcap2,hck,hcn,hcell,hfz,_,_,_,_,hrN,hrK⟩:=S.ndAt 0 rfl hxm;obtain⟨pN,pK,_,_⟩:=S.nd_pin' 0 rfl hck hxm;obtain⟨x',an2,cn2,ak2,ck2⟩:=c;dsimp only at hcn pN pK hrN hrK;subst hcn;obtain⟨gn,rfl⟩:=row_blk encStr1_len pN (by omega);obtain⟨gk,rfl⟩:=row_blk encInt1_len pK (by have:=HLen.out;omega);obtain⟨x,hxx⟩:∃z,z=x':=⟨_,rfl⟩;subst hxx;have d5:w7.cell? ⟨g,m*7+5,none⟩=some (.slice (some ⟨gn,0,none⟩) x.N.length cn2):=hcell 5 _ rfl;have d6:w7.cell? ⟨g,m*7+6,none⟩=some (.slice (some ⟨gk,0,none⟩) x.K.length ck2):=hcell 6 _ rfl
   have HIx:Hid (Calls Tryz.prog 125 #[.slice (some ⟨gn,0,none⟩) x.N.length cn2,.string (lastOf src)] w7 fun e w'=>e=.returned (.int .i64 (posOf x.N (lastOf src):Nat))∧w'=w7):=Lib.hid (by
    have h:=index_raw gn 0 x.N.length cn2 x.N (lastOf src) w7 (Nat.le_refl _) (by omega) (fun j hj=>by
     obtain⟨v,b9,o9,hv,hb9,hc9⟩:=atStr hrN hj
     obtain⟨rfl,rfl⟩:gn=b9∧0=o9:=by simpa using hb9
     rw[hc9,List.getD_eq_getElem?_getD,hv];rfl)
    rw[List.take_length,idx_pos HA.out HPS.out]at h
    exact h)
   have hpw:IntKind.i64.wrap (((posOf x.N (lastOf src):Nat):Int)+1)=((posOf x.N (lastOf src):Nat):Int)+1:=IntWalk.i64_in _ (by omega);clear hcell hfz hrN hrK pN pK
   go_wp2_with fail
   refine HIx.out.mono ?_;rintro e w8 ⟨rfl,rfl⟩;clear HIx;obtain⟨p,hpp⟩:∃p,p=posOf x.N (lastOf src):=⟨_,rfl⟩;rw[←hpp]at hp hpw ⊢;have Hpp:=Lib.hid hpp;clear hpp
   go_upto_region 14 with fail
   have e5:(World.drew w8).cell? ⟨g,m*7+5,none⟩=some (.slice (some ⟨gn,0,none⟩) x.N.length cn2):=cell_ext (Ext.refl w8).drew d5;have e6:(World.drew w8).cell? ⟨g,m*7+6,none⟩=some (.slice (some ⟨gk,0,none⟩) x.K.length ck2):=cell_ext (Ext.refl w8).drew d6;clear d5 d6;have hkidT:=hkT;clear hkT;have hkT:=hmT;obtain⟨H,hH⟩:∃H,H=[plNd (.slice (some ⟨g,0,none⟩) T.length cap2) vs T,plBox w.heap.size #[.int .i64 cr,.int .i64 ca,.int .i64 cs,.int .i64 cg] 29]:=⟨_,rfl⟩
   have hiH:H[0]?=some (plNd (.slice (some ⟨g,0,none⟩) T.length cap2) vs T):=by rw[hH];rfl
   rw[←hH]at S;have HH:=Lib.hid hH;clear hH;have Sd:Sep w (World.drew w8) H:=S.drew;refine wp_region_d (V:=VTk w H g T.length cap2 vs m x gn cn2 gk ck2 p) (fun i=>if i=21 then[12]else if i=24 then[21]else[]) (fun _ wv=>Chg (fun b=>b=g∨pinNd.own (⟨x,some ⟨gn,0,none⟩,cn2,some ⟨gk,0,none⟩,ck2⟩:Nc) b) (World.drew w8) wv) (fun i=>if i=25 then some 12 else if i=26 then some 8 else if i=12 then some 21 else if i=21 then some 24 else none) [(21,12),(24,12),(24,21),(24,8)] 25 3 rfl (by decide) (by kernel_rfl) (by kernel_rfl) (by kernel_rfl) (by kernel_rfl) (by kernel_rfl) (Chg.refl _ _) (fun r hr=>match r,hr with|0,_=>Sd|1,_=>e5|2,_=>e6) ?_ ?_
   ·intro i2 o hi ho k2 hk2 vz w4 hvl hI hd hrest
    match vz,hvl with
    | [y0,y1,y2,y3,y4,y5,y6,y7,y8,y9,y10,y11,y12,y13,y14,y15,y16,y17,y18,y19,y20,y21,y22,y23,y24],_ =>
    rcases(show i2=0∨i2=1∨i2=2∨i2=3∨i2=4∨i2=5∨i2=6∨i2=7∨i2=8∨i2=9∨i2=10∨i2=11∨i2=12∨i2=13∨i2=14∨i2=15∨i2=16∨i2=17∨i2=18∨i2=19∨i2=20∨i2=21∨i2=22∨i2=23∨i2=24 by omega)with rfl|rfl|rfl|rfl|rfl|rfl|rfl|rfl|rfl|rfl|rfl|rfl|rfl|rfl|rfl|rfl|rfl|rfl|rfl|rfl|rfl|rfl|rfl|rfl|rfl
    all_goals
     obtain rfl:=Option.some.inj ho
    ·clear hd hrest;simp[putAll,Act.put];go_wp2;exact OneD.mk (VTk.ext) rfl rfl hI (Ext.refl _)
    ·clear hd hrest;simp[putAll,Act.put];go_wp2;exact OneD.mk (VTk.ext) rfl rfl hI (Ext.refl _)
    ·clear hd hrest;simp[putAll,Act.put];go_wp2;exact OneD.mk (VTk.ext) rfl rfl hI (Ext.refl _)
    ·clear hd hrest;simp[putAll,Act.put];go_wp2;exact OneD.mk (VTk.ext) rfl rfl hI (Ext.refl _)
    ·clear hd hrest;simp[putAll,Act.put];go_wp2;exact OneD.mk (VTk.ext) rfl rfl hI (Ext.refl _)
    ·clear hd hrest;simp[putAll,Act.put];go_wp2;exact OneD.mk (VTk.ext) rfl rfl hI (Ext.refl _)
    ·have q4:y4=.slice (some ⟨g,0,none⟩) T.length cap2:=hd ⟨4,.data⟩ (by simp) rfl (.inl rfl);have q5:y5=.int .i64 (m:Nat):=hd ⟨5,.data⟩ (by simp) rfl (.inl rfl);subst q4 q5;clear hd hrest;simp[putAll,Act.put];go_wp2;exact OneD.mk (VTk.ext) rfl rfl hI (Ext.refl _)
    ·have q6:y6=.pointer (some ⟨g,m*7,none⟩):=hd ⟨6,.data⟩ (by simp) rfl (.inl rfl);subst q6;clear hd hrest;simp[putAll,Act.put];go_wp2;exact OneD.mk (VTk.ext) rfl rfl hI (Ext.refl _)
    ·have q7:y7=.pointer (some ⟨g,m*7+5,none⟩):=hd ⟨7,.data⟩ (by simp) rfl (.inl rfl);have c5:w4.cell? ⟨g,m*7+5,none⟩=some (.slice (some ⟨gn,0,none⟩) x.N.length cn2):=hrest 1 (by omega) (.inr rfl);subst q7;clear hd hrest;simp[putAll,Act.put];go_wp2;exact OneD.mk (VTk.ext) rfl rfl hI (Ext.refl _)
    ·clear hd hrest;simp[putAll,Act.put];go_wp2;exact OneD.mk (VTk.ext) rfl rfl hI (Ext.refl _)
    ·clear hd hrest;simp[putAll,Act.put];go_wp2;exact OneD.mk (VTk.ext) rfl rfl hI (Ext.refl _)
    ·have q10:y10=.int .i64 (p:Nat):=hd ⟨10,.data⟩ (by simp) rfl (.inl rfl);subst q10;clear hd hrest;simp[putAll,Act.put];go_wp2;exact OneD.mk (VTk.ext) rfl rfl hI (Ext.refl _)
    ·have q8:y8=.slice (some ⟨gn,0,none⟩) x.N.length cn2:=hd ⟨8,.data⟩ (by simp) rfl (.inl rfl);have q9:y9=.int .i64 (p:Nat):=hd ⟨9,.data⟩ (by simp) rfl (.inl rfl);have q11:y11=.int .i64 ((p:Int)+1):=hd ⟨11,.data⟩ (by simp) rfl (.inl rfl);have S4:Sep w w4 H:=hrest 0 (by omega) (.inr rfl);obtain⟨pN,pK,pO,pA⟩:=S4.nd_pin' 0 hiH hck hxm
     have HC:Hid (Calls Tryz.prog 126 #[.slice (some ⟨gn,0,none⟩) x.N.length cn2,.int .i64 (p:Nat),.int .i64 ((p:Int)+1)] w4 fun e w'=>e=.returned (.slice (some ⟨gn,0,none⟩) (eraNd x p).N.length cn2)∧w'.ownsRow 0 9 1 (.slice (some ⟨gn,0,none⟩) (eraNd x p).N.length cn2) (eraNd x p).N.length ((eraNd x p).N.flatMap encStr1)∧w4.grownBy w' (some gn)):=Lib.hid (by
      have h:=delStr_any 0 gn cn2 p (p+1) x.N w4 (by omega) (by omega) pN
      have e1:x.N.length - (p+1 - p)=(eraNd x p).N.length:=by show _=(x.N.eraseIdx p).length;rw[List.length_eraseIdx_of_lt hp];omega
      rw[e1,era_take]at h
      exact h)
     have hgn:gn≠g:=(pO gn (.inl rfl)).1;have HS4:=Lib.hid S4;subst q8 q9 q11;clear hd hrest pN pK pO pA S4;simp[putAll,Act.put]
     go_wp2_with fail
     refine HC.out.mono ?_;rintro e w5 ⟨rfl,ho5,hg5⟩;have hch:Chg (fun b=>b=gn) w4 w5:=(Chg.of_row hg5).mono (fun b hb _=>(Option.some.inj hb).symm);clear HC hg5;go_wp2;refine⟨rfl,_,rfl,⟨rfl,w4,HS4.out,hch,ho5⟩,hI.trans (hch.mono (fun b hb _=>.inr (.inl (by rw[hb];rfl)))),fun j u us hj hne hcon hnd hnc hv=>?_⟩
     match j with
     | 0|1|2|3|4|5|6|7|8|9|10|11|13|14|15|16|17|18|19|20|22|23=>exact hv
     | 12=>exact absurd rfl hne
     | 21=>exact absurd (by decide) hnd
     | 24=>exact absurd (by decide) hnd
     | 25=>exact absurd rfl hcon
     | 26=>exact cell_chg (show w4.cell? _=_ from hv) hch (fun e=>hgn e.symm)
     | 27=>exact cell_chg (show w4.cell? _=_ from hv) hch (fun e=>hgn e.symm)
     | (zz+28)=>trivial
    ·clear hd hrest;simp[putAll,Act.put];go_wp2;exact OneD.mk (VTk.ext) rfl rfl hI (Ext.refl _)
    ·clear hd hrest;simp[putAll,Act.put];go_wp2;exact OneD.mk (VTk.ext) rfl rfl hI (Ext.refl _)
    ·have q13:y13=.slice (some ⟨g,0,none⟩) T.length cap2:=hd ⟨13,.data⟩ (by simp) rfl (.inl rfl);have q14:y14=.int .i64 (m:Nat):=hd ⟨14,.data⟩ (by simp) rfl (.inl rfl);subst q13 q14;clear hd hrest;simp[putAll,Act.put];go_wp2;exact OneD.mk (VTk.ext) rfl rfl hI (Ext.refl _)
    ·have q15:y15=.pointer (some ⟨g,m*7,none⟩):=hd ⟨15,.data⟩ (by simp) rfl (.inl rfl);subst q15;clear hd hrest;simp[putAll,Act.put];go_wp2;exact OneD.mk (VTk.ext) rfl rfl hI (Ext.refl _)
    ·have q16:y16=.pointer (some ⟨g,m*7+6,none⟩):=hd ⟨16,.data⟩ (by simp) rfl (.inl rfl);have c6:w4.cell? ⟨g,m*7+6,none⟩=some (.slice (some ⟨gk,0,none⟩) x.K.length ck2):=hrest 2 (by omega) (.inl rfl);subst q16;clear hd hrest;simp[putAll,Act.put];go_wp2;exact OneD.mk (VTk.ext) rfl rfl hI (Ext.refl _)
    ·clear hd hrest;simp[putAll,Act.put];go_wp2;exact OneD.mk (VTk.ext) rfl rfl hI (Ext.refl _)
    ·clear hd hrest;simp[putAll,Act.put];go_wp2;exact OneD.mk (VTk.ext) rfl rfl hI (Ext.refl _)
    ·have q19:y19=.int .i64 (p:Nat):=hd ⟨19,.data⟩ (by simp) rfl (.inl rfl);subst q19;clear hd hrest;simp[putAll,Act.put];go_wp2;exact OneD.mk (VTk.ext) rfl rfl hI (Ext.refl _)
    ·have q17:y17=.slice (some ⟨gk,0,none⟩) x.K.length ck2:=hd ⟨17,.data⟩ (by simp) rfl (.inl rfl);have q18:y18=.int .i64 (p:Nat):=hd ⟨18,.data⟩ (by simp) rfl (.inl rfl);have q20:y20=.int .i64 ((p:Int)+1):=hd ⟨20,.data⟩ (by simp) rfl (.inl rfl);obtain⟨q12,w9,S9,hC9,ho9⟩:y12=.slice (some ⟨gn,0,none⟩) (eraNd x p).N.length cn2∧∃w5,Sep w w5 H∧Chg (fun b=>b=gn) w5 w4∧w4.ownsRow 0 9 1 y12 (eraNd x p).N.length ((eraNd x p).N.flatMap encStr1):=hd ⟨12,.chain⟩ (by simp) rfl (.inr rfl);obtain⟨pN,pK,pO,pA⟩:=S9.nd_pin' 0 hiH hck hxm;have hgn:gn≠g:=(pO gn (.inl rfl)).1;have hgk:gk≠g:=(pO gk (.inr rfl)).1
     have hnk:gn≠gk:=fun e=>pA gn rfl (by rw[e];rfl)
     have hg9:g < w9.heap.size:=(S9.lt (List.mem_of_getElem? hiH) (show(plNd (.slice (some ⟨g,0,none⟩) T.length cap2) vs T).own g from .inl rfl)).2;have hk9:gk < w9.heap.size:=(pO gk (.inr rfl)).2.2;have hn4:gn < w4.heap.size:=Nat.lt_of_lt_of_le (pO gn (.inl rfl)).2.2 hC9.size
     have pK4:w4.ownsRow 0 3 1 (.slice (some ⟨gk,0,none⟩) x.K.length ck2) x.K.length (x.K.flatMap encInt1):=(plRow 3 1 encInt1 (.slice (some ⟨gk,0,none⟩) x.K.length ck2) x.K).frame w9 w4 pK (fun b hb=>by
      have hb':gk=b:=Option.some.inj hb;subst hb'
      exact hC9.block gk hk9 (fun e=>hnk e.symm))
     have hvT:vs.length=T.length:=plG_len (S9.at_ 0 hiH)
     have pR4:w4.ownsRow 0 89 7 (.slice (some ⟨g,0,none⟩) T.length cap2) T.length (vs.flatMap encNc):=by
      have h:=(plRow 89 7 encNc (.slice (some ⟨g,0,none⟩) T.length cap2) vs).frame w9 w4 (S9.at_ 0 hiH).1 (fun b hb=>by
       have hb':g=b:=Option.some.inj hb;subst hb'
       exact hC9.block g hg9 (fun e=>hgn e.symm))
      have h':w4.ownsRow 0 89 7 (.slice (some ⟨g,0,none⟩) T.length cap2) vs.length (vs.flatMap encNc):=h;rw[hvT]at h';exact h'
     have HC:Hid (Calls Tryz.prog 127 #[.slice (some ⟨gk,0,none⟩) x.K.length ck2,.int .i64 (p:Nat),.int .i64 ((p:Int)+1)] w4 fun e w'=>e=.returned (.slice (some ⟨gk,0,none⟩) (eraNd x p).K.length ck2)∧w'.ownsRow 0 3 1 (.slice (some ⟨gk,0,none⟩) (eraNd x p).K.length ck2) (eraNd x p).K.length ((eraNd x p).K.flatMap encInt1)∧w4.grownBy w' (some gk)):=Lib.hid (by
      have hpK:p < x.K.length:=by rw[←HLen.out];exact hp
      have h:=delInt_any 0 gk ck2 p (p+1) x.K w4 (by omega) (by omega) pK4
      have e1:x.K.length - (p+1 - p)=(eraNd x p).K.length:=by show _=(x.K.eraseIdx p).length;rw[List.length_eraseIdx_of_lt hpK];omega
      rw[e1,era_take]at h
      exact h)
     have HB:=Lib.hid (And.intro S9 (And.intro hC9 ho9));have HV:=Lib.hid (And.intro hvT pR4);have HH:=Lib.hid (And.intro hgn (And.intro hgk (And.intro hnk (And.intro hn4 hg9))));subst q17 q18 q20 q12;clear hd hrest pN pK pO pA S9 hC9 ho9 pK4 pR4 hvT hgn hgk hnk hn4 hg9 hk9;simp[putAll,Act.put]
     go_wp2_with fail
     refine HC.out.mono ?_;rintro e w5 ⟨rfl,ho5,hg5⟩;have hch:Chg (fun b=>b=gk) w4 w5:=(Chg.of_row hg5).mono (fun b hb _=>(Option.some.inj hb).symm);clear HC hg5;obtain⟨S9,hC9,ho9⟩:=HB.out;obtain⟨hgn,hgk,hnk,hn4,hg9⟩:=HH.out
     have hAd:AdOk w H g (⟨x,some ⟨gn,0,none⟩,cn2,some ⟨gk,0,none⟩,ck2⟩:Nc) (eraNd x p).N (eraNd x p).K (.slice (some ⟨gn,0,none⟩) (eraNd x p).N.length cn2) (.slice (some ⟨gk,0,none⟩) (eraNd x p).K.length ck2) w5:=by
      refine⟨⟨w9,S9,(hC9.mono (fun b hb _=>.inr (.inl (by rw[hb];rfl)))).trans (hch.mono (fun b hb _=>.inr (.inr (by rw[hb];rfl)))),fun b hb=>.inl hb,fun b hb=>.inl hb⟩,⟨_,_,rfl⟩,⟨_,_,rfl⟩,?_,ho5,⟨fun b hb e=>?_,fun b hb e=>?_⟩,fun b hb hk=>?_⟩
      ·exact(plRow 9 1 encStr1 (.slice (some ⟨gn,0,none⟩) (eraNd x p).N.length cn2) (eraNd x p).N).frame w4 w5 ho9 (fun b hb=>by
        have hb':gn=b:=Option.some.inj hb;subst hb'
        exact hch.block gn hn4 hnk)
      ·exact hgn ((Option.some.inj hb:gn=b).trans e)
      ·exact hgk ((Option.some.inj hb:gk=b).trans e)
      ·exact hnk ((Option.some.inj hb:gn=b).trans (Option.some.inj hk:gk=b).symm)
     have hRow:w5.ownsRow 0 89 7 (.slice (some ⟨g,0,none⟩) T.length cap2) T.length (vs.flatMap encNc):=by
      have h':(plRow 89 7 encNc (.slice (some ⟨g,0,none⟩) T.length cap2) vs).ok w4:=by
       show World.ownsRow _ _ _ _ _ vs.length _
       rw[HV.out.1];exact HV.out.2
      have h:=(plRow 89 7 encNc (.slice (some ⟨g,0,none⟩) T.length cap2) vs).frame w4 w5 h' (fun b hb=>by
       have hb':g=b:=Option.some.inj hb;subst hb'
       exact hch.block g (Nat.lt_of_lt_of_le hg9 hC9.size) (fun e=>hgk e.symm))
      have h2:w5.ownsRow 0 89 7 (.slice (some ⟨g,0,none⟩) T.length cap2) vs.length (vs.flatMap encNc):=h;rw[HV.out.1]at h2;exact h2
     have HF:=Lib.hid (And.intro hAd hRow);clear S9 hC9 ho9 HB hAd hRow ho5 hgn hnk hn4 hg9;go_wp2;refine⟨rfl,_,rfl,⟨rfl,rfl,HF.out.1,HF.out.2⟩,hI.trans (hch.mono (fun b hb _=>.inr (.inr (by rw[hb];rfl)))),fun j u us hj hne hcon hnd hnc hv=>?_⟩
     match j with
     | 0|1|2|3|4|5|6|7|8|9|10|11|13|14|15|16|17|18|19|20|22|23=>exact hv
     | 12=>exact absurd rfl hcon
     | 21=>exact absurd rfl hne
     | 24=>exact absurd (by decide) hnd
     | 25=>exact absurd (by decide) (hnc 12 rfl)
     | 26=>exact cell_chg (show w4.cell? _=_ from hv) hch (fun e=>hgk e.symm)
     | 27=>exact cell_chg (show w4.cell? _=_ from hv) hch (fun e=>hgk e.symm)
     | (zz+28)=>trivial
    ·have q0:y0=.slice (some ⟨g,0,none⟩) T.length cap2:=hd ⟨0,.data⟩ (by simp) rfl (.inl rfl);have q1:y1=.int .i64 (m:Nat):=hd ⟨1,.data⟩ (by simp) rfl (.inl rfl);subst q0 q1;clear hd hrest;simp[putAll,Act.put];go_wp2;exact OneD.mk (VTk.ext) rfl rfl hI (Ext.refl _)
    ·have q22:y22=.pointer (some ⟨g,m*7,none⟩):=hd ⟨22,.data⟩ (by simp) rfl (.inl rfl);subst q22;clear hd hrest;simp[putAll,Act.put];go_wp2;exact OneD.mk (VTk.ext) rfl rfl hI (Ext.refl _)
    ·have q23:y23=.pointer (some ⟨g,m*7+5,none⟩):=hd ⟨23,.data⟩ (by simp) rfl (.inl rfl);obtain⟨q21,q12,hAd,hRow⟩:y21=.slice (some ⟨gk,0,none⟩) (eraNd x p).K.length ck2∧y12=.slice (some ⟨gn,0,none⟩) (eraNd x p).N.length cn2∧AdOk w H g (⟨x,some ⟨gn,0,none⟩,cn2,some ⟨gk,0,none⟩,ck2⟩:Nc) (eraNd x p).N (eraNd x p).K (.slice (some ⟨gn,0,none⟩) (eraNd x p).N.length cn2) y21 w4∧w4.ownsRow 0 89 7 (.slice (some ⟨g,0,none⟩) T.length cap2) T.length (vs.flatMap encNc):=hd ⟨21,.chain⟩ (by simp) rfl (.inr rfl);have hkl:=(List.getElem?_eq_some_iff.1 hck).1
     have hkT2:m < T.length:=by omega
     obtain⟨p5,f5⟩:=owns_there hRow (m*7+5) (by omega);rw[q21]at hAd;have hAd2:=Lib.hid (hAd.store (m*7+5) (.slice (some ⟨gn,0,none⟩) (eraNd x p).N.length cn2));have hck2:vs[m]=(⟨x,some ⟨gn,0,none⟩,cn2,some ⟨gk,0,none⟩,ck2⟩:Nc):=(List.getElem?_eq_some_iff.1 hck).2;have hR2:=Lib.hid (owns_set encNc_len hRow m 5 (.slice (some ⟨gn,0,none⟩) (eraNd x p).N.length cn2) (⟨⟨x.fold,x.own,x.grp,x.mode,x.text,(eraNd x p).N,x.K⟩,some ⟨gn,0,none⟩,cn2,some ⟨gk,0,none⟩,ck2⟩:Nc) hkl (by omega) (by rw[hck2];rfl));have hch:=Chg.setCell w4 g (m*7+5) (.slice (some ⟨gn,0,none⟩) (eraNd x p).N.length cn2);have HQ:=Lib.hid hch;obtain⟨pv,hpv⟩:=Option.isSome_iff_exists.1 p5;subst q23 q12 q21;clear hd hrest hAd hRow p5 hch;simp[putAll,Act.put];go_wp2;refine⟨rfl,undef,rfl,⟨rfl,hAd2.out,hR2.out⟩,hI.trans (HQ.out.mono (fun b hb _=>.inl hb)),fun j u us hj hne hcon hnd hnc hv=>?_⟩
     match j with
     | 0|1|2|3|4|5|6|7|8|9|10|11|13|14|15|16|17|18|19|20|22|23=>exact hv
     | 12=>exact absurd (by decide) (hnc 21 rfl)
     | 21=>exact absurd rfl hcon
     | 24=>exact absurd rfl hne
     | 25=>exact absurd (by decide) (hnc 12 rfl)
     | 26=>exact absurd (by decide) (hnc 8 rfl)
     | 27 =>
      show(w4.setCell ⟨g,m*7+5,none⟩ (.slice (some ⟨gn,0,none⟩) (eraNd x p).N.length cn2)).cell? ⟨g,m*7+6,none⟩=_
      rw[World.cell?_setCell_other w4 _ _ _ (by intro h;simp at h)];exact hv
     | (zz+28)=>trivial
   ·intro vz wE hvl hI hV hVr
    match vz,hvl with
    | [y0,y1,y2,y3,y4,y5,y6,y7,y8,y9,y10,y11,y12,y13,y14,y15,y16,y17,y18,y19,y20,y21,y22,y23,y24],_ =>
    have q2:y2=.slice (some ⟨g,0,none⟩) T.length cap2:=hV 2 (by omega) rfl;have q3:y3=.int .i64 (m:Nat):=hV 3 (by omega) rfl;obtain⟨q21,hAd,hRow⟩:y21=.slice (some ⟨gk,0,none⟩) (eraNd x p).K.length ck2∧AdOk w H g (⟨x,some ⟨gn,0,none⟩,cn2,some ⟨gk,0,none⟩,ck2⟩:Nc) (eraNd x p).N (eraNd x p).K (.slice (some ⟨gn,0,none⟩) (eraNd x p).N.length cn2) (.slice (some ⟨gk,0,none⟩) (eraNd x p).K.length ck2) wE∧wE.ownsRow 0 89 7 (.slice (some ⟨g,0,none⟩) T.length cap2) T.length ((vs.set m (⟨⟨x.fold,x.own,x.grp,x.mode,x.text,(eraNd x p).N,x.K⟩,some ⟨gn,0,none⟩,cn2,some ⟨gk,0,none⟩,ck2⟩:Nc)).flatMap encNc):=hV 24 (by omega) rfl;subst q2 q3 q21;have hkl:=(List.getElem?_eq_some_iff.1 hck).1;have hvT:vs.length=T.length:=plG_len (Sd.at_ 0 hiH);obtain⟨p6,f6⟩:=owns_there hRow (m*7+6) (by omega);obtain⟨pv,hpv⟩:=Option.isSome_iff_exists.1 p6;have hR2:=owns_set encNc_len hRow m 6 (.slice (some ⟨gk,0,none⟩) (eraNd x p).K.length ck2) (⟨eraNd x p,some ⟨gn,0,none⟩,cn2,some ⟨gk,0,none⟩,ck2⟩:Nc) (by rw[List.length_set];exact hkl) (by omega) (by rw[List.getElem_set_self];rfl);rw[List.set_set]at hR2;have hAd2:=hAd.store (m*7+6) (.slice (some ⟨gk,0,none⟩) (eraNd x p).K.length ck2);obtain⟨w5,S5,hC5,hn5,hk5⟩:=hAd2.ex;have hFin:Hid (Sep w (wE.setCell ⟨g,m*7+6,none⟩ (.slice (some ⟨gk,0,none⟩) (eraNd x p).K.length ck2)) (H.set 0 (plNd (.slice (some ⟨g,0,none⟩) T.length cap2) (vs.set m (⟨eraNd x p,some ⟨gn,0,none⟩,cn2,some ⟨gk,0,none⟩,ck2⟩:Nc)) (T.set m (eraNd x p))))):=Lib.hid (S5.ndPut 0 hiH hck (c':=(⟨eraNd x p,some ⟨gn,0,none⟩,cn2,some ⟨gk,0,none⟩,ck2⟩:Nc)) (x':=eraNd x p) (hC5.mono (fun b hb _=>.inr hb)) (by rw[hvT];exact hR2) ⟨rfl,hAd2.r9,hAd2.r17,fun b hb=>hAd2.apart b hb⟩ (fun b hb=>.inl hb));clear hV hVr hI hAd hAd2 hRow hR2 S5 hC5 hn5 hk5 p6 Sd e5 e6;simp only[putAll,Act.put,List.take_succ_cons,List.take_zero,List.drop_succ_cons,List.drop_zero];simp
    go_upto_region 15 with fail
    clear hpv f6;generalize (wE.setCell ⟨g,m*7+6,none⟩ (.slice (some ⟨gk,0,none⟩) (eraNd x p).K.length ck2))=w9 at *;obtain⟨T1,hT1⟩:∃T1,T1=T.set m (eraNd x p):=⟨_,rfl⟩;obtain⟨v1,hv1⟩:∃v1,v1=vs.set m (⟨eraNd x p,some ⟨gn,0,none⟩,cn2,some ⟨gk,0,none⟩,ck2⟩:Nc):=⟨_,rfl⟩;have hFi:=hFin.out;rw[←hv1,←hT1,HH.out]at hFi
    have hy1:T1[n]?=some y:=by rw[hT1,Hpp.out];exact Hy.out
    have hl1:T.length=T1.length:=by rw[hT1,List.length_set]
    have HT1:=Lib.hid hT1;have Hy1:=Lib.hid hy1;have hyl:=HyN.out.2;clear hFin hv1 hT1 hy1 hiH hck hxm hp hpw;have hFi2:Sep w w9 [plNd (.slice (some ⟨g,0,none⟩) T.length cap2) v1 T1,plBox w.heap.size #[.int .i64 cr,.int .i64 ca,.int .i64 cs,.int .i64 cg] 29]:=hFi;have HFi:=Lib.hid hFi2;have HL1:=Lib.hid hl1;clear hFi hFi2 hl1
    go_wp2_with fail
    refine(implAddName HFi.out 0 rfl Hy1.out T.length HyN.out.1 hyl (lastOf dst) (kid:Int)).mono ?_;rintro e wA ⟨rfl,vs6,S6⟩;have HS6:=Lib.hid (S6.drop 1);clear S6 HFi;go_wp2;go_ret2;refine⟨_,vs6,by rw[HX.out];rfl,?_⟩;rw[HX.out];have h:=HS6.out;rw[HT1.out,Hpp.out]at h;exact h
end Go.Proofs.YtnibbldfohbfkaaGreatDoor
