/- Parts of one proof: what each theorem proves, and its conditions, stand in its own statement. -/
import Derived.Deep.RegionLaw
import Derived.Shelf.RegionOpenPlain
import Derived.Lib.SliceRun
import Derived.Test.YtnibbldfohbfkaaGreatDoorMn9
set_option linter.all false
set_option maxRecDepth 100000
set_option maxHeartbeats 32000000
namespace Go.Proofs.YtnibbldfohbfkaaGreatDoor
open Go.RowKit
theorem implFindNode (a:Option Addr) (cap:Nat) (T:List Nd) (c:Cr) (s:ByteArray) (w:World) (hs:s.size≤1048576) (hl:T.length≤1048576) (hT:∀x∈T,SmN 1048576 x) (hc:RdN w a T) (hm:MaxG w) :
  Calls Tryz.prog 122 #[.slice a T.length cap,.agg #[.int .i64 c.r,.int .i64 c.a,.int .i64 c.s,.int .i64 c.g],.string s] w fun e w'=>e=.returned (.tuple #[.int .i64 (findNode T c s).1,.int .i64 (findNode T c s).2])∧Ext w w':=by
 obtain⟨cr,ca,cs,cg⟩:=c;have HT:=hd0 hT;have HM:=hd0 hm;clear hT hm;dsimp only
 go_enter Tryz.func122,Tryz.ntmps122
 have S:=Sep.start w;replace S:=S.alloc_at (n:=w.heap.size) (by simp) #[.int .i64 cr,.int .i64 ca,.int .i64 cs,.int .i64 cg] 29
 go_wp2_with fail
 generalize (w.alloc (.cells #[.int .i64 cr,.int .i64 ca,.int .i64 cs,.int .i64 cg] 29))=w1 at *;refine(implPathParts s w1 hs (HM.out.ext S.ext)).mono ?_;rintro e w2 ⟨u,P,ok,rfl,hR,S2⟩;replace S:Sep w w2 [plRow 9 1 encStr1 u P,plBox w.heap.size #[.int .i64 cr,.int .i64 ca,.int .i64 cs,.int .i64 cg] 29]:=S.call S2;clear S2;have HR:=hd0 hR;obtain⟨hP6,hP8⟩:=parts_len hR;clear hP8 hR
 cases ok with
 | false =>
  have HE:=hd0 (find_no (T:=T) (c:=⟨cr,ca,cs,cg⟩) HR.out);go_wp2;go_ret2;exact⟨by rw[HE.out];rfl,S.ext⟩
 | true =>
  go_wp2_with fail
  refine(implTreeValid a cap T w2 hl HT.out (hc.ext S.ext)).mono ?_;rintro e w3 ⟨v,rfl,hv,hE⟩;have Hv:=hd0 hv;clear hv;replace S:=S.step hE;clear hE
  cases v with
  | false =>
   have HE:=hd0 (find_bad (T:=T) (c:=⟨cr,ca,cs,cg⟩) HR.out (fun h=>Bool.noConfusion (Hv.out.2 h.1)));go_wp2;go_ret2;exact⟨by rw[HE.out];rfl,S.ext⟩
  | true =>
   have HTr:=hd0 (Hv.out.1 rfl);clear Hv;obtain⟨⟨bc0,bf0⟩,⟨bc1,bf1⟩,⟨bc2,bf2⟩,⟨bc3,bf3⟩⟩:=bx4 (S.box 1 rfl)
   go_wp2_with fail
   refine(implCredValid cr ca cs cg w3).mono ?_;rintro e w4 ⟨v,rfl,hv,hE⟩;have Hv:=hd0 hv;clear hv;clear bc0 bf0 bc1 bf1 bc2 bf2 bc3 bf3;replace S:=S.step hE;clear hE
   cases v with
   | false =>
    have HE:=hd0 (find_bad (T:=T) (c:=⟨cr,ca,cs,cg⟩) HR.out (fun h=>Bool.noConfusion (Hv.out.2 h.2)));go_wp2;go_ret2;exact⟨by rw[HE.out];rfl,S.ext⟩
   | true =>
    have HE:=hd0 (find_go (T:=T) (c:=⟨cr,ca,cs,cg⟩) HR.out ⟨HTr.out,Hv.out.1 rfl⟩);have HCo:Hid (Cr.ok ⟨cr,ca,cs,cg⟩):=hd0 (Hv.out.1 rfl);clear Hv HR;have hrow:=S.row 0 rfl;obtain⟨pa,pc,rfl,hPc,_,_⟩:=view_owns encStr1_len hrow;clear hrow;have hpos:=HTr.out.pos;go_wp2
    go_loopw [10,12,13,33,43,50,58] (fun at_ _ _ i _ _ _ wr=>∃k m:Nat,k≤P.length∧m < T.length∧at_=.int .i64 m∧i=.int .i64 k∧findFrom T ⟨cr,ca,cs,cg⟩ P 0=findFrom T ⟨cr,ca,cs,cg⟩ (P.drop k) (m:Int)∧Sep w wr [plRow 9 1 encStr1 (.slice pa P.length pc) P,plBox w.heap.size #[.int .i64 cr,.int .i64 ca,.int .i64 cs,.int .i64 cg] 29]) (fun _ _ _ i _ _ _ _=>P.length - (intOf i).toNat)
    case atStart=>exact⟨0,0,Nat.zero_le _,by omega,rfl,rfl,by rw[List.drop_zero];rfl,S⟩
    case round =>
     clear S;obtain⟨k,m,hk,hm,rfl,rfl,hpre,S⟩:=hrel;have Hpre:=hd0 hpre;clear hpre
     by_cases hlt:k < P.length
     rotate_left
     ·obtain rfl:k=P.length:=by omega
      have hni:¬(P.length:Int) < (P.length:Int):=by omega
      have HX:=hd0 (HE.out.trans (Hpre.out.trans (by rw[List.drop_length];rfl:_=((m:Int),(0:Int)))));go_wp2;go_ret2;exact⟨by rw[HX.out];rfl,S.ext⟩
     ·obtain⟨x,b',off,an,cn,ak,ck,hx,rfl,c0,c1,c2,c3,c4,c5,c6,hcn,hck,hrn,hrk⟩:=atNd hc hm;have hrP:Rd 1 encStr1 wr pa P:=S.rd 0 encStr1_len rfl rfl;obtain⟨p,b2,off2,hp,rfl,e0⟩:=atStr hrP hlt;have Hx:=hd0 hx;have hN:=HTr.out.nodes m x hx;have HN:=hd0 hN;have hsx:=HT.out x (List.mem_of_getElem? hx);have hNl:x.N.length≤1048576:=hsx.2.1;have Hd:=hd0 (HE.out.trans (Hpre.out.trans (ff_drop hp (m:Int))))
      have i0:(k:Int) < (P.length:Int):=by omega
      have i1:(m:Int) < (T.length:Int):=by omega
      have hE:=S.ext;have d0:=cell_ext hE c0;have d1:=cell_ext hE c1;have d2:=cell_ext hE c2;have d3:=cell_ext hE c3;have d4:=cell_ext hE c4;have d5:=cell_ext hE c5;have d6:=cell_ext hE c6;have HKd:=hd0 (implKid x T.length an ak cn ck p wr hN hNl (hrn.ext hE) (hrk.ext hE));clear hx hp hN hsx c0 c1 c2 c3 c4 c5 c6 hcn hck hrn hrk hrP hE Hpre
      go_wp2_with fail
      refine HKd.out.mono ?_;rintro e w5 ⟨rfl,hw5⟩;replace d0:=cell_ext hw5 d0;replace d1:=cell_ext hw5 d1;replace d2:=cell_ext hw5 d2;replace d3:=cell_ext hw5 d3;replace d4:=cell_ext hw5 d4;replace d5:=cell_ext hw5 d5;replace d6:=cell_ext hw5 d6;replace S:=S.step hw5;clear hw5;clear e0 HKd
      cases hf:x.fold with
      | false =>
       have HX:=hd0 (Hd.out.trans (ff_file Hx.out hf));rw[hf]at d0;clear hf;go_wp2;go_ret2;exact⟨by rw[HX.out];rfl,S.ext⟩
      | true =>
       have Hf:=hd0 hf;obtain⟨⟨bc0,bf0⟩,⟨bc1,bf1⟩,⟨bc2,bf2⟩,⟨bc3,bf3⟩⟩:=bx4 (S.box 1 rfl)
       have HMy:Hid (∀s:ExtW w5,Calls Tryz.prog 128 #[.agg #[.bool true,.int .i64 x.own,.int .i64 x.grp,.int .i64 x.mode,.string x.text,.slice an x.N.length cn,.slice ak x.K.length ck],.agg #[.int .i64 cr,.int .i64 ca,.int .i64 cs,.int .i64 cg],.int .i64 1] s.x fun e w''=>e=.returned (.bool (Cr.may ⟨cr,ca,cs,cg⟩ x 1))∧∃s':ExtW w5,w''=s'.x):=hd0 (fun s=>by
        have hC:=implAllows ⟨cr,ca,cs,cg⟩ 1 x T.length an ak cn ck s.x HN.out HCo.out (by omega);rw[hf]at hC
        exact Calls.at_e hC)
       rw[hf]at d0;clear hf
       go_wp2_with fail
       have q0:=ExtW.cell d0;have q1:=ExtW.cell d1;have q2:=ExtW.cell d2;have q3:=ExtW.cell d3;have q4:=ExtW.cell d4;have q5:=ExtW.cell d5;have q6:=ExtW.cell d6;have bl:=ExtW.lt d0;have r0:=ExtW.cell bc0;have r1:=ExtW.cell bc1;have r2:=ExtW.cell bc2;have r3:=ExtW.cell bc3;have br:=ExtW.lt bc0;have S9:=hd0 S;clear d0 d1 d2 d3 d4 d5 d6 bc0 bc1 bc2 bc3 bf0 bf1 bf2 bf3 S
       cases hmay:Cr.may ⟨cr,ca,cs,cg⟩ x 1 with
       | false =>
        have HX:=hd0 (Hd.out.trans (ff_may Hx.out Hf.out hmay));rw[hmay]at HMy;clear hmay
        (refine wp_region_quiet_ext (by kernel_rfl) (by kernel_rfl) ?_;(repeat (go_big_quiet_step ((go_at_call 128;exact HMy.out _))));refine wpQuiet_nil ?_;intro _ hw';obtain⟨sq,hw''⟩:=hw';subst hw'')
        obtain⟨w6,hw6⟩:=sq;go_wp2;go_ret2;exact⟨by rw[HX.out];rfl,S9.out.ext.trans hw6⟩
       | true =>
        have Hmay:=hd0 hmay;rw[hmay]at HMy;clear hmay
        (refine wp_region_quiet_ext (by kernel_rfl) (by kernel_rfl) ?_;(repeat (go_big_quiet_step ((go_at_call 128;exact HMy.out _))));refine wpQuiet_nil ?_;intro _ hw';obtain⟨sq,hw''⟩:=hw';subst hw'')
        obtain⟨w6,hw6⟩:=sq;have HS10:=hd0 (S9.out.step hw6);clear q0 q1 q2 q3 q4 q5 q6 bl r0 r1 r2 r3 br S9 HMy
        by_cases hkid:kidOf x.N x.K p < 0
        ·have HX:=hd0 (Hd.out.trans (ff_miss Hx.out Hf.out Hmay.out hkid));go_wp2;go_ret2;exact⟨by rw[HX.out];rfl,HS10.out.ext⟩
        ·have hin:=kidOf_in HTr.out Hx.out (p:=p) (by omega);have HX:=hd0 (Hd.out.trans (ff_next Hx.out Hf.out Hmay.out hkid));obtain⟨j,hj⟩:∃j:Nat,kidOf x.N x.K p=(j:Int):=⟨(kidOf x.N x.K p).toNat,by omega⟩;rw[hj]at HX hin ⊢;clear hj hkid;go_wp2;go_roundw
         case rel=>exact⟨k+1,j,by omega,by omega,rfl,by go_num,HE.out.symm.trans HX.out,HS10.out⟩
         case measure=>simp[intOf];omega
theorem implFolderAbove (a:Option Addr) (cap:Nat) (T:List Nd) (c:Cr) (s:ByteArray) (w:World) (hs:s.size≤1048576) (hl:T.length≤1048576) (hT:∀x∈T,SmN 1048576 x) (hc:RdN w a T) (hm:MaxG w) :
  Calls Tryz.prog 118 #[.slice a T.length cap,.agg #[.int .i64 c.r,.int .i64 c.a,.int .i64 c.s,.int .i64 c.g],.string s] w fun e w'=>e=.returned (.tuple #[.int .i64 (folderAbove T c s).1,.string (folderAbove T c s).2.1,.int .i64 (folderAbove T c s).2.2])∧Ext w w':=by
 obtain⟨cr,ca,cs,cg⟩:=c;have HT:=hd0 hT;have HM:=hd0 hm;clear hT hm;dsimp only
 go_enter Tryz.func118,Tryz.ntmps118
 have S:=Sep.start w;replace S:=S.alloc_at (n:=w.heap.size) (by simp) #[.int .i64 cr,.int .i64 ca,.int .i64 cs,.int .i64 cg] 29
 go_wp2_with fail
 generalize (w.alloc (.cells #[.int .i64 cr,.int .i64 ca,.int .i64 cs,.int .i64 cg] 29))=w1 at *;refine(implAboveOf s w1 hs (HM.out.ext S.ext)).mono ?_;rintro e w2 ⟨rfl,hE⟩;replace S:=S.step hE;clear hE
 cases hso:(aboveOf s).isSome with
 | false =>
  have HX:=hd0 (fa_no (T:=T) (c:=⟨cr,ca,cs,cg⟩) hso);clear hso;go_wp2
  try simp only[Exit.inBlock,Exit.then]
  refine bodyPost_ret (v:=.tuple #[.int .i64 (-1),.string ⟨#[]⟩,.int .i64 1]) (by simp[results,Tryz.results118,go_sem]) rfl ?_;exact⟨by rw[HX.out],S.ext⟩
 | true =>
  obtain⟨⟨bc0,bf0⟩,⟨bc1,bf1⟩,⟨bc2,bf2⟩,⟨bc3,bf3⟩⟩:=bx4 (S.box 0 rfl);have hab:=abOf_size s
  go_wp2_with fail
  refine(implFindNode a cap T ⟨cr,ca,cs,cg⟩ (abOf s) w2 (by omega) hl HT.out (hc.ext S.ext) (HM.out.ext S.ext)).mono ?_;rintro e w3 ⟨rfl,hE⟩;clear bc0 bf0 bc1 bf1 bc2 bf2 bc3 bf3;replace S:=S.step hE;clear hE
  rcases find_cases T ⟨cr,ca,cs,cg⟩ (abOf s)with⟨m,hF,hm,hTr,hCo⟩|⟨f,hf,hF⟩
  rotate_left
  ·have HX:=hd0 (fa_fault (T:=T) (c:=⟨cr,ca,cs,cg⟩) hso (by rw[hF];exact hf));rw[hF]at HX ⊢
   have tf:(f == 0)=false:=by simpa using hf
   clear hso hF hf;dsimp only at HX ⊢;go_wp2
   try simp only[Exit.inBlock,Exit.then]
   refine bodyPost_ret (v:=.tuple #[.int .i64 (-1),.string ⟨#[]⟩,.int .i64 f]) (by simp[results,Tryz.results118,go_sem]) rfl ?_;exact⟨by rw[HX.out],S.ext⟩
  ·obtain⟨x,b',off,an,cn,ak,ck,hx,rfl,c0,c1,c2,c3,c4,c5,c6,hcn,hck,hrn,hrk⟩:=atNd hc hm;have Hx:=hd0 hx;have HN:=hd0 (hTr.nodes m x hx);have HCo:=hd0 hCo;have HP:=hd0 (fa_at (T:=T) (c:=⟨cr,ca,cs,cg⟩) hso hF hx);rw[hF]
   have i1:(m:Int) < (T.length:Int):=by omega
   have hE:=S.ext;have d0:=cell_ext hE c0;have d1:=cell_ext hE c1;have d2:=cell_ext hE c2;have d3:=cell_ext hE c3;have d4:=cell_ext hE c4;have d5:=cell_ext hE c5;have d6:=cell_ext hE c6;clear hx c0 c1 c2 c3 c4 c5 c6 hcn hck hrn hrk hE hF hTr hso hCo;dsimp only
   cases hf:x.fold with
   | false =>
    have HX:=hd0 (HP.out.trans (if_pos hf));rw[hf]at d0;clear hf;go_wp2
    try simp only[Exit.inBlock,Exit.then]
    refine bodyPost_ret (v:=.tuple #[.int .i64 (-1),.string ⟨#[]⟩,.int .i64 4]) (by simp[results,Tryz.results118,go_sem]) rfl ?_;exact⟨by rw[HX.out],S.ext⟩
   | true =>
    have HQ:=hd0 (HP.out.trans (if_neg (by simp[hf])));clear HP;obtain⟨⟨bc0,bf0⟩,⟨bc1,bf1⟩,⟨bc2,bf2⟩,⟨bc3,bf3⟩⟩:=bx4 (S.box 0 rfl)
    have HMy:Hid (∀s:ExtW w3,Calls Tryz.prog 128 #[.agg #[.bool true,.int .i64 x.own,.int .i64 x.grp,.int .i64 x.mode,.string x.text,.slice an x.N.length cn,.slice ak x.K.length ck],.agg #[.int .i64 cr,.int .i64 ca,.int .i64 cs,.int .i64 cg],.int .i64 3] s.x fun e w''=>e=.returned (.bool (Cr.may ⟨cr,ca,cs,cg⟩ x 3))∧∃s':ExtW w3,w''=s'.x):=hd0 (fun s=>by
     have hC:=implAllows ⟨cr,ca,cs,cg⟩ 3 x T.length an ak cn ck s.x HN.out HCo.out (by omega);rw[hf]at hC
     exact Calls.at_e hC)
    rw[hf]at d0;clear hf
    go_wp2_with fail
    have q0:=ExtW.cell d0;have q1:=ExtW.cell d1;have q2:=ExtW.cell d2;have q3:=ExtW.cell d3;have q4:=ExtW.cell d4;have q5:=ExtW.cell d5;have q6:=ExtW.cell d6;have bl:=ExtW.lt d0;have r0:=ExtW.cell bc0;have r1:=ExtW.cell bc1;have r2:=ExtW.cell bc2;have r3:=ExtW.cell bc3;have br:=ExtW.lt bc0;have S9:=hd0 S;clear d0 d1 d2 d3 d4 d5 d6 bc0 bc1 bc2 bc3 bf0 bf1 bf2 bf3 S
    cases hmay:Cr.may ⟨cr,ca,cs,cg⟩ x 3 with
    | false =>
     have HX:=hd0 (HQ.out.trans (if_pos hmay));rw[hmay]at HMy;clear hmay
     (refine wp_region_quiet_ext (by kernel_rfl) (by kernel_rfl) ?_;(repeat (go_big_quiet_step ((go_at_call 128;exact HMy.out _))));refine wpQuiet_nil ?_;intro _ hw';obtain⟨sq,hw''⟩:=hw';subst hw'')
     obtain⟨w5,hw5⟩:=sq;go_wp2
     try simp only[Exit.inBlock,Exit.then]
     refine bodyPost_ret (v:=.tuple #[.int .i64 (-1),.string ⟨#[]⟩,.int .i64 3]) (by simp[results,Tryz.results118,go_sem]) rfl ?_;exact⟨by rw[HX.out],S9.out.ext.trans hw5⟩
    | true =>
     have HX:=hd0 (HQ.out.trans (if_neg (by simp[hmay])));rw[hmay]at HMy;clear hmay
     (refine wp_region_quiet_ext (by kernel_rfl) (by kernel_rfl) ?_;(repeat (go_big_quiet_step ((go_at_call 128;exact HMy.out _))));refine wpQuiet_nil ?_;intro _ hw';obtain⟨sq,hw''⟩:=hw';subst hw'')
     obtain⟨w5,hw5⟩:=sq;go_wp2
     try simp only[Exit.inBlock,Exit.then]
     refine bodyPost_ret (v:=.tuple #[.int .i64 (m:Int),.string (lastOf s),.int .i64 0]) (by simp[results,Tryz.results118,go_sem]) rfl ?_;exact⟨by rw[HX.out],S9.out.ext.trans hw5⟩
theorem implPlaceFor (a:Option Addr) (cap:Nat) (T:List Nd) (c:Cr) (s:ByteArray) (w:World) (hs:s.size≤1048576) (hl:T.length≤1048576) (hT:∀x∈T,SmN 1048576 x) (hc:RdN w a T) (hm:MaxG w) :
  Calls Tryz.prog 113 #[.slice a T.length cap,.agg #[.int .i64 c.r,.int .i64 c.a,.int .i64 c.s,.int .i64 c.g],.string s] w fun e w'=>e=.returned (.tuple #[.int .i64 (placeFor T c s).1,.int .i64 (placeFor T c s).2])∧Ext w w':=by
 obtain⟨cr,ca,cs,cg⟩:=c;have HT:=hd0 hT;have HM:=hd0 hm;clear hT hm;dsimp only
 go_enter Tryz.func113,Tryz.ntmps113
 have S:=Sep.start w;replace S:=S.alloc_at (n:=w.heap.size) (by simp) #[.int .i64 cr,.int .i64 ca,.int .i64 cs,.int .i64 cg] 29
 go_wp2_with fail
 generalize (w.alloc (.cells #[.int .i64 cr,.int .i64 ca,.int .i64 cs,.int .i64 cg] 29))=w1 at *;refine(implFolderAbove a cap T ⟨cr,ca,cs,cg⟩ s w1 hs hl HT.out (hc.ext S.ext) (HM.out.ext S.ext)).mono ?_;rintro e w2 ⟨rfl,hE⟩;replace S:=S.step hE;clear hE
 rcases fa_cases T ⟨cr,ca,cs,cg⟩ s with⟨n,x,hF⟩|⟨f,hf,hF⟩
 rotate_left
 ·have HX:=hd0 (pf_bad hf hF);rw[hF]
  have tf:(f == 0)=false:=by simpa using hf
  clear hf hF;dsimp only;go_wp2;go_ret2;exact⟨by rw[HX.out];rfl,S.ext⟩
 ·have HF:=hd0 hF;rw[hF.eq];obtain⟨x',b',off,an,cn,ak,ck,hx,rfl,c0,c1,c2,c3,c4,c5,c6,hcn,hck,hrn,hrk⟩:=atNd hc (List.getElem?_eq_some_iff.1 hF.hx).1;obtain rfl:x=x':=Option.some.inj (hF.hx.symm.trans hx);have HX:=hd0 (pf_good hF);have hN:=hF.tree.nodes n x hx;have hNl:x.N.length≤1048576:=(HT.out x (List.mem_of_getElem? hx)).2.1
  have i1:(n:Int) < (T.length:Int):=by have:=(List.getElem?_eq_some_iff.1 hx).1;omega
  have hE:=S.ext;have d0:=cell_ext hE c0;have d1:=cell_ext hE c1;have d2:=cell_ext hE c2;have d3:=cell_ext hE c3;have d4:=cell_ext hE c4;have d5:=cell_ext hE c5;have d6:=cell_ext hE c6;have HKd:=hd0 (implKid x T.length an ak cn ck (lastOf s) w2 hN hNl (hrn.ext hE) (hrk.ext hE));clear hx hN c0 c1 c2 c3 c4 c5 c6 hcn hck hrn hrk hE hF;dsimp only
  go_wp2_with fail
  refine HKd.out.mono ?_;rintro e w3 ⟨rfl,hw3⟩;clear d0 d1 d2 d3 d4 d5 d6 HKd;replace S:=S.step hw3;clear hw3
  by_cases hkid:0≤kidOf x.N x.K (lastOf s)
  ·have HY:=hd0 (HX.out.trans (if_pos hkid));go_wp2;go_ret2;exact⟨by rw[HY.out];rfl,S.ext⟩
  ·have HY:=hd0 (HX.out.trans (if_neg hkid));go_wp2;go_ret2;exact⟨by rw[HY.out];rfl,S.ext⟩
theorem cloneInt_any (a:Option Addr) (cap n:Nat) (l:List Int) (w:World) (hn:n=l.length) (hl:l.length≤1048576) (hc:Rd 1 encInt1 w a l) :
  Calls Tryz.prog 87 #[.slice a n cap] w (RetV (fun v w'=>w'.ownsRow w.heap.size 3 1 v l.length (l.flatMap encInt1)) w):=by
 subst hn
 have hq:=fun w a n c=>Lib.run_eql_slice_nil (P:=Tryz.prog) w 86 3 a n c 0 0 Tryz.underlying86
 cases a with
 | none =>
  have hnil:l=[]:=by
   cases l with
   | nil=>rfl
   | cons y l=>obtain⟨b,off,h0,_⟩:=hc 0 (by simp);cases h0
  subst hnil
  go_enter Tryz.func87,Tryz.ntmps87
  go_wp2;go_ret;exact RetV.mk (World.ownsRow_nil _ _ _ _) (Ext.refl _)
 | some a =>
  go_enter Tryz.func87,Tryz.ntmps87
  go_wp2_with (at_builtin;refine wpList_append_rd rfl _ _ 86 rfl w.heap.size 3 _ 1 _ Tryz.underlying86 infoInt rfl (by decide) encInt1_len encInt1_one _ 0 [] rfl (owns_lit_new [] encInt1_len rfl rfl (by omega) (Nat.le_refl _)) rfl (some a) l.length cap l rfl rfl (hc.ext ((Ext.refl _).alloc _)) (by omega) (by omega) (by simp) ?_)
  intro v' w' hown hg;go_wp2;go_ret;exact RetV.mk hown (((Ext.refl _).alloc _).grown hg (by intro k h;simp[Value.ownBlock]at h;omega))
theorem cloneStr_any (a:Option Addr) (cap n:Nat) (l:List ByteArray) (w:World) (hn:n=l.length) (hl:l.length≤1048576) (hc:Rd 1 encStr1 w a l) :
  Calls Tryz.prog 86 #[.slice a n cap] w (RetV (fun v w'=>w'.ownsRow w.heap.size 9 1 v l.length (l.flatMap encStr1)) w):=by
 subst hn
 have hq:=fun w a n c=>Lib.run_eql_slice_nil (P:=Tryz.prog) w 39 9 a n c 0 0 Tryz.underlying39
 cases a with
 | none =>
  have hnil:l=[]:=by
   cases l with
   | nil=>rfl
   | cons y l=>obtain⟨b,off,h0,_⟩:=hc 0 (by simp);cases h0
  subst hnil
  go_enter Tryz.func86,Tryz.ntmps86
  go_wp2;go_ret;exact RetV.mk (World.ownsRow_nil _ _ _ _) (Ext.refl _)
 | some a =>
  go_enter Tryz.func86,Tryz.ntmps86
  go_wp2_with (at_builtin;refine wpList_append_rd rfl _ _ 39 rfl w.heap.size 9 _ 1 _ Tryz.underlying39 infoStr1 rfl (by decide) encStr1_len encStr1_one _ 0 [] rfl (owns_lit_new [] encStr1_len rfl rfl (by omega) (Nat.le_refl _)) rfl (some a) l.length cap l rfl rfl (hc.ext ((Ext.refl _).alloc _)) (by omega) (by omega) (by simp) ?_)
  intro v' w' hown hg;go_wp2;go_ret;exact RetV.mk hown (((Ext.refl _).alloc _).grown hg (by intro k h;simp[Value.ownBlock]at h;omega))
section
variable {P:Program}
def dvals (dep:Nat→List Nat) (vs:List Value) (i:Nat):List Value:=(dep i).map (fun d=>vs.getD d undef)
def depOkB (l:List Oper) (n:Nat) (dep:Nat→List Nat):Bool:=(List.range n).all (fun i=>(dep i).all (fun d=>waitsB l i d))
def OneD (V:Nat→Value→List Value→World→Prop) (dep:Nat→List Nat) (cons:Nat→Option Nat) (D:List (Nat×Nat)) (n m:Nat) (I:World→Prop) (i:Nat) (o:Oper) (vs0:List Value) (a:Act) (w:World):Exit→Act→World→Prop :=
 fun e a' w'=>e=.normal∧∃v,a'=a.put o.dst v∧V i v (dvals dep vs0 i) w'∧I w'∧∀j u us,j < n+m→j≠i→cons j≠some i→(j,i)∉D→(∀c,cons j=some c→(i,c)∉D)→V j u us w→V j u us w'
theorem wp_of_oneD {V:Nat→Value→List Value→World→Prop} {dep:Nat→List Nat} {cons:Nat→Option Nat} {D:List (Nat×Nat)} {n m:Nat} {I:World→Prop} {o:Oper} {a:Act} {w:World} {K:Act→World→Prop} {Q:Exit→Act→World→Prop} {ops:Array Oper} {i:Nat} {vs0:List Value} (ho:ops[i]?=some o)
  (h:wpList P ops (OneD V dep cons D n m I i o vs0 a w) [o] a w) (hK:∀v w',V i v (dvals dep vs0 i) w'→I w'→(∀j u us,j < n+m→j≠i→cons j≠some i→(j,i)∉D→(∀c,cons j=some c→(i,c)∉D)→V j u us w→V j u us w')→K (a.put o.dst v) w'):wpOp P ops Q i K a w:=by
 have hno:¬LetsOut (OneD V dep cons D n m I i o vs0 a w):=by rintro⟨a',w',h',_⟩;cases h'
 unfold wpOp;simp only[ho];simp only[wpList]at h
 split
 ·rename_i hw;rw[if_pos hw]at h;left
  rcases h with h|⟨_,h⟩
  ·unfold Oper.wp at *;generalize (execOp a.eval o).run P w=r at *
   cases r with
   | ok x w1 =>
    cases x<;>simp only[Oper.upon]at h ⊢
    case enter f args => exact h.mono fun e w2 he => by
                          cases e with
                          | returned v=>obtain⟨_,u,h1,h2,h3,h4⟩:=he;show K _ _;rw[h1];exact hK u w2 h2 h3 h4
                          | panicked ch=>obtain⟨h1,_⟩:=he;cases h1
                          | outgrown=>exact absurd he hno
    case row r1 args=>exact h.mono fun v w2 he=>by obtain⟨_,u,h1,h2,h3,h4⟩:=he;rw[h1];exact hK u w2 h2 h3 h4
    all_goals(obtain⟨_,u,h1,h2,h3,h4⟩:=h;rw[h1];exact hK u _ h2 h3 h4)
   | halt x w1=>cases x<;>simp only[Oper.upon]at h ⊢<;>(obtain⟨h1,_⟩:=h;cases h1)
  ·exact absurd h hno
 ·rename_i hw;rw[if_neg hw]at h;obtain⟨_,u,h1,h2,h3,h4⟩:=h;rw[h1];exact hK u w h2 h3 h4
def WaitsD (V:Nat→Value→List Value→World→Prop) (dep:Nat→List Nat) (cons:Nat→Option Nat) (i:Nat) (o:Oper) (vs:List Value) (w:World):Prop :=
 ∀e∈o.after.toList,Region.binds .any e=true→(cons e.on=none∨cons e.on=some i)→V e.on (vs.getD e.on undef) (dvals dep vs e.on) w
def RestD (V:Nat→Value→List Value→World→Prop) (cons:Nat→Option Nat) (n m i:Nat) (w:World):Prop :=
 ∀r,r < m→(cons (n+r)=none∨cons (n+r)=some i)→V (n+r) undef [] w
structure HInvD (V:Nat→Value→List Value→World→Prop) (dep:Nat→List Nat) (cons:Nat→Option Nat) (l:List Oper) (n m:Nat) (a0:Act) (I:Nat→World→Prop) (f:Nat) (listed:Array Bool) (a:Act) (w:World):Prop where
 head:HeadInv .any l.toArray n listed
 ext:∃k,k+f=n∧I k w
 rest:∀r,r < m→(∀c,cons (n+r)=some c→listed.getD c false=false)→V (n+r) undef [] w
 vals:∃vs:List Value,vs.length=n∧a=putAll a0 (l.take n) vs∧∀i,i < n→listed.getD i false=true→(∀c,cons i=some c→listed.getD c false=false)→V i (vs.getD i undef) (dvals dep vs i) w
theorem wpAny_headD {V:Nat→Value→List Value→World→Prop} {dep:Nat→List Nat} {cons:Nat→Option Nat} {D:List (Nat×Nat)} {l:List Oper} {n m:Nat} {a0:Act} {I:Nat→World→Prop} {Q:Exit→Act→World→Prop} (hn:n≤l.length)
  (hH:headB l a0.tmps.size n=true) (hT:tailB l n=true) (hS:Region.seqB .any l.toArray (l.length - n) n (markN n l.length)=true) (hD:depsB l n D=true) (hdep:depOkB l n dep=true)
  (hstep:∀i o,i < n→l[i]?=some o→∀k,k < n→∀vs w,vs.length=n→I k w→WaitsD V dep cons i o vs w→RestD V cons n m i w→wpList P l.toArray (OneD V dep cons D n m (I (k+1)) i o vs (putAll a0 (l.take n) vs) w) [o] (putAll a0 (l.take n) vs) w)
  (hend:∀vs w,vs.length=n→I n w→(∀i,i < n→cons i=none→V i (vs.getD i undef) (dvals dep vs i) w)→(∀r,r < m→cons (n+r)=none→V (n+r) undef [] w)→wpList P l.toArray Q (l.drop n) (putAll a0 (l.take n) vs) w) :
  ∀(f:Nat) (listed:Array Bool) (a:Act) (w:World),unlisted listed n=f→HInvD V dep cons l n m a0 I f listed a w→wpAny P .any l.toArray Q (f+(l.length - n)) listed a w:=by
 have hop:∀i o,i < n→l[i]?=some o→(∀d,o.dst=some d→∀j o',(l.take n)[j]?=some o'→j≠i→o'.dst≠some d)∧(∀e∈o.after.toList,Region.binds .any e=true→e.on < i):=by
  intro i o hi ho;have h1:=List.all_eq_true.1 hH i (List.mem_range.2 hi);simp only[ho,Bool.and_eq_true]at h1;refine⟨fun d hd j o' hj hne=>?_,fun e he hb=>?_⟩
  ·have h2:=h1.1;simp only[hd,Bool.and_eq_true]at h2
   have hjn:j < n:=by
    have:=(List.getElem?_eq_some_iff.1 hj).1;simp at this;omega
   have h3:=List.all_eq_true.1 h2.2 j (List.mem_range.2 hjn);rw[List.getElem?_take,if_pos hjn]at hj;simp only[hj,Bool.or_eq_true,decide_eq_true_eq]at h3;exact h3.resolve_left hne
  ·have h3:=List.all_eq_true.1 h1.2 e he;simp only[Bool.or_eq_true,Bool.not_eq_true',hb,decide_eq_true_eq]at h3;exact h3.resolve_left (by simp)
 have htailno:∀listed,HeadInv .any l.toArray n listed→(∃i,i < n∧listed.getD i true=false)→∀t,n≤t→t∉Region.ready .any l.toArray listed:=by
  intro listed inv ⟨i,hi,hun⟩ t ht;simp only[tailB,Bool.or_eq_true,Bool.and_eq_true,decide_eq_true_eq]at hT
  rcases hT with h|h
  ·intro hr;obtain⟨_,o,ho,_⟩:=mem_ready.1 hr;have:=(Array.getElem?_eq_some_iff.1 ho).1;simp at this;omega
  ·exact tail_waits h.1.2 h.2 (by simpa using h.1.1) inv _ i rfl hi hun t ht
 intro f
 induction f with
 | zero =>
  intro listed a w hf inv;obtain⟨vs,hvl,rfl,hV⟩:=inv.vals;have hall:=unlisted_zero hf
  have hlist:listed=markN n l.length:=by
   apply Array.ext_getElem?;intro i;have hsz:=inv.head.size;simp only[List.size_toArray]at hsz
   by_cases hi:i < l.length
   ·have hil:i < listed.size:=by omega
    rw[Array.getElem?_eq_getElem hil]
    by_cases hin:i < n
    ·have:=hall i hin;simp only[Array.getD_eq_getD_getElem?,Array.getElem?_eq_getElem hil,Option.getD_some]at this;simp[markN,hi,hin,this]
    ·have:=inv.head.tail i (by omega) (by simpa using hi);simp only[Array.getD_eq_getD_getElem?,Array.getElem?_eq_getElem hil,Option.getD_some]at this;simp[markN,hi,hin,this]
   ·rw[Array.getElem?_eq_none (by omega),Array.getElem?_eq_none (by simp[markN];omega)]
  obtain⟨kz,hkz,hIz⟩:=inv.ext
  have hIn:I n w:=by rw[show n=kz by omega];exact hIz
  rw[hlist];have:=wpAny_of_seq (P:=P) (md:=.any) (Q':=Q) (ops:=l.toArray) (l.drop n) n (markN n l.length) (putAll a0 (l.take n) vs) w (fun j=>by simp[List.getElem?_drop]) (by rw[List.length_drop];exact hS) (hend vs w hvl hIn (fun i hi hc=>hV i hi (hall i hi) (by rw[hc];simp)) (fun r hr hc=>inv.rest r hr (by rw[hc];simp)));rw[List.length_drop]at this;rw[Nat.zero_add];exact this
 | succ f ih =>
  intro listed a w hf inv;rw[show f+1+(l.length - n)=(f+(l.length - n))+1 by omega];obtain⟨vs,hvl,rfl,hV⟩:=inv.vals;obtain⟨i0,hi0,hun0,hmin⟩:=unlisted_pos (show unlisted listed n≠0 by omega);have hsz:=inv.head.size;simp only[List.size_toArray]at hsz;have hun0':listed.getD i0 true=false:=getD_in (by omega) hun0;refine⟨fun hnil=>?_,fun i hi=>?_⟩
  ·exfalso;obtain⟨o,ho⟩:∃o,l[i0]?=some o:=⟨_,List.getElem?_eq_getElem (by omega)⟩;have:i0∈Region.ready .any l.toArray listed:=mem_ready.2 ⟨hun0',o,by simpa using ho,fun e he hb=>hmin _ ((hop i0 o hi0 ho).2 e (by simpa using he) hb)⟩;rw[hnil]at this
   cases this
  ·have hin:i < n:=by
    rcases Nat.lt_or_ge i n with h|h
    ·exact h
    ·exact absurd hi (htailno listed inv.head ⟨i0,hi0,hun0'⟩ i h)
   obtain⟨hun,o,ho,hall⟩:=mem_ready.1 hi
   have ho':l[i]?=some o:=by simpa using ho
   have hunf:listed.getD i false=false:=getD_both hun
   have hdm:∀j d,j < n→d∈dep j→waitsB l j d=true:=fun j d hj hd=>List.all_eq_true.1 (List.all_eq_true.1 hdep j (List.mem_range.2 hj)) d hd
   have hself:∀v,dvals dep (vs.set i v) i=dvals dep vs i:=fun v=>by
    unfold dvals;refine List.map_congr_left (fun d hd=>?_);have h1:=hdm i d hin hd;simp only[waitsB,ho']at h1;obtain⟨e,he,h2⟩:=List.any_eq_true.1 h1;simp only[Bool.and_eq_true,decide_eq_true_eq]at h2;have h3:=(hop i o hin ho').2 e he h2.1;rw[List.getD_eq_getElem?_getD,List.getElem?_set_ne (by omega),←List.getD_eq_getElem?_getD]
   have hoth:∀v j,j≠i→j < n→listed.getD j false=true→dvals dep (vs.set i v) j=dvals dep vs j:=fun v j hji hj hlj=>by
    unfold dvals;refine List.map_congr_left (fun d hd=>?_);have h1:=hdm j d hj hd;obtain⟨oj,hoj⟩:∃oj,l[j]?=some oj:=⟨_,List.getElem?_eq_getElem (by omega)⟩;simp only[waitsB,hoj]at h1;obtain⟨e,he,h2⟩:=List.any_eq_true.1 h1;simp only[Bool.and_eq_true,decide_eq_true_eq]at h2;have h3:=inv.head.closed j oj (by simpa using hoj) hlj e (by simpa using he) h2.1;rw[h2.2]at h3
    have hdi:i≠d:=fun e=>by rw[←e,hunf]at h3;cases h3
    rw[List.getD_eq_getElem?_getD,List.getElem?_set_ne hdi,←List.getD_eq_getElem?_getD]
   have hno2:∀j,(∀c,cons j=some c→listed.getD c false=false)→∀c,cons j=some c→(i,c)∉D:=fun j hj c hc hm=>by
    have h1:=List.all_eq_true.1 hD (i,c) hm;simp only[Bool.and_eq_true,waitsB,ho']at h1;obtain⟨e,he,h2⟩:=List.any_eq_true.1 h1.2;simp only[Bool.and_eq_true,decide_eq_true_eq]at h2;have h3:=hall e (by simpa using he) h2.1;rw[h2.2,hj c hc]at h3
    cases h3
   obtain⟨kk,hkk,hIk⟩:=inv.ext
   refine wp_of_oneD ho (hstep i o hin ho' kk (by omega) vs w hvl hIk (fun e he hb hc=>hV e.on (by have:=(hop i o hin ho').2 e he hb;omega) (hall e (by simpa using he) hb) (fun c hcc=>by
    rcases hc with hc|hc
    ·rw[hc]at hcc;cases hcc
    ·rw[hc]at hcc;cases hcc;exact hunf)) (fun r hr hc=>inv.rest r hr (fun c hcc=>by
    rcases hc with hc|hc
    ·rw[hc]at hcc;cases hcc
    ·rw[hc]at hcc;cases hcc;exact hunf))) (fun v w' hv hE hkeep=>?_)
   refine ih _ _ _ (by have:=unlisted_set hin hun;omega) ⟨inv.head.set hi hin,⟨kk+1,by omega,hE⟩,fun r hr hcr=>?_,vs.set i v,by simpa using hvl,?_,fun j hj hlj hcj=>?_⟩
   ·have hil:i < listed.size:=by omega
    have hci:cons (n+r)≠some i:=fun e=>by
     have:=hcr i e;rw[show(listed.setIfInBounds i true).getD i false=true by simp[hil]]at this
     cases this
    have hnd:(n+r,i)∉D:=fun hm=>by
     have h1:=List.all_eq_true.1 hD (n+r,i) hm;simp only[Bool.and_eq_true,decide_eq_true_eq]at h1;omega
    have hun2:∀c,cons (n+r)=some c→listed.getD c false=false:=fun c hc=>by
     have h2:=hcr c hc
     have hne:i≠c:=fun e=>hci (by rw[e];exact hc)
     rwa [getD_set_ne false hne]at h2
    exact hkeep (n+r) _ _ (by omega) (by omega) hci hnd (hno2 _ hun2) (inv.rest r hr hun2)
   ·exact putAll_put a0 (l.take n) vs i o v (by rw[List.getElem?_take,if_pos hin];exact ho') (by simp;omega) (hop i o hin ho').1
   ·by_cases hij:i=j
    ·subst hij;rw[List.getD_eq_getElem?_getD,List.getElem?_set_self (by omega),hself v];exact hv
    ·rw[getD_set_ne false hij]at hlj;rw[List.getD_eq_getElem?_getD,List.getElem?_set_ne hij,←List.getD_eq_getElem?_getD]
     have hil:i < listed.size:=by omega
     have hci:cons j≠some i:=fun e=>by
      have:=hcj i e;rw[show(listed.setIfInBounds i true).getD i false=true by simp[hil]]at this
      cases this
     have hnd:(j,i)∉D:=fun hm=>by
      have h1:=List.all_eq_true.1 hD (j,i) hm;simp only[Bool.and_eq_true,waitsB]at h1;obtain⟨oj,hoj⟩:∃oj,l[j]?=some oj:=⟨_,List.getElem?_eq_getElem (by omega)⟩;rw[hoj]at h1;obtain⟨e,he,h2⟩:=List.any_eq_true.1 h1.2;simp only[Bool.and_eq_true,decide_eq_true_eq]at h2;have h3:=inv.head.closed j oj (by simpa using hoj) hlj e (by simpa using he) h2.1;rw[h2.2,hunf]at h3
      cases h3
     have hun2:∀c,cons j=some c→listed.getD c false=false:=fun c hc=>by
      have h2:=hcj c hc
      have hne:i≠c:=fun e=>hci (by rw[e];exact hc)
      rwa [getD_set_ne false hne]at h2
     rw[hoth v j (fun e=>hij e.symm) hj hlj];exact hkeep j _ _ (by omega) (fun e=>hij e.symm) hci hnd (hno2 _ hun2) (hV j hj hlj hun2)
theorem wp_region_d {V:Nat→Value→List Value→World→Prop} (dep:Nat→List Nat) (I:Nat→World→Prop) (cons:Nat→Option Nat) (D:List (Nat×Nat)) {l:List Oper} (n m:Nat) {id:Nat} {a0:Act} {w:World} {Q:Exit→Act→World→Prop} (hm:P.follows .mixedOrders=true)
  (hn:n≤l.length) (hH:headB l a0.tmps.size n=true) (hT:tailB l n=true) (hS:Region.seqB .any l.toArray (l.length - n) n (markN n l.length)=true) (hD:depsB l n D=true) (hdep:depOkB l n dep=true)
  (hI0:I 0 w.drew) (hR0:∀r,r < m→V (n+r) undef [] w.drew)
  (hstep:∀i o,i < n→l[i]?=some o→∀k,k < n→∀vs w2,vs.length=n→I k w2→WaitsD V dep cons i o vs w2→RestD V cons n m i w2→wpList P l.toArray (OneD V dep cons D n m (I (k+1)) i o vs (putAll a0 (l.take n) vs) w2) [o] (putAll a0 (l.take n) vs) w2)
  (hend:∀vs w2,vs.length=n→I n w2→(∀i,i < n→cons i=none→V i (vs.getD i undef) (dvals dep vs i) w2)→(∀r,r < m→cons (n+r)=none→V (n+r) undef [] w2)→wpList P l.toArray Q (l.drop n) (putAll a0 (l.take n) vs) w2) :
  (Code.region id l.toArray true).wp P Q a0 w:=by
 refine wp_region_any hm ?_
 have hdst:∀o∈l.take n,∀d,o.dst=some d→d < a0.tmps.size:=by
  intro o ho d hd;obtain⟨i,hi⟩:=List.getElem?_of_mem ho
  have hin:i < n:=by
   have:=(List.getElem?_eq_some_iff.1 hi).1;simp at this;omega
  rw[List.getElem?_take,if_pos hin]at hi;have h1:=List.all_eq_true.1 hH i (List.mem_range.2 hin);simp only[hi,hd,Bool.and_eq_true,decide_eq_true_eq]at h1;exact h1.1.1
 have hu:unlisted (Array.replicate l.length false) n=n:=by
  unfold unlisted;rw[List.filter_eq_self.2 (by intro i hi;rw[getD_replicate_false];rfl)];simp
 have:=wpAny_headD (P:=P) (dep:=dep) (Q:=Q) (a0:=a0) (I:=I) hn hH hT hS hD hdep hstep hend n (Array.replicate l.length false) a0 w.drew hu
  ⟨⟨by simp,fun j oj _ hl=>(by rw[getD_replicate_false]at hl;cases hl),fun t _ ht=>getD_in (by simpa using ht) (getD_replicate_false _ _)⟩,⟨0,by omega,hI0⟩,fun r hr _=>hR0 r hr,oldVals a0 (l.take n),by simp[oldVals];omega,(putAll_old a0 _ hdst).symm,fun i _ hl=>(by rw[getD_replicate_false]at hl;cases hl)⟩
 rw[show n+(l.length - n)=l.toArray.size by simp;omega]at this;exact this
end
theorem OneD.mk {V:Nat→Value→List Value→World→Prop} {dep:Nat→List Nat} {cons:Nat→Option Nat} {D:List (Nat×Nat)} {n m:Nat} {I:World→Prop} {i:Nat} {o:Oper} {vs0:List Value} {a a':Act} {w w':World} (hst:∀i v us w w',V i v us w→Ext w w'→V i v us w') {v:Value} (ha:a'=a.put o.dst v) (hV:V i v (dvals dep vs0 i) w') (hI:I w') (hE:Ext w w') :
  OneD V dep cons D n m I i o vs0 a w .normal a' w':=⟨rfl,v,ha,hV,hI,fun j u us _ _ _ _ _ h=>hst j u us w w' h hE⟩
def VCp (w:World) (B:Nat) (an ak:Option Addr) (cn ck:Nat) (N:List ByteArray) (K:List Int) (H:List Pl):Nat→Value→List Value→World→Prop:=fun i v us wv=>match i with
 | 0=>v=.pointer (some ⟨B,5,none⟩)
 | 1=>v=.slice an N.length cn
 | 2=>Sep w wv (plRow 9 1 encStr1 v N :: H)
 | 3=>v=.pointer (some ⟨B,6,none⟩)
 | 4=>v=.slice ak K.length ck
 | 5=>Sep w wv (plRow 3 1 encInt1 v K :: plRow 9 1 encStr1 (us.getD 0 undef) N :: H)
 | 6=>v=.pointer (some ⟨B,5,none⟩)
 | _=>True
theorem VCp.ext {w:World} {B:Nat} {an ak:Option Addr} {cn ck:Nat} {N:List ByteArray} {K:List Int} {H:List Pl} (i:Nat) (v:Value) (us:List Value) (w1 w2:World) (h:VCp w B an ak cn ck N K H i v us w1) (hE:Ext w1 w2):VCp w B an ak cn ck N K H i v us w2:=by
 match i with
 | 0|1|3|4|6=>exact h
 | 2=>exact SepM.step (show Sep w w1 _ from h) hE
 | 5=>exact SepM.step (show Sep w w1 _ from h) hE
 | (n+7)=>trivial
theorem implCopy (a:Option Addr) (cap:Nat) (T:List Nd) (w:World) (hl:T.length≤1048576) (hT:∀x∈T,SmN 1048576 x) (hc:RdN w a T) :
  Calls Tryz.prog 46 #[.slice a T.length cap] w (RetTree T w):=by
 have HT:=hd0 hT;clear hT
 go_enter Tryz.func46,Tryz.ntmps46
 have S:=Sep.start w;replace S:Sep w (w.alloc (.cells #[] 89)) [plRow 89 7 encNc (.slice (some ⟨w.heap.size,0,none⟩) 0 0) []]:=S.lit0 (by simp) _ _ _;have S0:=S.gPure (P:=pinNd) (T:=([]:List Nd)) 0 rfl rfl (fun k s t hs=>by simp at hs) (fun s hs=>by simp at hs)
 go_upto_region 2 with fail
 have S1:Sep w (w.alloc (.cells #[] 89)) [plNd (.slice (some ⟨w.heap.size,0,none⟩) 0 0) [] []]:=S0;clear S0 S;generalize (w.alloc (.cells #[] 89))=w1 at *;go_wp2
 go_loopw [3,5,9] (fun o _ i wr=>∃(k:Nat) (u:Value) (vs:List Nc),k≤T.length∧i=.int .i64 k∧u=o∧Sep w wr [plNd u vs (T.take k)]) (fun _ _ i _=>T.length - (intOf i).toNat)
 case atStart=>exact⟨0,_,[],Nat.zero_le _,rfl,rfl,S1⟩
 case round =>
  clear S1;obtain⟨k,u,vs,hk,rfl,rfl,S⟩:=hrel
  by_cases hlt:k < T.length
  rotate_left
  ·obtain rfl:k=T.length:=by omega
   have hni:¬(T.length:Int) < (T.length:Int):=by omega
   rw[List.take_length]at S;go_wp2;go_ret;exact⟨_,vs,rfl,S⟩
  ·obtain⟨x,b',off,an,cn,ak,ck,hx,rfl,c0,c1,c2,c3,c4,c5,c6,hcn,hck,hrn,hrk⟩:=atNd hc hlt;have Hx:=hd0 hx;have hsx:=HT.out x (List.mem_of_getElem? hx);have hNl:x.N.length≤1048576:=hsx.2.1;have hKl:x.K.length≤1048576:=hsx.2.2.2
   have i0:(k:Int) < (T.length:Int):=by omega
   have hE:=S.ext;have d0:=cell_ext hE c0;have d1:=cell_ext hE c1;have d2:=cell_ext hE c2;have d3:=cell_ext hE c3;have d4:=cell_ext hE c4;have d5:=cell_ext hE c5;have d6:=cell_ext hE c6;have Hrn:=hd0 hrn;have Hrk:=hd0 hrk;clear hx hsx c0 c1 c2 c3 c4 c5 c6 hcn hck hrn hrk hE;replace S:=S.alloc_at (n:=wr.heap.size) (by simp) #[.bool x.fold,.int .i64 x.own,.int .i64 x.grp,.int .i64 x.mode,.string x.text,.slice an x.N.length cn,.slice ak x.K.length ck] 89
   go_upto_region 5 with fail
   clear d0 d1 d2 d3 d4 d5 d6;generalize (wr.alloc (.cells #[.bool x.fold,.int .i64 x.own,.int .i64 x.grp,.int .i64 x.mode,.string x.text,.slice an x.N.length cn,.slice ak x.K.length ck] 89))=wA at *;generalize wr.heap.size=B at *;have Sd:Sep w (World.drew wA) [plBox B #[.bool x.fold,.int .i64 x.own,.int .i64 x.grp,.int .i64 x.mode,.string x.text,.slice an x.N.length cn,.slice ak x.K.length ck] 89,plNd u vs (T.take k)]:=S.drew;obtain⟨nb5,_⟩:=bx (Sd.box 0 rfl) 5 rfl;obtain⟨nb6,_⟩:=bx (Sd.box 0 rfl) 6 rfl;clear S;refine wp_region_d (V:=VCp w B an ak cn ck x.N x.K [plBox B #[.bool x.fold,.int .i64 x.own,.int .i64 x.grp,.int .i64 x.mode,.string x.text,.slice an x.N.length cn,.slice ak x.K.length ck] 89,plNd u vs (T.take k)]) (fun i=>if i=5 then[2]else[]) (fun _ wv=>Ext (World.drew wA) wv) (fun _=>none) [] 7 0 rfl (by decide) (by kernel_rfl) (by kernel_rfl) (by kernel_rfl) (by kernel_rfl) (by kernel_rfl) (Ext.refl _) (fun r hr=>by omega) ?_ ?_
   ·intro i o hi ho k2 hk2 vz w4 hvl hE hd hrest;clear hrest
    match vz,hvl with
    | [y0,y1,y2,y3,y4,y5,y6],_ =>
    rcases lc7 hi with rfl|rfl|rfl|rfl|rfl|rfl|rfl
    all_goals
     obtain rfl:=Option.some.inj ho
    ·clear hd;simp[putAll,Act.put];go_wp2;exact OneD.mk (VCp.ext) rfl rfl hE (Ext.refl _)
    ·have q1:y0=.pointer (some ⟨B,5,none⟩):=hd ⟨0,.data⟩ (by simp) rfl (.inl rfl);have c5:=cell_ext hE nb5;subst q1;clear hd;simp[putAll,Act.put];go_wp2;exact OneD.mk (VCp.ext) rfl rfl hE (Ext.refl _)
    ·have q1:y1=.slice an x.N.length cn:=hd ⟨1,.data⟩ (by simp) rfl (.inl rfl);have HC:=hd0 (cloneStr_any an cn _ x.N w4 rfl hNl (Hrn.out.ext (Sd.ext.trans hE)));subst q1;clear hd;simp[putAll,Act.put]
     go_wp2_with fail
     refine HC.out.mono ?_;rintro e w5 ⟨v5,rfl,ho5,hE5⟩;have S5:=(Sd.step hE).cons (p:=plRow 9 1 encStr1 v5 x.N) hE5 (ownsRow_base ho5 (Nat.zero_le _)) (fun b hb=>(World.ownsRow.lt ho5 b hb).1);clear HC ho5;go_wp2;exact OneD.mk (VCp.ext) rfl S5 (hE.trans hE5) hE5
    ·clear hd;simp[putAll,Act.put];go_wp2;exact OneD.mk (VCp.ext) rfl rfl hE (Ext.refl _)
    ·have q1:y3=.pointer (some ⟨B,6,none⟩):=hd ⟨3,.data⟩ (by simp) rfl (.inl rfl);have c6:=cell_ext hE nb6;subst q1;clear hd;simp[putAll,Act.put];go_wp2;exact OneD.mk (VCp.ext) rfl rfl hE (Ext.refl _)
    ·have q1:y4=.slice ak x.K.length ck:=hd ⟨4,.data⟩ (by simp) rfl (.inl rfl);have S2:Sep w w4 (plRow 9 1 encStr1 y2 x.N :: [plBox B #[.bool x.fold,.int .i64 x.own,.int .i64 x.grp,.int .i64 x.mode,.string x.text,.slice an x.N.length cn,.slice ak x.K.length ck] 89,plNd u vs (T.take k)]):=hd ⟨2,.chain⟩ (by simp) rfl (.inl rfl);have HC:=hd0 (cloneInt_any ak ck _ x.K w4 rfl hKl (Hrk.out.ext (Sd.ext.trans hE)));subst q1;clear hd;simp[putAll,Act.put]
     go_wp2_with fail
     refine HC.out.mono ?_;rintro e w5 ⟨v5,rfl,ho5,hE5⟩;have S5:=S2.cons (p:=plRow 3 1 encInt1 v5 x.K) hE5 (ownsRow_base ho5 (Nat.zero_le _)) (fun b hb=>(World.ownsRow.lt ho5 b hb).1);clear HC ho5;go_wp2;exact OneD.mk (VCp.ext) rfl S5 (hE.trans hE5) hE5
    ·clear hd;simp[putAll,Act.put];go_wp2;exact OneD.mk (VCp.ext) rfl rfl hE (Ext.refl _)
   ·intro vz wB hvl hE hV _
    match vz,hvl with
    | [y0,y1,y2,y3,y4,y5,y6],_ =>
    have S5:Sep w wB [plRow 3 1 encInt1 y5 x.K,plRow 9 1 encStr1 y2 x.N,plBox B #[.bool x.fold,.int .i64 x.own,.int .i64 x.grp,.int .i64 x.mode,.string x.text,.slice an x.N.length cn,.slice ak x.K.length ck] 89,plNd u vs (T.take k)]:=hV 5 (by omega) rfl;have q6:y6=.pointer (some ⟨B,5,none⟩):=hV 6 (by omega) rfl;clear hV hE Sd nb5 nb6;obtain⟨a5,k5,hy5,_,_,_⟩:=view_owns encStr1_len (S5.row 1 rfl);obtain⟨a6,k6,hy6,_,_,_⟩:=view_owns encInt1_len (S5.row 0 rfl);subst q6 hy5 hy6;have S:=S5;clear S5;simp only[putAll,Act.put,List.take_succ_cons,List.take_zero,List.drop_succ_cons,List.drop_zero];simp;obtain⟨⟨nbc0,nbf0⟩,⟨nbc1,nbf1⟩,⟨nbc2,nbf2⟩,⟨nbc3,nbf3⟩,⟨nbc4,nbf4⟩,⟨nbc5,nbf5⟩,⟨nbc6,nbf6⟩⟩:=bx7 (S.box 2 rfl)
    go_upto_region 6 with fail
    clear nbc0 nbf0 nbc1 nbf1 nbc2 nbf2 nbc3 nbf3 nbc4 nbf4 nbc5 nbf5 nbc6 nbf6;replace S:Sep w ((wB.setCell ⟨B,5,none⟩ (.slice a5 x.N.length k5)).setCell ⟨B,6,none⟩ (.slice a6 x.K.length k6)) [plRow 3 1 encInt1 (.slice a6 x.K.length k6) x.K,plRow 9 1 encStr1 (.slice a5 x.N.length k5) x.N,plBox B #[.bool x.fold,.int .i64 x.own,.int .i64 x.grp,.int .i64 x.mode,.string x.text,.slice a5 x.N.length k5,.slice a6 x.K.length k6] 89,plNd u vs (T.take k)]:=(S.set 2 rfl 5 _).set 2 rfl 6 _;generalize ((wB.setCell ⟨B,5,none⟩ (.slice a5 x.N.length k5)).setCell ⟨B,6,none⟩ (.slice a6 x.K.length k6))=wC at *;have S7:=S.ofRows 1 0 (⟨x,a5,k5,a6,k6⟩:Nc) rfl rfl (by decide);clear S;have S:Sep w wC [pinNd.one (⟨x,a5,k5,a6,k6⟩:Nc) x,plBox B #[.bool x.fold,.int .i64 x.own,.int .i64 x.grp,.int .i64 x.mode,.string x.text,.slice a5 x.N.length k5,.slice a6 x.K.length k6] 89,plNd u vs (T.take k)]:=S7;clear S7
    have hvl:vs.length=k:=by
     have:=plG_len (S.at_ 2 rfl);rw[List.length_take]at this;omega
    have hvs:vs.length≤1048576:=by omega
    have HS:=hd0 S;obtain⟨⟨nbc0,nbf0⟩,⟨nbc1,nbf1⟩,⟨nbc2,nbf2⟩,⟨nbc3,nbf3⟩,⟨nbc4,nbf4⟩,⟨nbc5,nbf5⟩,⟨nbc6,nbf6⟩⟩:=bx7 (S.box 1 rfl);have SA:=S.alloc #[.bool x.fold,.int .i64 x.own,.int .i64 x.grp,.int .i64 x.mode,.string x.text,.slice a5 x.N.length k5,.slice a6 x.K.length k6] 89;have rd1:Rd 7 encNc (wC.alloc (.cells #[.bool x.fold,.int .i64 x.own,.int .i64 x.grp,.int .i64 x.mode,.string x.text,.slice a5 x.N.length k5,.slice a6 x.K.length k6] 89)) (some ⟨wC.heap.size,0,none⟩) [(⟨x,a5,k5,a6,k6⟩:Nc)]:=rd_lit_new [(⟨x,a5,k5,a6,k6⟩:Nc)] encNc_len rfl;clear hvl;obtain⟨ua,uc,hu,hucap,_,_⟩:=view_owns encNc_len (SA.gRow (2+1) rfl);have HSA:=hd0 SA;subst hu
    go_wp2_with (at_builtin;refine Hid.out (?_:Hid _))
    unfold Hid;refine wpList_append_b rfl _ _ 28 rfl w.heap.size 89 _ 7 _ Tryz.underlying28 infoNd rfl (by decide) encNc_len encNc_one _ vs.length vs rfl (HSA.out.gRow (2+1) rfl) rfl (some ⟨wC.heap.size,0,none⟩) 1 1 [(⟨x,a5,k5,a6,k6⟩:Nc)] rfl rfl rd1 (by omega) (by omega) HSA.out.chg.size ?_;intro v7 w7 ho hgr hblk
    have SM:=(HSA.out.gPush (2+1) (0+1) rfl rfl (by decide) hgr ho hblk).keep [plNd v7 (vs++[(⟨x,a5,k5,a6,k6⟩:Nc)]) (T.take k++[x])] (by
     refine List.Sublist.cons _ (List.Sublist.cons _ ?_)
     exact List.Sublist.refl _)
    have HN:Hid (T.take k++[x]=T.take (k+1)):=hd0 (by rw[List.take_add_one,Hx.out];rfl);rw[HN.out]at SM;clear ho hgr hblk SA rd1 S HSA HS nbc0 nbc1 nbc2 nbc3 nbc4 nbc5 nbc6 nbf0 nbf1 nbf2 nbf3 nbf4 nbf5 nbf6;go_wp2;go_roundw
    case rel=>exact⟨k+1,v7,_,by omega,by go_num,rfl,SM⟩
    case measure=>simp[intOf];omega
section
variable {P:Program} {α:Type}
theorem kit_setCells (g:Nat):∀(us:List Value) (p:Nat) (w:World),w.setCells g p us=setCells w g p us:=by
 intro us
 induction us with
 | nil=>intro p w;rfl
 | cons u us ih=>intro p w;exact ih (p+1) _
theorem setAll_eq (us:List Value):∀(xs:List Value) (p:Nat),p+us.length≤xs.length→setAll xs p us=xs.take p++us++xs.drop (p+us.length):=by
 intro xs p h;apply List.ext_getElem?;intro i;rw[setAll_at us xs p i h]
 by_cases h1:i < p
 ·rw[if_neg (by omega),List.append_assoc,List.getElem?_append_left (by simp;omega),List.getElem?_take,if_pos h1]
 ·by_cases h2:i < p+us.length
  ·rw[if_pos (by omega),List.append_assoc,List.getElem?_append_right (by simp;omega),List.getElem?_append_left (by simp;omega)];simp only[List.length_take]
   congr 1
   omega
  ·rw[if_neg (by omega),List.append_assoc,List.getElem?_append_right (by simp;omega),List.getElem?_append_right (by simp;omega),List.getElem?_drop];simp only[List.length_take]
   congr 1
   omega
theorem flatMap_take {enc:α→List Value} {nf:Nat} (hn:∀x,(enc x).length=nf) (l:List α) (i:Nat):(l.flatMap enc).take (i*nf)=(l.take i).flatMap enc:=by
 induction l generalizing i with
 | nil=>simp
 | cons x l ih =>
  cases i with
  | zero=>simp
  | succ i=>rw[List.flatMap_cons,List.take_succ_cons,List.flatMap_cons,List.take_append,hn,Nat.add_mul,Nat.one_mul,Nat.add_sub_cancel,ih,List.take_of_length_le (by rw[hn];omega)]
theorem flatMap_drop {enc:α→List Value} {nf:Nat} (hn:∀x,(enc x).length=nf) (l:List α) (i:Nat):(l.flatMap enc).drop (i*nf)=(l.drop i).flatMap enc:=by
 induction l generalizing i with
 | nil=>simp
 | cons x l ih =>
  cases i with
  | zero=>simp
  | succ i=>rw[List.flatMap_cons,List.drop_succ_cons,List.drop_append,hn,Nat.add_mul,Nat.one_mul,Nat.add_sub_cancel,ih,List.drop_of_length_le (by rw[hn];omega),List.nil_append]
theorem del_list {enc:α→List Value} {nf:Nat} (hn:∀x,(enc x).length=nf) (l:List α) (i j:Nat) (hij:i≤j) (hj:j≤l.length) (zs:List Value) (hz:zs.length=(j - i)*nf) :
  (setAll (setAll (l.flatMap enc) (i*nf) ((l.drop j).flatMap enc)) ((i+(l.length - j))*nf) zs).take ((l.length - (j - i))*nf)=(l.take i++l.drop j).flatMap enc:=by
 have hll:=flatMap_length hn l;have hld:=flatMap_length hn (l.drop j);rw[List.length_drop]at hld
 have e1:i*nf+(l.length - j)*nf=(i+(l.length - j))*nf:=by rw[Nat.add_mul]
 have e2:(i+(l.length - j))*nf+(j - i)*nf=l.length*nf:=by rw[←Nat.add_mul];congr 1;omega
 have hs:=setAll_eq ((l.drop j).flatMap enc) (l.flatMap enc) (i*nf) (by rw[hld,hll];omega);rw[hs]
 have hlen:((l.flatMap enc).take (i*nf)++(l.drop j).flatMap enc++(l.flatMap enc).drop (i*nf+((l.drop j).flatMap enc).length)).length=l.length*nf:=by
  simp only[List.length_append,List.length_take,List.length_drop,hld,hll];omega
 rw[setAll_eq zs _ _ (by rw[hlen,hz];omega),List.append_assoc,show l.length - (j - i)=i+(l.length - j)by omega,List.take_append_of_le_length (by rw[List.length_take,hlen];omega),List.take_take,Nat.min_self];rw[List.take_append_of_le_length (by simp only[List.length_append,List.length_take,hld,hll];omega),List.take_of_length_le (by simp only[List.length_append,List.length_take,hld,hll];omega),flatMap_take hn,List.flatMap_append]
theorem owns_shrink {w:World} {base e nf g n m cap:Nat} {xs:List Value} (h:w.ownsRow base e nf (.slice (some ⟨g,0,none⟩) n cap) n xs) (hm:m≤n):w.ownsRow base e nf (.slice (some ⟨g,0,none⟩) m cap) m (xs.take (m*nf)):=by
 have hmul:m*nf≤n*nf:=Nat.mul_le_mul_right _ hm;refine⟨by rw[List.length_take,h.1];omega,.inr ?_⟩
 rcases h.2 with⟨h1,_⟩|⟨g',cap',cur,h1,h2,h3,h4,h5,h6,h7⟩
 ·cases h1
 ·simp only[Value.slice.injEq,Option.some.injEq,Addr.mk.injEq,and_true]at h1;obtain⟨rfl,_,rfl⟩:=h1;refine⟨g,cap,cur,rfl,h2,h3,by omega,h5,h6,?_⟩;rw[←h7,List.take_take,Nat.min_eq_left hmul]
theorem owns_there {w:World} {base e nf g n cap:Nat} {xs:List Value} (h:w.ownsRow base e nf (.slice (some ⟨g,0,none⟩) n cap) n xs) (k:Nat) (hk:k < n*nf):(w.cell? ⟨g,k,none⟩).isSome=true∧w.frozen? ⟨g,k,none⟩=false:=by
 refine⟨?_,h.frozenAt _⟩;rw[h.cellAt k hk,List.getElem?_eq_getElem (by rw[h.1];exact hk)];rfl
theorem owns_bound {w:World} {base e nf g n cap:Nat} {xs:List Value} (h:w.ownsRow base e nf (.slice (some ⟨g,0,none⟩) n cap) n xs):n≤cap∧cap≤9223372036854775807∧base≤g:=by
 rcases h.2 with⟨h1,_⟩|⟨g',cap',cur,h1,h2,h3,h4,h5,h6,h7⟩
 ·cases h1
 ·simp only[Value.slice.injEq,Option.some.injEq,Addr.mk.injEq,and_true]at h1;obtain⟨rfl,_,rfl⟩:=h1;unfold maxLen at h5;exact⟨h4,by omega,h2⟩
theorem run_clear_cells (w:World) (t e ty:TypeId) (z:Value) (nf:Nat) (ht:P.underlying t=some (.slice e)) (hv:∀w,(zeroValue e).run P w=.ok z w) (hz:z.cells.size=nf) (h1:∀u∈z.cells.toList,u.oneCell'=true) (b o n c:Nat) (hn:0 < n)
  (hc:∀j,j < n*nf→(w.cell? ⟨b,o+j,none⟩).isSome=true) (hf:∀j,j < n*nf→w.frozen? ⟨b,o+j,none⟩=false) :
  (Builtin.clear_ #[t] ty #[.slice (some ⟨b,o,none⟩) n c]).run P w=.ok (.tuple #[]) (w.setCells b o (Builtin.zeroCells z.cells n).toList):=by
 have hlen:(Builtin.zeroCells z.cells n).toList.length=n*nf:=by simp[Builtin.zeroCells,hz]
 have hst:=run_storeCells_cells (P:=P) b o (Builtin.zeroCells z.cells n).toList 0 w (by rw[hlen];simpa using hc) (by rw[hlen];simpa using hf) (by
  intro u hu;simp only[Builtin.zeroCells,Array.toList_map,List.mem_map]at hu;obtain⟨i,hi,rfl⟩:=hu
  have hi2:i < n*z.cells.size:=by simpa using hi
  have hpos:0 < z.cells.size:=by
   rcases Nat.eq_zero_or_pos z.cells.size with h|h
   ·rw[h]at hi2;simp at hi2
   ·exact h
  rw[getElem!_pos z.cells _ (Nat.mod_lt _ hpos)]
  exact h1 _ (by simp))
 simp only[Nat.add_zero]at hst;obtain⟨m,rfl⟩:∃m,n=m+1:=⟨n - 1,by omega⟩;simp[Builtin.clear_,run_underlying ht,hv,hst]
end
end Go.Proofs.YtnibbldfohbfkaaGreatDoor
