/- Parts of one proof: what each theorem proves, and its conditions, stand in its own statement. -/
import Derived.Test.YtnibbldfohbfkaaGreatDoorMn14
set_option linter.all false
set_option maxRecDepth 100000
set_option maxHeartbeats 32000000
namespace Go.Proofs.YtnibbldfohbfkaaGreatDoor
open Go.RowKit
theorem specMayDrop (a:Option Addr) (cap:Nat) (T:List Nd) (c:Cr) (s:ByteArray) (w:World) (hs:s.size≤1048576) (hl:T.length≤1048576) (hT:∀x∈T,SmN 1048576 x) (hc:RdN w a T) :
  Calls Tryz.prog 70 #[.slice a T.length cap,.agg #[.int .i64 c.r,.int .i64 c.a,.int .i64 c.s,.int .i64 c.g],.string s] w (RetI (mayDropF T c s false) w):=by
 obtain⟨cr,ca,cs,cg⟩:=c;have HT:=hd0 hT;clear hT;dsimp only
 go_enter Tryz.func70,Tryz.ntmps70
 have S:=Sep.start w;replace S:=S.alloc_at (n:=w.heap.size) (by simp) #[.int .i64 cr,.int .i64 ca,.int .i64 cs,.int .i64 cg] 29
 go_wp2_with fail
 generalize (w.alloc (.cells #[.int .i64 cr,.int .i64 ca,.int .i64 cs,.int .i64 cg] 29))=w1 at *;refine(specAboveOf s w1 hs).mono ?_;rintro e w2 ⟨rfl,hE⟩;replace S:=S.step hE;clear hE;obtain⟨⟨bc0,bf0⟩,⟨bc1,bf1⟩,⟨bc2,bf2⟩,⟨bc3,bf3⟩⟩:=bx4 (S.box 0 rfl);have hab:=abOf_size s
 go_wp2_with fail
 refine(specFindNode a cap T ⟨cr,ca,cs,cg⟩ (abOf s) w2 (by omega) hl HT.out (hc.ext S.ext)).mono ?_;rintro e w3 ⟨rfl,hE⟩;clear bc0 bf0 bc1 bf1 bc2 bf2 bc3 bf3;replace S:=S.step hE;clear hE
 cases hso:(aboveOf s).isSome with
 | false =>
  have HX:=hd0 (md_fault (T:=T) (c:=⟨cr,ca,cs,cg⟩) (full:=false) (by decide) (fa_no hso));clear hso;go_wp2;go_ret;exact⟨by rw[HX.out];rfl,S.ext⟩
 | true =>
  rcases find_cases T ⟨cr,ca,cs,cg⟩ (abOf s)with⟨m,hF,hm,hTr,hCo⟩|⟨f,hf,hF⟩
  rotate_left
  ·have HX:=hd0 (md_fault (full:=false) hf ((fa_fault (T:=T) (c:=⟨cr,ca,cs,cg⟩) hso (by rw[hF];exact hf)).trans (by rw[hF])));rw[hF]
   have tf:(f == 0)=false:=by simpa using hf
   clear hso hF hf;dsimp only;go_wp2;go_ret;exact⟨by rw[HX.out];rfl,S.ext⟩
  ·obtain⟨x,b',off,an,cn,ak,ck,hx,rfl,c0,c1,c2,c3,c4,c5,c6,hcn,hck,hrn,hrk⟩:=atNd hc hm;have Hx:=hd0 hx;have hN:=hTr.nodes m x hx;have HNl:=hd0 hN.len;have hsx:=HT.out x (List.mem_of_getElem? hx);have hNl:x.N.length≤1048576:=hsx.2.1;have HP:=hd0 (fa_at (T:=T) (c:=⟨cr,ca,cs,cg⟩) hso hF hx);have HKp:=hd0 (fun h=>kid_place hN (s:=lastOf s) h);rw[hF]
   have i1:(m:Int) < (T.length:Int):=by omega
   have hE:=S.ext;have d0:=cell_ext hE c0;have d1:=cell_ext hE c1;have d2:=cell_ext hE c2;have d3:=cell_ext hE c3;have d4:=cell_ext hE c4;have d5:=cell_ext hE c5;have d6:=cell_ext hE c6;have Hrn:=hd0 (hrn.ext hE);have Hrk:=hd0 (hrk.ext hE);have HT9:=hd0 (And.intro hTr hCo);have Hso:=hd0 (And.intro hso hF);clear hx hN hsx c0 c1 c2 c3 c4 c5 c6 hcn hck hrn hrk hE hF hTr hso hCo;dsimp only
   cases hf:x.fold with
   | false =>
    have HX:=hd0 (md_fault (full:=false) (by decide) (HP.out.trans (if_pos hf)));rw[hf]at d0;clear hf;go_wp2;go_ret;exact⟨by rw[HX.out];rfl,S.ext⟩
   | true =>
    have Hf:=hd0 hf;have HQ:=hd0 (HP.out.trans (if_neg (by simp[hf])));clear HP;obtain⟨⟨bc0,bf0⟩,⟨bc1,bf1⟩,⟨bc2,bf2⟩,⟨bc3,bf3⟩⟩:=bx4 (S.box 0 rfl)
    have HM:Hid (∀s:ExtW w3,Calls Tryz.prog 74 #[.agg #[.int .i64 cr,.int .i64 ca,.int .i64 cs,.int .i64 cg],.agg #[.bool true,.int .i64 x.own,.int .i64 x.grp,.int .i64 x.mode,.string x.text,.slice an x.N.length cn,.slice ak x.K.length ck],.int .i64 3] s.x fun e w''=>e=.returned (.bool (Cr.may ⟨cr,ca,cs,cg⟩ x 3))∧∃s':ExtW w3,w''=s'.x):=hd0 (fun s=>by
     have hC:=specMay cr ca cs cg 3 x an ak cn ck s.x;rw[hf]at hC
     exact Calls.at_e hC)
    rw[hf]at d0;clear hf
    go_wp2_with fail
    have q0:=ExtW.cell d0;have q1:=ExtW.cell d1;have q2:=ExtW.cell d2;have q3:=ExtW.cell d3;have q4:=ExtW.cell d4;have q5:=ExtW.cell d5;have q6:=ExtW.cell d6;have bl:=ExtW.lt d0;have r0:=ExtW.cell bc0;have r1:=ExtW.cell bc1;have r2:=ExtW.cell bc2;have r3:=ExtW.cell bc3;have br:=ExtW.lt bc0;have S9:=hd0 S;clear d0 d1 d2 d3 d4 d5 d6 bc0 bc1 bc2 bc3 bf0 bf1 bf2 bf3 S
    cases hmay:Cr.may ⟨cr,ca,cs,cg⟩ x 3 with
    | false =>
     have HX:=hd0 (md_fault (full:=false) (by decide) (HQ.out.trans (if_pos hmay)));rw[hmay]at HM;clear hmay
     (refine wp_region_quiet_ext (by kernel_rfl) (by kernel_rfl) ?_;(repeat (go_big_quiet_step ((go_at_call 74;exact HM.out _))));refine wpQuiet_nil ?_;intro _ hw';obtain⟨sq,hw''⟩:=hw';subst hw'')
     obtain⟨w5,hw5⟩:=sq;go_wp2;go_ret;exact⟨by rw[HX.out];rfl,S9.out.ext.trans hw5⟩
    | true =>
     have HQ2:=hd0 (HQ.out.trans (if_neg (by simp[hmay])))
     have hnm:NameOk (lastOf s):=by
      rcases fa_cases T ⟨cr,ca,cs,cg⟩ s with⟨n2,x2,h2⟩|⟨f2,hf2,h2⟩
      ·exact h2.name
      ·have h3:=HQ2.out.symm.trans h2;simp at h3
     have HF:Hid (FaOk T ⟨cr,ca,cs,cg⟩ s m x):=hd0 ⟨HQ2.out,Hx.out,Hf.out,hmay,Hso.out.1,Hso.out.2,HT9.out.1,HT9.out.2,hnm⟩;clear HQ hnm;rw[hmay]at HM;clear hmay
     (refine wp_region_quiet_ext (by kernel_rfl) (by kernel_rfl) ?_;(repeat (go_big_quiet_step ((go_at_call 74;exact HM.out _))));refine wpQuiet_nil ?_;intro _ hw';obtain⟨sq,hw''⟩:=hw';subst hw'')
     obtain⟨w5,hw5⟩:=sq;have p0:=q0 ⟨w5,hw5⟩;have p1:=q1 ⟨w5,hw5⟩;have p2:=q2 ⟨w5,hw5⟩;have p3:=q3 ⟨w5,hw5⟩;have p4:=q4 ⟨w5,hw5⟩;have p5:=q5 ⟨w5,hw5⟩;have p6:=q6 ⟨w5,hw5⟩;have S:=S9.out.step hw5;have hC:=specKid x an ak cn ck (lastOf s) w5 hNl HNl.out (Hrn.out.ext hw5) (Hrk.out.ext hw5);rw[Hf.out]at hC;have HC:=hd0 hC;clear q0 q1 q2 q3 q4 q5 q6 bl r0 r1 r2 r3 br S9 HM hC
     go_wp2_with fail
     refine HC.out.mono ?_;rintro e w6 ⟨rfl,hw6⟩;have d0:=cell_ext hw6 p0;have d1:=cell_ext hw6 p1;have d3:=cell_ext hw6 p3;clear p0 p1 p2 p3 p4 p5 p6 HC;replace S:=S.step hw6
     by_cases hkid:kidOf x.N x.K (lastOf s) < 0
     ·have HX:=hd0 (md_miss (full:=false) HF.out hkid);clear d0 d1 d3;go_wp2;go_ret;exact⟨by rw[HX.out];rfl,S.ext⟩
     ·obtain⟨_,_,_,k4,k5,_⟩:=HKp.out (by omega);obtain⟨kid,hkd⟩:∃kid:Nat,kidOf x.N x.K (lastOf s)=(kid:Int):=⟨_,(Int.toNat_of_nonneg (by omega)).symm⟩;obtain⟨z,b2,off2,zan,zcn,zak,zck,hz,hzb,_,y1,_,_,_,y5,_⟩:=atNd (hc.ext S.ext) (show kid < T.length by omega)
      obtain⟨rfl,rfl⟩:b'=b2∧off=off2:=by simpa using hzb
      have HK:=hd0 (md_kid (full:=false) HF.out hkd hz)
      have i2:(kid:Int) < (T.length:Int):=by omega
      rw[hkd]at hkid ⊢;have z1:=y1;have z5:=y5;clear y1 y5 k4 k5 hkd hz hzb HKp HF HQ2;obtain⟨⟨bc0,bf0⟩,⟨bc1,bf1⟩,⟨bc2,bf2⟩,⟨bc3,bf3⟩⟩:=bx4 (S.box 0 rfl)
      rcases stuck_cases ⟨cr,ca,cs,cg⟩ x z with⟨h1,hst⟩|⟨h1,h2,hst⟩|⟨h1,h2,h3,hst⟩|⟨h1,h2,h3,h4,hst⟩|⟨h1,h2,h3,h4,hst⟩
      ·have Hst:=hd0 hst;have tm:(decide ((512:Int)≤x.mode))=false:=decide_eq_false h1
       have tm2:x.mode < 512:=by omega
       clear h1 hst
       go_wp2_with fail
       have q0:=ExtW.cell d0;have q1:=ExtW.cell d1;have q3:=ExtW.cell d3;have qz1:=ExtW.cell z1;have qz5:=ExtW.cell z5;have bl:=ExtW.lt d0;have r0:=ExtW.cell bc0;have r1:=ExtW.cell bc1;have br:=ExtW.lt bc0;have HSx:=hd0 S;clear d0 d1 d3 z1 z5 bc0 bc1 bc2 bc3 bf0 bf1 bf2 bf3 S
       (refine wp_region_quiet_ext (by kernel_rfl) (by kernel_rfl) ?_;(repeat (go_big_quiet_step ((fail))));refine wpQuiet_nil ?_;intro _ hw';obtain⟨sq,hw''⟩:=hw';subst hw'')
       obtain⟨w9,hw9⟩:=sq;have pz5:=qz5 ⟨w9,hw9⟩;clear q0 q1 q3 qz1 qz5 bl r0 r1 br
       by_cases hz0:0 < z.N.length
       ·have HX:=hd0 (HK.out.trans (by rw[if_neg (by rw[Hst.out];decide),if_pos (by first|exact⟨rfl,hz0⟩|exact⟨trivial,hz0⟩)]))
        have hzi:(0:Int) < (z.N.length:Int):=by omega
        go_wp2;go_ret;exact⟨by rw[HX.out];rfl,HSx.out.ext.trans hw9⟩
       ·have HX:=hd0 (HK.out.trans (by rw[if_neg (by rw[Hst.out];decide),if_neg (fun h=>hz0 h.2)]))
        have hzi:¬(0:Int) < (z.N.length:Int):=by omega
        go_wp2;go_ret;exact⟨by rw[HX.out];rfl,HSx.out.ext.trans hw9⟩
      ·have Hst:=hd0 hst;have tm:(512:Int)≤x.mode:=h1;have ta:ca=0:=h2;subst ta;clear h1 hst
       go_wp2_with fail
       have q0:=ExtW.cell d0;have q1:=ExtW.cell d1;have q3:=ExtW.cell d3;have qz1:=ExtW.cell z1;have qz5:=ExtW.cell z5;have bl:=ExtW.lt d0;have r0:=ExtW.cell bc0;have r1:=ExtW.cell bc1;have br:=ExtW.lt bc0;have HSx:=hd0 S;clear d0 d1 d3 z1 z5 bc0 bc1 bc2 bc3 bf0 bf1 bf2 bf3 S
       (refine wp_region_quiet_ext (by kernel_rfl) (by kernel_rfl) ?_;(repeat (go_big_quiet_step ((fail))));refine wpQuiet_nil ?_;intro _ hw';obtain⟨sq,hw''⟩:=hw';subst hw'')
       obtain⟨w9,hw9⟩:=sq;have pz5:=qz5 ⟨w9,hw9⟩;clear q0 q1 q3 qz1 qz5 bl r0 r1 br
       by_cases hz0:0 < z.N.length
       ·have HX:=hd0 (HK.out.trans (by rw[if_neg (by rw[Hst.out];decide),if_pos (by first|exact⟨rfl,hz0⟩|exact⟨trivial,hz0⟩)]))
        have hzi:(0:Int) < (z.N.length:Int):=by omega
        go_wp2;go_ret;exact⟨by rw[HX.out];rfl,HSx.out.ext.trans hw9⟩
       ·have HX:=hd0 (HK.out.trans (by rw[if_neg (by rw[Hst.out];decide),if_neg (fun h=>hz0 h.2)]))
        have hzi:¬(0:Int) < (z.N.length:Int):=by omega
        go_wp2;go_ret;exact⟨by rw[HX.out];rfl,HSx.out.ext.trans hw9⟩
      ·have Hst:=hd0 hst;have tm:(512:Int)≤x.mode:=h1
       have ta:(ca != 0)=true:=by simpa using h2
       have to_:(ca != x.own)=false:=by simpa using h3
       clear h1 h2 h3 hst
       go_wp2_with fail
       have q0:=ExtW.cell d0;have q1:=ExtW.cell d1;have q3:=ExtW.cell d3;have qz1:=ExtW.cell z1;have qz5:=ExtW.cell z5;have bl:=ExtW.lt d0;have r0:=ExtW.cell bc0;have r1:=ExtW.cell bc1;have br:=ExtW.lt bc0;have HSx:=hd0 S;clear d0 d1 d3 z1 z5 bc0 bc1 bc2 bc3 bf0 bf1 bf2 bf3 S
       (refine wp_region_quiet_ext (by kernel_rfl) (by kernel_rfl) ?_;(repeat (go_big_quiet_step ((fail))));refine wpQuiet_nil ?_;intro _ hw';obtain⟨sq,hw''⟩:=hw';subst hw'')
       obtain⟨w9,hw9⟩:=sq;have pz5:=qz5 ⟨w9,hw9⟩;clear q0 q1 q3 qz1 qz5 bl r0 r1 br
       by_cases hz0:0 < z.N.length
       ·have HX:=hd0 (HK.out.trans (by rw[if_neg (by rw[Hst.out];decide),if_pos (by first|exact⟨rfl,hz0⟩|exact⟨trivial,hz0⟩)]))
        have hzi:(0:Int) < (z.N.length:Int):=by omega
        go_wp2;go_ret;exact⟨by rw[HX.out];rfl,HSx.out.ext.trans hw9⟩
       ·have HX:=hd0 (HK.out.trans (by rw[if_neg (by rw[Hst.out];decide),if_neg (fun h=>hz0 h.2)]))
        have hzi:¬(0:Int) < (z.N.length:Int):=by omega
        go_wp2;go_ret;exact⟨by rw[HX.out];rfl,HSx.out.ext.trans hw9⟩
      ·have Hst:=hd0 hst;have tm:(512:Int)≤x.mode:=h1
       have ta:(ca != 0)=true:=by simpa using h2
       have to_:(ca != x.own)=true:=by simpa using h3
       have tz:(ca != z.own)=false:=by simpa using h4
       clear h1 h2 h3 h4 hst
       go_wp2_with fail
       have q0:=ExtW.cell d0;have q1:=ExtW.cell d1;have q3:=ExtW.cell d3;have qz1:=ExtW.cell z1;have qz5:=ExtW.cell z5;have bl:=ExtW.lt d0;have r0:=ExtW.cell bc0;have r1:=ExtW.cell bc1;have br:=ExtW.lt bc0;have HSx:=hd0 S;clear d0 d1 d3 z1 z5 bc0 bc1 bc2 bc3 bf0 bf1 bf2 bf3 S
       (refine wp_region_quiet_ext (by kernel_rfl) (by kernel_rfl) ?_;(repeat (go_big_quiet_step ((fail))));refine wpQuiet_nil ?_;intro _ hw';obtain⟨sq,hw''⟩:=hw';subst hw'')
       obtain⟨w9,hw9⟩:=sq;have pz5:=qz5 ⟨w9,hw9⟩;clear q0 q1 q3 qz1 qz5 bl r0 r1 br
       by_cases hz0:0 < z.N.length
       ·have HX:=hd0 (HK.out.trans (by rw[if_neg (by rw[Hst.out];decide),if_pos (by first|exact⟨rfl,hz0⟩|exact⟨trivial,hz0⟩)]))
        have hzi:(0:Int) < (z.N.length:Int):=by omega
        go_wp2;go_ret;exact⟨by rw[HX.out];rfl,HSx.out.ext.trans hw9⟩
       ·have HX:=hd0 (HK.out.trans (by rw[if_neg (by rw[Hst.out];decide),if_neg (fun h=>hz0 h.2)]))
        have hzi:¬(0:Int) < (z.N.length:Int):=by omega
        go_wp2;go_ret;exact⟨by rw[HX.out];rfl,HSx.out.ext.trans hw9⟩
      ·have Hst:=hd0 hst;have tm:(512:Int)≤x.mode:=h1
       have ta:(ca != 0)=true:=by simpa using h2
       have to_:(ca != x.own)=true:=by simpa using h3
       have tz:(ca != z.own)=true:=by simpa using h4
       clear h1 h2 h3 h4 hst
       go_wp2_with fail
       have q0:=ExtW.cell d0;have q1:=ExtW.cell d1;have q3:=ExtW.cell d3;have qz1:=ExtW.cell z1;have qz5:=ExtW.cell z5;have bl:=ExtW.lt d0;have r0:=ExtW.cell bc0;have r1:=ExtW.cell bc1;have br:=ExtW.lt bc0;have HSx:=hd0 S;clear d0 d1 d3 z1 z5 bc0 bc1 bc2 bc3 bf0 bf1 bf2 bf3 S
       (refine wp_region_quiet_ext (by kernel_rfl) (by kernel_rfl) ?_;(repeat (go_big_quiet_step ((fail))));refine wpQuiet_nil ?_;intro _ hw';obtain⟨sq,hw''⟩:=hw';subst hw'')
       obtain⟨w9,hw9⟩:=sq;have pz5:=qz5 ⟨w9,hw9⟩;clear q0 q1 q3 qz1 qz5 bl r0 r1 br;have HX:=hd0 (HK.out.trans (by rw[if_pos Hst.out]));go_wp2;go_ret;exact⟨by rw[HX.out];rfl,HSx.out.ext.trans hw9⟩
theorem specDropName (a:Option Addr) (cap:Nat) (T:List Nd) (c:Cr) (s:ByteArray) (w:World) (hs:s.size≤1048576) (hl:T.length≤1048576) (hT:∀x∈T,SmN 1048576 x) (hNB:NB 1000000 T) (hc:RdN w a T) :
  Calls Tryz.prog 33 #[.slice a T.length cap,.agg #[.int .i64 c.r,.int .i64 c.a,.int .i64 c.s,.int .i64 c.g],.string s] w (RetMk (dropName T c s) w):=by
 obtain⟨cr,ca,cs,cg⟩:=c;have HT:=hd0 hT;have HNB:=hd0 hNB;clear hT hNB;dsimp only
 go_enter Tryz.func33,Tryz.ntmps33
 have S:=Sep.start w;replace S:=S.alloc_at (n:=w.heap.size) (by simp) #[.int .i64 cr,.int .i64 ca,.int .i64 cs,.int .i64 cg] 29
 go_wp2_with fail
 generalize (w.alloc (.cells #[.int .i64 cr,.int .i64 ca,.int .i64 cs,.int .i64 cg] 29))=w1 at *;refine(specMayDrop a cap T ⟨cr,ca,cs,cg⟩ s w1 hs hl HT.out (hc.ext S.ext)).mono ?_;rintro e w2 ⟨rfl,hE⟩;replace S:=S.step hE;clear hE
 by_cases hmd:mayDropF T ⟨cr,ca,cs,cg⟩ s false=0
 rotate_left
 ·have HX:=hd0 (dn_bad hmd rfl)
  have tf:(mayDropF T ⟨cr,ca,cs,cg⟩ s false == 0)=false:=by simpa using hmd
  clear hmd;generalize mayDropF T ⟨cr,ca,cs,cg⟩ s false=f at *;go_wp2;go_ret2;exact RetMk.empty S.ext HX.out
 ·rcases md_cases T ⟨cr,ca,cs,cg⟩ s with⟨m,kid,x,z,hD,_,h7,_⟩|⟨f,hf,_,_,h⟩
  rotate_left
  ·exact absurd (h.symm.trans hmd) hf
  ·have h0:z.N.length=0:=by
    by_cases h0:z.N.length=0
    ·exact h0
    ·have:=(h7 (by omega)).symm.trans hmd;cases this
   have HX:=hd0 (dn_ok hD hmd);have HDr:=hd0 (md_drop hD h0);have HD:=hd0 hD;have HTr:=hd0 hD.fa.tree;have Hx:=hd0 hD.fa.hx;rw[hmd];clear hmd hD h7 h0
   go_wp2_with fail
   refine(specAboveOf s w2 hs).mono ?_;rintro e w3 ⟨rfl,hE⟩;replace S:=S.step hE;clear hE;have hab:=abOf_size s;obtain⟨⟨bc0,bf0⟩,⟨bc1,bf1⟩,⟨bc2,bf2⟩,⟨bc3,bf3⟩⟩:=bx4 (S.box 0 rfl)
   go_wp2_with fail
   clear bc0 bf0 bc1 bf1 bc2 bf2 bc3 bf3;refine(specFindNode a cap T ⟨cr,ca,cs,cg⟩ (abOf s) w3 (by omega) hl HT.out (hc.ext S.ext)).mono ?_;rintro e w4 ⟨rfl,hE⟩;replace S:=S.step hE;clear hE;rw[HD.out.fa.find];dsimp only
   go_wp2_with fail
   refine(specCopy a cap T w4 hl HT.out (hc.ext S.ext)).mono ?_;rintro e w5 ⟨u,vs,rfl,S4⟩;replace S:Sep w w5 [plNd u vs T,plBox w.heap.size #[.int .i64 cr,.int .i64 ca,.int .i64 cs,.int .i64 cg] 29]:=S.call S4;clear S4;obtain⟨xc,g,cap2,rfl,hcap2,hxc,hxn,hcell,hfz,hsn,hsk,hcn,hck,hrn,hrk⟩:=S.ndAt 0 rfl Hx.out;obtain⟨x',an,cn,ak,ck⟩:=xc;dsimp only at hxn hsn hsk hcn hck hrn hrk;subst hxn;have d0:w5.cell? ⟨g,m*7,none⟩=some (.bool x'.fold):=hcell 0 _ rfl;have d1:w5.cell? ⟨g,m*7+1,none⟩=some (.int .i64 x'.own):=hcell 1 _ rfl;have d2:w5.cell? ⟨g,m*7+2,none⟩=some (.int .i64 x'.grp):=hcell 2 _ rfl;have d3:w5.cell? ⟨g,m*7+3,none⟩=some (.int .i64 x'.mode):=hcell 3 _ rfl;have d4:w5.cell? ⟨g,m*7+4,none⟩=some (.string x'.text):=hcell 4 _ rfl;have d5:w5.cell? ⟨g,m*7+5,none⟩=some (.slice an x'.N.length cn):=hcell 5 _ rfl;have d6:w5.cell? ⟨g,m*7+6,none⟩=some (.slice ak x'.K.length ck):=hcell 6 _ rfl;have hN:=HTr.out.nodes m x' Hx.out;have hNl:=HNB.out x' (List.mem_of_getElem? Hx.out);have Htake:=hd0 (specTake x' an ak cn ck (lastOf s) w5 (node_asc hN) (kid_place hN (s:=lastOf s) (by rw[HD.out.kd];omega)).2.1 (by omega) hN.len hrn hrk)
   have i0:(m:Int) < (T.length:Int):=by have:=(List.getElem?_eq_some_iff.1 Hx.out).1;omega
   clear hcell hN hNl hcn hck hsn hsk hrn hrk hxc
   go_wp2_with fail
   refine Htake.out.mono ?_;rintro e w6 ⟨an2,cn2,ak2,ck2,rfl,S5⟩;have g0:=cell_ext S5.ext d0;have g1:=cell_ext S5.ext d1;have g2:=cell_ext S5.ext d2;have g3:=cell_ext S5.ext d3;have g4:=cell_ext S5.ext d4;have g5:=cell_ext S5.ext d5;have g6:=cell_ext S5.ext d6;obtain⟨X2,hX2⟩:∃X2,X2=takeNd x' (lastOf s):=⟨_,rfl⟩;have HX2:=hd0 hX2;rw[←hX2]at S5;rw[←hX2];clear hX2 d0 d1 d2 d3 d4 d5 d6 Htake hfz;replace S:Sep w w6 [plRow 3 1 encInt1 (.slice ak2 X2.K.length ck2) X2.K,plRow 9 1 encStr1 (.slice an2 X2.N.length cn2) X2.N,plNd (.slice (some ⟨g,0,none⟩) T.length cap2) vs T,plBox w.heap.size #[.int .i64 cr,.int .i64 ca,.int .i64 cs,.int .i64 cg] 29]:=S.call S5;clear S5;have hvl:=plG_len (S.at_ 2 rfl);have hrow:=S.gRow 2 rfl;rw[hvl]at hrow;have hfz:=hrow.frozenAt;clear hrow;have S6:=S.ofRows 1 0 (⟨X2,an2,cn2,ak2,ck2⟩:Nc) rfl rfl (by decide);have S7:=S6.gPut 1 0 encNc_len rfl rfl (by decide) (k:=m) (by have:=(List.getElem?_eq_some_iff.1 Hx.out).1;omega);have S8:Sep w (((((((w6.setCell ⟨g,m*7,none⟩ (.bool X2.fold)).setCell ⟨g,m*7+1,none⟩ (.int .i64 X2.own)).setCell ⟨g,m*7+2,none⟩ (.int .i64 X2.grp)).setCell ⟨g,m*7+3,none⟩ (.int .i64 X2.mode)).setCell ⟨g,m*7+4,none⟩ (.string X2.text)).setCell ⟨g,m*7+5,none⟩ (.slice an2 X2.N.length cn2)).setCell ⟨g,m*7+6,none⟩ (.slice ak2 X2.K.length ck2)) [plNd (.slice (some ⟨g,0,none⟩) T.length cap2) (vs.set m ⟨X2,an2,cn2,ak2,ck2⟩) (T.set m X2),plBox w.heap.size #[.int .i64 cr,.int .i64 ca,.int .i64 cs,.int .i64 cg] 29]:=S7;have S9:=S8.drop 1;have HS8:=hd0 S9;clear S S6 S7 S8 S9 hvl;have HA:Hid (AlmostOk (T.set m X2) kid):=hd0 (by rw[HX2.out];exact take_almost HDr.out);obtain⟨kd1,kd2,kd3,_,_⟩:=drop_kid HDr.out
   have HT2:Hid (∀y∈T.set m X2,SmN 1048576 y):=hd0 (fun y hy=>by
    rcases List.mem_or_eq_of_mem_set hy with hy|rfl
    ·exact HT.out y hy
    ·rw[HX2.out];exact sm_era (HT.out x' (List.mem_of_getElem? Hx.out)))
   have HR:Hid (dropName T ⟨cr,ca,cs,cg⟩ s=(if 0 < (kids (T.set m X2)).count (kid:Int)then T.set m X2 else((T.set m X2).eraseIdx kid).map (renNd kid),0)):=hd0 (by rw[HX.out,HX2.out];rfl);clear HX HDr
   go_upto_region 11 with fail
   have SC:=HS8.out;generalize (((((((w6.setCell ⟨g,m*7,none⟩ (.bool X2.fold)).setCell ⟨g,m*7+1,none⟩ (.int .i64 X2.own)).setCell ⟨g,m*7+2,none⟩ (.int .i64 X2.grp)).setCell ⟨g,m*7+3,none⟩ (.int .i64 X2.mode)).setCell ⟨g,m*7+4,none⟩ (.string X2.text)).setCell ⟨g,m*7+5,none⟩ (.slice an2 X2.N.length cn2)).setCell ⟨g,m*7+6,none⟩ (.slice ak2 X2.K.length ck2))=w7 at *;clear HS8 g0 g1 g2 g3 g4 g5 g6 hfz;generalize vs.set m (⟨X2,an2,cn2,ak2,ck2⟩:Nc)=v2 at *
   have hl2:T.length=(T.set m X2).length:=by rw[List.length_set]
   generalize T.set m X2=T2 at *;rw[hl2]at SC kd3 ⊢;have HSC:=hd0 SC;have Hl2:=hd0 hl2;clear SC hl2
   go_wp2_with fail
   refine(specClean HSC.out HA.out (by omega) kd3 HT2.out).mono ?_;rintro e w8 ⟨u',vs',rfl,S8⟩;have HS9:=hd0 S8;clear S8 HSC;go_wp2;go_ret2;exact⟨u',vs',by rw[HR.out];rfl,by rw[HR.out];exact HS9.out⟩
theorem specMoveName (a:Option Addr) (cap:Nat) (T:List Nd) (c:Cr) (s:ByteArray) (d:ByteArray) (w:World) (hs:s.size≤1048576) (hd:d.size≤1048576) (hl:T.length≤1048576) (hT:∀x∈T,SmN 1048576 x) (hNB:NB 1000000 T) (hc:RdN w a T) :
  Calls Tryz.prog 41 #[.slice a T.length cap,.agg #[.int .i64 c.r,.int .i64 c.a,.int .i64 c.s,.int .i64 c.g],.string s,.string d] w (RetMk (moveName T c s d) w):=by
 obtain⟨cr,ca,cs,cg⟩:=c;have HT:=Lib.hid hT;have HNB:=Lib.hid hNB;clear hT hNB;dsimp only
 go_enter Tryz.func41,Tryz.ntmps41
 have S:=Sep.start w;replace S:=S.alloc_at (n:=w.heap.size) (by simp) #[.int .i64 cr,.int .i64 ca,.int .i64 cs,.int .i64 cg] 29
 go_wp2_with fail
 generalize (w.alloc (.cells #[.int .i64 cr,.int .i64 ca,.int .i64 cs,.int .i64 cg] 29))=w1 at *;refine(specMayDrop a cap T ⟨cr,ca,cs,cg⟩ s w1 hs hl HT.out (hc.ext S.ext)).mono ?_;rintro e w2 ⟨rfl,hE⟩;replace S:=S.step hE;clear hE
 rcases md_cases T ⟨cr,ca,cs,cg⟩ s with⟨m,kid,x,z,hD,hd0,h7,h00⟩|⟨f,hf,hf7,hd0,h00⟩
 rotate_left
 ·have HX:=Lib.hid (mv_bad (dst:=d) hf hd0);rw[h00]
  have tf:(f == 0)=false:=by simpa using hf
  have tf2:(f != 0)=true:=by simpa using hf
  have tf7:(f == 7)=false:=by simpa using hf7
  have tf8:(f != 7)=true:=by simpa using hf7
  clear hf hf7 hd0 h00;go_wp2;go_ret2;exact RetMk.empty S.ext HX.out
 have HD:=Lib.hid hD;have HD0:=Lib.hid hd0;have HTr:=Lib.hid hD.fa.tree;have Hx:=Lib.hid hD.fa.hx;have hmax:=hD.fa.tree.max
 have hmT:(m:Int) < (T.length:Int):=by have:=(List.getElem?_eq_some_iff.1 hD.fa.hx).1;omega
 have hkT:(kid:Int) < (T.length:Int):=by have:=(List.getElem?_eq_some_iff.1 hD.hz).1;omega
 have hab:=abOf_size s;have HPl:=Lib.hid (fun w' (hE:Ext w w')=>specPlaceFor a cap T ⟨cr,ca,cs,cg⟩ d w' hd hl HT.out (hc.ext hE));have HAb1:=Lib.hid (fun w' (hE:Ext w w')=>specAboveOf s w' hs);have HAb2:=Lib.hid (fun w' (hE:Ext w w')=>specAboveOf d w' hd);have HFn:=Lib.hid (fun w' (hE:Ext w w')=>specFindNode a cap T ⟨cr,ca,cs,cg⟩ (abOf s) w' (by omega) hl HT.out (hc.ext hE));have HCp:=Lib.hid (fun w' (hE:Ext w w')=>specCopy a cap T w' hl HT.out (hc.ext hE))
 have hv:mayDropF T ⟨cr,ca,cs,cg⟩ s false=0∨mayDropF T ⟨cr,ca,cs,cg⟩ s false=7:=by
  by_cases h0:z.N.length=0
  ·exact .inl (h00 h0)
  ·exact .inr (h7 (by omega))
 clear hD hd0 h7 h00
 rcases hv with hv|hv
 ·rw[hv];clear hv
  rcases fa_cases T ⟨cr,ca,cs,cg⟩ d with⟨n,y0,hG⟩|⟨f,hf,hF⟩
  rotate_left
  ·have hp0:=pf_bad hf hF;have HX:=Lib.hid (mv_place HD0.out hf hp0)
   have tf:(f == 0)=false:=by simpa using hf
   have HPl2:=HPl.out w2 S.ext;rw[hp0]at HPl2;clear hf hF hp0;obtain⟨⟨bc0,bf0⟩,⟨bc1,bf1⟩,⟨bc2,bf2⟩,⟨bc3,bf3⟩⟩:=bx4 (S.box 0 rfl)
   go_wp2_with fail
   clear bc0 bf0 bc1 bf1 bc2 bf2 bc3 bf3;refine HPl2.mono ?_;rintro e w3 ⟨rfl,hE⟩;replace S:=S.step hE;clear hE;go_wp2;go_ret2;exact RetMk.empty S.ext HX.out
  by_cases hth:0≤kidOf y0.N y0.K (lastOf d)
  ·have hp0:=(pf_good hG).trans (if_pos hth);have HX:=Lib.hid (mv_place HD0.out (by decide) hp0);have HPl2:=HPl.out w2 S.ext;rw[hp0]at HPl2;clear hG hth hp0;obtain⟨⟨bc0,bf0⟩,⟨bc1,bf1⟩,⟨bc2,bf2⟩,⟨bc3,bf3⟩⟩:=bx4 (S.box 0 rfl)
   go_wp2_with fail
   clear bc0 bf0 bc1 bf1 bc2 bf2 bc3 bf3;refine HPl2.mono ?_;rintro e w3 ⟨rfl,hE⟩;replace S:=S.step hE;clear hE;go_wp2;go_ret2;exact RetMk.empty S.ext HX.out
  have hp0:=(pf_good hG).trans (if_neg hth);have hnT:=(List.getElem?_eq_some_iff.1 hG.hx).1;have hnd:True:=trivial
  have hnTi:(n:Int) < (T.length:Int):=by omega
  obtain⟨⟨bc0,bf0⟩,⟨bc1,bf1⟩,⟨bc2,bf2⟩,⟨bc3,bf3⟩⟩:=bx4 (S.box 0 rfl)
  go_wp2_with fail
  clear bc0 bf0 bc1 bf1 bc2 bf2 bc3 bf3;refine(HPl.out w2 S.ext).mono ?_;rintro e w3 ⟨rfl,hE⟩;replace S:=S.step hE;clear hE;rw[hp0];have HP0:=Lib.hid hp0;clear hG hth hp0 hnd;dsimp only
  go_wp2_with fail
  refine(HAb1.out w3 S.ext).mono ?_;rintro e w4 ⟨rfl,hE⟩;replace S:=S.step hE;clear hE
  go_wp2_with fail
  refine(HAb2.out w4 S.ext).mono ?_;rintro e w5 ⟨rfl,hE⟩;replace S:=S.step hE;clear hE;obtain⟨⟨bc0,bf0⟩,⟨bc1,bf1⟩,⟨bc2,bf2⟩,⟨bc3,bf3⟩⟩:=bx4 (S.box 0 rfl)
  go_wp2_with fail
  clear bc0 bf0 bc1 bf1 bc2 bf2 bc3 bf3;refine(HFn.out w5 S.ext).mono ?_;rintro e w6 ⟨rfl,hE⟩;replace S:=S.step hE;clear hE;rw[HD.out.fa.find];dsimp only;obtain⟨x1,b',off,an,cn,ak,ck,hx,rfl,c0,c1,c2,c3,c4,c5,c6,hcn,hck,hrn,hrk⟩:=atNd (hc.ext S.ext) (show m < T.length by omega);obtain rfl:x=x1:=Option.some.inj (Hx.out.symm.trans hx);have HKd:=Lib.hid (specKid x an ak cn ck (lastOf s) w6 (by have:=HNB.out x (List.mem_of_getElem? hx);omega) (HTr.out.nodes m x hx).len hrn hrk);rw[HD.out.kd]at HKd;obtain⟨z1,b2,off2,_,_,_,_,hz,hzb,z0,_⟩:=atNd (hc.ext S.ext) (show kid < T.length by omega)
  obtain⟨rfl,rfl⟩:b'=b2∧off=off2:=by simpa using hzb
  obtain rfl:z=z1:=Option.some.inj (HD.out.hz.symm.trans hz);clear hx hz hzb hcn hck hrn hrk
  go_wp2_with fail
  refine HKd.out.mono ?_;rintro e w7a ⟨rfl,hE⟩;clear c0 c1 c2 c3 c4 c5 c6 HKd;replace z0:=cell_ext hE z0;replace S:=S.step hE;clear hE
  by_cases hbad:z.fold=true∧m≠n
  ·have HX:=Lib.hid (mv_kind HD0.out HD.out HP0.out hbad.1 hbad.2);rw[hbad.1]at z0
   have tn:((m:Int) == (n:Int))=false:=by have:=hbad.2;simp;omega
   have tn2:((m:Int) != (n:Int))=true:=by have:=hbad.2;simp;omega
   clear hbad;go_wp2;go_ret2;exact RetMk.empty S.ext HX.out
  ·have hgood:z.fold=false∨m=n:=by
    cases hzf:z.fold with
    | false=>exact .inl rfl
    | true=>exact .inr (Classical.byContradiction (fun h=>hbad ⟨hzf,h⟩))
   have HGd:=Lib.hid hgood;obtain⟨y,hy⟩:∃y,(T.set m (takeNd x (lastOf s)))[n]?=some y:=⟨_,List.getElem?_eq_getElem (by rw[List.length_set];exact hnT)⟩
   have HyN:Hid (NodeOk y T.length∧y.N.length≤1000000):=Lib.hid (by
    rcases take_get Hx.out _ hy with⟨e,rfl⟩|⟨_,e⟩
    ·refine⟨takeNd_ok (HTr.out.nodes m x Hx.out) (kid_place (HTr.out.nodes m x Hx.out) (s:=lastOf s) (by rw[HD.out.kd];omega)).2.2.2.2.2,?_⟩;have h1:(x.N.eraseIdx (posOf x.N (lastOf s))).length≤x.N.length:=(List.eraseIdx_sublist ..).length_le;have h2:=HNB.out x (List.mem_of_getElem? Hx.out)
     show(x.N.eraseIdx (posOf x.N (lastOf s))).length≤_
     omega
    ·exact⟨HTr.out.nodes n y e,HNB.out y (List.mem_of_getElem? e)⟩)
   have Hy:=Lib.hid hy;have HXm:=Lib.hid (mv_ok HD0.out HD.out HP0.out hgood hy)
   have hzn:z.fold=false∨(z.fold=true∧m=n):=by
    rcases hgood with h|h
    ·exact .inl h
    ·cases hzf:z.fold with
     | false=>exact .inl rfl
     | true=>exact .inr ⟨rfl,h⟩
   clear hbad hgood hy
   rcases hzn with hzf|⟨hzf,hmn⟩
   ·rw[hzf]at z0;clear hzf
    go_wp2_with fail
    refine(HCp.out w7a S.ext).mono ?_;rintro e w5 ⟨u,vs,rfl,S4⟩;replace S:Sep w w5 [plNd u vs T,plBox w.heap.size #[.int .i64 cr,.int .i64 ca,.int .i64 cs,.int .i64 cg] 29]:=S.call S4;clear S4;obtain⟨xc,g,cap2,rfl,hcap2,hxc,hxn,hcell,hfz,hsn,hsk,hcn,hck,hrn,hrk⟩:=S.ndAt 0 rfl Hx.out;obtain⟨x',an,cn,ak,ck⟩:=xc;dsimp only at hxn hsn hsk hcn hck hrn hrk;subst hxn;have d0:w5.cell? ⟨g,m*7,none⟩=some (.bool x'.fold):=hcell 0 _ rfl;have d1:w5.cell? ⟨g,m*7+1,none⟩=some (.int .i64 x'.own):=hcell 1 _ rfl;have d2:w5.cell? ⟨g,m*7+2,none⟩=some (.int .i64 x'.grp):=hcell 2 _ rfl;have d3:w5.cell? ⟨g,m*7+3,none⟩=some (.int .i64 x'.mode):=hcell 3 _ rfl;have d4:w5.cell? ⟨g,m*7+4,none⟩=some (.string x'.text):=hcell 4 _ rfl;have d5:w5.cell? ⟨g,m*7+5,none⟩=some (.slice an x'.N.length cn):=hcell 5 _ rfl;have d6:w5.cell? ⟨g,m*7+6,none⟩=some (.slice ak x'.K.length ck):=hcell 6 _ rfl;have hN:=HTr.out.nodes m x' Hx.out;have hNl:=HNB.out x' (List.mem_of_getElem? Hx.out);have Htake:=Lib.hid (specTake x' an ak cn ck (lastOf s) w5 (node_asc hN) (kid_place hN (s:=lastOf s) (by rw[HD.out.kd];omega)).2.1 (by omega) hN.len hrn hrk)
    have i0:(m:Int) < (T.length:Int):=by have:=(List.getElem?_eq_some_iff.1 Hx.out).1;omega
    clear hcell hN hNl hcn hck hsn hsk hrn hrk hxc
    go_wp2_with fail
    refine Htake.out.mono ?_;rintro e w6 ⟨an2,cn2,ak2,ck2,rfl,S5⟩;have g0:=cell_ext S5.ext d0;have g1:=cell_ext S5.ext d1;have g2:=cell_ext S5.ext d2;have g3:=cell_ext S5.ext d3;have g4:=cell_ext S5.ext d4;have g5:=cell_ext S5.ext d5;have g6:=cell_ext S5.ext d6;obtain⟨X2,hX2⟩:∃X2,X2=takeNd x' (lastOf s):=⟨_,rfl⟩;have HX2:=Lib.hid hX2;rw[←hX2]at S5;rw[←hX2];clear hX2 d0 d1 d2 d3 d4 d5 d6 Htake hfz;replace S:Sep w w6 [plRow 3 1 encInt1 (.slice ak2 X2.K.length ck2) X2.K,plRow 9 1 encStr1 (.slice an2 X2.N.length cn2) X2.N,plNd (.slice (some ⟨g,0,none⟩) T.length cap2) vs T,plBox w.heap.size #[.int .i64 cr,.int .i64 ca,.int .i64 cs,.int .i64 cg] 29]:=S.call S5;clear S5;have hvl:=plG_len (S.at_ 2 rfl);have hrow:=S.gRow 2 rfl;rw[hvl]at hrow;have hfz:=hrow.frozenAt;clear hrow;have S6:=S.ofRows 1 0 (⟨X2,an2,cn2,ak2,ck2⟩:Nc) rfl rfl (by decide);have S7:=S6.gPut 1 0 encNc_len rfl rfl (by decide) (k:=m) (by have:=(List.getElem?_eq_some_iff.1 Hx.out).1;omega);have S8:Sep w (((((((w6.setCell ⟨g,m*7,none⟩ (.bool X2.fold)).setCell ⟨g,m*7+1,none⟩ (.int .i64 X2.own)).setCell ⟨g,m*7+2,none⟩ (.int .i64 X2.grp)).setCell ⟨g,m*7+3,none⟩ (.int .i64 X2.mode)).setCell ⟨g,m*7+4,none⟩ (.string X2.text)).setCell ⟨g,m*7+5,none⟩ (.slice an2 X2.N.length cn2)).setCell ⟨g,m*7+6,none⟩ (.slice ak2 X2.K.length ck2)) [plNd (.slice (some ⟨g,0,none⟩) T.length cap2) (vs.set m ⟨X2,an2,cn2,ak2,ck2⟩) (T.set m X2),plBox w.heap.size #[.int .i64 cr,.int .i64 ca,.int .i64 cs,.int .i64 cg] 29]:=S7;have S9:=S8.drop 1;have HS8:=Lib.hid S9;clear S S6 S7 S8 S9 hvl;have HR:Hid (moveName T ⟨cr,ca,cs,cg⟩ s d=((T.set m X2).set n (putNd y (lastOf d) (kid:Int)),0)):=Lib.hid (by rw[HXm.out,HX2.out];rfl);have Hy1:Hid ((T.set m X2)[n]?=some y):=Lib.hid (by rw[HX2.out];exact Hy.out);clear HXm
    go_upto_region 15 with fail
    have SC:=HS8.out;generalize (((((((w6.setCell ⟨g,m*7,none⟩ (.bool X2.fold)).setCell ⟨g,m*7+1,none⟩ (.int .i64 X2.own)).setCell ⟨g,m*7+2,none⟩ (.int .i64 X2.grp)).setCell ⟨g,m*7+3,none⟩ (.int .i64 X2.mode)).setCell ⟨g,m*7+4,none⟩ (.string X2.text)).setCell ⟨g,m*7+5,none⟩ (.slice an2 X2.N.length cn2)).setCell ⟨g,m*7+6,none⟩ (.slice ak2 X2.K.length ck2))=w7 at *;clear HS8 g0 g1 g2 g3 g4 g5 g6 hfz;generalize vs.set m (⟨X2,an2,cn2,ak2,ck2⟩:Nc)=v1 at *
    have hl2:T.length=(T.set m X2).length:=by rw[List.length_set]
    generalize T.set m X2=T1 at *;have HyT:=HyN;rw[hl2]at SC hnT hnTi ⊢;clear hl2;have S:Sep w w7 [plNd (.slice (some ⟨g,0,none⟩) T1.length cap2) v1 T1]:=SC;clear SC;have hy1:=Hy1.out;obtain⟨yc,g',cap3,hu,hcap3,hyc,hyn,hcell,hfz,hsn,hsk,hcn,hck,hrn,hrk⟩:=S.ndAt 0 rfl hy1
    obtain⟨rfl,rfl⟩:g=g'∧cap2=cap3:=by simp only[Value.slice.injEq,Option.some.injEq,Addr.mk.injEq,and_true,true_and]at hu;exact⟨hu.1,hu.2⟩
    obtain⟨y',an,cn,ak,ck⟩:=yc;dsimp only at hyn hsn hsk hcn hck hrn hrk;subst hyn;have d0:w7.cell? ⟨g,n*7,none⟩=some (.bool y'.fold):=hcell 0 _ rfl;have d1:w7.cell? ⟨g,n*7+1,none⟩=some (.int .i64 y'.own):=hcell 1 _ rfl;have d2:w7.cell? ⟨g,n*7+2,none⟩=some (.int .i64 y'.grp):=hcell 2 _ rfl;have d3:w7.cell? ⟨g,n*7+3,none⟩=some (.int .i64 y'.mode):=hcell 3 _ rfl;have d4:w7.cell? ⟨g,n*7+4,none⟩=some (.string y'.text):=hcell 4 _ rfl;have d5:w7.cell? ⟨g,n*7+5,none⟩=some (.slice an y'.N.length cn):=hcell 5 _ rfl;have d6:w7.cell? ⟨g,n*7+6,none⟩=some (.slice ak y'.K.length ck):=hcell 6 _ rfl;have Hput:=Lib.hid (specPut y' an ak cn ck (lastOf d) (kid:Int) w7 (by have:=HyN.out.2;omega) HyN.out.1.len hcn hck hsn hsk hrn hrk);clear hcell hcn hck hsn hsk hrn hrk hyc hu hy1
    go_wp2_with fail
    refine Hput.out.mono ?_;rintro e w8 ⟨an3,cn3,ak3,ck3,rfl,S5⟩;have g0:=cell_ext S5.ext d0;have g1:=cell_ext S5.ext d1;have g2:=cell_ext S5.ext d2;have g3:=cell_ext S5.ext d3;have g4:=cell_ext S5.ext d4;have g5:=cell_ext S5.ext d5;have g6:=cell_ext S5.ext d6;obtain⟨X3,hX3⟩:∃X3,X3=putNd y' (lastOf d) (kid:Int):=⟨_,rfl⟩;rw[←hX3]at S5 HR;rw[←hX3];clear hX3 d0 d1 d2 d3 d4 d5 d6 Hput hfz;replace S:Sep w w8 [plRow 3 1 encInt1 (.slice ak3 X3.K.length ck3) X3.K,plRow 9 1 encStr1 (.slice an3 X3.N.length cn3) X3.N,plNd (.slice (some ⟨g,0,none⟩) T1.length cap2) v1 T1]:=S.call S5;clear S5;have hvl:=plG_len (S.at_ 2 rfl);have hrow:=S.gRow 2 rfl;rw[hvl]at hrow;have hfz:=hrow.frozenAt;clear hrow;have S6:=S.ofRows 1 0 (⟨X3,an3,cn3,ak3,ck3⟩:Nc) rfl rfl (by decide);have S7:=S6.gPut 1 0 encNc_len rfl rfl (by decide) (k:=n) (by omega);have S8:Sep w (((((((w8.setCell ⟨g,n*7,none⟩ (.bool X3.fold)).setCell ⟨g,n*7+1,none⟩ (.int .i64 X3.own)).setCell ⟨g,n*7+2,none⟩ (.int .i64 X3.grp)).setCell ⟨g,n*7+3,none⟩ (.int .i64 X3.mode)).setCell ⟨g,n*7+4,none⟩ (.string X3.text)).setCell ⟨g,n*7+5,none⟩ (.slice an3 X3.N.length cn3)).setCell ⟨g,n*7+6,none⟩ (.slice ak3 X3.K.length ck3)) [plNd (.slice (some ⟨g,0,none⟩) T1.length cap2) (v1.set n ⟨X3,an3,cn3,ak3,ck3⟩) (T1.set n X3)]:=S7;have HS9:=Lib.hid S8;clear S S6 S7 S8 hvl;go_wp2;go_ret2;exact⟨_,_,by rw[HR.out];rfl,by rw[HR.out];exact HS9.out⟩
   ·rw[hzf]at z0
    have tn:((m:Int) == (n:Int))=true:=by simp;omega
    have tn2:((m:Int) != (n:Int))=false:=by simp;omega
    clear hzf hmn
    go_wp2_with fail
    refine(HCp.out w7a S.ext).mono ?_;rintro e w5 ⟨u,vs,rfl,S4⟩;replace S:Sep w w5 [plNd u vs T,plBox w.heap.size #[.int .i64 cr,.int .i64 ca,.int .i64 cs,.int .i64 cg] 29]:=S.call S4;clear S4;obtain⟨xc,g,cap2,rfl,hcap2,hxc,hxn,hcell,hfz,hsn,hsk,hcn,hck,hrn,hrk⟩:=S.ndAt 0 rfl Hx.out;obtain⟨x',an,cn,ak,ck⟩:=xc;dsimp only at hxn hsn hsk hcn hck hrn hrk;subst hxn;have d0:w5.cell? ⟨g,m*7,none⟩=some (.bool x'.fold):=hcell 0 _ rfl;have d1:w5.cell? ⟨g,m*7+1,none⟩=some (.int .i64 x'.own):=hcell 1 _ rfl;have d2:w5.cell? ⟨g,m*7+2,none⟩=some (.int .i64 x'.grp):=hcell 2 _ rfl;have d3:w5.cell? ⟨g,m*7+3,none⟩=some (.int .i64 x'.mode):=hcell 3 _ rfl;have d4:w5.cell? ⟨g,m*7+4,none⟩=some (.string x'.text):=hcell 4 _ rfl;have d5:w5.cell? ⟨g,m*7+5,none⟩=some (.slice an x'.N.length cn):=hcell 5 _ rfl;have d6:w5.cell? ⟨g,m*7+6,none⟩=some (.slice ak x'.K.length ck):=hcell 6 _ rfl;have hN:=HTr.out.nodes m x' Hx.out;have hNl:=HNB.out x' (List.mem_of_getElem? Hx.out);have Htake:=Lib.hid (specTake x' an ak cn ck (lastOf s) w5 (node_asc hN) (kid_place hN (s:=lastOf s) (by rw[HD.out.kd];omega)).2.1 (by omega) hN.len hrn hrk)
    have i0:(m:Int) < (T.length:Int):=by have:=(List.getElem?_eq_some_iff.1 Hx.out).1;omega
    clear hcell hN hNl hcn hck hsn hsk hrn hrk hxc
    go_wp2_with fail
    refine Htake.out.mono ?_;rintro e w6 ⟨an2,cn2,ak2,ck2,rfl,S5⟩;have g0:=cell_ext S5.ext d0;have g1:=cell_ext S5.ext d1;have g2:=cell_ext S5.ext d2;have g3:=cell_ext S5.ext d3;have g4:=cell_ext S5.ext d4;have g5:=cell_ext S5.ext d5;have g6:=cell_ext S5.ext d6;obtain⟨X2,hX2⟩:∃X2,X2=takeNd x' (lastOf s):=⟨_,rfl⟩;have HX2:=Lib.hid hX2;rw[←hX2]at S5;rw[←hX2];clear hX2 d0 d1 d2 d3 d4 d5 d6 Htake hfz;replace S:Sep w w6 [plRow 3 1 encInt1 (.slice ak2 X2.K.length ck2) X2.K,plRow 9 1 encStr1 (.slice an2 X2.N.length cn2) X2.N,plNd (.slice (some ⟨g,0,none⟩) T.length cap2) vs T,plBox w.heap.size #[.int .i64 cr,.int .i64 ca,.int .i64 cs,.int .i64 cg] 29]:=S.call S5;clear S5;have hvl:=plG_len (S.at_ 2 rfl);have hrow:=S.gRow 2 rfl;rw[hvl]at hrow;have hfz:=hrow.frozenAt;clear hrow;have S6:=S.ofRows 1 0 (⟨X2,an2,cn2,ak2,ck2⟩:Nc) rfl rfl (by decide);have S7:=S6.gPut 1 0 encNc_len rfl rfl (by decide) (k:=m) (by have:=(List.getElem?_eq_some_iff.1 Hx.out).1;omega);have S8:Sep w (((((((w6.setCell ⟨g,m*7,none⟩ (.bool X2.fold)).setCell ⟨g,m*7+1,none⟩ (.int .i64 X2.own)).setCell ⟨g,m*7+2,none⟩ (.int .i64 X2.grp)).setCell ⟨g,m*7+3,none⟩ (.int .i64 X2.mode)).setCell ⟨g,m*7+4,none⟩ (.string X2.text)).setCell ⟨g,m*7+5,none⟩ (.slice an2 X2.N.length cn2)).setCell ⟨g,m*7+6,none⟩ (.slice ak2 X2.K.length ck2)) [plNd (.slice (some ⟨g,0,none⟩) T.length cap2) (vs.set m ⟨X2,an2,cn2,ak2,ck2⟩) (T.set m X2),plBox w.heap.size #[.int .i64 cr,.int .i64 ca,.int .i64 cs,.int .i64 cg] 29]:=S7;have S9:=S8.drop 1;have HS8:=Lib.hid S9;clear S S6 S7 S8 S9 hvl;have HR:Hid (moveName T ⟨cr,ca,cs,cg⟩ s d=((T.set m X2).set n (putNd y (lastOf d) (kid:Int)),0)):=Lib.hid (by rw[HXm.out,HX2.out];rfl);have Hy1:Hid ((T.set m X2)[n]?=some y):=Lib.hid (by rw[HX2.out];exact Hy.out);clear HXm
    go_upto_region 15 with fail
    have SC:=HS8.out;generalize (((((((w6.setCell ⟨g,m*7,none⟩ (.bool X2.fold)).setCell ⟨g,m*7+1,none⟩ (.int .i64 X2.own)).setCell ⟨g,m*7+2,none⟩ (.int .i64 X2.grp)).setCell ⟨g,m*7+3,none⟩ (.int .i64 X2.mode)).setCell ⟨g,m*7+4,none⟩ (.string X2.text)).setCell ⟨g,m*7+5,none⟩ (.slice an2 X2.N.length cn2)).setCell ⟨g,m*7+6,none⟩ (.slice ak2 X2.K.length ck2))=w7 at *;clear HS8 g0 g1 g2 g3 g4 g5 g6 hfz;generalize vs.set m (⟨X2,an2,cn2,ak2,ck2⟩:Nc)=v1 at *
    have hl2:T.length=(T.set m X2).length:=by rw[List.length_set]
    generalize T.set m X2=T1 at *;have HyT:=HyN;rw[hl2]at SC hnT hnTi ⊢;clear hl2;have S:Sep w w7 [plNd (.slice (some ⟨g,0,none⟩) T1.length cap2) v1 T1]:=SC;clear SC;have hy1:=Hy1.out;obtain⟨yc,g',cap3,hu,hcap3,hyc,hyn,hcell,hfz,hsn,hsk,hcn,hck,hrn,hrk⟩:=S.ndAt 0 rfl hy1
    obtain⟨rfl,rfl⟩:g=g'∧cap2=cap3:=by simp only[Value.slice.injEq,Option.some.injEq,Addr.mk.injEq,and_true,true_and]at hu;exact⟨hu.1,hu.2⟩
    obtain⟨y',an,cn,ak,ck⟩:=yc;dsimp only at hyn hsn hsk hcn hck hrn hrk;subst hyn;have d0:w7.cell? ⟨g,n*7,none⟩=some (.bool y'.fold):=hcell 0 _ rfl;have d1:w7.cell? ⟨g,n*7+1,none⟩=some (.int .i64 y'.own):=hcell 1 _ rfl;have d2:w7.cell? ⟨g,n*7+2,none⟩=some (.int .i64 y'.grp):=hcell 2 _ rfl;have d3:w7.cell? ⟨g,n*7+3,none⟩=some (.int .i64 y'.mode):=hcell 3 _ rfl;have d4:w7.cell? ⟨g,n*7+4,none⟩=some (.string y'.text):=hcell 4 _ rfl;have d5:w7.cell? ⟨g,n*7+5,none⟩=some (.slice an y'.N.length cn):=hcell 5 _ rfl;have d6:w7.cell? ⟨g,n*7+6,none⟩=some (.slice ak y'.K.length ck):=hcell 6 _ rfl;have Hput:=Lib.hid (specPut y' an ak cn ck (lastOf d) (kid:Int) w7 (by have:=HyN.out.2;omega) HyN.out.1.len hcn hck hsn hsk hrn hrk);clear hcell hcn hck hsn hsk hrn hrk hyc hu hy1
    go_wp2_with fail
    refine Hput.out.mono ?_;rintro e w8 ⟨an3,cn3,ak3,ck3,rfl,S5⟩;have g0:=cell_ext S5.ext d0;have g1:=cell_ext S5.ext d1;have g2:=cell_ext S5.ext d2;have g3:=cell_ext S5.ext d3;have g4:=cell_ext S5.ext d4;have g5:=cell_ext S5.ext d5;have g6:=cell_ext S5.ext d6;obtain⟨X3,hX3⟩:∃X3,X3=putNd y' (lastOf d) (kid:Int):=⟨_,rfl⟩;rw[←hX3]at S5 HR;rw[←hX3];clear hX3 d0 d1 d2 d3 d4 d5 d6 Hput hfz;replace S:Sep w w8 [plRow 3 1 encInt1 (.slice ak3 X3.K.length ck3) X3.K,plRow 9 1 encStr1 (.slice an3 X3.N.length cn3) X3.N,plNd (.slice (some ⟨g,0,none⟩) T1.length cap2) v1 T1]:=S.call S5;clear S5;have hvl:=plG_len (S.at_ 2 rfl);have hrow:=S.gRow 2 rfl;rw[hvl]at hrow;have hfz:=hrow.frozenAt;clear hrow;have S6:=S.ofRows 1 0 (⟨X3,an3,cn3,ak3,ck3⟩:Nc) rfl rfl (by decide);have S7:=S6.gPut 1 0 encNc_len rfl rfl (by decide) (k:=n) (by omega);have S8:Sep w (((((((w8.setCell ⟨g,n*7,none⟩ (.bool X3.fold)).setCell ⟨g,n*7+1,none⟩ (.int .i64 X3.own)).setCell ⟨g,n*7+2,none⟩ (.int .i64 X3.grp)).setCell ⟨g,n*7+3,none⟩ (.int .i64 X3.mode)).setCell ⟨g,n*7+4,none⟩ (.string X3.text)).setCell ⟨g,n*7+5,none⟩ (.slice an3 X3.N.length cn3)).setCell ⟨g,n*7+6,none⟩ (.slice ak3 X3.K.length ck3)) [plNd (.slice (some ⟨g,0,none⟩) T1.length cap2) (v1.set n ⟨X3,an3,cn3,ak3,ck3⟩) (T1.set n X3)]:=S7;have HS9:=Lib.hid S8;clear S S6 S7 S8 hvl;go_wp2;go_ret2;exact⟨_,_,by rw[HR.out];rfl,by rw[HR.out];exact HS9.out⟩
 ·rw[hv];clear hv
  rcases fa_cases T ⟨cr,ca,cs,cg⟩ d with⟨n,y0,hG⟩|⟨f,hf,hF⟩
  rotate_left
  ·have hp0:=pf_bad hf hF;have HX:=Lib.hid (mv_place HD0.out hf hp0)
   have tf:(f == 0)=false:=by simpa using hf
   have HPl2:=HPl.out w2 S.ext;rw[hp0]at HPl2;clear hf hF hp0;obtain⟨⟨bc0,bf0⟩,⟨bc1,bf1⟩,⟨bc2,bf2⟩,⟨bc3,bf3⟩⟩:=bx4 (S.box 0 rfl)
   go_wp2_with fail
   clear bc0 bf0 bc1 bf1 bc2 bf2 bc3 bf3;refine HPl2.mono ?_;rintro e w3 ⟨rfl,hE⟩;replace S:=S.step hE;clear hE;go_wp2;go_ret2;exact RetMk.empty S.ext HX.out
  by_cases hth:0≤kidOf y0.N y0.K (lastOf d)
  ·have hp0:=(pf_good hG).trans (if_pos hth);have HX:=Lib.hid (mv_place HD0.out (by decide) hp0);have HPl2:=HPl.out w2 S.ext;rw[hp0]at HPl2;clear hG hth hp0;obtain⟨⟨bc0,bf0⟩,⟨bc1,bf1⟩,⟨bc2,bf2⟩,⟨bc3,bf3⟩⟩:=bx4 (S.box 0 rfl)
   go_wp2_with fail
   clear bc0 bf0 bc1 bf1 bc2 bf2 bc3 bf3;refine HPl2.mono ?_;rintro e w3 ⟨rfl,hE⟩;replace S:=S.step hE;clear hE;go_wp2;go_ret2;exact RetMk.empty S.ext HX.out
  have hp0:=(pf_good hG).trans (if_neg hth);have hnT:=(List.getElem?_eq_some_iff.1 hG.hx).1;have hnd:True:=trivial
  have hnTi:(n:Int) < (T.length:Int):=by omega
  obtain⟨⟨bc0,bf0⟩,⟨bc1,bf1⟩,⟨bc2,bf2⟩,⟨bc3,bf3⟩⟩:=bx4 (S.box 0 rfl)
  go_wp2_with fail
  clear bc0 bf0 bc1 bf1 bc2 bf2 bc3 bf3;refine(HPl.out w2 S.ext).mono ?_;rintro e w3 ⟨rfl,hE⟩;replace S:=S.step hE;clear hE;rw[hp0];have HP0:=Lib.hid hp0;clear hG hth hp0 hnd;dsimp only
  go_wp2_with fail
  refine(HAb1.out w3 S.ext).mono ?_;rintro e w4 ⟨rfl,hE⟩;replace S:=S.step hE;clear hE
  go_wp2_with fail
  refine(HAb2.out w4 S.ext).mono ?_;rintro e w5 ⟨rfl,hE⟩;replace S:=S.step hE;clear hE;obtain⟨⟨bc0,bf0⟩,⟨bc1,bf1⟩,⟨bc2,bf2⟩,⟨bc3,bf3⟩⟩:=bx4 (S.box 0 rfl)
  go_wp2_with fail
  clear bc0 bf0 bc1 bf1 bc2 bf2 bc3 bf3;refine(HFn.out w5 S.ext).mono ?_;rintro e w6 ⟨rfl,hE⟩;replace S:=S.step hE;clear hE;rw[HD.out.fa.find];dsimp only;obtain⟨x1,b',off,an,cn,ak,ck,hx,rfl,c0,c1,c2,c3,c4,c5,c6,hcn,hck,hrn,hrk⟩:=atNd (hc.ext S.ext) (show m < T.length by omega);obtain rfl:x=x1:=Option.some.inj (Hx.out.symm.trans hx);have HKd:=Lib.hid (specKid x an ak cn ck (lastOf s) w6 (by have:=HNB.out x (List.mem_of_getElem? hx);omega) (HTr.out.nodes m x hx).len hrn hrk);rw[HD.out.kd]at HKd;obtain⟨z1,b2,off2,_,_,_,_,hz,hzb,z0,_⟩:=atNd (hc.ext S.ext) (show kid < T.length by omega)
  obtain⟨rfl,rfl⟩:b'=b2∧off=off2:=by simpa using hzb
  obtain rfl:z=z1:=Option.some.inj (HD.out.hz.symm.trans hz);clear hx hz hzb hcn hck hrn hrk
  go_wp2_with fail
  refine HKd.out.mono ?_;rintro e w7a ⟨rfl,hE⟩;clear c0 c1 c2 c3 c4 c5 c6 HKd;replace z0:=cell_ext hE z0;replace S:=S.step hE;clear hE
  by_cases hbad:z.fold=true∧m≠n
  ·have HX:=Lib.hid (mv_kind HD0.out HD.out HP0.out hbad.1 hbad.2);rw[hbad.1]at z0
   have tn:((m:Int) == (n:Int))=false:=by have:=hbad.2;simp;omega
   have tn2:((m:Int) != (n:Int))=true:=by have:=hbad.2;simp;omega
   clear hbad;go_wp2;go_ret2;exact RetMk.empty S.ext HX.out
  ·have hgood:z.fold=false∨m=n:=by
    cases hzf:z.fold with
    | false=>exact .inl rfl
    | true=>exact .inr (Classical.byContradiction (fun h=>hbad ⟨hzf,h⟩))
   have HGd:=Lib.hid hgood;obtain⟨y,hy⟩:∃y,(T.set m (takeNd x (lastOf s)))[n]?=some y:=⟨_,List.getElem?_eq_getElem (by rw[List.length_set];exact hnT)⟩
   have HyN:Hid (NodeOk y T.length∧y.N.length≤1000000):=Lib.hid (by
    rcases take_get Hx.out _ hy with⟨e,rfl⟩|⟨_,e⟩
    ·refine⟨takeNd_ok (HTr.out.nodes m x Hx.out) (kid_place (HTr.out.nodes m x Hx.out) (s:=lastOf s) (by rw[HD.out.kd];omega)).2.2.2.2.2,?_⟩;have h1:(x.N.eraseIdx (posOf x.N (lastOf s))).length≤x.N.length:=(List.eraseIdx_sublist ..).length_le;have h2:=HNB.out x (List.mem_of_getElem? Hx.out)
     show(x.N.eraseIdx (posOf x.N (lastOf s))).length≤_
     omega
    ·exact⟨HTr.out.nodes n y e,HNB.out y (List.mem_of_getElem? e)⟩)
   have Hy:=Lib.hid hy;have HXm:=Lib.hid (mv_ok HD0.out HD.out HP0.out hgood hy)
   have hzn:z.fold=false∨(z.fold=true∧m=n):=by
    rcases hgood with h|h
    ·exact .inl h
    ·cases hzf:z.fold with
     | false=>exact .inl rfl
     | true=>exact .inr ⟨rfl,h⟩
   clear hbad hgood hy
   rcases hzn with hzf|⟨hzf,hmn⟩
   ·rw[hzf]at z0;clear hzf
    go_wp2_with fail
    refine(HCp.out w7a S.ext).mono ?_;rintro e w5 ⟨u,vs,rfl,S4⟩;replace S:Sep w w5 [plNd u vs T,plBox w.heap.size #[.int .i64 cr,.int .i64 ca,.int .i64 cs,.int .i64 cg] 29]:=S.call S4;clear S4;obtain⟨xc,g,cap2,rfl,hcap2,hxc,hxn,hcell,hfz,hsn,hsk,hcn,hck,hrn,hrk⟩:=S.ndAt 0 rfl Hx.out;obtain⟨x',an,cn,ak,ck⟩:=xc;dsimp only at hxn hsn hsk hcn hck hrn hrk;subst hxn;have d0:w5.cell? ⟨g,m*7,none⟩=some (.bool x'.fold):=hcell 0 _ rfl;have d1:w5.cell? ⟨g,m*7+1,none⟩=some (.int .i64 x'.own):=hcell 1 _ rfl;have d2:w5.cell? ⟨g,m*7+2,none⟩=some (.int .i64 x'.grp):=hcell 2 _ rfl;have d3:w5.cell? ⟨g,m*7+3,none⟩=some (.int .i64 x'.mode):=hcell 3 _ rfl;have d4:w5.cell? ⟨g,m*7+4,none⟩=some (.string x'.text):=hcell 4 _ rfl;have d5:w5.cell? ⟨g,m*7+5,none⟩=some (.slice an x'.N.length cn):=hcell 5 _ rfl;have d6:w5.cell? ⟨g,m*7+6,none⟩=some (.slice ak x'.K.length ck):=hcell 6 _ rfl;have hN:=HTr.out.nodes m x' Hx.out;have hNl:=HNB.out x' (List.mem_of_getElem? Hx.out);have Htake:=Lib.hid (specTake x' an ak cn ck (lastOf s) w5 (node_asc hN) (kid_place hN (s:=lastOf s) (by rw[HD.out.kd];omega)).2.1 (by omega) hN.len hrn hrk)
    have i0:(m:Int) < (T.length:Int):=by have:=(List.getElem?_eq_some_iff.1 Hx.out).1;omega
    clear hcell hN hNl hcn hck hsn hsk hrn hrk hxc
    go_wp2_with fail
    refine Htake.out.mono ?_;rintro e w6 ⟨an2,cn2,ak2,ck2,rfl,S5⟩;have g0:=cell_ext S5.ext d0;have g1:=cell_ext S5.ext d1;have g2:=cell_ext S5.ext d2;have g3:=cell_ext S5.ext d3;have g4:=cell_ext S5.ext d4;have g5:=cell_ext S5.ext d5;have g6:=cell_ext S5.ext d6;obtain⟨X2,hX2⟩:∃X2,X2=takeNd x' (lastOf s):=⟨_,rfl⟩;have HX2:=Lib.hid hX2;rw[←hX2]at S5;rw[←hX2];clear hX2 d0 d1 d2 d3 d4 d5 d6 Htake hfz;replace S:Sep w w6 [plRow 3 1 encInt1 (.slice ak2 X2.K.length ck2) X2.K,plRow 9 1 encStr1 (.slice an2 X2.N.length cn2) X2.N,plNd (.slice (some ⟨g,0,none⟩) T.length cap2) vs T,plBox w.heap.size #[.int .i64 cr,.int .i64 ca,.int .i64 cs,.int .i64 cg] 29]:=S.call S5;clear S5;have hvl:=plG_len (S.at_ 2 rfl);have hrow:=S.gRow 2 rfl;rw[hvl]at hrow;have hfz:=hrow.frozenAt;clear hrow;have S6:=S.ofRows 1 0 (⟨X2,an2,cn2,ak2,ck2⟩:Nc) rfl rfl (by decide);have S7:=S6.gPut 1 0 encNc_len rfl rfl (by decide) (k:=m) (by have:=(List.getElem?_eq_some_iff.1 Hx.out).1;omega);have S8:Sep w (((((((w6.setCell ⟨g,m*7,none⟩ (.bool X2.fold)).setCell ⟨g,m*7+1,none⟩ (.int .i64 X2.own)).setCell ⟨g,m*7+2,none⟩ (.int .i64 X2.grp)).setCell ⟨g,m*7+3,none⟩ (.int .i64 X2.mode)).setCell ⟨g,m*7+4,none⟩ (.string X2.text)).setCell ⟨g,m*7+5,none⟩ (.slice an2 X2.N.length cn2)).setCell ⟨g,m*7+6,none⟩ (.slice ak2 X2.K.length ck2)) [plNd (.slice (some ⟨g,0,none⟩) T.length cap2) (vs.set m ⟨X2,an2,cn2,ak2,ck2⟩) (T.set m X2),plBox w.heap.size #[.int .i64 cr,.int .i64 ca,.int .i64 cs,.int .i64 cg] 29]:=S7;have S9:=S8.drop 1;have HS8:=Lib.hid S9;clear S S6 S7 S8 S9 hvl;have HR:Hid (moveName T ⟨cr,ca,cs,cg⟩ s d=((T.set m X2).set n (putNd y (lastOf d) (kid:Int)),0)):=Lib.hid (by rw[HXm.out,HX2.out];rfl);have Hy1:Hid ((T.set m X2)[n]?=some y):=Lib.hid (by rw[HX2.out];exact Hy.out);clear HXm
    go_upto_region 15 with fail
    have SC:=HS8.out;generalize (((((((w6.setCell ⟨g,m*7,none⟩ (.bool X2.fold)).setCell ⟨g,m*7+1,none⟩ (.int .i64 X2.own)).setCell ⟨g,m*7+2,none⟩ (.int .i64 X2.grp)).setCell ⟨g,m*7+3,none⟩ (.int .i64 X2.mode)).setCell ⟨g,m*7+4,none⟩ (.string X2.text)).setCell ⟨g,m*7+5,none⟩ (.slice an2 X2.N.length cn2)).setCell ⟨g,m*7+6,none⟩ (.slice ak2 X2.K.length ck2))=w7 at *;clear HS8 g0 g1 g2 g3 g4 g5 g6 hfz;generalize vs.set m (⟨X2,an2,cn2,ak2,ck2⟩:Nc)=v1 at *
    have hl2:T.length=(T.set m X2).length:=by rw[List.length_set]
    generalize T.set m X2=T1 at *;have HyT:=HyN;rw[hl2]at SC hnT hnTi ⊢;clear hl2;have S:Sep w w7 [plNd (.slice (some ⟨g,0,none⟩) T1.length cap2) v1 T1]:=SC;clear SC;have hy1:=Hy1.out;obtain⟨yc,g',cap3,hu,hcap3,hyc,hyn,hcell,hfz,hsn,hsk,hcn,hck,hrn,hrk⟩:=S.ndAt 0 rfl hy1
    obtain⟨rfl,rfl⟩:g=g'∧cap2=cap3:=by simp only[Value.slice.injEq,Option.some.injEq,Addr.mk.injEq,and_true,true_and]at hu;exact⟨hu.1,hu.2⟩
    obtain⟨y',an,cn,ak,ck⟩:=yc;dsimp only at hyn hsn hsk hcn hck hrn hrk;subst hyn;have d0:w7.cell? ⟨g,n*7,none⟩=some (.bool y'.fold):=hcell 0 _ rfl;have d1:w7.cell? ⟨g,n*7+1,none⟩=some (.int .i64 y'.own):=hcell 1 _ rfl;have d2:w7.cell? ⟨g,n*7+2,none⟩=some (.int .i64 y'.grp):=hcell 2 _ rfl;have d3:w7.cell? ⟨g,n*7+3,none⟩=some (.int .i64 y'.mode):=hcell 3 _ rfl;have d4:w7.cell? ⟨g,n*7+4,none⟩=some (.string y'.text):=hcell 4 _ rfl;have d5:w7.cell? ⟨g,n*7+5,none⟩=some (.slice an y'.N.length cn):=hcell 5 _ rfl;have d6:w7.cell? ⟨g,n*7+6,none⟩=some (.slice ak y'.K.length ck):=hcell 6 _ rfl;have Hput:=Lib.hid (specPut y' an ak cn ck (lastOf d) (kid:Int) w7 (by have:=HyN.out.2;omega) HyN.out.1.len hcn hck hsn hsk hrn hrk);clear hcell hcn hck hsn hsk hrn hrk hyc hu hy1
    go_wp2_with fail
    refine Hput.out.mono ?_;rintro e w8 ⟨an3,cn3,ak3,ck3,rfl,S5⟩;have g0:=cell_ext S5.ext d0;have g1:=cell_ext S5.ext d1;have g2:=cell_ext S5.ext d2;have g3:=cell_ext S5.ext d3;have g4:=cell_ext S5.ext d4;have g5:=cell_ext S5.ext d5;have g6:=cell_ext S5.ext d6;obtain⟨X3,hX3⟩:∃X3,X3=putNd y' (lastOf d) (kid:Int):=⟨_,rfl⟩;rw[←hX3]at S5 HR;rw[←hX3];clear hX3 d0 d1 d2 d3 d4 d5 d6 Hput hfz;replace S:Sep w w8 [plRow 3 1 encInt1 (.slice ak3 X3.K.length ck3) X3.K,plRow 9 1 encStr1 (.slice an3 X3.N.length cn3) X3.N,plNd (.slice (some ⟨g,0,none⟩) T1.length cap2) v1 T1]:=S.call S5;clear S5;have hvl:=plG_len (S.at_ 2 rfl);have hrow:=S.gRow 2 rfl;rw[hvl]at hrow;have hfz:=hrow.frozenAt;clear hrow;have S6:=S.ofRows 1 0 (⟨X3,an3,cn3,ak3,ck3⟩:Nc) rfl rfl (by decide);have S7:=S6.gPut 1 0 encNc_len rfl rfl (by decide) (k:=n) (by omega);have S8:Sep w (((((((w8.setCell ⟨g,n*7,none⟩ (.bool X3.fold)).setCell ⟨g,n*7+1,none⟩ (.int .i64 X3.own)).setCell ⟨g,n*7+2,none⟩ (.int .i64 X3.grp)).setCell ⟨g,n*7+3,none⟩ (.int .i64 X3.mode)).setCell ⟨g,n*7+4,none⟩ (.string X3.text)).setCell ⟨g,n*7+5,none⟩ (.slice an3 X3.N.length cn3)).setCell ⟨g,n*7+6,none⟩ (.slice ak3 X3.K.length ck3)) [plNd (.slice (some ⟨g,0,none⟩) T1.length cap2) (v1.set n ⟨X3,an3,cn3,ak3,ck3⟩) (T1.set n X3)]:=S7;have HS9:=Lib.hid S8;clear S S6 S7 S8 hvl;go_wp2;go_ret2;exact⟨_,_,by rw[HR.out];rfl,by rw[HR.out];exact HS9.out⟩
   ·rw[hzf]at z0
    have tn:((m:Int) == (n:Int))=true:=by simp;omega
    have tn2:((m:Int) != (n:Int))=false:=by simp;omega
    clear hzf hmn
    go_wp2_with fail
    refine(HCp.out w7a S.ext).mono ?_;rintro e w5 ⟨u,vs,rfl,S4⟩;replace S:Sep w w5 [plNd u vs T,plBox w.heap.size #[.int .i64 cr,.int .i64 ca,.int .i64 cs,.int .i64 cg] 29]:=S.call S4;clear S4;obtain⟨xc,g,cap2,rfl,hcap2,hxc,hxn,hcell,hfz,hsn,hsk,hcn,hck,hrn,hrk⟩:=S.ndAt 0 rfl Hx.out;obtain⟨x',an,cn,ak,ck⟩:=xc;dsimp only at hxn hsn hsk hcn hck hrn hrk;subst hxn;have d0:w5.cell? ⟨g,m*7,none⟩=some (.bool x'.fold):=hcell 0 _ rfl;have d1:w5.cell? ⟨g,m*7+1,none⟩=some (.int .i64 x'.own):=hcell 1 _ rfl;have d2:w5.cell? ⟨g,m*7+2,none⟩=some (.int .i64 x'.grp):=hcell 2 _ rfl;have d3:w5.cell? ⟨g,m*7+3,none⟩=some (.int .i64 x'.mode):=hcell 3 _ rfl;have d4:w5.cell? ⟨g,m*7+4,none⟩=some (.string x'.text):=hcell 4 _ rfl;have d5:w5.cell? ⟨g,m*7+5,none⟩=some (.slice an x'.N.length cn):=hcell 5 _ rfl;have d6:w5.cell? ⟨g,m*7+6,none⟩=some (.slice ak x'.K.length ck):=hcell 6 _ rfl;have hN:=HTr.out.nodes m x' Hx.out;have hNl:=HNB.out x' (List.mem_of_getElem? Hx.out);have Htake:=Lib.hid (specTake x' an ak cn ck (lastOf s) w5 (node_asc hN) (kid_place hN (s:=lastOf s) (by rw[HD.out.kd];omega)).2.1 (by omega) hN.len hrn hrk)
    have i0:(m:Int) < (T.length:Int):=by have:=(List.getElem?_eq_some_iff.1 Hx.out).1;omega
    clear hcell hN hNl hcn hck hsn hsk hrn hrk hxc
    go_wp2_with fail
    refine Htake.out.mono ?_;rintro e w6 ⟨an2,cn2,ak2,ck2,rfl,S5⟩;have g0:=cell_ext S5.ext d0;have g1:=cell_ext S5.ext d1;have g2:=cell_ext S5.ext d2;have g3:=cell_ext S5.ext d3;have g4:=cell_ext S5.ext d4;have g5:=cell_ext S5.ext d5;have g6:=cell_ext S5.ext d6;obtain⟨X2,hX2⟩:∃X2,X2=takeNd x' (lastOf s):=⟨_,rfl⟩;have HX2:=Lib.hid hX2;rw[←hX2]at S5;rw[←hX2];clear hX2 d0 d1 d2 d3 d4 d5 d6 Htake hfz;replace S:Sep w w6 [plRow 3 1 encInt1 (.slice ak2 X2.K.length ck2) X2.K,plRow 9 1 encStr1 (.slice an2 X2.N.length cn2) X2.N,plNd (.slice (some ⟨g,0,none⟩) T.length cap2) vs T,plBox w.heap.size #[.int .i64 cr,.int .i64 ca,.int .i64 cs,.int .i64 cg] 29]:=S.call S5;clear S5;have hvl:=plG_len (S.at_ 2 rfl);have hrow:=S.gRow 2 rfl;rw[hvl]at hrow;have hfz:=hrow.frozenAt;clear hrow;have S6:=S.ofRows 1 0 (⟨X2,an2,cn2,ak2,ck2⟩:Nc) rfl rfl (by decide);have S7:=S6.gPut 1 0 encNc_len rfl rfl (by decide) (k:=m) (by have:=(List.getElem?_eq_some_iff.1 Hx.out).1;omega);have S8:Sep w (((((((w6.setCell ⟨g,m*7,none⟩ (.bool X2.fold)).setCell ⟨g,m*7+1,none⟩ (.int .i64 X2.own)).setCell ⟨g,m*7+2,none⟩ (.int .i64 X2.grp)).setCell ⟨g,m*7+3,none⟩ (.int .i64 X2.mode)).setCell ⟨g,m*7+4,none⟩ (.string X2.text)).setCell ⟨g,m*7+5,none⟩ (.slice an2 X2.N.length cn2)).setCell ⟨g,m*7+6,none⟩ (.slice ak2 X2.K.length ck2)) [plNd (.slice (some ⟨g,0,none⟩) T.length cap2) (vs.set m ⟨X2,an2,cn2,ak2,ck2⟩) (T.set m X2),plBox w.heap.size #[.int .i64 cr,.int .i64 ca,.int .i64 cs,.int .i64 cg] 29]:=S7;have S9:=S8.drop 1;have HS8:=Lib.hid S9;clear S S6 S7 S8 S9 hvl;have HR:Hid (moveName T ⟨cr,ca,cs,cg⟩ s d=((T.set m X2).set n (putNd y (lastOf d) (kid:Int)),0)):=Lib.hid (by rw[HXm.out,HX2.out];rfl);have Hy1:Hid ((T.set m X2)[n]?=some y):=Lib.hid (by rw[HX2.out];exact Hy.out);clear HXm
    go_upto_region 15 with fail
    have SC:=HS8.out;generalize (((((((w6.setCell ⟨g,m*7,none⟩ (.bool X2.fold)).setCell ⟨g,m*7+1,none⟩ (.int .i64 X2.own)).setCell ⟨g,m*7+2,none⟩ (.int .i64 X2.grp)).setCell ⟨g,m*7+3,none⟩ (.int .i64 X2.mode)).setCell ⟨g,m*7+4,none⟩ (.string X2.text)).setCell ⟨g,m*7+5,none⟩ (.slice an2 X2.N.length cn2)).setCell ⟨g,m*7+6,none⟩ (.slice ak2 X2.K.length ck2))=w7 at *;clear HS8 g0 g1 g2 g3 g4 g5 g6 hfz;generalize vs.set m (⟨X2,an2,cn2,ak2,ck2⟩:Nc)=v1 at *
    have hl2:T.length=(T.set m X2).length:=by rw[List.length_set]
    generalize T.set m X2=T1 at *;have HyT:=HyN;rw[hl2]at SC hnT hnTi ⊢;clear hl2;have S:Sep w w7 [plNd (.slice (some ⟨g,0,none⟩) T1.length cap2) v1 T1]:=SC;clear SC;have hy1:=Hy1.out;obtain⟨yc,g',cap3,hu,hcap3,hyc,hyn,hcell,hfz,hsn,hsk,hcn,hck,hrn,hrk⟩:=S.ndAt 0 rfl hy1
    obtain⟨rfl,rfl⟩:g=g'∧cap2=cap3:=by simp only[Value.slice.injEq,Option.some.injEq,Addr.mk.injEq,and_true,true_and]at hu;exact⟨hu.1,hu.2⟩
    obtain⟨y',an,cn,ak,ck⟩:=yc;dsimp only at hyn hsn hsk hcn hck hrn hrk;subst hyn;have d0:w7.cell? ⟨g,n*7,none⟩=some (.bool y'.fold):=hcell 0 _ rfl;have d1:w7.cell? ⟨g,n*7+1,none⟩=some (.int .i64 y'.own):=hcell 1 _ rfl;have d2:w7.cell? ⟨g,n*7+2,none⟩=some (.int .i64 y'.grp):=hcell 2 _ rfl;have d3:w7.cell? ⟨g,n*7+3,none⟩=some (.int .i64 y'.mode):=hcell 3 _ rfl;have d4:w7.cell? ⟨g,n*7+4,none⟩=some (.string y'.text):=hcell 4 _ rfl;have d5:w7.cell? ⟨g,n*7+5,none⟩=some (.slice an y'.N.length cn):=hcell 5 _ rfl;have d6:w7.cell? ⟨g,n*7+6,none⟩=some (.slice ak y'.K.length ck):=hcell 6 _ rfl;have Hput:=Lib.hid (specPut y' an ak cn ck (lastOf d) (kid:Int) w7 (by have:=HyN.out.2;omega) HyN.out.1.len hcn hck hsn hsk hrn hrk);clear hcell hcn hck hsn hsk hrn hrk hyc hu hy1
    go_wp2_with fail
    refine Hput.out.mono ?_;rintro e w8 ⟨an3,cn3,ak3,ck3,rfl,S5⟩;have g0:=cell_ext S5.ext d0;have g1:=cell_ext S5.ext d1;have g2:=cell_ext S5.ext d2;have g3:=cell_ext S5.ext d3;have g4:=cell_ext S5.ext d4;have g5:=cell_ext S5.ext d5;have g6:=cell_ext S5.ext d6;obtain⟨X3,hX3⟩:∃X3,X3=putNd y' (lastOf d) (kid:Int):=⟨_,rfl⟩;rw[←hX3]at S5 HR;rw[←hX3];clear hX3 d0 d1 d2 d3 d4 d5 d6 Hput hfz;replace S:Sep w w8 [plRow 3 1 encInt1 (.slice ak3 X3.K.length ck3) X3.K,plRow 9 1 encStr1 (.slice an3 X3.N.length cn3) X3.N,plNd (.slice (some ⟨g,0,none⟩) T1.length cap2) v1 T1]:=S.call S5;clear S5;have hvl:=plG_len (S.at_ 2 rfl);have hrow:=S.gRow 2 rfl;rw[hvl]at hrow;have hfz:=hrow.frozenAt;clear hrow;have S6:=S.ofRows 1 0 (⟨X3,an3,cn3,ak3,ck3⟩:Nc) rfl rfl (by decide);have S7:=S6.gPut 1 0 encNc_len rfl rfl (by decide) (k:=n) (by omega);have S8:Sep w (((((((w8.setCell ⟨g,n*7,none⟩ (.bool X3.fold)).setCell ⟨g,n*7+1,none⟩ (.int .i64 X3.own)).setCell ⟨g,n*7+2,none⟩ (.int .i64 X3.grp)).setCell ⟨g,n*7+3,none⟩ (.int .i64 X3.mode)).setCell ⟨g,n*7+4,none⟩ (.string X3.text)).setCell ⟨g,n*7+5,none⟩ (.slice an3 X3.N.length cn3)).setCell ⟨g,n*7+6,none⟩ (.slice ak3 X3.K.length ck3)) [plNd (.slice (some ⟨g,0,none⟩) T1.length cap2) (v1.set n ⟨X3,an3,cn3,ak3,ck3⟩) (T1.set n X3)]:=S7;have HS9:=Lib.hid S8;clear S S6 S7 S8 hvl;go_wp2;go_ret2;exact⟨_,_,by rw[HR.out];rfl,by rw[HR.out];exact HS9.out⟩
def RetK (R:List Nd×ByteArray) (c:Cr) (w:World) (e:Ending) (w':World):Prop:=∃u vs,e=.returned (.tuple #[.agg #[u,.int .i64 c.r,.int .i64 c.a,.int .i64 c.s,.int .i64 c.g],.string R.2])∧Sep w w' [plNd u vs R.1]
def VDn (wR:World) (B3:Nat) (at_:Option Addr) (cap:Nat) (T:List Nd) (cr ca cs cg f:Int):Nat→Value→World→Prop:=fun i v wv=>match i with
 | 0=>v=.pointer (some ⟨B3,0,none⟩)
 | 1=>v=.slice at_ T.length cap
 | 2=>∃vs,Sep wR wv [plNd v vs T]
 | 3=>v=.pointer (some ⟨B3,1,none⟩)
 | 4=>v=.agg #[.int .i64 cr,.int .i64 ca,.int .i64 cs,.int .i64 cg]
 | 5=>∃u vs,v=.agg #[u,.int .i64 cr,.int .i64 ca,.int .i64 cs,.int .i64 cg]∧Sep wR wv [plNd u vs T]
 | 6=>v=.int .i64 f
 | 7=>v=.string (faultText f)
 | _=>True
theorem VDn.ext {wR:World} {B3:Nat} {at_:Option Addr} {cap:Nat} {T:List Nd} {cr ca cs cg f:Int} (i:Nat) (v:Value) (w1 w2:World) (h:VDn wR B3 at_ cap T cr ca cs cg f i v w1) (hE:Ext w1 w2):VDn wR B3 at_ cap T cr ca cs cg f i v w2:=by
 match i with
 | 0|1|3|4|6|7=>exact h
 | 2=>obtain⟨vs,h1⟩:=h;exact⟨vs,h1.step hE⟩
 | 5=>obtain⟨u,vs,h0,h1⟩:=h;exact⟨u,vs,h0,h1.step hE⟩
 | (n+8)=>trivial
theorem specDone {W0 w:World} {u:Value} {vs:List Nc} {r:List Nd×Int} (S:Sep W0 w [plNd u vs r.1]) (at_:Option Addr) (cap:Nat) (T:List Nd) (cr ca cs cg:Int) (hl:T.length≤1048576) (hT:∀x∈T,SmN 1048576 x) (hc:RdN w at_ T) :
  Calls Tryz.prog 32 #[.agg #[.slice at_ T.length cap,.int .i64 cr,.int .i64 ca,.int .i64 cs,.int .i64 cg],u,.int .i64 r.2] w (RetK (doneT T r) ⟨cr,ca,cs,cg⟩ W0):=by
 obtain⟨R,f⟩:=r;dsimp only at S ⊢;obtain⟨ua,uc,rfl,_,_⟩:=nd_view (S.at_ 0 rfl);have HT:=hd0 hT;clear hT
 by_cases hf:f=0
 ·subst hf;have HX:Hid (doneT T (R,0)=(R,⟨#[110,111,110,101]⟩)):=hd0 rfl
  go_enter Tryz.func32,Tryz.ntmps32
  replace S:=S.alloc_at (n:=w.heap.size) (by simp) #[.slice at_ T.length cap,.int .i64 cr,.int .i64 ca,.int .i64 cs,.int .i64 cg] 31;replace S:=S.alloc_at (n:=(w.heap.size+1)) (by simp) #[.slice none 0 0,.int .i64 0,.int .i64 0,.int .i64 0,.int .i64 0] 31
  go_upto_region 2 with fail
  generalize ((w.alloc (.cells #[.slice at_ T.length cap,.int .i64 cr,.int .i64 ca,.int .i64 cs,.int .i64 cg] 31)).alloc (.cells #[.slice none 0 0,.int .i64 0,.int .i64 0,.int .i64 0,.int .i64 0] 31))=w1 at *;obtain⟨⟨b6c0,b6f0⟩,⟨b6c1,b6f1⟩,⟨b6c2,b6f2⟩,⟨b6c3,b6f3⟩,⟨b6c4,b6f4⟩⟩:=bx5 (S.box 0 rfl);obtain⟨⟨b3c0,b3f0⟩,⟨b3c1,b3f1⟩,⟨b3c2,b3f2⟩,⟨b3c3,b3f3⟩,⟨b3c4,b3f4⟩⟩:=bx5 (S.box 1 rfl);go_wp2;clear b6c0 b6f0 b6c1 b6f1 b6c2 b6f2 b6c3 b6f3 b6c4 b6f4 b3c0 b3f0 b3c1 b3f1 b3c2 b3f2 b3c3 b3f3 b3c4 b3f4;replace S:Sep W0 (((((w1.setCell ⟨(w.heap.size+1),0,none⟩ (.slice ua R.length uc)).setCell ⟨(w.heap.size+1),1,none⟩ (.int .i64 cr)).setCell ⟨(w.heap.size+1),2,none⟩ (.int .i64 ca)).setCell ⟨(w.heap.size+1),3,none⟩ (.int .i64 cs)).setCell ⟨(w.heap.size+1),4,none⟩ (.int .i64 cg)) [plBox (w.heap.size+1) #[.slice ua R.length uc,.int .i64 cr,.int .i64 ca,.int .i64 cs,.int .i64 cg] 31,plBox w.heap.size #[.slice at_ T.length cap,.int .i64 cr,.int .i64 ca,.int .i64 cs,.int .i64 cg] 31,plNd (.slice ua R.length uc) vs R]:=((((S.set 0 rfl 0 _).set 0 rfl 1 _).set 0 rfl 2 _).set 0 rfl 3 _).set 0 rfl 4 _;generalize (((((w1.setCell ⟨(w.heap.size+1),0,none⟩ (.slice ua R.length uc)).setCell ⟨(w.heap.size+1),1,none⟩ (.int .i64 cr)).setCell ⟨(w.heap.size+1),2,none⟩ (.int .i64 ca)).setCell ⟨(w.heap.size+1),3,none⟩ (.int .i64 cs)).setCell ⟨(w.heap.size+1),4,none⟩ (.int .i64 cg))=wD at *;obtain⟨⟨b6c0,b6f0⟩,⟨b6c1,b6f1⟩,⟨b6c2,b6f2⟩,⟨b6c3,b6f3⟩,⟨b6c4,b6f4⟩⟩:=bx5 (S.box 0 rfl);refine bodyPost_ret (v:=.tuple #[.agg #[.slice ua R.length uc,.int .i64 cr,.int .i64 ca,.int .i64 cs,.int .i64 cg],.string ⟨#[110,111,110,101]⟩]) (by simp[results,Tryz.results32,go_sem,b6c0,b6c1,b6c2,b6c3,b6c4]) rfl ?_;rw[HX.out];replace S:Sep W0 wD [plNd (.slice ua R.length uc) vs R]:=(S.drop 1).drop 0;exact⟨_,vs,rfl,S⟩
 ·have HX:Hid (doneT T (R,f)=(T,faultText f)):=hd0 (by unfold doneT;rw[if_neg hf])
  have tf:(f == 0)=false:=by simpa using hf
  clear hf
  go_enter Tryz.func32,Tryz.ntmps32
  replace S:Sep W0 w []:=S.drop 0;replace S:=S.alloc_at (n:=w.heap.size) (by simp) #[.slice at_ T.length cap,.int .i64 cr,.int .i64 ca,.int .i64 cs,.int .i64 cg] 31;replace S:=S.alloc_at (n:=(w.heap.size+1)) (by simp) #[.slice none 0 0,.int .i64 0,.int .i64 0,.int .i64 0,.int .i64 0] 31
  go_upto_region 3 with fail
  have hcw:=hc.ext (((Ext.refl w).alloc (.cells #[.slice at_ T.length cap,.int .i64 cr,.int .i64 ca,.int .i64 cs,.int .i64 cg] 31)).alloc (.cells #[.slice none 0 0,.int .i64 0,.int .i64 0,.int .i64 0,.int .i64 0] 31));generalize ((w.alloc (.cells #[.slice at_ T.length cap,.int .i64 cr,.int .i64 ca,.int .i64 cs,.int .i64 cg] 31)).alloc (.cells #[.slice none 0 0,.int .i64 0,.int .i64 0,.int .i64 0,.int .i64 0] 31))=w1 at *;generalize w.heap.size+1=B6 at *;generalize w.heap.size=B3 at *;have HC:=hcw;have S:=S.drew;obtain⟨b3c0,_⟩:=bx (S.box 1 rfl) 0 rfl;obtain⟨b3c1,_⟩:=bx (S.box 1 rfl) 1 rfl;obtain⟨b3c2,_⟩:=bx (S.box 1 rfl) 2 rfl;obtain⟨b3c3,_⟩:=bx (S.box 1 rfl) 3 rfl;obtain⟨b3c4,_⟩:=bx (S.box 1 rfl) 4 rfl;have hcd:RdN (World.drew w1) at_ T:=hcw.ext (Ext.refl w1).drew;have HSd:=hd0 S;clear S HC hcw;refine wp_region_c (V:=VDn (World.drew w1) B3 at_ cap T cr ca cs cg f) (fun wv=>Ext (World.drew w1) wv) (fun i=>if i=2 then some 5 else none) [] 8 0 rfl (by decide) (by kernel_rfl) (by kernel_rfl) (by kernel_rfl) (by kernel_rfl) (Ext.refl _) (fun r hr=>by omega) ?_ ?_
  ·intro i o hi ho vz w4 hvl hE hd hrest
   match vz,hvl with
   | [y0,y1,y2,y3,y4,y5,y6,y7],_ =>
   rcases lc8 hi with rfl|rfl|rfl|rfl|rfl|rfl|rfl|rfl
   all_goals
    obtain rfl:=Option.some.inj ho
   ·clear hd hrest;simp[putAll,Act.put];go_wp2;exact OneC.mk (VDn.ext) rfl rfl hE (Ext.refl _)
   ·have q0:y0=.pointer (some ⟨B3,0,none⟩):=hd ⟨0,.data⟩ (by simp) rfl (.inl rfl);have c0:=cell_ext hE b3c0;subst q0;clear hd hrest;simp[putAll,Act.put];go_wp2;exact OneC.mk (VDn.ext) rfl rfl hE (Ext.refl _)
   ·have q1:y1=.slice at_ T.length cap:=hd ⟨1,.data⟩ (by simp) rfl (.inl rfl);have HC:=hd0 (specCopy at_ cap T w4 hl HT.out (hcd.ext hE));subst q1;clear hd hrest;simp[putAll,Act.put]
    go_wp2_with fail
    refine HC.out.mono ?_;rintro e w5 ⟨u5,vs5,rfl,S5⟩;have S6:=S5.since hE;have hE5:=S5.ext;clear HC S5;go_wp2;exact OneC.mk (VDn.ext) rfl ⟨_,S6⟩ (hE.trans hE5) hE5
   ·clear hd hrest;simp[putAll,Act.put];go_wp2;exact OneC.mk (VDn.ext) rfl rfl hE (Ext.refl _)
   ·have q3:y3=.pointer (some ⟨B3,1,none⟩):=hd ⟨3,.data⟩ (by simp) rfl (.inl rfl);have c1:=cell_ext hE b3c1;have c2:=cell_ext hE b3c2;have c3:=cell_ext hE b3c3;have c4:=cell_ext hE b3c4;subst q3;clear hd hrest;simp[putAll,Act.put];go_wp2;exact OneC.mk (VDn.ext) rfl rfl hE (Ext.refl _)
   ·obtain⟨vs2,S2⟩:∃vs,Sep (World.drew w1) w4 [plNd y2 vs T]:=hd ⟨2,.data⟩ (by simp) rfl (.inr rfl);have q4:y4=.agg #[.int .i64 cr,.int .i64 ca,.int .i64 cs,.int .i64 cg]:=hd ⟨4,.data⟩ (by simp) rfl (.inl rfl);obtain⟨ua2,uc2,rfl,_,_⟩:=nd_view (S2.at_ 0 rfl);have HS2:=hd0 S2;subst q4;clear hd hrest S2;simp[putAll,Act.put];go_wp2;refine⟨rfl,_,rfl,⟨_,vs2,rfl,HS2.out⟩,hE,fun j u hj hne hcon hnd hnc hv=>hv⟩
   ·clear hd hrest;simp[putAll,Act.put];go_wp2;exact OneC.mk (VDn.ext) rfl rfl hE (Ext.refl _)
   ·have q6:y6=.int .i64 f:=hd ⟨6,.data⟩ (by simp) rfl (.inl rfl);have HC:=hd0 (specFaultText f w4);subst q6;clear hd hrest;simp[putAll,Act.put]
    go_wp2_with fail
    refine HC.out.mono ?_;rintro e w5 ⟨rfl,hE5⟩;have HE5:=hd0 hE5;clear HC hE5;go_wp2;exact OneC.mk (VDn.ext) rfl rfl (hE.trans HE5.out) HE5.out
  ·intro vz wE hvl hE hV _
   match vz,hvl with
   | [y0,y1,y2,y3,y4,y5,y6,y7],_ =>
   obtain⟨u5,vs5,q5,S5⟩:∃u vs,y5=.agg #[u,.int .i64 cr,.int .i64 ca,.int .i64 cs,.int .i64 cg]∧Sep (World.drew w1) wE [plNd u vs T]:=hV 5 (by omega) rfl;have q7:y7=.string (faultText f):=hV 7 (by omega) rfl;have S:=HSd.out.call S5;obtain⟨ua5,uc5,rfl,_,_⟩:=nd_view (S5.at_ 0 rfl);have S:Sep W0 wE [plNd (.slice ua5 T.length uc5) vs5 T,plBox B6 #[.slice none 0 0,.int .i64 0,.int .i64 0,.int .i64 0,.int .i64 0] 31,plBox B3 #[.slice at_ T.length cap,.int .i64 cr,.int .i64 ca,.int .i64 cs,.int .i64 cg] 31]:=S;subst q5 q7;clear hV hE S5 HSd hcd b3c0 b3c1 b3c2 b3c3 b3c4;simp only[putAll,Act.put,List.take_succ_cons,List.take_zero,List.drop_succ_cons,List.drop_zero];simp;generalize faultText f=tx at *;obtain⟨⟨b6c0,b6f0⟩,⟨b6c1,b6f1⟩,⟨b6c2,b6f2⟩,⟨b6c3,b6f3⟩,⟨b6c4,b6f4⟩⟩:=bx5 (S.box 1 rfl);go_wp2;clear b6c0 b6f0 b6c1 b6f1 b6c2 b6f2 b6c3 b6f3 b6c4 b6f4;replace S:Sep W0 (((((wE.setCell ⟨B6,0,none⟩ (.slice ua5 T.length uc5)).setCell ⟨B6,1,none⟩ (.int .i64 cr)).setCell ⟨B6,2,none⟩ (.int .i64 ca)).setCell ⟨B6,3,none⟩ (.int .i64 cs)).setCell ⟨B6,4,none⟩ (.int .i64 cg)) [plNd (.slice ua5 T.length uc5) vs5 T,plBox B6 #[.slice ua5 T.length uc5,.int .i64 cr,.int .i64 ca,.int .i64 cs,.int .i64 cg] 31,plBox B3 #[.slice at_ T.length cap,.int .i64 cr,.int .i64 ca,.int .i64 cs,.int .i64 cg] 31]:=((((S.set 1 rfl 0 _).set 1 rfl 1 _).set 1 rfl 2 _).set 1 rfl 3 _).set 1 rfl 4 _;generalize (((((wE.setCell ⟨B6,0,none⟩ (.slice ua5 T.length uc5)).setCell ⟨B6,1,none⟩ (.int .i64 cr)).setCell ⟨B6,2,none⟩ (.int .i64 ca)).setCell ⟨B6,3,none⟩ (.int .i64 cs)).setCell ⟨B6,4,none⟩ (.int .i64 cg))=wD at *;obtain⟨⟨b6c0,b6f0⟩,⟨b6c1,b6f1⟩,⟨b6c2,b6f2⟩,⟨b6c3,b6f3⟩,⟨b6c4,b6f4⟩⟩:=bx5 (S.box 1 rfl);refine bodyPost_ret (v:=.tuple #[.agg #[.slice ua5 T.length uc5,.int .i64 cr,.int .i64 ca,.int .i64 cs,.int .i64 cg],.string tx]) (by simp[results,Tryz.results32,go_sem,b6c0,b6c1,b6c2,b6c3,b6c4]) rfl ?_;rw[HX.out];replace S:Sep W0 wD [plNd (.slice ua5 T.length uc5) vs5 T]:=(S.drop 2).drop 1;exact⟨_,vs5,rfl,S⟩
theorem row_tag {w:World} {base e nf n:Nat} {v:Value} {xs:List Value} (h:w.ownsRow base e nf v n xs) {b:Nat} (hb:v.ownBlock=some b):∃cur,w.heap[b]?=some (.cells cur e):=by
 rcases h.2 with⟨rfl,_⟩|⟨g,cap,cur,rfl,_,hg,_⟩
 ·cases hb
 ·obtain rfl:g=b:=Option.some.inj hb;exact⟨cur,hg⟩
theorem nd_tag {w:World} {u:Value} {vs:List Nc} {T:List Nd} (h:(plNd u vs T).ok w) {b:Nat} (hb:(plNd u vs T).own b):∃cur e,w.heap[b]?=some (.cells cur e)∧(e=89∨e=9∨e=3):=by
 obtain⟨h1,h2,h3,h4,h5⟩:=h
 rcases hb with hb|⟨s,hs,hb⟩
 ·obtain⟨cur,hc⟩:=row_tag h1 hb;exact⟨cur,_,hc,.inl rfl⟩
 ·obtain⟨i,hi⟩:=List.getElem?_of_mem hs;have hil:=(List.getElem?_eq_some_iff.1 hi).1;obtain⟨_,p1,p2,_⟩:=h3 i s T[i] hi (List.getElem?_eq_getElem (by omega))
  rcases hb with hb|hb
  ·obtain⟨cur,hc⟩:=row_tag p1 hb;exact⟨cur,_,hc,.inr (.inl rfl)⟩
  ·obtain⟨cur,hc⟩:=row_tag p2 hb;exact⟨cur,_,hc,.inr (.inr rfl)⟩
theorem SepM.addBox {M:Nat→Prop} {w0 w:World} {u:Value} {vs:List Nc} {T:List Nd} {R:List Pl} (S:SepM M w0 w (plNd u vs T :: R)) {B ty:Nat} {C:Array Value} (hB:w.heap[B]?=some (.cells C ty)) (hty:ty≠89∧ty≠9∧ty≠3) (hb:w0.heap.size≤B) (hR:∀p∈R,¬p.own B) :
  SepM M w0 w (plBox B C ty :: plNd u vs T :: R):=by
 refine⟨S.chg,S.small,fun p hp=>?_,fun p hp b hb2=>?_,List.pairwise_cons.2 ⟨fun p hp b hb2 hb3=>?_,S.apart⟩⟩
 ·rcases List.mem_cons.1 hp with rfl|hp
  ·exact hB
  ·exact S.ok p hp
 ·rcases List.mem_cons.1 hp with rfl|hp
  ·obtain rfl:b=B:=hb2;exact hb
  ·exact S.base p hp b hb2
 ·obtain rfl:b=B:=hb2
  rcases List.mem_cons.1 hp with rfl|hp
  ·obtain⟨cur,e,hc,he⟩:=nd_tag (S.at_ 0 rfl) hb3;rw[hB]at hc
   cases hc
   rcases he with rfl|rfl|rfl
   ·exact hty.1 rfl
   ·exact hty.2.1 rfl
   ·exact hty.2.2 rfl
  ·exact hR p hp hb3
end Go.Proofs.YtnibbldfohbfkaaGreatDoor
