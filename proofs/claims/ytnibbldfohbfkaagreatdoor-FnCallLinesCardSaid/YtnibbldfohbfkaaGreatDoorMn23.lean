/- Parts of one proof: what each theorem proves, and its conditions, stand in its own statement. -/
import Derived.Test.YtnibbldfohbfkaaGreatDoorMn7
set_option linter.all false
set_option maxRecDepth 100000
set_option maxHeartbeats 32000000
namespace Go.Proofs.YtnibbldfohbfkaaGreatDoor
open Go.RowKit
def VWay (ap:Option Addr) (nP cp:Nat) (P:List ByteArray) (aw:Option Addr) (nW cw k bw off:Nat) (x:ByteArray) (wr:World) (base:Nat):Nat→Value→World→Prop:=fun i v wv=>match i with
 | 0=>∃g,v=.slice (some ⟨g,0,none⟩) 0 0∧base≤g∧wv.heap[g]?=some (.cells #[] 9)
 | 1=>v=.slice ap nP cp
 | 2=>wv.ownsRow base 9 1 v (P).length ((P).flatMap encStr1)
 | 3=>v=.slice aw nW cw
 | 4=>v=.int .i64 k
 | 5=>v=.pointer (some ⟨bw,off+k,none⟩)
 | 6=>v=.string x
 | 7=>∃g,v=.slice (some ⟨g,0,none⟩) 1 1∧base≤g∧wv.heap[g]?=some (.cells #[.string x] 9)
 | 8=>wv.ownsRow base 9 1 v (P++[x]).length ((P++[x]).flatMap encStr1)
 | _=>True
theorem VWay.ext {ap:Option Addr} {nP cp:Nat} {P:List ByteArray} {aw:Option Addr} {nW cw k bw off:Nat} {x:ByteArray} {wr:World} {base:Nat} (i:Nat) (v:Value) (w1 w2:World) (h:VWay ap nP cp P aw nW cw k bw off x wr base i v w1) (hE:Ext w1 w2):VWay ap nP cp P aw nW cw k bw off x wr base i v w2:=by
 match i with
 | 0=>obtain⟨g,h1,h2,h3⟩:=h;exact⟨g,h1,h2,heapx hE h3⟩
 | 1=>exact h
 | 2=>exact ownsRow_ext (show w1.ownsRow _ _ _ _ _ _ from h) hE
 | 3=>exact h
 | 4=>exact h
 | 5=>exact h
 | 6=>exact h
 | 7=>obtain⟨g,h1,h2,h3⟩:=h;exact⟨g,h1,h2,heapx hE h3⟩
 | 8=>exact ownsRow_ext (show w1.ownsRow _ _ _ _ _ _ from h) hE
 | (n+9)=>trivial
def RetWords (s:ByteArray) (w:World) (e:Ending) (w':World):Prop:=∃u W,e=.returned u∧W.length≤s.size+1∧(∀x∈W,x.size≤s.size)∧Sep w w' [plRow 9 1 encStr1 u W]
theorem specWayWords (s:ByteArray) (w:World) (hs:s.size≤1000000):Calls Tryz.prog 158 #[.string s] w (RetWords s w):=by
 go_enter Tryz.func158,Tryz.ntmps158
 have S:=Sep.start w;replace S:Sep w (w.alloc (.cells #[.string ⟨#[]⟩] 9)) [plRow 9 1 encStr1 (.slice (some ⟨w.heap.size,0,none⟩) 1 1) ([⟨#[]⟩]:List ByteArray)]:=S.lit (by simp) _ _ encStr1_len ([⟨#[]⟩]:List ByteArray) rfl rfl (by omega);go_wp2;generalize (w.alloc (.cells #[.string ⟨#[]⟩] 9))=w1 at *
 go_loopw [3,4] (fun o i wr=>∃(k:Nat) (a:Option Addr) (c:Nat) (X:List ByteArray),k≤s.size∧i=.int .i64 k∧o=.slice a X.length c∧1≤X.length∧X.length≤k+1∧(∀x∈X,x.size≤k)∧Sep w wr [plRow 9 1 encStr1 (.slice a X.length c) X]) (fun _ i _=>s.size - (intOf i).toNat)
 case atStart=>exact⟨0,some ⟨w.heap.size,0,none⟩,1,[⟨#[]⟩],Nat.zero_le _,rfl,rfl,by simp,by simp,fun x hx=>by rw[List.mem_singleton.1 hx];exact Nat.zero_le _,S⟩
 case round =>
  clear S;obtain⟨k,a,c,X,hk,rfl,rfl,hX1,hXl,hF,S⟩:=hrel;have HF:=hd0 hF;clear hF
  by_cases hlt:k < s.size
  rotate_left
  ·obtain rfl:k=s.size:=by omega
   have hni:¬(s.size:Int) < (s.size:Int):=by omega
   go_wp2;go_ret;exact⟨_,X,rfl,hXl,HF.out,S⟩
  ·have i0:(k:Int) < (s.size:Int):=by omega
   have i00:(0:Int)≤(k:Int):=by omega
   by_cases hc:s[k].toNat=47
   ·have hc8:s[k]=47:=UInt8.toNat_inj.1 hc
    have tc:(s[k].toNat:Int)=47:=by omega
    have HFN:Hid (∀x∈X++[(⟨#[]⟩:ByteArray)],x.size≤k+1):=hd0 (fun x hx=>by
     rcases List.mem_append.1 hx with hx|hx
     ·have:=HF.out x hx;omega
     ·rw[List.mem_singleton.1 hx];exact Nat.zero_le _)
    clear hc8 hc;have SA:=S.alloc #[.string ⟨#[]⟩] 9;have rd1:Rd 1 encStr1 (wr.alloc (.cells #[.string ⟨#[]⟩] 9)) (some ⟨wr.heap.size,0,none⟩) [(⟨#[]⟩:ByteArray)]:=rd_lit_new [(⟨#[]⟩:ByteArray)] encStr1_len rfl
    go_wp2_with (at_builtin;refine Hid.out (?_:Hid _))
    unfold Hid;refine wpList_append_b rfl _ _ 39 rfl w.heap.size 9 _ 1 _ Tryz.underlying39 infoStr1 rfl (by decide) encStr1_len encStr1_one _ X.length X rfl (SA.row (0+1) rfl) rfl (some ⟨wr.heap.size,0,none⟩) 1 1 [(⟨#[]⟩:ByteArray)] rfl rfl rd1 (by omega) (by omega) SA.chg.size ?_;intro v7 w7 ho hgr hblk;obtain⟨G,hG⟩:∃G,G=X++[(⟨#[]⟩:ByteArray)]:=⟨_,rfl⟩
    have hGl:G.length=X.length+1:=by rw[hG];simp
    have HGl:=hd0 hGl;clear hGl;rw[←hG]at ho HFN;obtain⟨a7,c7,hv7,hk7,_,_⟩:=view_owns encStr1_len ho;subst hv7;have SM:=(SA.grow (0+1) rfl hgr ho hblk).drop 0;clear ho hgr hblk SA rd1 S hG;go_wp2;go_roundw
    case rel=>exact⟨k+1,a7,c7,G,by omega,by go_num,rfl,by have:=HGl.out;omega,by have:=HGl.out;omega,HFN.out,SM⟩
    case measure=>simp[intOf];omega
   ·have hc8:s[k]≠47:=fun h=>hc (by rw[h];rfl)
    have tc:((s[k].toNat:Int) == 47)=false:=by simp;omega
    obtain⟨m,hm⟩:∃m,X.length=m+1:=⟨X.length - 1,by omega⟩;have hx:X[m]?=some X[m]:=List.getElem?_eq_getElem (by omega);obtain⟨l,hl⟩:∃l,l=X[m]:=⟨_,rfl⟩;rw[←hl]at hx;have hrow:=S.row 0 rfl;obtain⟨g,rfl⟩:=row_blk encStr1_len hrow (by omega)
    have g0:wr.cell? ⟨g,m,none⟩=some (.string l):=by
     have:=owns_at encStr1_len hrow m (by omega) 0 (.string l) (by rw[←hl];rfl)
     simpa using this
    have hls:=HF.out l (List.mem_of_getElem? hx)
    have hE1:(s.extract k (k+1)).size=1:=by rw[ext_one hlt];rfl
    have HFN:Hid (∀x∈X.set m (l++s.extract k (k+1)),x.size≤k+1):=hd0 (fun x hx=>by
     rcases List.mem_or_eq_of_mem_set hx with hx|rfl
     ·have:=HF.out x hx;omega
     ·rw[ByteArray.size_append];omega)
    have hml:m < X.length:=by omega
    have t0:(0:Int) < (X.length:Int):=by omega
    have HXm:=hd0 hm
    have hw1:IntKind.i64.wrap ((X.length:Int) - 1)=(m:Int):=by rw[show(X.length:Int) - 1=m by omega];exact IntWalk.i64_in _ (by omega)
    have hmi:(m:Int) < (X.length:Int):=by omega
    have hwk:IntKind.i64.wrap ((k:Int)+1)=(k:Int)+1:=IntWalk.i64_in _ (by omega)
    have hsz:¬9223372036854775807 < l.size+1:=by omega
    have hkt:((k:Int)+1).toNat=k+1:=by omega
    have hk1:(k:Int)+1≤(s.size:Int):=by omega
    have hk2:(k:Int)≤(k:Int)+1:=by omega
    have hk3:(0:Int)≤(k:Int)+1:=by omega
    clear hc8 hc hl hx hm
    go_wp2_with fail
    go_still_tail 17,(by kernel_rfl)
    change wpList _ _ _ _ _ wr.drew
    generalize hw2:wr.drew=w2
    have he2:Ext wr w2:=by rw[←hw2];exact(Ext.refl wr).drew
    have SM:=(S.step he2).rowSet 0 encStr1_len rfl rfl m 0 (.string (l++s.extract k (k+1))) (l++s.extract k (k+1)) hml (by omega) rfl
    have f0:=(S.step he2).row 0 rfl |>.frozenAt
    have g2:=cell_ext he2 g0;have HSM:=hd0 SM;clear SM S g0 hw2 hrow;go_wp2;go_roundw
    case rel=>exact⟨k+1,some ⟨g,0,none⟩,c,X.set m (l++s.extract k (k+1)),by omega,by go_num,by rw[List.length_set],by rw[List.length_set];omega,by rw[List.length_set];omega,HFN.out,by simpa using HSM.out⟩
    case measure=>simp[intOf];omega
def RetBool (w:World) (e:Ending) (w':World):Prop:=∃v:Bool,e=.returned (.bool v)∧Ext w w'
theorem specWayValid (s:ByteArray) (w:World) (hs:s.size≤1000000):Calls Tryz.prog 157 #[.string s] w (RetBool w):=by
 go_enter Tryz.func157,Tryz.ntmps157
 go_wp2_with fail
 refine(specWayWords s w hs).mono ?_;rintro e w1 ⟨u,W,rfl,hWl,hWs,S⟩;have HWs:=hd0 hWs;obtain⟨a,c,rfl,hcap,hrd,_⟩:=view_owns encStr1_len (S.row 0 rfl);have hE0:=S.ext;have Hrd:=hd0 hrd;clear S hWs hrd hcap;go_wp2
 go_loopw [4] (fun i wr=>∃k:Nat,k≤W.length∧i=.int .i64 k∧Ext w1 wr) (fun i _=>W.length - (intOf i).toNat)
 case atStart=>exact⟨0,Nat.zero_le _,rfl,Ext.refl _⟩
 case round =>
  obtain⟨k,hk,rfl,hb⟩:=hrel
  by_cases hlt:k < W.length
  rotate_left
  ·obtain rfl:k=W.length:=by omega
   have hni:¬(W.length:Int) < (W.length:Int):=by omega
   by_cases h12:W.length≤12
   ·have t12:(W.length:Int)≤12:=by omega
    go_wp2;go_ret;exact⟨_,rfl,hE0.trans hb⟩
   ·have t12:¬(W.length:Int)≤12:=by omega
    go_wp2;go_ret;exact⟨_,rfl,hE0.trans hb⟩
  ·obtain⟨x,b,off,hx,rfl,c0⟩:=atStr (Hrd.out.ext hb) hlt
   have i0:(k:Int) < (W.length:Int):=by omega
   have hxs:x.size≤9223372036854775807:=by have:=HWs.out x (List.mem_of_getElem? hx);omega
   clear hx
   cases h1:x.toList.isEmpty with
   | true =>
    go_wp2;go_roundw
    case rel=>exact⟨k+1,by omega,by go_num,hb⟩
    case measure=>simp[intOf];omega
   | false =>
    cases h2:(x.toList == [46])with
    | true =>
     go_wp2;go_roundw
     case rel=>exact⟨k+1,by omega,by go_num,hb⟩
     case measure=>simp[intOf];omega
    | false =>
     cases h3:(x.toList == [46,46])with
     | true =>
      go_wp2;go_roundw
      case rel=>exact⟨k+1,by omega,by go_num,hb⟩
      case measure=>simp[intOf];omega
     | false =>
      go_wp2_with fail
      refine(specNameValid x wr hxs).mono ?_;rintro e w2 ⟨v,rfl,_,hE⟩;clear c0
      cases v with
      | false =>
       go_wp2;go_ret;exact⟨_,rfl,hE0.trans (hb.trans hE)⟩
      | true =>
       go_wp2;go_roundw
       case rel=>exact⟨k+1,by omega,by go_num,hb.trans hE⟩
       case measure=>simp[intOf];omega
def RetText (w:World) (e:Ending) (w':World):Prop:=∃t:ByteArray,e=.returned (.string t)∧t.size≤54∧Ext w w'
theorem specFollowWay (src way:ByteArray) (w:World) (h1:src.size≤1000000) (h2:way.size≤1000000) (h3:0 < way.size) (h4:way[0].toNat≠47):Calls Tryz.prog 135 #[.string src,.string way] w (RetText w):=by
 have te:=isEmpty_pos h3
 have tc:((way[0].toNat:Int) == 47)=false:=by simp;omega
 have z0:(0:Int) < (way.size:Int):=by omega
 clear h4
 go_enter Tryz.func135,Tryz.ntmps135
 go_wp2_with fail
 refine(specPathParts src w (by omega)).mono ?_;rintro e w1 ⟨u,P0,ok,rfl,hR,S⟩;obtain⟨hP6,hP8⟩:=parts_len hR;have HP8:=hd0 hP8;obtain⟨ap0,cp0,rfl,hcap0,hrd0,_⟩:=view_owns encStr1_len (S.row 0 rfl);have Hrd0:=hd0 hrd0;have E1:=S.ext;clear hP8 hrd0 S hR
 cases ok with
 | false =>
  go_wp2;go_ret;exact⟨_,rfl,Nat.zero_le _,E1⟩
 | true =>
  go_wp2_with fail
  refine(specWayValid way w1 h2).mono ?_;rintro e w2 ⟨v,rfl,hE⟩;have E2:=E1.trans hE
  cases v with
  | false =>
   go_wp2;go_ret;exact⟨_,rfl,Nat.zero_le _,E2⟩
  | true =>
   go_wp2_with fail
   refine(specWayWords way w2 h2).mono ?_;rintro e w3 ⟨u,W,rfl,hWl,hWs,S⟩;have HWs:=hd0 hWs;obtain⟨aw,cw,rfl,hcapw,hrdw,_⟩:=view_owns encStr1_len (S.row 0 rfl);have Hrw:=hd0 hrdw;have HP0:Hid (Rd 1 encStr1 w3 ap0 P0):=hd0 ((Hrd0.out.ext hE).ext S.ext);have E3:=hd0 (E2.trans S.ext);have HPs:Hid (∀p∈P0,p.size≤1000000):=hd0 (fun p hp=>by have:=HP8.out p hp;omega);clear hWs hrdw S hcapw Hrd0 E1 E2 hE HP8;go_wp2
   go_loopw [5,8,50,53] (fun ps i _ _ wr=>∃(k:Nat) (a:Option Addr) (c:Nat) (P:List ByteArray),k≤W.length∧i=.int .i64 k∧ps=.slice a P.length c∧P.length≤6∧P.length≤c∧(∀p∈P,p.size≤1000000)∧Rd 1 encStr1 wr a P∧Ext w3 wr) (fun _ i _ _ _=>W.length - (intOf i).toNat)
   case atStart=>exact⟨0,ap0,cp0,P0,Nat.zero_le _,rfl,rfl,hP6,hcap0,HPs.out,HP0.out,Ext.refl _⟩
   case round =>
    clear hcap0 hP6;obtain⟨k,ap,cp,P,hk,rfl,rfl,hP6,hcap,hPs,hrP,hb⟩:=hrel;have HPs2:=hd0 hPs;have HrP:=hd0 hrP;clear hPs hrP
    by_cases hlt:k < W.length
    rotate_left
    ·obtain rfl:k=W.length:=by omega
     have hni:¬(W.length:Int) < (W.length:Int):=by omega
     go_wp2_with fail
     refine(specJoinPath ap cp P wr (by omega) (fun x hx=>by have:=HPs2.out x hx;omega) HrP.out).mono ?_;rintro e w9 ⟨v,rfl,rfl,hE⟩;go_wp2;go_ret;exact⟨_,rfl,joinPath_size P,(E3.out.trans hb).trans hE⟩
    ·obtain⟨x,bw,off,hx,rfl,c0⟩:=atStr (Hrw.out.ext hb) hlt
     have i0:(k:Int) < (W.length:Int):=by omega
     have hxs:=HWs.out x (List.mem_of_getElem? hx)
     have t6:¬(6:Int) < (P.length:Int):=by omega
     clear hx
     cases h1:x.toList.isEmpty with
     | true =>
      go_wp2;go_roundw
      case rel=>exact⟨k+1,ap,cp,P,by omega,by go_num,rfl,hP6,hcap,HPs2.out,HrP.out,hb⟩
      case measure=>simp[intOf];omega
     | false =>
      cases h2:(x.toList == [46])with
      | true =>
       go_wp2;go_roundw
       case rel=>exact⟨k+1,ap,cp,P,by omega,by go_num,rfl,hP6,hcap,HPs2.out,HrP.out,hb⟩
       case measure=>simp[intOf];omega
      | false =>
       cases h3:(x.toList == [46,46])with
       | true =>
        by_cases hP:P=[]
        ·have t0:¬(0:Int) < (P.length:Int):=by rw[hP];simp
         go_wp2;go_roundw
         case rel=>exact⟨k+1,ap,cp,P,by omega,by go_num,rfl,hP6,hcap,HPs2.out,HrP.out,hb⟩
         case measure=>simp[intOf];omega
        ·obtain⟨m,hm⟩:∃m,P.length=m+1:=⟨P.length - 1,by have:=List.length_pos_iff.2 hP;omega⟩;obtain⟨l,b1,off1,_,rfl,_⟩:=atStr HrP.out (show m < P.length by omega)
         have t0:(0:Int) < (P.length:Int):=by omega
         have hwm:IntKind.i64.wrap ((P.length:Int) - 1)=(m:Int):=by rw[show(P.length:Int) - 1=m by omega];exact IntWalk.i64_in _ (by omega)
         have hmc:(m:Int)≤(cp:Int):=by omega
         have t7:¬(6:Int) < (m:Int):=by omega
         have Hm:=hd0 hm;clear hm hP;go_wp2;go_roundw
         case rel=>exact⟨k+1,some ⟨b1,off1,none⟩,cp,P.take m,by omega,by go_num,by rw[List.length_take];have:=Hm.out;congr 1;omega,by rw[List.length_take];have:=Hm.out;omega,by rw[List.length_take];omega,fun p hp=>HPs2.out p (List.mem_of_mem_take hp),HrP.out.take m,hb⟩
         case measure=>simp[intOf];omega
       | false =>
        go_upto_region 11 with fail
        have hrP:=HrP.out;have c3F:=c0;refine wp_region_t (V:=VWay ap P.length cp P (some ⟨bw,off,none⟩) W.length cw k bw off x wr wr.heap.size) (Ext wr) (fun i=>if i=0 then some 2 else if i=2 then some 8 else if i=7 then some 8 else none) [(8,2)] 9 0 rfl (by decide) (by kernel_rfl) (by kernel_rfl) (by kernel_rfl) (by kernel_rfl) (Ext.refl wr).drew (fun r hr=>absurd hr (Nat.not_lt_zero _)) ?_ ?_
        ·intro i o hi ho vz w4 hvl hE hd hrest;have hsz:wr.heap.size≤w4.heap.size:=hE.size
         match vz,hvl with
         | [y0,y1,y2,y3,y4,y5,y6,y7,y8],_ =>
         rcases lc9 hi with rfl|rfl|rfl|rfl|rfl|rfl|rfl|rfl|rfl
         all_goals
          obtain rfl:=Option.some.inj ho
         ·clear hd hrest;simp[putAll,Act.put];go_wp2;exact OneC.mk (VWay.ext) rfl ⟨_,rfl,hsz,heap_alloc_new w4 _⟩ (hE.alloc _) ((Ext.refl _).alloc _)
         ·clear hd hrest;simp[putAll,Act.put];go_wp2;exact OneC.mk (VWay.ext) rfl rfl hE (Ext.refl _)
         ·obtain⟨gq0,q0,hbq0,hgq0⟩:∃g,y0=.slice (some ⟨g,0,none⟩) 0 0∧wr.heap.size≤g∧w4.heap[g]?=some (.cells #[] 9):=hd ⟨0,.data⟩ (by simp) rfl (by decide);have q1:y1=.slice ap P.length cp:=hd ⟨1,.data⟩ (by simp) rfl (by decide);have hr4:=Rd.ext hrP hE;subst q0 q1;clear hd hrest;simp[putAll,Act.put];refine wpList_append_lit rfl _ _ 39 rfl wr.heap.size 9 _ 1 _ Tryz.underlying39 infoStr1 rfl (by decide) encStr1_len encStr1_one gq0 rfl hgq0 hbq0 ap (P.length) _ (P) rfl (rfl) hr4 (by omega) (by omega) hsz ?_;intro v9 w9 ho9 hE9;go_wp2;exact OneC.mk (VWay.ext) rfl ho9 (hE.trans hE9) hE9
         ·clear hd hrest;simp[putAll,Act.put];go_wp2;exact OneC.mk (VWay.ext) rfl rfl hE (Ext.refl _)
         ·clear hd hrest;simp[putAll,Act.put];go_wp2;exact OneC.mk (VWay.ext) rfl rfl hE (Ext.refl _)
         ·have q3:y3=.slice (some ⟨bw,off,none⟩) W.length cw:=hd ⟨3,.data⟩ (by simp) rfl (by decide);have q4:y4=.int .i64 k:=hd ⟨4,.data⟩ (by simp) rfl (by decide);subst q3 q4;clear hd hrest;simp[putAll,Act.put];go_wp2;exact OneC.mk (VWay.ext) rfl rfl hE (Ext.refl _)
         ·have q5:y5=.pointer (some ⟨bw,off+k,none⟩):=hd ⟨5,.data⟩ (by simp) rfl (by decide);have c3:=cell_ext hE c3F;subst q5;clear hd hrest;simp[putAll,Act.put];go_wp2;exact OneC.mk (VWay.ext) rfl rfl hE (Ext.refl _)
         ·have q6:y6=.string x:=hd ⟨6,.data⟩ (by simp) rfl (by decide);subst q6;clear hd hrest;simp[putAll,Act.put];go_wp2;exact OneC.mk (VWay.ext) rfl ⟨_,rfl,hsz,heap_alloc_new w4 _⟩ (hE.alloc _) ((Ext.refl _).alloc _)
         ·have q0:w4.ownsRow wr.heap.size 9 1 y2 (P).length ((P).flatMap encStr1):=hd ⟨2,.data⟩ (by simp) rfl (by decide);obtain⟨gq1,q1,hbq1,hgq1⟩:∃g,y7=.slice (some ⟨g,0,none⟩) 1 1∧wr.heap.size≤g∧w4.heap[g]?=some (.cells #[.string x] 9):=hd ⟨7,.data⟩ (by simp) rfl (by decide);have hrd:Rd 1 encStr1 w4 (some ⟨gq1,0,none⟩) [x]:=rd_lit [x] encStr1_len hgq1 rfl;subst q1;clear hd hrest;simp[putAll,Act.put];refine wpList_append_rd rfl _ _ 39 rfl wr.heap.size 9 _ 1 _ Tryz.underlying39 infoStr1 rfl (by decide) encStr1_len encStr1_one _ (P).length (P) rfl q0 rfl (some ⟨gq1,0,none⟩) 1 1 [x] rfl rfl hrd (by first|omega|(simp;omega)) (by omega) hsz ?_;intro v9 w9 ho9 hg9;have hE9:Ext wr w9:=hE.grown hg9 (fun k h=>(q0.lt k h).1);go_wp2;refine⟨rfl,_,rfl,ho9,hE9,fun j u hj hne hcon hnd hnc hv=>?_⟩
          match j with
          | 0=>exact absurd (by decide) (hnc 2 rfl)
          | 1=>exact hv
          | 2=>exact absurd rfl hcon
          | 3=>exact hv
          | 4=>exact hv
          | 5=>exact hv
          | 6=>exact hv
          | 7=>exact absurd rfl hcon
          | 8=>exact absurd rfl hne
          | (zz+9)=>trivial
        ·intro vz wE hvl hE hV _
         match vz,hvl with
         | [y0,y1,y2,y3,y4,y5,y6,y7,y8],_ =>
          have o8:wE.ownsRow wr.heap.size 9 1 y8 (P++[x]).length ((P++[x]).flatMap encStr1):=hV 8 (by omega) rfl;obtain⟨a8,c8,hv8,hcap8,hrd8,_⟩:=view_owns encStr1_len o8;obtain⟨G,hG⟩:∃G,G=P++[x]:=⟨_,rfl⟩
          have hGl:G.length=P.length+1:=by rw[hG];simp
          have HG:=hd0 hG;rw[←hG]at hv8 hcap8 hrd8;have Hrd8:=hd0 hrd8;clear hV o8 hG hrd8 c0 c3F hrP;subst hv8;have hbE:=hb.trans hE;clear hE;simp only[putAll,Act.put,List.take_succ_cons,List.take_zero,List.drop_succ_cons,List.drop_zero];simp
          by_cases h6:P.length=6
          ·have t7:(6:Int) < (G.length:Int):=by omega
           have HGl:=hd0 hGl;clear hGl;go_wp2;go_ret;exact⟨_,rfl,Nat.zero_le _,E3.out.trans hbE⟩
          ·have t7:¬(6:Int) < (G.length:Int):=by omega
           have HGl:=hd0 hGl;clear hGl;go_wp2;go_roundw
           case rel =>
            refine⟨k+1,a8,c8,G,by omega,by go_num,rfl,by have:=HGl.out;omega,hcap8,fun p hp=>?_,Hrd8.out,hbE⟩;rw[HG.out]at hp
            rcases List.mem_append.1 hp with hp|hp
            ·exact HPs2.out p hp
            ·rw[List.mem_singleton.1 hp];omega
           case measure=>simp[intOf];omega
theorem Chg.grownB {S:Nat→Prop} {a b c:World} {row:Option Nat} (h:Chg S a b) (hg:b.grownBy c row) (hr:∀k,row=some k→a.heap.size≤k):Chg S a c :=
 ⟨hg.os.trans h.os,hg.tape.trans h.tape,hg.output.trans h.output,Nat.le_trans h.size hg.size,fun k hk hn=>(hg.block k (Nat.lt_of_lt_of_le hk h.size) (fun e=>absurd (hr k e.symm) (by omega))).trans (h.block k hk hn)⟩
theorem ownsRow_frame {w w':World} {base e nf:Nat} {v:Value} {n:Nat} {xs:List Value} (h:w.ownsRow base e nf v n xs) (hf:∀b,v.ownBlock=some b→w'.heap[b]?=w.heap[b]?):w'.ownsRow base e nf v n xs:=by
 refine⟨h.1,?_⟩
 rcases h.2 with h2|⟨b,cap,cur,hv,hb,hh,r⟩
 ·exact .inl h2
 ·exact .inr ⟨b,cap,cur,hv,hb,(hf b (by rw[hv];rfl)).trans hh,r⟩
def VPth (w:World) (ou:Value) (O:List ByteArray) (bt off nT cap n bk ok nK ck k:Nat) (y:Int) (ap:Option Addr) (nP cp:Nat) (P:List ByteArray) (bn on nN cn:Nat) (x:ByteArray) (bnd:Nat) (wr:World) (base:Nat):Nat→Value→World→Prop:=fun i v wv=>match i with
 | 0=>v=ou
 | 1=>v=.slice (some ⟨bt,off,none⟩) nT cap
 | 2=>v=.slice (some ⟨bt,off,none⟩) nT cap
 | 3=>v=.int .i64 n
 | 4=>v=.pointer (some ⟨bt,off+n*7,none⟩)
 | 5=>v=.pointer (some ⟨bt,off+n*7+6,none⟩)
 | 6=>v=.slice (some ⟨bk,ok,none⟩) nK ck
 | 7=>v=.int .i64 k
 | 8=>v=.pointer (some ⟨bk,ok+k,none⟩)
 | 9=>v=.int .i64 y
 | 10=>∃g,v=.slice (some ⟨g,0,none⟩) 0 0∧base≤g∧wv.heap[g]?=some (.cells #[] 9)
 | 11=>v=.slice ap nP cp
 | 12=>wv.ownsRow base 9 1 v (P).length ((P).flatMap encStr1)
 | 13=>v=.slice (some ⟨bt,off,none⟩) nT cap
 | 14=>v=.int .i64 n
 | 15=>v=.pointer (some ⟨bt,off+n*7,none⟩)
 | 16=>v=.pointer (some ⟨bt,off+n*7+5,none⟩)
 | 17=>v=.slice (some ⟨bn,on,none⟩) nN cn
 | 18=>v=.int .i64 k
 | 19=>v=.pointer (some ⟨bn,on+k,none⟩)
 | 20=>v=.string x
 | 21=>∃g,v=.slice (some ⟨g,0,none⟩) 1 1∧base≤g∧wv.heap[g]?=some (.cells #[.string x] 9)
 | 22=>wv.ownsRow base 9 1 v (P++[x]).length ((P++[x]).flatMap encStr1)
 | 23=>∃L:List ByteArray,L.length≤bnd∧(∀s∈L,s.size≤54)∧wv.ownsRow base 9 1 v L.length (L.flatMap encStr1)
 | 24=>∃L:List ByteArray,L.length≤bnd∧(∀s∈L,s.size≤54)∧wv.ownsRow w.heap.size 9 1 v (O++L).length ((O++L).flatMap encStr1)
 | 25=>wv.ownsRow w.heap.size 9 1 ou (O).length ((O).flatMap encStr1)
 | _=>True
theorem VPth.ext {w:World} {ou:Value} {O:List ByteArray} {bt off nT cap n bk ok nK ck k:Nat} {y:Int} {ap:Option Addr} {nP cp:Nat} {P:List ByteArray} {bn on nN cn:Nat} {x:ByteArray} {bnd:Nat} {wr:World} {base:Nat} (i:Nat) (v:Value) (w1 w2:World) (h:VPth w ou O bt off nT cap n bk ok nK ck k y ap nP cp P bn on nN cn x bnd wr base i v w1) (hE:Ext w1 w2):VPth w ou O bt off nT cap n bk ok nK ck k y ap nP cp P bn on nN cn x bnd wr base i v w2:=by
 match i with
 | 0=>exact h
 | 1=>exact h
 | 2=>exact h
 | 3=>exact h
 | 4=>exact h
 | 5=>exact h
 | 6=>exact h
 | 7=>exact h
 | 8=>exact h
 | 9=>exact h
 | 10=>obtain⟨g,h1,h2,h3⟩:=h;exact⟨g,h1,h2,heapx hE h3⟩
 | 11=>exact h
 | 12=>exact ownsRow_ext (show w1.ownsRow _ _ _ _ _ _ from h) hE
 | 13=>exact h
 | 14=>exact h
 | 15=>exact h
 | 16=>exact h
 | 17=>exact h
 | 18=>exact h
 | 19=>exact h
 | 20=>exact h
 | 21=>obtain⟨g,h1,h2,h3⟩:=h;exact⟨g,h1,h2,heapx hE h3⟩
 | 22=>exact ownsRow_ext (show w1.ownsRow _ _ _ _ _ _ from h) hE
 | 23=>obtain⟨L,h1,h2,h3⟩:=h;exact⟨L,h1,h2,ownsRow_ext h3 hE⟩
 | 24=>obtain⟨L,h1,h2,h3⟩:=h;exact⟨L,h1,h2,ownsRow_ext h3 hE⟩
 | 25=>exact ownsRow_ext (show w1.ownsRow _ _ _ _ _ _ from h) hE
 | (n+26)=>trivial
def RetPaths (bnd:Nat) (w:World) (e:Ending) (w':World):Prop:=∃u L,e=.returned u∧1≤L.length∧L.length≤bnd∧(∀s∈L,s.size≤54)∧Sep w w' [plRow 9 1 encStr1 u L]
def bndP:Nat→Nat
 | 0=>1
 | d+1=>1+20*bndP d
theorem bndP_le:∀d,d≤5→bndP d≤3368421
 | 0,_=>by decide
 | 1,_=>by decide
 | 2,_=>by decide
 | 3,_=>by decide
 | 4,_=>by decide
 | 5,_=>by decide
 | (n+6),h=>by omega
theorem specPaths_any (T:List Nd) (hTr:TreeOk T) (h20:∀x∈T,x.N.length≤20):∀(d:Nat) (a:Option Addr) (cap:Nat) (n:Nat) (P:List ByteArray) (ap:Option Addr) (cp:Nat) (w:World),d≤6→P.length+d=6→n < T.length→(∀p∈P,p.size≤1000000)→RdN w a T→Rd 1 encStr1 w ap P →
  Calls Tryz.prog 156 #[.slice a T.length cap,.int .i64 (n:Int),.slice ap P.length cp] w (RetPaths (bndP d) w):=by
 intro d
 induction d with
 | zero =>
  intro a cap n P ap cp w _ hPd hn hPs hc hrP;obtain⟨x,bt,off,an,cn,ak,ck,hx,rfl,_,_,_,_,_,c5,_⟩:=atNd hc hn;have HPs:=hd0 hPs
  have t6:¬(P.length:Int) < 6:=by omega
  have i1:(n:Int) < (T.length:Int):=by omega
  clear hx hPs
  go_enter Tryz.func156,Tryz.ntmps156
  go_wp2_with fail
  refine(specJoinPath ap cp P w (by omega) (fun x hx=>by have:=HPs.out x hx;omega) hrP).mono ?_;rintro e w1 ⟨v,rfl,rfl,hE⟩;have hz:=joinPath_size P;have S:=Sep.start w;replace S:=S.step hE;clear hE;generalize joinPath P=J at *;replace S:Sep w (w1.alloc (.cells #[.string J] 9)) [plRow 9 1 encStr1 (.slice (some ⟨w1.heap.size,0,none⟩) 1 1) ([J]:List ByteArray)]:=S.lit (by simp) _ _ encStr1_len ([J]:List ByteArray) rfl rfl (by omega);have d5:=cell_ext S.ext c5
  go_upto_region 2 with fail
  generalize (w1.alloc (.cells #[.string J] 9))=w2 at *;go_wp2
  go_loopw [7,8] (fun o i wr=>i=.int .i64 0∧o=.slice (some ⟨w1.heap.size,0,none⟩) 1 1∧wr=w2) (fun _ _ _=>0)
  case atStart=>exact⟨rfl,rfl,rfl⟩
  case round =>
   obtain⟨rfl,rfl,rfl⟩:=hrel
   by_cases h0:0 < x.N.length
   ·have t0:(0:Int) < (x.N.length:Int):=by omega
    go_wp2;go_ret;exact⟨_,[J],rfl,by simp,by simp[bndP],fun s hs=>by rw[List.mem_singleton.1 hs];exact hz,S⟩
   ·have t0:¬(0:Int) < (x.N.length:Int):=by omega
    go_wp2;go_ret;exact⟨_,[J],rfl,by simp,by simp[bndP],fun s hs=>by rw[List.mem_singleton.1 hs];exact hz,S⟩
 | succ d ih =>
  have HIH0:=hd0 ih;have HTr:=hd0 hTr;have H20:=hd0 h20;clear ih hTr h20;intro a cap n P ap cp w hd6 hPd hn hPs hc hrP;obtain⟨x,bt,off,an,cn,ak,ck,hx,rfl,_,_,_,_,_,c5F,c6F,hcn,hck,hrn,hrk⟩:=atNd hc hn;have Hx:=hd0 hx;have HPs:=hd0 hPs;have Hc:=hd0 hc
  have t6:(P.length:Int) < 6:=by omega
  have i1:(n:Int) < (T.length:Int):=by omega
  clear hx hPs hc
  go_enter Tryz.func156,Tryz.ntmps156
  go_wp2_with fail
  refine(specJoinPath ap cp P w (by omega) (fun x hx=>by have:=HPs.out x hx;omega) hrP).mono ?_;rintro e w1 ⟨v,rfl,rfl,hE⟩;have hz:=joinPath_size P;have S:=Sep.start w;replace S:=S.step hE;clear hE;generalize joinPath P=J at *;replace S:Sep w (w1.alloc (.cells #[.string J] 9)) [plRow 9 1 encStr1 (.slice (some ⟨w1.heap.size,0,none⟩) 1 1) ([J]:List ByteArray)]:=S.lit (by simp) _ _ encStr1_len ([J]:List ByteArray) rfl rfl (by omega)
  go_upto_region 2 with fail
  generalize (w1.alloc (.cells #[.string J] 9))=w2 at *;have hO0:=S.row 0 rfl;have hE0:=S.ext;clear S;go_wp2
  go_loopw [7,8] (fun o i wr=>∃(k:Nat) (O:List ByteArray) (ou:Value),k≤x.N.length∧i=.int .i64 k∧ou=o∧1≤O.length∧O.length≤1+k*bndP d∧(∀s∈O,s.size≤54)∧wr.ownsRow w.heap.size 9 1 ou O.length (O.flatMap encStr1)∧Ext w wr) (fun _ i _=>x.N.length - (intOf i).toNat)
  case atStart=>exact⟨0,[J],_,Nat.zero_le _,rfl,rfl,by simp,by simp,fun s hs=>by rw[List.mem_singleton.1 hs];exact hz,hO0,hE0⟩
  case round =>
   clear hO0 hE0;obtain⟨k,O,ou,hk,rfl,rfl,hO1,hO2,hO3,hO,hb⟩:=hrel;have HO3:=hd0 hO3;clear hO3;have hb20:=H20.out x (List.mem_of_getElem? Hx.out);have hbd:=bndP_le d (by omega);have hkb:k*bndP d≤20*bndP d:=Nat.mul_le_mul_right _ (by omega);have d5:=cell_ext hb c5F
   by_cases hlt:k < x.N.length
   rotate_left
   ·obtain rfl:k=x.N.length:=by omega
    have hni:¬(x.N.length:Int) < (x.N.length:Int):=by omega
    have SO:=Sep.of_owns hb hO;have HB:Hid (O.length≤bndP (d+1)):=hd0 (by rw[bndP];omega);clear hkb hbd hO2;go_wp2;go_ret;exact⟨_,O,rfl,hO1,HB.out,HO3.out,SO⟩
   ·have hN:=HTr.out.nodes n x Hx.out
    have hltk:k < x.K.length:=by have:=hN.len;omega
    obtain⟨s,bn,on,hs,rfl,cxF⟩:=atStr hrn hlt;obtain⟨y,bk,ok,hy,rfl,cyF⟩:=atInt hrk hltk;obtain⟨j,rfl,hj⟩:=in_cast1 (nodeOk_kid hN (List.mem_of_getElem? hy))
    have hsN:=((nodeOk_iff.1 hN).1.dir (by
     cases hf:x.fold with
     | true=>rfl
     | false=>have:=hN.file hf;omega)).2.2 k hlt s hs
    have hss:s.size≤8:=hsN.1.2.2
    have i0:(k:Int) < (x.N.length:Int):=by omega
    have i0k:(k:Int) < (x.K.length:Int):=by omega
    have HbO:Hid (O.length≤1+20*bndP d):=hd0 (by omega);have HO2:=hd0 hO2;have Hbd:=hd0 hbd
    have HIH:Hid (∀w4,Ext w w4→∀a4 c4,Rd 1 encStr1 w4 a4 (P++[s])→Calls Tryz.prog 156 #[.slice (some ⟨bt,off,none⟩) T.length cap,.int .i64 (j:Int),.slice a4 (P++[s]).length c4] w4 (RetPaths (bndP d) w4)):=hd0 (fun w4 h4 a4 c4 hr4 =>
     HIH0.out (some ⟨bt,off,none⟩) cap j (P++[s]) a4 c4 w4 (by omega) (by rw[List.length_append,List.length_singleton];omega) hj (fun p hp=>by
      rcases List.mem_append.1 hp with hp|hp
      ·exact HPs.out p hp
      ·rw[List.mem_singleton.1 hp];omega) (Hc.out.ext h4) hr4)
    have HO:=hd0 hO;clear hN hsN hs hy hj hss hkb hbd hO2
    go_upto_region 5 with fail
    obtain⟨bnd,hbnd⟩:∃bnd,bnd=bndP d:=⟨_,rfl⟩;rw[←hbnd]at HIH HbO HO2 Hbd;have Hbnd:=hd0 hbnd;have hbd9:=Hbd.out;clear hbnd
    have hI0:∀wv,Chg (fun b=>ou.ownBlock=some b) (World.drew wr) wv→Ext w wv:=fun wv hI=>Chg.ext (hb.drew) hI (fun b hb2=>(HO.out.lt b hb2).1)
    have hOlt:∀b,ou.ownBlock=some b→b < wr.heap.size:=fun b hb2=>(HO.out.lt b hb2).2
    have Sd:(World.drew wr).ownsRow w.heap.size 9 1 ou O.length (O.flatMap encStr1):=ownsRow_ext HO.out (Ext.refl wr).drew;clear d5;refine wp_region_t (V:=VPth w ou O bt off T.length cap n bk ok x.K.length ck k (j:Int) ap P.length cp P bn on x.N.length cn s bnd wr wr.heap.size) (Chg (fun b=>(ou).ownBlock=some b) (World.drew wr)) (fun i=>if i=10 then some 12 else if i=12 then some 22 else if i=21 then some 22 else if i=22 then some 23 else if i=23 then some 24 else if i=25 then some 24 else none) [(22,12),(23,22),(24,22),(24,12),(24,23)] 25 1 rfl (by decide) (by kernel_rfl) (by kernel_rfl) (by kernel_rfl) (by kernel_rfl) (Chg.refl _ _) (fun r hr=>match r,hr with|0,_=>Sd) ?_ ?_
    ·intro i o hi ho vz w4 hvl hE hd hrest;have hsz:wr.heap.size≤w4.heap.size:=hE.size;have hE4:=hI0 w4 hE
     match vz,hvl with
     | [y0,y1,y2,y3,y4,y5,y6,y7,y8,y9,y10,y11,y12,y13,y14,y15,y16,y17,y18,y19,y20,y21,y22,y23,y24],_ =>
     rcases(show i=0∨i=1∨i=2∨i=3∨i=4∨i=5∨i=6∨i=7∨i=8∨i=9∨i=10∨i=11∨i=12∨i=13∨i=14∨i=15∨i=16∨i=17∨i=18∨i=19∨i=20∨i=21∨i=22∨i=23∨i=24 by omega)with rfl|rfl|rfl|rfl|rfl|rfl|rfl|rfl|rfl|rfl|rfl|rfl|rfl|rfl|rfl|rfl|rfl|rfl|rfl|rfl|rfl|rfl|rfl|rfl|rfl
     all_goals
      obtain rfl:=Option.some.inj ho
     ·clear hd hrest;simp[putAll,Act.put];go_wp2;exact OneC.mk (VPth.ext) rfl rfl hE (Ext.refl _)
     ·clear hd hrest;simp[putAll,Act.put];go_wp2;exact OneC.mk (VPth.ext) rfl rfl hE (Ext.refl _)
     ·clear hd hrest;simp[putAll,Act.put];go_wp2;exact OneC.mk (VPth.ext) rfl rfl hE (Ext.refl _)
     ·clear hd hrest;simp[putAll,Act.put];go_wp2;exact OneC.mk (VPth.ext) rfl rfl hE (Ext.refl _)
     ·have q2:y2=.slice (some ⟨bt,off,none⟩) T.length cap:=hd ⟨2,.data⟩ (by simp) rfl (by decide);have q3:y3=.int .i64 n:=hd ⟨3,.data⟩ (by simp) rfl (by decide);subst q2 q3;clear hd hrest;simp[putAll,Act.put];go_wp2;exact OneC.mk (VPth.ext) rfl rfl hE (Ext.refl _)
     ·have q4:y4=.pointer (some ⟨bt,off+n*7,none⟩):=hd ⟨4,.data⟩ (by simp) rfl (by decide);subst q4;clear hd hrest;simp[putAll,Act.put];go_wp2;exact OneC.mk (VPth.ext) rfl rfl hE (Ext.refl _)
     ·have q5:y5=.pointer (some ⟨bt,off+n*7+6,none⟩):=hd ⟨5,.data⟩ (by simp) rfl (by decide);have c3:=cell_ext hE4 c6F;subst q5;clear hd hrest;simp[putAll,Act.put];go_wp2;exact OneC.mk (VPth.ext) rfl rfl hE (Ext.refl _)
     ·clear hd hrest;simp[putAll,Act.put];go_wp2;exact OneC.mk (VPth.ext) rfl rfl hE (Ext.refl _)
     ·have q6:y6=.slice (some ⟨bk,ok,none⟩) x.K.length ck:=hd ⟨6,.data⟩ (by simp) rfl (by decide);have q7:y7=.int .i64 k:=hd ⟨7,.data⟩ (by simp) rfl (by decide);subst q6 q7;clear hd hrest;simp[putAll,Act.put];go_wp2;exact OneC.mk (VPth.ext) rfl rfl hE (Ext.refl _)
     ·have q8:y8=.pointer (some ⟨bk,ok+k,none⟩):=hd ⟨8,.data⟩ (by simp) rfl (by decide);have c3:=cell_ext hE4 cyF;subst q8;clear hd hrest;simp[putAll,Act.put];go_wp2;exact OneC.mk (VPth.ext) rfl rfl hE (Ext.refl _)
     ·clear hd hrest;simp[putAll,Act.put];go_wp2;exact OneC.mk (VPth.ext) rfl ⟨_,rfl,hsz,heap_alloc_new w4 _⟩ (hE.trans (Chg.of_ext ((Ext.refl w4).alloc _))) ((Ext.refl _).alloc _)
     ·clear hd hrest;simp[putAll,Act.put];go_wp2;exact OneC.mk (VPth.ext) rfl rfl hE (Ext.refl _)
     ·obtain⟨gq0,q0,hbq0,hgq0⟩:∃g,y10=.slice (some ⟨g,0,none⟩) 0 0∧wr.heap.size≤g∧w4.heap[g]?=some (.cells #[] 9):=hd ⟨10,.data⟩ (by simp) rfl (by decide);have q1:y11=.slice ap P.length cp:=hd ⟨11,.data⟩ (by simp) rfl (by decide);have hr4:=Rd.ext hrP hE4;subst q0 q1;clear hd hrest;simp[putAll,Act.put];refine wpList_append_lit rfl _ _ 39 rfl wr.heap.size 9 _ 1 _ Tryz.underlying39 infoStr1 rfl (by decide) encStr1_len encStr1_one gq0 rfl hgq0 hbq0 ap (P.length) _ (P) rfl (rfl) hr4 (by omega) (by omega) hsz ?_;intro v9 w9 ho9 hE9;go_wp2;exact OneC.mk (VPth.ext) rfl ho9 (hE.trans (Chg.of_ext hE9)) hE9
     ·clear hd hrest;simp[putAll,Act.put];go_wp2;exact OneC.mk (VPth.ext) rfl rfl hE (Ext.refl _)
     ·clear hd hrest;simp[putAll,Act.put];go_wp2;exact OneC.mk (VPth.ext) rfl rfl hE (Ext.refl _)
     ·have q13:y13=.slice (some ⟨bt,off,none⟩) T.length cap:=hd ⟨13,.data⟩ (by simp) rfl (by decide);have q14:y14=.int .i64 n:=hd ⟨14,.data⟩ (by simp) rfl (by decide);subst q13 q14;clear hd hrest;simp[putAll,Act.put];go_wp2;exact OneC.mk (VPth.ext) rfl rfl hE (Ext.refl _)
     ·have q15:y15=.pointer (some ⟨bt,off+n*7,none⟩):=hd ⟨15,.data⟩ (by simp) rfl (by decide);subst q15;clear hd hrest;simp[putAll,Act.put];go_wp2;exact OneC.mk (VPth.ext) rfl rfl hE (Ext.refl _)
     ·have q16:y16=.pointer (some ⟨bt,off+n*7+5,none⟩):=hd ⟨16,.data⟩ (by simp) rfl (by decide);have c3:=cell_ext hE4 c5F;subst q16;clear hd hrest;simp[putAll,Act.put];go_wp2;exact OneC.mk (VPth.ext) rfl rfl hE (Ext.refl _)
     ·clear hd hrest;simp[putAll,Act.put];go_wp2;exact OneC.mk (VPth.ext) rfl rfl hE (Ext.refl _)
     ·have q17:y17=.slice (some ⟨bn,on,none⟩) x.N.length cn:=hd ⟨17,.data⟩ (by simp) rfl (by decide);have q18:y18=.int .i64 k:=hd ⟨18,.data⟩ (by simp) rfl (by decide);subst q17 q18;clear hd hrest;simp[putAll,Act.put];go_wp2;exact OneC.mk (VPth.ext) rfl rfl hE (Ext.refl _)
     ·have q19:y19=.pointer (some ⟨bn,on+k,none⟩):=hd ⟨19,.data⟩ (by simp) rfl (by decide);have c3:=cell_ext hE4 cxF;subst q19;clear hd hrest;simp[putAll,Act.put];go_wp2;exact OneC.mk (VPth.ext) rfl rfl hE (Ext.refl _)
     ·have q20:y20=.string s:=hd ⟨20,.data⟩ (by simp) rfl (by decide);subst q20;clear hd hrest;simp[putAll,Act.put];go_wp2;exact OneC.mk (VPth.ext) rfl ⟨_,rfl,hsz,heap_alloc_new w4 _⟩ (hE.trans (Chg.of_ext ((Ext.refl w4).alloc _))) ((Ext.refl _).alloc _)
     ·have q0:w4.ownsRow wr.heap.size 9 1 y12 (P).length ((P).flatMap encStr1):=hd ⟨12,.data⟩ (by simp) rfl (by decide);obtain⟨gq1,q1,hbq1,hgq1⟩:∃g,y21=.slice (some ⟨g,0,none⟩) 1 1∧wr.heap.size≤g∧w4.heap[g]?=some (.cells #[.string s] 9):=hd ⟨21,.data⟩ (by simp) rfl (by decide);have hrd:Rd 1 encStr1 w4 (some ⟨gq1,0,none⟩) [s]:=rd_lit [s] encStr1_len hgq1 rfl;subst q1;clear hd hrest;simp[putAll,Act.put];refine wpList_append_rd rfl _ _ 39 rfl wr.heap.size 9 _ 1 _ Tryz.underlying39 infoStr1 rfl (by decide) encStr1_len encStr1_one _ (P).length (P) rfl q0 rfl (some ⟨gq1,0,none⟩) 1 1 [s] rfl rfl hrd (by first|omega|(simp;omega)) (by omega) hsz ?_;intro v9 w9 ho9 hg9;have hE9:=Chg.grownB hE hg9 (fun k h=>(q0.lt k h).1);go_wp2;refine⟨rfl,_,rfl,ho9,hE9,fun j u hj hne hcon hnd hnc hv=>?_⟩
      match j with
      | 0=>exact hv
      | 1=>exact hv
      | 2=>exact hv
      | 3=>exact hv
      | 4=>exact hv
      | 5=>exact hv
      | 6=>exact hv
      | 7=>exact hv
      | 8=>exact hv
      | 9=>exact hv
      | 10=>exact absurd (by decide) (hnc 12 rfl)
      | 11=>exact hv
      | 12=>exact absurd rfl hcon
      | 13=>exact hv
      | 14=>exact hv
      | 15=>exact hv
      | 16=>exact hv
      | 17=>exact hv
      | 18=>exact hv
      | 19=>exact hv
      | 20=>exact hv
      | 21=>exact absurd rfl hcon
      | 22=>exact absurd rfl hne
      | 23=>exact absurd (by decide) hnd
      | 24=>exact absurd (by decide) hnd
      | 25=>exact ownsRow_frame (show w4.ownsRow _ _ _ _ _ _ from hv) (fun b hb=>hg9.block b (Nat.lt_of_lt_of_le (hOlt b hb) hsz) (fun e=>by have h1:=(q0.lt b e.symm).1;have h2:=hOlt b hb;omega))
      | (zz+26)=>trivial
     ·have q1:y1=.slice (some ⟨bt,off,none⟩) T.length cap:=hd ⟨1,.data⟩ (by simp) rfl (by decide);have q9:y9=.int .i64 (j:Int):=hd ⟨9,.data⟩ (by simp) rfl (by decide);have q22:w4.ownsRow wr.heap.size 9 1 y22 (P++[s]).length ((P++[s]).flatMap encStr1):=hd ⟨22,.data⟩ (by simp) rfl (by decide);obtain⟨a22,c22,hv22,_,hr22,_⟩:=view_owns encStr1_len q22;have hC:=HIH.out w4 hE4 a22 c22 hr22;subst q1 q9 hv22;have HC:=hd0 hC;clear hd hrest hC hr22 q22;simp[putAll,Act.put]
      go_wp2_with fail
      simp only[List.length_append,List.length_cons,List.length_nil,Nat.zero_add]at HC;refine HC.out.mono ?_;rintro e w5 ⟨u5,L,rfl,hL1,hL2,hL3,S5⟩;have h9:=ownsRow_base (S5.row 0 rfl) hsz;have hE5:=S5.ext;clear S5;go_wp2;exact OneC.mk (VPth.ext) rfl ⟨L,hL2,hL3,h9⟩ (hE.trans (Chg.of_ext hE5)) hE5
     ·have q0:y0=ou:=hd ⟨0,.data⟩ (by simp) rfl (by decide);obtain⟨L,hL2,hL3,q23⟩:∃L:List ByteArray,L.length≤bnd∧(∀s∈L,s.size≤54)∧w4.ownsRow wr.heap.size 9 1 y23 L.length (L.flatMap encStr1):=hd ⟨23,.data⟩ (by simp) rfl (by decide);obtain⟨aR,cR,hvR,_,hrR,_⟩:=view_owns encStr1_len q23;have hO:w4.ownsRow w.heap.size 9 1 ou (O).length ((O).flatMap encStr1):=hrest 0 (by omega) (.inr rfl);have hbO:=HbO.out;subst q0 hvR;clear hd hrest;simp[putAll,Act.put];refine wpList_append_b rfl _ _ 39 rfl w.heap.size 9 _ 1 _ Tryz.underlying39 infoStr1 rfl (by decide) encStr1_len encStr1_one _ (O).length (O) rfl hO rfl aR L.length cR L rfl rfl hrR (by omega) (by omega) hE4.size ?_;intro v9 w9 ho9 hgr hblk;have hch:=Chg.of_grown hgr;go_wp2;refine⟨rfl,_,rfl,⟨L,hL2,hL3,ho9⟩,hE.trans hch,fun j u hj hne hcon hnd hnc hv=>?_⟩
      match j with
      | 0=>exact hv
      | 1=>exact hv
      | 2=>exact hv
      | 3=>exact hv
      | 4=>exact hv
      | 5=>exact hv
      | 6=>exact hv
      | 7=>exact hv
      | 8=>exact hv
      | 9=>exact hv
      | 10=>exact absurd (by decide) (hnc 12 rfl)
      | 11=>exact hv
      | 12=>exact absurd (by decide) (hnc 22 rfl)
      | 13=>exact hv
      | 14=>exact hv
      | 15=>exact hv
      | 16=>exact hv
      | 17=>exact hv
      | 18=>exact hv
      | 19=>exact hv
      | 20=>exact hv
      | 21=>exact absurd (by decide) (hnc 22 rfl)
      | 22=>exact absurd (by decide) (hnc 23 rfl)
      | 23=>exact absurd rfl hcon
      | 24=>exact absurd rfl hne
      | 25=>exact absurd rfl hcon
      | (zz+26)=>trivial
    ·intro vz wE hvl hE hV _
     match vz,hvl with
     | [y0,y1,y2,y3,y4,y5,y6,y7,y8,y9,y10,y11,y12,y13,y14,y15,y16,y17,y18,y19,y20,y21,y22,y23,y24],_ =>
      obtain⟨L,hL2,hL3,o24⟩:∃L:List ByteArray,L.length≤bnd∧(∀s∈L,s.size≤54)∧wE.ownsRow w.heap.size 9 1 y24 (O++L).length ((O++L).flatMap encStr1):=hV 24 (by omega) rfl;have hbE:=hI0 wE hE;obtain⟨G,hG⟩:∃G,G=O++L:=⟨_,rfl⟩
      have hGl:G.length=O.length+L.length:=by rw[hG,List.length_append]
      have HG3:Hid (∀s∈G,s.size≤54):=hd0 (fun s hs=>by
       rw[hG]at hs
       rcases List.mem_append.1 hs with hs|hs
       ·exact HO3.out s hs
       ·exact hL3 s hs)
      have HG1:Hid (1≤G.length):=hd0 (by omega)
      have HG2:Hid (G.length≤1+(k+1)*bndP d):=hd0 (by
       have h1:=HO2.out;rw[←Hbnd.out];rw[Nat.add_mul,Nat.one_mul]
       omega)
      rw[←hG]at o24;have Ho:=hd0 o24;clear hV hI0 hOlt Sd hE hL2 hL3 o24 hG hGl;simp only[putAll,Act.put,List.take_succ_cons,List.take_zero,List.drop_succ_cons,List.drop_zero];simp;go_wp2;go_roundw
      case rel=>exact⟨k+1,G,y24,by omega,by go_num,rfl,HG1.out,HG2.out,HG3.out,Ho.out,hbE⟩
      case measure=>simp[intOf];omega
theorem specPathsOf (a:Option Addr) (cap:Nat) (T:List Nd) (w:World) (hl:T.length≤1048576) (hT:∀x∈T,SmN 1048576 x) (hTr:TreeOk T) (h20:∀x∈T,x.N.length≤20) (hc:RdN w a T) :
  Calls Tryz.prog 134 #[.slice a T.length cap] w (RetPaths 67368421 w):=by
 have HT:=hd0 hT;have HTr:=hd0 hTr;have H20:=hd0 h20;clear hT hTr h20
 go_enter Tryz.func134,Tryz.ntmps134
 go_wp2_with fail
 refine(specTreeValid a cap T w hl HT.out hc).mono ?_;rintro e w1 ⟨v,rfl,hv,hE⟩;obtain rfl:v=true:=hv.2 HTr.out;clear hv;have S:=Sep.start w;replace S:=S.step hE;clear hE;replace S:Sep w (w1.alloc (.cells #[] 9)) [plRow 9 1 encStr1 (.slice (some ⟨w1.heap.size,0,none⟩) 0 0) []]:=S.lit0 (by simp) _ _ _;have hC:=specPaths_any T HTr.out H20.out 6 a cap 0 [] (some ⟨w1.heap.size,0,none⟩) 0 (w1.alloc (.cells #[] 9)) (Nat.le_refl _) rfl HTr.out.pos (fun p hp=>by cases hp) (hc.ext S.ext) (S.rd 0 encStr1_len rfl rfl);have HC:=hd0 hC;clear hC
 go_wp2_with fail
 refine HC.out.mono ?_;rintro e w2 ⟨u,L,rfl,hL1,hL2,hL3,S2⟩;have S3:=S2.since S.ext;go_wp2;go_ret;exact⟨_,L,rfl,hL1,Nat.le_trans hL2 (by decide),hL3,S3⟩
def OpenQ (w:World) (v:Value) (w':World):Prop:=v=.pointer (some ⟨w.heap.size,0,none⟩)∧Src w.heap.size 0 w'
theorem open_any (a:Option Addr) (cap:Nat) (l:List Int) (w:World) (hl:l.length≤9223372036854775807) (hcap:l.length≤cap) (hu:∀x∈l,0≤x∧x≤255) (hc:Rd 1 encU8 w a l) :
  Calls Tryz.prog 53 #[.slice a l.length cap] w (RetV (OpenQ w) w):=by
 have hblk:l≠[]→∀b off,a=some ⟨b,off,none⟩→b < w.heap.size:=by
  intro hne b off ha;obtain⟨b',off',ha',hcc⟩:=hc 0 (List.length_pos_iff.2 hne);rw[ha]at ha';cases ha';exact World.block_lt_of_cell? w _ (hcc 0 _ rfl)
 go_enter Tryz.func53,Tryz.ntmps53
 by_cases hbig:2000 < l.length
 ·have h2:(2000:Int) < (l.length:Int):=by omega
  have h3:2000≤cap:=by omega
  have h4:(2000:Int)≤(cap:Int):=by omega
  go_wp2;go_ret;refine RetV.mk ⟨rfl,a,cap,l.take 2000,0,?_,by omega,by omega,by rw[List.length_take];omega,fun x hx=>hu x (List.mem_of_mem_take hx),((hc.ext ((Ext.refl w).alloc _)).take 2000),fun hne b off ha=>hblk (by intro e;subst e;simp at hne) b off ha⟩ ((Ext.refl w).alloc _);rw[heap_alloc_new,List.length_take,Nat.min_eq_left (by omega)]
 ·have h2:(l.length:Int)≤2000:=by omega
  go_wp2;go_ret;exact RetV.mk ⟨rfl,a,cap,l,0,heap_alloc_new _ _,by omega,by omega,by omega,hu,hc.ext ((Ext.refl w).alloc _),hblk⟩ ((Ext.refl w).alloc _)
theorem xor_i64 (a b:Nat) (ha:a < 4611686018427387904) (hb:b < 4611686018427387904):bits .xor .i64 (a:Int) (b:Int)=((a ^^^ b:Nat):Int):=by
 have hx:a ^^^ b < 2 ^ 62:=Nat.xor_lt_two_pow (by omega) (by omega)
 have h1:(BitVec.ofInt 64 (a:Int)).toNat=a:=by
  rw[BitVec.ofInt_natCast,BitVec.toNat_ofNat];exact Nat.mod_eq_of_lt (by omega)
 have h2:(BitVec.ofInt 64 (b:Int)).toNat=b:=by
  rw[BitVec.ofInt_natCast,BitVec.toNat_ofNat];exact Nat.mod_eq_of_lt (by omega)
 show IntKind.i64.wrap ((BitVec.ofInt 64 (a:Int) ^^^ BitVec.ofInt 64 (b:Int)).toNat:Int)=_
 rw[BitVec.toNat_xor,h1,h2];exact IntWalk.i64_in _ (by omega)
def PickQ (n:Int) (v:Value) (_:World):Prop:=∃x:Int,v=.int .i64 x∧0≤x∧(1≤n→x < n)∧(n < 1→x=0)
theorem pick_any (g:Nat) (P n:Int) (w:World) (hs:Src g P w) (hP:P≤1000000) :
  Calls Tryz.prog 55 #[.pointer (some ⟨g,0,none⟩),.int .i64 n] w (RetD g P 1 (PickQ n) w):=by
 have hs0:=hs;obtain⟨ab,cb,l,p,hg,h0,h1,h2,h3,h4,h5⟩:=hs
 have f1:w.frozen? ⟨g,1,none⟩=false:=by simp[World.frozen?,hg]
 have c0:w.cell? ⟨g,0,none⟩=some (.slice ab l.length cb):=by simp[World.cell?,hg]
 have c1:w.cell? ⟨g,1,none⟩=some (.int .i64 p):=by simp[World.cell?,hg]
 have hS:Step g w (w.setCell ⟨g,1,none⟩ (.int .i64 (p+1))):=grown_setCell (Step.refl g w) _
 have hg':(w.setCell ⟨g,1,none⟩ (.int .i64 (p+1))).heap[g]?=some (.cells #[.slice ab l.length cb,.int .i64 (p+1)] 108 (0,0)):=by
  simp[World.setCell,Array.getElem?_modify,hg]
 have hrd:Rd 1 encU8 (w.setCell ⟨g,1,none⟩ (.int .i64 (p+1))) ab l:=h4.step hS (fun hne b off ha=>by have:=h5 hne b off ha;omega);have hsrc:Src g (P+1) (w.setCell ⟨g,1,none⟩ (.int .i64 (p+1))):=⟨ab,cb,l,p+1,hg',by omega,by omega,h2,h3,hrd,h5⟩;have w1:IntKind.i64.wrap (p+1)=p+1:=IntWalk.i64_in _ (by omega)
 go_enter Tryz.func55,Tryz.ntmps55
 have d0:(w.setCell ⟨g,1,none⟩ (.int .i64 (p+1))).cell? ⟨g,0,none⟩=some (.slice ab l.length cb):=by simp[World.cell?,hg']
 have d1:(w.setCell ⟨g,1,none⟩ (.int .i64 (p+1))).cell? ⟨g,1,none⟩=some (.int .i64 (p+1)):=by simp[World.cell?,hg']
 by_cases hn:n < 1
 ·go_wp2;go_ret;exact RetD.mk ⟨0,rfl,by omega,fun h=>by omega,fun _=>rfl⟩ hsrc (by omega) hS
 ·by_cases hz:l.length=0
  ·go_wp2;go_ret;exact RetD.mk ⟨0,rfl,by omega,fun h=>by omega,fun _=>rfl⟩ hsrc (by omega) hS
  ·have hn1:1≤n:=by omega
   have hnn:n≠0:=by omega
   have hz0:(l.length:Int)≠0:=by omega
   obtain⟨m,rfl⟩:∃m:Nat,p=m:=⟨p.toNat,by omega⟩
   have w2:IntKind.i64.wrap ((m:Int)+1 - 1)=(m:Int):=by rw[show(m:Int)+1 - 1=m by omega];exact IntWalk.i64_in _ (by omega)
   by_cases hm:m < l.length
   ·obtain⟨b,off,rfl,hcell⟩:=hrd m hm
    have e0:(w.setCell ⟨g,1,none⟩ (.int .i64 ((m:Int)+1))).cell? ⟨b,off+m,none⟩=some (.int .u8 l[m]):=by simpa using hcell 0 _ rfl
    clear hcell;obtain⟨x0,x1⟩:=h3 l[m] (List.getElem_mem hm)
    have i0:(0:Int)≤(m:Int):=by omega
    have i1:(m:Int) < (l.length:Int):=by omega
    go_wp2;go_ret;exact RetD.mk ⟨l[m] % n,rfl,Int.emod_nonneg _ hnn,fun _=>Int.emod_lt_of_pos _ (by omega),fun h=>by omega⟩ hsrc (by omega) hS
   ·have hlm:(l.length:Int)≤(m:Int):=by omega
    have hlz:(0:Int) < (l.length:Int):=by omega
    obtain⟨j1,k1,t1⟩:∃j:Nat,j < l.length∧(m:Int) % (l.length:Int)=(j:Int):=⟨m % l.length,Nat.mod_lt _ (by omega),by push_cast;rfl⟩;obtain⟨j2,k2,t2⟩:∃j:Nat,j < l.length∧((m:Int)*7+3) % (l.length:Int)=(j:Int):=⟨(m*7+3) % l.length,Nat.mod_lt _ (by omega),by push_cast;rfl⟩;obtain⟨b,off,rfl,hcell⟩:=hrd j1 k1;obtain⟨b',off',hb',hcell'⟩:=hrd j2 k2
    obtain⟨rfl,rfl⟩:b=b'∧off=off':=by simpa using hb'
    have e0:(w.setCell ⟨g,1,none⟩ (.int .i64 ((m:Int)+1))).cell? ⟨b,off+j1,none⟩=some (.int .u8 l[j1]):=by simpa using hcell 0 _ rfl
    have e1:(w.setCell ⟨g,1,none⟩ (.int .i64 ((m:Int)+1))).cell? ⟨b,off+j2,none⟩=some (.int .u8 l[j2]):=by simpa using hcell' 0 _ rfl
    obtain⟨x0,x1⟩:=h3 l[j1] (List.getElem_mem k1);obtain⟨y0,y1⟩:=h3 l[j2] (List.getElem_mem k2);generalize l[j1]=x at *;generalize l[j2]=y at *;clear hcell hcell' hb'
    have t3:(m:Int).tmod (l.length:Int)=(j1:Int):=by rw[Int.tmod_eq_emod_of_nonneg (by omega)];exact t1
    have t4:((m:Int)*7+3).tmod (l.length:Int)=(j2:Int):=by rw[Int.tmod_eq_emod_of_nonneg (by omega)];exact t2
    obtain⟨d,hd,t5⟩:∃d:Nat,d≤m∧(m:Int) / (l.length:Int)=(d:Int):=⟨m / l.length,Nat.div_le_self _ _,by push_cast;rfl⟩
    have t6:(m:Int).tdiv (l.length:Int)=(d:Int):=by rw[Int.tdiv_eq_ediv_of_nonneg (by omega)];exact t5
    have k3:(j1:Int) < (l.length:Int):=by omega
    have k4:(j2:Int) < (l.length:Int):=by omega
    have k5:(0:Int)≤(j1:Int):=by omega
    have k6:(0:Int)≤(j2:Int):=by omega
    have u1:IntKind.i64.wrap ((m:Int)*7)=(m:Int)*7:=IntWalk.i64_in _ (by omega);have u2:IntKind.i64.wrap ((m:Int)*7+3)=(m:Int)*7+3:=IntWalk.i64_in _ (by omega);go_wp2;clear hg' c0 c1 f1 hg;generalize (w.setCell ⟨g,1,none⟩ (.int .i64 ((m:Int)+1)))=wr at *;have q0:=ExtW.cell d0;have q1:=ExtW.cell e0;have q2:=ExtW.cell e1;have b1:=ExtW.lt d0;have b2:=ExtW.lt e0;clear d0 d1 e0 e1
    (refine wp_region_quiet_ext (by kernel_rfl) (by kernel_rfl) ?_;(repeat (go_big_quiet_step (fail)));refine wpQuiet_nil ?_;intro _ hw';obtain⟨sq,hw''⟩:=hw';subst hw'')
    obtain⟨w4,hw4⟩:=sq;go_wp2;obtain⟨z,hz1⟩:∃z:Nat,x*131+y*1117+(m:Int)*29+(d:Int)*53=z:=⟨(x*131+y*1117+(m:Int)*29+(d:Int)*53).toNat,by omega⟩
    have hzb:z < 1000000000:=by omega
    have hx:=xor_i64 z (z / 64) (by omega) (by omega);go_ret;refine RetD.mk ⟨(((z ^^^ (z / 64):Nat):Int)).tmod n,?_,?_,fun _=>?_,fun h=>by omega⟩ (hsrc.ext hw4) (by omega) (hS.ext hw4)
    ·have e:bits .xor .i64 (x*131+y*1117+(m:Int)*29+(d:Int)*53) ((x*131+y*1117+(m:Int)*29+(d:Int)*53) / 64)=((z ^^^ (z / 64):Nat):Int):=by
      rw[hz1,←hx]
      congr 1
     exact congrArg (fun q:Int=>Value.int .i64 (q.tmod n)) e
    ·rw[Int.tmod_eq_emod_of_nonneg (by omega)];exact Int.emod_nonneg _ hnn
    ·rw[Int.tmod_eq_emod_of_nonneg (by omega)];exact Int.emod_lt_of_pos _ (by omega)
def OddQ (n:Int) (v:Value) (_:World):Prop:=∃b:Bool,v=.bool b∧(n≤0→b=false)
theorem odd_any (g:Nat) (P n:Int) (w:World) (hs:Src g P w) (hP:P≤1000000) (hn:n≤1000000) :
  Calls Tryz.prog 57 #[.pointer (some ⟨g,0,none⟩),.int .i64 n] w (RetD g P 1 (OddQ n) w):=by
 go_enter Tryz.func57,Tryz.ntmps57
 by_cases h0:0 < n
 ·go_wp2_with fail
  refine(pick_any g P n w hs hP).mono ?_;rintro e w1 ⟨v,rfl,⟨x,rfl,hx0,hx1,hx2⟩,hs1,hS⟩;go_wp2;go_ret;exact RetD.mk ⟨_,rfl,fun h=>by omega⟩ hs1 (by omega) hS
 ·go_wp2;go_ret;exact RetD.mk ⟨_,rfl,fun h=>rfl⟩ hs (by omega) (Step.refl _ _)
def UserD (v:Value) (_:World):Prop:=∃x:Int,v=.int .i64 x∧0≤x∧x≤99
def NumD (v:Value) (_:World):Prop:=∃x:Int,v=.int .i64 x
def CredD (v:Value) (_:World):Prop:=∃a b c d:Int,v=.agg #[.int .i64 a,.int .i64 b,.int .i64 c,.int .i64 d]
theorem drawUser (g:Nat) (P:Int) (w:World) (hs:Src g P w) (hP:P≤900000) :
  Calls Tryz.prog 137 #[.pointer (some ⟨g,0,none⟩)] w (RetD g P 1 UserD w):=by
 have hg:=hs.lt
 have hne:w.heap.size≠g:=by omega
 have hrd:Rd 1 encInt1 (w.alloc (.cells #[.int .i64 0,.int .i64 5,.int .i64 6,.int .i64 7] 3)) (some ⟨w.heap.size,0,none⟩) [0,5,6,7]:=rd_lit_new _ (fun _=>rfl) rfl;have hE:=(Ext.refl w).alloc (.cells #[.int .i64 0,.int .i64 5,.int .i64 6,.int .i64 7] 3)
 have hall:∀x∈([0,5,6,7]:List Int),0≤x∧x≤99:=by decide
 have hll:([0,5,6,7]:List Int).length=4:=rfl;have Hall:=hd0 hall;clear hall
 go_enter Tryz.func137,Tryz.ntmps137
 go_wp2_with fail
 generalize ([0,5,6,7]:List Int)=L at *;have hs1:=hs.ext hE;have hS0:=Step.of_ext (g:=g) hE;generalize (w.alloc (.cells #[.int .i64 0,.int .i64 5,.int .i64 6,.int .i64 7] 3))=w1 at *;refine(pick_any g P 4 _ hs1 (by omega)).mono ?_;rintro e w2 ⟨v,rfl,⟨i,rfl,x0,x1,_⟩,hs2,hS⟩;have hrd2:=hrd.step hS (fun _ b off h=>by cases h;exact hne);replace x1:=x1 (by omega);obtain⟨k,rfl⟩:∃k:Nat,i=k:=⟨i.toNat,by omega⟩;obtain⟨x,hx,hcell⟩:=lit_at hrd2 (k:=k) (by omega)
 have c0:w2.cell? ⟨w.heap.size,k,none⟩=some (.int .i64 x):=by have:=hcell 0 _ rfl;simpa using this
 have HX:=hd0 (Hall.out x hx);clear hcell hx hrd hrd2;go_wp2;go_ret;exact RetD.mk ⟨x,rfl,HX.out⟩ hs2 (by omega) (hS0.trans hS)
theorem drawMode (g:Nat) (P n:Int) (w:World) (hs:Src g P w) (hP:P≤900000) (hn:n≤1000000) :
  Calls Tryz.prog 136 #[.pointer (some ⟨g,0,none⟩),.int .i64 n] w (RetD g P 5 NumD w):=by
 go_enter Tryz.func136,Tryz.ntmps136
 go_wp2_with fail
 refine(odd_any g P n _ hs (by omega) hn).mono ?_;rintro e w1 ⟨v,rfl,⟨b,rfl,_⟩,hs1,hS1⟩
 have hne:w1.heap.size≠g:=by have:=hs1.lt;omega
 cases b with
 | true =>
  have hrd:Rd 1 encInt1 (w1.alloc (.cells #[.int .i64 (-1),.int .i64 1024] 3)) (some ⟨w1.heap.size,0,none⟩) [-1,1024]:=rd_lit_new _ (fun _=>rfl) rfl;have hE:=(Ext.refl w1).alloc (.cells #[.int .i64 (-1),.int .i64 1024] 3);have hll:([-1,1024]:List Int).length=2:=rfl
  go_wp2_with fail
  generalize ([-1,1024]:List Int)=L at *;have hs2:=hs1.ext hE;have hS2:=hS1.ext hE;generalize (w1.alloc (.cells #[.int .i64 (-1),.int .i64 1024] 3))=w2 at *;refine(pick_any g (P+1) 2 _ hs2 (by omega)).mono ?_;rintro e w3 ⟨v,rfl,⟨i,rfl,x0,x1,_⟩,hs3,hS⟩;have hrd2:=hrd.step hS (fun _ b off h=>by cases h;exact hne);replace x1:=x1 (by omega);obtain⟨k,rfl⟩:∃k:Nat,i=k:=⟨i.toNat,by omega⟩;obtain⟨x,hx,hcell⟩:=lit_at hrd2 (k:=k) (by omega)
  have c0:w3.cell? ⟨w1.heap.size,k,none⟩=some (.int .i64 x):=by have:=hcell 0 _ rfl;simpa using this
  clear hcell hx hrd hrd2;go_wp2;go_ret;exact RetD.mk ⟨x,rfl⟩ hs3 (by omega) (hS2.trans hS)
 | false =>
  go_wp2_with fail
  refine(pick_any g (P+1) 256 _ hs1 (by omega)).mono ?_;rintro e w2 ⟨v,rfl,⟨a,rfl,a0,a1,_⟩,hs2,hS2⟩;replace a1:=a1 (by omega);have ha:IntKind.i64.wrap (a*4)=a*4:=IntWalk.i64_in _ (by omega)
  go_wp2_with fail
  refine(pick_any g (P+1+1) 256 _ hs2 (by omega)).mono ?_;rintro e w3 ⟨v,rfl,⟨b,rfl,b0,b1,_⟩,hs3,hS3⟩
  have hne3:w3.heap.size≠g:=by have:=hs3.lt;omega
  have hrd:Rd 1 encInt1 (w3.alloc (.cells #[.int .i64 511,.int .i64 493,.int .i64 448,.int .i64 420,.int .i64 1023,.int .i64 (a*4),.int .i64 b] 3)) (some ⟨w3.heap.size,0,none⟩) [511,493,448,420,1023,a*4,b]:=rd_lit_new _ (fun _=>rfl) rfl;have hE:=(Ext.refl w3).alloc (.cells #[.int .i64 511,.int .i64 493,.int .i64 448,.int .i64 420,.int .i64 1023,.int .i64 (a*4),.int .i64 b] 3);have hll:([511,493,448,420,1023,a*4,b]:List Int).length=7:=rfl
  go_wp2_with fail
  generalize ([511,493,448,420,1023,a*4,b]:List Int)=L at *;have hs4:=hs3.ext hE;have hS4:=((hS1.trans hS2).trans hS3).ext hE;generalize (w3.alloc (.cells #[.int .i64 511,.int .i64 493,.int .i64 448,.int .i64 420,.int .i64 1023,.int .i64 (a*4),.int .i64 b] 3))=w4 at *;refine(pick_any g (P+1+1+1) 7 _ hs4 (by omega)).mono ?_;rintro e w5 ⟨v,rfl,⟨i,rfl,x0,x1,_⟩,hs5,hS⟩;have hrd2:=hrd.step hS (fun _ b off h=>by cases h;exact hne3);replace x1:=x1 (by omega);obtain⟨k,rfl⟩:∃k:Nat,i=k:=⟨i.toNat,by omega⟩;obtain⟨x,hx,hcell⟩:=lit_at hrd2 (k:=k) (by omega)
  have c0:w5.cell? ⟨w3.heap.size,k,none⟩=some (.int .i64 x):=by have:=hcell 0 _ rfl;simpa using this
  clear hcell hx hrd hrd2;go_wp2;go_ret;exact RetD.mk ⟨x,rfl⟩ hs5 (by omega) (hS4.trans hS)
section
variable {P:Program}
def OneSt (C:World→World→Prop) (S1:World→Prop) (V:Value→World→Prop) (o:Oper) (a:Act) (w:World):Exit→Act→World→Prop :=
 fun e a' w'=>e=.normal∧∃v,a'=a.put o.dst v∧V v w'∧C w w'∧S1 w'
theorem wp_of_oneS {o:Oper} {a:Act} {w:World} {K:Act→World→Prop} {V:Value→World→Prop} {Q:Exit→Act→World→Prop} {ops:Array Oper} {i:Nat} {C:World→World→Prop} {S1:World→Prop} (ho:ops[i]?=some o)
  (h:wpList P ops (OneSt C S1 V o a w) [o] a w) (hK:∀v w',V v w'→C w w'→S1 w'→K (a.put o.dst v) w'):wpOp P ops Q i K a w:=by
 have hno:¬LetsOut (OneSt C S1 V o a w):=by rintro⟨a',w',h',_⟩;cases h'
 unfold wpOp;simp only[ho];simp only[wpList]at h
 split
 ·rename_i hw;rw[if_pos hw]at h;left
  rcases h with h|⟨_,h⟩
  ·unfold Oper.wp at *;generalize (execOp a.eval o).run P w=r at *
   cases r with
   | ok x w1 =>
    cases x<;>simp only[Oper.upon]at h ⊢
    case enter f args => exact h.mono fun e w2 he => by
                          cases e with
                          | returned v=>obtain⟨_,u,h1,h2,h3,h4⟩:=he;show K _ _;rw[h1];exact hK u w2 h2 h3 h4
                          | panicked ch=>obtain⟨h1,_⟩:=he;cases h1
                          | outgrown=>exact absurd he hno
    case row r1 args=>exact h.mono fun v w2 he=>by obtain⟨_,u,h1,h2,h3,h4⟩:=he;rw[h1];exact hK u w2 h2 h3 h4
    all_goals(obtain⟨_,u,h1,h2,h3,h4⟩:=h;rw[h1];exact hK u _ h2 h3 h4)
   | halt x w1=>cases x<;>simp only[Oper.upon]at h ⊢<;>(obtain⟨h1,_⟩:=h;cases h1)
  ·exact absurd h hno
 ·rename_i hw;rw[if_neg hw]at h;obtain⟨_,u,h1,h2,h3,h4⟩:=h;rw[h1];exact hK u w h2 h3 h4
structure HInvS (C:World→World→Prop) (S:Nat→World→Prop) (f:Nat) (V:Nat→Value→World→Prop) (l:List Oper) (n:Nat) (a0:Act) (w0:World) (listed:Array Bool) (a:Act) (w:World):Prop where
 head:HeadInv .any l.toArray n listed
 ext:C w0 w
 st:∃k,k+f=n∧S k w
 vals:∃vs:List Value,vs.length=n∧a=putAll a0 (l.take n) vs∧∀i,i < n→listed.getD i false=true→V i (vs.getD i undef) w
theorem wpAny_headS {C:World→World→Prop} {S:Nat→World→Prop} (hCt:∀a b c,C a b→C b c→C a c) {V:Nat→Value→World→Prop} {l:List Oper} {n:Nat} {a0:Act} {w0:World} {Q:Exit→Act→World→Prop} (hn:n≤l.length)
  (hH:headB l a0.tmps.size n=true) (hT:tailB l n=true) (hS:Region.seqB .any l.toArray (l.length - n) n (markN n l.length)=true)
  (hst:∀i v w w',V i v w→C w w'→V i v w')
  (hstep:∀i o,i < n→l[i]?=some o→∀k,k < n→∀vs w,vs.length=n→C w0 w→S k w→Waits V o vs w→wpList P l.toArray (OneSt C (S (k+1)) (V i) o (putAll a0 (l.take n) vs) w) [o] (putAll a0 (l.take n) vs) w)
  (hend:∀vs w,vs.length=n→C w0 w→S n w→(∀i,i < n→V i (vs.getD i undef) w)→wpList P l.toArray Q (l.drop n) (putAll a0 (l.take n) vs) w) :
  ∀(f:Nat) (listed:Array Bool) (a:Act) (w:World),unlisted listed n=f→HInvS C S f V l n a0 w0 listed a w→wpAny P .any l.toArray Q (f+(l.length - n)) listed a w:=by
 have hop:∀i o,i < n→l[i]?=some o→(∀d,o.dst=some d→∀j o',(l.take n)[j]?=some o'→j≠i→o'.dst≠some d)∧(∀e∈o.after.toList,Region.binds .any e=true→e.on < i):=by
  intro i o hi ho;have h1:=List.all_eq_true.1 hH i (List.mem_range.2 hi);simp only[ho,Bool.and_eq_true]at h1;refine⟨fun d hd j o' hj hne=>?_,fun e he hb=>?_⟩
  ·have h2:=h1.1;simp only[hd,Bool.and_eq_true]at h2
   have hjn:j < n:=by
    have:=(List.getElem?_eq_some_iff.1 hj).1;simp at this;omega
   have h3:=List.all_eq_true.1 h2.2 j (List.mem_range.2 hjn);rw[List.getElem?_take,if_pos hjn]at hj;simp only[hj,Bool.or_eq_true,decide_eq_true_eq]at h3;exact h3.resolve_left hne
  ·have h3:=List.all_eq_true.1 h1.2 e he;simp only[Bool.or_eq_true,Bool.not_eq_true',hb,decide_eq_true_eq]at h3;exact h3.resolve_left (by simp)
 have htailno:∀listed,HeadInv .any l.toArray n listed→(∃i,i < n∧listed.getD i true=false)→∀t,n≤t→t∉Region.ready .any l.toArray listed:=by
  intro listed inv ⟨i,hi,hun⟩ t ht;simp only[tailB,Bool.or_eq_true,Bool.and_eq_true,decide_eq_true_eq]at hT
  rcases hT with h|h
  ·intro hr;obtain⟨_,o,ho,_⟩:=mem_ready.1 hr;have:=(Array.getElem?_eq_some_iff.1 ho).1;simp at this;omega
  ·exact tail_waits h.1.2 h.2 (by simpa using h.1.1) inv _ i rfl hi hun t ht
 intro f
 induction f with
 | zero =>
  intro listed a w hf inv;obtain⟨vs,hvl,rfl,hV⟩:=inv.vals;have hall:=unlisted_zero hf
  have hlist:listed=markN n l.length:=by
   apply Array.ext_getElem?;intro i;have hsz:=inv.head.size;simp only[List.size_toArray]at hsz
   by_cases hi:i < l.length
   ·have hil:i < listed.size:=by omega
    rw[Array.getElem?_eq_getElem hil]
    by_cases hin:i < n
    ·have:=hall i hin;simp only[Array.getD_eq_getD_getElem?,Array.getElem?_eq_getElem hil,Option.getD_some]at this;simp[markN,hi,hin,this]
    ·have:=inv.head.tail i (by omega) (by simpa using hi);simp only[Array.getD_eq_getD_getElem?,Array.getElem?_eq_getElem hil,Option.getD_some]at this;simp[markN,hi,hin,this]
   ·rw[Array.getElem?_eq_none (by omega),Array.getElem?_eq_none (by simp[markN];omega)]
  rw[hlist]
  have hSn:S n w:=by
   obtain⟨k,hk,hs⟩:=inv.st
   have e:k=n:=by omega
   rw[e]at hs;exact hs
  have:=wpAny_of_seq (P:=P) (md:=.any) (Q':=Q) (ops:=l.toArray) (l.drop n) n (markN n l.length) (putAll a0 (l.take n) vs) w (fun j=>by simp[List.getElem?_drop]) (by rw[List.length_drop];exact hS) (hend vs w hvl inv.ext hSn (fun i hi=>hV i hi (hall i hi)));rw[List.length_drop]at this;rw[Nat.zero_add];exact this
 | succ f ih =>
  intro listed a w hf inv;rw[show f+1+(l.length - n)=(f+(l.length - n))+1 by omega];obtain⟨vs,hvl,rfl,hV⟩:=inv.vals;obtain⟨i0,hi0,hun0,hmin⟩:=unlisted_pos (show unlisted listed n≠0 by omega);have hsz:=inv.head.size;simp only[List.size_toArray]at hsz;have hun0':listed.getD i0 true=false:=getD_in (by omega) hun0;refine⟨fun hnil=>?_,fun i hi=>?_⟩
  ·exfalso;obtain⟨o,ho⟩:∃o,l[i0]?=some o:=⟨_,List.getElem?_eq_getElem (by omega)⟩;have:i0∈Region.ready .any l.toArray listed:=mem_ready.2 ⟨hun0',o,by simpa using ho,fun e he hb=>hmin _ ((hop i0 o hi0 ho).2 e (by simpa using he) hb)⟩;rw[hnil]at this
   cases this
  ·have hin:i < n:=by
    rcases Nat.lt_or_ge i n with h|h
    ·exact h
    ·exact absurd hi (htailno listed inv.head ⟨i0,hi0,hun0'⟩ i h)
   obtain⟨hun,o,ho,hall⟩:=mem_ready.1 hi
   have ho':l[i]?=some o:=by simpa using ho
   obtain⟨ks,hks,hss⟩:=inv.st;refine wp_of_oneS ho (hstep i o hin ho' ks (by omega) vs w hvl inv.ext hss (fun e he hb=>hV e.on (by have:=(hop i o hin ho').2 e he hb;omega) (hall e (by simpa using he) hb))) (fun v w' hv hE hS1=>?_);refine ih _ _ _ (by have:=unlisted_set hin hun;omega) ⟨inv.head.set hi hin,hCt _ _ _ inv.ext hE,⟨ks+1,by omega,hS1⟩,vs.set i v,by simpa using hvl,?_,fun j hj hlj=>?_⟩
   ·exact putAll_put a0 (l.take n) vs i o v (by rw[List.getElem?_take,if_pos hin];exact ho') (by simp;omega) (hop i o hin ho').1
   ·by_cases hij:i=j
    ·subst hij;rw[List.getD_eq_getElem?_getD,List.getElem?_set_self (by omega)];exact hv
    ·rw[getD_set_ne false hij]at hlj;rw[List.getD_eq_getElem?_getD,List.getElem?_set_ne hij,←List.getD_eq_getElem?_getD];exact hst j _ _ _ (hV j hj hlj) hE
theorem wp_region_s {V:Nat→Value→World→Prop} (C:World→World→Prop) (S:Nat→World→Prop) {l:List Oper} (n:Nat) {id:Nat} {a0:Act} {w:World} {Q:Exit→Act→World→Prop} (hm:P.follows .mixedOrders=true)
  (hn:n≤l.length) (hH:headB l a0.tmps.size n=true) (hT:tailB l n=true) (hS:Region.seqB .any l.toArray (l.length - n) n (markN n l.length)=true)
  (hC0:C w.drew w.drew) (hCt:∀a b c,C a b→C b c→C a c) (hS0:S 0 w.drew)
  (hst:∀i v w w',V i v w→C w w'→V i v w')
  (hstep:∀i o,i < n→l[i]?=some o→∀k,k < n→∀vs w2,vs.length=n→C w.drew w2→S k w2→Waits V o vs w2→wpList P l.toArray (OneSt C (S (k+1)) (V i) o (putAll a0 (l.take n) vs) w2) [o] (putAll a0 (l.take n) vs) w2)
  (hend:∀vs w2,vs.length=n→C w.drew w2→S n w2→(∀i,i < n→V i (vs.getD i undef) w2)→wpList P l.toArray Q (l.drop n) (putAll a0 (l.take n) vs) w2) :
  (Code.region id l.toArray true).wp P Q a0 w:=by
 refine wp_region_any hm ?_
 have hdst:∀o∈l.take n,∀d,o.dst=some d→d < a0.tmps.size:=by
  intro o ho d hd;obtain⟨i,hi⟩:=List.getElem?_of_mem ho
  have hin:i < n:=by
   have:=(List.getElem?_eq_some_iff.1 hi).1;simp at this;omega
  rw[List.getElem?_take,if_pos hin]at hi;have h1:=List.all_eq_true.1 hH i (List.mem_range.2 hin);simp only[hi,hd,Bool.and_eq_true,decide_eq_true_eq]at h1;exact h1.1.1
 have hu:unlisted (Array.replicate l.length false) n=n:=by
  unfold unlisted;rw[List.filter_eq_self.2 (by intro i hi;rw[getD_replicate_false];rfl)];simp
 have:=wpAny_headS (P:=P) (Q:=Q) (a0:=a0) (w0:=w.drew) hCt hn hH hT hS hst hstep hend n (Array.replicate l.length false) a0 w.drew hu
  ⟨⟨by simp,fun j oj _ hl=>(by rw[getD_replicate_false]at hl;cases hl),fun t _ ht=>getD_in (by simpa using ht) (getD_replicate_false _ _)⟩,hC0,⟨0,by omega,hS0⟩,oldVals a0 (l.take n),by simp[oldVals];omega,(putAll_old a0 _ hdst).symm,fun i _ hl=>(by rw[getD_replicate_false]at hl;cases hl)⟩
 rw[show n+(l.length - n)=l.toArray.size by simp;omega]at this;exact this
end
inductive CT where
 | int (lo hi:Int)
 | str (n:Nat)
 | bool
def CT.has:CT→Value→Prop
 | .int lo hi,v=>∃x:Int,v=.int .i64 x∧lo≤x∧x≤hi
 | .str n,v=>∃s:ByteArray,v=.string s∧s.size≤n
 | .bool,v=>∃b,v=.bool b
def HasAll:List CT→List Value→Prop
 | [],[]=>True
 | t :: ts,v :: vs=>t.has v∧HasAll ts vs
 | _,_=>False
theorem HasAll.length:∀{ts:List CT} {vs:List Value},HasAll ts vs→ts.length=vs.length
 | [],[],_=>rfl
 | _ :: _,_ :: _,h=>by simp[h.2.length]
theorem HasAll.at_:∀{ts:List CT} {vs:List Value},HasAll ts vs→∀{j:Nat} {t:CT},ts[j]?=some t→∃v,vs[j]?=some v∧t.has v
 | _ :: _,v :: _,h,0,t,hj=>by
  simp only[List.getElem?_cons_zero,Option.some.injEq]at hj;subst hj;exact⟨v,rfl,h.1⟩
 | _ :: ts,_ :: vs,h,j+1,t,hj=>by
  simp only[List.getElem?_cons_succ]at hj ⊢;exact h.2.at_ hj
def many (n:Nat) (ts:List CT):List CT:=match n with|0=>[]|n+1=>ts++many n ts
def LitC (base n:Nat) (ts:List CT) (v:Value) (w:World):Prop:=∃b C T,v=.slice (some ⟨b,0,none⟩) n n∧w.heap[b]?=some (.cells C T)∧base≤b∧HasAll (many n ts) C.toList
theorem LitC.chg {base n:Nat} {ts:List CT} {v:Value} {w w':World} {S:Nat→Prop} (h:LitC base n ts v w) (k:Chg S w w') (hS:∀b,S b→b < base):LitC base n ts v w':=by
 obtain⟨b,C,T,h1,h2,h3,h4⟩:=h;exact⟨b,C,T,h1,(k.block b (Array.getElem?_eq_some_iff.1 h2).1 (fun e=>by have:=hS b e;omega)).trans h2,h3,h4⟩
theorem LitC.mk {base n b:Nat} {ts:List CT} {w:World} {C:Array Value} {T:TypeId} (hg:base≤w.heap.size) (h:HasAll (many n ts) C.toList) (hb:b=w.heap.size):LitC base n ts (.slice (some ⟨b,0,none⟩) n n) (w.alloc (.cells C T)) :=
 ⟨b,C,T,rfl,by rw[hb];exact heap_alloc_new w _,by omega,h⟩
def PtrC (base:Nat) (ts:List CT) (v:Value) (w:World):Prop:=∃b o,v=.pointer (some ⟨b,o,none⟩)∧base≤b∧b < w.heap.size∧∀j t,ts[j]?=some t→∃u,w.cell? ⟨b,o+j,none⟩=some u∧t.has u
theorem PtrC.chg {base:Nat} {ts:List CT} {v:Value} {w w':World} {S:Nat→Prop} (h:PtrC base ts v w) (k:Chg S w w') (hS:∀b,S b→b < base):PtrC base ts v w':=by
 obtain⟨b,o,h1,h2,h3,h4⟩:=h;refine⟨b,o,h1,h2,Nat.lt_of_lt_of_le h3 k.size,fun j t hj=>?_⟩;obtain⟨u,hu,ht⟩:=h4 j t hj;exact⟨u,by rw[World.cell?_of_block (w:=w) (k.block b h3 (fun e=>by have:=hS b e;omega))];exact hu,ht⟩
theorem SepM.readD {w0 w w':World} {H:List Pl} {g:Nat} (S:Sep w0 w H) (hS:Step g w w') (hg:w0.heap.size≤g) (hn:∀p∈H,¬p.own g):Sep w0 w' H :=
 ⟨Chg.of_ext (Step.toExt S.ext hS hg),by simp,fun p hp=>p.frame w w' (S.ok p hp) (fun b hb=>heap_step hS (fun e=>hn p hp (by rw[←e];exact hb)) (S.lt hp hb).2),S.base,S.apart⟩
theorem Chg.of_step {g:Nat} {w w':World} (h:Step g w w'):Chg (fun b=>b=g) w w':=⟨h.os,h.tape,h.output,World.grownBy.size h,fun k hk hn=>heap_step h hn hk⟩
theorem Chg.step {g:Nat} {w w':World} (h:Chg (fun b=>b=g) w w'):Step g w w':=⟨h.os,h.tape,h.output,h.size,fun k hk hn=>h.block k hk (fun e=>hn (by rw[e]))⟩
theorem SepM.others {S':Nat→Prop} {w0 w w':World} {H:List Pl} (S:Sep w0 w H) (hc:Chg S' w w') (hS:∀b,S' b→w0.heap.size≤b) (hn:∀p∈H,∀b,p.own b→¬S' b):Sep w0 w' H :=
 ⟨Chg.of_ext (Chg.ext S.ext hc hS),by simp,fun p hp=>p.frame w w' (S.ok p hp) (fun b hb=>hc.block b (S.lt hp hb).2 (hn p hp b hb)),S.base,S.apart⟩
theorem SepM.readCall {g:Nat} {w0 w w':World} {H H':List Pl} (S:Sep w0 w H) (T:SepM (fun b=>b=g) w w' H') (hg:w0.heap.size≤g) (hn:∀p∈H,¬p.own g):Sep w0 w' (H' ++ H):=by
 have hS:Step g w w':=T.chg.step;have S':=S.readD hS hg hn;refine⟨S'.chg,by simp,fun p hp=>?_,fun p hp b h=>?_,List.pairwise_append.2 ⟨T.apart,S.apart,fun p hp q hq b h h2=>?_⟩⟩
 ·rcases List.mem_append.1 hp with hp|hp
  ·exact T.ok p hp
  ·exact S'.ok p hp
 ·rcases List.mem_append.1 hp with hp|hp
  ·exact Nat.le_trans S.ext.size (T.base p hp b h)
  ·exact S.base p hp b h
 ·have h3:=(S.lt hq h2).2;have h4:=T.base p hp b h;omega
end Go.Proofs.YtnibbldfohbfkaaGreatDoor
