/- Parts of one proof: what each theorem proves, and its conditions, stand in its own statement. -/
import Derived.Test.YtnibbldfohbfkaaGreatDoorMn5
set_option linter.all false
set_option maxRecDepth 100000
set_option maxHeartbeats 32000000
namespace Go.Proofs.YtnibbldfohbfkaaGreatDoor
open Go.RowKit
def VPutN (B3 B8:Nat) (an:Option Addr) (nn cn k:Nat) (s:ByteArray) (A B:List ByteArray) (wr:World) (base:Nat):Nat→Value→World→Prop:=fun i v wv=>match i with
 | 0=>∃g,v=.slice (some ⟨g,0,none⟩) 0 0∧base≤g∧wv.heap[g]?=some (.cells #[] 9)
 | 1=>v=.pointer (some ⟨B3,5,none⟩)
 | 2=>v=.slice an nn cn
 | 3=>v=.int .i64 k
 | 4=>∃a' c',v=.slice a' k c'∧Rd 1 encStr1 wr a' A
 | 5=>wv.ownsRow base 9 1 v (A).length ((A).flatMap encStr1)
 | 6=>v=.string s
 | 7=>∃g,v=.slice (some ⟨g,0,none⟩) 1 1∧base≤g∧wv.heap[g]?=some (.cells #[.string s] 9)
 | 8=>wv.ownsRow base 9 1 v (A++[s]).length ((A++[s]).flatMap encStr1)
 | 9=>v=.pointer (some ⟨B3,5,none⟩)
 | 10=>v=.slice an nn cn
 | 11=>v=.int .i64 k
 | 12=>∃a' c',v=.slice a' (nn - k) c'∧Rd 1 encStr1 wr a' B
 | 13=>wv.ownsRow base 9 1 v (A++[s]++B).length ((A++[s]++B).flatMap encStr1)
 | 14=>v=.pointer (some ⟨B8,5,none⟩)
 | _=>True
theorem VPutN.ext {B3 B8:Nat} {an:Option Addr} {nn cn k:Nat} {s:ByteArray} {A B:List ByteArray} {wr:World} {base:Nat} (i:Nat) (v:Value) (w1 w2:World) (h:VPutN B3 B8 an nn cn k s A B wr base i v w1) (hE:Ext w1 w2):VPutN B3 B8 an nn cn k s A B wr base i v w2:=by
 match i with
 | 0=>obtain⟨g,h1,h2,h3⟩:=h;exact⟨g,h1,h2,heapx hE h3⟩
 | 1=>exact h
 | 2=>exact h
 | 3=>exact h
 | 4=>exact h
 | 5=>exact ownsRow_ext (show w1.ownsRow _ _ _ _ _ _ from h) hE
 | 6=>exact h
 | 7=>obtain⟨g,h1,h2,h3⟩:=h;exact⟨g,h1,h2,heapx hE h3⟩
 | 8=>exact ownsRow_ext (show w1.ownsRow _ _ _ _ _ _ from h) hE
 | 9=>exact h
 | 10=>exact h
 | 11=>exact h
 | 12=>exact h
 | 13=>exact ownsRow_ext (show w1.ownsRow _ _ _ _ _ _ from h) hE
 | 14=>exact h
 | (n+15)=>trivial
def VPutK (B3 B8:Nat) (an:Option Addr) (nn cn k:Nat) (s:Int) (A B:List Int) (wr:World) (base:Nat):Nat→Value→World→Prop:=fun i v wv=>match i with
 | 0=>∃g,v=.slice (some ⟨g,0,none⟩) 0 0∧base≤g∧wv.heap[g]?=some (.cells #[] 3)
 | 1=>v=.pointer (some ⟨B3,6,none⟩)
 | 2=>v=.slice an nn cn
 | 3=>v=.int .i64 k
 | 4=>∃a' c',v=.slice a' k c'∧Rd 1 encInt1 wr a' A
 | 5=>wv.ownsRow base 3 1 v (A).length ((A).flatMap encInt1)
 | 6=>v=.int .i64 s
 | 7=>∃g,v=.slice (some ⟨g,0,none⟩) 1 1∧base≤g∧wv.heap[g]?=some (.cells #[.int .i64 s] 3)
 | 8=>wv.ownsRow base 3 1 v (A++[s]).length ((A++[s]).flatMap encInt1)
 | 9=>v=.pointer (some ⟨B3,6,none⟩)
 | 10=>v=.slice an nn cn
 | 11=>v=.int .i64 k
 | 12=>∃a' c',v=.slice a' (nn - k) c'∧Rd 1 encInt1 wr a' B
 | 13=>wv.ownsRow base 3 1 v (A++[s]++B).length ((A++[s]++B).flatMap encInt1)
 | 14=>v=.pointer (some ⟨B8,6,none⟩)
 | _=>True
theorem VPutK.ext {B3 B8:Nat} {an:Option Addr} {nn cn k:Nat} {s:Int} {A B:List Int} {wr:World} {base:Nat} (i:Nat) (v:Value) (w1 w2:World) (h:VPutK B3 B8 an nn cn k s A B wr base i v w1) (hE:Ext w1 w2):VPutK B3 B8 an nn cn k s A B wr base i v w2:=by
 match i with
 | 0=>obtain⟨g,h1,h2,h3⟩:=h;exact⟨g,h1,h2,heapx hE h3⟩
 | 1=>exact h
 | 2=>exact h
 | 3=>exact h
 | 4=>exact h
 | 5=>exact ownsRow_ext (show w1.ownsRow _ _ _ _ _ _ from h) hE
 | 6=>exact h
 | 7=>obtain⟨g,h1,h2,h3⟩:=h;exact⟨g,h1,h2,heapx hE h3⟩
 | 8=>exact ownsRow_ext (show w1.ownsRow _ _ _ _ _ _ from h) hE
 | 9=>exact h
 | 10=>exact h
 | 11=>exact h
 | 12=>exact h
 | 13=>exact ownsRow_ext (show w1.ownsRow _ _ _ _ _ _ from h) hE
 | 14=>exact h
 | (n+15)=>trivial
def Shape {α:Type} (a:Option Addr) (l:List α) (cap:Nat):Prop:=(a=none∧l=[]∧cap=0)∨∃g,a=some ⟨g,0,none⟩
abbrev ndV (x:Nd) (an:Option Addr) (cn:Nat) (ak:Option Addr) (ck:Nat):Value:=.agg #[.bool x.fold,.int .i64 x.own,.int .i64 x.grp,.int .i64 x.mode,.string x.text,.slice an x.N.length cn,.slice ak x.K.length ck]
def RetNd (x:Nd) (w:World) (e:Ending) (w':World):Prop:=∃an cn ak ck,e=.returned (ndV x an cn ak ck)∧Sep w w' [plRow 3 1 encInt1 (.slice ak x.K.length ck) x.K,plRow 9 1 encStr1 (.slice an x.N.length cn) x.N]
theorem specPut (x:Nd) (an ak:Option Addr) (cn ck:Nat) (s:ByteArray) (y:Int) (w:World) (hN:x.N.length≤1048576) (hlen:x.N.length=x.K.length) (hcn:x.N.length≤cn) (hck:x.K.length≤ck) (hsn:Shape an x.N cn) (hsk:Shape ak x.K ck) (hn:Rd 1 encStr1 w an x.N) (hk:Rd 1 encInt1 w ak x.K) :
  Calls Tryz.prog 69 #[ndV x an cn ak ck,.string s,.int .i64 y] w (RetNd (putNd x s y) w):=by
 obtain⟨f,o,g,m,t,N,K⟩:=x;dsimp only at hN hlen hn hk hcn hck hsn hsk ⊢;have HPut:Hid (putNd ⟨f,o,g,m,t,N,K⟩ s y=⟨f,o,g,m,t,N.take (posOf N s)++[s]++N.drop (posOf N s),K.take (posOf N s)++[y]++K.drop (posOf N s)⟩):=hd0 (by simp[putNd]);have Hlen:=hd0 hlen;have HLN:=hd0 hN;have HLK:Hid (K.length≤1048576):=hd0 (by omega);have HcN:=hd0 hcn;have HcK:=hd0 hck;clear hlen hcn hck;have Hsn:=hd0 hsn;have Hsk:=hd0 hsk;have Hn:=hd0 hn;have Hk:=hd0 hk;clear hn hk hsk
 go_enter Tryz.func69,Tryz.ntmps69
 have S:=Sep.start w;replace S:=S.alloc_at (n:=w.heap.size) (by simp) #[.bool f,.int .i64 o,.int .i64 g,.int .i64 m,.string t,.slice an N.length cn,.slice ak K.length ck] 89;replace S:=S.alloc_at (n:=(w.heap.size+1)) (by simp) #[.bool false,.int .i64 0,.int .i64 0,.int .i64 0,.string ⟨#[]⟩,.slice none 0 0,.slice none 0 0] 89
 go_upto_region 1 with fail
 generalize ((w.alloc (.cells #[.bool f,.int .i64 o,.int .i64 g,.int .i64 m,.string t,.slice an N.length cn,.slice ak K.length ck] 89)).alloc (.cells #[.bool false,.int .i64 0,.int .i64 0,.int .i64 0,.string ⟨#[]⟩,.slice none 0 0,.slice none 0 0] 89))=w1 at *;generalize w.heap.size+1=B6 at *;go_wp2
 go_loopw [7] (fun i wr=>∃k:Nat,k≤N.length∧i=.int .i64 k∧posOf N s=k+posOf (N.drop k) s∧Sep w wr [plBox B6 #[.bool false,.int .i64 0,.int .i64 0,.int .i64 0,.string ⟨#[]⟩,.slice none 0 0,.slice none 0 0] 89,plBox w.heap.size #[.bool f,.int .i64 o,.int .i64 g,.int .i64 m,.string t,.slice an N.length cn,.slice ak K.length ck] 89]) (fun i _=>N.length - (intOf i).toNat)
 case atStart=>exact⟨0,Nat.zero_le _,rfl,by rw[List.drop_zero,Nat.zero_add],S⟩
 case round =>
  clear S;obtain⟨k,hkl,rfl,hpre,S⟩:=hrel;have Hpre:=hd0 hpre;clear hpre
  have i0:(0:Int)≤(k:Int):=by omega
  obtain⟨⟨b3c0,b3f0⟩,⟨b3c1,b3f1⟩,⟨b3c2,b3f2⟩,⟨b3c3,b3f3⟩,⟨b3c4,b3f4⟩,⟨b3c5,b3f5⟩,⟨b3c6,b3f6⟩⟩:=bx7 (S.box 1 rfl)
  by_cases hlt:k < N.length
  ·obtain⟨z,b1,off,hz,hpe,e0⟩:=atStr (Hn.out.ext S.ext) hlt;subst hpe
   have i1:(k:Int) < (N.length:Int):=by omega
   have Hz:=hd0 hz;clear hz
   cases hless:Op.bytesLess z.toList s.toList with
   | true =>
    have HN:=hd0 (posOf_drop Hpre.out Hz.out hless);go_wp2;clear b3c0 b3f0 b3c1 b3f1 b3c2 b3f2 b3c3 b3f3 b3c4 b3f4 b3c5 b3f5 b3c6 b3f6;go_roundw
    case rel=>exact⟨k+1,by omega,by go_num,HN.out,S⟩
    case measure=>simp[intOf];omega
   | false =>
    have HN:=hd0 (posOf_stop Hpre.out Hz.out hless);clear b3c0 b3f0 b3c1 b3f1 b3c2 b3f2 b3c3 b3f3 b3c4 b3f4 b3c5 b3f5 b3c6 b3f6;have HkLN:=hd0 hkl;have HkLK:Hid (k≤K.length):=hd0 (by have:=Hlen.out;omega);clear hkl;obtain⟨⟨b3c0,b3f0⟩,⟨b3c1,b3f1⟩,⟨b3c2,b3f2⟩,⟨b3c3,b3f3⟩,⟨b3c4,b3f4⟩,⟨b3c5,b3f5⟩,⟨b3c6,b3f6⟩⟩:=bx7 (S.box 1 rfl);replace S:=S.alloc_at (n:=wr.heap.size) (by simp) #[.bool f,.int .i64 o,.int .i64 g,.int .i64 m,.string t,.slice (some ⟨b1,off,none⟩) N.length cn,.slice ak K.length ck] 89
    go_upto_region 5 with fail
    clear b3c0 b3f0 b3c1 b3f1 b3c2 b3f2 b3c3 b3f3 b3c4 b3f4 b3c5 b3f5 b3c6 b3f6;generalize (wr.alloc (.cells #[.bool f,.int .i64 o,.int .i64 g,.int .i64 m,.string t,.slice (some ⟨b1,off,none⟩) N.length cn,.slice ak K.length ck] 89))=wA at *;generalize wr.heap.size=B8 at *;obtain⟨A,hA⟩:∃A,A=N.take k:=⟨_,rfl⟩;obtain⟨B,hB⟩:∃B,B=N.drop k:=⟨_,rfl⟩;have hkl:k≤N.length:=HkLN.out;have hLb:N.length≤1048576:=HLN.out;have HkA:Hid (k=A.length):=hd0 (by rw[hA,List.length_take];omega);have HkB:Hid (N.length - k=B.length):=hd0 (by rw[hB,List.length_drop])
    have hA8:A.length≤1048576:=by rw[hA,List.length_take];have:=HLN.out;omega
    have hB8:B.length≤1048576:=by rw[hB,List.length_drop];have:=HLN.out;omega
    have hrL:Rd 1 encStr1 wA (some ⟨b1,off,none⟩) N:=Hn.out.ext S.ext
    have hrA:Rd 1 encStr1 wA (some ⟨b1,off,none⟩) A:=by rw[hA];exact hrL.take k
    have HBn:Hid (((some ⟨b1,off,none⟩):Option Addr)=none→Rd 1 encStr1 wA none B):=hd0 (fun h=>by
     rcases Hsn.out with⟨h1,h2,h3⟩|⟨ga,h1⟩
     ·rw[hB,h2,List.drop_nil];exact Rd.nil
     ·rw[h1]at h;cases h)
    have HBs:Hid (∀ga,((some ⟨b1,off,none⟩):Option Addr)=some ⟨ga,0,none⟩→Rd 1 encStr1 wA (some ⟨ga,0+k*1,none⟩) B):=hd0 (fun ga h=>by
     rw[hB];rw[h]at hrL;exact hrL.drop k)
    have hshapeF:=Hsn.out;have HAB:=hd0 (And.intro hA hB);clear hA hB hrL;have c3F:=(bx (S.box 2 rfl) 5 rfl).1;have hlc:N.length≤cn:=HcN.out
    have ic:(k:Int)≤(cn:Int):=by have:=HcN.out;omega
    have il:(k:Int)≤(N.length:Int):=by omega
    refine wp_region_t (V:=VPutN w.heap.size B8 (some ⟨b1,off,none⟩) N.length cn k s A B wA wA.heap.size) (Ext wA) (fun i=>if i=0 then some 5 else if i=5 then some 8 else if i=7 then some 8 else if i=8 then some 13 else none) [(8,5),(13,8),(13,5)] 15 0 rfl (by decide) (by kernel_rfl) (by kernel_rfl) (by kernel_rfl) (by kernel_rfl) (Ext.refl wA).drew (fun r hr=>absurd hr (Nat.not_lt_zero _)) ?_ ?_
    ·intro i o hi ho vz w4 hvl hE hd hrest;have hsz:wA.heap.size≤w4.heap.size:=hE.size
     match vz,hvl with
     | [y0,y1,y2,y3,y4,y5,y6,y7,y8,y9,y10,y11,y12,y13,y14],_ =>
     rcases lc15 hi with rfl|rfl|rfl|rfl|rfl|rfl|rfl|rfl|rfl|rfl|rfl|rfl|rfl|rfl|rfl
     all_goals
      obtain rfl:=Option.some.inj ho
     ·clear hd hrest;simp[putAll,Act.put];go_wp2;exact OneC.mk (VPutN.ext) rfl ⟨_,rfl,hsz,heap_alloc_new w4 _⟩ (hE.alloc _) ((Ext.refl _).alloc _)
     ·clear hd hrest;simp[putAll,Act.put];go_wp2;exact OneC.mk (VPutN.ext) rfl rfl hE (Ext.refl _)
     ·have q1:y1=.pointer (some ⟨w.heap.size,5,none⟩):=hd ⟨1,.data⟩ (by simp) rfl (by decide);have c3:=cell_ext hE c3F;subst q1;clear hd hrest;simp[putAll,Act.put];go_wp2;exact OneC.mk (VPutN.ext) rfl rfl hE (Ext.refl _)
     ·clear hd hrest;simp[putAll,Act.put];go_wp2;exact OneC.mk (VPutN.ext) rfl rfl hE (Ext.refl _)
     ·have q2:y2=.slice (some ⟨b1,off,none⟩) N.length cn:=hd ⟨2,.data⟩ (by simp) rfl (by decide);have q3:y3=.int .i64 k:=hd ⟨3,.data⟩ (by simp) rfl (by decide);subst q2 q3;clear hd hrest
      rcases hshapeF with⟨h1,h2,h3⟩|⟨ga,h1⟩
      ·first
       | (cases h1;done)
       | (cases h1; cases h2; cases h3
          obtain rfl:k=0:=by simpa using hkl
          simp[putAll,Act.put];go_wp2
          exact OneC.mk (VPutN.ext) rfl ⟨_,_,rfl,hrA⟩ hE (Ext.refl _))
      ·cases h1
       simp[putAll,Act.put];go_wp2;exact OneC.mk (VPutN.ext) rfl ⟨_,_,rfl,hrA⟩ hE (Ext.refl _)
     ·obtain⟨gq0,q0,hbq0,hgq0⟩:∃g,y0=.slice (some ⟨g,0,none⟩) 0 0∧wA.heap.size≤g∧w4.heap[g]?=some (.cells #[] 9):=hd ⟨0,.data⟩ (by simp) rfl (by decide);obtain⟨aq1,cq1,q1,hrq1⟩:∃a' c',y4=.slice a' k c'∧Rd 1 encStr1 wA a' A:=hd ⟨4,.data⟩ (by simp) rfl (by decide);have hr4:=Rd.ext hrq1 hE;subst q0 q1;clear hd hrest;simp[putAll,Act.put];refine wpList_append_lit rfl _ _ 39 rfl wA.heap.size 9 _ 1 _ Tryz.underlying39 infoStr1 rfl (by decide) encStr1_len encStr1_one gq0 rfl hgq0 hbq0 aq1 (k) _ (A) rfl (HkA.out) hr4 (by omega) (by omega) hsz ?_;intro v9 w9 ho9 hE9;go_wp2;exact OneC.mk (VPutN.ext) rfl ho9 (hE.trans hE9) hE9
     ·clear hd hrest;simp[putAll,Act.put];go_wp2;exact OneC.mk (VPutN.ext) rfl rfl hE (Ext.refl _)
     ·have q6:y6=.string s:=hd ⟨6,.data⟩ (by simp) rfl (by decide);subst q6;clear hd hrest;simp[putAll,Act.put];go_wp2;exact OneC.mk (VPutN.ext) rfl ⟨_,rfl,hsz,heap_alloc_new w4 _⟩ (hE.alloc _) ((Ext.refl _).alloc _)
     ·have q0:w4.ownsRow wA.heap.size 9 1 y5 (A).length ((A).flatMap encStr1):=hd ⟨5,.data⟩ (by simp) rfl (by decide);obtain⟨gq1,q1,hbq1,hgq1⟩:∃g,y7=.slice (some ⟨g,0,none⟩) 1 1∧wA.heap.size≤g∧w4.heap[g]?=some (.cells #[.string s] 9):=hd ⟨7,.data⟩ (by simp) rfl (by decide);have hrd:Rd 1 encStr1 w4 (some ⟨gq1,0,none⟩) [s]:=rd_lit [s] encStr1_len hgq1 rfl;subst q1;clear hd hrest;simp[putAll,Act.put];refine wpList_append_rd rfl _ _ 39 rfl wA.heap.size 9 _ 1 _ Tryz.underlying39 infoStr1 rfl (by decide) encStr1_len encStr1_one _ (A).length (A) rfl q0 rfl (some ⟨gq1,0,none⟩) 1 1 [s] rfl rfl hrd (by first|omega|(simp;omega)) (by omega) hsz ?_;intro v9 w9 ho9 hg9;have hE9:Ext wA w9:=hE.grown hg9 (fun k h=>(q0.lt k h).1);go_wp2;refine⟨rfl,_,rfl,ho9,hE9,fun j u hj hne hcon hnd hnc hv=>?_⟩
      match j with
      | 0=>exact absurd (by decide) (hnc 5 rfl)
      | 1=>exact hv
      | 2=>exact hv
      | 3=>exact hv
      | 4=>exact hv
      | 5=>exact absurd rfl hcon
      | 6=>exact hv
      | 7=>exact absurd rfl hcon
      | 8=>exact absurd rfl hne
      | 9=>exact hv
      | 10=>exact hv
      | 11=>exact hv
      | 12=>exact hv
      | 13=>exact absurd (by decide) hnd
      | 14=>exact hv
      | (zz+15)=>trivial
     ·clear hd hrest;simp[putAll,Act.put];go_wp2;exact OneC.mk (VPutN.ext) rfl rfl hE (Ext.refl _)
     ·have q9:y9=.pointer (some ⟨w.heap.size,5,none⟩):=hd ⟨9,.data⟩ (by simp) rfl (by decide);have c3:=cell_ext hE c3F;subst q9;clear hd hrest;simp[putAll,Act.put];go_wp2;exact OneC.mk (VPutN.ext) rfl rfl hE (Ext.refl _)
     ·clear hd hrest;simp[putAll,Act.put];go_wp2;exact OneC.mk (VPutN.ext) rfl rfl hE (Ext.refl _)
     ·have q10:y10=.slice (some ⟨b1,off,none⟩) N.length cn:=hd ⟨10,.data⟩ (by simp) rfl (by decide);have q11:y11=.int .i64 k:=hd ⟨11,.data⟩ (by simp) rfl (by decide);subst q10 q11;clear hd hrest
      rcases hshapeF with⟨h1,h2,h3⟩|⟨ga,h1⟩
      ·first
       | (cases h1;done)
       | (have hBn := HBn.out h1; clear HBn HBs; cases h1; cases h2; cases h3
          obtain rfl:k=0:=by simpa using hkl
          simp[putAll,Act.put];go_wp2
          exact OneC.mk (VPutN.ext) rfl ⟨none,0,by simp,hBn⟩ hE (Ext.refl _))
      ·have hrB:=HBs.out ga h1;clear HBn HBs
       cases h1
       by_cases hcm:cn=k
       ·have hBz:B=[]:=List.eq_nil_of_length_eq_zero (by have:=HkB.out;omega)
        have hrZ:∀a,Rd 1 encStr1 wA a B:=fun a=>by rw[hBz];exact Rd.nil
        have hnz:N.length - k=0:=by omega
        simp[putAll,Act.put];go_wp2;refine OneC.mk (VPutN.ext) rfl ?_ hE (Ext.refl _);exact⟨some ⟨_,0,none⟩,0,by rw[hnz],by first|exact hrZ _|exact Rd.nil⟩
       ·simp[putAll,Act.put];go_wp2;exact OneC.mk (VPutN.ext) rfl ⟨some ⟨_,k,none⟩,cn - k,by first|rfl|(simp;omega),by simpa using hrB⟩ hE (Ext.refl _)
     ·have q0:w4.ownsRow wA.heap.size 9 1 y8 (A++[s]).length ((A++[s]).flatMap encStr1):=hd ⟨8,.data⟩ (by simp) rfl (by decide);obtain⟨aq1,cq1,q1,hrq1⟩:∃a' c',y12=.slice a' (N.length - k) c'∧Rd 1 encStr1 wA a' B:=hd ⟨12,.data⟩ (by simp) rfl (by decide);have hrd:=Rd.ext hrq1 hE;subst q1;clear hd hrest;simp[putAll,Act.put];refine wpList_append_rd rfl _ _ 39 rfl wA.heap.size 9 _ 1 _ Tryz.underlying39 infoStr1 rfl (by decide) encStr1_len encStr1_one _ (A++[s]).length (A++[s]) rfl q0 rfl aq1 ((N.length - k)) cq1 (B) rfl (HkB.out) hrd (by first|omega|(simp;omega)) (by omega) hsz ?_;intro v9 w9 ho9 hg9;have hE9:Ext wA w9:=hE.grown hg9 (fun k h=>(q0.lt k h).1);go_wp2;refine⟨rfl,_,rfl,ho9,hE9,fun j u hj hne hcon hnd hnc hv=>?_⟩
      match j with
      | 0=>exact absurd (by decide) (hnc 5 rfl)
      | 1=>exact hv
      | 2=>exact hv
      | 3=>exact hv
      | 4=>exact hv
      | 5=>exact absurd (by decide) (hnc 8 rfl)
      | 6=>exact hv
      | 7=>exact absurd (by decide) (hnc 8 rfl)
      | 8=>exact absurd rfl hcon
      | 9=>exact hv
      | 10=>exact hv
      | 11=>exact hv
      | 12=>exact hv
      | 13=>exact absurd rfl hne
      | 14=>exact hv
      | (zz+15)=>trivial
     ·clear hd hrest;simp[putAll,Act.put];go_wp2;exact OneC.mk (VPutN.ext) rfl rfl hE (Ext.refl _)
    ·intro vz wA2 hvl hE hV _
     match vz,hvl with
     | [y0,y1,y2,y3,y4,y5,y6,y7,y8,y9,y10,y11,y12,y13,y14],_ =>
      have o5:wA2.ownsRow wA.heap.size 9 1 y13 (A++[s]++B).length ((A++[s]++B).flatMap encStr1):=hV 13 (by omega) rfl;have e14:y14=.pointer (some ⟨B8,5,none⟩):=hV 14 (by omega) rfl;clear hV ic il hlc hLb hrA HBn HBs hshapeF c3F;subst e14;obtain⟨GN,hGN⟩:∃G,G=A++[s]++B:=⟨_,rfl⟩;rw[←hGN]at o5;have HGN:Hid (GN=N.take k++[s]++N.drop k):=hd0 (by rw[hGN,HAB.out.1,HAB.out.2]);obtain⟨aN,cN,hv13,hcap13,_,_⟩:=view_owns encStr1_len o5;clear hGN HAB HkA HkB hA8 hB8 hcap13;subst hv13;replace S:Sep w wA2 [plRow 9 1 encStr1 (.slice aN GN.length cN) GN,plBox B8 #[.bool f,.int .i64 o,.int .i64 g,.int .i64 m,.string t,.slice (some ⟨b1,off,none⟩) N.length cn,.slice ak K.length ck] 89,plBox B6 #[.bool false,.int .i64 0,.int .i64 0,.int .i64 0,.string ⟨#[]⟩,.slice none 0 0,.slice none 0 0] 89,plBox w.heap.size #[.bool f,.int .i64 o,.int .i64 g,.int .i64 m,.string t,.slice (some ⟨b1,off,none⟩) N.length cn,.slice ak K.length ck] 89]:=(S.owned hE (Nat.le_refl _) o5);clear hE o5;simp only[putAll,Act.put,List.take_succ_cons,List.take_zero,List.drop_succ_cons,List.drop_zero];simp;obtain⟨⟨b8c0,b8f0⟩,⟨b8c1,b8f1⟩,⟨b8c2,b8f2⟩,⟨b8c3,b8f3⟩,⟨b8c4,b8f4⟩,⟨b8c5,b8f5⟩,⟨b8c6,b8f6⟩⟩:=bx7 (S.box 1 rfl);obtain⟨⟨b3c0,b3f0⟩,⟨b3c1,b3f1⟩,⟨b3c2,b3f2⟩,⟨b3c3,b3f3⟩,⟨b3c4,b3f4⟩,⟨b3c5,b3f5⟩,⟨b3c6,b3f6⟩⟩:=bx7 (S.box 3 rfl)
      go_upto_region 6 with fail
      clear b8c0 b8f0 b8c1 b8f1 b8c2 b8f2 b8c3 b8f3 b8c4 b8f4 b8c5 b8f5 b8c6 b8f6 b3c0 b3f0 b3c1 b3f1 b3c2 b3f2 b3c3 b3f3 b3c4 b3f4 b3c5 b3f5 b3c6 b3f6;replace S:Sep w (wA2.setCell ⟨B8,5,none⟩ (.slice aN GN.length cN)) [plRow 9 1 encStr1 (.slice aN GN.length cN) GN,plBox B8 #[.bool f,.int .i64 o,.int .i64 g,.int .i64 m,.string t,.slice aN GN.length cN,.slice ak K.length ck] 89,plBox B6 #[.bool false,.int .i64 0,.int .i64 0,.int .i64 0,.string ⟨#[]⟩,.slice none 0 0,.slice none 0 0] 89,plBox w.heap.size #[.bool f,.int .i64 o,.int .i64 g,.int .i64 m,.string t,.slice (some ⟨b1,off,none⟩) N.length cn,.slice ak K.length ck] 89]:=S.set 1 rfl 5 _;generalize (wA2.setCell ⟨B8,5,none⟩ (.slice aN GN.length cN))=wB at *;obtain⟨A,hA⟩:∃A,A=K.take k:=⟨_,rfl⟩;obtain⟨B,hB⟩:∃B,B=K.drop k:=⟨_,rfl⟩;have hkl:k≤K.length:=HkLK.out;have hLb:K.length≤1048576:=HLK.out;have HkA:Hid (k=A.length):=hd0 (by rw[hA,List.length_take];omega);have HkB:Hid (K.length - k=B.length):=hd0 (by rw[hB,List.length_drop])
      have hA8:A.length≤1048576:=by rw[hA,List.length_take];have:=HLK.out;omega
      have hB8:B.length≤1048576:=by rw[hB,List.length_drop];have:=HLK.out;omega
      have hrL:Rd 1 encInt1 wB ak K:=Hk.out.ext S.ext
      have hrA:Rd 1 encInt1 wB ak A:=by rw[hA];exact hrL.take k
      have HBn:Hid ((ak:Option Addr)=none→Rd 1 encInt1 wB none B):=hd0 (fun h=>by
       rcases Hsk.out with⟨h1,h2,h3⟩|⟨ga,h1⟩
       ·rw[hB,h2,List.drop_nil];exact Rd.nil
       ·rw[h1]at h;cases h)
      have HBs:Hid (∀ga,(ak:Option Addr)=some ⟨ga,0,none⟩→Rd 1 encInt1 wB (some ⟨ga,0+k*1,none⟩) B):=hd0 (fun ga h=>by
       rw[hB];rw[h]at hrL;exact hrL.drop k)
      have hshapeF:=Hsk.out;have HAB:=hd0 (And.intro hA hB);clear hA hB hrL;have c3F:=(bx (S.box 3 rfl) 6 rfl).1;have hlc:K.length≤ck:=HcK.out
      have ic:(k:Int)≤(ck:Int):=by have:=HcK.out;omega
      have il:(k:Int)≤(K.length:Int):=by omega
      refine wp_region_t (V:=VPutK w.heap.size B8 ak K.length ck k y A B wB wB.heap.size) (Ext wB) (fun i=>if i=0 then some 5 else if i=5 then some 8 else if i=7 then some 8 else if i=8 then some 13 else none) [(8,5),(13,8),(13,5)] 15 0 rfl (by decide) (by kernel_rfl) (by kernel_rfl) (by kernel_rfl) (by kernel_rfl) (Ext.refl wB).drew (fun r hr=>absurd hr (Nat.not_lt_zero _)) ?_ ?_
      ·intro i o hi ho vz w4 hvl hE hd hrest;have hsz:wB.heap.size≤w4.heap.size:=hE.size
       match vz,hvl with
       | [y0,y1,y2,y3,y4,y5,y6,y7,y8,y9,y10,y11,y12,y13,y14],_ =>
       rcases lc15 hi with rfl|rfl|rfl|rfl|rfl|rfl|rfl|rfl|rfl|rfl|rfl|rfl|rfl|rfl|rfl
       all_goals
        obtain rfl:=Option.some.inj ho
       ·clear hd hrest;simp[putAll,Act.put];go_wp2;exact OneC.mk (VPutK.ext) rfl ⟨_,rfl,hsz,heap_alloc_new w4 _⟩ (hE.alloc _) ((Ext.refl _).alloc _)
       ·clear hd hrest;simp[putAll,Act.put];go_wp2;exact OneC.mk (VPutK.ext) rfl rfl hE (Ext.refl _)
       ·have q1:y1=.pointer (some ⟨w.heap.size,6,none⟩):=hd ⟨1,.data⟩ (by simp) rfl (by decide);have c3:=cell_ext hE c3F;subst q1;clear hd hrest;simp[putAll,Act.put];go_wp2;exact OneC.mk (VPutK.ext) rfl rfl hE (Ext.refl _)
       ·clear hd hrest;simp[putAll,Act.put];go_wp2;exact OneC.mk (VPutK.ext) rfl rfl hE (Ext.refl _)
       ·have q2:y2=.slice ak K.length ck:=hd ⟨2,.data⟩ (by simp) rfl (by decide);have q3:y3=.int .i64 k:=hd ⟨3,.data⟩ (by simp) rfl (by decide);subst q2 q3;clear hd hrest
        rcases hshapeF with⟨h1,h2,h3⟩|⟨ga,h1⟩
        ·first
         | (cases h1;done)
         | (cases h1; cases h2; cases h3
            obtain rfl:k=0:=by simpa using hkl
            simp[putAll,Act.put];go_wp2
            exact OneC.mk (VPutK.ext) rfl ⟨_,_,rfl,hrA⟩ hE (Ext.refl _))
        ·cases h1
         simp[putAll,Act.put];go_wp2;exact OneC.mk (VPutK.ext) rfl ⟨_,_,rfl,hrA⟩ hE (Ext.refl _)
       ·obtain⟨gq0,q0,hbq0,hgq0⟩:∃g,y0=.slice (some ⟨g,0,none⟩) 0 0∧wB.heap.size≤g∧w4.heap[g]?=some (.cells #[] 3):=hd ⟨0,.data⟩ (by simp) rfl (by decide);obtain⟨aq1,cq1,q1,hrq1⟩:∃a' c',y4=.slice a' k c'∧Rd 1 encInt1 wB a' A:=hd ⟨4,.data⟩ (by simp) rfl (by decide);have hr4:=Rd.ext hrq1 hE;subst q0 q1;clear hd hrest;simp[putAll,Act.put];refine wpList_append_lit rfl _ _ 86 rfl wB.heap.size 3 _ 1 _ Tryz.underlying86 infoInt rfl (by decide) encInt1_len encInt1_one gq0 rfl hgq0 hbq0 aq1 (k) _ (A) rfl (HkA.out) hr4 (by omega) (by omega) hsz ?_;intro v9 w9 ho9 hE9;go_wp2;exact OneC.mk (VPutK.ext) rfl ho9 (hE.trans hE9) hE9
       ·clear hd hrest;simp[putAll,Act.put];go_wp2;exact OneC.mk (VPutK.ext) rfl rfl hE (Ext.refl _)
       ·have q6:y6=.int .i64 y:=hd ⟨6,.data⟩ (by simp) rfl (by decide);subst q6;clear hd hrest;simp[putAll,Act.put];go_wp2;exact OneC.mk (VPutK.ext) rfl ⟨_,rfl,hsz,heap_alloc_new w4 _⟩ (hE.alloc _) ((Ext.refl _).alloc _)
       ·have q0:w4.ownsRow wB.heap.size 3 1 y5 (A).length ((A).flatMap encInt1):=hd ⟨5,.data⟩ (by simp) rfl (by decide);obtain⟨gq1,q1,hbq1,hgq1⟩:∃g,y7=.slice (some ⟨g,0,none⟩) 1 1∧wB.heap.size≤g∧w4.heap[g]?=some (.cells #[.int .i64 y] 3):=hd ⟨7,.data⟩ (by simp) rfl (by decide);have hrd:Rd 1 encInt1 w4 (some ⟨gq1,0,none⟩) [y]:=rd_lit [y] encInt1_len hgq1 rfl;subst q1;clear hd hrest;simp[putAll,Act.put];refine wpList_append_rd rfl _ _ 86 rfl wB.heap.size 3 _ 1 _ Tryz.underlying86 infoInt rfl (by decide) encInt1_len encInt1_one _ (A).length (A) rfl q0 rfl (some ⟨gq1,0,none⟩) 1 1 [y] rfl rfl hrd (by first|omega|(simp;omega)) (by omega) hsz ?_;intro v9 w9 ho9 hg9;have hE9:Ext wB w9:=hE.grown hg9 (fun k h=>(q0.lt k h).1);go_wp2;refine⟨rfl,_,rfl,ho9,hE9,fun j u hj hne hcon hnd hnc hv=>?_⟩
        match j with
        | 0=>exact absurd (by decide) (hnc 5 rfl)
        | 1=>exact hv
        | 2=>exact hv
        | 3=>exact hv
        | 4=>exact hv
        | 5=>exact absurd rfl hcon
        | 6=>exact hv
        | 7=>exact absurd rfl hcon
        | 8=>exact absurd rfl hne
        | 9=>exact hv
        | 10=>exact hv
        | 11=>exact hv
        | 12=>exact hv
        | 13=>exact absurd (by decide) hnd
        | 14=>exact hv
        | (zz+15)=>trivial
       ·clear hd hrest;simp[putAll,Act.put];go_wp2;exact OneC.mk (VPutK.ext) rfl rfl hE (Ext.refl _)
       ·have q9:y9=.pointer (some ⟨w.heap.size,6,none⟩):=hd ⟨9,.data⟩ (by simp) rfl (by decide);have c3:=cell_ext hE c3F;subst q9;clear hd hrest;simp[putAll,Act.put];go_wp2;exact OneC.mk (VPutK.ext) rfl rfl hE (Ext.refl _)
       ·clear hd hrest;simp[putAll,Act.put];go_wp2;exact OneC.mk (VPutK.ext) rfl rfl hE (Ext.refl _)
       ·have q10:y10=.slice ak K.length ck:=hd ⟨10,.data⟩ (by simp) rfl (by decide);have q11:y11=.int .i64 k:=hd ⟨11,.data⟩ (by simp) rfl (by decide);subst q10 q11;clear hd hrest
        rcases hshapeF with⟨h1,h2,h3⟩|⟨ga,h1⟩
        ·first
         | (cases h1;done)
         | (have hBn := HBn.out h1; clear HBn HBs; cases h1; cases h2; cases h3
            obtain rfl:k=0:=by simpa using hkl
            simp[putAll,Act.put];go_wp2
            exact OneC.mk (VPutK.ext) rfl ⟨none,0,by simp,hBn⟩ hE (Ext.refl _))
        ·have hrB:=HBs.out ga h1;clear HBn HBs
         cases h1
         by_cases hcm:ck=k
         ·have hBz:B=[]:=List.eq_nil_of_length_eq_zero (by have:=HkB.out;omega)
          have hrZ:∀a,Rd 1 encInt1 wB a B:=fun a=>by rw[hBz];exact Rd.nil
          have hnz:K.length - k=0:=by omega
          simp[putAll,Act.put];go_wp2;refine OneC.mk (VPutK.ext) rfl ?_ hE (Ext.refl _);exact⟨some ⟨_,0,none⟩,0,by rw[hnz],by first|exact hrZ _|exact Rd.nil⟩
         ·simp[putAll,Act.put];go_wp2;exact OneC.mk (VPutK.ext) rfl ⟨some ⟨_,k,none⟩,ck - k,by first|rfl|(simp;omega),by simpa using hrB⟩ hE (Ext.refl _)
       ·have q0:w4.ownsRow wB.heap.size 3 1 y8 (A++[y]).length ((A++[y]).flatMap encInt1):=hd ⟨8,.data⟩ (by simp) rfl (by decide);obtain⟨aq1,cq1,q1,hrq1⟩:∃a' c',y12=.slice a' (K.length - k) c'∧Rd 1 encInt1 wB a' B:=hd ⟨12,.data⟩ (by simp) rfl (by decide);have hrd:=Rd.ext hrq1 hE;subst q1;clear hd hrest;simp[putAll,Act.put];refine wpList_append_rd rfl _ _ 86 rfl wB.heap.size 3 _ 1 _ Tryz.underlying86 infoInt rfl (by decide) encInt1_len encInt1_one _ (A++[y]).length (A++[y]) rfl q0 rfl aq1 ((K.length - k)) cq1 (B) rfl (HkB.out) hrd (by first|omega|(simp;omega)) (by omega) hsz ?_;intro v9 w9 ho9 hg9;have hE9:Ext wB w9:=hE.grown hg9 (fun k h=>(q0.lt k h).1);go_wp2;refine⟨rfl,_,rfl,ho9,hE9,fun j u hj hne hcon hnd hnc hv=>?_⟩
        match j with
        | 0=>exact absurd (by decide) (hnc 5 rfl)
        | 1=>exact hv
        | 2=>exact hv
        | 3=>exact hv
        | 4=>exact hv
        | 5=>exact absurd (by decide) (hnc 8 rfl)
        | 6=>exact hv
        | 7=>exact absurd (by decide) (hnc 8 rfl)
        | 8=>exact absurd rfl hcon
        | 9=>exact hv
        | 10=>exact hv
        | 11=>exact hv
        | 12=>exact hv
        | 13=>exact absurd rfl hne
        | 14=>exact hv
        | (zz+15)=>trivial
       ·clear hd hrest;simp[putAll,Act.put];go_wp2;exact OneC.mk (VPutK.ext) rfl rfl hE (Ext.refl _)
      ·intro vz wB2 hvl hE hV _
       match vz,hvl with
       | [y0,y1,y2,y3,y4,y5,y6,y7,y8,y9,y10,y11,y12,y13,y14],_ =>
        have o5:wB2.ownsRow wB.heap.size 3 1 y13 (A++[y]++B).length ((A++[y]++B).flatMap encInt1):=hV 13 (by omega) rfl;have e14:y14=.pointer (some ⟨B8,6,none⟩):=hV 14 (by omega) rfl;clear hV ic il hlc hLb hrA HBn HBs hshapeF c3F;subst e14;obtain⟨GK,hGK⟩:∃G,G=A++[y]++B:=⟨_,rfl⟩;rw[←hGK]at o5;have HGK:Hid (GK=K.take k++[y]++K.drop k):=hd0 (by rw[hGK,HAB.out.1,HAB.out.2]);obtain⟨aK,cK,hv13,hcap13,_,_⟩:=view_owns encInt1_len o5;clear hGK HAB HkA HkB hA8 hB8 hcap13;subst hv13;replace S:Sep w wB2 [plRow 3 1 encInt1 (.slice aK GK.length cK) GK,plRow 9 1 encStr1 (.slice aN GN.length cN) GN,plBox B8 #[.bool f,.int .i64 o,.int .i64 g,.int .i64 m,.string t,.slice aN GN.length cN,.slice ak K.length ck] 89,plBox B6 #[.bool false,.int .i64 0,.int .i64 0,.int .i64 0,.string ⟨#[]⟩,.slice none 0 0,.slice none 0 0] 89,plBox w.heap.size #[.bool f,.int .i64 o,.int .i64 g,.int .i64 m,.string t,.slice (some ⟨b1,off,none⟩) N.length cn,.slice ak K.length ck] 89]:=(S.owned hE (Nat.le_refl _) o5);clear hE o5;simp only[putAll,Act.put,List.take_succ_cons,List.take_zero,List.drop_succ_cons,List.drop_zero];simp;obtain⟨⟨b8c0,b8f0⟩,⟨b8c1,b8f1⟩,⟨b8c2,b8f2⟩,⟨b8c3,b8f3⟩,⟨b8c4,b8f4⟩,⟨b8c5,b8f5⟩,⟨b8c6,b8f6⟩⟩:=bx7 (S.box 2 rfl)
        go_upto_region 7 with fail
        clear b8c0 b8f0 b8c1 b8f1 b8c2 b8f2 b8c3 b8f3 b8c4 b8f4 b8c5 b8f5 b8c6 b8f6;replace S:Sep w (wB2.setCell ⟨B8,6,none⟩ (.slice aK GK.length cK)) [plRow 3 1 encInt1 (.slice aK GK.length cK) GK,plRow 9 1 encStr1 (.slice aN GN.length cN) GN,plBox B8 #[.bool f,.int .i64 o,.int .i64 g,.int .i64 m,.string t,.slice aN GN.length cN,.slice aK GK.length cK] 89,plBox B6 #[.bool false,.int .i64 0,.int .i64 0,.int .i64 0,.string ⟨#[]⟩,.slice none 0 0,.slice none 0 0] 89,plBox w.heap.size #[.bool f,.int .i64 o,.int .i64 g,.int .i64 m,.string t,.slice (some ⟨b1,off,none⟩) N.length cn,.slice ak K.length ck] 89]:=S.set 2 rfl 6 _;generalize (wB2.setCell ⟨B8,6,none⟩ (.slice aK GK.length cK))=wC at *;obtain⟨⟨b8c0,b8f0⟩,⟨b8c1,b8f1⟩,⟨b8c2,b8f2⟩,⟨b8c3,b8f3⟩,⟨b8c4,b8f4⟩,⟨b8c5,b8f5⟩,⟨b8c6,b8f6⟩⟩:=bx7 (S.box 2 rfl);obtain⟨⟨b6c0,b6f0⟩,⟨b6c1,b6f1⟩,⟨b6c2,b6f2⟩,⟨b6c3,b6f3⟩,⟨b6c4,b6f4⟩,⟨b6c5,b6f5⟩,⟨b6c6,b6f6⟩⟩:=bx7 (S.box 3 rfl);clear hkl i0;go_wp2;clear b8c0 b8f0 b8c1 b8f1 b8c2 b8f2 b8c3 b8f3 b8c4 b8f4 b8c5 b8f5 b8c6 b8f6 b6c0 b6f0 b6c1 b6f1 b6c2 b6f2 b6c3 b6f3 b6c4 b6f4 b6c5 b6f5 b6c6 b6f6;replace S:Sep w (((((((wC.setCell ⟨B6,0,none⟩ (.bool f)).setCell ⟨B6,1,none⟩ (.int .i64 o)).setCell ⟨B6,2,none⟩ (.int .i64 g)).setCell ⟨B6,3,none⟩ (.int .i64 m)).setCell ⟨B6,4,none⟩ (.string t)).setCell ⟨B6,5,none⟩ (.slice aN GN.length cN)).setCell ⟨B6,6,none⟩ (.slice aK GK.length cK)) [plRow 3 1 encInt1 (.slice aK GK.length cK) GK,plRow 9 1 encStr1 (.slice aN GN.length cN) GN,plBox B8 #[.bool f,.int .i64 o,.int .i64 g,.int .i64 m,.string t,.slice aN GN.length cN,.slice aK GK.length cK] 89,plBox B6 #[.bool f,.int .i64 o,.int .i64 g,.int .i64 m,.string t,.slice aN GN.length cN,.slice aK GK.length cK] 89,plBox w.heap.size #[.bool f,.int .i64 o,.int .i64 g,.int .i64 m,.string t,.slice (some ⟨b1,off,none⟩) N.length cn,.slice ak K.length ck] 89]:=((((((S.set 3 rfl 0 _).set 3 rfl 1 _).set 3 rfl 2 _).set 3 rfl 3 _).set 3 rfl 4 _).set 3 rfl 5 _).set 3 rfl 6 _;generalize (((((((wC.setCell ⟨B6,0,none⟩ (.bool f)).setCell ⟨B6,1,none⟩ (.int .i64 o)).setCell ⟨B6,2,none⟩ (.int .i64 g)).setCell ⟨B6,3,none⟩ (.int .i64 m)).setCell ⟨B6,4,none⟩ (.string t)).setCell ⟨B6,5,none⟩ (.slice aN GN.length cN)).setCell ⟨B6,6,none⟩ (.slice aK GK.length cK))=wD at *;have HF:Hid (putNd ⟨f,o,g,m,t,N,K⟩ s y=⟨f,o,g,m,t,GN,GK⟩):=hd0 (by rw[HPut.out,HN.out,HGN.out,HGK.out]);obtain⟨⟨b6c0,b6f0⟩,⟨b6c1,b6f1⟩,⟨b6c2,b6f2⟩,⟨b6c3,b6f3⟩,⟨b6c4,b6f4⟩,⟨b6c5,b6f5⟩,⟨b6c6,b6f6⟩⟩:=bx7 (S.box 3 rfl);refine bodyPost_ret (v:=ndV ⟨f,o,g,m,t,GN,GK⟩ aN cN aK cK) (by simp[results,Tryz.results69,go_sem,b6c0,b6c1,b6c2,b6c3,b6c4,b6c5,b6c6]) rfl ?_;rw[HF.out];replace S:Sep w wD [plRow 3 1 encInt1 (.slice aK GK.length cK) GK,plRow 9 1 encStr1 (.slice aN GN.length cN) GN]:=((S.drop 2).drop 2).drop 2;exact⟨aN,cN,aK,cK,rfl,S⟩
  ·have HN:=hd0 (posOf_end (s:=s) (N:=N) (by have h:=Hpre.out;rw[show k=N.length by omega]at h;exact h))
   have hkN:k=N.length:=by omega
   have HkN:=hd0 hkN
   have hni:¬(k:Int) < (N.length:Int):=by omega
   have HN2:Hid (posOf N s=k):=hd0 (by rw[HN.out,hkN]);clear HN hkN;have HN:=HN2;clear HN2;clear b3c0 b3f0 b3c1 b3f1 b3c2 b3f2 b3c3 b3f3 b3c4 b3f4 b3c5 b3f5 b3c6 b3f6;have HkLN:=hd0 hkl;have HkLK:Hid (k≤K.length):=hd0 (by have:=Hlen.out;omega);clear hkl;obtain⟨⟨b3c0,b3f0⟩,⟨b3c1,b3f1⟩,⟨b3c2,b3f2⟩,⟨b3c3,b3f3⟩,⟨b3c4,b3f4⟩,⟨b3c5,b3f5⟩,⟨b3c6,b3f6⟩⟩:=bx7 (S.box 1 rfl);replace S:=S.alloc_at (n:=wr.heap.size) (by simp) #[.bool f,.int .i64 o,.int .i64 g,.int .i64 m,.string t,.slice an N.length cn,.slice ak K.length ck] 89
   go_upto_region 5 with fail
   clear b3c0 b3f0 b3c1 b3f1 b3c2 b3f2 b3c3 b3f3 b3c4 b3f4 b3c5 b3f5 b3c6 b3f6;generalize (wr.alloc (.cells #[.bool f,.int .i64 o,.int .i64 g,.int .i64 m,.string t,.slice an N.length cn,.slice ak K.length ck] 89))=wA at *;generalize wr.heap.size=B8 at *;obtain⟨A,hA⟩:∃A,A=N.take k:=⟨_,rfl⟩;obtain⟨B,hB⟩:∃B,B=N.drop k:=⟨_,rfl⟩;have hkl:k≤N.length:=HkLN.out;have hLb:N.length≤1048576:=HLN.out;have HkA:Hid (k=A.length):=hd0 (by rw[hA,List.length_take];omega);have HkB:Hid (N.length - k=B.length):=hd0 (by rw[hB,List.length_drop])
   have hA8:A.length≤1048576:=by rw[hA,List.length_take];have:=HLN.out;omega
   have hB8:B.length≤1048576:=by rw[hB,List.length_drop];have:=HLN.out;omega
   have hrL:Rd 1 encStr1 wA an N:=Hn.out.ext S.ext
   have hrA:Rd 1 encStr1 wA an A:=by rw[hA];exact hrL.take k
   have HBn:Hid ((an:Option Addr)=none→Rd 1 encStr1 wA none B):=hd0 (fun h=>by
    rcases Hsn.out with⟨h1,h2,h3⟩|⟨ga,h1⟩
    ·rw[hB,h2,List.drop_nil];exact Rd.nil
    ·rw[h1]at h;cases h)
   have HBs:Hid (∀ga,(an:Option Addr)=some ⟨ga,0,none⟩→Rd 1 encStr1 wA (some ⟨ga,0+k*1,none⟩) B):=hd0 (fun ga h=>by
    rw[hB];rw[h]at hrL;exact hrL.drop k)
   have hshapeF:=Hsn.out;have HAB:=hd0 (And.intro hA hB);clear hA hB hrL;have c3F:=(bx (S.box 2 rfl) 5 rfl).1;have hlc:N.length≤cn:=HcN.out
   have ic:(k:Int)≤(cn:Int):=by have:=HcN.out;omega
   have il:(k:Int)≤(N.length:Int):=by omega
   refine wp_region_t (V:=VPutN w.heap.size B8 an N.length cn k s A B wA wA.heap.size) (Ext wA) (fun i=>if i=0 then some 5 else if i=5 then some 8 else if i=7 then some 8 else if i=8 then some 13 else none) [(8,5),(13,8),(13,5)] 15 0 rfl (by decide) (by kernel_rfl) (by kernel_rfl) (by kernel_rfl) (by kernel_rfl) (Ext.refl wA).drew (fun r hr=>absurd hr (Nat.not_lt_zero _)) ?_ ?_
   ·intro i o hi ho vz w4 hvl hE hd hrest;have hsz:wA.heap.size≤w4.heap.size:=hE.size
    match vz,hvl with
    | [y0,y1,y2,y3,y4,y5,y6,y7,y8,y9,y10,y11,y12,y13,y14],_ =>
    rcases lc15 hi with rfl|rfl|rfl|rfl|rfl|rfl|rfl|rfl|rfl|rfl|rfl|rfl|rfl|rfl|rfl
    all_goals
     obtain rfl:=Option.some.inj ho
    ·clear hd hrest;simp[putAll,Act.put];go_wp2;exact OneC.mk (VPutN.ext) rfl ⟨_,rfl,hsz,heap_alloc_new w4 _⟩ (hE.alloc _) ((Ext.refl _).alloc _)
    ·clear hd hrest;simp[putAll,Act.put];go_wp2;exact OneC.mk (VPutN.ext) rfl rfl hE (Ext.refl _)
    ·have q1:y1=.pointer (some ⟨w.heap.size,5,none⟩):=hd ⟨1,.data⟩ (by simp) rfl (by decide);have c3:=cell_ext hE c3F;subst q1;clear hd hrest;simp[putAll,Act.put];go_wp2;exact OneC.mk (VPutN.ext) rfl rfl hE (Ext.refl _)
    ·clear hd hrest;simp[putAll,Act.put];go_wp2;exact OneC.mk (VPutN.ext) rfl rfl hE (Ext.refl _)
    ·have q2:y2=.slice an N.length cn:=hd ⟨2,.data⟩ (by simp) rfl (by decide);have q3:y3=.int .i64 k:=hd ⟨3,.data⟩ (by simp) rfl (by decide);subst q2 q3;clear hd hrest
     rcases hshapeF with⟨h1,h2,h3⟩|⟨ga,h1⟩
     ·first
      | (cases h1;done)
      | (cases h1; cases h2; cases h3
         obtain rfl:k=0:=by simpa using hkl
         simp[putAll,Act.put];go_wp2
         exact OneC.mk (VPutN.ext) rfl ⟨_,_,rfl,hrA⟩ hE (Ext.refl _))
     ·cases h1
      simp[putAll,Act.put];go_wp2;exact OneC.mk (VPutN.ext) rfl ⟨_,_,rfl,hrA⟩ hE (Ext.refl _)
    ·obtain⟨gq0,q0,hbq0,hgq0⟩:∃g,y0=.slice (some ⟨g,0,none⟩) 0 0∧wA.heap.size≤g∧w4.heap[g]?=some (.cells #[] 9):=hd ⟨0,.data⟩ (by simp) rfl (by decide);obtain⟨aq1,cq1,q1,hrq1⟩:∃a' c',y4=.slice a' k c'∧Rd 1 encStr1 wA a' A:=hd ⟨4,.data⟩ (by simp) rfl (by decide);have hr4:=Rd.ext hrq1 hE;subst q0 q1;clear hd hrest;simp[putAll,Act.put];refine wpList_append_lit rfl _ _ 39 rfl wA.heap.size 9 _ 1 _ Tryz.underlying39 infoStr1 rfl (by decide) encStr1_len encStr1_one gq0 rfl hgq0 hbq0 aq1 (k) _ (A) rfl (HkA.out) hr4 (by omega) (by omega) hsz ?_;intro v9 w9 ho9 hE9;go_wp2;exact OneC.mk (VPutN.ext) rfl ho9 (hE.trans hE9) hE9
    ·clear hd hrest;simp[putAll,Act.put];go_wp2;exact OneC.mk (VPutN.ext) rfl rfl hE (Ext.refl _)
    ·have q6:y6=.string s:=hd ⟨6,.data⟩ (by simp) rfl (by decide);subst q6;clear hd hrest;simp[putAll,Act.put];go_wp2;exact OneC.mk (VPutN.ext) rfl ⟨_,rfl,hsz,heap_alloc_new w4 _⟩ (hE.alloc _) ((Ext.refl _).alloc _)
    ·have q0:w4.ownsRow wA.heap.size 9 1 y5 (A).length ((A).flatMap encStr1):=hd ⟨5,.data⟩ (by simp) rfl (by decide);obtain⟨gq1,q1,hbq1,hgq1⟩:∃g,y7=.slice (some ⟨g,0,none⟩) 1 1∧wA.heap.size≤g∧w4.heap[g]?=some (.cells #[.string s] 9):=hd ⟨7,.data⟩ (by simp) rfl (by decide);have hrd:Rd 1 encStr1 w4 (some ⟨gq1,0,none⟩) [s]:=rd_lit [s] encStr1_len hgq1 rfl;subst q1;clear hd hrest;simp[putAll,Act.put];refine wpList_append_rd rfl _ _ 39 rfl wA.heap.size 9 _ 1 _ Tryz.underlying39 infoStr1 rfl (by decide) encStr1_len encStr1_one _ (A).length (A) rfl q0 rfl (some ⟨gq1,0,none⟩) 1 1 [s] rfl rfl hrd (by first|omega|(simp;omega)) (by omega) hsz ?_;intro v9 w9 ho9 hg9;have hE9:Ext wA w9:=hE.grown hg9 (fun k h=>(q0.lt k h).1);go_wp2;refine⟨rfl,_,rfl,ho9,hE9,fun j u hj hne hcon hnd hnc hv=>?_⟩
     match j with
     | 0=>exact absurd (by decide) (hnc 5 rfl)
     | 1=>exact hv
     | 2=>exact hv
     | 3=>exact hv
     | 4=>exact hv
     | 5=>exact absurd rfl hcon
     | 6=>exact hv
     | 7=>exact absurd rfl hcon
     | 8=>exact absurd rfl hne
     | 9=>exact hv
     | 10=>exact hv
     | 11=>exact hv
     | 12=>exact hv
     | 13=>exact absurd (by decide) hnd
     | 14=>exact hv
     | (zz+15)=>trivial
    ·clear hd hrest;simp[putAll,Act.put];go_wp2;exact OneC.mk (VPutN.ext) rfl rfl hE (Ext.refl _)
    ·have q9:y9=.pointer (some ⟨w.heap.size,5,none⟩):=hd ⟨9,.data⟩ (by simp) rfl (by decide);have c3:=cell_ext hE c3F;subst q9;clear hd hrest;simp[putAll,Act.put];go_wp2;exact OneC.mk (VPutN.ext) rfl rfl hE (Ext.refl _)
    ·clear hd hrest;simp[putAll,Act.put];go_wp2;exact OneC.mk (VPutN.ext) rfl rfl hE (Ext.refl _)
    ·have q10:y10=.slice an N.length cn:=hd ⟨10,.data⟩ (by simp) rfl (by decide);have q11:y11=.int .i64 k:=hd ⟨11,.data⟩ (by simp) rfl (by decide);subst q10 q11;clear hd hrest
     rcases hshapeF with⟨h1,h2,h3⟩|⟨ga,h1⟩
     ·first
      | (cases h1;done)
      | (have hBn := HBn.out h1; clear HBn HBs; cases h1; cases h2; cases h3
         obtain rfl:k=0:=by simpa using hkl
         simp[putAll,Act.put];go_wp2
         exact OneC.mk (VPutN.ext) rfl ⟨none,0,by simp,hBn⟩ hE (Ext.refl _))
     ·have hrB:=HBs.out ga h1;clear HBn HBs
      cases h1
      by_cases hcm:cn=k
      ·have hBz:B=[]:=List.eq_nil_of_length_eq_zero (by have:=HkB.out;omega)
       have hrZ:∀a,Rd 1 encStr1 wA a B:=fun a=>by rw[hBz];exact Rd.nil
       have hnz:N.length - k=0:=by omega
       simp[putAll,Act.put];go_wp2;refine OneC.mk (VPutN.ext) rfl ?_ hE (Ext.refl _);exact⟨some ⟨_,0,none⟩,0,by rw[hnz],by first|exact hrZ _|exact Rd.nil⟩
      ·simp[putAll,Act.put];go_wp2;exact OneC.mk (VPutN.ext) rfl ⟨some ⟨_,k,none⟩,cn - k,by first|rfl|(simp;omega),by simpa using hrB⟩ hE (Ext.refl _)
    ·have q0:w4.ownsRow wA.heap.size 9 1 y8 (A++[s]).length ((A++[s]).flatMap encStr1):=hd ⟨8,.data⟩ (by simp) rfl (by decide);obtain⟨aq1,cq1,q1,hrq1⟩:∃a' c',y12=.slice a' (N.length - k) c'∧Rd 1 encStr1 wA a' B:=hd ⟨12,.data⟩ (by simp) rfl (by decide);have hrd:=Rd.ext hrq1 hE;subst q1;clear hd hrest;simp[putAll,Act.put];refine wpList_append_rd rfl _ _ 39 rfl wA.heap.size 9 _ 1 _ Tryz.underlying39 infoStr1 rfl (by decide) encStr1_len encStr1_one _ (A++[s]).length (A++[s]) rfl q0 rfl aq1 ((N.length - k)) cq1 (B) rfl (HkB.out) hrd (by first|omega|(simp;omega)) (by omega) hsz ?_;intro v9 w9 ho9 hg9;have hE9:Ext wA w9:=hE.grown hg9 (fun k h=>(q0.lt k h).1);go_wp2;refine⟨rfl,_,rfl,ho9,hE9,fun j u hj hne hcon hnd hnc hv=>?_⟩
     match j with
     | 0=>exact absurd (by decide) (hnc 5 rfl)
     | 1=>exact hv
     | 2=>exact hv
     | 3=>exact hv
     | 4=>exact hv
     | 5=>exact absurd (by decide) (hnc 8 rfl)
     | 6=>exact hv
     | 7=>exact absurd (by decide) (hnc 8 rfl)
     | 8=>exact absurd rfl hcon
     | 9=>exact hv
     | 10=>exact hv
     | 11=>exact hv
     | 12=>exact hv
     | 13=>exact absurd rfl hne
     | 14=>exact hv
     | (zz+15)=>trivial
    ·clear hd hrest;simp[putAll,Act.put];go_wp2;exact OneC.mk (VPutN.ext) rfl rfl hE (Ext.refl _)
   ·intro vz wA2 hvl hE hV _
    match vz,hvl with
    | [y0,y1,y2,y3,y4,y5,y6,y7,y8,y9,y10,y11,y12,y13,y14],_ =>
     have o5:wA2.ownsRow wA.heap.size 9 1 y13 (A++[s]++B).length ((A++[s]++B).flatMap encStr1):=hV 13 (by omega) rfl;have e14:y14=.pointer (some ⟨B8,5,none⟩):=hV 14 (by omega) rfl;clear hV ic il hlc hLb hrA HBn HBs hshapeF c3F;subst e14;obtain⟨GN,hGN⟩:∃G,G=A++[s]++B:=⟨_,rfl⟩;rw[←hGN]at o5;have HGN:Hid (GN=N.take k++[s]++N.drop k):=hd0 (by rw[hGN,HAB.out.1,HAB.out.2]);obtain⟨aN,cN,hv13,hcap13,_,_⟩:=view_owns encStr1_len o5;clear hGN HAB HkA HkB hA8 hB8 hcap13;subst hv13;replace S:Sep w wA2 [plRow 9 1 encStr1 (.slice aN GN.length cN) GN,plBox B8 #[.bool f,.int .i64 o,.int .i64 g,.int .i64 m,.string t,.slice an N.length cn,.slice ak K.length ck] 89,plBox B6 #[.bool false,.int .i64 0,.int .i64 0,.int .i64 0,.string ⟨#[]⟩,.slice none 0 0,.slice none 0 0] 89,plBox w.heap.size #[.bool f,.int .i64 o,.int .i64 g,.int .i64 m,.string t,.slice an N.length cn,.slice ak K.length ck] 89]:=(S.owned hE (Nat.le_refl _) o5);clear hE o5;simp only[putAll,Act.put,List.take_succ_cons,List.take_zero,List.drop_succ_cons,List.drop_zero];simp;obtain⟨⟨b8c0,b8f0⟩,⟨b8c1,b8f1⟩,⟨b8c2,b8f2⟩,⟨b8c3,b8f3⟩,⟨b8c4,b8f4⟩,⟨b8c5,b8f5⟩,⟨b8c6,b8f6⟩⟩:=bx7 (S.box 1 rfl);obtain⟨⟨b3c0,b3f0⟩,⟨b3c1,b3f1⟩,⟨b3c2,b3f2⟩,⟨b3c3,b3f3⟩,⟨b3c4,b3f4⟩,⟨b3c5,b3f5⟩,⟨b3c6,b3f6⟩⟩:=bx7 (S.box 3 rfl)
     go_upto_region 6 with fail
     clear b8c0 b8f0 b8c1 b8f1 b8c2 b8f2 b8c3 b8f3 b8c4 b8f4 b8c5 b8f5 b8c6 b8f6 b3c0 b3f0 b3c1 b3f1 b3c2 b3f2 b3c3 b3f3 b3c4 b3f4 b3c5 b3f5 b3c6 b3f6;replace S:Sep w (wA2.setCell ⟨B8,5,none⟩ (.slice aN GN.length cN)) [plRow 9 1 encStr1 (.slice aN GN.length cN) GN,plBox B8 #[.bool f,.int .i64 o,.int .i64 g,.int .i64 m,.string t,.slice aN GN.length cN,.slice ak K.length ck] 89,plBox B6 #[.bool false,.int .i64 0,.int .i64 0,.int .i64 0,.string ⟨#[]⟩,.slice none 0 0,.slice none 0 0] 89,plBox w.heap.size #[.bool f,.int .i64 o,.int .i64 g,.int .i64 m,.string t,.slice an N.length cn,.slice ak K.length ck] 89]:=S.set 1 rfl 5 _;generalize (wA2.setCell ⟨B8,5,none⟩ (.slice aN GN.length cN))=wB at *;obtain⟨A,hA⟩:∃A,A=K.take k:=⟨_,rfl⟩;obtain⟨B,hB⟩:∃B,B=K.drop k:=⟨_,rfl⟩;have hkl:k≤K.length:=HkLK.out;have hLb:K.length≤1048576:=HLK.out;have HkA:Hid (k=A.length):=hd0 (by rw[hA,List.length_take];omega);have HkB:Hid (K.length - k=B.length):=hd0 (by rw[hB,List.length_drop])
     have hA8:A.length≤1048576:=by rw[hA,List.length_take];have:=HLK.out;omega
     have hB8:B.length≤1048576:=by rw[hB,List.length_drop];have:=HLK.out;omega
     have hrL:Rd 1 encInt1 wB ak K:=Hk.out.ext S.ext
     have hrA:Rd 1 encInt1 wB ak A:=by rw[hA];exact hrL.take k
     have HBn:Hid ((ak:Option Addr)=none→Rd 1 encInt1 wB none B):=hd0 (fun h=>by
      rcases Hsk.out with⟨h1,h2,h3⟩|⟨ga,h1⟩
      ·rw[hB,h2,List.drop_nil];exact Rd.nil
      ·rw[h1]at h;cases h)
     have HBs:Hid (∀ga,(ak:Option Addr)=some ⟨ga,0,none⟩→Rd 1 encInt1 wB (some ⟨ga,0+k*1,none⟩) B):=hd0 (fun ga h=>by
      rw[hB];rw[h]at hrL;exact hrL.drop k)
     have hshapeF:=Hsk.out;have HAB:=hd0 (And.intro hA hB);clear hA hB hrL;have c3F:=(bx (S.box 3 rfl) 6 rfl).1;have hlc:K.length≤ck:=HcK.out
     have ic:(k:Int)≤(ck:Int):=by have:=HcK.out;omega
     have il:(k:Int)≤(K.length:Int):=by omega
     refine wp_region_t (V:=VPutK w.heap.size B8 ak K.length ck k y A B wB wB.heap.size) (Ext wB) (fun i=>if i=0 then some 5 else if i=5 then some 8 else if i=7 then some 8 else if i=8 then some 13 else none) [(8,5),(13,8),(13,5)] 15 0 rfl (by decide) (by kernel_rfl) (by kernel_rfl) (by kernel_rfl) (by kernel_rfl) (Ext.refl wB).drew (fun r hr=>absurd hr (Nat.not_lt_zero _)) ?_ ?_
     ·intro i o hi ho vz w4 hvl hE hd hrest;have hsz:wB.heap.size≤w4.heap.size:=hE.size
      match vz,hvl with
      | [y0,y1,y2,y3,y4,y5,y6,y7,y8,y9,y10,y11,y12,y13,y14],_ =>
      rcases lc15 hi with rfl|rfl|rfl|rfl|rfl|rfl|rfl|rfl|rfl|rfl|rfl|rfl|rfl|rfl|rfl
      all_goals
       obtain rfl:=Option.some.inj ho
      ·clear hd hrest;simp[putAll,Act.put];go_wp2;exact OneC.mk (VPutK.ext) rfl ⟨_,rfl,hsz,heap_alloc_new w4 _⟩ (hE.alloc _) ((Ext.refl _).alloc _)
      ·clear hd hrest;simp[putAll,Act.put];go_wp2;exact OneC.mk (VPutK.ext) rfl rfl hE (Ext.refl _)
      ·have q1:y1=.pointer (some ⟨w.heap.size,6,none⟩):=hd ⟨1,.data⟩ (by simp) rfl (by decide);have c3:=cell_ext hE c3F;subst q1;clear hd hrest;simp[putAll,Act.put];go_wp2;exact OneC.mk (VPutK.ext) rfl rfl hE (Ext.refl _)
      ·clear hd hrest;simp[putAll,Act.put];go_wp2;exact OneC.mk (VPutK.ext) rfl rfl hE (Ext.refl _)
      ·have q2:y2=.slice ak K.length ck:=hd ⟨2,.data⟩ (by simp) rfl (by decide);have q3:y3=.int .i64 k:=hd ⟨3,.data⟩ (by simp) rfl (by decide);subst q2 q3;clear hd hrest
       rcases hshapeF with⟨h1,h2,h3⟩|⟨ga,h1⟩
       ·first
        | (cases h1;done)
        | (cases h1; cases h2; cases h3
           obtain rfl:k=0:=by simpa using hkl
           simp[putAll,Act.put];go_wp2
           exact OneC.mk (VPutK.ext) rfl ⟨_,_,rfl,hrA⟩ hE (Ext.refl _))
       ·cases h1
        simp[putAll,Act.put];go_wp2;exact OneC.mk (VPutK.ext) rfl ⟨_,_,rfl,hrA⟩ hE (Ext.refl _)
      ·obtain⟨gq0,q0,hbq0,hgq0⟩:∃g,y0=.slice (some ⟨g,0,none⟩) 0 0∧wB.heap.size≤g∧w4.heap[g]?=some (.cells #[] 3):=hd ⟨0,.data⟩ (by simp) rfl (by decide);obtain⟨aq1,cq1,q1,hrq1⟩:∃a' c',y4=.slice a' k c'∧Rd 1 encInt1 wB a' A:=hd ⟨4,.data⟩ (by simp) rfl (by decide);have hr4:=Rd.ext hrq1 hE;subst q0 q1;clear hd hrest;simp[putAll,Act.put];refine wpList_append_lit rfl _ _ 86 rfl wB.heap.size 3 _ 1 _ Tryz.underlying86 infoInt rfl (by decide) encInt1_len encInt1_one gq0 rfl hgq0 hbq0 aq1 (k) _ (A) rfl (HkA.out) hr4 (by omega) (by omega) hsz ?_;intro v9 w9 ho9 hE9;go_wp2;exact OneC.mk (VPutK.ext) rfl ho9 (hE.trans hE9) hE9
      ·clear hd hrest;simp[putAll,Act.put];go_wp2;exact OneC.mk (VPutK.ext) rfl rfl hE (Ext.refl _)
      ·have q6:y6=.int .i64 y:=hd ⟨6,.data⟩ (by simp) rfl (by decide);subst q6;clear hd hrest;simp[putAll,Act.put];go_wp2;exact OneC.mk (VPutK.ext) rfl ⟨_,rfl,hsz,heap_alloc_new w4 _⟩ (hE.alloc _) ((Ext.refl _).alloc _)
      ·have q0:w4.ownsRow wB.heap.size 3 1 y5 (A).length ((A).flatMap encInt1):=hd ⟨5,.data⟩ (by simp) rfl (by decide);obtain⟨gq1,q1,hbq1,hgq1⟩:∃g,y7=.slice (some ⟨g,0,none⟩) 1 1∧wB.heap.size≤g∧w4.heap[g]?=some (.cells #[.int .i64 y] 3):=hd ⟨7,.data⟩ (by simp) rfl (by decide);have hrd:Rd 1 encInt1 w4 (some ⟨gq1,0,none⟩) [y]:=rd_lit [y] encInt1_len hgq1 rfl;subst q1;clear hd hrest;simp[putAll,Act.put];refine wpList_append_rd rfl _ _ 86 rfl wB.heap.size 3 _ 1 _ Tryz.underlying86 infoInt rfl (by decide) encInt1_len encInt1_one _ (A).length (A) rfl q0 rfl (some ⟨gq1,0,none⟩) 1 1 [y] rfl rfl hrd (by first|omega|(simp;omega)) (by omega) hsz ?_;intro v9 w9 ho9 hg9;have hE9:Ext wB w9:=hE.grown hg9 (fun k h=>(q0.lt k h).1);go_wp2;refine⟨rfl,_,rfl,ho9,hE9,fun j u hj hne hcon hnd hnc hv=>?_⟩
       match j with
       | 0=>exact absurd (by decide) (hnc 5 rfl)
       | 1=>exact hv
       | 2=>exact hv
       | 3=>exact hv
       | 4=>exact hv
       | 5=>exact absurd rfl hcon
       | 6=>exact hv
       | 7=>exact absurd rfl hcon
       | 8=>exact absurd rfl hne
       | 9=>exact hv
       | 10=>exact hv
       | 11=>exact hv
       | 12=>exact hv
       | 13=>exact absurd (by decide) hnd
       | 14=>exact hv
       | (zz+15)=>trivial
      ·clear hd hrest;simp[putAll,Act.put];go_wp2;exact OneC.mk (VPutK.ext) rfl rfl hE (Ext.refl _)
      ·have q9:y9=.pointer (some ⟨w.heap.size,6,none⟩):=hd ⟨9,.data⟩ (by simp) rfl (by decide);have c3:=cell_ext hE c3F;subst q9;clear hd hrest;simp[putAll,Act.put];go_wp2;exact OneC.mk (VPutK.ext) rfl rfl hE (Ext.refl _)
      ·clear hd hrest;simp[putAll,Act.put];go_wp2;exact OneC.mk (VPutK.ext) rfl rfl hE (Ext.refl _)
      ·have q10:y10=.slice ak K.length ck:=hd ⟨10,.data⟩ (by simp) rfl (by decide);have q11:y11=.int .i64 k:=hd ⟨11,.data⟩ (by simp) rfl (by decide);subst q10 q11;clear hd hrest
       rcases hshapeF with⟨h1,h2,h3⟩|⟨ga,h1⟩
       ·first
        | (cases h1;done)
        | (have hBn := HBn.out h1; clear HBn HBs; cases h1; cases h2; cases h3
           obtain rfl:k=0:=by simpa using hkl
           simp[putAll,Act.put];go_wp2
           exact OneC.mk (VPutK.ext) rfl ⟨none,0,by simp,hBn⟩ hE (Ext.refl _))
       ·have hrB:=HBs.out ga h1;clear HBn HBs
        cases h1
        by_cases hcm:ck=k
        ·have hBz:B=[]:=List.eq_nil_of_length_eq_zero (by have:=HkB.out;omega)
         have hrZ:∀a,Rd 1 encInt1 wB a B:=fun a=>by rw[hBz];exact Rd.nil
         have hnz:K.length - k=0:=by omega
         simp[putAll,Act.put];go_wp2;refine OneC.mk (VPutK.ext) rfl ?_ hE (Ext.refl _);exact⟨some ⟨_,0,none⟩,0,by rw[hnz],by first|exact hrZ _|exact Rd.nil⟩
        ·simp[putAll,Act.put];go_wp2;exact OneC.mk (VPutK.ext) rfl ⟨some ⟨_,k,none⟩,ck - k,by first|rfl|(simp;omega),by simpa using hrB⟩ hE (Ext.refl _)
      ·have q0:w4.ownsRow wB.heap.size 3 1 y8 (A++[y]).length ((A++[y]).flatMap encInt1):=hd ⟨8,.data⟩ (by simp) rfl (by decide);obtain⟨aq1,cq1,q1,hrq1⟩:∃a' c',y12=.slice a' (K.length - k) c'∧Rd 1 encInt1 wB a' B:=hd ⟨12,.data⟩ (by simp) rfl (by decide);have hrd:=Rd.ext hrq1 hE;subst q1;clear hd hrest;simp[putAll,Act.put];refine wpList_append_rd rfl _ _ 86 rfl wB.heap.size 3 _ 1 _ Tryz.underlying86 infoInt rfl (by decide) encInt1_len encInt1_one _ (A++[y]).length (A++[y]) rfl q0 rfl aq1 ((K.length - k)) cq1 (B) rfl (HkB.out) hrd (by first|omega|(simp;omega)) (by omega) hsz ?_;intro v9 w9 ho9 hg9;have hE9:Ext wB w9:=hE.grown hg9 (fun k h=>(q0.lt k h).1);go_wp2;refine⟨rfl,_,rfl,ho9,hE9,fun j u hj hne hcon hnd hnc hv=>?_⟩
       match j with
       | 0=>exact absurd (by decide) (hnc 5 rfl)
       | 1=>exact hv
       | 2=>exact hv
       | 3=>exact hv
       | 4=>exact hv
       | 5=>exact absurd (by decide) (hnc 8 rfl)
       | 6=>exact hv
       | 7=>exact absurd (by decide) (hnc 8 rfl)
       | 8=>exact absurd rfl hcon
       | 9=>exact hv
       | 10=>exact hv
       | 11=>exact hv
       | 12=>exact hv
       | 13=>exact absurd rfl hne
       | 14=>exact hv
       | (zz+15)=>trivial
      ·clear hd hrest;simp[putAll,Act.put];go_wp2;exact OneC.mk (VPutK.ext) rfl rfl hE (Ext.refl _)
     ·intro vz wB2 hvl hE hV _
      match vz,hvl with
      | [y0,y1,y2,y3,y4,y5,y6,y7,y8,y9,y10,y11,y12,y13,y14],_ =>
       have o5:wB2.ownsRow wB.heap.size 3 1 y13 (A++[y]++B).length ((A++[y]++B).flatMap encInt1):=hV 13 (by omega) rfl;have e14:y14=.pointer (some ⟨B8,6,none⟩):=hV 14 (by omega) rfl;clear hV ic il hlc hLb hrA HBn HBs hshapeF c3F;subst e14;obtain⟨GK,hGK⟩:∃G,G=A++[y]++B:=⟨_,rfl⟩;rw[←hGK]at o5;have HGK:Hid (GK=K.take k++[y]++K.drop k):=hd0 (by rw[hGK,HAB.out.1,HAB.out.2]);obtain⟨aK,cK,hv13,hcap13,_,_⟩:=view_owns encInt1_len o5;clear hGK HAB HkA HkB hA8 hB8 hcap13;subst hv13;replace S:Sep w wB2 [plRow 3 1 encInt1 (.slice aK GK.length cK) GK,plRow 9 1 encStr1 (.slice aN GN.length cN) GN,plBox B8 #[.bool f,.int .i64 o,.int .i64 g,.int .i64 m,.string t,.slice aN GN.length cN,.slice ak K.length ck] 89,plBox B6 #[.bool false,.int .i64 0,.int .i64 0,.int .i64 0,.string ⟨#[]⟩,.slice none 0 0,.slice none 0 0] 89,plBox w.heap.size #[.bool f,.int .i64 o,.int .i64 g,.int .i64 m,.string t,.slice an N.length cn,.slice ak K.length ck] 89]:=(S.owned hE (Nat.le_refl _) o5);clear hE o5;simp only[putAll,Act.put,List.take_succ_cons,List.take_zero,List.drop_succ_cons,List.drop_zero];simp;obtain⟨⟨b8c0,b8f0⟩,⟨b8c1,b8f1⟩,⟨b8c2,b8f2⟩,⟨b8c3,b8f3⟩,⟨b8c4,b8f4⟩,⟨b8c5,b8f5⟩,⟨b8c6,b8f6⟩⟩:=bx7 (S.box 2 rfl)
       go_upto_region 7 with fail
       clear b8c0 b8f0 b8c1 b8f1 b8c2 b8f2 b8c3 b8f3 b8c4 b8f4 b8c5 b8f5 b8c6 b8f6;replace S:Sep w (wB2.setCell ⟨B8,6,none⟩ (.slice aK GK.length cK)) [plRow 3 1 encInt1 (.slice aK GK.length cK) GK,plRow 9 1 encStr1 (.slice aN GN.length cN) GN,plBox B8 #[.bool f,.int .i64 o,.int .i64 g,.int .i64 m,.string t,.slice aN GN.length cN,.slice aK GK.length cK] 89,plBox B6 #[.bool false,.int .i64 0,.int .i64 0,.int .i64 0,.string ⟨#[]⟩,.slice none 0 0,.slice none 0 0] 89,plBox w.heap.size #[.bool f,.int .i64 o,.int .i64 g,.int .i64 m,.string t,.slice an N.length cn,.slice ak K.length ck] 89]:=S.set 2 rfl 6 _;generalize (wB2.setCell ⟨B8,6,none⟩ (.slice aK GK.length cK))=wC at *;obtain⟨⟨b8c0,b8f0⟩,⟨b8c1,b8f1⟩,⟨b8c2,b8f2⟩,⟨b8c3,b8f3⟩,⟨b8c4,b8f4⟩,⟨b8c5,b8f5⟩,⟨b8c6,b8f6⟩⟩:=bx7 (S.box 2 rfl);obtain⟨⟨b6c0,b6f0⟩,⟨b6c1,b6f1⟩,⟨b6c2,b6f2⟩,⟨b6c3,b6f3⟩,⟨b6c4,b6f4⟩,⟨b6c5,b6f5⟩,⟨b6c6,b6f6⟩⟩:=bx7 (S.box 3 rfl);clear hkl i0;go_wp2;clear b8c0 b8f0 b8c1 b8f1 b8c2 b8f2 b8c3 b8f3 b8c4 b8f4 b8c5 b8f5 b8c6 b8f6 b6c0 b6f0 b6c1 b6f1 b6c2 b6f2 b6c3 b6f3 b6c4 b6f4 b6c5 b6f5 b6c6 b6f6;replace S:Sep w (((((((wC.setCell ⟨B6,0,none⟩ (.bool f)).setCell ⟨B6,1,none⟩ (.int .i64 o)).setCell ⟨B6,2,none⟩ (.int .i64 g)).setCell ⟨B6,3,none⟩ (.int .i64 m)).setCell ⟨B6,4,none⟩ (.string t)).setCell ⟨B6,5,none⟩ (.slice aN GN.length cN)).setCell ⟨B6,6,none⟩ (.slice aK GK.length cK)) [plRow 3 1 encInt1 (.slice aK GK.length cK) GK,plRow 9 1 encStr1 (.slice aN GN.length cN) GN,plBox B8 #[.bool f,.int .i64 o,.int .i64 g,.int .i64 m,.string t,.slice aN GN.length cN,.slice aK GK.length cK] 89,plBox B6 #[.bool f,.int .i64 o,.int .i64 g,.int .i64 m,.string t,.slice aN GN.length cN,.slice aK GK.length cK] 89,plBox w.heap.size #[.bool f,.int .i64 o,.int .i64 g,.int .i64 m,.string t,.slice an N.length cn,.slice ak K.length ck] 89]:=((((((S.set 3 rfl 0 _).set 3 rfl 1 _).set 3 rfl 2 _).set 3 rfl 3 _).set 3 rfl 4 _).set 3 rfl 5 _).set 3 rfl 6 _;generalize (((((((wC.setCell ⟨B6,0,none⟩ (.bool f)).setCell ⟨B6,1,none⟩ (.int .i64 o)).setCell ⟨B6,2,none⟩ (.int .i64 g)).setCell ⟨B6,3,none⟩ (.int .i64 m)).setCell ⟨B6,4,none⟩ (.string t)).setCell ⟨B6,5,none⟩ (.slice aN GN.length cN)).setCell ⟨B6,6,none⟩ (.slice aK GK.length cK))=wD at *;have HF:Hid (putNd ⟨f,o,g,m,t,N,K⟩ s y=⟨f,o,g,m,t,GN,GK⟩):=hd0 (by rw[HPut.out,HN.out,HGN.out,HGK.out]);obtain⟨⟨b6c0,b6f0⟩,⟨b6c1,b6f1⟩,⟨b6c2,b6f2⟩,⟨b6c3,b6f3⟩,⟨b6c4,b6f4⟩,⟨b6c5,b6f5⟩,⟨b6c6,b6f6⟩⟩:=bx7 (S.box 3 rfl);refine bodyPost_ret (v:=ndV ⟨f,o,g,m,t,GN,GK⟩ aN cN aK cK) (by simp[results,Tryz.results69,go_sem,b6c0,b6c1,b6c2,b6c3,b6c4,b6c5,b6c6]) rfl ?_;rw[HF.out];replace S:Sep w wD [plRow 3 1 encInt1 (.slice aK GK.length cK) GK,plRow 9 1 encStr1 (.slice aN GN.length cN) GN]:=((S.drop 2).drop 2).drop 2;exact⟨aN,cN,aK,cK,rfl,S⟩
section
variable {β α:Type} {e nf:Nat} {enc:β→List Value} {P:Pin β α} {M:Nat→Prop} {w0 w w':World} {H:List Pl}
theorem SepM.gPush (S:SepM M w0 w H) (i j:Nat) {u u':Value} {vs:List β} {T:List α} {s:β} {t:α} {base:Nat} (hi:H[i]?=some (plG e nf enc P u vs T)) (hj:H[j]?=some (P.one s t)) (hij:i≠j)
  (hg:w.grownBy w' u.ownBlock) (ho:w'.ownsRow base e nf u' (vs++[s]).length ((vs++[s]).flatMap enc)) (hblk:∀b,u'.ownBlock=some b→u.ownBlock=some b∨w.heap.size≤b) :
  SepM M w0 w' ((H.set i (plG e nf enc P u' (vs++[s]) (T++[t]))).eraseIdx j):=by
 obtain⟨h1,h2,h3,h4,h5⟩:=S.at_ i hi;have hjm:=List.mem_of_getElem? hj
 have hnew:∀b,P.own s b→¬(plG e nf enc P u vs T).own b:=fun b hb=>S.ne hj hi (fun e=>hij e.symm) hb
 have hlt:∀b,P.own s b→b < w.heap.size:=fun b hb=>(S.lt hjm (show(P.one s t).own b from hb)).2
 have hltv:∀s'∈vs,∀b,P.own s' b→b < w.heap.size:=fun s' hs' b hb=>(S.lt (List.mem_of_getElem? hi) (show(plG e nf enc P u vs T).own b from .inr ⟨s',hs',hb⟩)).2
 refine S.fuse i j hi hj hij ((Chg.of_grown hg).mono (fun b hb _=>.inl hb)) (fun hr=>⟨ownsRow_base ho (Nat.zero_le _),by simp[h2],fun k s2 t2 hs2 ht2=>?_,fun s2 hs2 b hb hb2=>?_,fun k l s2 s3 hkl hs2 hs3 b hb hb3=>?_⟩) (fun b hb=>?_)
 ·by_cases hk:k < vs.length
  ·rw[List.getElem?_append_left hk]at hs2;rw[List.getElem?_append_left (by omega)]at ht2;have h6:=h3 k s2 t2 hs2 ht2;exact P.frame s2 t2 w w' h6 (fun b hb=>(Chg.of_grown hg).block b (hltv s2 (List.mem_of_getElem? hs2) b hb) (fun e=>h4 s2 (List.mem_of_getElem? hs2) b hb e))
  ·have hkl:=(List.getElem?_eq_some_iff.1 hs2).1;simp only[List.length_append,List.length_singleton]at hkl
   have e:k=vs.length:=by omega
   subst e;rw[List.getElem?_append_right (Nat.le_refl _),Nat.sub_self]at hs2;rw[h2,List.getElem?_append_right (Nat.le_refl _),Nat.sub_self]at ht2;simp only[List.getElem?_cons_zero,Option.some.injEq]at hs2 ht2;subst hs2 ht2;exact hr
 ·rcases List.mem_append.1 hs2 with hs2|hs2
  ·rcases hblk b hb2 with h|h
   ·exact h4 s2 hs2 b hb h
   ·have:=hltv s2 hs2 b hb;omega
  ·rw[List.mem_singleton.1 hs2]at hb
   rcases hblk b hb2 with h|h
   ·exact hnew b hb (.inl h)
   ·have:=hlt b hb;omega
 ·have hk2:=(List.getElem?_eq_some_iff.1 hs2).1;have hl2:=(List.getElem?_eq_some_iff.1 hs3).1;simp only[List.length_append,List.length_singleton]at hk2 hl2
  by_cases hk:k < vs.length
  ·rw[List.getElem?_append_left hk]at hs2
   by_cases hl:l < vs.length
   ·rw[List.getElem?_append_left hl]at hs3;exact h5 k l s2 s3 hkl hs2 hs3 b hb hb3
   ·rw[List.getElem?_append_right (by omega),show l - vs.length=0 by omega]at hs3;simp only[List.getElem?_cons_zero,Option.some.injEq]at hs3;subst hs3;exact hnew b hb3 (.inr ⟨s2,List.mem_of_getElem? hs2,hb⟩)
  ·rw[List.getElem?_append_right (by omega),show k - vs.length=0 by omega]at hs2;simp only[List.getElem?_cons_zero,Option.some.injEq]at hs2;subst hs2;rw[List.getElem?_append_left (by omega)]at hs3;exact hnew b hb (.inr ⟨s3,List.mem_of_getElem? hs3,hb3⟩)
 ·rcases hb with hb|⟨s2,hs2,hb⟩
  ·rcases hblk b hb with h|h
   ·exact .inl (.inl h)
   ·exact .inr (.inr h)
  ·rcases List.mem_append.1 hs2 with hs2|hs2
   ·exact .inl (.inr ⟨s2,hs2,hb⟩)
   ·rw[List.mem_singleton.1 hs2]at hb;exact .inr (.inl hb)
theorem SepM.gPure (S:SepM M w0 w H) (i:Nat) {u:Value} {vs:List β} {T:List α} (h:H[i]?=some (plRow e nf enc u vs)) (hl:vs.length=T.length) (hok:∀(k:Nat) (s:β) (t:α),vs[k]?=some s→T[k]?=some t→P.ok s t w) (hno:∀s∈vs,∀b,¬P.own s b) :
  SepM M w0 w (H.set i (plG e nf enc P u vs T)) :=
 S.put i h (Chg.refl _ w) ⟨S.at_ i h,hl,hok,fun s hs b hb=>absurd hb (hno s hs b),fun k l s s' _ hs _ b hb=>absurd hb (hno s (List.mem_of_getElem? hs) b)⟩ (fun b hb=>by
  rcases hb with hb|⟨s,hs,hb⟩
  ·exact .inl hb
  ·exact absurd hb (hno s hs b))
end
def rootNd (mode:Int):Nd:=⟨true,0,0,mode,⟨#[]⟩,[],[]⟩
theorem root_pin (n:Nd) (hN:n.N=[]) (hK:n.K=[]) (w:World):pinNd.ok ⟨n,none,0,none,0⟩ n w:=by
 obtain⟨f,o,g,m,t,N,K⟩:=n;subst hN hK;exact⟨rfl,World.ownsRow_nil _ _ _ _,World.ownsRow_nil _ _ _ _,fun b hb=>by cases hb⟩
theorem root_own (n:Nd) (b:Nat):¬pinNd.own ⟨n,none,0,none,0⟩ b:=fun h=>h.elim (fun h=>by cases h) (fun h=>by cases h)
theorem specNewTree (mode:Int) (w:World) (hm:inB mode 0 1023=true):Calls Tryz.prog 133 #[.int .i64 mode] w fun e w'=>∃u vs,e=.returned u∧Sep w w' [plNd u vs [rootNd mode]]:=by
 have S0:=(Sep.start w).lit (n:=w.heap.size) rfl 89 7 encNc_len [(⟨rootNd mode,none,0,none,0⟩:Nc)] (C:=#[.bool true,.int .i64 0,.int .i64 0,.int .i64 mode,.string ⟨#[]⟩,.slice none 0 0,.slice none 0 0]) (m:=1) rfl rfl (by omega)
 have S1:=S0.gPure (P:=pinNd) (T:=[rootNd mode]) 0 rfl rfl (fun k s t hs ht=>by
  have hk:=(List.getElem?_eq_some_iff.1 hs).1
  obtain rfl:k=0:=by simpa using hk
  simp only[List.getElem?_cons_zero,Option.some.injEq]at hs ht;subst hs ht
  exact root_pin _ rfl rfl _) (fun s hs b=>by
  rw[List.mem_singleton.1 hs]
  exact root_own _ b)
 have HS:=hd0 S1;clear S0 S1
 go_enter Tryz.func133,Tryz.ntmps133
 go_wp2_with (go_at_call 68;refine(l1In_is hm _).mono ?_;rintro e w' ⟨rfl,rfl⟩)
 go_ret;exact⟨_,_,rfl,HS.out⟩
def RetTree (T:List Nd) (w:World) (e:Ending) (w':World):Prop:=∃u vs,e=.returned u∧Sep w w' [plNd u vs T]
theorem specCopy (a:Option Addr) (cap:Nat) (T:List Nd) (w:World) (hl:T.length≤1048576) (hT:∀x∈T,SmN 1048576 x) (hc:RdN w a T) :
  Calls Tryz.prog 29 #[.slice a T.length cap] w (RetTree T w):=by
 have HT:=hd0 hT;clear hT
 go_enter Tryz.func29,Tryz.ntmps29
 have S:=Sep.start w;replace S:Sep w (w.alloc (.cells #[] 89)) [plRow 89 7 encNc (.slice (some ⟨w.heap.size,0,none⟩) 0 0) []]:=S.lit0 (by simp) _ _ _;have S0:=S.gPure (P:=pinNd) (T:=([]:List Nd)) 0 rfl rfl (fun k s t hs=>by simp at hs) (fun s hs=>by simp at hs)
 go_upto_region 2 with fail
 have S1:Sep w (w.alloc (.cells #[] 89)) [plNd (.slice (some ⟨w.heap.size,0,none⟩) 0 0) [] []]:=S0;clear S0 S;generalize (w.alloc (.cells #[] 89))=w1 at *;go_wp2
 go_loopw [3,4,5] (fun o i _ wr=>∃(k:Nat) (u:Value) (vs:List Nc),k≤T.length∧i=.int .i64 k∧u=o∧Sep w wr [plNd u vs (T.take k)]) (fun _ i _ _=>T.length - (intOf i).toNat)
 case atStart=>exact⟨0,_,[],Nat.zero_le _,rfl,rfl,S1⟩
 case round =>
  clear S1;obtain⟨k,u,vs,hk,rfl,rfl,S⟩:=hrel
  by_cases hlt:k < T.length
  rotate_left
  ·obtain rfl:k=T.length:=by omega
   have hni:¬(T.length:Int) < (T.length:Int):=by omega
   rw[List.take_length]at S;go_wp2;go_ret;exact⟨_,vs,rfl,S⟩
  ·obtain⟨x,b',off,an,cn,ak,ck,hx,rfl,c0,c1,c2,c3,c4,c5,c6,hcn,hck,hrn,hrk⟩:=atNd hc hlt;have Hx:=hd0 hx;have hsx:=HT.out x (List.mem_of_getElem? hx);have hNl:x.N.length≤1048576:=hsx.2.1;have hKl:x.K.length≤1048576:=hsx.2.2.2
   have i0:(k:Int) < (T.length:Int):=by omega
   have hE:=S.ext;have d0:=cell_ext hE c0;have d1:=cell_ext hE c1;have d2:=cell_ext hE c2;have d3:=cell_ext hE c3;have d4:=cell_ext hE c4;have d5:=cell_ext hE c5;have d6:=cell_ext hE c6;have Hrn:=hd0 hrn;have Hrk:=hd0 hrk;clear hx hsx c0 c1 c2 c3 c4 c5 c6 hcn hck hrn hrk hE;replace S:=S.alloc_at (n:=wr.heap.size) (by simp) #[.bool x.fold,.int .i64 x.own,.int .i64 x.grp,.int .i64 x.mode,.string x.text,.slice an x.N.length cn,.slice ak x.K.length ck] 89
   go_upto_region 6 with fail
   clear d0 d1 d2 d3 d4 d5 d6;generalize (wr.alloc (.cells #[.bool x.fold,.int .i64 x.own,.int .i64 x.grp,.int .i64 x.mode,.string x.text,.slice an x.N.length cn,.slice ak x.K.length ck] 89))=wA at *;generalize wr.heap.size=B at *;obtain⟨⟨nbc0,nbf0⟩,⟨nbc1,nbf1⟩,⟨nbc2,nbf2⟩,⟨nbc3,nbf3⟩,⟨nbc4,nbf4⟩,⟨nbc5,nbf5⟩,⟨nbc6,nbf6⟩⟩:=bx7 (S.box 0 rfl);have E5:=(Ext.refl wA).alloc (.cells #[] 9);have rdA:Rd 1 encStr1 (wA.alloc (.cells #[] 9)) an x.N:=(Hrn.out.ext S.ext).ext E5;have ec5:=cell_ext E5 nbc5
   go_wp2_with (at_builtin;refine wpList_append_lit rfl _ _ 39 rfl wA.heap.size 9 _ 1 _ Tryz.underlying39 infoStr1 rfl (by decide) encStr1_len encStr1_one wA.heap.size rfl (heap_alloc_new _ _) (Nat.le_refl _) an _ _ x.N rfl rfl rdA (by omega) (by omega) E5.size ?_)
   intro v5 w5 ho5 hE5;obtain⟨a5,k5,hv5,hcap5,_,_⟩:=view_owns encStr1_len ho5;subst hv5;clear nbc0 nbf0 nbc1 nbf1 nbc2 nbf2 nbc3 nbf3 nbc4 nbf4 nbc5 nbf5 nbc6 nbf6;replace S:Sep w w5 [plRow 9 1 encStr1 (.slice a5 x.N.length k5) x.N,plBox B #[.bool x.fold,.int .i64 x.own,.int .i64 x.grp,.int .i64 x.mode,.string x.text,.slice an x.N.length cn,.slice ak x.K.length ck] 89,plNd u vs (T.take k)]:=(S.owned (E5.trans hE5) (Nat.le_refl _) ho5);clear ho5 hE5 E5 rdA hcap5 ec5;obtain⟨⟨nbc0,nbf0⟩,⟨nbc1,nbf1⟩,⟨nbc2,nbf2⟩,⟨nbc3,nbf3⟩,⟨nbc4,nbf4⟩,⟨nbc5,nbf5⟩,⟨nbc6,nbf6⟩⟩:=bx7 (S.box 1 rfl)
   go_upto_region 7 with fail
   clear nbc0 nbf0 nbc1 nbf1 nbc2 nbf2 nbc3 nbf3 nbc4 nbf4 nbc5 nbf5 nbc6 nbf6;replace S:Sep w (w5.setCell ⟨B,5,none⟩ (.slice a5 x.N.length k5)) [plRow 9 1 encStr1 (.slice a5 x.N.length k5) x.N,plBox B #[.bool x.fold,.int .i64 x.own,.int .i64 x.grp,.int .i64 x.mode,.string x.text,.slice a5 x.N.length k5,.slice ak x.K.length ck] 89,plNd u vs (T.take k)]:=S.set 1 rfl 5 _;generalize (w5.setCell ⟨B,5,none⟩ (.slice a5 x.N.length k5))=wB at *;obtain⟨⟨nbc0,nbf0⟩,⟨nbc1,nbf1⟩,⟨nbc2,nbf2⟩,⟨nbc3,nbf3⟩,⟨nbc4,nbf4⟩,⟨nbc5,nbf5⟩,⟨nbc6,nbf6⟩⟩:=bx7 (S.box 1 rfl);have E6:=(Ext.refl wB).alloc (.cells #[] 3);have rdB:Rd 1 encInt1 (wB.alloc (.cells #[] 3)) ak x.K:=(Hrk.out.ext S.ext).ext E6;have ec6:=cell_ext E6 nbc6
   go_wp2_with (at_builtin;refine wpList_append_lit rfl _ _ 86 rfl wB.heap.size 3 _ 1 _ Tryz.underlying86 infoInt rfl (by decide) encInt1_len encInt1_one wB.heap.size rfl (heap_alloc_new _ _) (Nat.le_refl _) ak _ _ x.K rfl rfl rdB (by omega) (by omega) E6.size ?_)
   intro v6 w6 ho6 hE6;obtain⟨a6,k6,hv6,hcap6,_,_⟩:=view_owns encInt1_len ho6;subst hv6;clear nbc0 nbf0 nbc1 nbf1 nbc2 nbf2 nbc3 nbf3 nbc4 nbf4 nbc5 nbf5 nbc6 nbf6;replace S:Sep w w6 [plRow 3 1 encInt1 (.slice a6 x.K.length k6) x.K,plRow 9 1 encStr1 (.slice a5 x.N.length k5) x.N,plBox B #[.bool x.fold,.int .i64 x.own,.int .i64 x.grp,.int .i64 x.mode,.string x.text,.slice a5 x.N.length k5,.slice ak x.K.length ck] 89,plNd u vs (T.take k)]:=(S.owned (E6.trans hE6) (Nat.le_refl _) ho6);clear ho6 hE6 E6 rdB hcap6 ec6;obtain⟨⟨nbc0,nbf0⟩,⟨nbc1,nbf1⟩,⟨nbc2,nbf2⟩,⟨nbc3,nbf3⟩,⟨nbc4,nbf4⟩,⟨nbc5,nbf5⟩,⟨nbc6,nbf6⟩⟩:=bx7 (S.box 2 rfl)
   go_upto_region 8 with fail
   clear nbc0 nbf0 nbc1 nbf1 nbc2 nbf2 nbc3 nbf3 nbc4 nbf4 nbc5 nbf5 nbc6 nbf6;replace S:Sep w (w6.setCell ⟨B,6,none⟩ (.slice a6 x.K.length k6)) [plRow 3 1 encInt1 (.slice a6 x.K.length k6) x.K,plRow 9 1 encStr1 (.slice a5 x.N.length k5) x.N,plBox B #[.bool x.fold,.int .i64 x.own,.int .i64 x.grp,.int .i64 x.mode,.string x.text,.slice a5 x.N.length k5,.slice a6 x.K.length k6] 89,plNd u vs (T.take k)]:=S.set 2 rfl 6 _;generalize (w6.setCell ⟨B,6,none⟩ (.slice a6 x.K.length k6))=wC at *;have S7:=S.ofRows 1 0 (⟨x,a5,k5,a6,k6⟩:Nc) rfl rfl (by decide);clear S;have S:Sep w wC [pinNd.one (⟨x,a5,k5,a6,k6⟩:Nc) x,plBox B #[.bool x.fold,.int .i64 x.own,.int .i64 x.grp,.int .i64 x.mode,.string x.text,.slice a5 x.N.length k5,.slice a6 x.K.length k6] 89,plNd u vs (T.take k)]:=S7;clear S7
   have hvl:vs.length=k:=by
    have:=plG_len (S.at_ 2 rfl);rw[List.length_take]at this;omega
   have hvs:vs.length≤1048576:=by omega
   have HS:=hd0 S;obtain⟨⟨nbc0,nbf0⟩,⟨nbc1,nbf1⟩,⟨nbc2,nbf2⟩,⟨nbc3,nbf3⟩,⟨nbc4,nbf4⟩,⟨nbc5,nbf5⟩,⟨nbc6,nbf6⟩⟩:=bx7 (S.box 1 rfl);have SA:=S.alloc #[.bool x.fold,.int .i64 x.own,.int .i64 x.grp,.int .i64 x.mode,.string x.text,.slice a5 x.N.length k5,.slice a6 x.K.length k6] 89;have rd1:Rd 7 encNc (wC.alloc (.cells #[.bool x.fold,.int .i64 x.own,.int .i64 x.grp,.int .i64 x.mode,.string x.text,.slice a5 x.N.length k5,.slice a6 x.K.length k6] 89)) (some ⟨wC.heap.size,0,none⟩) [(⟨x,a5,k5,a6,k6⟩:Nc)]:=rd_lit_new [(⟨x,a5,k5,a6,k6⟩:Nc)] encNc_len rfl;clear hvl;obtain⟨ua,uc,hu,hucap,_,_⟩:=view_owns encNc_len (SA.gRow (2+1) rfl);have HSA:=hd0 SA;subst hu
   go_wp2_with (at_builtin;refine Hid.out (?_:Hid _))
   unfold Hid;refine wpList_append_b rfl _ _ 28 rfl w.heap.size 89 _ 7 _ Tryz.underlying28 infoNd rfl (by decide) encNc_len encNc_one _ vs.length vs rfl (HSA.out.gRow (2+1) rfl) rfl (some ⟨wC.heap.size,0,none⟩) 1 1 [(⟨x,a5,k5,a6,k6⟩:Nc)] rfl rfl rd1 (by omega) (by omega) HSA.out.chg.size ?_;intro v7 w7 ho hgr hblk
   have SM:=(HSA.out.gPush (2+1) (0+1) rfl rfl (by decide) hgr ho hblk).keep [plNd v7 (vs++[(⟨x,a5,k5,a6,k6⟩:Nc)]) (T.take k++[x])] (by
    refine List.Sublist.cons _ (List.Sublist.cons _ ?_)
    exact List.Sublist.refl _)
   have HN:Hid (T.take k++[x]=T.take (k+1)):=hd0 (by rw[List.take_add_one,Hx.out];rfl);rw[HN.out]at SM;clear ho hgr hblk SA rd1 S HSA HS nbc0 nbc1 nbc2 nbc3 nbc4 nbc5 nbc6 nbf0 nbf1 nbf2 nbf3 nbf4 nbf5 nbf6;go_wp2;go_roundw
   case rel=>exact⟨k+1,v7,_,by omega,by go_num,rfl,SM⟩
   case measure=>simp[intOf];omega
end Go.Proofs.YtnibbldfohbfkaaGreatDoor
