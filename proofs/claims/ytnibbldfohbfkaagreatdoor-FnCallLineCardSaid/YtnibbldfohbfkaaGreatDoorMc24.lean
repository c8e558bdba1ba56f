/- FnCallLine returns true and leaves its argument alone, for every argument that can be read; what its row lists is tied to the text. No condition. -/
import Derived.Test.YtnibbldfohbfkaaGreatDoorMc23
set_option linter.all false
set_option maxRecDepth 100000
set_option maxHeartbeats 32000000
namespace Go.Proofs.YtnibbldfohbfkaaGreatDoor
open Go.RowKit
def TxQ (M:Nat) (v:Value) (_:World):Prop:=∃s:ByteArray,v=.string s∧s.size≤M
def nmOdd:List ByteArray:=[⟨#[]⟩,⟨#[49,97]⟩,⟨#[65]⟩,⟨#[97,95,98]⟩,⟨#[97,98,99,100,101,102,103,104,105]⟩,⟨#[97,47,98]⟩]
theorem nmOdd_len:nmOdd.length=6:=rfl
theorem nmOdd_fit:∀t∈nmOdd,t.size≤9:=by decide
def nmGood:List ByteArray:=[⟨#[97]⟩,⟨#[98]⟩,⟨#[99,49]⟩,⟨#[116,109,112]⟩]
theorem nmGood_len:nmGood.length=4:=rfl
theorem nmGood_fit:∀t∈nmGood,t.size≤9:=by decide
def ptOdd:List ByteArray:=[⟨#[]⟩,⟨#[97]⟩,⟨#[47,47]⟩,⟨#[47,97,47]⟩,⟨#[47,65]⟩,⟨#[47,97,47,97,47,97,47,97,47,97,47,97,47,97]⟩,⟨#[47,97,47,47,98]⟩]
theorem ptOdd_len:ptOdd.length=7:=rfl
theorem ptOdd_fit:∀t∈ptOdd,t.size≤54:=by decide
def nwLast:List ByteArray:=[⟨#[97]⟩,⟨#[98]⟩,⟨#[110,101,119]⟩,⟨#[122]⟩]
theorem nwLast_len:nwLast.length=4:=rfl
theorem nwLast_fit:∀t∈nwLast,t.size≤9:=by decide
def wrTx:List ByteArray:=[⟨#[97,98,99]⟩,⟨#[120]⟩,⟨#[]⟩]
theorem wrTx_len:wrTx.length=3:=rfl
theorem wrTx_fit:∀t∈wrTx,t.size≤9:=by decide
def mdTx:List ByteArray:=[⟨#[114,119,120,114,119,120,114,119,120]⟩,⟨#[114,119,45,114,45,45,114,45,45]⟩,⟨#[45,45,45,45,45,45,45,45,45]⟩,⟨#[114,119,120]⟩]
theorem mdTx_len:mdTx.length=4:=rfl
theorem mdTx_fit:∀t∈mdTx,t.size≤9:=by decide
def clOdd:List ByteArray:=[⟨#[]⟩,⟨#[114,101,97,100]⟩,⟨#[108,105,115,116]⟩,⟨#[100,97,110,99,101,32,47,97]⟩,⟨#[102,111,108,100,101,114]⟩,⟨#[119,114,105,116,101,32,47,97]⟩,⟨#[114,101,97,100,32,47,97,32,47,98]⟩,⟨#[100,114,111,112,32,32,47,97]⟩]
theorem clOdd_len:clOdd.length=8:=rfl
theorem clOdd_fit:∀t∈clOdd,t.size≤200:=by decide
theorem nwLast_way:∀t∈nwLast,∃h:0 < t.size,t[0].toNat≠47:=by decide
theorem drawName (g:Nat) (P n:Int) (w:World) (hs:Src g P w) (hP:P≤900000) (hn:n≤1000000) :
  Calls Tryz.prog 180 #[.pointer (some ⟨g,0,none⟩),.int .i64 n] w (RetD g P 2 (TxQ 9) w):=by
 go_enter Tryz.func180,Tryz.ntmps180
 go_wp2_with fail
 refine(odd_any g P n w hs (by omega) hn).mono ?_;rintro e w1 ⟨v,rfl,⟨b,rfl,_⟩,hs1,hS⟩;clear hs
 cases b with
 | true =>
  have S:=SepM.begin (fun b=>b=g) w1 (fun b h=>h ▸ hs1.lt);replace S:SepM (fun b=>b=g) w1 (w1.alloc (.cells #[.string ⟨#[]⟩,.string ⟨#[49,97]⟩,.string ⟨#[65]⟩,.string ⟨#[97,95,98]⟩,.string ⟨#[97,98,99,100,101,102,103,104,105]⟩,.string ⟨#[97,47,98]⟩] 9)) [plRow 9 1 encStr1 (.slice (some ⟨w1.heap.size,0,none⟩) 6 6) nmOdd]:=S.lit (by simp) _ _ encStr1_len nmOdd rfl rfl (by omega);have hsa:Src g (P+1) (w1.alloc (.cells #[.string ⟨#[]⟩,.string ⟨#[49,97]⟩,.string ⟨#[65]⟩,.string ⟨#[97,95,98]⟩,.string ⟨#[97,98,99,100,101,102,103,104,105]⟩,.string ⟨#[97,47,98]⟩] 9)):=hs1.ext ((Ext.refl _).alloc _);have sta:Step g w (w1.alloc (.cells #[.string ⟨#[]⟩,.string ⟨#[49,97]⟩,.string ⟨#[65]⟩,.string ⟨#[97,95,98]⟩,.string ⟨#[97,98,99,100,101,102,103,104,105]⟩,.string ⟨#[97,47,98]⟩] 9)):=hS.alloc _
  go_wp2_with fail
  generalize (w1.alloc (.cells #[.string ⟨#[]⟩,.string ⟨#[49,97]⟩,.string ⟨#[65]⟩,.string ⟨#[97,95,98]⟩,.string ⟨#[97,98,99,100,101,102,103,104,105]⟩,.string ⟨#[97,47,98]⟩] 9))=wa at *;refine(pick_any g (P+1) 6 _ hsa (by omega)).mono ?_;rintro e wq ⟨v,rfl,⟨i,rfl,x0,x1,_⟩,hs3,hS3⟩;replace S:=S.other (Chg.of_step hS3);replace x1:=x1 (by omega);obtain⟨k,rfl⟩:∃k:Nat,i=k:=⟨i.toNat,by omega⟩;obtain⟨tx,htx,hcell⟩:=lit_at (S.rd 0 encStr1_len rfl nmOdd_len.symm) (k:=k) (by rw[nmOdd_len];omega)
  have c0:wq.cell? ⟨w1.heap.size,k,none⟩=some (.string tx):=by have:=hcell 0 _ rfl;simpa using this
  have htm:=nmOdd_fit tx htx;have st3:=sta.trans hS3;clear hcell hS3 hsa sta S;go_wp2;go_ret;exact RetD.mk ⟨tx,rfl,htm⟩ hs3 (by omega) st3
 | false =>
  have S:=SepM.begin (fun b=>b=g) w1 (fun b h=>h ▸ hs1.lt);replace S:SepM (fun b=>b=g) w1 (w1.alloc (.cells #[.string ⟨#[97]⟩,.string ⟨#[98]⟩,.string ⟨#[99,49]⟩,.string ⟨#[116,109,112]⟩] 9)) [plRow 9 1 encStr1 (.slice (some ⟨w1.heap.size,0,none⟩) 4 4) nmGood]:=S.lit (by simp) _ _ encStr1_len nmGood rfl rfl (by omega);have hsa:Src g (P+1) (w1.alloc (.cells #[.string ⟨#[97]⟩,.string ⟨#[98]⟩,.string ⟨#[99,49]⟩,.string ⟨#[116,109,112]⟩] 9)):=hs1.ext ((Ext.refl _).alloc _);have sta:Step g w (w1.alloc (.cells #[.string ⟨#[97]⟩,.string ⟨#[98]⟩,.string ⟨#[99,49]⟩,.string ⟨#[116,109,112]⟩] 9)):=hS.alloc _
  go_wp2_with fail
  generalize (w1.alloc (.cells #[.string ⟨#[97]⟩,.string ⟨#[98]⟩,.string ⟨#[99,49]⟩,.string ⟨#[116,109,112]⟩] 9))=wa at *;refine(pick_any g (P+1) 4 _ hsa (by omega)).mono ?_;rintro e wq ⟨v,rfl,⟨i,rfl,x0,x1,_⟩,hs3,hS3⟩;replace S:=S.other (Chg.of_step hS3);replace x1:=x1 (by omega);obtain⟨k,rfl⟩:∃k:Nat,i=k:=⟨i.toNat,by omega⟩;obtain⟨tx,htx,hcell⟩:=lit_at (S.rd 0 encStr1_len rfl nmGood_len.symm) (k:=k) (by rw[nmGood_len];omega)
  have c0:wq.cell? ⟨w1.heap.size,k,none⟩=some (.string tx):=by have:=hcell 0 _ rfl;simpa using this
  have htm:=nmGood_fit tx htx;have st3:=sta.trans hS3;clear hcell hS3 hsa sta S;go_wp2;go_ret;exact RetD.mk ⟨tx,rfl,htm⟩ hs3 (by omega) st3
def RetDN (g:Nat) (P:Int) (w:World) (e:Ending) (w':World):Prop:=∃u L,e=.returned u∧L.length≤5∧(∀s∈L,s.size≤9)∧Src g (P+12) w'∧SepM (fun b=>b=g) w w' [plRow 9 1 encStr1 u L]
theorem drawNames (g:Nat) (P n:Int) (w:World) (hs:Src g P w) (hP:P≤800000) (hn:n≤1000000) :
  Calls Tryz.prog 159 #[.pointer (some ⟨g,0,none⟩),.int .i64 n] w (RetDN g P w):=by
 have hg:=hs.lt
 go_enter Tryz.func159,Tryz.ntmps159
 have S:=SepM.begin (fun b=>b=g) w (fun b h=>h ▸ hg);replace S:SepM (fun b=>b=g) w (w.alloc (.cells #[] 9)) [plRow 9 1 encStr1 (.slice (some ⟨w.heap.size,0,none⟩) 0 0) []]:=S.lit0 (by simp) _ _ _;have hs1:Src g P (w.alloc (.cells #[] 9)):=hs.ext ((Ext.refl _).alloc _)
 go_wp2_with fail
 generalize (w.alloc (.cells #[] 9))=w1 at *;refine(pick_any g P 4 _ hs1 (by omega)).mono ?_;rintro e w2 ⟨v,rfl,⟨i,rfl,x0,x1,_⟩,hs2,hS⟩;replace S:=S.other (Chg.of_step hS);replace x1:=x1 (by omega);obtain⟨k0,rfl⟩:∃k:Nat,i=k:=⟨i.toNat,by omega⟩
 have hk3:k0≤3:=by omega
 have S1:=hd0 S;clear x0 x1 hS hs1 hs S;go_wp2
 go_loopw [5,6] (fun o i wr=>∃(k:Nat) (a:Option Addr) (c:Nat) (L:List ByteArray),k≤3∧i=.int .i64 k∧o=.slice a L.length c∧L.length+k≤3∧(∀s∈L,s.size≤9)∧Src g (P+1+2*(3 - (k:Int))) wr∧SepM (fun b=>b=g) w wr [plRow 9 1 encStr1 (.slice a L.length c) L]) (fun _ i _=>(intOf i).toNat)
 case atStart=>exact⟨k0,_,_,[],by omega,rfl,rfl,by simp;omega,(fun s hs=>by cases hs),hs2.mono (by omega),S1.out⟩
 case round =>
  clear S1 hs2 hk3;obtain⟨k,a,c,L,hk,rfl,rfl,hlen,hL,hs3,S⟩:=hrel;have HL:=hd0 hL;clear hL
  by_cases hk0:k=0
  ·subst hk0
   go_wp2_with fail
   refine(odd_any g _ n wr hs3 (by omega) hn).mono ?_;rintro e w4 ⟨v,rfl,⟨b,rfl,_⟩,hs4a,hS4⟩;replace S:SepM (fun b=>b=g) w w4 [plRow 9 1 encStr1 (.slice a L.length c) L]:=(S.other (Chg.of_step hS4));clear hS4 hs3
   cases b with
   | false =>
    go_wp2;go_ret;exact⟨_,L,rfl,by omega,HL.out,hs4a.mono (by omega),S⟩
   | true =>
    go_wp2_with fail
    refine(drawName g _ 1 w4 hs4a (by omega) (by omega)).mono ?_;rintro e w5 ⟨v,rfl,⟨tx,rfl,htm⟩,hs4,hS5⟩;replace S:=S.other (Chg.of_step hS5);clear hS5 hs4a;have SA:=S.alloc #[.string tx] 9;have rd1:Rd 1 encStr1 (w5.alloc (.cells #[.string tx] 9)) (some ⟨w5.heap.size,0,none⟩) [tx]:=rd_lit_new [tx] encStr1_len rfl
    go_wp2_with (at_builtin;refine Hid.out (?_:Hid _))
    unfold Hid;refine wpList_append_b rfl _ _ 39 rfl w.heap.size 9 _ 1 _ Tryz.underlying39 infoStr1 rfl (by decide) encStr1_len encStr1_one _ L.length L rfl (SA.row (0+1) rfl) rfl (some ⟨w5.heap.size,0,none⟩) 1 1 [tx] rfl rfl rd1 (by omega) (by omega) SA.chg.size ?_;intro v7 w7 ho hgr hblk;obtain⟨G,hG⟩:∃G,G=L++[tx]:=⟨_,rfl⟩
    have hGl:G.length=L.length+1:=by rw[hG];simp
    have hGs:∀s∈G,s.size≤9:=fun s hs=>by
     rw[hG]at hs
     rcases List.mem_append.1 hs with hs|hs
     ·exact HL.out s hs
     ·rw[List.mem_singleton.1 hs];exact htm
    rw[←hG]at ho;obtain⟨a7,c7,hv7,_,_,_⟩:=view_owns encStr1_len ho;subst hv7;have SM:=(SA.grow (0+1) rfl hgr ho hblk).drop 0
    have hs7:=(hs4.ext ((Ext.refl _).alloc (.cells #[.string tx] 9))).row hgr (fun i hi=>by
     have h1:=(SA.lt (List.mem_of_getElem? (show _[0+1]?=some _ from rfl)) (show(plRow 9 1 encStr1 _ L).own i from hi)).1
     omega)
    have HGs:=hd0 hGs;have HGl:=hd0 hGl;clear hGl ho hgr hblk SA rd1 S hG hGs;go_wp2;go_ret;exact⟨_,G,rfl,by have:=HGl.out;omega,HGs.out,hs7.mono (by omega),SM⟩
  ·have i0:(0:Int) < (k:Int):=by omega
   go_wp2_with fail
   refine(drawName g _ 0 wr hs3 (by omega) (by omega)).mono ?_;rintro e w5 ⟨v,rfl,⟨tx,rfl,htm⟩,hs4,hS5⟩;replace S:=S.other (Chg.of_step hS5);clear hS5 hs3;have SA:=S.alloc #[.string tx] 9;have rd1:Rd 1 encStr1 (w5.alloc (.cells #[.string tx] 9)) (some ⟨w5.heap.size,0,none⟩) [tx]:=rd_lit_new [tx] encStr1_len rfl
   go_wp2_with (at_builtin;refine Hid.out (?_:Hid _))
   unfold Hid;refine wpList_append_b rfl _ _ 39 rfl w.heap.size 9 _ 1 _ Tryz.underlying39 infoStr1 rfl (by decide) encStr1_len encStr1_one _ L.length L rfl (SA.row (0+1) rfl) rfl (some ⟨w5.heap.size,0,none⟩) 1 1 [tx] rfl rfl rd1 (by omega) (by omega) SA.chg.size ?_;intro v7 w7 ho hgr hblk;obtain⟨G,hG⟩:∃G,G=L++[tx]:=⟨_,rfl⟩
   have hGl:G.length=L.length+1:=by rw[hG];simp
   have hGs:∀s∈G,s.size≤9:=fun s hs=>by
    rw[hG]at hs
    rcases List.mem_append.1 hs with hs|hs
    ·exact HL.out s hs
    ·rw[List.mem_singleton.1 hs];exact htm
   rw[←hG]at ho;obtain⟨a7,c7,hv7,_,_,_⟩:=view_owns encStr1_len ho;subst hv7;have SM:=(SA.grow (0+1) rfl hgr ho hblk).drop 0
   have hs7:=(hs4.ext ((Ext.refl _).alloc (.cells #[.string tx] 9))).row hgr (fun i hi=>by
    have h1:=(SA.lt (List.mem_of_getElem? (show _[0+1]?=some _ from rfl)) (show(plRow 9 1 encStr1 _ L).own i from hi)).1
    omega)
   have HGs:=hd0 hGs;have HGl:=hd0 hGl;clear hGl;obtain⟨m,rfl⟩:∃m,k=m+1:=⟨k - 1,by omega⟩
   have hmk:((m+1:Nat):Int) - 1=(m:Int):=by omega
   clear ho hgr hblk SA rd1 S hG hGs hk0;go_wp2;go_roundw
   case rel=>exact⟨m,a7,c7,G,by omega,by first|go_num|(rw[hmk]),rfl,by have:=HGl.out;omega,HGs.out,hs7.mono (by omega),SM⟩
   case measure=>simp[intOf]
theorem drawPath (g:Nat) (P n:Int) (w:World) (hs:Src g P w) (hP:P≤790000) (hn:n≤1000000) :
  Calls Tryz.prog 138 #[.pointer (some ⟨g,0,none⟩),.int .i64 n] w (RetD g P 13 (TxQ 54) w):=by
 go_enter Tryz.func138,Tryz.ntmps138
 go_wp2_with fail
 refine(odd_any g P n w hs (by omega) hn).mono ?_;rintro e w1 ⟨v,rfl,⟨b,rfl,_⟩,hs1,hS⟩;clear hs
 cases b with
 | true =>
  have S:=SepM.begin (fun b=>b=g) w1 (fun b h=>h ▸ hs1.lt);replace S:SepM (fun b=>b=g) w1 (w1.alloc (.cells #[.string ⟨#[]⟩,.string ⟨#[97]⟩,.string ⟨#[47,47]⟩,.string ⟨#[47,97,47]⟩,.string ⟨#[47,65]⟩,.string ⟨#[47,97,47,97,47,97,47,97,47,97,47,97,47,97]⟩,.string ⟨#[47,97,47,47,98]⟩] 9)) [plRow 9 1 encStr1 (.slice (some ⟨w1.heap.size,0,none⟩) 7 7) ptOdd]:=S.lit (by simp) _ _ encStr1_len ptOdd rfl rfl (by omega);have hsa:Src g (P+1) (w1.alloc (.cells #[.string ⟨#[]⟩,.string ⟨#[97]⟩,.string ⟨#[47,47]⟩,.string ⟨#[47,97,47]⟩,.string ⟨#[47,65]⟩,.string ⟨#[47,97,47,97,47,97,47,97,47,97,47,97,47,97]⟩,.string ⟨#[47,97,47,47,98]⟩] 9)):=hs1.ext ((Ext.refl _).alloc _);have sta:Step g w (w1.alloc (.cells #[.string ⟨#[]⟩,.string ⟨#[97]⟩,.string ⟨#[47,47]⟩,.string ⟨#[47,97,47]⟩,.string ⟨#[47,65]⟩,.string ⟨#[47,97,47,97,47,97,47,97,47,97,47,97,47,97]⟩,.string ⟨#[47,97,47,47,98]⟩] 9)):=hS.alloc _
  go_wp2_with fail
  generalize (w1.alloc (.cells #[.string ⟨#[]⟩,.string ⟨#[97]⟩,.string ⟨#[47,47]⟩,.string ⟨#[47,97,47]⟩,.string ⟨#[47,65]⟩,.string ⟨#[47,97,47,97,47,97,47,97,47,97,47,97,47,97]⟩,.string ⟨#[47,97,47,47,98]⟩] 9))=wa at *;refine(pick_any g (P+1) 7 _ hsa (by omega)).mono ?_;rintro e wq ⟨v,rfl,⟨i,rfl,x0,x1,_⟩,hs3,hS3⟩;replace S:=S.other (Chg.of_step hS3);replace x1:=x1 (by omega);obtain⟨k,rfl⟩:∃k:Nat,i=k:=⟨i.toNat,by omega⟩;obtain⟨tx,htx,hcell⟩:=lit_at (S.rd 0 encStr1_len rfl ptOdd_len.symm) (k:=k) (by rw[ptOdd_len];omega)
  have c0:wq.cell? ⟨w1.heap.size,k,none⟩=some (.string tx):=by have:=hcell 0 _ rfl;simpa using this
  have htm:=ptOdd_fit tx htx;have st3:=sta.trans hS3;clear hcell hS3 hsa sta S;go_wp2;go_ret;exact RetD.mk ⟨tx,rfl,htm⟩ hs3 (by omega) st3
 | false =>
  go_wp2_with fail
  refine(drawNames g (P+1) 0 w1 hs1 (by omega) (by omega)).mono ?_;rintro e w2 ⟨u,L,rfl,hL5,hL9,hs2,S2⟩;obtain⟨a,c,hu,_,_,_⟩:=view_owns encStr1_len (S2.row 0 rfl);subst hu;have hr:=S2.rd 0 encStr1_len rfl rfl;have hst:=hS.trans (Chg.step S2.chg)
  go_wp2_with fail
  refine(specJoinPath a c L w2 (by omega) (fun p hp=>by have:=hL9 p hp;omega) hr).mono ?_;rintro e w3 ⟨v,rfl,rfl,hE⟩;have hz:=joinPath_size L;go_wp2;go_ret;exact RetD.mk ⟨_,rfl,hz⟩ (hs2.ext hE) (by omega) (hst.ext hE)
def RetPth (w:World) (e:Ending) (w':World):Prop:=∃u L,e=.returned u∧L.length≤67368421∧(∀s∈L,s.size≤54)∧Sep w w' [plRow 9 1 encStr1 u L]
theorem pathsAny (a:Option Addr) (cap:Nat) (T:List Nd) (w:World) (hl:T.length≤1048576) (hT:∀x∈T,SmN 1048576 x) (h20:∀x∈T,x.N.length≤20) (hc:RdN w a T) :
  Calls Tryz.prog 134 #[.slice a T.length cap] w (RetPth w):=by
 by_cases hTr:TreeOk T
 ·exact(specPathsOf a cap T w hl hT hTr h20 hc).mono (fun e w' ⟨u,L,h1,_,h3,h4,h5⟩=>⟨u,L,h1,h3,h4,h5⟩)
 ·have HT:=hd0 hT;have HN:=hd0 hTr;clear hT h20 hTr
  go_enter Tryz.func134,Tryz.ntmps134
  go_wp2_with fail
  refine(specTreeValid a cap T w hl HT.out hc).mono ?_;rintro e w1 ⟨v,rfl,hv,hE⟩
  cases v with
  | true=>exact absurd (hv.1 rfl) HN.out
  | false =>
   clear hv;have S:=Sep.start w;replace S:=S.step hE;clear hE;replace S:Sep w (w1.alloc (.cells #[] 9)) [plRow 9 1 encStr1 (.slice (some ⟨w1.heap.size,0,none⟩) 0 0) []]:=S.lit0 (by simp) _ _ _;go_wp2;go_ret;exact⟨_,[],rfl,Nat.zero_le _,(fun s hs=>by cases hs),S⟩
theorem sm_big {x:Nd} (h:SmN 200000 x):SmN 1048576 x:=⟨by have:=h.1;omega,by have:=h.2.1;omega,fun s hs=>by have:=h.2.2.1 s hs;omega,by have:=h.2.2.2;omega⟩
theorem drawWhere (g:Nat) (P:Int) (hP:P≤780000) (a:Option Addr) (cap:Nat) (T:List Nd) (w:World) (hs:Src g P w) (hl:T.length≤100) (hT:∀x∈T,SmN 200000 x∧x.N.length≤20) (hcs:∀w',Step g w w'→RdN w' a T) :
  Calls Tryz.prog 97 #[.pointer (some ⟨g,0,none⟩),.slice a T.length cap] w (RetD g P 16 (TxQ 54) w):=by
 have HT:=hd0 hT;have hg:=hs.lt;have hc:=hcs w (Step.refl g w);clear hT hcs
 go_enter Tryz.func97,Tryz.ntmps97
 have S:=SepM.begin (fun b=>b=g) w (fun b h=>h ▸ hg)
 go_wp2_with fail
 refine(pathsAny a cap T w (by omega) (fun x hx=>sm_big (HT.out x hx).1) (fun x hx=>(HT.out x hx).2) hc).mono ?_;rintro e w1 ⟨u,L,rfl,hL1,hL2,U⟩;obtain⟨au,cu,hu,_,_,_⟩:=view_owns encStr1_len (U.row 0 rfl);subst hu;have HL:=hd0 hL2;have hs1:=hs.ext U.ext;have st1:Step g w w1:=Step.of_ext U.ext;replace S:SepM (fun b=>b=g) w w1 [plRow 9 1 encStr1 (.slice au L.length cu) L]:=S.call U;clear U;clear hL2 hs hc
 by_cases hL0:L.length=0
 ·obtain rfl:=List.eq_nil_of_length_eq_zero hL0;clear hL0 S
  go_wp2_with fail
  refine(drawPath g (P) 9 w1 hs1 (by omega) (by omega)).mono ?_;rintro e w9 ⟨v,rfl,⟨tx,rfl,htm⟩,hs9,hS9⟩;go_wp2;go_ret;exact RetD.mk ⟨tx,rfl,htm⟩ hs9 (by omega) (st1.trans hS9)
 ·have i0:(0:Int) < (L.length:Int):=by omega
  have hne:¬L=[]:=fun e=>hL0 (by rw[e];rfl)
  go_wp2_with fail
  refine(pick_any g P 4 w1 hs1 (by omega)).mono ?_;rintro e w2 ⟨v,rfl,⟨i,rfl,x0,x1,_⟩,hs2,hS2⟩;have st2:=st1.trans hS2;replace S:SepM (fun b=>b=g) w w2 [plRow 9 1 encStr1 (.slice au L.length cu) L]:=(S.other (Chg.of_step hS2));clear hS2 x1 hs1 st1
  by_cases hi:0 < i
  ·go_wp2_with fail
   refine(pick_any g (P+1) (L.length:Int) w2 hs2 (by omega)).mono ?_;rintro e w3 ⟨v,rfl,⟨q,rfl,y0,y1,_⟩,hs3,hS3⟩;replace y1:=y1 (by omega);obtain⟨k,rfl⟩:∃k:Nat,q=k:=⟨q.toNat,by omega⟩;have st3:=st2.trans hS3;replace S:SepM (fun b=>b=g) w w3 [plRow 9 1 encStr1 (.slice au L.length cu) L]:=(S.other (Chg.of_step hS3));obtain⟨t,b,off,ht,rfl,c0⟩:=atStr (S.rd 0 encStr1_len rfl rfl) (show k < L.length by omega);have htm:=HL.out t (List.mem_of_getElem? ht);clear hS3 hs2 st2 S ht;go_wp2;go_ret;exact RetD.mk ⟨t,rfl,htm⟩ hs3 (by omega) st3
  ·clear S
   go_wp2_with fail
   refine(drawPath g (P+1) 9 w2 hs2 (by omega) (by omega)).mono ?_;rintro e w9 ⟨v,rfl,⟨tx,rfl,htm⟩,hs9,hS9⟩;go_wp2;go_ret;exact RetD.mk ⟨tx,rfl,htm⟩ hs9 (by omega) (st2.trans hS9)
theorem drawNew (g:Nat) (P:Int) (hP:P≤760000) (a:Option Addr) (cap:Nat) (T:List Nd) (w:World) (hs:Src g P w) (hl:T.length≤100) (hT:∀x∈T,SmN 200000 x∧x.N.length≤20) (hcs:∀w',Step g w w'→RdN w' a T) :
  Calls Tryz.prog 98 #[.pointer (some ⟨g,0,none⟩),.slice a T.length cap] w (RetD g P 40 (TxQ 54) w):=by
 have HT:=hd0 hT;clear hT
 go_enter Tryz.func98,Tryz.ntmps98
 go_wp2_with fail
 refine(drawWhere g P (by omega) a cap T w hs hl HT.out hcs).mono ?_;rintro e w1 ⟨v,rfl,⟨old,rfl,hold⟩,hs1,hS⟩;clear hs hcs;have S:=SepM.begin (fun b=>b=g) w1 (fun b h=>h ▸ hs1.lt);replace S:SepM (fun b=>b=g) w1 (w1.alloc (.cells #[.string ⟨#[97]⟩,.string ⟨#[98]⟩,.string ⟨#[110,101,119]⟩,.string ⟨#[122]⟩] 9)) [plRow 9 1 encStr1 (.slice (some ⟨w1.heap.size,0,none⟩) 4 4) nwLast]:=S.lit (by simp) _ _ encStr1_len nwLast rfl rfl (by omega);have hsa:Src g (P+16) (w1.alloc (.cells #[.string ⟨#[97]⟩,.string ⟨#[98]⟩,.string ⟨#[110,101,119]⟩,.string ⟨#[122]⟩] 9)):=hs1.ext ((Ext.refl _).alloc _);have sta:Step g w (w1.alloc (.cells #[.string ⟨#[97]⟩,.string ⟨#[98]⟩,.string ⟨#[110,101,119]⟩,.string ⟨#[122]⟩] 9)):=hS.alloc _
 go_wp2_with fail
 generalize (w1.alloc (.cells #[.string ⟨#[97]⟩,.string ⟨#[98]⟩,.string ⟨#[110,101,119]⟩,.string ⟨#[122]⟩] 9))=wa at *;refine(pick_any g (P+16) 4 _ hsa (by omega)).mono ?_;rintro e wq ⟨v,rfl,⟨i,rfl,x0,x1,_⟩,hs3,hS3⟩;replace S:=S.other (Chg.of_step hS3);replace x1:=x1 (by omega);obtain⟨k,rfl⟩:∃k:Nat,i=k:=⟨i.toNat,by omega⟩;obtain⟨tx,htx,hcell⟩:=lit_at (S.rd 0 encStr1_len rfl nwLast_len.symm) (k:=k) (by rw[nwLast_len];omega)
 have c0:wq.cell? ⟨w1.heap.size,k,none⟩=some (.string tx):=by have:=hcell 0 _ rfl;simpa using this
 have htm:=nwLast_fit tx htx;have st3:=sta.trans hS3;clear hcell hS3 hsa sta S;obtain⟨h0,h47⟩:=nwLast_way tx htx
 go_wp2_with fail
 refine(specFollowWay old tx wq (by omega) (by omega) h0 h47).mono ?_;rintro e w4 ⟨t,rfl,ht,hE⟩;have hs4:=hs3.ext hE;have st4:=st3.ext hE;clear hs3 st3 hE c0 x0 x1
 by_cases hte:t=⟨#[]⟩
 ·subst hte
  go_wp2_with fail
  refine(drawPath g (P+16+1) 9 w4 hs4 (by omega) (by omega)).mono ?_;rintro e w9 ⟨v,rfl,⟨tx,rfl,htm⟩,hs9,hS9⟩;go_wp2;go_ret;exact RetD.mk ⟨tx,rfl,htm⟩ hs9 (by omega) (st4.trans hS9)
 ·have t0:(t.toList == [])=false:=Bool.eq_false_iff.2 (fun h=>hte (bytes_eq.1 (by rw[eq_of_beq h,ByteArray.toList_eq])))
  have t1:t.toList.isEmpty=false:=by
   cases hq:t.toList with
   | nil=>rw[hq]at t0;simp at t0
   | cons c r=>rfl
  clear hte;go_wp2;go_ret;exact RetD.mk ⟨t,rfl,ht⟩ hs4 (by omega) st4
theorem drawCall (g:Nat) (P:Int) (hP:P≤700000) (a:Option Addr) (cap:Nat) (T:List Nd) (w:World) (hs:Src g P w) (hl:T.length≤100) (hT:∀x∈T,SmN 200000 x∧x.N.length≤20) (hcs:∀w',Step g w w'→RdN w' a T) :
  Calls Tryz.prog 56 #[.pointer (some ⟨g,0,none⟩),.slice a T.length cap] w (RetD g P 60 (TxQ 200) w):=by
 have HT:=hd0 hT;have hg:=hs.lt;clear hT
 go_enter Tryz.func56,Tryz.ntmps56
 go_wp2_with fail
 refine(drawWhere g P (by omega) a cap T w hs hl HT.out hcs).mono ?_;rintro e w1 ⟨v,rfl,⟨od,rfl,hod⟩,hs1,st1⟩
 go_wp2_with fail
 refine(drawNew g (P+16) (by omega) a cap T w1 hs1 hl HT.out (fun w' h=>hcs w' (st1.trans h))).mono ?_;rintro e w2 ⟨v,rfl,⟨fr,rfl,hfr⟩,hs2,hS2⟩;have st2:=st1.trans hS2;clear hS2 st1 hs1 hs hcs
 go_wp2_with fail
 refine(pick_any g (P+16+40) 10 w2 hs2 (by omega)).mono ?_;rintro e w3 ⟨v,rfl,⟨i,rfl,x0,x1,_⟩,hs3,hS3⟩;have st3:=st2.trans hS3;replace x1:=x1 (by omega);clear hS3 hs2 st2
 rcases(show(i:Int)=0∨i=1∨i=2∨i=3∨i=4∨i=5∨i=6∨i=7∨i=8∨i=9 by omega)with rfl|rfl|rfl|rfl|rfl|rfl|rfl|rfl|rfl|rfl
 ·have hz:(⟨#[102,111,108,100,101,114,32]⟩:ByteArray).size+fr.size≤9223372036854775807:=by show 7+_≤_;omega
  have hm:(⟨#[102,111,108,100,101,114,32]⟩++fr:ByteArray).size≤200:=by rw[ByteArray.size_append];show 7+_≤_;omega
  clear x0 x1;go_wp2;go_ret;exact RetD.mk ⟨_,rfl,hm⟩ hs3 (by omega) st3
 ·have hz:(⟨#[102,105,108,101,32]⟩:ByteArray).size+fr.size≤9223372036854775807:=by show 5+_≤_;omega
  have hm:(⟨#[102,105,108,101,32]⟩++fr:ByteArray).size≤200:=by rw[ByteArray.size_append];show 5+_≤_;omega
  clear x0 x1;go_wp2;go_ret;exact RetD.mk ⟨_,rfl,hm⟩ hs3 (by omega) st3
 ·have hz:(⟨#[100,114,111,112,32]⟩:ByteArray).size+od.size≤9223372036854775807:=by show 5+_≤_;omega
  have hm:(⟨#[100,114,111,112,32]⟩++od:ByteArray).size≤200:=by rw[ByteArray.size_append];show 5+_≤_;omega
  clear x0 x1;go_wp2;go_ret;exact RetD.mk ⟨_,rfl,hm⟩ hs3 (by omega) st3
 ·have hz:(⟨#[119,114,105,116,101,32]⟩:ByteArray).size+od.size≤9223372036854775807:=by show 6+_≤_;omega
  have hz1:(⟨#[119,114,105,116,101,32]⟩++od:ByteArray).size+(⟨#[32]⟩:ByteArray).size≤9223372036854775807:=by rw[ByteArray.size_append];show 6+_+1≤_;omega
  clear x0 x1;have S:=SepM.begin (fun b=>b=g) w3 (fun b h=>h ▸ hs3.lt);replace S:SepM (fun b=>b=g) w3 (w3.alloc (.cells #[.string ⟨#[97,98,99]⟩,.string ⟨#[120]⟩,.string ⟨#[]⟩] 9)) [plRow 9 1 encStr1 (.slice (some ⟨w3.heap.size,0,none⟩) 3 3) wrTx]:=S.lit (by simp) _ _ encStr1_len wrTx rfl rfl (by omega);have hsa:Src g (P+16+40+1) (w3.alloc (.cells #[.string ⟨#[97,98,99]⟩,.string ⟨#[120]⟩,.string ⟨#[]⟩] 9)):=hs3.ext ((Ext.refl _).alloc _);have sta:Step g w (w3.alloc (.cells #[.string ⟨#[97,98,99]⟩,.string ⟨#[120]⟩,.string ⟨#[]⟩] 9)):=st3.alloc _
  go_wp2_with fail
  generalize (w3.alloc (.cells #[.string ⟨#[97,98,99]⟩,.string ⟨#[120]⟩,.string ⟨#[]⟩] 9))=wa at *;refine(pick_any g (P+16+40+1) 3 _ hsa (by omega)).mono ?_;rintro e wq ⟨v,rfl,⟨i,rfl,x0,x1,_⟩,hs5,hS3⟩;replace S:=S.other (Chg.of_step hS3);replace x1:=x1 (by omega);obtain⟨k,rfl⟩:∃k:Nat,i=k:=⟨i.toNat,by omega⟩;obtain⟨tx,htx,hcell⟩:=lit_at (S.rd 0 encStr1_len rfl wrTx_len.symm) (k:=k) (by rw[wrTx_len];omega)
  have c0:wq.cell? ⟨w3.heap.size,k,none⟩=some (.string tx):=by have:=hcell 0 _ rfl;simpa using this
  have htm:=wrTx_fit tx htx;have st3:=sta.trans hS3;clear hcell hS3 hsa sta S
  have hz2:(⟨#[119,114,105,116,101,32]⟩++od++⟨#[32]⟩:ByteArray).size+tx.size≤9223372036854775807:=by rw[ByteArray.size_append,ByteArray.size_append];show 6+_+1+_≤_;omega
  have hm:(⟨#[119,114,105,116,101,32]⟩++od++⟨#[32]⟩++tx:ByteArray).size≤200:=by rw[ByteArray.size_append,ByteArray.size_append,ByteArray.size_append];show 6+_+1+_≤_;omega
  go_wp2;go_ret;exact RetD.mk ⟨_,rfl,hm⟩ hs5 (by omega) st3
 ·have hz:(⟨#[109,111,100,101,32]⟩:ByteArray).size+od.size≤9223372036854775807:=by show 5+_≤_;omega
  have hz1:(⟨#[109,111,100,101,32]⟩++od:ByteArray).size+(⟨#[32]⟩:ByteArray).size≤9223372036854775807:=by rw[ByteArray.size_append];show 5+_+1≤_;omega
  clear x0 x1;have S:=SepM.begin (fun b=>b=g) w3 (fun b h=>h ▸ hs3.lt);replace S:SepM (fun b=>b=g) w3 (w3.alloc (.cells #[.string ⟨#[114,119,120,114,119,120,114,119,120]⟩,.string ⟨#[114,119,45,114,45,45,114,45,45]⟩,.string ⟨#[45,45,45,45,45,45,45,45,45]⟩,.string ⟨#[114,119,120]⟩] 9)) [plRow 9 1 encStr1 (.slice (some ⟨w3.heap.size,0,none⟩) 4 4) mdTx]:=S.lit (by simp) _ _ encStr1_len mdTx rfl rfl (by omega);have hsa:Src g (P+16+40+1) (w3.alloc (.cells #[.string ⟨#[114,119,120,114,119,120,114,119,120]⟩,.string ⟨#[114,119,45,114,45,45,114,45,45]⟩,.string ⟨#[45,45,45,45,45,45,45,45,45]⟩,.string ⟨#[114,119,120]⟩] 9)):=hs3.ext ((Ext.refl _).alloc _);have sta:Step g w (w3.alloc (.cells #[.string ⟨#[114,119,120,114,119,120,114,119,120]⟩,.string ⟨#[114,119,45,114,45,45,114,45,45]⟩,.string ⟨#[45,45,45,45,45,45,45,45,45]⟩,.string ⟨#[114,119,120]⟩] 9)):=st3.alloc _
  go_wp2_with fail
  generalize (w3.alloc (.cells #[.string ⟨#[114,119,120,114,119,120,114,119,120]⟩,.string ⟨#[114,119,45,114,45,45,114,45,45]⟩,.string ⟨#[45,45,45,45,45,45,45,45,45]⟩,.string ⟨#[114,119,120]⟩] 9))=wa at *;refine(pick_any g (P+16+40+1) 4 _ hsa (by omega)).mono ?_;rintro e wq ⟨v,rfl,⟨i,rfl,x0,x1,_⟩,hs5,hS3⟩;replace S:=S.other (Chg.of_step hS3);replace x1:=x1 (by omega);obtain⟨k,rfl⟩:∃k:Nat,i=k:=⟨i.toNat,by omega⟩;obtain⟨tx,htx,hcell⟩:=lit_at (S.rd 0 encStr1_len rfl mdTx_len.symm) (k:=k) (by rw[mdTx_len];omega)
  have c0:wq.cell? ⟨w3.heap.size,k,none⟩=some (.string tx):=by have:=hcell 0 _ rfl;simpa using this
  have htm:=mdTx_fit tx htx;have st3:=sta.trans hS3;clear hcell hS3 hsa sta S
  have hz2:(⟨#[109,111,100,101,32]⟩++od++⟨#[32]⟩:ByteArray).size+tx.size≤9223372036854775807:=by rw[ByteArray.size_append,ByteArray.size_append];show 5+_+1+_≤_;omega
  have hm:(⟨#[109,111,100,101,32]⟩++od++⟨#[32]⟩++tx:ByteArray).size≤200:=by rw[ByteArray.size_append,ByteArray.size_append,ByteArray.size_append];show 5+_+1+_≤_;omega
  go_wp2;go_ret;exact RetD.mk ⟨_,rfl,hm⟩ hs5 (by omega) st3
 ·have hz:(⟨#[108,105,110,107,32]⟩:ByteArray).size+od.size≤9223372036854775807:=by show 5+_≤_;omega
  have hz1:(⟨#[108,105,110,107,32]⟩++od:ByteArray).size+(⟨#[32]⟩:ByteArray).size≤9223372036854775807:=by rw[ByteArray.size_append];show 5+_+1≤_;omega
  have hz2:(⟨#[108,105,110,107,32]⟩++od++⟨#[32]⟩:ByteArray).size+fr.size≤9223372036854775807:=by rw[ByteArray.size_append,ByteArray.size_append];show 5+_+1+_≤_;omega
  have hm:(⟨#[108,105,110,107,32]⟩++od++⟨#[32]⟩++fr:ByteArray).size≤200:=by rw[ByteArray.size_append,ByteArray.size_append,ByteArray.size_append];show 5+_+1+_≤_;omega
  clear x0 x1;go_wp2;go_ret;exact RetD.mk ⟨_,rfl,hm⟩ hs3 (by omega) st3
 ·have hz:(⟨#[109,111,118,101,32]⟩:ByteArray).size+od.size≤9223372036854775807:=by show 5+_≤_;omega
  have hz1:(⟨#[109,111,118,101,32]⟩++od:ByteArray).size+(⟨#[32]⟩:ByteArray).size≤9223372036854775807:=by rw[ByteArray.size_append];show 5+_+1≤_;omega
  have hz2:(⟨#[109,111,118,101,32]⟩++od++⟨#[32]⟩:ByteArray).size+fr.size≤9223372036854775807:=by rw[ByteArray.size_append,ByteArray.size_append];show 5+_+1+_≤_;omega
  have hm:(⟨#[109,111,118,101,32]⟩++od++⟨#[32]⟩++fr:ByteArray).size≤200:=by rw[ByteArray.size_append,ByteArray.size_append,ByteArray.size_append];show 5+_+1+_≤_;omega
  clear x0 x1;go_wp2;go_ret;exact RetD.mk ⟨_,rfl,hm⟩ hs3 (by omega) st3
 ·have hz:(⟨#[114,101,97,100,32]⟩:ByteArray).size+od.size≤9223372036854775807:=by show 5+_≤_;omega
  have hm:(⟨#[114,101,97,100,32]⟩++od:ByteArray).size≤200:=by rw[ByteArray.size_append];show 5+_≤_;omega
  clear x0 x1;go_wp2;go_ret;exact RetD.mk ⟨_,rfl,hm⟩ hs3 (by omega) st3
 ·have hz:(⟨#[108,105,115,116,32]⟩:ByteArray).size+od.size≤9223372036854775807:=by show 5+_≤_;omega
  have hm:(⟨#[108,105,115,116,32]⟩++od:ByteArray).size≤200:=by rw[ByteArray.size_append];show 5+_≤_;omega
  clear x0 x1;go_wp2;go_ret;exact RetD.mk ⟨_,rfl,hm⟩ hs3 (by omega) st3
 ·clear x0 x1;have S:=SepM.begin (fun b=>b=g) w3 (fun b h=>h ▸ hs3.lt);replace S:SepM (fun b=>b=g) w3 (w3.alloc (.cells #[.string ⟨#[]⟩,.string ⟨#[114,101,97,100]⟩,.string ⟨#[108,105,115,116]⟩,.string ⟨#[100,97,110,99,101,32,47,97]⟩,.string ⟨#[102,111,108,100,101,114]⟩,.string ⟨#[119,114,105,116,101,32,47,97]⟩,.string ⟨#[114,101,97,100,32,47,97,32,47,98]⟩,.string ⟨#[100,114,111,112,32,32,47,97]⟩] 9)) [plRow 9 1 encStr1 (.slice (some ⟨w3.heap.size,0,none⟩) 8 8) clOdd]:=S.lit (by simp) _ _ encStr1_len clOdd rfl rfl (by omega);have hsa:Src g (P+16+40+1) (w3.alloc (.cells #[.string ⟨#[]⟩,.string ⟨#[114,101,97,100]⟩,.string ⟨#[108,105,115,116]⟩,.string ⟨#[100,97,110,99,101,32,47,97]⟩,.string ⟨#[102,111,108,100,101,114]⟩,.string ⟨#[119,114,105,116,101,32,47,97]⟩,.string ⟨#[114,101,97,100,32,47,97,32,47,98]⟩,.string ⟨#[100,114,111,112,32,32,47,97]⟩] 9)):=hs3.ext ((Ext.refl _).alloc _);have sta:Step g w (w3.alloc (.cells #[.string ⟨#[]⟩,.string ⟨#[114,101,97,100]⟩,.string ⟨#[108,105,115,116]⟩,.string ⟨#[100,97,110,99,101,32,47,97]⟩,.string ⟨#[102,111,108,100,101,114]⟩,.string ⟨#[119,114,105,116,101,32,47,97]⟩,.string ⟨#[114,101,97,100,32,47,97,32,47,98]⟩,.string ⟨#[100,114,111,112,32,32,47,97]⟩] 9)):=st3.alloc _
  go_wp2_with fail
  generalize (w3.alloc (.cells #[.string ⟨#[]⟩,.string ⟨#[114,101,97,100]⟩,.string ⟨#[108,105,115,116]⟩,.string ⟨#[100,97,110,99,101,32,47,97]⟩,.string ⟨#[102,111,108,100,101,114]⟩,.string ⟨#[119,114,105,116,101,32,47,97]⟩,.string ⟨#[114,101,97,100,32,47,97,32,47,98]⟩,.string ⟨#[100,114,111,112,32,32,47,97]⟩] 9))=wa at *;refine(pick_any g (P+16+40+1) 8 _ hsa (by omega)).mono ?_;rintro e wq ⟨v,rfl,⟨i,rfl,x0,x1,_⟩,hs5,hS3⟩;replace S:=S.other (Chg.of_step hS3);replace x1:=x1 (by omega);obtain⟨k,rfl⟩:∃k:Nat,i=k:=⟨i.toNat,by omega⟩;obtain⟨tx,htx,hcell⟩:=lit_at (S.rd 0 encStr1_len rfl clOdd_len.symm) (k:=k) (by rw[clOdd_len];omega)
  have c0:wq.cell? ⟨w3.heap.size,k,none⟩=some (.string tx):=by have:=hcell 0 _ rfl;simpa using this
  have htm:=clOdd_fit tx htx;have st3:=sta.trans hS3;clear hcell hS3 hsa sta S;go_wp2;go_ret;exact RetD.mk ⟨tx,rfl,htm⟩ hs5 (by omega) st3
def VDc (g Bk:Nat) (kv tv:Value) (P:Int):Nat→Value→World→Prop:=fun i v wv=>match i with
 | 0=>v=kv
 | 1=>v=.pointer (some ⟨g,0,none⟩)
 | 2=>v=.pointer (some ⟨Bk,0,none⟩)
 | 3=>v=tv
 | 4=>∃l:ByteArray,v=.string l∧l.size≤200
 | 5=>Src g P wv
 | _=>True
def DrawnL (w:World) (e:Ending) (w':World):Prop:=∃(a:Option Addr) (cap:Nat) (vs:List Nc) (T:List Nd) (r c s q:Int) (l:ByteArray),e=.returned (.tuple #[.agg #[.slice a T.length cap,.int .i64 r,.int .i64 c,.int .i64 s,.int .i64 q],.string l])∧T.length≤100∧(∀x∈T,SmN 200000 x∧x.N.length≤20)∧l.size≤200∧Sep w w' [plNd (.slice a T.length cap) vs T]
theorem drawCallLine (ac:Option Addr) (capc:Nat) (code:List Int) (w:World) (hl:code.length≤9223372036854775807) (hcap:code.length≤capc) (hu:∀x∈code,0≤x∧x≤255) (hc:Rd 1 encU8 w ac code) :
  Calls Tryz.prog 26 #[.slice ac code.length capc] w (DrawnL w):=by
 go_enter Tryz.func26,Tryz.ntmps26
 have S:=Sep.start w;replace S:=S.alloc_at (n:=w.heap.size) (by simp) #[.slice none 0 0,.int .i64 0,.int .i64 0,.int .i64 0,.int .i64 0] 31
 go_wp2_with fail
 generalize (w.alloc (.cells #[.slice none 0 0,.int .i64 0,.int .i64 0,.int .i64 0,.int .i64 0] 31))=w1 at *;refine(open_any ac capc code w1 hl hcap hu (hc.ext S.ext)).mono ?_;rintro e w2 ⟨v,rfl,⟨rfl,hs⟩,hE⟩;have hg1:=S.ge 0 rfl;generalize w1.heap.size=g at *;replace S:=S.step hE;clear hE
 go_wp2_with fail
 refine(drawKernel2 g _ 14 w2 hs (by omega) (by omega)).mono ?_;rintro e w3 ⟨v,rfl,⟨a,cap,vs,T,r,c,s,q,rfl,hT1,hcapT,hT2,U⟩,hs3⟩;have HT2:=hd0 hT2
 have hng:¬(plNd (.slice a T.length cap) vs T).own g:=fun h=>by
  have h1:=(U.lt (List.mem_cons_self ..) h).1;have h2:=hs.lt;omega
 have HNG:=hd0 hng;clear hT2 hng;replace S:Sep w w3 [plNd (.slice a T.length cap) vs T,plBox w.heap.size #[.slice none 0 0,.int .i64 0,.int .i64 0,.int .i64 0,.int .i64 0] 31]:=(S.readCall U (by omega) (by simp[plBox];omega));clear U;have hg3:=hs3.lt;replace S:=S.alloc_at (n:=w3.heap.size) (by simp) #[.slice a T.length cap,.int .i64 r,.int .i64 c,.int .i64 s,.int .i64 q] 31;have hs4:=hs3.ext ((Ext.refl w3).alloc (.cells #[.slice a T.length cap,.int .i64 r,.int .i64 c,.int .i64 s,.int .i64 q] 31));clear hs hs3
 go_upto_region 3 with fail
 generalize (w3.alloc (.cells #[.slice a T.length cap,.int .i64 r,.int .i64 c,.int .i64 s,.int .i64 q] 31))=w4 at *;have hBk:g < w3.heap.size:=hg3;generalize w3.heap.size=Bk at *
 have hn:∀p∈([plBox Bk #[.slice a T.length cap,.int .i64 r,.int .i64 c,.int .i64 s,.int .i64 q] 31,plNd (.slice a T.length cap) vs T,plBox w.heap.size #[.slice none 0 0,.int .i64 0,.int .i64 0,.int .i64 0,.int .i64 0] 31]:List Pl),¬p.own g:=by
  intro p hp;simp only[List.mem_cons,List.mem_nil_iff,or_false]at hp
  rcases hp with rfl|rfl|rfl
  ·exact fun h=>by have e:g=Bk:=h;omega
  ·exact HNG.out
  ·exact fun h=>by have e:g=w.heap.size:=h;omega
 have HN:=hd0 hn
 have hgw:w.heap.size≤g:=by omega
 have HS:=hd0 S.drew;have hs5:=hs4.ext (Ext.refl w4).drew;clear hn S;refine wp_region_c (V:=VDc g Bk (.agg #[.slice a T.length cap,.int .i64 r,.int .i64 c,.int .i64 s,.int .i64 q]) (.slice a T.length cap) (0+420)) (fun wv=>Sep w wv [plBox Bk #[.slice a T.length cap,.int .i64 r,.int .i64 c,.int .i64 s,.int .i64 q] 31,plNd (.slice a T.length cap) vs T,plBox w.heap.size #[.slice none 0 0,.int .i64 0,.int .i64 0,.int .i64 0,.int .i64 0] 31]) (fun i=>if i=5 then some 4 else none) [] 5 1 rfl (by decide) (by kernel_rfl) (by kernel_rfl) (by kernel_rfl) (by kernel_rfl) HS.out (fun r hr=>by match r,hr with|0,_=>exact hs5) ?_ ?_
 ·intro i o hi ho vz w5 hvl hE hd hrest
  match vz,hvl with
  | [y0,y1,y2,y3,y4],_ =>
  rcases lc5 hi with rfl|rfl|rfl|rfl|rfl
  all_goals
   obtain rfl:=Option.some.inj ho
  ·have HE:=hd0 hE;obtain⟨c0,_⟩:=bx (hE.box 0 rfl) 0 rfl;obtain⟨c1,_⟩:=bx (hE.box 0 rfl) 1 rfl;obtain⟨c2,_⟩:=bx (hE.box 0 rfl) 2 rfl;obtain⟨c3,_⟩:=bx (hE.box 0 rfl) 3 rfl;obtain⟨c4,_⟩:=bx (hE.box 0 rfl) 4 rfl;clear hd hrest hE;simp[putAll,Act.put];go_wp2;exact⟨rfl,_,rfl,rfl,HE.out,fun j u hj hne hcon hnd hnc hv=>hv⟩
  ·have HE:=hd0 hE;clear hd hrest hE;simp[putAll,Act.put];go_wp2;exact⟨rfl,_,rfl,rfl,HE.out,fun j u hj hne hcon hnd hnc hv=>hv⟩
  ·have HE:=hd0 hE;clear hd hrest hE;simp[putAll,Act.put];go_wp2;exact⟨rfl,_,rfl,rfl,HE.out,fun j u hj hne hcon hnd hnc hv=>hv⟩
  ·have HE:=hd0 hE;have q2:y2=.pointer (some ⟨Bk,0,none⟩):=hd ⟨2,.data⟩ (by simp) rfl (.inl rfl);obtain⟨c0,_⟩:=bx (hE.box 0 rfl) 0 rfl;subst q2;clear hd hrest hE;simp[putAll,Act.put];go_wp2;exact⟨rfl,_,rfl,rfl,HE.out,fun j u hj hne hcon hnd hnc hv=>hv⟩
  ·have HE:=hd0 hE;have q1:y1=.pointer (some ⟨g,0,none⟩):=hd ⟨1,.data⟩ (by simp) rfl (.inl rfl);have q3:y3=.slice a T.length cap:=hd ⟨3,.data⟩ (by simp) rfl (.inl rfl);have hs6:Src g (0+420) w5:=hrest 0 (by omega) (.inr rfl);have HC:=hd0 (drawCall g (0+420) (by omega) a cap T w5 hs6 hT1 HT2.out (fun w' h=>SepM.rdN (HE.out.readD h hgw HN.out) 1 rfl));subst q1 q3;clear hd hrest hE hs6;simp[putAll,Act.put]
   go_wp2_with fail
   refine HC.out.mono ?_;rintro e w6 ⟨v,rfl,⟨l,rfl,hlz⟩,hs7,hS7⟩;have S7:=hd0 (HE.out.readD hS7 hgw HN.out);clear HC hs7 hS7;go_wp2;refine⟨rfl,_,rfl,⟨l,rfl,hlz⟩,S7.out,fun j u hj hne hcon hnd hnc hv=>?_⟩
   match j,hv with
   | 0,hv=>exact hv
   | 1,hv=>exact hv
   | 2,hv=>exact hv
   | 3,hv=>exact hv
   | 4,hv=>exact absurd rfl hne
   | 5,hv=>exact absurd rfl hcon
   | (k+6),_=>trivial
 intro vz w8 hvl hE hV _
 match vz,hvl with
 | [y0,y1,y2,y3,y4],_ =>
 have q0:y0=.agg #[.slice a T.length cap,.int .i64 r,.int .i64 c,.int .i64 s,.int .i64 q]:=hV 0 (by omega) rfl;obtain⟨l,q4,hlz⟩:∃l:ByteArray,y4=.string l∧l.size≤200:=hV 4 (by omega) rfl;have S:Sep w w8 [plBox Bk #[.slice a T.length cap,.int .i64 r,.int .i64 c,.int .i64 s,.int .i64 q] 31,plNd (.slice a T.length cap) vs T,plBox w.heap.size #[.slice none 0 0,.int .i64 0,.int .i64 0,.int .i64 0,.int .i64 0] 31]:=hE;subst q0 q4;clear hV hvl HS hs5 hs4 HN HNG hE;simp only[putAll,Act.put,List.take_succ_cons,List.take_zero,List.drop_succ_cons,List.drop_zero];simp;obtain⟨⟨rbc0,rbf0⟩,⟨rbc1,rbf1⟩,⟨rbc2,rbf2⟩,⟨rbc3,rbf3⟩,⟨rbc4,rbf4⟩⟩:=bx5 (S.box 2 rfl);go_wp2;clear rbc0 rbf0 rbc1 rbf1 rbc2 rbf2 rbc3 rbf3 rbc4 rbf4;replace S:Sep w (((((w8.setCell ⟨w.heap.size,0,none⟩ (.slice a T.length cap)).setCell ⟨w.heap.size,1,none⟩ (.int .i64 r)).setCell ⟨w.heap.size,2,none⟩ (.int .i64 c)).setCell ⟨w.heap.size,3,none⟩ (.int .i64 s)).setCell ⟨w.heap.size,4,none⟩ (.int .i64 q)) [plBox Bk #[.slice a T.length cap,.int .i64 r,.int .i64 c,.int .i64 s,.int .i64 q] 31,plNd (.slice a T.length cap) vs T,plBox w.heap.size #[.slice a T.length cap,.int .i64 r,.int .i64 c,.int .i64 s,.int .i64 q] 31]:=((((S.set 2 rfl 0 _).set 2 rfl 1 _).set 2 rfl 2 _).set 2 rfl 3 _).set 2 rfl 4 _;generalize (((((w8.setCell ⟨w.heap.size,0,none⟩ (.slice a T.length cap)).setCell ⟨w.heap.size,1,none⟩ (.int .i64 r)).setCell ⟨w.heap.size,2,none⟩ (.int .i64 c)).setCell ⟨w.heap.size,3,none⟩ (.int .i64 s)).setCell ⟨w.heap.size,4,none⟩ (.int .i64 q))=wD at *;obtain⟨⟨rbc0,rbf0⟩,⟨rbc1,rbf1⟩,⟨rbc2,rbf2⟩,⟨rbc3,rbf3⟩,⟨rbc4,rbf4⟩⟩:=bx5 (S.box 2 rfl);refine bodyPost_ret (v:=.tuple #[.agg #[.slice a T.length cap,.int .i64 r,.int .i64 c,.int .i64 s,.int .i64 q],.string l]) (by simp[results,Tryz.results26,go_sem,rbc0,rbc1,rbc2,rbc3,rbc4]) rfl ?_;replace S:Sep w wD [plNd (.slice a T.length cap) vs T]:=(S.drop 0).drop 1;exact⟨a,cap,vs,T,r,c,s,q,l,rfl,hT1,HT2.out,hlz,S⟩
theorem sameTexts_eq (a b:Option Addr) (c d:Nat) (L:List ByteArray) (w:World) (hl:L.length≤1048576) (hc:Rd 1 encStr1 w a L) (hd:Rd 1 encStr1 w b L) :
  Calls Tryz.prog 18 #[.slice a L.length c,.slice b L.length d] w (RetB True w):=by
 have ht:((L.length:Int) != (L.length:Int))=false:=by simp
 go_enter Tryz.func18,Tryz.ntmps18
 go_wp2
 go_loopw [5] (fun i wr=>∃k:Nat,k≤L.length∧i=.int .i64 k∧Ext w wr) (fun i _=>L.length - (intOf i).toNat)
 case atStart=>exact⟨0,Nat.zero_le _,rfl,Ext.refl _⟩
 case round =>
  obtain⟨k,hk,rfl,hb⟩:=hrel
  by_cases hlt:k < L.length
  ·obtain⟨x,b1,off,hx,rfl,c0⟩:=atStr (hc.ext hb) hlt;obtain⟨y,b2,off',hy,rfl,d0⟩:=atStr (hd.ext hb) hlt;obtain rfl:x=y:=Option.some.inj (hx.symm.trans hy);clear hx hy ht
   have i0:(k:Int) < (L.length:Int):=by omega
   go_wp2
   go_quiet (fail)
   go_wp2;go_roundw
   case rel=>exact⟨k+1,by omega,by go_num,hb.drewN _⟩
   case measure=>simp[intOf];omega
  ·obtain rfl:k=L.length:=by omega
   go_wp2;go_ret;exact RetB.mk true rfl (by simp) hb
theorem sameInts_eq (a b:Option Addr) (c d:Nat) (L:List Int) (w:World) (hl:L.length≤1048576) (hc:Rd 1 encInt1 w a L) (hd:Rd 1 encInt1 w b L) :
  Calls Tryz.prog 99 #[.slice a L.length c,.slice b L.length d] w (RetB True w):=by
 have ht:((L.length:Int) != (L.length:Int))=false:=by simp
 go_enter Tryz.func99,Tryz.ntmps99
 go_wp2
 go_loopw [5] (fun i wr=>∃k:Nat,k≤L.length∧i=.int .i64 k∧Ext w wr) (fun i _=>L.length - (intOf i).toNat)
 case atStart=>exact⟨0,Nat.zero_le _,rfl,Ext.refl _⟩
 case round =>
  obtain⟨k,hk,rfl,hb⟩:=hrel
  by_cases hlt:k < L.length
  ·obtain⟨x,b1,off,hx,rfl,c0⟩:=atInt (hc.ext hb) hlt;obtain⟨y,b2,off',hy,rfl,d0⟩:=atInt (hd.ext hb) hlt;obtain rfl:x=y:=Option.some.inj (hx.symm.trans hy);clear hx hy ht
   have i0:(k:Int) < (L.length:Int):=by omega
   go_wp2
   go_quiet (fail)
   go_wp2;go_roundw
   case rel=>exact⟨k+1,by omega,by go_num,hb.drewN _⟩
   case measure=>simp[intOf];omega
  ·obtain rfl:k=L.length:=by omega
   go_wp2;go_ret;exact RetB.mk true rfl (by simp) hb
theorem sameTree_eq (a b:Option Addr) (c d:Nat) (T:List Nd) (w:World) (hl:T.length≤1048576) (hT:∀x∈T,SmN 1048576 x) (hc:RdN w a T) (hd:RdN w b T) :
  Calls Tryz.prog 58 #[.slice a T.length c,.slice b T.length d] w (RetB True w):=by
 have ht:((T.length:Int) != (T.length:Int))=false:=by simp
 have HT:=hd0 hT;clear hT
 go_enter Tryz.func58,Tryz.ntmps58
 go_wp2
 go_loopw [5] (fun i wr=>∃k:Nat,k≤T.length∧i=.int .i64 k∧Ext w wr) (fun i _=>T.length - (intOf i).toNat)
 case atStart=>exact⟨0,Nat.zero_le _,rfl,Ext.refl _⟩
 case round =>
  obtain⟨k,hk,rfl,hb⟩:=hrel
  by_cases hlt:k < T.length
  ·obtain⟨x,b1,off,an,cn,ak,ck,hx,rfl,c0,c1,c2,c3,c4,c5,c6,hcn,hck,hrn,hrk⟩:=atNd (hc.ext hb) hlt;obtain⟨y,b2,off2,an2,cn2,ak2,ck2,hy,rfl,d0,d1,d2,d3,d4,d5,d6,hdn,hdk,hsn,hsk⟩:=atNd (hd.ext hb) hlt;obtain rfl:x=y:=Option.some.inj (hx.symm.trans hy);have hxs:=HT.out x (List.mem_of_getElem? hx)
   have HTx:Hid (∀s:ExtW wr,Calls Tryz.prog 18 #[.slice an x.N.length cn,.slice an2 x.N.length cn2] s.x fun e w''=>e=.returned (.bool true)∧∃s':ExtW wr,w''=s'.x):=hd0 (fun s=>by
    have hC:=sameTexts_eq an an2 cn cn2 x.N s.x hxs.2.1 (hrn.ext s.h) (hsn.ext s.h)
    exact Calls.at_e (hC.mono (fun e w' ⟨v,h1,h2,h3⟩=>⟨by rw[h1,show v=true from h2.2 trivial],h3⟩)))
   have HIn:Hid (∀s:ExtW wr,Calls Tryz.prog 99 #[.slice ak x.K.length ck,.slice ak2 x.K.length ck2] s.x fun e w''=>e=.returned (.bool true)∧∃s':ExtW wr,w''=s'.x):=hd0 (fun s=>by
    have hC:=sameInts_eq ak ak2 ck ck2 x.K s.x hxs.2.2.2 (hrk.ext s.h) (hsk.ext s.h)
    exact Calls.at_e (hC.mono (fun e w' ⟨v,h1,h2,h3⟩=>⟨by rw[h1,show v=true from h2.2 trivial],h3⟩)))
   have i0:(k:Int) < (T.length:Int):=by omega
   clear hx hy ht hcn hck hrn hrk hdn hdk hsn hsk hxs
   go_wp2_with fail
   have p0:=ExtW.cell c0;have p1:=ExtW.cell c1;have p2:=ExtW.cell c2;have p3:=ExtW.cell c3;have p4:=ExtW.cell c4;have p5:=ExtW.cell c5;have p6:=ExtW.cell c6;have bl:=ExtW.lt c0;have q0:=ExtW.cell d0;have q1:=ExtW.cell d1;have q2:=ExtW.cell d2;have q3:=ExtW.cell d3;have q4:=ExtW.cell d4;have q5:=ExtW.cell d5;have q6:=ExtW.cell d6;have br:=ExtW.lt d0
   have t0:(x.fold != x.fold)=false:=by simp
   have t1:(x.own != x.own)=false:=by simp
   have t2:(x.grp != x.grp)=false:=by simp
   have t3:(x.mode != x.mode)=false:=by simp
   have t4:(x.text.toList == x.text.toList)=true:=by simp
   clear c0 c1 c2 c3 c4 c5 c6 d0 d1 d2 d3 d4 d5 d6
   (refine wp_region_quiet_ext (by kernel_rfl) (by kernel_rfl) ?_;simp only[List.append];(repeat (go_big_quiet_step ((first|(go_at_call 18;exact HTx.out _)|(go_at_call 99;exact HIn.out _)))));refine wpQuiet_nil ?_;intro _ hw';obtain⟨sq,hw''⟩:=hw';subst hw'')
   obtain⟨w5,hw5⟩:=sq;clear p0 p1 p2 p3 p4 p5 p6 q0 q1 q2 q3 q4 q5 q6 bl br t0 t1 t2 t3 t4 HTx HIn;go_wp2;go_roundw
   case rel=>exact⟨k+1,by omega,by go_num,hb.trans hw5⟩
   case measure=>simp[intOf];omega
  ·obtain rfl:k=T.length:=by omega
   go_wp2;go_ret;exact RetB.mk true rfl (by simp) hb
theorem sameKernel_eq (a b:Option Addr) (cp dp:Nat) (T:List Nd) (r c s g:Int) (w:World) (hl:T.length≤1048576) (hT:∀x∈T,SmN 1048576 x) (hc:RdN w a T) (hd:RdN w b T) :
  Calls Tryz.prog 17 #[.agg #[.slice a T.length cp,.int .i64 r,.int .i64 c,.int .i64 s,.int .i64 g],.agg #[.slice b T.length dp,.int .i64 r,.int .i64 c,.int .i64 s,.int .i64 g]] w (RetB True w):=by
 have HT:=hd0 hT;clear hT
 go_enter Tryz.func17,Tryz.ntmps17
 have S:=Sep.start w;replace S:=S.alloc_at (n:=w.heap.size) (by simp) #[.slice a T.length cp,.int .i64 r,.int .i64 c,.int .i64 s,.int .i64 g] 31;replace S:=S.alloc_at (n:=(w.heap.size+1)) (by simp) #[.slice b T.length dp,.int .i64 r,.int .i64 c,.int .i64 s,.int .i64 g] 31
 go_upto_region 1 with fail
 generalize ((w.alloc (.cells #[.slice a T.length cp,.int .i64 r,.int .i64 c,.int .i64 s,.int .i64 g] 31)).alloc (.cells #[.slice b T.length dp,.int .i64 r,.int .i64 c,.int .i64 s,.int .i64 g] 31))=w1 at *;obtain⟨⟨qc0,qf0⟩,⟨qc1,qf1⟩,⟨qc2,qf2⟩,⟨qc3,qf3⟩,⟨qc4,qf4⟩⟩:=bx5 (S.box 0 rfl);obtain⟨⟨pc0,pf0⟩,⟨pc1,pf1⟩,⟨pc2,pf2⟩,⟨pc3,pf3⟩,⟨pc4,pf4⟩⟩:=bx5 (S.box 1 rfl)
 go_wp2_with fail
 clear qc0 qf0 qc1 qf1 qc2 qf2 qc3 qf3 qc4 qf4 pc0 pf0 pc1 pf1 pc2 pf2 pc3 pf3 pc4 pf4;refine(sameTree_eq a b cp dp T _ hl HT.out (hc.ext S.ext) (hd.ext S.ext)).mono ?_;rintro e w2 ⟨v1,rfl,hv1,hE⟩;obtain rfl:v1=true:=hv1.2 trivial;replace S:=S.step hE;clear hE;go_wp2;go_ret;exact RetB.mk true rfl (by simp) S.ext
theorem rdN_none (w:World):RdN w none []:=⟨[],rfl,fun i hi=>absurd hi (Nat.not_lt_zero _),fun c hc=>by cases hc⟩
theorem sm_all {T:List Nd} (h:∀x∈T,SmN 200000 x):∀x∈T,SmN 1048576 x:=fun x hx=>by
 have:=h x hx;exact⟨by have:=this.1;omega,by have:=this.2.1;omega,fun s hs=>by have:=this.2.2.1 s hs;omega,by have:=this.2.2.2;omega⟩
theorem sameKernel_is {T R:List Nd} {r c s g cr cc cs cg:Int} (e:T=R∧r=cr∧c=cc∧s=cs∧g=cg) (a b:Option Addr) (cp dp:Nat) (w:World) (hl:T.length≤1048576) (hT:∀x∈T,SmN 1048576 x) (hc:RdN w a T) (hd:RdN w b R) :
  Calls Tryz.prog 17 #[.agg #[.slice a T.length cp,.int .i64 r,.int .i64 c,.int .i64 s,.int .i64 g],.agg #[.slice b R.length dp,.int .i64 cr,.int .i64 cc,.int .i64 cs,.int .i64 cg]] w (RetB True w):=by
 obtain⟨rfl,rfl,rfl,rfl,rfl⟩:=e;exact sameKernel_eq a b cp dp T r c s g w hl hT hc hd
def FlOk (f:Int):Prop:=0≤f∧f≤7
theorem fl0:FlOk 0:=⟨by decide,by decide⟩
theorem fl1:FlOk 1:=⟨by decide,by decide⟩
theorem fl2:FlOk 2:=⟨by decide,by decide⟩
theorem fl3:FlOk 3:=⟨by decide,by decide⟩
theorem fl4:FlOk 4:=⟨by decide,by decide⟩
theorem fl5:FlOk 5:=⟨by decide,by decide⟩
theorem fl6:FlOk 6:=⟨by decide,by decide⟩
theorem fl7:FlOk 7:=⟨by decide,by decide⟩
theorem ft_ne {f:Int} (h:FlOk f):faultText f≠⟨#[]⟩:=by
 obtain⟨h0,h1⟩:=h
 rcases(show f=0∨f=1∨f=2∨f=3∨f=4∨f=5∨f=6∨f=7 by omega)with rfl|rfl|rfl|rfl|rfl|rfl|rfl|rfl
 all_goals(unfold faultText;decide)
theorem ff_fl (T:List Nd) (c:Cr):∀(P:List ByteArray) (i:Int),FlOk (findFrom T c P i).2
 | [],i=>fl0
 | p :: P,i=>by
  rw[findFrom]
  split
  ·first|exact fl1|exact fl2|exact fl3|exact fl4
  ·split
   ·first|exact fl1|exact fl2|exact fl3|exact fl4
   ·split
    ·first|exact fl1|exact fl2|exact fl3|exact fl4
    ·split
     ·first|exact fl1|exact fl2|exact fl3|exact fl4
     ·exact ff_fl T c P _
section
variable (T:List Nd) (c:Cr) (s t:ByteArray)
theorem fn_fl:FlOk (findNode T c s).2:=by
 rw[findNode]
 split
 ·exact fl1
 ·split
  ·exact ff_fl ..
  ·exact fl1
theorem pf_fl:FlOk (placeFor T c s).2:=by
 rw[placeFor]
 repeat' split
 all_goals first|exact fl0|exact fl1|exact fl2|exact fl3|exact fl4|exact fl5|exact fl6|exact fl7|exact fn_fl ..
theorem fa_fl:FlOk (folderAbove T c s).2.2:=by
 rw[folderAbove]
 repeat' split
 all_goals first|exact fl0|exact fl1|exact fl2|exact fl3|exact fl4|exact fl5|exact fl6|exact fl7|exact fn_fl ..
theorem md_fl (full:Bool):FlOk (mayDropF T c s full):=by
 rw[mayDropF]
 repeat' split
 all_goals first|exact fl0|exact fl1|exact fl2|exact fl3|exact fl4|exact fl5|exact fl6|exact fl7|exact fa_fl ..
theorem ga_fl (dir:Bool) (want:Int):FlOk (gateAt T c s dir want).2:=by
 rw[gateAt]
 repeat' split
 all_goals first|exact fl0|exact fl1|exact fl2|exact fl3|exact fl4|exact fl5|exact fl6|exact fl7|exact fn_fl ..
theorem mk_fl (folder:Bool) (mode:Int):FlOk (makeNode T c s folder mode).2:=by
 rw[makeNode]
 repeat' split
 all_goals first|exact fl0|exact fl1|exact fl2|exact fl3|exact fl4|exact fl5|exact fl6|exact fl7|exact pf_fl ..
theorem lk_fl:FlOk (linkName T c s t).2:=by
 rw[linkName]
 repeat' split
 all_goals first|exact fl0|exact fl1|exact fl2|exact fl3|exact fl4|exact fl5|exact fl6|exact fl7|exact pf_fl ..|exact fn_fl ..
theorem dn_fl:FlOk (dropName T c s).2:=by
 rw[dropName]
 repeat' split
 all_goals first|exact fl0|exact fl1|exact fl2|exact fl3|exact fl4|exact fl5|exact fl6|exact fl7|exact md_fl ..
theorem mv_fl:FlOk (moveName T c s t).2:=by
 rw[moveName]
 repeat' split
 all_goals first|exact fl0|exact fl1|exact fl2|exact fl3|exact fl4|exact fl5|exact fl6|exact fl7|exact md_fl ..|exact pf_fl ..
theorem wf_fl:FlOk (writeFile T c s t).2:=by
 rw[writeFile]
 repeat' split
 all_goals first|exact fl0|exact fl1|exact fl2|exact fl3|exact fl4|exact fl5|exact fl6|exact fl7|exact ga_fl ..
theorem cm_fl (md:Int):FlOk (changeMode T c s md).2:=by
 rw[changeMode]
 repeat' split
 all_goals first|exact fl0|exact fl1|exact fl2|exact fl3|exact fl4|exact fl5|exact fl6|exact fl7|exact fn_fl ..
theorem rf_fl:FlOk (readFile T c s).2:=by
 rw[readFile]
 repeat' split
 all_goals first|exact fl0|exact fl1|exact fl2|exact fl3|exact fl4|exact fl5|exact fl6|exact fl7|exact ga_fl ..
theorem li_fl:FlOk (listNames T c s).2:=by
 rw[listNames]
 repeat' split
 all_goals first|exact fl0|exact fl1|exact fl2|exact fl3|exact fl4|exact fl5|exact fl6|exact fl7|exact ga_fl ..
end
theorem chF_fl {T:List Nd} {c:Cr} {W:List ByteArray} {r:List Nd×Int} (hr:changeF T c W=some r):FlOk r.2:=by
 unfold changeF at hr
 split at hr
 ·split at hr
  ·cases hr;exact mk_fl ..
  ·split at hr
   ·cases hr;exact mk_fl ..
   ·split at hr
    ·cases hr;exact dn_fl ..
    ·cases hr
 ·split at hr
  ·cases hr;exact wf_fl ..
  ·split at hr
   ·split at hr
    ·cases hr;exact cm_fl ..
    ·cases hr;exact fl1
   ·split at hr
    ·cases hr;exact lk_fl ..
    ·split at hr
     ·cases hr;exact mv_fl ..
     ·cases hr
 ·cases hr
theorem eq_ne (t:ByteArray):(⟨#[61]⟩++t:ByteArray)≠⟨#[]⟩:=fun h=>by
 have h1:=congrArg ByteArray.size h;rw[ByteArray.size_append]at h1;have e1:(⟨#[61]⟩:ByteArray).size=1:=rfl;have e0:(⟨#[]⟩:ByteArray).size=0:=rfl;omega
theorem tellF_ne (T:List Nd) (c:Cr) (W:List ByteArray):tellF T c W≠⟨#[]⟩:=by
 unfold tellF
 split
 ·split
  ·split
   ·exact eq_ne _
   ·exact ft_ne (rf_fl ..)
  ·split
   ·split
    ·exact eq_ne _
    ·exact ft_ne (li_fl ..)
   ·exact ft_ne fl1
 ·exact ft_ne fl1
theorem callF_ne (T:List Nd) (c:Cr) (W:List ByteArray):(callF T c W).2≠⟨#[]⟩:=by
 unfold callF
 split
 ·rename_i r hr;unfold doneT
  split
  ·exact ft_ne fl0
  ·exact ft_ne (chF_fl hr)
 ·exact tellF_ne T c W
theorem callF_kept (T:List Nd) (c:Cr) (W:List ByteArray):(callF T c W).2=⟨#[110,111,110,101]⟩∨(callF T c W).1=T:=by
 unfold callF
 split
 ·unfold doneT
  split
  ·exact .inl rfl
  ·exact .inr rfl
 ·exact .inr rfl
theorem fnCallLine_any (ac:Option Addr) (capc:Nat) (code:List Int) (w:World) (hm:MaxG w) (hlc:code.length≤9223372036854775807) (hcap:code.length≤capc) (hu:∀x∈code,0≤x∧x≤255) (hcc:Rd 1 encU8 w ac code) :
  Calls Tryz.prog 6 #[.slice ac code.length capc] w (RetB True w):=by
 go_enter Tryz.func6,Tryz.ntmps6
 by_cases hbig:1048576 < code.length
 ·have hb:(1048576:Int) < (code.length:Int):=by omega
  go_wp2;go_ret;exact RetB.mk true rfl (by simp) (Ext.refl _)
 have hb:(code.length:Int)≤1048576:=by omega
 have S:=Sep.start w
 go_wp2_with fail
 refine(drawCallLine ac capc code w hlc hcap hu hcc).mono ?_;rintro e w1 ⟨at_,ct,vs,T,r,a,s,g,line,rfl,hT1,hT2,hlz,U⟩;have HLT:Hid (∀t∈T,SmN 1048576 t):=hd0 (sm_all (fun x hx=>(hT2 x hx).1));have HNB:Hid (NB 20 T):=hd0 (fun x hx=>(hT2 x hx).2)
 have hlT:T.length≤1048576:=by omega
 clear hT2 hb hbig;replace S:Sep w w1 [plNd (.slice at_ T.length ct) vs T]:=S.call U;clear U;replace S:=S.alloc_at (n:=w1.heap.size) (by simp) #[.slice at_ T.length ct,.int .i64 r,.int .i64 a,.int .i64 s,.int .i64 g] 31;obtain⟨R,tx,hR⟩:∃R tx,callLine T ⟨r,a,s,g⟩ line=(R,tx):=⟨_,_,rfl⟩;obtain⟨cr,ca,cs,cg,hcr⟩:∃cr ca cs cg,callCr T ⟨r,a,s,g⟩=⟨cr,ca,cs,cg⟩:=⟨_,_,_,_,rfl⟩
 have HSp:Hid (∀(a1:Option Addr) (c1:Nat) (w':World),RdN w' a1 T→Calls Tryz.prog 8 #[.agg #[.slice a1 T.length c1,.int .i64 r,.int .i64 a,.int .i64 s,.int .i64 g],.string line] w' (fun e w''=>∃u vs,e=.returned (.tuple #[.agg #[u,.int .i64 cr,.int .i64 ca,.int .i64 cs,.int .i64 cg],.string tx])∧Sep w' w'' [plNd u vs R])):=hd0 (fun a1 c1 w' hrd=>by
  have h:=specCallLine a1 c1 T r a s g line w' (by omega) hlT HLT.out (fun _=>nb_more HNB.out (by omega)) hrd;rw[hR,hcr]at h
  exact h)
 have HIm:Hid (∀(a1:Option Addr) (c1:Nat) (w':World),RdN w' a1 T→MaxG w'→Calls Tryz.prog 10 #[.agg #[.slice a1 T.length c1,.int .i64 r,.int .i64 a,.int .i64 s,.int .i64 g],.string line] w' (fun e w''=>∃u vs,e=.returned (.tuple #[.agg #[u,.int .i64 cr,.int .i64 ca,.int .i64 cs,.int .i64 cg],.string tx])∧Sep w' w'' [plNd u vs R])):=hd0 (fun a1 c1 w' hrd hm'=>by
  have h:=implCallLine a1 c1 T r a s g line w' (by omega) hlT HLT.out (fun _=>nb_more HNB.out (by omega)) hrd hm';rw[hR,hcr]at h
  exact h)
 have HBd:Hid (Small R):=hd0 (by have h:=line_small (c:=⟨r,a,s,g⟩) (fun _=>nb_more HNB.out (by omega)) line;rw[hR]at h;exact h)
 have HNo:Hid (¬(TreeOk T∧CredOk r a s g)→(R=[]∧cr=0∧ca=0∧cs=0∧cg=0)∧tx=⟨#[]⟩):=hd0 (fun h=>by
  have h0:¬(TreeOk T∧Cr.ok ⟨r,a,s,g⟩):=h;unfold callLine at hR;unfold callCr at hcr;rw[if_neg h0]at hR hcr
  cases hR
  cases hcr
  exact⟨⟨rfl,rfl,rfl,rfl,rfl⟩,rfl⟩)
 have HYe:Hid (TreeOk T∧CredOk r a s g→(r=cr∧a=ca∧s=cs∧g=cg)∧TreeOk R∧tx≠⟨#[]⟩∧(tx=⟨#[110,111,110,101]⟩∨R=T)):=hd0 (fun h=>by
  have h0:TreeOk T∧Cr.ok ⟨r,a,s,g⟩:=h;have h1:=callF_ok h.1 HNB.out ⟨r,a,s,g⟩ (wordsB line);have h2:=callF_ne T ⟨r,a,s,g⟩ (wordsB line);have h3:=callF_kept T ⟨r,a,s,g⟩ (wordsB line);rw[callLine_ok h0]at hR;unfold callCr at hcr;rw[if_pos h0]at hcr;rw[hR]at h1 h2 h3
  cases hcr
  exact⟨⟨rfl,rfl,rfl,rfl⟩,h1.1,h2,h3⟩)
 clear hR hcr HNB;have hlR:R.length≤1048576:=HBd.out.1;obtain⟨⟨bmc0,bmf0⟩,⟨bmc1,bmf1⟩,⟨bmc2,bmf2⟩,⟨bmc3,bmf3⟩,⟨bmc4,bmf4⟩⟩:=bx5 (S.box 0 rfl)
 go_wp2_with fail
 generalize (w1.alloc (.cells #[.slice at_ T.length ct,.int .i64 r,.int .i64 a,.int .i64 s,.int .i64 g] 31))=w2 at *;clear bmc0 bmf0 bmc1 bmf1 bmc2 bmf2 bmc3 bmf3 bmc4 bmf4;refine(HIm.out at_ ct _ (S.rdN 1 rfl) (hm.ext S.ext)).mono ?_;rintro e w3 ⟨uG,vG,rfl,U⟩;obtain⟨aG,cG,rfl,_,_⟩:=nd_view (U.at_ 0 rfl);replace S:Sep w w3 [plNd (.slice aG R.length cG) vG R,plBox w1.heap.size #[.slice at_ T.length ct,.int .i64 r,.int .i64 a,.int .i64 s,.int .i64 g] 31,plNd (.slice at_ T.length ct) vs T]:=S.call U;clear U;replace S:=S.alloc_at (n:=w3.heap.size) (by simp) #[.slice aG R.length cG,.int .i64 cr,.int .i64 ca,.int .i64 cs,.int .i64 cg] 31;obtain⟨⟨bmc0,bmf0⟩,⟨bmc1,bmf1⟩,⟨bmc2,bmf2⟩,⟨bmc3,bmf3⟩,⟨bmc4,bmf4⟩⟩:=bx5 (S.box 2 rfl)
 go_wp2_with fail
 generalize (w3.alloc (.cells #[.slice aG R.length cG,.int .i64 cr,.int .i64 ca,.int .i64 cs,.int .i64 cg] 31))=w4 at *;clear bmc0 bmf0 bmc1 bmf1 bmc2 bmf2 bmc3 bmf3 bmc4 bmf4;refine(HSp.out at_ ct _ (S.rdN 3 rfl)).mono ?_;rintro e w5 ⟨uW,vW,rfl,U⟩;obtain⟨aW,cW,rfl,_,_⟩:=nd_view (U.at_ 0 rfl);replace S:Sep w w5 [plNd (.slice aW R.length cW) vW R,plBox w3.heap.size #[.slice aG R.length cG,.int .i64 cr,.int .i64 ca,.int .i64 cs,.int .i64 cg] 31,plNd (.slice aG R.length cG) vG R,plBox w1.heap.size #[.slice at_ T.length ct,.int .i64 r,.int .i64 a,.int .i64 s,.int .i64 g] 31,plNd (.slice at_ T.length ct) vs T]:=S.call U;clear U;replace S:=S.alloc_at (n:=w5.heap.size) (by simp) #[.slice aW R.length cW,.int .i64 cr,.int .i64 ca,.int .i64 cs,.int .i64 cg] 31;obtain⟨⟨bxc0,bxf0⟩,⟨bxc1,bxf1⟩,⟨bxc2,bxf2⟩,⟨bxc3,bxf3⟩,⟨bxc4,bxf4⟩⟩:=bx5 (S.box 2 rfl)
 go_wp2_with fail
 generalize (w5.alloc (.cells #[.slice aW R.length cW,.int .i64 cr,.int .i64 ca,.int .i64 cs,.int .i64 cg] 31))=w6 at *;clear bxc0 bxf0 bxc1 bxf1 bxc2 bxf2 bxc3 bxf3 bxc4 bxf4;refine(sameKernel_eq aG aW cG cW R cr ca cs cg _ hlR HBd.out.2.1 (S.rdN 3 rfl) (S.rdN 1 rfl)).mono ?_;rintro e w7 ⟨q,rfl,hq,hE⟩;obtain rfl:q=true:=hq.2 trivial;clear hq;replace S:=S.step hE;clear hE;obtain⟨⟨bmc0,bmf0⟩,⟨bmc1,bmf1⟩,⟨bmc2,bmf2⟩,⟨bmc3,bmf3⟩,⟨bmc4,bmf4⟩⟩:=bx5 (S.box 4 rfl);obtain⟨⟨bxc0,bxf0⟩,⟨bxc1,bxf1⟩,⟨bxc2,bxf2⟩,⟨bxc3,bxf3⟩,⟨bxc4,bxf4⟩⟩:=bx5 (S.box 2 rfl)
 go_wp2_with fail
 clear bmc0 bmf0 bmc1 bmf1 bmc2 bmf2 bmc3 bmf3 bmc4 bmf4 bxc0 bxf0 bxc1 bxf1 bxc2 bxf2 bxc3 bxf3 bxc4 bxf4;refine(implKernelValid at_ ct T r a s g _ hlT HLT.out (S.rdN 5 rfl)).mono ?_;rintro e w8 ⟨v0,rfl,hv0,hE⟩;have Hv0:=hd0 hv0;clear hv0;replace S:=S.step hE;clear hE
 cases v0 with
 | false =>
  have HN:=hd0 (HNo.out (fun h=>Bool.noConfusion (Hv0.out.2 h)));obtain rfl:=HN.out.2;clear HNo HYe;obtain⟨⟨bxc0,bxf0⟩,⟨bxc1,bxf1⟩,⟨bxc2,bxf2⟩,⟨bxc3,bxf3⟩,⟨bxc4,bxf4⟩⟩:=bx5 (S.box 2 rfl)
  go_wp2_with fail
  clear bxc0 bxf0 bxc1 bxf1 bxc2 bxf2 bxc3 bxf3 bxc4 bxf4;refine(sameKernel_is (R:=[]) HN.out.1 aG none cG 0 _ hlR HBd.out.2.1 (S.rdN 3 rfl) (rdN_none _)).mono ?_;rintro e w9 ⟨q,rfl,hq,hE⟩;obtain rfl:q=true:=hq.2 trivial;clear hq;replace S:=S.step hE;clear hE
  go_wp2_with fail
  refine(alive_any _).mono ?_;rintro e w10 ⟨q,rfl,hq,hE⟩;obtain rfl:q=true:=hq.2 trivial;clear hq;replace S:=S.step hE;clear hE;go_wp2;go_ret;exact RetB.mk true rfl (by simp) S.ext
 | true =>
  have HV:=hd0 (Hv0.out.1 rfl);have HY:=hd0 (HYe.out HV.out);clear Hv0 HNo HYe HIm HSp;obtain⟨hy1,hy2,hy3,hy4⟩:=HY.out.1;subst hy1 hy2 hy3 hy4;obtain⟨⟨bxc0,bxf0⟩,⟨bxc1,bxf1⟩,⟨bxc2,bxf2⟩,⟨bxc3,bxf3⟩,⟨bxc4,bxf4⟩⟩:=bx5 (S.box 2 rfl)
  go_wp2_with fail
  clear bxc0 bxf0 bxc1 bxf1 bxc2 bxf2 bxc3 bxf3 bxc4 bxf4;refine(implKernelValid aG cG R r a s g _ hlR HBd.out.2.1 (S.rdN 3 rfl)).mono ?_;rintro e w9 ⟨q,rfl,hq,hE⟩;obtain rfl:q=true:=hq.2 ⟨HY.out.2.1,HV.out.2⟩;clear hq;replace S:=S.step hE;clear hE
  by_cases hnone:tx=⟨#[110,111,110,101]⟩
  ·subst hnone;obtain⟨⟨bmc0,bmf0⟩,⟨bmc1,bmf1⟩,⟨bmc2,bmf2⟩,⟨bmc3,bmf3⟩,⟨bmc4,bmf4⟩⟩:=bx5 (S.box 4 rfl);obtain⟨⟨bxc0,bxf0⟩,⟨bxc1,bxf1⟩,⟨bxc2,bxf2⟩,⟨bxc3,bxf3⟩,⟨bxc4,bxf4⟩⟩:=bx5 (S.box 2 rfl)
   have t1:((⟨#[110,111,110,101]⟩:ByteArray).toList == [])=false:=by rw[ByteArray.toList_eq];rfl
   have t2:((⟨#[110,111,110,101]⟩:ByteArray).toList == [110,111,110,101])=true:=by rw[ByteArray.toList_eq];rfl
   go_wp2;go_ret;exact RetB.mk true rfl (by simp) S.ext
  ·have hne:=HY.out.2.2.1;have t1:(tx.toList == [])=false:=Bool.eq_false_iff.2 (fun h=>hne (bytes_eq.1 (by rw[eq_of_beq h,ByteArray.toList_eq])));have t2:(tx.toList == [110,111,110,101])=false:=Bool.eq_false_iff.2 (fun h=>hnone (bytes_eq.1 (by rw[eq_of_beq h,ByteArray.toList_eq])));obtain⟨⟨bmc0,bmf0⟩,⟨bmc1,bmf1⟩,⟨bmc2,bmf2⟩,⟨bmc3,bmf3⟩,⟨bmc4,bmf4⟩⟩:=bx5 (S.box 4 rfl);obtain⟨⟨bxc0,bxf0⟩,⟨bxc1,bxf1⟩,⟨bxc2,bxf2⟩,⟨bxc3,bxf3⟩,⟨bxc4,bxf4⟩⟩:=bx5 (S.box 2 rfl)
   go_wp2_with fail
   clear bmc0 bmf0 bmc1 bmf1 bmc2 bmf2 bmc3 bmf3 bmc4 bmf4 bxc0 bxf0 bxc1 bxf1 bxc2 bxf2 bxc3 bxf3 bxc4 bxf4;refine(sameKernel_is ⟨HY.out.2.2.2.resolve_left hnone,rfl,rfl,rfl,rfl⟩ aG at_ cG ct _ hlR HBd.out.2.1 (S.rdN 3 rfl) (S.rdN 5 rfl)).mono ?_;rintro e w10 ⟨q,rfl,hq,hE⟩;obtain rfl:q=true:=hq.2 trivial;clear hq;replace S:=S.step hE;clear hE;go_wp2;go_ret;exact RetB.mk true rfl (by simp) S.ext
end Go.Proofs.YtnibbldfohbfkaaGreatDoor

/- FnCallLine returns true and leaves its argument alone, for every argument that can be read; what its row lists is tied to the text. No condition. -/
namespace Go.Proofs.YtnibbldfohbfkaaGreatDoor.fnCallLine
open Go.ChangeShapes Go.WideShapes Go.ChangeAt Go.RowKit Go.Deep
theorem lifted (os : Os) (started : os.Started) (H : Type) (enc : TypeId × Value → H) :
  ReturnsInHanded {} Tryz.checked os 6 .any (fun w args => (Rows.fnCallLineSpec.pre enc Tryz.prog Tryz.f6 Rows.fnCallLineRow.domain false w args ∧ laidMetH Tryz.prog Rows.fnCallLineRow.laid w) ∧ sizedMet enc Tryz.prog Tryz.f6 (OpenSpec.ofChange Rows.fnCallLineSpec) false w args) (Rows.fnCallLineSpec.post enc Tryz.prog Tryz.f6 false true false false) := by
 refine wrapD (C := Tryz.checked) rowOwn started (by kernel_rfl) Tryz.func6
  (ChangeSpec.witness_shaped (enc := enc) (C := Tryz.checked) (os := os) (X := fun w _ => laidMetH Tryz.prog Rows.fnCallLineRow.laid w) false (World.laidAll Tryz.prog os Rows.fnCallLineRow.laid) #[.slice none 0 0] 8 (World.laidAll_os _ _ _) (World.shaped_of_ZipB (by kernel_rfl) (by kernel_rfl)) (by kernel_rfl) (by kernel_rfl) (by kernel_rfl) (by rw [MakeChecks.laidMetH_plain _ _ _ (by kernel_rfl)]; exact laidMet_laidAll _ (by kernel_rfl) (by kernel_rfl))) ?_
 intro W base args ds gs before hval0 hW hsh; obtain ⟨m, hm⟩ : ∃ m, W.cell? ⟨maxLenG, 0, none⟩ = some (.int .i64 m) := cell_of_shapedOpen_int (P := Tryz.prog) (t := 3) (zero := #[.int .i64 0]) hsh (by decide +kernel) (by kernel_rfl) rfl (by kernel_rfl) (by kernel_rfl) Tryz.underlying3; have hval : ∀ (j : Nat) t v, Tryz.f6.params[j]? = some t → args[j]? = some v → Value.okWide Tryz.prog W .any base t v := hval0; have hW' := hW; obtain ⟨p, q, hA0, hV, rfl, hfz, hnd⟩ := hW; have hA : DataW.TrodAll enc Tryz.prog W 0 (fun _ => true) true Tryz.f6.params.toList args.toList ds p := hA0; rw [Tryz.params6] at hA hval; obtain ⟨v0, vs0, d0, ds0, p0, q0, hargs, rfl, rfl, h0, r0⟩ := trodAll_cons hA; obtain ⟨rfl, rfl, rfl⟩ := trodAll_nil r0
 obtain rfl : args = #[v0] := by cases args; simp_all
 obtain ⟨rfl, rfl⟩ := trodVars_none hV; obtain ⟨acode, capcode, code, rfl, hlcode, hgcode, hrcode⟩ := open_rd_arg (encA := encU8) (good := fun x => 0 ≤ x ∧ x ≤ 255) Tryz.underlying38 (by kernel_rfl : Tryz.prog.cellsOf 5 = 1) (by omega) encU8_len openU8 (hval 0 38 v0 rfl rfl) h0; have hkcode := trod_cap Tryz.underlying38 h0
 refine (fnCallLine_any acode capcode code W ⟨m, hm⟩ hlcode hkcode hgcode hrcode).mono fun e W' ⟨b, he, hb, hE⟩ => ?_
 obtain rfl : b = true := hb.2 trivial; subst he; exact ⟨_, rfl, law_post (tb := 4) rowLaid hW' rfl (by kernel_rfl) Tryz.underlying4 (by rw [Tryz.params6]; exact (by decide +kernel)) rfl rfl rfl hE⟩
theorem said : Rows.FnCallLineSaid :=
 OpenClaim.holds_of_wide 6 Tryz.f6 rfl rfl rfl rfl rfl rfl rfl ⟨rfl, rfl, rfl, rfl, rfl⟩ rfl rfl rfl rfl rfl (by kernel_rfl) Tryz.func6 (by kernel_rfl)
  (of_decide_eq_true (by kernel_rfl)) (by unfold Func.isWrapper; first | (rw [if_pos (by decide +kernel)]; kernel_rfl) | (rw [if_neg (by decide +kernel)]; exact ⟨rfl, rfl⟩))
  (fun os started H enc _ => lifted os started H enc)
theorem proved : Rows.FnCallLineCardSaid :=
 Claim7.holds_tied_plain_at .later [] [.data, .pinned] true (true, "8145477ae8edc14bff9d8d1b452ee3239b57e774fe05c38056aa3212d8f66624") false said (fun _ h => by cases h) (by kernel_rfl) (fun _ h => by cases h) fnCallLine_row_tie rfl ⟨rfl, rfl⟩ (by kernel_rfl) rfl
  (fun f fn hf hfn => by
   obtain rfl : f = 6 := Option.some.inj ((show Tryz.prog.funcNamed "loop.example/userspaces/laws.FnCallLine" = some 6 by kernel_rfl).symm.trans hf) |>.symm
   obtain rfl : fn = Tryz.f6 := (Option.some.inj (Tryz.func6.symm.trans hfn)).symm
   exact ⟨by kernel_rfl, fun j t ht => by
    rw [Tryz.params6] at ht
    have hm : t ∈ [38] := by simpa using Array.mem_of_getElem? ht
    have hall : ([38].all fun u => !Tryz.prog.wantsStandIn u) = true := by kernel_rfl
    exact (show Tryz.prog.wantsStandIn t = false by simpa using List.all_eq_true.1 hall t hm)⟩)
  (by kernel_rfl)
#print axioms proved
end Go.Proofs.YtnibbldfohbfkaaGreatDoor.fnCallLine
