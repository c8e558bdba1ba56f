/- Parts of one proof: what each theorem proves, and its conditions, stand in its own statement. -/
import Derived.Test.YtnibbldfohbfkaaGreatDoorMn22
import Derived.Test.YtnibbldfohbfkaaGreatDoorMn25
set_option linter.all false
set_option maxRecDepth 100000
set_option maxHeartbeats 32000000
namespace Go.Proofs.YtnibbldfohbfkaaGreatDoor
open Go.RowKit
def TxQ (M:Nat) (v:Value) (_:World):Prop:=∃s:ByteArray,v=.string s∧s.size≤M
def nmOdd:List ByteArray:=[⟨#[]⟩,⟨#[49,97]⟩,⟨#[65]⟩,⟨#[97,95,98]⟩,⟨#[97,98,99,100,101,102,103,104,105]⟩,⟨#[97,47,98]⟩]
theorem nmOdd_len:nmOdd.length=6:=rfl
theorem nmOdd_fit:∀t∈nmOdd,t.size≤9:=by decide
def nmGood:List ByteArray:=[⟨#[97]⟩,⟨#[98]⟩,⟨#[99,49]⟩,⟨#[116,109,112]⟩]
theorem nmGood_len:nmGood.length=4:=rfl
theorem nmGood_fit:∀t∈nmGood,t.size≤9:=by decide
def ptOdd:List ByteArray:=[⟨#[]⟩,⟨#[97]⟩,⟨#[47,47]⟩,⟨#[47,97,47]⟩,⟨#[47,65]⟩,⟨#[47,97,47,97,47,97,47,97,47,97,47,97,47,97]⟩,⟨#[47,97,47,47,98]⟩]
theorem ptOdd_len:ptOdd.length=7:=rfl
theorem ptOdd_fit:∀t∈ptOdd,t.size≤54:=by decide
def nwLast:List ByteArray:=[⟨#[97]⟩,⟨#[98]⟩,⟨#[110,101,119]⟩,⟨#[122]⟩]
theorem nwLast_len:nwLast.length=4:=rfl
theorem nwLast_fit:∀t∈nwLast,t.size≤9:=by decide
def wrTx:List ByteArray:=[⟨#[97,98,99]⟩,⟨#[120]⟩,⟨#[]⟩]
theorem wrTx_len:wrTx.length=3:=rfl
theorem wrTx_fit:∀t∈wrTx,t.size≤9:=by decide
def mdTx:List ByteArray:=[⟨#[114,119,120,114,119,120,114,119,120]⟩,⟨#[114,119,45,114,45,45,114,45,45]⟩,⟨#[45,45,45,45,45,45,45,45,45]⟩,⟨#[114,119,120]⟩]
theorem mdTx_len:mdTx.length=4:=rfl
theorem mdTx_fit:∀t∈mdTx,t.size≤9:=by decide
def clOdd:List ByteArray:=[⟨#[]⟩,⟨#[114,101,97,100]⟩,⟨#[108,105,115,116]⟩,⟨#[100,97,110,99,101,32,47,97]⟩,⟨#[102,111,108,100,101,114]⟩,⟨#[119,114,105,116,101,32,47,97]⟩,⟨#[114,101,97,100,32,47,97,32,47,98]⟩,⟨#[100,114,111,112,32,32,47,97]⟩]
theorem clOdd_len:clOdd.length=8:=rfl
theorem clOdd_fit:∀t∈clOdd,t.size≤200:=by decide
theorem nwLast_way:∀t∈nwLast,∃h:0 < t.size,t[0].toNat≠47:=by decide
theorem drawName (g:Nat) (P n:Int) (w:World) (hs:Src g P w) (hP:P≤900000) (hn:n≤1000000) :
  Calls Tryz.prog 180 #[.pointer (some ⟨g,0,none⟩),.int .i64 n] w (RetD g P 2 (TxQ 9) w):=by
 go_enter Tryz.func180,Tryz.ntmps180
 go_wp2_with fail
 refine(odd_any g P n w hs (by omega) hn).mono ?_;rintro e w1 ⟨v,rfl,⟨b,rfl,_⟩,hs1,hS⟩;clear hs
 cases b with
 | true =>
  have S:=SepM.begin (fun b=>b=g) w1 (fun b h=>h ▸ hs1.lt);replace S:SepM (fun b=>b=g) w1 (w1.alloc (.cells #[.string ⟨#[]⟩,.string ⟨#[49,97]⟩,.string ⟨#[65]⟩,.string ⟨#[97,95,98]⟩,.string ⟨#[97,98,99,100,101,102,103,104,105]⟩,.string ⟨#[97,47,98]⟩] 9)) [plRow 9 1 encStr1 (.slice (some ⟨w1.heap.size,0,none⟩) 6 6) nmOdd]:=S.lit (by simp) _ _ encStr1_len nmOdd rfl rfl (by omega);have hsa:Src g (P+1) (w1.alloc (.cells #[.string ⟨#[]⟩,.string ⟨#[49,97]⟩,.string ⟨#[65]⟩,.string ⟨#[97,95,98]⟩,.string ⟨#[97,98,99,100,101,102,103,104,105]⟩,.string ⟨#[97,47,98]⟩] 9)):=hs1.ext ((Ext.refl _).alloc _);have sta:Step g w (w1.alloc (.cells #[.string ⟨#[]⟩,.string ⟨#[49,97]⟩,.string ⟨#[65]⟩,.string ⟨#[97,95,98]⟩,.string ⟨#[97,98,99,100,101,102,103,104,105]⟩,.string ⟨#[97,47,98]⟩] 9)):=hS.alloc _
  go_wp2_with fail
  generalize (w1.alloc (.cells #[.string ⟨#[]⟩,.string ⟨#[49,97]⟩,.string ⟨#[65]⟩,.string ⟨#[97,95,98]⟩,.string ⟨#[97,98,99,100,101,102,103,104,105]⟩,.string ⟨#[97,47,98]⟩] 9))=wa at *;refine(pick_any g (P+1) 6 _ hsa (by omega)).mono ?_;rintro e wq ⟨v,rfl,⟨i,rfl,x0,x1,_⟩,hs3,hS3⟩;replace S:=S.other (Chg.of_step hS3);replace x1:=x1 (by omega);obtain⟨k,rfl⟩:∃k:Nat,i=k:=⟨i.toNat,by omega⟩;obtain⟨tx,htx,hcell⟩:=lit_at (S.rd 0 encStr1_len rfl nmOdd_len.symm) (k:=k) (by rw[nmOdd_len];omega)
  have c0:wq.cell? ⟨w1.heap.size,k,none⟩=some (.string tx):=by have:=hcell 0 _ rfl;simpa using this
  have htm:=nmOdd_fit tx htx;have st3:=sta.trans hS3;clear hcell hS3 hsa sta S;go_wp2;go_ret;exact RetD.mk ⟨tx,rfl,htm⟩ hs3 (by omega) st3
 | false =>
  have S:=SepM.begin (fun b=>b=g) w1 (fun b h=>h ▸ hs1.lt);replace S:SepM (fun b=>b=g) w1 (w1.alloc (.cells #[.string ⟨#[97]⟩,.string ⟨#[98]⟩,.string ⟨#[99,49]⟩,.string ⟨#[116,109,112]⟩] 9)) [plRow 9 1 encStr1 (.slice (some ⟨w1.heap.size,0,none⟩) 4 4) nmGood]:=S.lit (by simp) _ _ encStr1_len nmGood rfl rfl (by omega);have hsa:Src g (P+1) (w1.alloc (.cells #[.string ⟨#[97]⟩,.string ⟨#[98]⟩,.string ⟨#[99,49]⟩,.string ⟨#[116,109,112]⟩] 9)):=hs1.ext ((Ext.refl _).alloc _);have sta:Step g w (w1.alloc (.cells #[.string ⟨#[97]⟩,.string ⟨#[98]⟩,.string ⟨#[99,49]⟩,.string ⟨#[116,109,112]⟩] 9)):=hS.alloc _
  go_wp2_with fail
  generalize (w1.alloc (.cells #[.string ⟨#[97]⟩,.string ⟨#[98]⟩,.string ⟨#[99,49]⟩,.string ⟨#[116,109,112]⟩] 9))=wa at *;refine(pick_any g (P+1) 4 _ hsa (by omega)).mono ?_;rintro e wq ⟨v,rfl,⟨i,rfl,x0,x1,_⟩,hs3,hS3⟩;replace S:=S.other (Chg.of_step hS3);replace x1:=x1 (by omega);obtain⟨k,rfl⟩:∃k:Nat,i=k:=⟨i.toNat,by omega⟩;obtain⟨tx,htx,hcell⟩:=lit_at (S.rd 0 encStr1_len rfl nmGood_len.symm) (k:=k) (by rw[nmGood_len];omega)
  have c0:wq.cell? ⟨w1.heap.size,k,none⟩=some (.string tx):=by have:=hcell 0 _ rfl;simpa using this
  have htm:=nmGood_fit tx htx;have st3:=sta.trans hS3;clear hcell hS3 hsa sta S;go_wp2;go_ret;exact RetD.mk ⟨tx,rfl,htm⟩ hs3 (by omega) st3
def RetDN (g:Nat) (P:Int) (w:World) (e:Ending) (w':World):Prop:=∃u L,e=.returned u∧L.length≤5∧(∀s∈L,s.size≤9)∧Src g (P+12) w'∧SepM (fun b=>b=g) w w' [plRow 9 1 encStr1 u L]
theorem drawNames (g:Nat) (P n:Int) (w:World) (hs:Src g P w) (hP:P≤800000) (hn:n≤1000000) :
  Calls Tryz.prog 159 #[.pointer (some ⟨g,0,none⟩),.int .i64 n] w (RetDN g P w):=by
 have hg:=hs.lt
 go_enter Tryz.func159,Tryz.ntmps159
 have S:=SepM.begin (fun b=>b=g) w (fun b h=>h ▸ hg);replace S:SepM (fun b=>b=g) w (w.alloc (.cells #[] 9)) [plRow 9 1 encStr1 (.slice (some ⟨w.heap.size,0,none⟩) 0 0) []]:=S.lit0 (by simp) _ _ _;have hs1:Src g P (w.alloc (.cells #[] 9)):=hs.ext ((Ext.refl _).alloc _)
 go_wp2_with fail
 generalize (w.alloc (.cells #[] 9))=w1 at *;refine(pick_any g P 4 _ hs1 (by omega)).mono ?_;rintro e w2 ⟨v,rfl,⟨i,rfl,x0,x1,_⟩,hs2,hS⟩;replace S:=S.other (Chg.of_step hS);replace x1:=x1 (by omega);obtain⟨k0,rfl⟩:∃k:Nat,i=k:=⟨i.toNat,by omega⟩
 have hk3:k0≤3:=by omega
 have S1:=hd0 S;clear x0 x1 hS hs1 hs S;go_wp2
 go_loopw [5,6] (fun o i wr=>∃(k:Nat) (a:Option Addr) (c:Nat) (L:List ByteArray),k≤3∧i=.int .i64 k∧o=.slice a L.length c∧L.length+k≤3∧(∀s∈L,s.size≤9)∧Src g (P+1+2*(3 - (k:Int))) wr∧SepM (fun b=>b=g) w wr [plRow 9 1 encStr1 (.slice a L.length c) L]) (fun _ i _=>(intOf i).toNat)
 case atStart=>exact⟨k0,_,_,[],by omega,rfl,rfl,by simp;omega,(fun s hs=>by cases hs),hs2.mono (by omega),S1.out⟩
 case round =>
  clear S1 hs2 hk3;obtain⟨k,a,c,L,hk,rfl,rfl,hlen,hL,hs3,S⟩:=hrel;have HL:=hd0 hL;clear hL
  by_cases hk0:k=0
  ·subst hk0
   go_wp2_with fail
   refine(odd_any g _ n wr hs3 (by omega) hn).mono ?_;rintro e w4 ⟨v,rfl,⟨b,rfl,_⟩,hs4a,hS4⟩;replace S:SepM (fun b=>b=g) w w4 [plRow 9 1 encStr1 (.slice a L.length c) L]:=(S.other (Chg.of_step hS4));clear hS4 hs3
   cases b with
   | false =>
    go_wp2;go_ret;exact⟨_,L,rfl,by omega,HL.out,hs4a.mono (by omega),S⟩
   | true =>
    go_wp2_with fail
    refine(drawName g _ 1 w4 hs4a (by omega) (by omega)).mono ?_;rintro e w5 ⟨v,rfl,⟨tx,rfl,htm⟩,hs4,hS5⟩;replace S:=S.other (Chg.of_step hS5);clear hS5 hs4a;have SA:=S.alloc #[.string tx] 9;have rd1:Rd 1 encStr1 (w5.alloc (.cells #[.string tx] 9)) (some ⟨w5.heap.size,0,none⟩) [tx]:=rd_lit_new [tx] encStr1_len rfl
    go_wp2_with (at_builtin;refine Hid.out (?_:Hid _))
    unfold Hid;refine wpList_append_b rfl _ _ 39 rfl w.heap.size 9 _ 1 _ Tryz.underlying39 infoStr1 rfl (by decide) encStr1_len encStr1_one _ L.length L rfl (SA.row (0+1) rfl) rfl (some ⟨w5.heap.size,0,none⟩) 1 1 [tx] rfl rfl rd1 (by omega) (by omega) SA.chg.size ?_;intro v7 w7 ho hgr hblk;obtain⟨G,hG⟩:∃G,G=L++[tx]:=⟨_,rfl⟩
    have hGl:G.length=L.length+1:=by rw[hG];simp
    have hGs:∀s∈G,s.size≤9:=fun s hs=>by
     rw[hG]at hs
     rcases List.mem_append.1 hs with hs|hs
     ·exact HL.out s hs
     ·rw[List.mem_singleton.1 hs];exact htm
    rw[←hG]at ho;obtain⟨a7,c7,hv7,_,_,_⟩:=view_owns encStr1_len ho;subst hv7;have SM:=(SA.grow (0+1) rfl hgr ho hblk).drop 0
    have hs7:=(hs4.ext ((Ext.refl _).alloc (.cells #[.string tx] 9))).row hgr (fun i hi=>by
     have h1:=(SA.lt (List.mem_of_getElem? (show _[0+1]?=some _ from rfl)) (show(plRow 9 1 encStr1 _ L).own i from hi)).1
     omega)
    have HGs:=hd0 hGs;have HGl:=hd0 hGl;clear hGl ho hgr hblk SA rd1 S hG hGs;go_wp2;go_ret;exact⟨_,G,rfl,by have:=HGl.out;omega,HGs.out,hs7.mono (by omega),SM⟩
  ·have i0:(0:Int) < (k:Int):=by omega
   go_wp2_with fail
   refine(drawName g _ 0 wr hs3 (by omega) (by omega)).mono ?_;rintro e w5 ⟨v,rfl,⟨tx,rfl,htm⟩,hs4,hS5⟩;replace S:=S.other (Chg.of_step hS5);clear hS5 hs3;have SA:=S.alloc #[.string tx] 9;have rd1:Rd 1 encStr1 (w5.alloc (.cells #[.string tx] 9)) (some ⟨w5.heap.size,0,none⟩) [tx]:=rd_lit_new [tx] encStr1_len rfl
   go_wp2_with (at_builtin;refine Hid.out (?_:Hid _))
   unfold Hid;refine wpList_append_b rfl _ _ 39 rfl w.heap.size 9 _ 1 _ Tryz.underlying39 infoStr1 rfl (by decide) encStr1_len encStr1_one _ L.length L rfl (SA.row (0+1) rfl) rfl (some ⟨w5.heap.size,0,none⟩) 1 1 [tx] rfl rfl rd1 (by omega) (by omega) SA.chg.size ?_;intro v7 w7 ho hgr hblk;obtain⟨G,hG⟩:∃G,G=L++[tx]:=⟨_,rfl⟩
   have hGl:G.length=L.length+1:=by rw[hG];simp
   have hGs:∀s∈G,s.size≤9:=fun s hs=>by
    rw[hG]at hs
    rcases List.mem_append.1 hs with hs|hs
    ·exact HL.out s hs
    ·rw[List.mem_singleton.1 hs];exact htm
   rw[←hG]at ho;obtain⟨a7,c7,hv7,_,_,_⟩:=view_owns encStr1_len ho;subst hv7;have SM:=(SA.grow (0+1) rfl hgr ho hblk).drop 0
   have hs7:=(hs4.ext ((Ext.refl _).alloc (.cells #[.string tx] 9))).row hgr (fun i hi=>by
    have h1:=(SA.lt (List.mem_of_getElem? (show _[0+1]?=some _ from rfl)) (show(plRow 9 1 encStr1 _ L).own i from hi)).1
    omega)
   have HGs:=hd0 hGs;have HGl:=hd0 hGl;clear hGl;obtain⟨m,rfl⟩:∃m,k=m+1:=⟨k - 1,by omega⟩
   have hmk:((m+1:Nat):Int) - 1=(m:Int):=by omega
   clear ho hgr hblk SA rd1 S hG hGs hk0;go_wp2;go_roundw
   case rel=>exact⟨m,a7,c7,G,by omega,by first|go_num|(rw[hmk]),rfl,by have:=HGl.out;omega,HGs.out,hs7.mono (by omega),SM⟩
   case measure=>simp[intOf]
theorem drawPath (g:Nat) (P n:Int) (w:World) (hs:Src g P w) (hP:P≤790000) (hn:n≤1000000) :
  Calls Tryz.prog 138 #[.pointer (some ⟨g,0,none⟩),.int .i64 n] w (RetD g P 13 (TxQ 54) w):=by
 go_enter Tryz.func138,Tryz.ntmps138
 go_wp2_with fail
 refine(odd_any g P n w hs (by omega) hn).mono ?_;rintro e w1 ⟨v,rfl,⟨b,rfl,_⟩,hs1,hS⟩;clear hs
 cases b with
 | true =>
  have S:=SepM.begin (fun b=>b=g) w1 (fun b h=>h ▸ hs1.lt);replace S:SepM (fun b=>b=g) w1 (w1.alloc (.cells #[.string ⟨#[]⟩,.string ⟨#[97]⟩,.string ⟨#[47,47]⟩,.string ⟨#[47,97,47]⟩,.string ⟨#[47,65]⟩,.string ⟨#[47,97,47,97,47,97,47,97,47,97,47,97,47,97]⟩,.string ⟨#[47,97,47,47,98]⟩] 9)) [plRow 9 1 encStr1 (.slice (some ⟨w1.heap.size,0,none⟩) 7 7) ptOdd]:=S.lit (by simp) _ _ encStr1_len ptOdd rfl rfl (by omega);have hsa:Src g (P+1) (w1.alloc (.cells #[.string ⟨#[]⟩,.string ⟨#[97]⟩,.string ⟨#[47,47]⟩,.string ⟨#[47,97,47]⟩,.string ⟨#[47,65]⟩,.string ⟨#[47,97,47,97,47,97,47,97,47,97,47,97,47,97]⟩,.string ⟨#[47,97,47,47,98]⟩] 9)):=hs1.ext ((Ext.refl _).alloc _);have sta:Step g w (w1.alloc (.cells #[.string ⟨#[]⟩,.string ⟨#[97]⟩,.string ⟨#[47,47]⟩,.string ⟨#[47,97,47]⟩,.string ⟨#[47,65]⟩,.string ⟨#[47,97,47,97,47,97,47,97,47,97,47,97,47,97]⟩,.string ⟨#[47,97,47,47,98]⟩] 9)):=hS.alloc _
  go_wp2_with fail
  generalize (w1.alloc (.cells #[.string ⟨#[]⟩,.string ⟨#[97]⟩,.string ⟨#[47,47]⟩,.string ⟨#[47,97,47]⟩,.string ⟨#[47,65]⟩,.string ⟨#[47,97,47,97,47,97,47,97,47,97,47,97,47,97]⟩,.string ⟨#[47,97,47,47,98]⟩] 9))=wa at *;refine(pick_any g (P+1) 7 _ hsa (by omega)).mono ?_;rintro e wq ⟨v,rfl,⟨i,rfl,x0,x1,_⟩,hs3,hS3⟩;replace S:=S.other (Chg.of_step hS3);replace x1:=x1 (by omega);obtain⟨k,rfl⟩:∃k:Nat,i=k:=⟨i.toNat,by omega⟩;obtain⟨tx,htx,hcell⟩:=lit_at (S.rd 0 encStr1_len rfl ptOdd_len.symm) (k:=k) (by rw[ptOdd_len];omega)
  have c0:wq.cell? ⟨w1.heap.size,k,none⟩=some (.string tx):=by have:=hcell 0 _ rfl;simpa using this
  have htm:=ptOdd_fit tx htx;have st3:=sta.trans hS3;clear hcell hS3 hsa sta S;go_wp2;go_ret;exact RetD.mk ⟨tx,rfl,htm⟩ hs3 (by omega) st3
 | false =>
  go_wp2_with fail
  refine(drawNames g (P+1) 0 w1 hs1 (by omega) (by omega)).mono ?_;rintro e w2 ⟨u,L,rfl,hL5,hL9,hs2,S2⟩;obtain⟨a,c,hu,_,_,_⟩:=view_owns encStr1_len (S2.row 0 rfl);subst hu;have hr:=S2.rd 0 encStr1_len rfl rfl;have hst:=hS.trans (Chg.step S2.chg)
  go_wp2_with fail
  refine(specJoinPath a c L w2 (by omega) (fun p hp=>by have:=hL9 p hp;omega) hr).mono ?_;rintro e w3 ⟨v,rfl,rfl,hE⟩;have hz:=joinPath_size L;go_wp2;go_ret;exact RetD.mk ⟨_,rfl,hz⟩ (hs2.ext hE) (by omega) (hst.ext hE)
def RetPth (w:World) (e:Ending) (w':World):Prop:=∃u L,e=.returned u∧L.length≤67368421∧(∀s∈L,s.size≤54)∧Sep w w' [plRow 9 1 encStr1 u L]
theorem pathsAny (a:Option Addr) (cap:Nat) (T:List Nd) (w:World) (hl:T.length≤1048576) (hT:∀x∈T,SmN 1048576 x) (h20:∀x∈T,x.N.length≤20) (hc:RdN w a T) :
  Calls Tryz.prog 134 #[.slice a T.length cap] w (RetPth w):=by
 by_cases hTr:TreeOk T
 ·exact(specPathsOf a cap T w hl hT hTr h20 hc).mono (fun e w' ⟨u,L,h1,_,h3,h4,h5⟩=>⟨u,L,h1,h3,h4,h5⟩)
 ·have HT:=hd0 hT;have HN:=hd0 hTr;clear hT h20 hTr
  go_enter Tryz.func134,Tryz.ntmps134
  go_wp2_with fail
  refine(specTreeValid a cap T w hl HT.out hc).mono ?_;rintro e w1 ⟨v,rfl,hv,hE⟩
  cases v with
  | true=>exact absurd (hv.1 rfl) HN.out
  | false =>
   clear hv;have S:=Sep.start w;replace S:=S.step hE;clear hE;replace S:Sep w (w1.alloc (.cells #[] 9)) [plRow 9 1 encStr1 (.slice (some ⟨w1.heap.size,0,none⟩) 0 0) []]:=S.lit0 (by simp) _ _ _;go_wp2;go_ret;exact⟨_,[],rfl,Nat.zero_le _,(fun s hs=>by cases hs),S⟩
theorem sm_big {x:Nd} (h:SmN 200000 x):SmN 1048576 x:=⟨by have:=h.1;omega,by have:=h.2.1;omega,fun s hs=>by have:=h.2.2.1 s hs;omega,by have:=h.2.2.2;omega⟩
theorem drawWhere (g:Nat) (P:Int) (hP:P≤780000) (a:Option Addr) (cap:Nat) (T:List Nd) (w:World) (hs:Src g P w) (hl:T.length≤100) (hT:∀x∈T,SmN 200000 x∧x.N.length≤20) (hcs:∀w',Step g w w'→RdN w' a T) :
  Calls Tryz.prog 97 #[.pointer (some ⟨g,0,none⟩),.slice a T.length cap] w (RetD g P 16 (TxQ 54) w):=by
 have HT:=hd0 hT;have hg:=hs.lt;have hc:=hcs w (Step.refl g w);clear hT hcs
 go_enter Tryz.func97,Tryz.ntmps97
 have S:=SepM.begin (fun b=>b=g) w (fun b h=>h ▸ hg)
 go_wp2_with fail
 refine(pathsAny a cap T w (by omega) (fun x hx=>sm_big (HT.out x hx).1) (fun x hx=>(HT.out x hx).2) hc).mono ?_;rintro e w1 ⟨u,L,rfl,hL1,hL2,U⟩;obtain⟨au,cu,hu,_,_,_⟩:=view_owns encStr1_len (U.row 0 rfl);subst hu;have HL:=hd0 hL2;have hs1:=hs.ext U.ext;have st1:Step g w w1:=Step.of_ext U.ext;replace S:SepM (fun b=>b=g) w w1 [plRow 9 1 encStr1 (.slice au L.length cu) L]:=S.call U;clear U;clear hL2 hs hc
 by_cases hL0:L.length=0
 ·obtain rfl:=List.eq_nil_of_length_eq_zero hL0;clear hL0 S
  go_wp2_with fail
  refine(drawPath g (P) 9 w1 hs1 (by omega) (by omega)).mono ?_;rintro e w9 ⟨v,rfl,⟨tx,rfl,htm⟩,hs9,hS9⟩;go_wp2;go_ret;exact RetD.mk ⟨tx,rfl,htm⟩ hs9 (by omega) (st1.trans hS9)
 ·have i0:(0:Int) < (L.length:Int):=by omega
  have hne:¬L=[]:=fun e=>hL0 (by rw[e];rfl)
  go_wp2_with fail
  refine(pick_any g P 4 w1 hs1 (by omega)).mono ?_;rintro e w2 ⟨v,rfl,⟨i,rfl,x0,x1,_⟩,hs2,hS2⟩;have st2:=st1.trans hS2;replace S:SepM (fun b=>b=g) w w2 [plRow 9 1 encStr1 (.slice au L.length cu) L]:=(S.other (Chg.of_step hS2));clear hS2 x1 hs1 st1
  by_cases hi:0 < i
  ·go_wp2_with fail
   refine(pick_any g (P+1) (L.length:Int) w2 hs2 (by omega)).mono ?_;rintro e w3 ⟨v,rfl,⟨q,rfl,y0,y1,_⟩,hs3,hS3⟩;replace y1:=y1 (by omega);obtain⟨k,rfl⟩:∃k:Nat,q=k:=⟨q.toNat,by omega⟩;have st3:=st2.trans hS3;replace S:SepM (fun b=>b=g) w w3 [plRow 9 1 encStr1 (.slice au L.length cu) L]:=(S.other (Chg.of_step hS3));obtain⟨t,b,off,ht,rfl,c0⟩:=atStr (S.rd 0 encStr1_len rfl rfl) (show k < L.length by omega);have htm:=HL.out t (List.mem_of_getElem? ht);clear hS3 hs2 st2 S ht;go_wp2;go_ret;exact RetD.mk ⟨t,rfl,htm⟩ hs3 (by omega) st3
  ·clear S
   go_wp2_with fail
   refine(drawPath g (P+1) 9 w2 hs2 (by omega) (by omega)).mono ?_;rintro e w9 ⟨v,rfl,⟨tx,rfl,htm⟩,hs9,hS9⟩;go_wp2;go_ret;exact RetD.mk ⟨tx,rfl,htm⟩ hs9 (by omega) (st2.trans hS9)
theorem drawNew (g:Nat) (P:Int) (hP:P≤760000) (a:Option Addr) (cap:Nat) (T:List Nd) (w:World) (hs:Src g P w) (hl:T.length≤100) (hT:∀x∈T,SmN 200000 x∧x.N.length≤20) (hcs:∀w',Step g w w'→RdN w' a T) :
  Calls Tryz.prog 98 #[.pointer (some ⟨g,0,none⟩),.slice a T.length cap] w (RetD g P 40 (TxQ 54) w):=by
 have HT:=hd0 hT;clear hT
 go_enter Tryz.func98,Tryz.ntmps98
 go_wp2_with fail
 refine(drawWhere g P (by omega) a cap T w hs hl HT.out hcs).mono ?_;rintro e w1 ⟨v,rfl,⟨old,rfl,hold⟩,hs1,hS⟩;clear hs hcs;have S:=SepM.begin (fun b=>b=g) w1 (fun b h=>h ▸ hs1.lt);replace S:SepM (fun b=>b=g) w1 (w1.alloc (.cells #[.string ⟨#[97]⟩,.string ⟨#[98]⟩,.string ⟨#[110,101,119]⟩,.string ⟨#[122]⟩] 9)) [plRow 9 1 encStr1 (.slice (some ⟨w1.heap.size,0,none⟩) 4 4) nwLast]:=S.lit (by simp) _ _ encStr1_len nwLast rfl rfl (by omega);have hsa:Src g (P+16) (w1.alloc (.cells #[.string ⟨#[97]⟩,.string ⟨#[98]⟩,.string ⟨#[110,101,119]⟩,.string ⟨#[122]⟩] 9)):=hs1.ext ((Ext.refl _).alloc _);have sta:Step g w (w1.alloc (.cells #[.string ⟨#[97]⟩,.string ⟨#[98]⟩,.string ⟨#[110,101,119]⟩,.string ⟨#[122]⟩] 9)):=hS.alloc _
 go_wp2_with fail
 generalize (w1.alloc (.cells #[.string ⟨#[97]⟩,.string ⟨#[98]⟩,.string ⟨#[110,101,119]⟩,.string ⟨#[122]⟩] 9))=wa at *;refine(pick_any g (P+16) 4 _ hsa (by omega)).mono ?_;rintro e wq ⟨v,rfl,⟨i,rfl,x0,x1,_⟩,hs3,hS3⟩;replace S:=S.other (Chg.of_step hS3);replace x1:=x1 (by omega);obtain⟨k,rfl⟩:∃k:Nat,i=k:=⟨i.toNat,by omega⟩;obtain⟨tx,htx,hcell⟩:=lit_at (S.rd 0 encStr1_len rfl nwLast_len.symm) (k:=k) (by rw[nwLast_len];omega)
 have c0:wq.cell? ⟨w1.heap.size,k,none⟩=some (.string tx):=by have:=hcell 0 _ rfl;simpa using this
 have htm:=nwLast_fit tx htx;have st3:=sta.trans hS3;clear hcell hS3 hsa sta S;obtain⟨h0,h47⟩:=nwLast_way tx htx
 go_wp2_with fail
 refine(specFollowWay old tx wq (by omega) (by omega) h0 h47).mono ?_;rintro e w4 ⟨t,rfl,ht,hE⟩;have hs4:=hs3.ext hE;have st4:=st3.ext hE;clear hs3 st3 hE c0 x0 x1
 by_cases hte:t=⟨#[]⟩
 ·subst hte
  go_wp2_with fail
  refine(drawPath g (P+16+1) 9 w4 hs4 (by omega) (by omega)).mono ?_;rintro e w9 ⟨v,rfl,⟨tx,rfl,htm⟩,hs9,hS9⟩;go_wp2;go_ret;exact RetD.mk ⟨tx,rfl,htm⟩ hs9 (by omega) (st4.trans hS9)
 ·have t0:(t.toList == [])=false:=Bool.eq_false_iff.2 (fun h=>hte (bytes_eq.1 (by rw[eq_of_beq h,ByteArray.toList_eq])))
  have t1:t.toList.isEmpty=false:=by
   cases hq:t.toList with
   | nil=>rw[hq]at t0;simp at t0
   | cons c r=>rfl
  clear hte;go_wp2;go_ret;exact RetD.mk ⟨t,rfl,ht⟩ hs4 (by omega) st4
theorem drawCall (g:Nat) (P:Int) (hP:P≤700000) (a:Option Addr) (cap:Nat) (T:List Nd) (w:World) (hs:Src g P w) (hl:T.length≤100) (hT:∀x∈T,SmN 200000 x∧x.N.length≤20) (hcs:∀w',Step g w w'→RdN w' a T) :
  Calls Tryz.prog 56 #[.pointer (some ⟨g,0,none⟩),.slice a T.length cap] w (RetD g P 60 (TxQ 200) w):=by
 have HT:=hd0 hT;have hg:=hs.lt;clear hT
 go_enter Tryz.func56,Tryz.ntmps56
 go_wp2_with fail
 refine(drawWhere g P (by omega) a cap T w hs hl HT.out hcs).mono ?_;rintro e w1 ⟨v,rfl,⟨od,rfl,hod⟩,hs1,st1⟩
 go_wp2_with fail
 refine(drawNew g (P+16) (by omega) a cap T w1 hs1 hl HT.out (fun w' h=>hcs w' (st1.trans h))).mono ?_;rintro e w2 ⟨v,rfl,⟨fr,rfl,hfr⟩,hs2,hS2⟩;have st2:=st1.trans hS2;clear hS2 st1 hs1 hs hcs
 go_wp2_with fail
 refine(pick_any g (P+16+40) 10 w2 hs2 (by omega)).mono ?_;rintro e w3 ⟨v,rfl,⟨i,rfl,x0,x1,_⟩,hs3,hS3⟩;have st3:=st2.trans hS3;replace x1:=x1 (by omega);clear hS3 hs2 st2
 rcases(show(i:Int)=0∨i=1∨i=2∨i=3∨i=4∨i=5∨i=6∨i=7∨i=8∨i=9 by omega)with rfl|rfl|rfl|rfl|rfl|rfl|rfl|rfl|rfl|rfl
 ·have hz:(⟨#[102,111,108,100,101,114,32]⟩:ByteArray).size+fr.size≤9223372036854775807:=by show 7+_≤_;omega
  have hm:(⟨#[102,111,108,100,101,114,32]⟩++fr:ByteArray).size≤200:=by rw[ByteArray.size_append];show 7+_≤_;omega
  clear x0 x1;go_wp2;go_ret;exact RetD.mk ⟨_,rfl,hm⟩ hs3 (by omega) st3
 ·have hz:(⟨#[102,105,108,101,32]⟩:ByteArray).size+fr.size≤9223372036854775807:=by show 5+_≤_;omega
  have hm:(⟨#[102,105,108,101,32]⟩++fr:ByteArray).size≤200:=by rw[ByteArray.size_append];show 5+_≤_;omega
  clear x0 x1;go_wp2;go_ret;exact RetD.mk ⟨_,rfl,hm⟩ hs3 (by omega) st3
 ·have hz:(⟨#[100,114,111,112,32]⟩:ByteArray).size+od.size≤9223372036854775807:=by show 5+_≤_;omega
  have hm:(⟨#[100,114,111,112,32]⟩++od:ByteArray).size≤200:=by rw[ByteArray.size_append];show 5+_≤_;omega
  clear x0 x1;go_wp2;go_ret;exact RetD.mk ⟨_,rfl,hm⟩ hs3 (by omega) st3
 ·have hz:(⟨#[119,114,105,116,101,32]⟩:ByteArray).size+od.size≤9223372036854775807:=by show 6+_≤_;omega
  have hz1:(⟨#[119,114,105,116,101,32]⟩++od:ByteArray).size+(⟨#[32]⟩:ByteArray).size≤9223372036854775807:=by rw[ByteArray.size_append];show 6+_+1≤_;omega
  clear x0 x1;have S:=SepM.begin (fun b=>b=g) w3 (fun b h=>h ▸ hs3.lt);replace S:SepM (fun b=>b=g) w3 (w3.alloc (.cells #[.string ⟨#[97,98,99]⟩,.string ⟨#[120]⟩,.string ⟨#[]⟩] 9)) [plRow 9 1 encStr1 (.slice (some ⟨w3.heap.size,0,none⟩) 3 3) wrTx]:=S.lit (by simp) _ _ encStr1_len wrTx rfl rfl (by omega);have hsa:Src g (P+16+40+1) (w3.alloc (.cells #[.string ⟨#[97,98,99]⟩,.string ⟨#[120]⟩,.string ⟨#[]⟩] 9)):=hs3.ext ((Ext.refl _).alloc _);have sta:Step g w (w3.alloc (.cells #[.string ⟨#[97,98,99]⟩,.string ⟨#[120]⟩,.string ⟨#[]⟩] 9)):=st3.alloc _
  go_wp2_with fail
  generalize (w3.alloc (.cells #[.string ⟨#[97,98,99]⟩,.string ⟨#[120]⟩,.string ⟨#[]⟩] 9))=wa at *;refine(pick_any g (P+16+40+1) 3 _ hsa (by omega)).mono ?_;rintro e wq ⟨v,rfl,⟨i,rfl,x0,x1,_⟩,hs5,hS3⟩;replace S:=S.other (Chg.of_step hS3);replace x1:=x1 (by omega);obtain⟨k,rfl⟩:∃k:Nat,i=k:=⟨i.toNat,by omega⟩;obtain⟨tx,htx,hcell⟩:=lit_at (S.rd 0 encStr1_len rfl wrTx_len.symm) (k:=k) (by rw[wrTx_len];omega)
  have c0:wq.cell? ⟨w3.heap.size,k,none⟩=some (.string tx):=by have:=hcell 0 _ rfl;simpa using this
  have htm:=wrTx_fit tx htx;have st3:=sta.trans hS3;clear hcell hS3 hsa sta S
  have hz2:(⟨#[119,114,105,116,101,32]⟩++od++⟨#[32]⟩:ByteArray).size+tx.size≤9223372036854775807:=by rw[ByteArray.size_append,ByteArray.size_append];show 6+_+1+_≤_;omega
  have hm:(⟨#[119,114,105,116,101,32]⟩++od++⟨#[32]⟩++tx:ByteArray).size≤200:=by rw[ByteArray.size_append,ByteArray.size_append,ByteArray.size_append];show 6+_+1+_≤_;omega
  go_wp2;go_ret;exact RetD.mk ⟨_,rfl,hm⟩ hs5 (by omega) st3
 ·have hz:(⟨#[109,111,100,101,32]⟩:ByteArray).size+od.size≤9223372036854775807:=by show 5+_≤_;omega
  have hz1:(⟨#[109,111,100,101,32]⟩++od:ByteArray).size+(⟨#[32]⟩:ByteArray).size≤9223372036854775807:=by rw[ByteArray.size_append];show 5+_+1≤_;omega
  clear x0 x1;have S:=SepM.begin (fun b=>b=g) w3 (fun b h=>h ▸ hs3.lt);replace S:SepM (fun b=>b=g) w3 (w3.alloc (.cells #[.string ⟨#[114,119,120,114,119,120,114,119,120]⟩,.string ⟨#[114,119,45,114,45,45,114,45,45]⟩,.string ⟨#[45,45,45,45,45,45,45,45,45]⟩,.string ⟨#[114,119,120]⟩] 9)) [plRow 9 1 encStr1 (.slice (some ⟨w3.heap.size,0,none⟩) 4 4) mdTx]:=S.lit (by simp) _ _ encStr1_len mdTx rfl rfl (by omega);have hsa:Src g (P+16+40+1) (w3.alloc (.cells #[.string ⟨#[114,119,120,114,119,120,114,119,120]⟩,.string ⟨#[114,119,45,114,45,45,114,45,45]⟩,.string ⟨#[45,45,45,45,45,45,45,45,45]⟩,.string ⟨#[114,119,120]⟩] 9)):=hs3.ext ((Ext.refl _).alloc _);have sta:Step g w (w3.alloc (.cells #[.string ⟨#[114,119,120,114,119,120,114,119,120]⟩,.string ⟨#[114,119,45,114,45,45,114,45,45]⟩,.string ⟨#[45,45,45,45,45,45,45,45,45]⟩,.string ⟨#[114,119,120]⟩] 9)):=st3.alloc _
  go_wp2_with fail
  generalize (w3.alloc (.cells #[.string ⟨#[114,119,120,114,119,120,114,119,120]⟩,.string ⟨#[114,119,45,114,45,45,114,45,45]⟩,.string ⟨#[45,45,45,45,45,45,45,45,45]⟩,.string ⟨#[114,119,120]⟩] 9))=wa at *;refine(pick_any g (P+16+40+1) 4 _ hsa (by omega)).mono ?_;rintro e wq ⟨v,rfl,⟨i,rfl,x0,x1,_⟩,hs5,hS3⟩;replace S:=S.other (Chg.of_step hS3);replace x1:=x1 (by omega);obtain⟨k,rfl⟩:∃k:Nat,i=k:=⟨i.toNat,by omega⟩;obtain⟨tx,htx,hcell⟩:=lit_at (S.rd 0 encStr1_len rfl mdTx_len.symm) (k:=k) (by rw[mdTx_len];omega)
  have c0:wq.cell? ⟨w3.heap.size,k,none⟩=some (.string tx):=by have:=hcell 0 _ rfl;simpa using this
  have htm:=mdTx_fit tx htx;have st3:=sta.trans hS3;clear hcell hS3 hsa sta S
  have hz2:(⟨#[109,111,100,101,32]⟩++od++⟨#[32]⟩:ByteArray).size+tx.size≤9223372036854775807:=by rw[ByteArray.size_append,ByteArray.size_append];show 5+_+1+_≤_;omega
  have hm:(⟨#[109,111,100,101,32]⟩++od++⟨#[32]⟩++tx:ByteArray).size≤200:=by rw[ByteArray.size_append,ByteArray.size_append,ByteArray.size_append];show 5+_+1+_≤_;omega
  go_wp2;go_ret;exact RetD.mk ⟨_,rfl,hm⟩ hs5 (by omega) st3
 ·have hz:(⟨#[108,105,110,107,32]⟩:ByteArray).size+od.size≤9223372036854775807:=by show 5+_≤_;omega
  have hz1:(⟨#[108,105,110,107,32]⟩++od:ByteArray).size+(⟨#[32]⟩:ByteArray).size≤9223372036854775807:=by rw[ByteArray.size_append];show 5+_+1≤_;omega
  have hz2:(⟨#[108,105,110,107,32]⟩++od++⟨#[32]⟩:ByteArray).size+fr.size≤9223372036854775807:=by rw[ByteArray.size_append,ByteArray.size_append];show 5+_+1+_≤_;omega
  have hm:(⟨#[108,105,110,107,32]⟩++od++⟨#[32]⟩++fr:ByteArray).size≤200:=by rw[ByteArray.size_append,ByteArray.size_append,ByteArray.size_append];show 5+_+1+_≤_;omega
  clear x0 x1;go_wp2;go_ret;exact RetD.mk ⟨_,rfl,hm⟩ hs3 (by omega) st3
 ·have hz:(⟨#[109,111,118,101,32]⟩:ByteArray).size+od.size≤9223372036854775807:=by show 5+_≤_;omega
  have hz1:(⟨#[109,111,118,101,32]⟩++od:ByteArray).size+(⟨#[32]⟩:ByteArray).size≤9223372036854775807:=by rw[ByteArray.size_append];show 5+_+1≤_;omega
  have hz2:(⟨#[109,111,118,101,32]⟩++od++⟨#[32]⟩:ByteArray).size+fr.size≤9223372036854775807:=by rw[ByteArray.size_append,ByteArray.size_append];show 5+_+1+_≤_;omega
  have hm:(⟨#[109,111,118,101,32]⟩++od++⟨#[32]⟩++fr:ByteArray).size≤200:=by rw[ByteArray.size_append,ByteArray.size_append,ByteArray.size_append];show 5+_+1+_≤_;omega
  clear x0 x1;go_wp2;go_ret;exact RetD.mk ⟨_,rfl,hm⟩ hs3 (by omega) st3
 ·have hz:(⟨#[114,101,97,100,32]⟩:ByteArray).size+od.size≤9223372036854775807:=by show 5+_≤_;omega
  have hm:(⟨#[114,101,97,100,32]⟩++od:ByteArray).size≤200:=by rw[ByteArray.size_append];show 5+_≤_;omega
  clear x0 x1;go_wp2;go_ret;exact RetD.mk ⟨_,rfl,hm⟩ hs3 (by omega) st3
 ·have hz:(⟨#[108,105,115,116,32]⟩:ByteArray).size+od.size≤9223372036854775807:=by show 5+_≤_;omega
  have hm:(⟨#[108,105,115,116,32]⟩++od:ByteArray).size≤200:=by rw[ByteArray.size_append];show 5+_≤_;omega
  clear x0 x1;go_wp2;go_ret;exact RetD.mk ⟨_,rfl,hm⟩ hs3 (by omega) st3
 ·clear x0 x1;have S:=SepM.begin (fun b=>b=g) w3 (fun b h=>h ▸ hs3.lt);replace S:SepM (fun b=>b=g) w3 (w3.alloc (.cells #[.string ⟨#[]⟩,.string ⟨#[114,101,97,100]⟩,.string ⟨#[108,105,115,116]⟩,.string ⟨#[100,97,110,99,101,32,47,97]⟩,.string ⟨#[102,111,108,100,101,114]⟩,.string ⟨#[119,114,105,116,101,32,47,97]⟩,.string ⟨#[114,101,97,100,32,47,97,32,47,98]⟩,.string ⟨#[100,114,111,112,32,32,47,97]⟩] 9)) [plRow 9 1 encStr1 (.slice (some ⟨w3.heap.size,0,none⟩) 8 8) clOdd]:=S.lit (by simp) _ _ encStr1_len clOdd rfl rfl (by omega);have hsa:Src g (P+16+40+1) (w3.alloc (.cells #[.string ⟨#[]⟩,.string ⟨#[114,101,97,100]⟩,.string ⟨#[108,105,115,116]⟩,.string ⟨#[100,97,110,99,101,32,47,97]⟩,.string ⟨#[102,111,108,100,101,114]⟩,.string ⟨#[119,114,105,116,101,32,47,97]⟩,.string ⟨#[114,101,97,100,32,47,97,32,47,98]⟩,.string ⟨#[100,114,111,112,32,32,47,97]⟩] 9)):=hs3.ext ((Ext.refl _).alloc _);have sta:Step g w (w3.alloc (.cells #[.string ⟨#[]⟩,.string ⟨#[114,101,97,100]⟩,.string ⟨#[108,105,115,116]⟩,.string ⟨#[100,97,110,99,101,32,47,97]⟩,.string ⟨#[102,111,108,100,101,114]⟩,.string ⟨#[119,114,105,116,101,32,47,97]⟩,.string ⟨#[114,101,97,100,32,47,97,32,47,98]⟩,.string ⟨#[100,114,111,112,32,32,47,97]⟩] 9)):=st3.alloc _
  go_wp2_with fail
  generalize (w3.alloc (.cells #[.string ⟨#[]⟩,.string ⟨#[114,101,97,100]⟩,.string ⟨#[108,105,115,116]⟩,.string ⟨#[100,97,110,99,101,32,47,97]⟩,.string ⟨#[102,111,108,100,101,114]⟩,.string ⟨#[119,114,105,116,101,32,47,97]⟩,.string ⟨#[114,101,97,100,32,47,97,32,47,98]⟩,.string ⟨#[100,114,111,112,32,32,47,97]⟩] 9))=wa at *;refine(pick_any g (P+16+40+1) 8 _ hsa (by omega)).mono ?_;rintro e wq ⟨v,rfl,⟨i,rfl,x0,x1,_⟩,hs5,hS3⟩;replace S:=S.other (Chg.of_step hS3);replace x1:=x1 (by omega);obtain⟨k,rfl⟩:∃k:Nat,i=k:=⟨i.toNat,by omega⟩;obtain⟨tx,htx,hcell⟩:=lit_at (S.rd 0 encStr1_len rfl clOdd_len.symm) (k:=k) (by rw[clOdd_len];omega)
  have c0:wq.cell? ⟨w3.heap.size,k,none⟩=some (.string tx):=by have:=hcell 0 _ rfl;simpa using this
  have htm:=clOdd_fit tx htx;have st3:=sta.trans hS3;clear hcell hS3 hsa sta S;go_wp2;go_ret;exact RetD.mk ⟨tx,rfl,htm⟩ hs5 (by omega) st3
def DrawnLs (w:World) (e:Ending) (w':World):Prop:=∃(a:Option Addr) (cap:Nat) (vs:List Nc) (T:List Nd) (r c s q:Int) (bl cl:Nat) (L:List ByteArray),e=.returned (.tuple #[.agg #[.slice a T.length cap,.int .i64 r,.int .i64 c,.int .i64 s,.int .i64 q],.slice (some ⟨bl,0,none⟩) L.length cl])∧T.length≤100∧(∀x∈T,SmN 200000 x∧x.N.length≤20)∧L.length≤31∧L.length≤cl∧(∀x∈L,x.size≤200)∧Sep w w' [plRow 9 1 encStr1 (.slice (some ⟨bl,0,none⟩) L.length cl) L,plNd (.slice a T.length cap) vs T]
theorem drawCallLines (ac:Option Addr) (capc:Nat) (code:List Int) (w:World) (hl:code.length≤9223372036854775807) (hcap:code.length≤capc) (hu:∀x∈code,0≤x∧x≤255) (hc:Rd 1 encU8 w ac code) :
  Calls Tryz.prog 14 #[.slice ac code.length capc] w (DrawnLs w):=by
 obtain⟨i0,hi,hz0,hz1,hz2⟩:=info_parts infoStr
 go_enter Tryz.func14,Tryz.ntmps14
 have S:=Sep.start w;replace S:=S.alloc_at (n:=w.heap.size) (by simp) #[.slice none 0 0,.int .i64 0,.int .i64 0,.int .i64 0,.int .i64 0] 31
 go_wp2_with fail
 generalize (w.alloc (.cells #[.slice none 0 0,.int .i64 0,.int .i64 0,.int .i64 0,.int .i64 0] 31))=w1 at *;refine(open_any ac capc code w1 hl hcap hu (hc.ext S.ext)).mono ?_;rintro e w2 ⟨v,rfl,⟨rfl,hs⟩,hE⟩;have hg1:=S.ge 0 rfl;generalize w1.heap.size=g at *;replace S:=S.step hE;clear hE
 go_wp2_with fail
 refine(drawKernel2 g _ 14 w2 hs (by omega) (by omega)).mono ?_;rintro e w3 ⟨v,rfl,⟨a,cap,vs,T,r,c,s,q,rfl,hT1,hcapT,hT2,U⟩,hs3⟩;have HT2:=hd0 hT2;have hg2:=hs.lt;have S0:=hd0 S;clear hT2 S;have S:=U;clear U hs;have hg3:=hs3.lt;replace S:=S.alloc_at (n:=w3.heap.size) (by simp) #[.slice a T.length cap,.int .i64 r,.int .i64 c,.int .i64 s,.int .i64 q] 31;replace S:SepM (fun b=>b=g) w2 ((w3.alloc (.cells #[.slice a T.length cap,.int .i64 r,.int .i64 c,.int .i64 s,.int .i64 q] 31)).alloc (.cells #[] 9)) [plRow 9 1 encStr1 (.slice (some ⟨(w3.heap.size+1),0,none⟩) 0 0) [],plBox w3.heap.size #[.slice a T.length cap,.int .i64 r,.int .i64 c,.int .i64 s,.int .i64 q] 31,plNd (.slice a T.length cap) vs T]:=S.lit0 (by simp) _ _ _;have hs4:Src g _ ((w3.alloc (.cells #[.slice a T.length cap,.int .i64 r,.int .i64 c,.int .i64 s,.int .i64 q] 31)).alloc (.cells #[] 9)):=(hs3.ext ((Ext.refl w3).alloc _)).ext ((Ext.refl _).alloc _)
 go_wp2_with fail
 generalize ((w3.alloc (.cells #[.slice a T.length cap,.int .i64 r,.int .i64 c,.int .i64 s,.int .i64 q] 31)).alloc (.cells #[] 9))=w4 at *;refine(pick_any g _ 9 _ hs4 (by omega)).mono ?_;rintro e w5 ⟨v,rfl,⟨i,rfl,x0,x1,_⟩,hs5,hS⟩;replace S:=S.other (Chg.of_step hS);replace x1:=x1 (by omega);obtain⟨k0,rfl⟩:∃k:Nat,i=k:=⟨i.toNat,by omega⟩
 have hk8:k0≤8:=by omega
 have S1:=hd0 S;clear x0 x1 hS hs4 hs3 S;go_wp2
 go_loopw [6,7] (fun o i wr=>∃(k:Nat) (bl cl:Nat) (L:List ByteArray),k≤8∧i=.int .i64 k∧o=.slice (some ⟨bl,0,none⟩) L.length cl∧L.length+k≤8∧L.length≤cl∧(∀s∈L,s.size≤200)∧Src g (421+60*(8 - (k:Int))) wr∧SepM (fun b=>b=g) w2 wr [plRow 9 1 encStr1 (.slice (some ⟨bl,0,none⟩) L.length cl) L,plBox w3.heap.size #[.slice a T.length cap,.int .i64 r,.int .i64 c,.int .i64 s,.int .i64 q] 31,plNd (.slice a T.length cap) vs T]) (fun _ i _=>(intOf i).toNat)
 case atStart=>exact⟨k0,_,_,[],by omega,rfl,rfl,by simp;omega,Nat.zero_le _,(fun s hs=>by cases hs),hs5.mono (by omega),S1.out⟩
 case round =>
  clear S1 hs5 hk8;obtain⟨k,bl,cl,L,hk,rfl,rfl,hlen,hcl,hL,hs3,S⟩:=hrel;have HL:=hd0 hL;clear hL
  by_cases hk0:k=0
  ·subst hk0
   go_wp2_with fail
   refine(odd_any g _ 24 wr hs3 (by omega) (by omega)).mono ?_;rintro e w4 ⟨v,rfl,⟨b,rfl,_⟩,hs4a,hS4⟩;replace S:SepM (fun b=>b=g) w2 w4 [plRow 9 1 encStr1 (.slice (some ⟨bl,0,none⟩) L.length cl) L,plBox w3.heap.size #[.slice a T.length cap,.int .i64 r,.int .i64 c,.int .i64 s,.int .i64 q] 31,plNd (.slice a T.length cap) vs T]:=(S.other (Chg.of_step hS4));clear hS4 hs3
   cases b with
   | false =>
    obtain⟨⟨kbc0,kbf0⟩,⟨kbc1,kbf1⟩,⟨kbc2,kbf2⟩,⟨kbc3,kbf3⟩,⟨kbc4,kbf4⟩⟩:=bx5 (S.box 1 rfl);have SR:=S0.out.readCall S (by omega) (by simp[plBox];omega);have hrb:=SR.box 3 rfl;obtain⟨rbc0,rbf0⟩:=bx hrb 0 rfl;obtain⟨rbc1,rbf1⟩:=bx hrb 1 rfl;obtain⟨rbc2,rbf2⟩:=bx hrb 2 rfl;obtain⟨rbc3,rbf3⟩:=bx hrb 3 rfl;obtain⟨rbc4,rbf4⟩:=bx hrb 4 rfl;clear hrb;go_wp2;clear kbc0 kbf0 kbc1 kbf1 kbc2 kbf2 kbc3 kbf3 kbc4 kbf4;clear rbc0 rbc1 rbc2 rbc3 rbc4 rbf0 rbf1 rbf2 rbf3 rbf4 S;have S:=SR;replace S:Sep w (((((w4.setCell ⟨w.heap.size,0,none⟩ (.slice a T.length cap)).setCell ⟨w.heap.size,1,none⟩ (.int .i64 r)).setCell ⟨w.heap.size,2,none⟩ (.int .i64 c)).setCell ⟨w.heap.size,3,none⟩ (.int .i64 s)).setCell ⟨w.heap.size,4,none⟩ (.int .i64 q)) [plRow 9 1 encStr1 (.slice (some ⟨bl,0,none⟩) L.length cl) L,plBox w3.heap.size #[.slice a T.length cap,.int .i64 r,.int .i64 c,.int .i64 s,.int .i64 q] 31,plNd (.slice a T.length cap) vs T,plBox w.heap.size #[.slice a T.length cap,.int .i64 r,.int .i64 c,.int .i64 s,.int .i64 q] 31]:=((((S.set 3 rfl 0 _).set 3 rfl 1 _).set 3 rfl 2 _).set 3 rfl 3 _).set 3 rfl 4 _;generalize (((((w4.setCell ⟨w.heap.size,0,none⟩ (.slice a T.length cap)).setCell ⟨w.heap.size,1,none⟩ (.int .i64 r)).setCell ⟨w.heap.size,2,none⟩ (.int .i64 c)).setCell ⟨w.heap.size,3,none⟩ (.int .i64 s)).setCell ⟨w.heap.size,4,none⟩ (.int .i64 q))=wD at *;obtain⟨⟨rbc0,rbf0⟩,⟨rbc1,rbf1⟩,⟨rbc2,rbf2⟩,⟨rbc3,rbf3⟩,⟨rbc4,rbf4⟩⟩:=bx5 (S.box 3 rfl);refine bodyPost_ret (v:=.tuple #[.agg #[.slice a T.length cap,.int .i64 r,.int .i64 c,.int .i64 s,.int .i64 q],.slice (some ⟨bl,0,none⟩) L.length cl]) (by simp[results,Tryz.results14,go_sem,rbc0,rbc1,rbc2,rbc3,rbc4]) rfl ?_;replace S:Sep w wD [plRow 9 1 encStr1 (.slice (some ⟨bl,0,none⟩) L.length cl) L,plNd (.slice a T.length cap) vs T]:=(S.drop 1).drop 2;exact⟨a,cap,vs,T,r,c,s,q,bl,cl,L,rfl,hT1,HT2.out,by omega,by omega,HL.out,S⟩
   | true =>
    replace S:SepM (fun b=>b=g) w2 w4 [plBox w3.heap.size #[.slice a T.length cap,.int .i64 r,.int .i64 c,.int .i64 s,.int .i64 q] 31,plNd (.slice a T.length cap) vs T]:=S.drop 0
    go_wp2_with (at_make;refine wpList_make_full _ rfl _ _ 39 rfl w4.heap.size 9 i0 _ 1 Tryz.underlying39 hi hz0 hz1 _ _ _ _ 31 rfl rfl rfl rfl ?b1 ?b2 ?b3 ?_)
    case b1=>rw[hz2];omega
    case b2=>unfold maxLen;omega
    case b3=>exact Nat.le_refl _
    intro w5 hown hgr;have hE:=ext_of_grown hgr;rw[madeStr]at hown
    have hLs:∀x∈List.replicate 31 ByteArray.empty,x.size≤200:=fun x hx=>by
     rw[List.eq_of_mem_replicate hx]
     decide
    have U:=Sep.of_owns (l:=List.replicate 31 ByteArray.empty) hE hown;clear hgr hown hE;replace S:SepM (fun b=>b=g) w2 w5 [plRow 9 1 encStr1 (.slice (some ⟨w4.heap.size,0,none⟩) (List.replicate 31 ByteArray.empty).length 31) (List.replicate 31 ByteArray.empty),plBox w3.heap.size #[.slice a T.length cap,.int .i64 r,.int .i64 c,.int .i64 s,.int .i64 q] 31,plNd (.slice a T.length cap) vs T]:=S.call U;clear U;have HLs:=hd0 hLs;clear hLs;obtain⟨⟨kbc0,kbf0⟩,⟨kbc1,kbf1⟩,⟨kbc2,kbf2⟩,⟨kbc3,kbf3⟩,⟨kbc4,kbf4⟩⟩:=bx5 (S.box 1 rfl);have SR:=S0.out.readCall S (by omega) (by simp[plBox];omega);have hrb:=SR.box 3 rfl;obtain⟨rbc0,rbf0⟩:=bx hrb 0 rfl;obtain⟨rbc1,rbf1⟩:=bx hrb 1 rfl;obtain⟨rbc2,rbf2⟩:=bx hrb 2 rfl;obtain⟨rbc3,rbf3⟩:=bx hrb 3 rfl;obtain⟨rbc4,rbf4⟩:=bx hrb 4 rfl;clear hrb;go_wp2;clear kbc0 kbf0 kbc1 kbf1 kbc2 kbf2 kbc3 kbf3 kbc4 kbf4;clear rbc0 rbc1 rbc2 rbc3 rbc4 rbf0 rbf1 rbf2 rbf3 rbf4 S;have S:=SR;replace S:Sep w (((((w5.setCell ⟨w.heap.size,0,none⟩ (.slice a T.length cap)).setCell ⟨w.heap.size,1,none⟩ (.int .i64 r)).setCell ⟨w.heap.size,2,none⟩ (.int .i64 c)).setCell ⟨w.heap.size,3,none⟩ (.int .i64 s)).setCell ⟨w.heap.size,4,none⟩ (.int .i64 q)) [plRow 9 1 encStr1 (.slice (some ⟨w4.heap.size,0,none⟩) (List.replicate 31 ByteArray.empty).length 31) (List.replicate 31 ByteArray.empty),plBox w3.heap.size #[.slice a T.length cap,.int .i64 r,.int .i64 c,.int .i64 s,.int .i64 q] 31,plNd (.slice a T.length cap) vs T,plBox w.heap.size #[.slice a T.length cap,.int .i64 r,.int .i64 c,.int .i64 s,.int .i64 q] 31]:=((((S.set 3 rfl 0 _).set 3 rfl 1 _).set 3 rfl 2 _).set 3 rfl 3 _).set 3 rfl 4 _;generalize (((((w5.setCell ⟨w.heap.size,0,none⟩ (.slice a T.length cap)).setCell ⟨w.heap.size,1,none⟩ (.int .i64 r)).setCell ⟨w.heap.size,2,none⟩ (.int .i64 c)).setCell ⟨w.heap.size,3,none⟩ (.int .i64 s)).setCell ⟨w.heap.size,4,none⟩ (.int .i64 q))=wD at *;obtain⟨⟨rbc0,rbf0⟩,⟨rbc1,rbf1⟩,⟨rbc2,rbf2⟩,⟨rbc3,rbf3⟩,⟨rbc4,rbf4⟩⟩:=bx5 (S.box 3 rfl);refine bodyPost_ret (v:=.tuple #[.agg #[.slice a T.length cap,.int .i64 r,.int .i64 c,.int .i64 s,.int .i64 q],.slice (some ⟨w4.heap.size,0,none⟩) (List.replicate 31 ByteArray.empty).length 31]) (by simp[results,Tryz.results14,go_sem,rbc0,rbc1,rbc2,rbc3,rbc4]) rfl ?_;replace S:Sep w wD [plRow 9 1 encStr1 (.slice (some ⟨w4.heap.size,0,none⟩) (List.replicate 31 ByteArray.empty).length 31) (List.replicate 31 ByteArray.empty),plNd (.slice a T.length cap) vs T]:=(S.drop 1).drop 2;exact⟨a,cap,vs,T,r,c,s,q,w4.heap.size,31,(List.replicate 31 ByteArray.empty),rfl,hT1,HT2.out,by simp,by simp,HLs.out,S⟩
  ·have i0':(0:Int) < (k:Int):=by omega
   obtain⟨⟨kbc0,kbf0⟩,⟨kbc1,kbf1⟩,⟨kbc2,kbf2⟩,⟨kbc3,kbf3⟩,⟨kbc4,kbf4⟩⟩:=bx5 (S.box 1 rfl)
   go_wp2_with fail
   clear kbc0 kbf0 kbc1 kbf1 kbc2 kbf2 kbc3 kbf3 kbc4 kbf4;refine(drawCall g _ (by omega) a cap T wr hs3 hT1 HT2.out (fun w' h=>(S.other (Chg.of_step h)).rdN 2 rfl)).mono ?_;rintro e w5 ⟨v,rfl,⟨tx,rfl,htm⟩,hs4,hS5⟩;replace S:=S.other (Chg.of_step hS5);clear hS5 hs3;have SA:=S.alloc #[.string tx] 9;have rd1:Rd 1 encStr1 (w5.alloc (.cells #[.string tx] 9)) (some ⟨w5.heap.size,0,none⟩) [tx]:=rd_lit_new [tx] encStr1_len rfl
   go_wp2_with (at_builtin;refine Hid.out (?_:Hid _))
   unfold Hid;refine wpList_append_b rfl _ _ 39 rfl w2.heap.size 9 _ 1 _ Tryz.underlying39 infoStr1 rfl (by decide) encStr1_len encStr1_one _ L.length L rfl (SA.row (0+1) rfl) rfl (some ⟨w5.heap.size,0,none⟩) 1 1 [tx] rfl rfl rd1 (by omega) (by omega) SA.chg.size ?_;intro v7 w7 ho hgr hblk;obtain⟨G,hG⟩:∃G,G=L++[tx]:=⟨_,rfl⟩
   have hGl:G.length=L.length+1:=by rw[hG];simp
   have hGs:∀s∈G,s.size≤200:=fun s hs=>by
    rw[hG]at hs
    rcases List.mem_append.1 hs with hs|hs
    ·exact HL.out s hs
    ·rw[List.mem_singleton.1 hs];exact htm
   rw[←hG]at ho;obtain⟨a7,c7,hv7,hc7,_,ha7⟩:=view_owns encStr1_len ho;subst hv7
   obtain⟨b7,rfl⟩:∃b,a7=some ⟨b,0,none⟩:=by
    rcases ha7 with h|⟨b,h,_⟩
    ·rw[h.2.1]at hGl;simp at hGl
    ·exact⟨b,h⟩
   clear ha7;have SM:=(SA.grow (0+1) rfl hgr ho hblk).drop 0
   have hs7:=(hs4.ext ((Ext.refl _).alloc (.cells #[.string tx] 9))).row hgr (fun i hi=>by
    have h1:=(SA.lt (List.mem_of_getElem? (show _[0+1]?=some _ from rfl)) (show(plRow 9 1 encStr1 _ L).own i from hi)).1
    omega)
   have HGs:=hd0 hGs;have HGl:=hd0 hGl;clear hGl;obtain⟨m,rfl⟩:∃m,k=m+1:=⟨k - 1,by omega⟩
   have hmk:((m+1:Nat):Int) - 1=(m:Int):=by omega
   clear ho hgr hblk SA rd1 S hG hGs hk0;go_wp2;go_roundw
   case rel=>exact⟨m,b7,c7,G,by omega,by first|go_num|(rw[hmk]),rfl,by have:=HGl.out;omega,hc7,HGs.out,hs7.mono (by omega),SM⟩
   case measure=>simp[intOf]
theorem sameTexts_eq (a b:Option Addr) (c d:Nat) (L:List ByteArray) (w:World) (hl:L.length≤1048576) (hc:Rd 1 encStr1 w a L) (hd:Rd 1 encStr1 w b L) :
  Calls Tryz.prog 18 #[.slice a L.length c,.slice b L.length d] w (RetB True w):=by
 have ht:((L.length:Int) != (L.length:Int))=false:=by simp
 go_enter Tryz.func18,Tryz.ntmps18
 go_wp2
 go_loopw [5] (fun i wr=>∃k:Nat,k≤L.length∧i=.int .i64 k∧Ext w wr) (fun i _=>L.length - (intOf i).toNat)
 case atStart=>exact⟨0,Nat.zero_le _,rfl,Ext.refl _⟩
 case round =>
  obtain⟨k,hk,rfl,hb⟩:=hrel
  by_cases hlt:k < L.length
  ·obtain⟨x,b1,off,hx,rfl,c0⟩:=atStr (hc.ext hb) hlt;obtain⟨y,b2,off',hy,rfl,d0⟩:=atStr (hd.ext hb) hlt;obtain rfl:x=y:=Option.some.inj (hx.symm.trans hy);clear hx hy ht
   have i0:(k:Int) < (L.length:Int):=by omega
   go_wp2
   go_quiet (fail)
   go_wp2;go_roundw
   case rel=>exact⟨k+1,by omega,by go_num,hb.drewN _⟩
   case measure=>simp[intOf];omega
  ·obtain rfl:k=L.length:=by omega
   go_wp2;go_ret;exact RetB.mk true rfl (by simp) hb
theorem sameInts_eq (a b:Option Addr) (c d:Nat) (L:List Int) (w:World) (hl:L.length≤1048576) (hc:Rd 1 encInt1 w a L) (hd:Rd 1 encInt1 w b L) :
  Calls Tryz.prog 99 #[.slice a L.length c,.slice b L.length d] w (RetB True w):=by
 have ht:((L.length:Int) != (L.length:Int))=false:=by simp
 go_enter Tryz.func99,Tryz.ntmps99
 go_wp2
 go_loopw [5] (fun i wr=>∃k:Nat,k≤L.length∧i=.int .i64 k∧Ext w wr) (fun i _=>L.length - (intOf i).toNat)
 case atStart=>exact⟨0,Nat.zero_le _,rfl,Ext.refl _⟩
 case round =>
  obtain⟨k,hk,rfl,hb⟩:=hrel
  by_cases hlt:k < L.length
  ·obtain⟨x,b1,off,hx,rfl,c0⟩:=atInt (hc.ext hb) hlt;obtain⟨y,b2,off',hy,rfl,d0⟩:=atInt (hd.ext hb) hlt;obtain rfl:x=y:=Option.some.inj (hx.symm.trans hy);clear hx hy ht
   have i0:(k:Int) < (L.length:Int):=by omega
   go_wp2
   go_quiet (fail)
   go_wp2;go_roundw
   case rel=>exact⟨k+1,by omega,by go_num,hb.drewN _⟩
   case measure=>simp[intOf];omega
  ·obtain rfl:k=L.length:=by omega
   go_wp2;go_ret;exact RetB.mk true rfl (by simp) hb
theorem sameTree_eq (a b:Option Addr) (c d:Nat) (T:List Nd) (w:World) (hl:T.length≤1048576) (hT:∀x∈T,SmN 1048576 x) (hc:RdN w a T) (hd:RdN w b T) :
  Calls Tryz.prog 58 #[.slice a T.length c,.slice b T.length d] w (RetB True w):=by
 have ht:((T.length:Int) != (T.length:Int))=false:=by simp
 have HT:=hd0 hT;clear hT
 go_enter Tryz.func58,Tryz.ntmps58
 go_wp2
 go_loopw [5] (fun i wr=>∃k:Nat,k≤T.length∧i=.int .i64 k∧Ext w wr) (fun i _=>T.length - (intOf i).toNat)
 case atStart=>exact⟨0,Nat.zero_le _,rfl,Ext.refl _⟩
 case round =>
  obtain⟨k,hk,rfl,hb⟩:=hrel
  by_cases hlt:k < T.length
  ·obtain⟨x,b1,off,an,cn,ak,ck,hx,rfl,c0,c1,c2,c3,c4,c5,c6,hcn,hck,hrn,hrk⟩:=atNd (hc.ext hb) hlt;obtain⟨y,b2,off2,an2,cn2,ak2,ck2,hy,rfl,d0,d1,d2,d3,d4,d5,d6,hdn,hdk,hsn,hsk⟩:=atNd (hd.ext hb) hlt;obtain rfl:x=y:=Option.some.inj (hx.symm.trans hy);have hxs:=HT.out x (List.mem_of_getElem? hx)
   have HTx:Hid (∀s:ExtW wr,Calls Tryz.prog 18 #[.slice an x.N.length cn,.slice an2 x.N.length cn2] s.x fun e w''=>e=.returned (.bool true)∧∃s':ExtW wr,w''=s'.x):=hd0 (fun s=>by
    have hC:=sameTexts_eq an an2 cn cn2 x.N s.x hxs.2.1 (hrn.ext s.h) (hsn.ext s.h)
    exact Calls.at_e (hC.mono (fun e w' ⟨v,h1,h2,h3⟩=>⟨by rw[h1,show v=true from h2.2 trivial],h3⟩)))
   have HIn:Hid (∀s:ExtW wr,Calls Tryz.prog 99 #[.slice ak x.K.length ck,.slice ak2 x.K.length ck2] s.x fun e w''=>e=.returned (.bool true)∧∃s':ExtW wr,w''=s'.x):=hd0 (fun s=>by
    have hC:=sameInts_eq ak ak2 ck ck2 x.K s.x hxs.2.2.2 (hrk.ext s.h) (hsk.ext s.h)
    exact Calls.at_e (hC.mono (fun e w' ⟨v,h1,h2,h3⟩=>⟨by rw[h1,show v=true from h2.2 trivial],h3⟩)))
   have i0:(k:Int) < (T.length:Int):=by omega
   clear hx hy ht hcn hck hrn hrk hdn hdk hsn hsk hxs
   go_wp2_with fail
   have p0:=ExtW.cell c0;have p1:=ExtW.cell c1;have p2:=ExtW.cell c2;have p3:=ExtW.cell c3;have p4:=ExtW.cell c4;have p5:=ExtW.cell c5;have p6:=ExtW.cell c6;have bl:=ExtW.lt c0;have q0:=ExtW.cell d0;have q1:=ExtW.cell d1;have q2:=ExtW.cell d2;have q3:=ExtW.cell d3;have q4:=ExtW.cell d4;have q5:=ExtW.cell d5;have q6:=ExtW.cell d6;have br:=ExtW.lt d0
   have t0:(x.fold != x.fold)=false:=by simp
   have t1:(x.own != x.own)=false:=by simp
   have t2:(x.grp != x.grp)=false:=by simp
   have t3:(x.mode != x.mode)=false:=by simp
   have t4:(x.text.toList == x.text.toList)=true:=by simp
   clear c0 c1 c2 c3 c4 c5 c6 d0 d1 d2 d3 d4 d5 d6
   (refine wp_region_quiet_ext (by kernel_rfl) (by kernel_rfl) ?_;simp only[List.append];(repeat (go_big_quiet_step ((first|(go_at_call 18;exact HTx.out _)|(go_at_call 99;exact HIn.out _)))));refine wpQuiet_nil ?_;intro _ hw';obtain⟨sq,hw''⟩:=hw';subst hw'')
   obtain⟨w5,hw5⟩:=sq;clear p0 p1 p2 p3 p4 p5 p6 q0 q1 q2 q3 q4 q5 q6 bl br t0 t1 t2 t3 t4 HTx HIn;go_wp2;go_roundw
   case rel=>exact⟨k+1,by omega,by go_num,hb.trans hw5⟩
   case measure=>simp[intOf];omega
  ·obtain rfl:k=T.length:=by omega
   go_wp2;go_ret;exact RetB.mk true rfl (by simp) hb
theorem sameKernel_eq (a b:Option Addr) (cp dp:Nat) (T:List Nd) (r c s g:Int) (w:World) (hl:T.length≤1048576) (hT:∀x∈T,SmN 1048576 x) (hc:RdN w a T) (hd:RdN w b T) :
  Calls Tryz.prog 17 #[.agg #[.slice a T.length cp,.int .i64 r,.int .i64 c,.int .i64 s,.int .i64 g],.agg #[.slice b T.length dp,.int .i64 r,.int .i64 c,.int .i64 s,.int .i64 g]] w (RetB True w):=by
 have HT:=hd0 hT;clear hT
 go_enter Tryz.func17,Tryz.ntmps17
 have S:=Sep.start w;replace S:=S.alloc_at (n:=w.heap.size) (by simp) #[.slice a T.length cp,.int .i64 r,.int .i64 c,.int .i64 s,.int .i64 g] 31;replace S:=S.alloc_at (n:=(w.heap.size+1)) (by simp) #[.slice b T.length dp,.int .i64 r,.int .i64 c,.int .i64 s,.int .i64 g] 31
 go_upto_region 1 with fail
 generalize ((w.alloc (.cells #[.slice a T.length cp,.int .i64 r,.int .i64 c,.int .i64 s,.int .i64 g] 31)).alloc (.cells #[.slice b T.length dp,.int .i64 r,.int .i64 c,.int .i64 s,.int .i64 g] 31))=w1 at *;obtain⟨⟨qc0,qf0⟩,⟨qc1,qf1⟩,⟨qc2,qf2⟩,⟨qc3,qf3⟩,⟨qc4,qf4⟩⟩:=bx5 (S.box 0 rfl);obtain⟨⟨pc0,pf0⟩,⟨pc1,pf1⟩,⟨pc2,pf2⟩,⟨pc3,pf3⟩,⟨pc4,pf4⟩⟩:=bx5 (S.box 1 rfl)
 go_wp2_with fail
 clear qc0 qf0 qc1 qf1 qc2 qf2 qc3 qf3 qc4 qf4 pc0 pf0 pc1 pf1 pc2 pf2 pc3 pf3 pc4 pf4;refine(sameTree_eq a b cp dp T _ hl HT.out (hc.ext S.ext) (hd.ext S.ext)).mono ?_;rintro e w2 ⟨v1,rfl,hv1,hE⟩;obtain rfl:v1=true:=hv1.2 trivial;replace S:=S.step hE;clear hE;go_wp2;go_ret;exact RetB.mk true rfl (by simp) S.ext
theorem rdN_none (w:World):RdN w none []:=⟨[],rfl,fun i hi=>absurd hi (Nat.not_lt_zero _),fun c hc=>by cases hc⟩
theorem sm_all {T:List Nd} (h:∀x∈T,SmN 200000 x):∀x∈T,SmN 1048576 x:=fun x hx=>by
 have:=h x hx;exact⟨by have:=this.1;omega,by have:=this.2.1;omega,fun s hs=>by have:=this.2.2.1 s hs;omega,by have:=this.2.2.2;omega⟩
theorem sameKernel_is {T R:List Nd} {r c s g cr cc cs cg:Int} (e:T=R∧r=cr∧c=cc∧s=cs∧g=cg) (a b:Option Addr) (cp dp:Nat) (w:World) (hl:T.length≤1048576) (hT:∀x∈T,SmN 1048576 x) (hc:RdN w a T) (hd:RdN w b R) :
  Calls Tryz.prog 17 #[.agg #[.slice a T.length cp,.int .i64 r,.int .i64 c,.int .i64 s,.int .i64 g],.agg #[.slice b R.length dp,.int .i64 cr,.int .i64 cc,.int .i64 cs,.int .i64 cg]] w (RetB True w):=by
 obtain⟨rfl,rfl,rfl,rfl,rfl⟩:=e;exact sameKernel_eq a b cp dp T r c s g w hl hT hc hd
theorem out_rd {w:World} {a:Option Addr} {n c:Nat} {A:List ByteArray} (h:(plOut (.slice a n c) A).ok w):Rd 1 encStr1 w a A:=by
 obtain⟨a',c',hu,hr⟩:=out_view h;simp only[Value.slice.injEq]at hu;rw[hu.1];exact hr
section
variable {P:Program} {ops:Array Oper} {Q:Exit→Act→World→Prop} {a:Act} {w:World} {rest:List Oper} {o:Oper}
theorem wpList_unguard (hw:Region.wanted o (yielded ops a.tmps)=true) (h:wpList P ops Q ({ o with guard:=none } :: rest) a w):wpList P ops Q (o :: rest) a w:=by
 simp only[wpList,hw,if_true];simp only[wpList,Region.wanted,if_true]at h;exact h
end
end Go.Proofs.YtnibbldfohbfkaaGreatDoor
