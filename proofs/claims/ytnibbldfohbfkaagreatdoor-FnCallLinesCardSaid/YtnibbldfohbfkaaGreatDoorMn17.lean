/- Parts of one proof: what each theorem proves, and its conditions, stand in its own statement. -/
import Derived.Test.YtnibbldfohbfkaaGreatDoorMn15
import Derived.Test.YtnibbldfohbfkaaGreatDoorMn16
set_option linter.all false
set_option maxRecDepth 100000
set_option maxHeartbeats 32000000
namespace Go.Proofs.YtnibbldfohbfkaaGreatDoor
open Go.RowKit
def VSm (wR:World) (B3:Nat) (at_:Option Addr) (cap:Nat) (T:List Nd) (cr ca cs cg:Int):Nat→Value→World→Prop:=fun i v wv=>match i with
 | 0=>v=.pointer (some ⟨B3,0,none⟩)
 | 1=>v=.slice at_ T.length cap
 | 2=>∃vs,Sep wR wv [plNd v vs T]
 | 3=>v=.pointer (some ⟨B3,1,none⟩)
 | 4=>v=.agg #[.int .i64 cr,.int .i64 ca,.int .i64 cs,.int .i64 cg]
 | 5=>∃u vs,v=.agg #[u,.int .i64 cr,.int .i64 ca,.int .i64 cs,.int .i64 cg]∧Sep wR wv [plNd u vs T]
 | 6=>∃B,v=.pointer (some ⟨B,0,none⟩)∧wR.heap.size≤B∧wv.heap[B]?=some (.cells #[.slice none 0 0,.int .i64 0,.int .i64 0,.int .i64 0,.int .i64 0] 31)
 | _=>True
theorem VSm.ext {wR:World} {B3:Nat} {at_:Option Addr} {cap:Nat} {T:List Nd} {cr ca cs cg:Int} (i:Nat) (v:Value) (w1 w2:World) (h:VSm wR B3 at_ cap T cr ca cs cg i v w1) (hE:Ext w1 w2):VSm wR B3 at_ cap T cr ca cs cg i v w2:=by
 match i with
 | 0|1|3|4=>exact h
 | 2=>obtain⟨vs,h1⟩:=h;exact⟨vs,h1.step hE⟩
 | 5=>obtain⟨u,vs,h0,h1⟩:=h;exact⟨u,vs,h0,h1.step hE⟩
 | 6=>obtain⟨B,h0,h1,h2⟩:=h;exact⟨B,h0,h1,heapx hE h2⟩
 | (n+7)=>trivial
def VCl (wR:World) (at_:Option Addr) (cap:Nat) (T:List Nd) (cr ca cs cg:Int) (gw nw cw:Nat) (x:ByteArray) (r:List Nd×Int):Nat→Value→World→Prop:=fun i v wv=>match i with
 | 0=>v=.slice at_ T.length cap
 | 1=>v=.agg #[.int .i64 cr,.int .i64 ca,.int .i64 cs,.int .i64 cg]
 | 2=>v=.slice (some ⟨gw,0,none⟩) nw cw
 | 3=>v=.pointer (some ⟨gw,1,none⟩)
 | 4=>v=.string x
 | 5=>∃u vs,v=.tuple #[u,.int .i64 r.2]∧Sep wR wv [plNd u vs r.1]
 | 6=>∃u vs,v=.tuple #[u,.int .i64 r.2]∧Sep wR wv [plNd u vs r.1]
 | 7=>∃vs,Sep wR wv [plNd v vs r.1]
 | 8=>v=.int .i64 r.2
 | 9=>∃vs,Sep wR wv [plNd v vs r.1]
 | _=>True
theorem VCl.ext {wR:World} {at_:Option Addr} {cap:Nat} {T:List Nd} {cr ca cs cg:Int} {gw nw cw:Nat} {x:ByteArray} {r:List Nd×Int} (i:Nat) (v:Value) (w1 w2:World) (h:VCl wR at_ cap T cr ca cs cg gw nw cw x r i v w1) (hE:Ext w1 w2):VCl wR at_ cap T cr ca cs cg gw nw cw x r i v w2:=by
 match i with
 | 0|1|2|3|4|8=>exact h
 | 5=>obtain⟨u,vs,h0,h1⟩:=h;exact⟨u,vs,h0,h1.step hE⟩
 | 6=>obtain⟨u,vs,h0,h1⟩:=h;exact⟨u,vs,h0,h1.step hE⟩
 | 7=>obtain⟨vs,h1⟩:=h;exact⟨vs,h1.step hE⟩
 | 9=>obtain⟨vs,h1⟩:=h;exact⟨vs,h1.step hE⟩
 | (n+10)=>trivial
def VC3 (wR:World) (at_:Option Addr) (cap:Nat) (T:List Nd) (cr ca cs cg:Int) (gw nw cw:Nat) (x y:ByteArray) (r:List Nd×Int):Nat→Value→World→Prop:=fun i v wv=>match i with
 | 0=>v=.slice at_ T.length cap
 | 1=>v=.agg #[.int .i64 cr,.int .i64 ca,.int .i64 cs,.int .i64 cg]
 | 2=>v=.slice (some ⟨gw,0,none⟩) nw cw
 | 3=>v=.pointer (some ⟨gw,1,none⟩)
 | 4=>v=.string x
 | 5=>v=.slice (some ⟨gw,0,none⟩) nw cw
 | 6=>v=.pointer (some ⟨gw,2,none⟩)
 | 7=>v=.string y
 | 8=>∃u vs,v=.tuple #[u,.int .i64 r.2]∧Sep wR wv [plNd u vs r.1]
 | 9=>∃u vs,v=.tuple #[u,.int .i64 r.2]∧Sep wR wv [plNd u vs r.1]
 | 10=>∃vs,Sep wR wv [plNd v vs r.1]
 | 11=>v=.int .i64 r.2
 | 12=>∃vs,Sep wR wv [plNd v vs r.1]
 | _=>True
theorem VC3.ext {wR:World} {at_:Option Addr} {cap:Nat} {T:List Nd} {cr ca cs cg:Int} {gw nw cw:Nat} {x y:ByteArray} {r:List Nd×Int} (i:Nat) (v:Value) (w1 w2:World) (h:VC3 wR at_ cap T cr ca cs cg gw nw cw x y r i v w1) (hE:Ext w1 w2):VC3 wR at_ cap T cr ca cs cg gw nw cw x y r i v w2:=by
 match i with
 | 0=>exact h
 | 1=>exact h
 | 2=>exact h
 | 3=>exact h
 | 4=>exact h
 | 5=>exact h
 | 6=>exact h
 | 7=>exact h
 | 8=>obtain⟨u,vs,h0,h1⟩:=h;exact⟨u,vs,h0,h1.step hE⟩
 | 9=>obtain⟨u,vs,h0,h1⟩:=h;exact⟨u,vs,h0,h1.step hE⟩
 | 10=>obtain⟨vs,h1⟩:=h;exact⟨vs,h1.step hE⟩
 | 11=>exact h
 | 12=>obtain⟨vs,h1⟩:=h;exact⟨vs,h1.step hE⟩
 | (n+13)=>trivial
def VCr (wR:World) (at_:Option Addr) (cap:Nat) (T:List Nd) (cr ca cs cg:Int) (gw nw cw:Nat) (x:ByteArray) (y:ByteArray) (r:Int×Bool):Nat→Value→World→Prop:=fun i v wv=>match i with
 | 0=>v=.slice (some ⟨gw,0,none⟩) nw cw
 | 1=>v=.pointer (some ⟨gw,2,none⟩)
 | 2=>v=.string y
 | 3=>v=.tuple #[.int .i64 r.1,.bool r.2]
 | 4=>v=.tuple #[.int .i64 r.1,.bool r.2]
 | 5=>v=.int .i64 r.1
 | 6=>v=.bool r.2
 | 7=>v=.int .i64 r.1
 | _=>True
theorem VCr.ext {wR:World} {at_:Option Addr} {cap:Nat} {T:List Nd} {cr ca cs cg:Int} {gw nw cw:Nat} {x:ByteArray} {y:ByteArray} {r:Int×Bool} (i:Nat) (v:Value) (w1 w2:World) (h:VCr wR at_ cap T cr ca cs cg gw nw cw x y r i v w1) (hE:Ext w1 w2):VCr wR at_ cap T cr ca cs cg gw nw cw x y r i v w2:=by
 match i with
 | 0=>exact h
 | 1=>exact h
 | 2=>exact h
 | 3=>exact h
 | 4=>exact h
 | 5=>exact h
 | 6=>exact h
 | 7=>exact h
 | (n+8)=>trivial
def VCt (wR:World) (at_:Option Addr) (cap:Nat) (T:List Nd) (cr ca cs cg:Int) (gw nw cw:Nat) (x:ByteArray) (r:ByteArray×Int):Nat→Value→World→Prop:=fun i v wv=>match i with
 | 0=>v=.slice at_ T.length cap
 | 1=>v=.agg #[.int .i64 cr,.int .i64 ca,.int .i64 cs,.int .i64 cg]
 | 2=>v=.slice (some ⟨gw,0,none⟩) nw cw
 | 3=>v=.pointer (some ⟨gw,1,none⟩)
 | 4=>v=.string x
 | 5=>v=.tuple #[.string r.1,.int .i64 r.2]
 | 6=>v=.tuple #[.string r.1,.int .i64 r.2]
 | 7=>v=.string r.1
 | 8=>v=.int .i64 r.2
 | 9=>v=.string r.1
 | _=>True
theorem VCt.ext {wR:World} {at_:Option Addr} {cap:Nat} {T:List Nd} {cr ca cs cg:Int} {gw nw cw:Nat} {x:ByteArray} {r:ByteArray×Int} (i:Nat) (v:Value) (w1 w2:World) (h:VCt wR at_ cap T cr ca cs cg gw nw cw x r i v w1) (hE:Ext w1 w2):VCt wR at_ cap T cr ca cs cg gw nw cw x r i v w2:=by
 match i with
 | 0=>exact h
 | 1=>exact h
 | 2=>exact h
 | 3=>exact h
 | 4=>exact h
 | 5=>exact h
 | 6=>exact h
 | 7=>exact h
 | 8=>exact h
 | 9=>exact h
 | (n+10)=>trivial
def VCn (wR:World) (at_:Option Addr) (cap:Nat) (T:List Nd) (cr ca cs cg:Int) (gw nw cw:Nat) (x:ByteArray) (r:List ByteArray×Int):Nat→Value→World→Prop:=fun i v wv=>match i with
 | 0=>v=.slice at_ T.length cap
 | 1=>v=.agg #[.int .i64 cr,.int .i64 ca,.int .i64 cs,.int .i64 cg]
 | 2=>v=.slice (some ⟨gw,0,none⟩) nw cw
 | 3=>v=.pointer (some ⟨gw,1,none⟩)
 | 4=>v=.string x
 | 5=>∃u,v=.tuple #[u,.int .i64 r.2]∧Sep wR wv [plRow 9 1 encStr1 u r.1]
 | 6=>∃u,v=.tuple #[u,.int .i64 r.2]∧Sep wR wv [plRow 9 1 encStr1 u r.1]
 | 7=>Sep wR wv [plRow 9 1 encStr1 v r.1]
 | 8=>v=.int .i64 r.2
 | 9=>Sep wR wv [plRow 9 1 encStr1 v r.1]
 | _=>True
theorem VCn.ext {wR:World} {at_:Option Addr} {cap:Nat} {T:List Nd} {cr ca cs cg:Int} {gw nw cw:Nat} {x:ByteArray} {r:List ByteArray×Int} (i:Nat) (v:Value) (w1 w2:World) (h:VCn wR at_ cap T cr ca cs cg gw nw cw x r i v w1) (hE:Ext w1 w2):VCn wR at_ cap T cr ca cs cg gw nw cw x r i v w2:=by
 match i with
 | 0=>exact h
 | 1=>exact h
 | 2=>exact h
 | 3=>exact h
 | 4=>exact h
 | 5=>obtain⟨u,h0,h1⟩:=h;exact⟨u,h0,h1.step hE⟩
 | 6=>obtain⟨u,h0,h1⟩:=h;exact⟨u,h0,h1.step hE⟩
 | 7=>exact h.step hE
 | 8=>exact h
 | 9=>exact h.step hE
 | (n+10)=>trivial
def VCm (wR:World) (at_:Option Addr) (cap:Nat) (T:List Nd) (cr ca cs cg:Int) (gw nw cw:Nat) (x:ByteArray) (md:Int) (r:List Nd×Int):Nat→Value→World→Prop:=fun i v wv=>match i with
 | 0=>v=.slice at_ T.length cap
 | 1=>v=.agg #[.int .i64 cr,.int .i64 ca,.int .i64 cs,.int .i64 cg]
 | 2=>v=.slice (some ⟨gw,0,none⟩) nw cw
 | 3=>v=.pointer (some ⟨gw,1,none⟩)
 | 4=>v=.string x
 | 5=>v=.int .i64 md
 | 6=>∃u vs,v=.tuple #[u,.int .i64 r.2]∧Sep wR wv [plNd u vs r.1]
 | 7=>∃u vs,v=.tuple #[u,.int .i64 r.2]∧Sep wR wv [plNd u vs r.1]
 | 8=>∃vs,Sep wR wv [plNd v vs r.1]
 | 9=>v=.int .i64 r.2
 | 10=>∃vs,Sep wR wv [plNd v vs r.1]
 | _=>True
theorem VCm.ext {wR:World} {at_:Option Addr} {cap:Nat} {T:List Nd} {cr ca cs cg:Int} {gw nw cw:Nat} {x:ByteArray} {md:Int} {r:List Nd×Int} (i:Nat) (v:Value) (w1 w2:World) (h:VCm wR at_ cap T cr ca cs cg gw nw cw x md r i v w1) (hE:Ext w1 w2):VCm wR at_ cap T cr ca cs cg gw nw cw x md r i v w2:=by
 match i with
 | 0=>exact h
 | 1=>exact h
 | 2=>exact h
 | 3=>exact h
 | 4=>exact h
 | 5=>exact h
 | 6=>obtain⟨u,vs,h0,h1⟩:=h;exact⟨u,vs,h0,h1.step hE⟩
 | 7=>obtain⟨u,vs,h0,h1⟩:=h;exact⟨u,vs,h0,h1.step hE⟩
 | 8=>obtain⟨vs,h1⟩:=h;exact⟨vs,h1.step hE⟩
 | 9=>exact h
 | 10=>obtain⟨vs,h1⟩:=h;exact⟨vs,h1.step hE⟩
 | (n+11)=>trivial
def VFl (sv:Value) (f:Int):Nat→Value→World→Prop:=fun i v _=>match i with
 | 0=>v=sv
 | 1=>v=.int .i64 f
 | 2=>v=.string (faultText f)
 | _=>True
theorem VFl.ext {sv:Value} {f:Int} (i:Nat) (v:Value) (w1 w2:World) (h:VFl sv f i v w1) (hE:Ext w1 w2):VFl sv f i v w2:=h
theorem two_cases (a:ByteArray):a=⟨#[102,111,108,100,101,114]⟩∨a=⟨#[102,105,108,101]⟩∨a=⟨#[100,114,111,112]⟩∨a=⟨#[114,101,97,100]⟩∨a=⟨#[108,105,115,116]⟩∨(a≠⟨#[102,111,108,100,101,114]⟩∧a≠⟨#[102,105,108,101]⟩∧a≠⟨#[100,114,111,112]⟩∧a≠⟨#[114,101,97,100]⟩∧a≠⟨#[108,105,115,116]⟩):=by
 by_cases h0:a=⟨#[102,111,108,100,101,114]⟩
 ·exact .inl h0
 by_cases h1:a=⟨#[102,105,108,101]⟩
 ·exact .inr (.inl h1)
 by_cases h2:a=⟨#[100,114,111,112]⟩
 ·exact .inr (.inr (.inl h2))
 by_cases h3:a=⟨#[114,101,97,100]⟩
 ·exact .inr (.inr (.inr (.inl h3)))
 by_cases h4:a=⟨#[108,105,115,116]⟩
 ·exact .inr (.inr (.inr (.inr (.inl h4))))
 exact .inr (.inr (.inr (.inr (.inr (⟨h0,h1,h2,h3,h4⟩)))))
theorem three_cases (a:ByteArray):a=⟨#[119,114,105,116,101]⟩∨a=⟨#[109,111,100,101]⟩∨a=⟨#[108,105,110,107]⟩∨a=⟨#[109,111,118,101]⟩∨(a≠⟨#[119,114,105,116,101]⟩∧a≠⟨#[109,111,100,101]⟩∧a≠⟨#[108,105,110,107]⟩∧a≠⟨#[109,111,118,101]⟩):=by
 by_cases h0:a=⟨#[119,114,105,116,101]⟩
 ·exact .inl h0
 by_cases h1:a=⟨#[109,111,100,101]⟩
 ·exact .inr (.inl h1)
 by_cases h2:a=⟨#[108,105,110,107]⟩
 ·exact .inr (.inr (.inl h2))
 by_cases h3:a=⟨#[109,111,118,101]⟩
 ·exact .inr (.inr (.inr (.inl h3)))
 exact .inr (.inr (.inr (.inr (⟨h0,h1,h2,h3⟩))))
noncomputable def callCr (T:List Nd) (c:Cr):Cr:=open Classical in if TreeOk T∧c.ok then c else⟨0,0,0,0⟩
theorem nil_tree {w w1:World} (hE:Ext w w1):Sep w w1 [plNd (.slice none 0 0) [] []] :=
 ((Sep.of_ext hE).nil 89 7 encNc).gPure (P:=pinNd) (T:=([]:List Nd)) 0 rfl rfl (fun k s t hs=>by simp at hs) (fun s hs=>by simp at hs)
theorem specCallLine (at_:Option Addr) (cap:Nat) (T:List Nd) (cr ca cs cg:Int) (s:ByteArray) (w:World) (hs:s.size≤1048576) (hl:T.length≤1048576) (hT:∀x∈T,SmN 1048576 x) (hNB:TreeOk T→NB 1000000 T) (hc:RdN w at_ T) :
  Calls Tryz.prog 8 #[.agg #[.slice at_ T.length cap,.int .i64 cr,.int .i64 ca,.int .i64 cs,.int .i64 cg],.string s] w (RetK (callLine T ⟨cr,ca,cs,cg⟩ s) (callCr T ⟨cr,ca,cs,cg⟩) w):=by
 have HT:=hd0 hT;have HNB:=hd0 hNB;clear hT hNB
 go_enter Tryz.func8,Tryz.ntmps8
 have S:=Sep.start w;replace S:=S.alloc_at (n:=w.heap.size) (by simp) #[.slice at_ T.length cap,.int .i64 cr,.int .i64 ca,.int .i64 cs,.int .i64 cg] 31;replace S:=S.alloc_at (n:=(w.heap.size+1)) (by simp) #[.slice none 0 0,.int .i64 0,.int .i64 0,.int .i64 0,.int .i64 0] 31
 go_upto_region 1 with fail
 generalize ((w.alloc (.cells #[.slice at_ T.length cap,.int .i64 cr,.int .i64 ca,.int .i64 cs,.int .i64 cg] 31)).alloc (.cells #[.slice none 0 0,.int .i64 0,.int .i64 0,.int .i64 0,.int .i64 0] 31))=w1 at *;generalize w.heap.size+1=B4 at *;generalize w.heap.size=B3 at *;obtain⟨⟨b3c0,b3f0⟩,⟨b3c1,b3f1⟩,⟨b3c2,b3f2⟩,⟨b3c3,b3f3⟩,⟨b3c4,b3f4⟩⟩:=bx5 (S.box 1 rfl)
 go_wp2_with fail
 clear b3c0 b3f0 b3c1 b3f1 b3c2 b3f2 b3c3 b3f3 b3c4 b3f4;refine(specKernelValid at_ cap T cr ca cs cg w1 hl HT.out (hc.ext S.ext)).mono ?_;rintro e w2 ⟨v,rfl,hv,hE⟩;have Hv:=hd0 hv;clear hv;replace S:=S.step hE;clear hE
 cases v with
 | false =>
  have hno:¬(TreeOk T∧Cr.ok ⟨cr,ca,cs,cg⟩):=fun h=>Bool.noConfusion (Hv.out.2 h)
  have HX:Hid (callLine T ⟨cr,ca,cs,cg⟩ s=([],⟨#[]⟩)∧callCr T ⟨cr,ca,cs,cg⟩=⟨0,0,0,0⟩):=hd0 ⟨by unfold callLine;rw[if_neg hno],by unfold callCr;rw[if_neg hno]⟩;clear hno;obtain⟨⟨b4c0,b4f0⟩,⟨b4c1,b4f1⟩,⟨b4c2,b4f2⟩,⟨b4c3,b4f3⟩,⟨b4c4,b4f4⟩⟩:=bx5 (S.box 0 rfl);go_wp2;clear b4c0 b4f0 b4c1 b4f1 b4c2 b4f2 b4c3 b4f3 b4c4 b4f4;replace S:Sep w (((((w2.setCell ⟨B4,0,none⟩ (.slice none 0 0)).setCell ⟨B4,1,none⟩ (.int .i64 0)).setCell ⟨B4,2,none⟩ (.int .i64 0)).setCell ⟨B4,3,none⟩ (.int .i64 0)).setCell ⟨B4,4,none⟩ (.int .i64 0)) [plBox B4 #[.slice none 0 0,.int .i64 0,.int .i64 0,.int .i64 0,.int .i64 0] 31,plBox B3 #[.slice at_ T.length cap,.int .i64 cr,.int .i64 ca,.int .i64 cs,.int .i64 cg] 31]:=((((S.set 0 rfl 0 _).set 0 rfl 1 _).set 0 rfl 2 _).set 0 rfl 3 _).set 0 rfl 4 _;generalize (((((w2.setCell ⟨B4,0,none⟩ (.slice none 0 0)).setCell ⟨B4,1,none⟩ (.int .i64 0)).setCell ⟨B4,2,none⟩ (.int .i64 0)).setCell ⟨B4,3,none⟩ (.int .i64 0)).setCell ⟨B4,4,none⟩ (.int .i64 0))=wD at *;obtain⟨⟨b4c0,b4f0⟩,⟨b4c1,b4f1⟩,⟨b4c2,b4f2⟩,⟨b4c3,b4f3⟩,⟨b4c4,b4f4⟩⟩:=bx5 (S.box 0 rfl);refine bodyPost_ret (v:=.tuple #[.agg #[.slice none 0 0,.int .i64 0,.int .i64 0,.int .i64 0,.int .i64 0],.string ⟨#[]⟩]) (by simp[results,Tryz.results8,go_sem,b4c0,b4c1,b4c2,b4c3,b4c4]) rfl ?_;rw[HX.out.1,HX.out.2];exact⟨_,[],rfl,nil_tree S.ext⟩
 | true =>
  have hyes:TreeOk T∧Cr.ok ⟨cr,ca,cs,cg⟩:=Hv.out.1 rfl;have HX:Hid (callLine T ⟨cr,ca,cs,cg⟩ s=callF T ⟨cr,ca,cs,cg⟩ (wordsB s)∧callCr T ⟨cr,ca,cs,cg⟩=⟨cr,ca,cs,cg⟩):=hd0 ⟨by unfold callLine;rw[if_pos hyes],by unfold callCr;rw[if_pos hyes]⟩;replace HNB:Hid (NB 1000000 T):=hd0 (HNB.out hyes.1);clear Hv hyes
  go_upto_region 3 with fail
  have S:=S.drew;obtain⟨b3c0,_⟩:=bx (S.box 1 rfl) 0 rfl;obtain⟨b3c1,_⟩:=bx (S.box 1 rfl) 1 rfl;obtain⟨b3c2,_⟩:=bx (S.box 1 rfl) 2 rfl;obtain⟨b3c3,_⟩:=bx (S.box 1 rfl) 3 rfl;obtain⟨b3c4,_⟩:=bx (S.box 1 rfl) 4 rfl;have hcd:RdN (World.drew w2) at_ T:=hc.ext S.ext;have HSd:=hd0 S;clear S;refine wp_region_c (V:=VSm (World.drew w2) B3 at_ cap T cr ca cs cg) (fun wv=>Ext (World.drew w2) wv) (fun i=>if i=2 then some 5 else none) [] 7 0 rfl (by decide) (by kernel_rfl) (by kernel_rfl) (by kernel_rfl) (by kernel_rfl) (Ext.refl _) (fun r hr=>by omega) ?_ ?_
  ·intro i o hi ho vz w4 hvl hE hd hrest
   match vz,hvl with
   | [y0,y1,y2,y3,y4,y5,y6],_ =>
   rcases lc7 hi with rfl|rfl|rfl|rfl|rfl|rfl|rfl
   all_goals
    obtain rfl:=Option.some.inj ho
   ·clear hd hrest;simp[putAll,Act.put];go_wp2;exact OneC.mk (VSm.ext) rfl rfl hE (Ext.refl _)
   ·have q0:y0=.pointer (some ⟨B3,0,none⟩):=hd ⟨0,.data⟩ (by simp) rfl (.inl rfl);have c0:=cell_ext hE b3c0;subst q0;clear hd hrest;simp[putAll,Act.put];go_wp2;exact OneC.mk (VSm.ext) rfl rfl hE (Ext.refl _)
   ·have q1:y1=.slice at_ T.length cap:=hd ⟨1,.data⟩ (by simp) rfl (.inl rfl);have HC:=hd0 (specCopy at_ cap T w4 hl HT.out (hcd.ext hE));subst q1;clear hd hrest;simp[putAll,Act.put]
    go_wp2_with fail
    refine HC.out.mono ?_;rintro e w5 ⟨u5,vs5,rfl,S5⟩;have S6:=S5.since hE;have hE5:=S5.ext;clear HC S5;go_wp2;exact OneC.mk (VSm.ext) rfl ⟨_,S6⟩ (hE.trans hE5) hE5
   ·clear hd hrest;simp[putAll,Act.put];go_wp2;exact OneC.mk (VSm.ext) rfl rfl hE (Ext.refl _)
   ·have q3:y3=.pointer (some ⟨B3,1,none⟩):=hd ⟨3,.data⟩ (by simp) rfl (.inl rfl);have c1:=cell_ext hE b3c1;have c2:=cell_ext hE b3c2;have c3:=cell_ext hE b3c3;have c4:=cell_ext hE b3c4;subst q3;clear hd hrest;simp[putAll,Act.put];go_wp2;exact OneC.mk (VSm.ext) rfl rfl hE (Ext.refl _)
   ·obtain⟨vs2,S2⟩:∃vs,Sep (World.drew w2) w4 [plNd y2 vs T]:=hd ⟨2,.data⟩ (by simp) rfl (.inr rfl);have q4:y4=.agg #[.int .i64 cr,.int .i64 ca,.int .i64 cs,.int .i64 cg]:=hd ⟨4,.data⟩ (by simp) rfl (.inl rfl);obtain⟨ua2,uc2,rfl,_,_⟩:=nd_view (S2.at_ 0 rfl);have HS2:=hd0 S2;subst q4;clear hd hrest S2;simp[putAll,Act.put];go_wp2;refine⟨rfl,_,rfl,⟨_,vs2,rfl,HS2.out⟩,hE,fun j u hj hne hcon hnd hnc hv=>hv⟩
   ·clear hd hrest;have hsz:=hE.size;simp[putAll,Act.put];go_wp2;exact OneC.mk (VSm.ext) rfl ⟨_,rfl,hsz,heap_alloc_new w4 _⟩ (hE.alloc _) ((Ext.refl _).alloc _)
  ·intro vz wE hvl hE hV _
   match vz,hvl with
   | [y0,y1,y2,y3,y4,y5,y6],_ =>
   obtain⟨u5,vs5,q5,S5⟩:∃u vs,y5=.agg #[u,.int .i64 cr,.int .i64 ca,.int .i64 cs,.int .i64 cg]∧Sep (World.drew w2) wE [plNd u vs T]:=hV 5 (by omega) rfl;obtain⟨B6,q6,hB6,hb6⟩:∃B,y6=.pointer (some ⟨B,0,none⟩)∧(World.drew w2).heap.size≤B∧wE.heap[B]?=some (.cells #[.slice none 0 0,.int .i64 0,.int .i64 0,.int .i64 0,.int .i64 0] 31):=hV 6 (by omega) rfl;obtain⟨ua5,uc5,rfl,_,_⟩:=nd_view (S5.at_ 0 rfl);have S:=HSd.out.call (S5.addBox hb6 (by decide) hB6 (fun p hp=>by cases hp));have S:Sep w wE [plBox B6 #[.slice none 0 0,.int .i64 0,.int .i64 0,.int .i64 0,.int .i64 0] 31,plNd (.slice ua5 T.length uc5) vs5 T,plBox B4 #[.slice none 0 0,.int .i64 0,.int .i64 0,.int .i64 0,.int .i64 0] 31,plBox B3 #[.slice at_ T.length cap,.int .i64 cr,.int .i64 ca,.int .i64 cs,.int .i64 cg] 31]:=S;subst q5 q6;clear hV hE S5 HSd hcd b3c0 b3c1 b3c2 b3c3 b3c4 hB6 hb6;simp only[putAll,Act.put,List.take_succ_cons,List.take_zero,List.drop_succ_cons,List.drop_zero];simp;obtain⟨⟨b6c0,b6f0⟩,⟨b6c1,b6f1⟩,⟨b6c2,b6f2⟩,⟨b6c3,b6f3⟩,⟨b6c4,b6f4⟩⟩:=bx5 (S.box 0 rfl)
   go_wp2_with fail
   clear b6c0 b6f0 b6c1 b6f1 b6c2 b6f2 b6c3 b6f3 b6c4 b6f4;replace S:Sep w (((((wE.setCell ⟨B6,0,none⟩ (.slice ua5 T.length uc5)).setCell ⟨B6,1,none⟩ (.int .i64 cr)).setCell ⟨B6,2,none⟩ (.int .i64 ca)).setCell ⟨B6,3,none⟩ (.int .i64 cs)).setCell ⟨B6,4,none⟩ (.int .i64 cg)) [plBox B6 #[.slice ua5 T.length uc5,.int .i64 cr,.int .i64 ca,.int .i64 cs,.int .i64 cg] 31,plNd (.slice ua5 T.length uc5) vs5 T,plBox B4 #[.slice none 0 0,.int .i64 0,.int .i64 0,.int .i64 0,.int .i64 0] 31,plBox B3 #[.slice at_ T.length cap,.int .i64 cr,.int .i64 ca,.int .i64 cs,.int .i64 cg] 31]:=((((S.set 0 rfl 0 _).set 0 rfl 1 _).set 0 rfl 2 _).set 0 rfl 3 _).set 0 rfl 4 _;generalize (((((wE.setCell ⟨B6,0,none⟩ (.slice ua5 T.length uc5)).setCell ⟨B6,1,none⟩ (.int .i64 cr)).setCell ⟨B6,2,none⟩ (.int .i64 ca)).setCell ⟨B6,3,none⟩ (.int .i64 cs)).setCell ⟨B6,4,none⟩ (.int .i64 cg))=w5 at *;refine(specWords s w5 hs).mono ?_;rintro e w6 ⟨uw,rfl,S6⟩;replace S:Sep w w6 [plRow 9 1 encStr1 uw (wordsB s),plBox B6 #[.slice ua5 T.length uc5,.int .i64 cr,.int .i64 ca,.int .i64 cs,.int .i64 cg] 31,plNd (.slice ua5 T.length uc5) vs5 T,plBox B4 #[.slice none 0 0,.int .i64 0,.int .i64 0,.int .i64 0,.int .i64 0] 31,plBox B3 #[.slice at_ T.length cap,.int .i64 cr,.int .i64 ca,.int .i64 cs,.int .i64 cg] 31]:=S.call S6;clear S6;obtain⟨W,hW⟩:∃W,W=wordsB s:=⟨_,rfl⟩
   have hWs:∀p∈W,p.size≤1048576:=fun p hp=>by rw[hW]at hp;have:=words_size hp;omega
   have hWl:1≤W.length∧W.length≤1048577:=by rw[hW];have h1:=words_pos s;have h2:=words_len s;omega
   have HW:=hd0 hW;rw[←hW]at S;clear hW;have hrow:=S.row 0 rfl;obtain⟨aw,cw,rfl,_,_,_⟩:=view_owns encStr1_len hrow;obtain⟨gw,rfl⟩:=row_blk encStr1_len hrow (by omega);clear hrow;have hrdW:Rd 1 encStr1 w6 (some ⟨gw,0,none⟩) W:=S.rd 0 encStr1_len rfl rfl;have HRW:=hd0 hrdW;have HWs:=hd0 hWs;clear hrdW hWs;obtain⟨⟨b3c0,b3f0⟩,⟨b3c1,b3f1⟩,⟨b3c2,b3f2⟩,⟨b3c3,b3f3⟩,⟨b3c4,b3f4⟩⟩:=bx5 (S.box 4 rfl)
   go_upto_region 7 with fail
   clear b3c0 b3f0 b3c1 b3f1 b3c2 b3f2 b3c3 b3f3 b3c4 b3f4;replace S:=S.alloc_at (n:=w6.heap.size) (by simp) #[.int .i64 cr,.int .i64 ca,.int .i64 cs,.int .i64 cg] 29;obtain⟨w7,hw7⟩:∃w7,(w6.alloc (.cells #[.int .i64 cr,.int .i64 ca,.int .i64 cs,.int .i64 cg] 29))=w7:=⟨_,rfl⟩;rw[hw7]at S ⊢
   have hE67:Ext w6 w7:=by rw[←hw7];exact(Ext.refl w6).alloc _
   clear hw7;generalize w6.heap.size=Bc at *
   by_cases h2:W.length=2
   ·obtain⟨a,x,rfl⟩:∃a x,W=[a,x]:=by
     match W,h2 with
     | [a,x],_=>exact⟨a,x,rfl⟩
    have hx:=HWs.out x (by simp);obtain⟨y0,g0,o0,hy0,hg0,e0⟩:=atStr HRW.out (show 0 < [a,x].length by simp);obtain⟨y1,g1,o1,hy1,hg1,e1⟩:=atStr HRW.out (show 1 < [a,x].length by simp)
    obtain⟨rfl,rfl⟩:gw=g0∧0=o0:=by simpa using hg0
    obtain⟨rfl,rfl⟩:gw=g1∧0=o1:=by simpa using hg1
    obtain rfl:a=y0:=by simpa using hy0
    obtain rfl:x=y1:=by simpa using hy1
    replace e0:=cell_ext hE67 e0;replace e1:=cell_ext hE67 e1;clear hy0 hy1 hg0 hg1 HRW h2 hWl;rw[Nat.zero_add]at e0 e1
    rcases two_cases a with h|h|h|h|h|h
    case' inl =>
     have HR:Hid (callF T ⟨cr,ca,cs,cg⟩ [a,x]=doneT T (makeNode T ⟨cr,ca,cs,cg⟩ x true 493)):=hd0 (by rw[h];exact cf_folder T ⟨cr,ca,cs,cg⟩ x)
     have t0:(a.toList == [102,111,108,100,101,114])=true:=by rw[h,ByteArray.toList_eq];rfl
     clear h;have HF:=hd0 (fun w' (hE:Ext (World.drew w7) w')=>specMakeNode at_ cap T ⟨cr,ca,cs,cg⟩ x true 493 w' hx hl HT.out ((hc.ext S.ext.drew).ext hE));generalize makeNode T ⟨cr,ca,cs,cg⟩ x true 493=r at *
     go_upto_region 10 with fail
    case' inr.inl =>
     have HR:Hid (callF T ⟨cr,ca,cs,cg⟩ [a,x]=doneT T (makeNode T ⟨cr,ca,cs,cg⟩ x false 420)):=hd0 (by rw[h];exact cf_file T ⟨cr,ca,cs,cg⟩ x)
     have t0:(a.toList == [102,111,108,100,101,114])=false:=by rw[h,ByteArray.toList_eq];rfl
     have t1:(a.toList == [102,105,108,101])=true:=by rw[h,ByteArray.toList_eq];rfl
     clear h;have HF:=hd0 (fun w' (hE:Ext (World.drew w7) w')=>specMakeNode at_ cap T ⟨cr,ca,cs,cg⟩ x false 420 w' hx hl HT.out ((hc.ext S.ext.drew).ext hE));generalize makeNode T ⟨cr,ca,cs,cg⟩ x false 420=r at *
     go_upto_region 13 with fail
    case' inr.inr.inl =>
     have HR:Hid (callF T ⟨cr,ca,cs,cg⟩ [a,x]=doneT T (dropName T ⟨cr,ca,cs,cg⟩ x)):=hd0 (by rw[h];exact cf_drop T ⟨cr,ca,cs,cg⟩ x)
     have t0:(a.toList == [102,111,108,100,101,114])=false:=by rw[h,ByteArray.toList_eq];rfl
     have t1:(a.toList == [102,105,108,101])=false:=by rw[h,ByteArray.toList_eq];rfl
     have t2:(a.toList == [100,114,111,112])=true:=by rw[h,ByteArray.toList_eq];rfl
     clear h;have HF:=hd0 (fun w' (hE:Ext (World.drew w7) w')=>specDropName at_ cap T ⟨cr,ca,cs,cg⟩ x w' hx hl HT.out HNB.out ((hc.ext S.ext.drew).ext hE));generalize dropName T ⟨cr,ca,cs,cg⟩ x=r at *
     go_upto_region 16 with fail
    case inr.inr.inr.inl =>
     subst h;have HR:=hd0 (cf_read T ⟨cr,ca,cs,cg⟩ x);have HZ:=hd0 (rf_size T ⟨cr,ca,cs,cg⟩ x HT.out);have HF:=hd0 (fun w' (hE:Ext (World.drew w7) w')=>specReadFile at_ cap T ⟨cr,ca,cs,cg⟩ x w' hx hl HT.out ((hc.ext S.ext.drew).ext hE));generalize readFile T ⟨cr,ca,cs,cg⟩ x=r at *
     go_upto_region 19 with fail
     have S:=S.drew;obtain⟨bcc0,_⟩:=bx (S.box 0 rfl) 0 rfl;obtain⟨bcc1,_⟩:=bx (S.box 0 rfl) 1 rfl;obtain⟨bcc2,_⟩:=bx (S.box 0 rfl) 2 rfl;obtain⟨bcc3,_⟩:=bx (S.box 0 rfl) 3 rfl;have e1d:=cell_ext (Ext.refl w7).drew e1;have HSd:=hd0 S;clear S e0 e1;refine wp_region_c (V:=VCt (World.drew w7) at_ cap T cr ca cs cg gw 2 cw x r) (fun wv=>Ext (World.drew w7) wv) (fun _=>none) [] 10 0 rfl (by decide) (by kernel_rfl) (by kernel_rfl) (by kernel_rfl) (by kernel_rfl) (Ext.refl _) (fun r hr=>by omega) ?_ ?_
     ·intro i o hi ho vz w4 hvl hE hd hrest
      match vz,hvl with
      | [y0,y1,y2,y3,y4,y5,y6,y7,y8,y9],_ =>
      rcases lc10 hi with rfl|rfl|rfl|rfl|rfl|rfl|rfl|rfl|rfl|rfl
      all_goals
       obtain rfl:=Option.some.inj ho
      all_goals try (clear hd hrest;simp[putAll,Act.put];go_wp2;exact OneC.mk (VCt.ext) rfl rfl hE (Ext.refl _))
      ·have c0:=cell_ext hE bcc0;have c1:=cell_ext hE bcc1;have c2:=cell_ext hE bcc2;have c3:=cell_ext hE bcc3;clear hd hrest;simp[putAll,Act.put];go_wp2;exact OneC.mk (VCt.ext) rfl rfl hE (Ext.refl _)
      ·have q2:y2=.slice (some ⟨gw,0,none⟩) 2 cw:=hd ⟨2,.data⟩ (by simp) rfl (.inl rfl);subst q2;clear hd hrest;simp[putAll,Act.put];go_wp2;exact OneC.mk (VCt.ext) rfl rfl hE (Ext.refl _)
      ·have q3:y3=.pointer (some ⟨gw,1,none⟩):=hd ⟨3,.data⟩ (by simp) rfl (.inl rfl);have c1:=cell_ext hE e1d;subst q3;clear hd hrest;simp[putAll,Act.put];go_wp2;exact OneC.mk (VCt.ext) rfl rfl hE (Ext.refl _)
      ·have q0:y0=.slice at_ T.length cap:=hd ⟨0,.data⟩ (by simp) rfl (.inl rfl);have q1:y1=.agg #[.int .i64 cr,.int .i64 ca,.int .i64 cs,.int .i64 cg]:=hd ⟨1,.data⟩ (by simp) rfl (.inl rfl);have q4:y4=.string x:=hd ⟨4,.data⟩ (by simp) rfl (.inl rfl);have HC:=hd0 (HF.out w4 hE);subst q0 q1 q4;clear hd hrest;simp[putAll,Act.put]
       go_wp2_with fail
       refine HC.out.mono ?_;rintro e w5 ⟨rfl,hE5⟩;have HE5:=hd0 hE5;clear HC hE5;go_wp2;exact OneC.mk (VCt.ext) rfl rfl (hE.trans HE5.out) HE5.out
      ·have q5:y5=.tuple #[.string r.1,.int .i64 r.2]:=hd ⟨5,.data⟩ (by simp) rfl (.inl rfl);subst q5;clear hd hrest;simp[putAll,Act.put];go_wp2;exact OneC.mk (VCt.ext) rfl rfl hE (Ext.refl _)
      ·have q6:y6=.tuple #[.string r.1,.int .i64 r.2]:=hd ⟨6,.data⟩ (by simp) rfl (.inl rfl);subst q6;clear hd hrest;simp[putAll,Act.put];go_wp2;exact OneC.mk (VCt.ext) rfl rfl hE (Ext.refl _)
      ·have q6:y6=.tuple #[.string r.1,.int .i64 r.2]:=hd ⟨6,.data⟩ (by simp) rfl (.inl rfl);subst q6;clear hd hrest;simp[putAll,Act.put];go_wp2;exact OneC.mk (VCt.ext) rfl rfl hE (Ext.refl _)
      ·have q7:y7=.string r.1:=hd ⟨7,.data⟩ (by simp) rfl (.inl rfl);subst q7;clear hd hrest;simp[putAll,Act.put];go_wp2;exact OneC.mk (VCt.ext) rfl rfl hE (Ext.refl _)
     intro vz w8 hvl hE hV _
     match vz,hvl with
     | [y0,y1,y2,y3,y4,y5,y6,y7,y8,y9],_ =>
     have q8:y8=.int .i64 r.2:=hV 8 (by omega) rfl;have q9:y9=.string r.1:=hV 9 (by omega) rfl;subst q9 q8;clear hV hvl bcc0 bcc1 bcc2 bcc3 e1d;simp only[putAll,Act.put,List.take_succ_cons,List.take_zero,List.drop_succ_cons,List.drop_zero];simp;have S:=HSd.out;replace S:=S.step hE;clear HSd HF;generalize r.1=tx at *;generalize r.2=f at *
     by_cases hf:f=0
     ·subst hf;have HQ:Hid (callF T ⟨cr,ca,cs,cg⟩ [⟨#[114,101,97,100]⟩,x]=(T,⟨#[61]⟩++tx)):=hd0 (by rw[HR.out,if_pos rfl])
      have hsz:(⟨#[61]⟩:ByteArray).size+tx.size≤9223372036854775807:=by
       have:=HZ.out
       show 1+tx.size≤_
       omega
      obtain⟨⟨b6c0,b6f0⟩,⟨b6c1,b6f1⟩,⟨b6c2,b6f2⟩,⟨b6c3,b6f3⟩,⟨b6c4,b6f4⟩⟩:=bx5 (S.box 2 rfl);obtain⟨⟨b4c0,b4f0⟩,⟨b4c1,b4f1⟩,⟨b4c2,b4f2⟩,⟨b4c3,b4f3⟩,⟨b4c4,b4f4⟩⟩:=bx5 (S.box 4 rfl);go_wp2;clear b6c0 b6f0 b6c1 b6f1 b6c2 b6f2 b6c3 b6f3 b6c4 b6f4 b4c0 b4f0 b4c1 b4f1 b4c2 b4f2 b4c3 b4f3 b4c4 b4f4;replace S:Sep w (((((w8.setCell ⟨B4,0,none⟩ (.slice ua5 T.length uc5)).setCell ⟨B4,1,none⟩ (.int .i64 cr)).setCell ⟨B4,2,none⟩ (.int .i64 ca)).setCell ⟨B4,3,none⟩ (.int .i64 cs)).setCell ⟨B4,4,none⟩ (.int .i64 cg)) [plBox Bc #[.int .i64 cr,.int .i64 ca,.int .i64 cs,.int .i64 cg] 29,plRow 9 1 encStr1 (.slice (some ⟨gw,0,none⟩) [⟨#[114,101,97,100]⟩,x].length cw) [⟨#[114,101,97,100]⟩,x],plBox B6 #[.slice ua5 T.length uc5,.int .i64 cr,.int .i64 ca,.int .i64 cs,.int .i64 cg] 31,plNd (.slice ua5 T.length uc5) vs5 T,plBox B4 #[.slice ua5 T.length uc5,.int .i64 cr,.int .i64 ca,.int .i64 cs,.int .i64 cg] 31,plBox B3 #[.slice at_ T.length cap,.int .i64 cr,.int .i64 ca,.int .i64 cs,.int .i64 cg] 31]:=((((S.set 4 rfl 0 _).set 4 rfl 1 _).set 4 rfl 2 _).set 4 rfl 3 _).set 4 rfl 4 _;generalize (((((w8.setCell ⟨B4,0,none⟩ (.slice ua5 T.length uc5)).setCell ⟨B4,1,none⟩ (.int .i64 cr)).setCell ⟨B4,2,none⟩ (.int .i64 ca)).setCell ⟨B4,3,none⟩ (.int .i64 cs)).setCell ⟨B4,4,none⟩ (.int .i64 cg))=wD at *;obtain⟨⟨b4c0,b4f0⟩,⟨b4c1,b4f1⟩,⟨b4c2,b4f2⟩,⟨b4c3,b4f3⟩,⟨b4c4,b4f4⟩⟩:=bx5 (S.box 4 rfl);refine bodyPost_ret (v:=.tuple #[.agg #[.slice ua5 T.length uc5,.int .i64 cr,.int .i64 ca,.int .i64 cs,.int .i64 cg],.string (⟨#[61]⟩++tx)]) (by simp[results,Tryz.results8,go_sem,b4c0,b4c1,b4c2,b4c3,b4c4]) rfl ?_;rw[HX.out.1,HX.out.2,←HW.out,HQ.out];replace S:Sep w wD [plNd (.slice ua5 T.length uc5) vs5 T]:=((((S.drop 0).drop 0).drop 0).drop 1).drop 1;exact⟨_,vs5,rfl,S⟩
     ·have HQ:Hid (callF T ⟨cr,ca,cs,cg⟩ [⟨#[114,101,97,100]⟩,x]=(T,faultText f)):=hd0 (by rw[HR.out,if_neg hf])
      have tf:(f != 0)=true:=by simpa using hf
      clear hf HR HZ
      go_upto_region 21 with fail
      have S:=S.drew;obtain⟨b6d0,_⟩:=bx (S.box 2 rfl) 0 rfl;obtain⟨b6d1,_⟩:=bx (S.box 2 rfl) 1 rfl;obtain⟨b6d2,_⟩:=bx (S.box 2 rfl) 2 rfl;obtain⟨b6d3,_⟩:=bx (S.box 2 rfl) 3 rfl;obtain⟨b6d4,_⟩:=bx (S.box 2 rfl) 4 rfl;have HSd:=hd0 S;clear S;refine wp_region_c (V:=VFl (.agg #[.slice ua5 T.length uc5,.int .i64 cr,.int .i64 ca,.int .i64 cs,.int .i64 cg]) f) (fun wv=>Ext (World.drew w8) wv) (fun _=>none) [] 3 0 rfl (by decide) (by kernel_rfl) (by kernel_rfl) (by kernel_rfl) (by kernel_rfl) (Ext.refl _) (fun r hr=>by omega) ?_ ?_
      ·intro i o hi ho vz w4 hvl hE hd hrest
       match vz,hvl with
       | [y0,y1,y2],_ =>
       rcases lc3 hi with rfl|rfl|rfl
       all_goals
        obtain rfl:=Option.some.inj ho
       ·have c0:=cell_ext hE b6d0;have c1:=cell_ext hE b6d1;have c2:=cell_ext hE b6d2;have c3:=cell_ext hE b6d3;have c4:=cell_ext hE b6d4;clear hd hrest;simp[putAll,Act.put];go_wp2;exact OneC.mk (VFl.ext) rfl rfl hE (Ext.refl _)
       ·clear hd hrest;simp[putAll,Act.put];go_wp2;exact OneC.mk (VFl.ext) rfl rfl hE (Ext.refl _)
       ·have q1:y1=.int .i64 f:=hd ⟨1,.data⟩ (by simp) rfl (.inl rfl);have HC:=hd0 (specFaultText f w4);subst q1;clear hd hrest;simp[putAll,Act.put]
        go_wp2_with fail
        refine HC.out.mono ?_;rintro e w5 ⟨rfl,hE5⟩;have HE5:=hd0 hE5;clear HC hE5;go_wp2;exact OneC.mk (VFl.ext) rfl rfl (hE.trans HE5.out) HE5.out
      intro vz w9 hvl hE hV _
      match vz,hvl with
      | [y0,y1,y2],_ =>
      have q0:y0=.agg #[.slice ua5 T.length uc5,.int .i64 cr,.int .i64 ca,.int .i64 cs,.int .i64 cg]:=hV 0 (by omega) rfl;have q2:y2=.string (faultText f):=hV 2 (by omega) rfl;subst q0 q2;have S:=HSd.out.step hE;clear hV hvl HSd b6d0 b6d1 b6d2 b6d3 b6d4;simp only[putAll,Act.put,List.take_succ_cons,List.take_zero,List.drop_succ_cons,List.drop_zero];simp;generalize faultText f=tx at *;obtain⟨⟨b4c0,b4f0⟩,⟨b4c1,b4f1⟩,⟨b4c2,b4f2⟩,⟨b4c3,b4f3⟩,⟨b4c4,b4f4⟩⟩:=bx5 (S.box 4 rfl);go_wp2;clear b4c0 b4f0 b4c1 b4f1 b4c2 b4f2 b4c3 b4f3 b4c4 b4f4;replace S:Sep w (((((w9.setCell ⟨B4,0,none⟩ (.slice ua5 T.length uc5)).setCell ⟨B4,1,none⟩ (.int .i64 cr)).setCell ⟨B4,2,none⟩ (.int .i64 ca)).setCell ⟨B4,3,none⟩ (.int .i64 cs)).setCell ⟨B4,4,none⟩ (.int .i64 cg)) [plBox Bc #[.int .i64 cr,.int .i64 ca,.int .i64 cs,.int .i64 cg] 29,plRow 9 1 encStr1 (.slice (some ⟨gw,0,none⟩) [⟨#[114,101,97,100]⟩,x].length cw) [⟨#[114,101,97,100]⟩,x],plBox B6 #[.slice ua5 T.length uc5,.int .i64 cr,.int .i64 ca,.int .i64 cs,.int .i64 cg] 31,plNd (.slice ua5 T.length uc5) vs5 T,plBox B4 #[.slice ua5 T.length uc5,.int .i64 cr,.int .i64 ca,.int .i64 cs,.int .i64 cg] 31,plBox B3 #[.slice at_ T.length cap,.int .i64 cr,.int .i64 ca,.int .i64 cs,.int .i64 cg] 31]:=((((S.set 4 rfl 0 _).set 4 rfl 1 _).set 4 rfl 2 _).set 4 rfl 3 _).set 4 rfl 4 _;generalize (((((w9.setCell ⟨B4,0,none⟩ (.slice ua5 T.length uc5)).setCell ⟨B4,1,none⟩ (.int .i64 cr)).setCell ⟨B4,2,none⟩ (.int .i64 ca)).setCell ⟨B4,3,none⟩ (.int .i64 cs)).setCell ⟨B4,4,none⟩ (.int .i64 cg))=wD at *;obtain⟨⟨b4c0,b4f0⟩,⟨b4c1,b4f1⟩,⟨b4c2,b4f2⟩,⟨b4c3,b4f3⟩,⟨b4c4,b4f4⟩⟩:=bx5 (S.box 4 rfl);refine bodyPost_ret (v:=.tuple #[.agg #[.slice ua5 T.length uc5,.int .i64 cr,.int .i64 ca,.int .i64 cs,.int .i64 cg],.string tx]) (by simp[results,Tryz.results8,go_sem,b4c0,b4c1,b4c2,b4c3,b4c4]) rfl ?_;rw[HX.out.1,HX.out.2,←HW.out,HQ.out];replace S:Sep w wD [plNd (.slice ua5 T.length uc5) vs5 T]:=((((S.drop 0).drop 0).drop 0).drop 1).drop 1;exact⟨_,vs5,rfl,S⟩
    case inr.inr.inr.inr.inl =>
     subst h;have HR:=hd0 (cf_list T ⟨cr,ca,cs,cg⟩ x);have HZ:=hd0 (li_size T ⟨cr,ca,cs,cg⟩ x HT.out);have HF:=hd0 (fun w' (hE:Ext (World.drew w7) w')=>specListNames at_ cap T ⟨cr,ca,cs,cg⟩ x w' hx hl HT.out ((hc.ext S.ext.drew).ext hE));generalize listNames T ⟨cr,ca,cs,cg⟩ x=r at *
     go_upto_region 24 with fail
     have S:=S.drew;obtain⟨bcc0,_⟩:=bx (S.box 0 rfl) 0 rfl;obtain⟨bcc1,_⟩:=bx (S.box 0 rfl) 1 rfl;obtain⟨bcc2,_⟩:=bx (S.box 0 rfl) 2 rfl;obtain⟨bcc3,_⟩:=bx (S.box 0 rfl) 3 rfl;have e1d:=cell_ext (Ext.refl w7).drew e1;have HSd:=hd0 S;clear S e0 e1;refine wp_region_c (V:=VCn (World.drew w7) at_ cap T cr ca cs cg gw 2 cw x r) (fun wv=>Ext (World.drew w7) wv) (fun _=>none) [] 10 0 rfl (by decide) (by kernel_rfl) (by kernel_rfl) (by kernel_rfl) (by kernel_rfl) (Ext.refl _) (fun r hr=>by omega) ?_ ?_
     ·intro i o hi ho vz w4 hvl hE hd hrest
      match vz,hvl with
      | [y0,y1,y2,y3,y4,y5,y6,y7,y8,y9],_ =>
      rcases lc10 hi with rfl|rfl|rfl|rfl|rfl|rfl|rfl|rfl|rfl|rfl
      all_goals
       obtain rfl:=Option.some.inj ho
      all_goals try (clear hd hrest;simp[putAll,Act.put];go_wp2;exact OneC.mk (VCn.ext) rfl rfl hE (Ext.refl _))
      ·have c0:=cell_ext hE bcc0;have c1:=cell_ext hE bcc1;have c2:=cell_ext hE bcc2;have c3:=cell_ext hE bcc3;clear hd hrest;simp[putAll,Act.put];go_wp2;exact OneC.mk (VCn.ext) rfl rfl hE (Ext.refl _)
      ·have q2:y2=.slice (some ⟨gw,0,none⟩) 2 cw:=hd ⟨2,.data⟩ (by simp) rfl (.inl rfl);subst q2;clear hd hrest;simp[putAll,Act.put];go_wp2;exact OneC.mk (VCn.ext) rfl rfl hE (Ext.refl _)
      ·have q3:y3=.pointer (some ⟨gw,1,none⟩):=hd ⟨3,.data⟩ (by simp) rfl (.inl rfl);have c1:=cell_ext hE e1d;subst q3;clear hd hrest;simp[putAll,Act.put];go_wp2;exact OneC.mk (VCn.ext) rfl rfl hE (Ext.refl _)
      ·have q0:y0=.slice at_ T.length cap:=hd ⟨0,.data⟩ (by simp) rfl (.inl rfl);have q1:y1=.agg #[.int .i64 cr,.int .i64 ca,.int .i64 cs,.int .i64 cg]:=hd ⟨1,.data⟩ (by simp) rfl (.inl rfl);have q4:y4=.string x:=hd ⟨4,.data⟩ (by simp) rfl (.inl rfl);have HC:=hd0 (HF.out w4 hE);subst q0 q1 q4;clear hd hrest;simp[putAll,Act.put]
       go_wp2_with fail
       refine HC.out.mono ?_;rintro e w5 ⟨u5,rfl,S5⟩;have S6:=S5.since hE;have hE5:=S5.ext;clear HC S5;go_wp2;exact OneC.mk (VCn.ext) rfl ⟨_,rfl,S6⟩ (hE.trans hE5) hE5
      ·obtain⟨u5,q5,S5⟩:∃u,y5=.tuple #[u,.int .i64 r.2]∧Sep (World.drew w7) w4 [plRow 9 1 encStr1 u r.1]:=hd ⟨5,.data⟩ (by simp) rfl (.inl rfl);have HS5:=hd0 S5;subst q5;clear hd hrest S5;simp[putAll,Act.put];go_wp2;exact OneC.mk (VCn.ext) rfl ⟨_,rfl,HS5.out⟩ hE (Ext.refl _)
      ·obtain⟨u5,q6,S5⟩:∃u,y6=.tuple #[u,.int .i64 r.2]∧Sep (World.drew w7) w4 [plRow 9 1 encStr1 u r.1]:=hd ⟨6,.data⟩ (by simp) rfl (.inl rfl);have HS5:=hd0 S5;subst q6;clear hd hrest S5;simp[putAll,Act.put];go_wp2;exact OneC.mk (VCn.ext) rfl HS5.out hE (Ext.refl _)
      ·obtain⟨u5,q6,S5⟩:∃u,y6=.tuple #[u,.int .i64 r.2]∧Sep (World.drew w7) w4 [plRow 9 1 encStr1 u r.1]:=hd ⟨6,.data⟩ (by simp) rfl (.inl rfl);have HS5:=hd0 S5;subst q6;clear hd hrest S5;simp[putAll,Act.put];go_wp2;exact OneC.mk (VCn.ext) rfl rfl hE (Ext.refl _)
      ·have S5:Sep (World.drew w7) w4 [plRow 9 1 encStr1 y7 r.1]:=hd ⟨7,.data⟩ (by simp) rfl (.inl rfl);have HS5:=hd0 S5;clear hd hrest S5;simp[putAll,Act.put];go_wp2;exact OneC.mk (VCn.ext) rfl HS5.out hE (Ext.refl _)
     intro vz w8 hvl hE hV _
     match vz,hvl with
     | [y0,y1,y2,y3,y4,y5,y6,y7,y8,y9],_ =>
     have q8:y8=.int .i64 r.2:=hV 8 (by omega) rfl;have S8:Sep (World.drew w7) w8 [plRow 9 1 encStr1 y9 r.1]:=hV 9 (by omega) rfl;subst q8;clear hV hvl bcc0 bcc1 bcc2 bcc3 e1d;simp only[putAll,Act.put,List.take_succ_cons,List.take_zero,List.drop_succ_cons,List.drop_zero];simp;have S:=HSd.out.call S8;clear HSd HF S8 hE;generalize r.1=N at *;generalize r.2=f at *;obtain⟨an,cn,rfl,_,hrd,_⟩:=view_owns encStr1_len (S.row 0 rfl);have HRD:=hd0 hrd;clear hrd;have S:Sep w w8 [plRow 9 1 encStr1 (.slice an N.length cn) N,plBox Bc #[.int .i64 cr,.int .i64 ca,.int .i64 cs,.int .i64 cg] 29,plRow 9 1 encStr1 (.slice (some ⟨gw,0,none⟩) [⟨#[108,105,115,116]⟩,x].length cw) [⟨#[108,105,115,116]⟩,x],plBox B6 #[.slice ua5 T.length uc5,.int .i64 cr,.int .i64 ca,.int .i64 cs,.int .i64 cg] 31,plNd (.slice ua5 T.length uc5) vs5 T,plBox B4 #[.slice none 0 0,.int .i64 0,.int .i64 0,.int .i64 0,.int .i64 0] 31,plBox B3 #[.slice at_ T.length cap,.int .i64 cr,.int .i64 ca,.int .i64 cs,.int .i64 cg] 31]:=S
     by_cases hf:f=0
     ·subst hf;have HQ:Hid (callF T ⟨cr,ca,cs,cg⟩ [⟨#[108,105,115,116]⟩,x]=(T,⟨#[61]⟩++joinW N)):=hd0 (by rw[HR.out,if_pos rfl]);clear HR;have HS8:=hd0 S;clear S;go_wp2
      go_loopw [20,21] (fun o j wr=>∃k:Nat,k≤N.length∧j=.int .i64 k∧o=.string (preJ N k)∧Ext w8 wr) (fun _ j _=>N.length - (intOf j).toNat)
      case atStart=>exact⟨0,Nat.zero_le _,rfl,by rw[preJ_zero],by first|exact Ext.refl _|exact(Ext.refl _).drew⟩
      case round =>
       obtain⟨k,hk,rfl,rfl,hb⟩:=hrel
       by_cases hlt:k < N.length
       ·obtain⟨x',b,off,hx',rfl,c0⟩:=atStr (HRD.out.ext hb) hlt
        have i0:(k:Int) < (N.length:Int):=by omega
        have hN:=HZ.out.1;have hz:=preJ_size HZ.out.2 k (by omega);have hm:=HZ.out.2 x' (List.mem_of_getElem? hx')
        by_cases hk0:k=0
        ·subst hk0;have HP:=hd0 (preJ_one hx')
         have hs2:(preJ N 0).size+x'.size≤9223372036854775807:=by omega
         have hne:¬N=[]:=by rintro rfl;simp at hlt
         have i0':(0:Int) < (N.length:Int):=by omega
         rw[Nat.add_zero]at c0;clear hx' hz hm i0;generalize preJ N 0=o at *;go_wp2;go_roundw
         case rel=>exact⟨1,by omega,by go_num,by rw[HP.out],hb⟩
         case measure=>simp[intOf];omega
        ·have HP:=hd0 (preJ_more hx' (by omega))
         have i1:(0:Int) < (k:Int):=by omega
         have hs1:(preJ N k).size+(⟨#[32]⟩:ByteArray).size≤9223372036854775807:=by show _+1≤_;omega
         have hs2:(preJ N k++⟨#[32]⟩).size+x'.size≤9223372036854775807:=by rw[ByteArray.size_append];show _+1+_≤_;omega
         clear hx' hz hm;generalize preJ N k=o at *;go_wp2;go_roundw
         case rel=>exact⟨k+1,by omega,by go_num,by rw[HP.out],hb⟩
         case measure=>simp[intOf];omega
       ·obtain rfl:k=N.length:=by omega
        have hni:¬(N.length:Int) < (N.length:Int):=by omega
        have HP:Hid (preJ N N.length=⟨#[61]⟩++joinW N):=hd0 (by unfold preJ;rw[List.take_length]);have S:=HS8.out.step hb;have HQ:=hd0 (HQ.out.trans (by rw[←HP.out]));obtain⟨⟨b6c0,b6f0⟩,⟨b6c1,b6f1⟩,⟨b6c2,b6f2⟩,⟨b6c3,b6f3⟩,⟨b6c4,b6f4⟩⟩:=bx5 (S.box 3 rfl);obtain⟨⟨b4c0,b4f0⟩,⟨b4c1,b4f1⟩,⟨b4c2,b4f2⟩,⟨b4c3,b4f3⟩,⟨b4c4,b4f4⟩⟩:=bx5 (S.box 5 rfl);go_wp2;clear b6c0 b6f0 b6c1 b6f1 b6c2 b6f2 b6c3 b6f3 b6c4 b6f4 b4c0 b4f0 b4c1 b4f1 b4c2 b4f2 b4c3 b4f3 b4c4 b4f4;replace S:Sep w (((((wr.setCell ⟨B4,0,none⟩ (.slice ua5 T.length uc5)).setCell ⟨B4,1,none⟩ (.int .i64 cr)).setCell ⟨B4,2,none⟩ (.int .i64 ca)).setCell ⟨B4,3,none⟩ (.int .i64 cs)).setCell ⟨B4,4,none⟩ (.int .i64 cg)) [plRow 9 1 encStr1 (.slice an N.length cn) N,plBox Bc #[.int .i64 cr,.int .i64 ca,.int .i64 cs,.int .i64 cg] 29,plRow 9 1 encStr1 (.slice (some ⟨gw,0,none⟩) [⟨#[108,105,115,116]⟩,x].length cw) [⟨#[108,105,115,116]⟩,x],plBox B6 #[.slice ua5 T.length uc5,.int .i64 cr,.int .i64 ca,.int .i64 cs,.int .i64 cg] 31,plNd (.slice ua5 T.length uc5) vs5 T,plBox B4 #[.slice ua5 T.length uc5,.int .i64 cr,.int .i64 ca,.int .i64 cs,.int .i64 cg] 31,plBox B3 #[.slice at_ T.length cap,.int .i64 cr,.int .i64 ca,.int .i64 cs,.int .i64 cg] 31]:=((((S.set 5 rfl 0 _).set 5 rfl 1 _).set 5 rfl 2 _).set 5 rfl 3 _).set 5 rfl 4 _;generalize (((((wr.setCell ⟨B4,0,none⟩ (.slice ua5 T.length uc5)).setCell ⟨B4,1,none⟩ (.int .i64 cr)).setCell ⟨B4,2,none⟩ (.int .i64 ca)).setCell ⟨B4,3,none⟩ (.int .i64 cs)).setCell ⟨B4,4,none⟩ (.int .i64 cg))=wD at *;obtain⟨⟨b4c0,b4f0⟩,⟨b4c1,b4f1⟩,⟨b4c2,b4f2⟩,⟨b4c3,b4f3⟩,⟨b4c4,b4f4⟩⟩:=bx5 (S.box 5 rfl);refine bodyPost_ret (v:=.tuple #[.agg #[.slice ua5 T.length uc5,.int .i64 cr,.int .i64 ca,.int .i64 cs,.int .i64 cg],.string (preJ N N.length)]) (by simp[results,Tryz.results8,go_sem,b4c0,b4c1,b4c2,b4c3,b4c4]) rfl ?_;rw[HX.out.1,HX.out.2,←HW.out,HQ.out];replace S:Sep w wD [plNd (.slice ua5 T.length uc5) vs5 T]:=(((((S.drop 0).drop 0).drop 0).drop 0).drop 1).drop 1;exact⟨_,vs5,rfl,S⟩
     ·have HQ:Hid (callF T ⟨cr,ca,cs,cg⟩ [⟨#[108,105,115,116]⟩,x]=(T,faultText f)):=hd0 (by rw[HR.out,if_neg hf])
      have tf:(f != 0)=true:=by simpa using hf
      clear hf HR HZ
      go_upto_region 26 with fail
      have S:=S.drew;obtain⟨b6d0,_⟩:=bx (S.box 3 rfl) 0 rfl;obtain⟨b6d1,_⟩:=bx (S.box 3 rfl) 1 rfl;obtain⟨b6d2,_⟩:=bx (S.box 3 rfl) 2 rfl;obtain⟨b6d3,_⟩:=bx (S.box 3 rfl) 3 rfl;obtain⟨b6d4,_⟩:=bx (S.box 3 rfl) 4 rfl;have HSd:=hd0 S;clear S;refine wp_region_c (V:=VFl (.agg #[.slice ua5 T.length uc5,.int .i64 cr,.int .i64 ca,.int .i64 cs,.int .i64 cg]) f) (fun wv=>Ext (World.drew w8) wv) (fun _=>none) [] 3 0 rfl (by decide) (by kernel_rfl) (by kernel_rfl) (by kernel_rfl) (by kernel_rfl) (Ext.refl _) (fun r hr=>by omega) ?_ ?_
      ·intro i o hi ho vz w4 hvl hE hd hrest
       match vz,hvl with
       | [y0,y1,y2],_ =>
       rcases lc3 hi with rfl|rfl|rfl
       all_goals
        obtain rfl:=Option.some.inj ho
       ·have c0:=cell_ext hE b6d0;have c1:=cell_ext hE b6d1;have c2:=cell_ext hE b6d2;have c3:=cell_ext hE b6d3;have c4:=cell_ext hE b6d4;clear hd hrest;simp[putAll,Act.put];go_wp2;exact OneC.mk (VFl.ext) rfl rfl hE (Ext.refl _)
       ·clear hd hrest;simp[putAll,Act.put];go_wp2;exact OneC.mk (VFl.ext) rfl rfl hE (Ext.refl _)
       ·have q1:y1=.int .i64 f:=hd ⟨1,.data⟩ (by simp) rfl (.inl rfl);have HC:=hd0 (specFaultText f w4);subst q1;clear hd hrest;simp[putAll,Act.put]
        go_wp2_with fail
        refine HC.out.mono ?_;rintro e w5 ⟨rfl,hE5⟩;have HE5:=hd0 hE5;clear HC hE5;go_wp2;exact OneC.mk (VFl.ext) rfl rfl (hE.trans HE5.out) HE5.out
      intro vz w9 hvl hE hV _
      match vz,hvl with
      | [y0,y1,y2],_ =>
      have q0:y0=.agg #[.slice ua5 T.length uc5,.int .i64 cr,.int .i64 ca,.int .i64 cs,.int .i64 cg]:=hV 0 (by omega) rfl;have q2:y2=.string (faultText f):=hV 2 (by omega) rfl;subst q0 q2;have S:=HSd.out.step hE;clear hV hvl HSd b6d0 b6d1 b6d2 b6d3 b6d4;simp only[putAll,Act.put,List.take_succ_cons,List.take_zero,List.drop_succ_cons,List.drop_zero];simp;generalize faultText f=tx at *;obtain⟨⟨b4c0,b4f0⟩,⟨b4c1,b4f1⟩,⟨b4c2,b4f2⟩,⟨b4c3,b4f3⟩,⟨b4c4,b4f4⟩⟩:=bx5 (S.box 5 rfl);go_wp2;clear b4c0 b4f0 b4c1 b4f1 b4c2 b4f2 b4c3 b4f3 b4c4 b4f4;replace S:Sep w (((((w9.setCell ⟨B4,0,none⟩ (.slice ua5 T.length uc5)).setCell ⟨B4,1,none⟩ (.int .i64 cr)).setCell ⟨B4,2,none⟩ (.int .i64 ca)).setCell ⟨B4,3,none⟩ (.int .i64 cs)).setCell ⟨B4,4,none⟩ (.int .i64 cg)) [plRow 9 1 encStr1 (.slice an N.length cn) N,plBox Bc #[.int .i64 cr,.int .i64 ca,.int .i64 cs,.int .i64 cg] 29,plRow 9 1 encStr1 (.slice (some ⟨gw,0,none⟩) [⟨#[108,105,115,116]⟩,x].length cw) [⟨#[108,105,115,116]⟩,x],plBox B6 #[.slice ua5 T.length uc5,.int .i64 cr,.int .i64 ca,.int .i64 cs,.int .i64 cg] 31,plNd (.slice ua5 T.length uc5) vs5 T,plBox B4 #[.slice ua5 T.length uc5,.int .i64 cr,.int .i64 ca,.int .i64 cs,.int .i64 cg] 31,plBox B3 #[.slice at_ T.length cap,.int .i64 cr,.int .i64 ca,.int .i64 cs,.int .i64 cg] 31]:=((((S.set 5 rfl 0 _).set 5 rfl 1 _).set 5 rfl 2 _).set 5 rfl 3 _).set 5 rfl 4 _;generalize (((((w9.setCell ⟨B4,0,none⟩ (.slice ua5 T.length uc5)).setCell ⟨B4,1,none⟩ (.int .i64 cr)).setCell ⟨B4,2,none⟩ (.int .i64 ca)).setCell ⟨B4,3,none⟩ (.int .i64 cs)).setCell ⟨B4,4,none⟩ (.int .i64 cg))=wD at *;obtain⟨⟨b4c0,b4f0⟩,⟨b4c1,b4f1⟩,⟨b4c2,b4f2⟩,⟨b4c3,b4f3⟩,⟨b4c4,b4f4⟩⟩:=bx5 (S.box 5 rfl);refine bodyPost_ret (v:=.tuple #[.agg #[.slice ua5 T.length uc5,.int .i64 cr,.int .i64 ca,.int .i64 cs,.int .i64 cg],.string tx]) (by simp[results,Tryz.results8,go_sem,b4c0,b4c1,b4c2,b4c3,b4c4]) rfl ?_;rw[HX.out.1,HX.out.2,←HW.out,HQ.out];replace S:Sep w wD [plNd (.slice ua5 T.length uc5) vs5 T]:=(((((S.drop 0).drop 0).drop 0).drop 0).drop 1).drop 1;exact⟨_,vs5,rfl,S⟩
    case inr.inr.inr.inr.inr =>
     obtain⟨h_folder,h_file,h_drop,h_read,h_list⟩:=h;have HR:=hd0 (cf_two T ⟨cr,ca,cs,cg⟩ x h_folder h_file h_drop h_read h_list);have t0:(a.toList == [102,111,108,100,101,114])=false:=Bool.eq_false_iff.2 (fun h=>h_folder (bytes_eq.1 (by rw[eq_of_beq h,ByteArray.toList_eq])));have t1:(a.toList == [102,105,108,101])=false:=Bool.eq_false_iff.2 (fun h=>h_file (bytes_eq.1 (by rw[eq_of_beq h,ByteArray.toList_eq])));have t2:(a.toList == [100,114,111,112])=false:=Bool.eq_false_iff.2 (fun h=>h_drop (bytes_eq.1 (by rw[eq_of_beq h,ByteArray.toList_eq])));have t3:(a.toList == [114,101,97,100])=false:=Bool.eq_false_iff.2 (fun h=>h_read (bytes_eq.1 (by rw[eq_of_beq h,ByteArray.toList_eq])));have t4:(a.toList == [108,105,115,116])=false:=Bool.eq_false_iff.2 (fun h=>h_list (bytes_eq.1 (by rw[eq_of_beq h,ByteArray.toList_eq])));clear h_folder h_file h_drop h_read h_list;obtain⟨⟨b6c0,b6f0⟩,⟨b6c1,b6f1⟩,⟨b6c2,b6f2⟩,⟨b6c3,b6f3⟩,⟨b6c4,b6f4⟩⟩:=bx5 (S.box 2 rfl);obtain⟨⟨b4c0,b4f0⟩,⟨b4c1,b4f1⟩,⟨b4c2,b4f2⟩,⟨b4c3,b4f3⟩,⟨b4c4,b4f4⟩⟩:=bx5 (S.box 4 rfl);go_wp2;clear b6c0 b6f0 b6c1 b6f1 b6c2 b6f2 b6c3 b6f3 b6c4 b6f4 b4c0 b4f0 b4c1 b4f1 b4c2 b4f2 b4c3 b4f3 b4c4 b4f4;replace S:Sep w (((((w7.setCell ⟨B4,0,none⟩ (.slice ua5 T.length uc5)).setCell ⟨B4,1,none⟩ (.int .i64 cr)).setCell ⟨B4,2,none⟩ (.int .i64 ca)).setCell ⟨B4,3,none⟩ (.int .i64 cs)).setCell ⟨B4,4,none⟩ (.int .i64 cg)) [plBox Bc #[.int .i64 cr,.int .i64 ca,.int .i64 cs,.int .i64 cg] 29,plRow 9 1 encStr1 (.slice (some ⟨gw,0,none⟩) [a,x].length cw) [a,x],plBox B6 #[.slice ua5 T.length uc5,.int .i64 cr,.int .i64 ca,.int .i64 cs,.int .i64 cg] 31,plNd (.slice ua5 T.length uc5) vs5 T,plBox B4 #[.slice ua5 T.length uc5,.int .i64 cr,.int .i64 ca,.int .i64 cs,.int .i64 cg] 31,plBox B3 #[.slice at_ T.length cap,.int .i64 cr,.int .i64 ca,.int .i64 cs,.int .i64 cg] 31]:=((((S.set 4 rfl 0 _).set 4 rfl 1 _).set 4 rfl 2 _).set 4 rfl 3 _).set 4 rfl 4 _;generalize (((((w7.setCell ⟨B4,0,none⟩ (.slice ua5 T.length uc5)).setCell ⟨B4,1,none⟩ (.int .i64 cr)).setCell ⟨B4,2,none⟩ (.int .i64 ca)).setCell ⟨B4,3,none⟩ (.int .i64 cs)).setCell ⟨B4,4,none⟩ (.int .i64 cg))=wD at *;obtain⟨⟨b4c0,b4f0⟩,⟨b4c1,b4f1⟩,⟨b4c2,b4f2⟩,⟨b4c3,b4f3⟩,⟨b4c4,b4f4⟩⟩:=bx5 (S.box 4 rfl);refine bodyPost_ret (v:=.tuple #[.agg #[.slice ua5 T.length uc5,.int .i64 cr,.int .i64 ca,.int .i64 cs,.int .i64 cg],.string ⟨#[112,97,116,104]⟩]) (by simp[results,Tryz.results8,go_sem,b4c0,b4c1,b4c2,b4c3,b4c4]) rfl ?_;rw[HX.out.1,HX.out.2,←HW.out,HR.out];replace S:Sep w wD [plNd (.slice ua5 T.length uc5) vs5 T]:=((((S.drop 0).drop 0).drop 0).drop 1).drop 1;exact⟨_,vs5,rfl,S⟩
    all_goals
     have S:=S.drew;obtain⟨bcc0,_⟩:=bx (S.box 0 rfl) 0 rfl;obtain⟨bcc1,_⟩:=bx (S.box 0 rfl) 1 rfl;obtain⟨bcc2,_⟩:=bx (S.box 0 rfl) 2 rfl;obtain⟨bcc3,_⟩:=bx (S.box 0 rfl) 3 rfl;have e1d:=cell_ext (Ext.refl w7).drew e1;have HSd:=hd0 S;clear S e0 e1;refine wp_region_c (V:=VCl (World.drew w7) at_ cap T cr ca cs cg gw 2 cw x r) (fun wv=>Ext (World.drew w7) wv) (fun _=>none) [] 10 0 rfl (by decide) (by kernel_rfl) (by kernel_rfl) (by kernel_rfl) (by kernel_rfl) (Ext.refl _) (fun r hr=>by omega) ?_ ?_
     ·intro i o hi ho vz w4 hvl hE hd hrest
      match vz,hvl with
      | [y0,y1,y2,y3,y4,y5,y6,y7,y8,y9],_ =>
      rcases lc10 hi with rfl|rfl|rfl|rfl|rfl|rfl|rfl|rfl|rfl|rfl
      all_goals
       obtain rfl:=Option.some.inj ho
      all_goals try (clear hd hrest;simp[putAll,Act.put];go_wp2;exact OneC.mk (VCl.ext) rfl rfl hE (Ext.refl _))
      ·have c0:=cell_ext hE bcc0;have c1:=cell_ext hE bcc1;have c2:=cell_ext hE bcc2;have c3:=cell_ext hE bcc3;clear hd hrest;simp[putAll,Act.put];go_wp2;exact OneC.mk (VCl.ext) rfl rfl hE (Ext.refl _)
      ·have q2:y2=.slice (some ⟨gw,0,none⟩) 2 cw:=hd ⟨2,.data⟩ (by simp) rfl (.inl rfl);subst q2;clear hd hrest;simp[putAll,Act.put];go_wp2;exact OneC.mk (VCl.ext) rfl rfl hE (Ext.refl _)
      ·have q3:y3=.pointer (some ⟨gw,1,none⟩):=hd ⟨3,.data⟩ (by simp) rfl (.inl rfl);have c1:=cell_ext hE e1d;subst q3;clear hd hrest;simp[putAll,Act.put];go_wp2;exact OneC.mk (VCl.ext) rfl rfl hE (Ext.refl _)
      ·have q0:y0=.slice at_ T.length cap:=hd ⟨0,.data⟩ (by simp) rfl (.inl rfl);have q1:y1=.agg #[.int .i64 cr,.int .i64 ca,.int .i64 cs,.int .i64 cg]:=hd ⟨1,.data⟩ (by simp) rfl (.inl rfl);have q4:y4=.string x:=hd ⟨4,.data⟩ (by simp) rfl (.inl rfl);have HC:=hd0 (HF.out w4 hE);subst q0 q1 q4;clear hd hrest;simp[putAll,Act.put]
       go_wp2_with fail
       refine HC.out.mono ?_;rintro e w5 ⟨u5,v5,rfl,S5⟩;have S6:=S5.since hE;have hE5:=S5.ext;clear HC S5;go_wp2;exact OneC.mk (VCl.ext) rfl ⟨_,_,rfl,S6⟩ (hE.trans hE5) hE5
      ·obtain⟨u5,v5,q5,S5⟩:∃u vs,y5=.tuple #[u,.int .i64 r.2]∧Sep (World.drew w7) w4 [plNd u vs r.1]:=hd ⟨5,.data⟩ (by simp) rfl (.inl rfl);have HS5:=hd0 S5;subst q5;clear hd hrest S5;simp[putAll,Act.put];go_wp2;exact OneC.mk (VCl.ext) rfl ⟨_,_,rfl,HS5.out⟩ hE (Ext.refl _)
      ·obtain⟨u5,v5,q6,S5⟩:∃u vs,y6=.tuple #[u,.int .i64 r.2]∧Sep (World.drew w7) w4 [plNd u vs r.1]:=hd ⟨6,.data⟩ (by simp) rfl (.inl rfl);have HS5:=hd0 S5;subst q6;clear hd hrest S5;simp[putAll,Act.put];go_wp2;exact OneC.mk (VCl.ext) rfl ⟨_,HS5.out⟩ hE (Ext.refl _)
      ·obtain⟨u5,v5,q6,S5⟩:∃u vs,y6=.tuple #[u,.int .i64 r.2]∧Sep (World.drew w7) w4 [plNd u vs r.1]:=hd ⟨6,.data⟩ (by simp) rfl (.inl rfl);subst q6;clear S5;clear hd hrest;simp[putAll,Act.put];go_wp2;exact OneC.mk (VCl.ext) rfl rfl hE (Ext.refl _)
      ·obtain⟨v5,S5⟩:∃vs,Sep (World.drew w7) w4 [plNd y7 vs r.1]:=hd ⟨7,.data⟩ (by simp) rfl (.inl rfl);have HS5:=hd0 S5;clear hd hrest S5;simp[putAll,Act.put];go_wp2;exact OneC.mk (VCl.ext) rfl ⟨_,HS5.out⟩ hE (Ext.refl _)
     intro vz w8 hvl hE hV _
     match vz,hvl with
     | [y0,y1,y2,y3,y4,y5,y6,y7,y8,y9],_ =>
     have q8:y8=.int .i64 r.2:=hV 8 (by omega) rfl;obtain⟨v8,S8⟩:∃vs,Sep (World.drew w7) w8 [plNd y9 vs r.1]:=hV 9 (by omega) rfl;subst q8;clear hV hvl bcc0 bcc1 bcc2 bcc3 e1d;simp only[putAll,Act.put,List.take_succ_cons,List.take_zero,List.drop_succ_cons,List.drop_zero];simp;have S:=HSd.out;have hcx:=hc.ext ((S.ext).trans hE);have HD:=hd0 (specDone (r:=r) S8 at_ cap T cr ca cs cg hl HT.out hcx);have HS7:=hd0 S;replace S:=S.step hE;clear S8 hcx HSd HF;obtain⟨⟨b3c0,b3f0⟩,⟨b3c1,b3f1⟩,⟨b3c2,b3f2⟩,⟨b3c3,b3f3⟩,⟨b3c4,b3f4⟩⟩:=bx5 (S.box 5 rfl)
     go_wp2_with fail
     clear b3c0 b3f0 b3c1 b3f1 b3c2 b3f2 b3c3 b3f3 b3c4 b3f4;refine HD.out.mono ?_;rintro e w9 ⟨u9,v9,rfl,S9⟩;have S:=HS7.out.call S9;obtain⟨ua9,uc9,rfl,_,_⟩:=nd_view (S9.at_ 0 rfl);have S:Sep w w9 [plNd (.slice ua9 (doneT T r).1.length uc9) v9 (doneT T r).1,plBox Bc #[.int .i64 cr,.int .i64 ca,.int .i64 cs,.int .i64 cg] 29,plRow 9 1 encStr1 (.slice (some ⟨gw,0,none⟩) [a,x].length cw) [a,x],plBox B6 #[.slice ua5 T.length uc5,.int .i64 cr,.int .i64 ca,.int .i64 cs,.int .i64 cg] 31,plNd (.slice ua5 T.length uc5) vs5 T,plBox B4 #[.slice none 0 0,.int .i64 0,.int .i64 0,.int .i64 0,.int .i64 0] 31,plBox B3 #[.slice at_ T.length cap,.int .i64 cr,.int .i64 ca,.int .i64 cs,.int .i64 cg] 31]:=S;clear S9 HS7 HD;generalize doneT T r=dr at *;obtain⟨⟨b4c0,b4f0⟩,⟨b4c1,b4f1⟩,⟨b4c2,b4f2⟩,⟨b4c3,b4f3⟩,⟨b4c4,b4f4⟩⟩:=bx5 (S.box 5 rfl);go_wp2;clear b4c0 b4f0 b4c1 b4f1 b4c2 b4f2 b4c3 b4f3 b4c4 b4f4;replace S:Sep w (((((w9.setCell ⟨B4,0,none⟩ (.slice ua9 dr.1.length uc9)).setCell ⟨B4,1,none⟩ (.int .i64 cr)).setCell ⟨B4,2,none⟩ (.int .i64 ca)).setCell ⟨B4,3,none⟩ (.int .i64 cs)).setCell ⟨B4,4,none⟩ (.int .i64 cg)) [plNd (.slice ua9 dr.1.length uc9) v9 dr.1,plBox Bc #[.int .i64 cr,.int .i64 ca,.int .i64 cs,.int .i64 cg] 29,plRow 9 1 encStr1 (.slice (some ⟨gw,0,none⟩) [a,x].length cw) [a,x],plBox B6 #[.slice ua5 T.length uc5,.int .i64 cr,.int .i64 ca,.int .i64 cs,.int .i64 cg] 31,plNd (.slice ua5 T.length uc5) vs5 T,plBox B4 #[.slice ua9 dr.1.length uc9,.int .i64 cr,.int .i64 ca,.int .i64 cs,.int .i64 cg] 31,plBox B3 #[.slice at_ T.length cap,.int .i64 cr,.int .i64 ca,.int .i64 cs,.int .i64 cg] 31]:=((((S.set 5 rfl 0 _).set 5 rfl 1 _).set 5 rfl 2 _).set 5 rfl 3 _).set 5 rfl 4 _;generalize (((((w9.setCell ⟨B4,0,none⟩ (.slice ua9 dr.1.length uc9)).setCell ⟨B4,1,none⟩ (.int .i64 cr)).setCell ⟨B4,2,none⟩ (.int .i64 ca)).setCell ⟨B4,3,none⟩ (.int .i64 cs)).setCell ⟨B4,4,none⟩ (.int .i64 cg))=wD at *;obtain⟨⟨b4c0,b4f0⟩,⟨b4c1,b4f1⟩,⟨b4c2,b4f2⟩,⟨b4c3,b4f3⟩,⟨b4c4,b4f4⟩⟩:=bx5 (S.box 5 rfl);refine bodyPost_ret (v:=.tuple #[.agg #[.slice ua9 dr.1.length uc9,.int .i64 cr,.int .i64 ca,.int .i64 cs,.int .i64 cg],.string dr.2]) (by simp[results,Tryz.results8,go_sem,b4c0,b4c1,b4c2,b4c3,b4c4]) rfl ?_;rw[HX.out.1,HX.out.2,←HW.out,HR.out];replace S:Sep w wD [plNd (.slice ua9 dr.1.length uc9) v9 dr.1]:=(((((S.drop 1).drop 1).drop 1).drop 1).drop 1).drop 1;exact⟨_,v9,rfl,S⟩
   ·by_cases h3:W.length=3
    ·obtain⟨a,x,y,rfl⟩:∃a x y,W=[a,x,y]:=by
      match W,h3 with
      | [a,x,y],_=>exact⟨a,x,y,rfl⟩
     have hx:=HWs.out x (by simp);have hy:=HWs.out y (by simp);obtain⟨y0,g0,o0,hy0,hg0,e0⟩:=atStr HRW.out (show 0 < [a,x,y].length by simp);obtain⟨y1,g1,o1,hy1,hg1,e1⟩:=atStr HRW.out (show 1 < [a,x,y].length by simp);obtain⟨y2,g2,o2,hy2,hg2,e2⟩:=atStr HRW.out (show 2 < [a,x,y].length by simp)
     obtain⟨rfl,rfl⟩:gw=g0∧0=o0:=by simpa using hg0
     obtain⟨rfl,rfl⟩:gw=g1∧0=o1:=by simpa using hg1
     obtain⟨rfl,rfl⟩:gw=g2∧0=o2:=by simpa using hg2
     obtain rfl:a=y0:=by simpa using hy0
     obtain rfl:x=y1:=by simpa using hy1
     obtain rfl:y=y2:=by simpa using hy2
     replace e0:=cell_ext hE67 e0;replace e1:=cell_ext hE67 e1;replace e2:=cell_ext hE67 e2;clear hy0 hy1 hy2 hg0 hg1 hg2 HRW h2 h3 hWl;rw[Nat.zero_add]at e0 e1 e2
     rcases three_cases a with h|h|h|h|h
     case' inl =>
      have HR:Hid (callF T ⟨cr,ca,cs,cg⟩ [a,x,y]=doneT T (writeFile T ⟨cr,ca,cs,cg⟩ x y)):=hd0 (by rw[h];exact cf_write T ⟨cr,ca,cs,cg⟩ x y)
      have t0:(a.toList == [119,114,105,116,101])=true:=by rw[h,ByteArray.toList_eq];rfl
      clear h;have HF:=hd0 (fun w' (hE:Ext (World.drew w7) w')=>specWriteFile at_ cap T ⟨cr,ca,cs,cg⟩ x y w' hx hl HT.out ((hc.ext S.ext.drew).ext hE));generalize writeFile T ⟨cr,ca,cs,cg⟩ x y=r at *
      go_upto_region 38 with fail
     case inr.inl =>
      subst h;have HM1:=hd0 (cf_mode T ⟨cr,ca,cs,cg⟩ x y);have HM0:=hd0 (cf_nomode T ⟨cr,ca,cs,cg⟩ x y);have HF:=hd0 (specReadMode y w7 hy);generalize readMode y=r at *;obtain⟨md,ok⟩:=r;dsimp only at HM1 HM0 HF
      go_wp2_with fail
      refine HF.out.mono ?_;rintro e w9 ⟨rfl,rfl⟩;clear HF
      cases ok with
      | false =>
       have HR:=hd0 (HM0.out rfl);clear HM0 HM1;obtain⟨⟨b6c0,b6f0⟩,⟨b6c1,b6f1⟩,⟨b6c2,b6f2⟩,⟨b6c3,b6f3⟩,⟨b6c4,b6f4⟩⟩:=bx5 (S.box 2 rfl);obtain⟨⟨b4c0,b4f0⟩,⟨b4c1,b4f1⟩,⟨b4c2,b4f2⟩,⟨b4c3,b4f3⟩,⟨b4c4,b4f4⟩⟩:=bx5 (S.box 4 rfl);go_wp2;clear b6c0 b6f0 b6c1 b6f1 b6c2 b6f2 b6c3 b6f3 b6c4 b6f4 b4c0 b4f0 b4c1 b4f1 b4c2 b4f2 b4c3 b4f3 b4c4 b4f4;replace S:Sep w (((((w7.setCell ⟨B4,0,none⟩ (.slice ua5 T.length uc5)).setCell ⟨B4,1,none⟩ (.int .i64 cr)).setCell ⟨B4,2,none⟩ (.int .i64 ca)).setCell ⟨B4,3,none⟩ (.int .i64 cs)).setCell ⟨B4,4,none⟩ (.int .i64 cg)) [plBox Bc #[.int .i64 cr,.int .i64 ca,.int .i64 cs,.int .i64 cg] 29,plRow 9 1 encStr1 (.slice (some ⟨gw,0,none⟩) [⟨#[109,111,100,101]⟩,x,y].length cw) [⟨#[109,111,100,101]⟩,x,y],plBox B6 #[.slice ua5 T.length uc5,.int .i64 cr,.int .i64 ca,.int .i64 cs,.int .i64 cg] 31,plNd (.slice ua5 T.length uc5) vs5 T,plBox B4 #[.slice ua5 T.length uc5,.int .i64 cr,.int .i64 ca,.int .i64 cs,.int .i64 cg] 31,plBox B3 #[.slice at_ T.length cap,.int .i64 cr,.int .i64 ca,.int .i64 cs,.int .i64 cg] 31]:=((((S.set 4 rfl 0 _).set 4 rfl 1 _).set 4 rfl 2 _).set 4 rfl 3 _).set 4 rfl 4 _;generalize (((((w7.setCell ⟨B4,0,none⟩ (.slice ua5 T.length uc5)).setCell ⟨B4,1,none⟩ (.int .i64 cr)).setCell ⟨B4,2,none⟩ (.int .i64 ca)).setCell ⟨B4,3,none⟩ (.int .i64 cs)).setCell ⟨B4,4,none⟩ (.int .i64 cg))=wD at *;obtain⟨⟨b4c0,b4f0⟩,⟨b4c1,b4f1⟩,⟨b4c2,b4f2⟩,⟨b4c3,b4f3⟩,⟨b4c4,b4f4⟩⟩:=bx5 (S.box 4 rfl);refine bodyPost_ret (v:=.tuple #[.agg #[.slice ua5 T.length uc5,.int .i64 cr,.int .i64 ca,.int .i64 cs,.int .i64 cg],.string ⟨#[112,97,116,104]⟩]) (by simp[results,Tryz.results8,go_sem,b4c0,b4c1,b4c2,b4c3,b4c4]) rfl ?_;rw[HX.out.1,HX.out.2,←HW.out,HR.out];replace S:Sep w wD [plNd (.slice ua5 T.length uc5) vs5 T]:=((((S.drop 0).drop 0).drop 0).drop 1).drop 1;exact⟨_,vs5,rfl,S⟩
      | true =>
       have HR:=hd0 (HM1.out rfl);clear HM0 HM1;have HF:=hd0 (fun w' (hE:Ext (World.drew w7) w')=>specChangeMode at_ cap T ⟨cr,ca,cs,cg⟩ x md w' hx hl HT.out ((hc.ext S.ext.drew).ext hE));clear e2;generalize changeMode T ⟨cr,ca,cs,cg⟩ x md=r at *
       go_upto_region 44 with fail
       have S:=S.drew;obtain⟨bcc0,_⟩:=bx (S.box 0 rfl) 0 rfl;obtain⟨bcc1,_⟩:=bx (S.box 0 rfl) 1 rfl;obtain⟨bcc2,_⟩:=bx (S.box 0 rfl) 2 rfl;obtain⟨bcc3,_⟩:=bx (S.box 0 rfl) 3 rfl;have e1d:=cell_ext (Ext.refl w7).drew e1;have HSd:=hd0 S;clear S e0 e1;refine wp_region_c (V:=VCm (World.drew w7) at_ cap T cr ca cs cg gw 3 cw x md r) (fun wv=>Ext (World.drew w7) wv) (fun _=>none) [] 11 0 rfl (by decide) (by kernel_rfl) (by kernel_rfl) (by kernel_rfl) (by kernel_rfl) (Ext.refl _) (fun r hr=>by omega) ?_ ?_
       ·intro i o hi ho vz w4 hvl hE hd hrest
        match vz,hvl with
        | [y0,y1,y2,y3,y4,y5,y6,y7,y8,y9,y10],_ =>
        rcases lc11 hi with rfl|rfl|rfl|rfl|rfl|rfl|rfl|rfl|rfl|rfl|rfl
        all_goals
         obtain rfl:=Option.some.inj ho
        all_goals try (clear hd hrest;simp[putAll,Act.put];go_wp2;exact OneC.mk (VCm.ext) rfl rfl hE (Ext.refl _))
        ·have c0:=cell_ext hE bcc0;have c1:=cell_ext hE bcc1;have c2:=cell_ext hE bcc2;have c3:=cell_ext hE bcc3;clear hd hrest;simp[putAll,Act.put];go_wp2;exact OneC.mk (VCm.ext) rfl rfl hE (Ext.refl _)
        ·have q2:y2=.slice (some ⟨gw,0,none⟩) 3 cw:=hd ⟨2,.data⟩ (by simp) rfl (.inl rfl);subst q2;clear hd hrest;simp[putAll,Act.put];go_wp2;exact OneC.mk (VCm.ext) rfl rfl hE (Ext.refl _)
        ·have q3:y3=.pointer (some ⟨gw,1,none⟩):=hd ⟨3,.data⟩ (by simp) rfl (.inl rfl);have c1:=cell_ext hE e1d;subst q3;clear hd hrest;simp[putAll,Act.put];go_wp2;exact OneC.mk (VCm.ext) rfl rfl hE (Ext.refl _)
        ·have q0:y0=.slice at_ T.length cap:=hd ⟨0,.data⟩ (by simp) rfl (.inl rfl);have q1:y1=.agg #[.int .i64 cr,.int .i64 ca,.int .i64 cs,.int .i64 cg]:=hd ⟨1,.data⟩ (by simp) rfl (.inl rfl);have q4:y4=.string x:=hd ⟨4,.data⟩ (by simp) rfl (.inl rfl);have q5:y5=.int .i64 md:=hd ⟨5,.data⟩ (by simp) rfl (.inl rfl);have HC:=hd0 (HF.out w4 hE);subst q0 q1 q4 q5;clear hd hrest;simp[putAll,Act.put]
         go_wp2_with fail
         refine HC.out.mono ?_;rintro e w5 ⟨u5,v5,rfl,S5⟩;have S6:=S5.since hE;have hE5:=S5.ext;clear HC S5;go_wp2;exact OneC.mk (VCm.ext) rfl ⟨_,_,rfl,S6⟩ (hE.trans hE5) hE5
        ·obtain⟨u5,v5,q6,S5⟩:∃u vs,y6=.tuple #[u,.int .i64 r.2]∧Sep (World.drew w7) w4 [plNd u vs r.1]:=hd ⟨6,.data⟩ (by simp) rfl (.inl rfl);have HS5:=hd0 S5;subst q6;clear hd hrest S5;simp[putAll,Act.put];go_wp2;exact OneC.mk (VCm.ext) rfl ⟨_,_,rfl,HS5.out⟩ hE (Ext.refl _)
        ·obtain⟨u5,v5,q7,S5⟩:∃u vs,y7=.tuple #[u,.int .i64 r.2]∧Sep (World.drew w7) w4 [plNd u vs r.1]:=hd ⟨7,.data⟩ (by simp) rfl (.inl rfl);have HS5:=hd0 S5;subst q7;clear hd hrest S5;simp[putAll,Act.put];go_wp2;exact OneC.mk (VCm.ext) rfl ⟨_,HS5.out⟩ hE (Ext.refl _)
        ·obtain⟨u5,v5,q7,S5⟩:∃u vs,y7=.tuple #[u,.int .i64 r.2]∧Sep (World.drew w7) w4 [plNd u vs r.1]:=hd ⟨7,.data⟩ (by simp) rfl (.inl rfl);have HS5:=hd0 S5;subst q7;clear hd hrest S5;simp[putAll,Act.put];go_wp2;exact OneC.mk (VCm.ext) rfl rfl hE (Ext.refl _)
        ·obtain⟨v5,S5⟩:∃vs,Sep (World.drew w7) w4 [plNd y8 vs r.1]:=hd ⟨8,.data⟩ (by simp) rfl (.inl rfl);have HS5:=hd0 S5;clear hd hrest S5;simp[putAll,Act.put];go_wp2;exact OneC.mk (VCm.ext) rfl ⟨_,HS5.out⟩ hE (Ext.refl _)
       intro vz w8 hvl hE hV _
       match vz,hvl with
       | [y0,y1,y2,y3,y4,y5,y6,y7,y8,y9,y10],_ =>
       have q9:y9=.int .i64 r.2:=hV 9 (by omega) rfl;obtain⟨v8,S8⟩:∃vs,Sep (World.drew w7) w8 [plNd y10 vs r.1]:=hV 10 (by omega) rfl;subst q9;clear hV hvl bcc0 bcc1 bcc2 bcc3 e1d;simp only[putAll,Act.put,List.take_succ_cons,List.take_zero,List.drop_succ_cons,List.drop_zero];simp;have S:=HSd.out;have hcx:=hc.ext ((S.ext).trans hE);have HD:=hd0 (specDone (r:=r) S8 at_ cap T cr ca cs cg hl HT.out hcx);have HS7:=hd0 S;replace S:=S.step hE;clear S8 hcx HSd HF;obtain⟨⟨b3c0,b3f0⟩,⟨b3c1,b3f1⟩,⟨b3c2,b3f2⟩,⟨b3c3,b3f3⟩,⟨b3c4,b3f4⟩⟩:=bx5 (S.box 5 rfl)
       go_wp2_with fail
       clear b3c0 b3f0 b3c1 b3f1 b3c2 b3f2 b3c3 b3f3 b3c4 b3f4;refine HD.out.mono ?_;rintro e w9 ⟨u9,v9,rfl,S9⟩;have S:=HS7.out.call S9;obtain⟨ua9,uc9,rfl,_,_⟩:=nd_view (S9.at_ 0 rfl);have S:Sep w w9 [plNd (.slice ua9 (doneT T r).1.length uc9) v9 (doneT T r).1,plBox Bc #[.int .i64 cr,.int .i64 ca,.int .i64 cs,.int .i64 cg] 29,plRow 9 1 encStr1 (.slice (some ⟨gw,0,none⟩) [⟨#[109,111,100,101]⟩,x,y].length cw) [⟨#[109,111,100,101]⟩,x,y],plBox B6 #[.slice ua5 T.length uc5,.int .i64 cr,.int .i64 ca,.int .i64 cs,.int .i64 cg] 31,plNd (.slice ua5 T.length uc5) vs5 T,plBox B4 #[.slice none 0 0,.int .i64 0,.int .i64 0,.int .i64 0,.int .i64 0] 31,plBox B3 #[.slice at_ T.length cap,.int .i64 cr,.int .i64 ca,.int .i64 cs,.int .i64 cg] 31]:=S;clear S9 HS7 HD;generalize doneT T r=dr at *;obtain⟨⟨b4c0,b4f0⟩,⟨b4c1,b4f1⟩,⟨b4c2,b4f2⟩,⟨b4c3,b4f3⟩,⟨b4c4,b4f4⟩⟩:=bx5 (S.box 5 rfl);go_wp2;clear b4c0 b4f0 b4c1 b4f1 b4c2 b4f2 b4c3 b4f3 b4c4 b4f4;replace S:Sep w (((((w9.setCell ⟨B4,0,none⟩ (.slice ua9 dr.1.length uc9)).setCell ⟨B4,1,none⟩ (.int .i64 cr)).setCell ⟨B4,2,none⟩ (.int .i64 ca)).setCell ⟨B4,3,none⟩ (.int .i64 cs)).setCell ⟨B4,4,none⟩ (.int .i64 cg)) [plNd (.slice ua9 dr.1.length uc9) v9 dr.1,plBox Bc #[.int .i64 cr,.int .i64 ca,.int .i64 cs,.int .i64 cg] 29,plRow 9 1 encStr1 (.slice (some ⟨gw,0,none⟩) [⟨#[109,111,100,101]⟩,x,y].length cw) [⟨#[109,111,100,101]⟩,x,y],plBox B6 #[.slice ua5 T.length uc5,.int .i64 cr,.int .i64 ca,.int .i64 cs,.int .i64 cg] 31,plNd (.slice ua5 T.length uc5) vs5 T,plBox B4 #[.slice ua9 dr.1.length uc9,.int .i64 cr,.int .i64 ca,.int .i64 cs,.int .i64 cg] 31,plBox B3 #[.slice at_ T.length cap,.int .i64 cr,.int .i64 ca,.int .i64 cs,.int .i64 cg] 31]:=((((S.set 5 rfl 0 _).set 5 rfl 1 _).set 5 rfl 2 _).set 5 rfl 3 _).set 5 rfl 4 _;generalize (((((w9.setCell ⟨B4,0,none⟩ (.slice ua9 dr.1.length uc9)).setCell ⟨B4,1,none⟩ (.int .i64 cr)).setCell ⟨B4,2,none⟩ (.int .i64 ca)).setCell ⟨B4,3,none⟩ (.int .i64 cs)).setCell ⟨B4,4,none⟩ (.int .i64 cg))=wD at *;obtain⟨⟨b4c0,b4f0⟩,⟨b4c1,b4f1⟩,⟨b4c2,b4f2⟩,⟨b4c3,b4f3⟩,⟨b4c4,b4f4⟩⟩:=bx5 (S.box 5 rfl);refine bodyPost_ret (v:=.tuple #[.agg #[.slice ua9 dr.1.length uc9,.int .i64 cr,.int .i64 ca,.int .i64 cs,.int .i64 cg],.string dr.2]) (by simp[results,Tryz.results8,go_sem,b4c0,b4c1,b4c2,b4c3,b4c4]) rfl ?_;rw[HX.out.1,HX.out.2,←HW.out,HR.out];replace S:Sep w wD [plNd (.slice ua9 dr.1.length uc9) v9 dr.1]:=(((((S.drop 1).drop 1).drop 1).drop 1).drop 1).drop 1;exact⟨_,v9,rfl,S⟩
     case' inr.inr.inl =>
      have HR:Hid (callF T ⟨cr,ca,cs,cg⟩ [a,x,y]=doneT T (linkName T ⟨cr,ca,cs,cg⟩ x y)):=hd0 (by rw[h];exact cf_link T ⟨cr,ca,cs,cg⟩ x y)
      have t0:(a.toList == [119,114,105,116,101])=false:=by rw[h,ByteArray.toList_eq];rfl
      have t1:(a.toList == [109,111,100,101])=false:=by rw[h,ByteArray.toList_eq];rfl
      have t2:(a.toList == [108,105,110,107])=true:=by rw[h,ByteArray.toList_eq];rfl
      clear h;have HF:=hd0 (fun w' (hE:Ext (World.drew w7) w')=>specLinkName at_ cap T ⟨cr,ca,cs,cg⟩ x y w' hx hy hl HT.out ((hc.ext S.ext.drew).ext hE));generalize linkName T ⟨cr,ca,cs,cg⟩ x y=r at *
      go_upto_region 47 with fail
     case' inr.inr.inr.inl =>
      have HR:Hid (callF T ⟨cr,ca,cs,cg⟩ [a,x,y]=doneT T (moveName T ⟨cr,ca,cs,cg⟩ x y)):=hd0 (by rw[h];exact cf_move T ⟨cr,ca,cs,cg⟩ x y)
      have t0:(a.toList == [119,114,105,116,101])=false:=by rw[h,ByteArray.toList_eq];rfl
      have t1:(a.toList == [109,111,100,101])=false:=by rw[h,ByteArray.toList_eq];rfl
      have t2:(a.toList == [108,105,110,107])=false:=by rw[h,ByteArray.toList_eq];rfl
      have t3:(a.toList == [109,111,118,101])=true:=by rw[h,ByteArray.toList_eq];rfl
      clear h;have HF:=hd0 (fun w' (hE:Ext (World.drew w7) w')=>specMoveName at_ cap T ⟨cr,ca,cs,cg⟩ x y w' hx hy hl HT.out HNB.out ((hc.ext S.ext.drew).ext hE));generalize moveName T ⟨cr,ca,cs,cg⟩ x y=r at *
      go_upto_region 50 with fail
     case inr.inr.inr.inr =>
      obtain⟨h_write,h_mode,h_link,h_move⟩:=h;have HR:=hd0 (cf_three T ⟨cr,ca,cs,cg⟩ x y h_write h_mode h_link h_move);have t0:(a.toList == [119,114,105,116,101])=false:=Bool.eq_false_iff.2 (fun h=>h_write (bytes_eq.1 (by rw[eq_of_beq h,ByteArray.toList_eq])));have t1:(a.toList == [109,111,100,101])=false:=Bool.eq_false_iff.2 (fun h=>h_mode (bytes_eq.1 (by rw[eq_of_beq h,ByteArray.toList_eq])));have t2:(a.toList == [108,105,110,107])=false:=Bool.eq_false_iff.2 (fun h=>h_link (bytes_eq.1 (by rw[eq_of_beq h,ByteArray.toList_eq])));have t3:(a.toList == [109,111,118,101])=false:=Bool.eq_false_iff.2 (fun h=>h_move (bytes_eq.1 (by rw[eq_of_beq h,ByteArray.toList_eq])));clear h_write h_mode h_link h_move;obtain⟨⟨b6c0,b6f0⟩,⟨b6c1,b6f1⟩,⟨b6c2,b6f2⟩,⟨b6c3,b6f3⟩,⟨b6c4,b6f4⟩⟩:=bx5 (S.box 2 rfl);obtain⟨⟨b4c0,b4f0⟩,⟨b4c1,b4f1⟩,⟨b4c2,b4f2⟩,⟨b4c3,b4f3⟩,⟨b4c4,b4f4⟩⟩:=bx5 (S.box 4 rfl);go_wp2;clear b6c0 b6f0 b6c1 b6f1 b6c2 b6f2 b6c3 b6f3 b6c4 b6f4 b4c0 b4f0 b4c1 b4f1 b4c2 b4f2 b4c3 b4f3 b4c4 b4f4;replace S:Sep w (((((w7.setCell ⟨B4,0,none⟩ (.slice ua5 T.length uc5)).setCell ⟨B4,1,none⟩ (.int .i64 cr)).setCell ⟨B4,2,none⟩ (.int .i64 ca)).setCell ⟨B4,3,none⟩ (.int .i64 cs)).setCell ⟨B4,4,none⟩ (.int .i64 cg)) [plBox Bc #[.int .i64 cr,.int .i64 ca,.int .i64 cs,.int .i64 cg] 29,plRow 9 1 encStr1 (.slice (some ⟨gw,0,none⟩) [a,x,y].length cw) [a,x,y],plBox B6 #[.slice ua5 T.length uc5,.int .i64 cr,.int .i64 ca,.int .i64 cs,.int .i64 cg] 31,plNd (.slice ua5 T.length uc5) vs5 T,plBox B4 #[.slice ua5 T.length uc5,.int .i64 cr,.int .i64 ca,.int .i64 cs,.int .i64 cg] 31,plBox B3 #[.slice at_ T.length cap,.int .i64 cr,.int .i64 ca,.int .i64 cs,.int .i64 cg] 31]:=((((S.set 4 rfl 0 _).set 4 rfl 1 _).set 4 rfl 2 _).set 4 rfl 3 _).set 4 rfl 4 _;generalize (((((w7.setCell ⟨B4,0,none⟩ (.slice ua5 T.length uc5)).setCell ⟨B4,1,none⟩ (.int .i64 cr)).setCell ⟨B4,2,none⟩ (.int .i64 ca)).setCell ⟨B4,3,none⟩ (.int .i64 cs)).setCell ⟨B4,4,none⟩ (.int .i64 cg))=wD at *;obtain⟨⟨b4c0,b4f0⟩,⟨b4c1,b4f1⟩,⟨b4c2,b4f2⟩,⟨b4c3,b4f3⟩,⟨b4c4,b4f4⟩⟩:=bx5 (S.box 4 rfl);refine bodyPost_ret (v:=.tuple #[.agg #[.slice ua5 T.length uc5,.int .i64 cr,.int .i64 ca,.int .i64 cs,.int .i64 cg],.string ⟨#[112,97,116,104]⟩]) (by simp[results,Tryz.results8,go_sem,b4c0,b4c1,b4c2,b4c3,b4c4]) rfl ?_;rw[HX.out.1,HX.out.2,←HW.out,HR.out];replace S:Sep w wD [plNd (.slice ua5 T.length uc5) vs5 T]:=((((S.drop 0).drop 0).drop 0).drop 1).drop 1;exact⟨_,vs5,rfl,S⟩
     all_goals
      have S:=S.drew;obtain⟨bcc0,_⟩:=bx (S.box 0 rfl) 0 rfl;obtain⟨bcc1,_⟩:=bx (S.box 0 rfl) 1 rfl;obtain⟨bcc2,_⟩:=bx (S.box 0 rfl) 2 rfl;obtain⟨bcc3,_⟩:=bx (S.box 0 rfl) 3 rfl;have e1d:=cell_ext (Ext.refl w7).drew e1;have e2d:=cell_ext (Ext.refl w7).drew e2;have HSd:=hd0 S;clear S e0 e1 e2;refine wp_region_c (V:=VC3 (World.drew w7) at_ cap T cr ca cs cg gw 3 cw x y r) (fun wv=>Ext (World.drew w7) wv) (fun _=>none) [] 13 0 rfl (by decide) (by kernel_rfl) (by kernel_rfl) (by kernel_rfl) (by kernel_rfl) (Ext.refl _) (fun r hr=>by omega) ?_ ?_
      ·intro i o hi ho vz w4 hvl hE hd hrest
       match vz,hvl with
       | [y0,y1,y2,y3,y4,y5,y6,y7,y8,y9,y10,y11,y12],_ =>
       rcases lc13 hi with rfl|rfl|rfl|rfl|rfl|rfl|rfl|rfl|rfl|rfl|rfl|rfl|rfl
       all_goals
        obtain rfl:=Option.some.inj ho
       all_goals try (clear hd hrest;simp[putAll,Act.put];go_wp2;exact OneC.mk (VC3.ext) rfl rfl hE (Ext.refl _))
       ·have c0:=cell_ext hE bcc0;have c1:=cell_ext hE bcc1;have c2:=cell_ext hE bcc2;have c3:=cell_ext hE bcc3;clear hd hrest;simp[putAll,Act.put];go_wp2;exact OneC.mk (VC3.ext) rfl rfl hE (Ext.refl _)
       ·have q2:y2=.slice (some ⟨gw,0,none⟩) 3 cw:=hd ⟨2,.data⟩ (by simp) rfl (.inl rfl);subst q2;clear hd hrest;simp[putAll,Act.put];go_wp2;exact OneC.mk (VC3.ext) rfl rfl hE (Ext.refl _)
       ·have q3:y3=.pointer (some ⟨gw,1,none⟩):=hd ⟨3,.data⟩ (by simp) rfl (.inl rfl);have c1:=cell_ext hE e1d;subst q3;clear hd hrest;simp[putAll,Act.put];go_wp2;exact OneC.mk (VC3.ext) rfl rfl hE (Ext.refl _)
       ·have q5:y5=.slice (some ⟨gw,0,none⟩) 3 cw:=hd ⟨5,.data⟩ (by simp) rfl (.inl rfl);subst q5;clear hd hrest;simp[putAll,Act.put];go_wp2;exact OneC.mk (VC3.ext) rfl rfl hE (Ext.refl _)
       ·have q6:y6=.pointer (some ⟨gw,2,none⟩):=hd ⟨6,.data⟩ (by simp) rfl (.inl rfl);have c2:=cell_ext hE e2d;subst q6;clear hd hrest;simp[putAll,Act.put];go_wp2;exact OneC.mk (VC3.ext) rfl rfl hE (Ext.refl _)
       ·have q0:y0=.slice at_ T.length cap:=hd ⟨0,.data⟩ (by simp) rfl (.inl rfl);have q1:y1=.agg #[.int .i64 cr,.int .i64 ca,.int .i64 cs,.int .i64 cg]:=hd ⟨1,.data⟩ (by simp) rfl (.inl rfl);have q4:y4=.string x:=hd ⟨4,.data⟩ (by simp) rfl (.inl rfl);have q7:y7=.string y:=hd ⟨7,.data⟩ (by simp) rfl (.inl rfl);have HC:=hd0 (HF.out w4 hE);subst q0 q1 q4 q7;clear hd hrest;simp[putAll,Act.put]
        go_wp2_with fail
        refine HC.out.mono ?_;rintro e w5 ⟨u5,v5,rfl,S5⟩;have S6:=S5.since hE;have hE5:=S5.ext;clear HC S5;go_wp2;exact OneC.mk (VC3.ext) rfl ⟨_,_,rfl,S6⟩ (hE.trans hE5) hE5
       ·obtain⟨u5,v5,q8,S5⟩:∃u vs,y8=.tuple #[u,.int .i64 r.2]∧Sep (World.drew w7) w4 [plNd u vs r.1]:=hd ⟨8,.data⟩ (by simp) rfl (.inl rfl);have HS5:=hd0 S5;subst q8;clear hd hrest S5;simp[putAll,Act.put];go_wp2;exact OneC.mk (VC3.ext) rfl ⟨_,_,rfl,HS5.out⟩ hE (Ext.refl _)
       ·obtain⟨u5,v5,q9,S5⟩:∃u vs,y9=.tuple #[u,.int .i64 r.2]∧Sep (World.drew w7) w4 [plNd u vs r.1]:=hd ⟨9,.data⟩ (by simp) rfl (.inl rfl);have HS5:=hd0 S5;subst q9;clear hd hrest S5;simp[putAll,Act.put];go_wp2;exact OneC.mk (VC3.ext) rfl ⟨_,HS5.out⟩ hE (Ext.refl _)
       ·obtain⟨u5,v5,q9,S5⟩:∃u vs,y9=.tuple #[u,.int .i64 r.2]∧Sep (World.drew w7) w4 [plNd u vs r.1]:=hd ⟨9,.data⟩ (by simp) rfl (.inl rfl);have HS5:=hd0 S5;subst q9;clear hd hrest S5;simp[putAll,Act.put];go_wp2;exact OneC.mk (VC3.ext) rfl rfl hE (Ext.refl _)
       ·obtain⟨v5,S5⟩:∃vs,Sep (World.drew w7) w4 [plNd y10 vs r.1]:=hd ⟨10,.data⟩ (by simp) rfl (.inl rfl);have HS5:=hd0 S5;clear hd hrest S5;simp[putAll,Act.put];go_wp2;exact OneC.mk (VC3.ext) rfl ⟨_,HS5.out⟩ hE (Ext.refl _)
      intro vz w8 hvl hE hV _
      match vz,hvl with
      | [y0,y1,y2,y3,y4,y5,y6,y7,y8,y9,y10,y11,y12],_ =>
      have q11:y11=.int .i64 r.2:=hV 11 (by omega) rfl;obtain⟨v8,S8⟩:∃vs,Sep (World.drew w7) w8 [plNd y12 vs r.1]:=hV 12 (by omega) rfl;subst q11;clear hV hvl bcc0 bcc1 bcc2 bcc3 e1d e2d;simp only[putAll,Act.put,List.take_succ_cons,List.take_zero,List.drop_succ_cons,List.drop_zero];simp;have S:=HSd.out;have hcx:=hc.ext ((S.ext).trans hE);have HD:=hd0 (specDone (r:=r) S8 at_ cap T cr ca cs cg hl HT.out hcx);have HS7:=hd0 S;replace S:=S.step hE;clear S8 hcx HSd HF;obtain⟨⟨b3c0,b3f0⟩,⟨b3c1,b3f1⟩,⟨b3c2,b3f2⟩,⟨b3c3,b3f3⟩,⟨b3c4,b3f4⟩⟩:=bx5 (S.box 5 rfl)
      go_wp2_with fail
      clear b3c0 b3f0 b3c1 b3f1 b3c2 b3f2 b3c3 b3f3 b3c4 b3f4;refine HD.out.mono ?_;rintro e w9 ⟨u9,v9,rfl,S9⟩;have S:=HS7.out.call S9;obtain⟨ua9,uc9,rfl,_,_⟩:=nd_view (S9.at_ 0 rfl);have S:Sep w w9 [plNd (.slice ua9 (doneT T r).1.length uc9) v9 (doneT T r).1,plBox Bc #[.int .i64 cr,.int .i64 ca,.int .i64 cs,.int .i64 cg] 29,plRow 9 1 encStr1 (.slice (some ⟨gw,0,none⟩) [a,x,y].length cw) [a,x,y],plBox B6 #[.slice ua5 T.length uc5,.int .i64 cr,.int .i64 ca,.int .i64 cs,.int .i64 cg] 31,plNd (.slice ua5 T.length uc5) vs5 T,plBox B4 #[.slice none 0 0,.int .i64 0,.int .i64 0,.int .i64 0,.int .i64 0] 31,plBox B3 #[.slice at_ T.length cap,.int .i64 cr,.int .i64 ca,.int .i64 cs,.int .i64 cg] 31]:=S;clear S9 HS7 HD;generalize doneT T r=dr at *;obtain⟨⟨b4c0,b4f0⟩,⟨b4c1,b4f1⟩,⟨b4c2,b4f2⟩,⟨b4c3,b4f3⟩,⟨b4c4,b4f4⟩⟩:=bx5 (S.box 5 rfl);go_wp2;clear b4c0 b4f0 b4c1 b4f1 b4c2 b4f2 b4c3 b4f3 b4c4 b4f4;replace S:Sep w (((((w9.setCell ⟨B4,0,none⟩ (.slice ua9 dr.1.length uc9)).setCell ⟨B4,1,none⟩ (.int .i64 cr)).setCell ⟨B4,2,none⟩ (.int .i64 ca)).setCell ⟨B4,3,none⟩ (.int .i64 cs)).setCell ⟨B4,4,none⟩ (.int .i64 cg)) [plNd (.slice ua9 dr.1.length uc9) v9 dr.1,plBox Bc #[.int .i64 cr,.int .i64 ca,.int .i64 cs,.int .i64 cg] 29,plRow 9 1 encStr1 (.slice (some ⟨gw,0,none⟩) [a,x,y].length cw) [a,x,y],plBox B6 #[.slice ua5 T.length uc5,.int .i64 cr,.int .i64 ca,.int .i64 cs,.int .i64 cg] 31,plNd (.slice ua5 T.length uc5) vs5 T,plBox B4 #[.slice ua9 dr.1.length uc9,.int .i64 cr,.int .i64 ca,.int .i64 cs,.int .i64 cg] 31,plBox B3 #[.slice at_ T.length cap,.int .i64 cr,.int .i64 ca,.int .i64 cs,.int .i64 cg] 31]:=((((S.set 5 rfl 0 _).set 5 rfl 1 _).set 5 rfl 2 _).set 5 rfl 3 _).set 5 rfl 4 _;generalize (((((w9.setCell ⟨B4,0,none⟩ (.slice ua9 dr.1.length uc9)).setCell ⟨B4,1,none⟩ (.int .i64 cr)).setCell ⟨B4,2,none⟩ (.int .i64 ca)).setCell ⟨B4,3,none⟩ (.int .i64 cs)).setCell ⟨B4,4,none⟩ (.int .i64 cg))=wD at *;obtain⟨⟨b4c0,b4f0⟩,⟨b4c1,b4f1⟩,⟨b4c2,b4f2⟩,⟨b4c3,b4f3⟩,⟨b4c4,b4f4⟩⟩:=bx5 (S.box 5 rfl);refine bodyPost_ret (v:=.tuple #[.agg #[.slice ua9 dr.1.length uc9,.int .i64 cr,.int .i64 ca,.int .i64 cs,.int .i64 cg],.string dr.2]) (by simp[results,Tryz.results8,go_sem,b4c0,b4c1,b4c2,b4c3,b4c4]) rfl ?_;rw[HX.out.1,HX.out.2,←HW.out,HR.out];replace S:Sep w wD [plNd (.slice ua9 dr.1.length uc9) v9 dr.1]:=(((((S.drop 1).drop 1).drop 1).drop 1).drop 1).drop 1;exact⟨_,v9,rfl,S⟩
    ·have t2:((W.length:Int) == 2)=false:=by simp;omega
     have t3:((W.length:Int) == 3)=false:=by simp;omega
     have HR:=hd0 (cf_len T ⟨cr,ca,cs,cg⟩ h2 h3);clear h2 h3;obtain⟨⟨b6c0,b6f0⟩,⟨b6c1,b6f1⟩,⟨b6c2,b6f2⟩,⟨b6c3,b6f3⟩,⟨b6c4,b6f4⟩⟩:=bx5 (S.box 2 rfl);obtain⟨⟨b4c0,b4f0⟩,⟨b4c1,b4f1⟩,⟨b4c2,b4f2⟩,⟨b4c3,b4f3⟩,⟨b4c4,b4f4⟩⟩:=bx5 (S.box 4 rfl);go_wp2;clear b6c0 b6f0 b6c1 b6f1 b6c2 b6f2 b6c3 b6f3 b6c4 b6f4 b4c0 b4f0 b4c1 b4f1 b4c2 b4f2 b4c3 b4f3 b4c4 b4f4;replace S:Sep w (((((w7.setCell ⟨B4,0,none⟩ (.slice ua5 T.length uc5)).setCell ⟨B4,1,none⟩ (.int .i64 cr)).setCell ⟨B4,2,none⟩ (.int .i64 ca)).setCell ⟨B4,3,none⟩ (.int .i64 cs)).setCell ⟨B4,4,none⟩ (.int .i64 cg)) [plBox Bc #[.int .i64 cr,.int .i64 ca,.int .i64 cs,.int .i64 cg] 29,plRow 9 1 encStr1 (.slice (some ⟨gw,0,none⟩) W.length cw) W,plBox B6 #[.slice ua5 T.length uc5,.int .i64 cr,.int .i64 ca,.int .i64 cs,.int .i64 cg] 31,plNd (.slice ua5 T.length uc5) vs5 T,plBox B4 #[.slice ua5 T.length uc5,.int .i64 cr,.int .i64 ca,.int .i64 cs,.int .i64 cg] 31,plBox B3 #[.slice at_ T.length cap,.int .i64 cr,.int .i64 ca,.int .i64 cs,.int .i64 cg] 31]:=((((S.set 4 rfl 0 _).set 4 rfl 1 _).set 4 rfl 2 _).set 4 rfl 3 _).set 4 rfl 4 _;generalize (((((w7.setCell ⟨B4,0,none⟩ (.slice ua5 T.length uc5)).setCell ⟨B4,1,none⟩ (.int .i64 cr)).setCell ⟨B4,2,none⟩ (.int .i64 ca)).setCell ⟨B4,3,none⟩ (.int .i64 cs)).setCell ⟨B4,4,none⟩ (.int .i64 cg))=wD at *;obtain⟨⟨b4c0,b4f0⟩,⟨b4c1,b4f1⟩,⟨b4c2,b4f2⟩,⟨b4c3,b4f3⟩,⟨b4c4,b4f4⟩⟩:=bx5 (S.box 4 rfl);refine bodyPost_ret (v:=.tuple #[.agg #[.slice ua5 T.length uc5,.int .i64 cr,.int .i64 ca,.int .i64 cs,.int .i64 cg],.string ⟨#[112,97,116,104]⟩]) (by simp[results,Tryz.results8,go_sem,b4c0,b4c1,b4c2,b4c3,b4c4]) rfl ?_;rw[HX.out.1,HX.out.2,←HW.out,HR.out];replace S:Sep w wD [plNd (.slice ua5 T.length uc5) vs5 T]:=((((S.drop 0).drop 0).drop 0).drop 1).drop 1;exact⟨_,vs5,rfl,S⟩
end Go.Proofs.YtnibbldfohbfkaaGreatDoor
