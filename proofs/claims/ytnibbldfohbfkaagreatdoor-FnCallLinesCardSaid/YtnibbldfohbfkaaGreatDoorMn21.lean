/- Parts of one proof: what each theorem proves, and its conditions, stand in its own statement. -/
import Derived.Test.YtnibbldfohbfkaaGreatDoorMn18
import Derived.Test.YtnibbldfohbfkaaGreatDoorMn20
set_option linter.all false
set_option maxRecDepth 100000
set_option maxHeartbeats 32000000
namespace Go.Proofs.YtnibbldfohbfkaaGreatDoor
open Go.RowKit
def VJ1 (wR:World) (Bk:Nat) (at_:Option Addr) (cap:Nat) (T:List Nd) (cr ca cs cg:Int) (gw nw cw:Nat) (x y:ByteArray) (md:Int) (r:List Nd×Int):Nat→Value→World→Prop:=fun i v wv=>match i with
 | 0=>v=.pointer (some ⟨Bk,0,none⟩)
 | 1=>v=.slice at_ T.length cap
 | 2=>v=.pointer (some ⟨Bk,1,none⟩)
 | 3=>v=.agg #[.int .i64 cr,.int .i64 ca,.int .i64 cs,.int .i64 cg]
 | 4=>v=.slice (some ⟨gw,0,none⟩) nw cw
 | 5=>v=.pointer (some ⟨gw,1,none⟩)
 | 6=>v=.string x
 | 7=>∃u vs,v=.tuple #[u,.int .i64 r.2]∧Sep wR wv [plNd u vs r.1]
 | 8=>∃u vs,v=.tuple #[u,.int .i64 r.2]∧Sep wR wv [plNd u vs r.1]
 | 9=>∃vs,Sep wR wv [plNd v vs r.1]
 | 10=>v=.int .i64 r.2
 | 11=>∃vs,Sep wR wv [plNd v vs r.1]
 | _=>True
theorem VJ1.ext {wR:World} {Bk:Nat} {at_:Option Addr} {cap:Nat} {T:List Nd} {cr ca cs cg:Int} {gw nw cw:Nat} {x y:ByteArray} {md:Int} {r:List Nd×Int} (i:Nat) (v:Value) (w1 w2:World) (h:VJ1 wR Bk at_ cap T cr ca cs cg gw nw cw x y md r i v w1) (hE:Ext w1 w2):VJ1 wR Bk at_ cap T cr ca cs cg gw nw cw x y md r i v w2:=by
 match i with
 | 0=>exact h
 | 1=>exact h
 | 2=>exact h
 | 3=>exact h
 | 4=>exact h
 | 5=>exact h
 | 6=>exact h
 | 7=>obtain⟨u,vs,h0,h1⟩:=h;exact⟨u,vs,h0,h1.step hE⟩
 | 8=>obtain⟨u,vs,h0,h1⟩:=h;exact⟨u,vs,h0,h1.step hE⟩
 | 9=>obtain⟨vs,h1⟩:=h;exact⟨vs,h1.step hE⟩
 | 10=>exact h
 | 11=>obtain⟨vs,h1⟩:=h;exact⟨vs,h1.step hE⟩
 | (n+12)=>trivial
def VJ2 (wR:World) (Bk:Nat) (at_:Option Addr) (cap:Nat) (T:List Nd) (cr ca cs cg:Int) (gw nw cw:Nat) (x y:ByteArray) (md:Int) (r:List Nd×Int):Nat→Value→World→Prop:=fun i v wv=>match i with
 | 0=>v=.pointer (some ⟨Bk,0,none⟩)
 | 1=>v=.slice at_ T.length cap
 | 2=>v=.pointer (some ⟨Bk,1,none⟩)
 | 3=>v=.agg #[.int .i64 cr,.int .i64 ca,.int .i64 cs,.int .i64 cg]
 | 4=>v=.slice (some ⟨gw,0,none⟩) nw cw
 | 5=>v=.pointer (some ⟨gw,1,none⟩)
 | 6=>v=.string x
 | 7=>v=.slice (some ⟨gw,0,none⟩) nw cw
 | 8=>v=.pointer (some ⟨gw,2,none⟩)
 | 9=>v=.string y
 | 10=>∃u vs,v=.tuple #[u,.int .i64 r.2]∧Sep wR wv [plNd u vs r.1]
 | 11=>∃u vs,v=.tuple #[u,.int .i64 r.2]∧Sep wR wv [plNd u vs r.1]
 | 12=>∃vs,Sep wR wv [plNd v vs r.1]
 | 13=>v=.int .i64 r.2
 | 14=>∃vs,Sep wR wv [plNd v vs r.1]
 | _=>True
theorem VJ2.ext {wR:World} {Bk:Nat} {at_:Option Addr} {cap:Nat} {T:List Nd} {cr ca cs cg:Int} {gw nw cw:Nat} {x y:ByteArray} {md:Int} {r:List Nd×Int} (i:Nat) (v:Value) (w1 w2:World) (h:VJ2 wR Bk at_ cap T cr ca cs cg gw nw cw x y md r i v w1) (hE:Ext w1 w2):VJ2 wR Bk at_ cap T cr ca cs cg gw nw cw x y md r i v w2:=by
 match i with
 | 0=>exact h
 | 1=>exact h
 | 2=>exact h
 | 3=>exact h
 | 4=>exact h
 | 5=>exact h
 | 6=>exact h
 | 7=>exact h
 | 8=>exact h
 | 9=>exact h
 | 10=>obtain⟨u,vs,h0,h1⟩:=h;exact⟨u,vs,h0,h1.step hE⟩
 | 11=>obtain⟨u,vs,h0,h1⟩:=h;exact⟨u,vs,h0,h1.step hE⟩
 | 12=>obtain⟨vs,h1⟩:=h;exact⟨vs,h1.step hE⟩
 | 13=>exact h
 | 14=>obtain⟨vs,h1⟩:=h;exact⟨vs,h1.step hE⟩
 | (n+15)=>trivial
def VJm (wR:World) (Bk:Nat) (at_:Option Addr) (cap:Nat) (T:List Nd) (cr ca cs cg:Int) (gw nw cw:Nat) (x y:ByteArray) (md:Int) (r:List Nd×Int):Nat→Value→World→Prop:=fun i v wv=>match i with
 | 0=>v=.pointer (some ⟨Bk,0,none⟩)
 | 1=>v=.slice at_ T.length cap
 | 2=>v=.pointer (some ⟨Bk,1,none⟩)
 | 3=>v=.agg #[.int .i64 cr,.int .i64 ca,.int .i64 cs,.int .i64 cg]
 | 4=>v=.slice (some ⟨gw,0,none⟩) nw cw
 | 5=>v=.pointer (some ⟨gw,1,none⟩)
 | 6=>v=.string x
 | 7=>v=.int .i64 md
 | 8=>∃u vs,v=.tuple #[u,.int .i64 r.2]∧Sep wR wv [plNd u vs r.1]
 | 9=>∃u vs,v=.tuple #[u,.int .i64 r.2]∧Sep wR wv [plNd u vs r.1]
 | 10=>∃vs,Sep wR wv [plNd v vs r.1]
 | 11=>v=.int .i64 r.2
 | 12=>∃vs,Sep wR wv [plNd v vs r.1]
 | _=>True
theorem VJm.ext {wR:World} {Bk:Nat} {at_:Option Addr} {cap:Nat} {T:List Nd} {cr ca cs cg:Int} {gw nw cw:Nat} {x y:ByteArray} {md:Int} {r:List Nd×Int} (i:Nat) (v:Value) (w1 w2:World) (h:VJm wR Bk at_ cap T cr ca cs cg gw nw cw x y md r i v w1) (hE:Ext w1 w2):VJm wR Bk at_ cap T cr ca cs cg gw nw cw x y md r i v w2:=by
 match i with
 | 0=>exact h
 | 1=>exact h
 | 2=>exact h
 | 3=>exact h
 | 4=>exact h
 | 5=>exact h
 | 6=>exact h
 | 7=>exact h
 | 8=>obtain⟨u,vs,h0,h1⟩:=h;exact⟨u,vs,h0,h1.step hE⟩
 | 9=>obtain⟨u,vs,h0,h1⟩:=h;exact⟨u,vs,h0,h1.step hE⟩
 | 10=>obtain⟨vs,h1⟩:=h;exact⟨vs,h1.step hE⟩
 | 11=>exact h
 | 12=>obtain⟨vs,h1⟩:=h;exact⟨vs,h1.step hE⟩
 | (n+13)=>trivial
def VJr (wR:World) (Bk:Nat) (at_:Option Addr) (cap:Nat) (T:List Nd) (cr ca cs cg:Int) (gw nw cw:Nat) (x y:ByteArray) (md:Int) (r:Int×Bool):Nat→Value→World→Prop:=fun i v wv=>match i with
 | 0=>v=.slice (some ⟨gw,0,none⟩) nw cw
 | 1=>v=.pointer (some ⟨gw,2,none⟩)
 | 2=>v=.string y
 | 3=>v=.tuple #[.int .i64 r.1,.bool r.2]
 | 4=>v=.tuple #[.int .i64 r.1,.bool r.2]
 | 5=>v=.int .i64 r.1
 | 6=>v=.bool r.2
 | 7=>v=.int .i64 r.1
 | _=>True
theorem VJr.ext {wR:World} {Bk:Nat} {at_:Option Addr} {cap:Nat} {T:List Nd} {cr ca cs cg:Int} {gw nw cw:Nat} {x y:ByteArray} {md:Int} {r:Int×Bool} (i:Nat) (v:Value) (w1 w2:World) (h:VJr wR Bk at_ cap T cr ca cs cg gw nw cw x y md r i v w1) (hE:Ext w1 w2):VJr wR Bk at_ cap T cr ca cs cg gw nw cw x y md r i v w2:=by
 match i with
 | 0=>exact h
 | 1=>exact h
 | 2=>exact h
 | 3=>exact h
 | 4=>exact h
 | 5=>exact h
 | 6=>exact h
 | 7=>exact h
 | (n+8)=>trivial
def VJt (wR:World) (Bk:Nat) (at_:Option Addr) (cap:Nat) (T:List Nd) (cr ca cs cg:Int) (gw nw cw:Nat) (x y:ByteArray) (md:Int) (r:ByteArray×Int):Nat→Value→World→Prop:=fun i v wv=>match i with
 | 0=>v=.pointer (some ⟨Bk,0,none⟩)
 | 1=>v=.slice at_ T.length cap
 | 2=>v=.pointer (some ⟨Bk,1,none⟩)
 | 3=>v=.agg #[.int .i64 cr,.int .i64 ca,.int .i64 cs,.int .i64 cg]
 | 4=>v=.slice (some ⟨gw,0,none⟩) nw cw
 | 5=>v=.pointer (some ⟨gw,1,none⟩)
 | 6=>v=.string x
 | 7=>v=.tuple #[.string r.1,.int .i64 r.2]
 | 8=>v=.tuple #[.string r.1,.int .i64 r.2]
 | 9=>v=.string r.1
 | 10=>v=.int .i64 r.2
 | 11=>v=.string r.1
 | _=>True
theorem VJt.ext {wR:World} {Bk:Nat} {at_:Option Addr} {cap:Nat} {T:List Nd} {cr ca cs cg:Int} {gw nw cw:Nat} {x y:ByteArray} {md:Int} {r:ByteArray×Int} (i:Nat) (v:Value) (w1 w2:World) (h:VJt wR Bk at_ cap T cr ca cs cg gw nw cw x y md r i v w1) (hE:Ext w1 w2):VJt wR Bk at_ cap T cr ca cs cg gw nw cw x y md r i v w2:=by
 match i with
 | 0=>exact h
 | 1=>exact h
 | 2=>exact h
 | 3=>exact h
 | 4=>exact h
 | 5=>exact h
 | 6=>exact h
 | 7=>exact h
 | 8=>exact h
 | 9=>exact h
 | 10=>exact h
 | 11=>exact h
 | (n+12)=>trivial
def VJn (wR:World) (Bk:Nat) (at_:Option Addr) (cap:Nat) (T:List Nd) (cr ca cs cg:Int) (gw nw cw:Nat) (x y:ByteArray) (md:Int) (r:List ByteArray×Int):Nat→Value→World→Prop:=fun i v wv=>match i with
 | 0=>v=.pointer (some ⟨Bk,0,none⟩)
 | 1=>v=.slice at_ T.length cap
 | 2=>v=.pointer (some ⟨Bk,1,none⟩)
 | 3=>v=.agg #[.int .i64 cr,.int .i64 ca,.int .i64 cs,.int .i64 cg]
 | 4=>v=.slice (some ⟨gw,0,none⟩) nw cw
 | 5=>v=.pointer (some ⟨gw,1,none⟩)
 | 6=>v=.string x
 | 7=>∃u,v=.tuple #[u,.int .i64 r.2]∧Sep wR wv [plRow 9 1 encStr1 u r.1]
 | 8=>∃u,v=.tuple #[u,.int .i64 r.2]∧Sep wR wv [plRow 9 1 encStr1 u r.1]
 | 9=>Sep wR wv [plRow 9 1 encStr1 v r.1]
 | 10=>v=.int .i64 r.2
 | 11=>Sep wR wv [plRow 9 1 encStr1 v r.1]
 | _=>True
theorem VJn.ext {wR:World} {Bk:Nat} {at_:Option Addr} {cap:Nat} {T:List Nd} {cr ca cs cg:Int} {gw nw cw:Nat} {x y:ByteArray} {md:Int} {r:List ByteArray×Int} (i:Nat) (v:Value) (w1 w2:World) (h:VJn wR Bk at_ cap T cr ca cs cg gw nw cw x y md r i v w1) (hE:Ext w1 w2):VJn wR Bk at_ cap T cr ca cs cg gw nw cw x y md r i v w2:=by
 match i with
 | 0=>exact h
 | 1=>exact h
 | 2=>exact h
 | 3=>exact h
 | 4=>exact h
 | 5=>exact h
 | 6=>exact h
 | 7=>obtain⟨u,h0,h1⟩:=h;exact⟨u,h0,h1.step hE⟩
 | 8=>obtain⟨u,h0,h1⟩:=h;exact⟨u,h0,h1.step hE⟩
 | 9=>exact h.step hE
 | 10=>exact h
 | 11=>exact h.step hE
 | (n+12)=>trivial
theorem nil_treeI {w w1:World} (hE:Ext w w1):Sep w w1 [plNd (.slice none 0 0) [] []] :=
 ((Sep.of_ext hE).nil 89 7 encNc).gPure (P:=pinNd) (T:=([]:List Nd)) 0 rfl rfl (fun k s t hs=>by simp at hs) (fun s hs=>by simp at hs)
def RetCh (o:Option (List Nd×Int)) (w:World) (e:Ending) (w':World):Prop:=∃u vs,e=.returned (.tuple #[u,.int .i64 (o.getD ([],1)).2,.bool o.isSome])∧Sep w w' [plNd u vs (o.getD ([],1)).1]
theorem cases2 (a:ByteArray):a=⟨#[119,114,105,116,101]⟩∨a=⟨#[109,111,100,101]⟩∨a=⟨#[108,105,110,107]⟩∨a=⟨#[109,111,118,101]⟩∨(a≠⟨#[119,114,105,116,101]⟩∧a≠⟨#[109,111,100,101]⟩∧a≠⟨#[108,105,110,107]⟩∧a≠⟨#[109,111,118,101]⟩):=by
 by_cases h0:a=⟨#[119,114,105,116,101]⟩
 ·exact .inl h0
 by_cases h1:a=⟨#[109,111,100,101]⟩
 ·exact .inr (.inl h1)
 by_cases h2:a=⟨#[108,105,110,107]⟩
 ·exact .inr (.inr (.inl h2))
 by_cases h3:a=⟨#[109,111,118,101]⟩
 ·exact .inr (.inr (.inr (.inl h3)))
 exact .inr (.inr (.inr (.inr (⟨h0,h1,h2,h3⟩))))
theorem cases3 (a:ByteArray):a=⟨#[102,111,108,100,101,114]⟩∨a=⟨#[102,105,108,101]⟩∨a=⟨#[100,114,111,112]⟩∨(a≠⟨#[102,111,108,100,101,114]⟩∧a≠⟨#[102,105,108,101]⟩∧a≠⟨#[100,114,111,112]⟩):=by
 by_cases h0:a=⟨#[102,111,108,100,101,114]⟩
 ·exact .inl h0
 by_cases h1:a=⟨#[102,105,108,101]⟩
 ·exact .inr (.inl h1)
 by_cases h2:a=⟨#[100,114,111,112]⟩
 ·exact .inr (.inr (.inl h2))
 exact .inr (.inr (.inr (⟨h0,h1,h2⟩)))
theorem casesn (a:ByteArray):a=⟨#[102,111,108,100,101,114]⟩∨a=⟨#[102,105,108,101]⟩∨a=⟨#[100,114,111,112]⟩∨a=⟨#[119,114,105,116,101]⟩∨a=⟨#[109,111,100,101]⟩∨a=⟨#[108,105,110,107]⟩∨a=⟨#[109,111,118,101]⟩∨(a≠⟨#[102,111,108,100,101,114]⟩∧a≠⟨#[102,105,108,101]⟩∧a≠⟨#[100,114,111,112]⟩∧a≠⟨#[119,114,105,116,101]⟩∧a≠⟨#[109,111,100,101]⟩∧a≠⟨#[108,105,110,107]⟩∧a≠⟨#[109,111,118,101]⟩):=by
 by_cases h0:a=⟨#[102,111,108,100,101,114]⟩
 ·exact .inl h0
 by_cases h1:a=⟨#[102,105,108,101]⟩
 ·exact .inr (.inl h1)
 by_cases h2:a=⟨#[100,114,111,112]⟩
 ·exact .inr (.inr (.inl h2))
 by_cases h3:a=⟨#[119,114,105,116,101]⟩
 ·exact .inr (.inr (.inr (.inl h3)))
 by_cases h4:a=⟨#[109,111,100,101]⟩
 ·exact .inr (.inr (.inr (.inr (.inl h4))))
 by_cases h5:a=⟨#[108,105,110,107]⟩
 ·exact .inr (.inr (.inr (.inr (.inr (.inl h5)))))
 by_cases h6:a=⟨#[109,111,118,101]⟩
 ·exact .inr (.inr (.inr (.inr (.inr (.inr (.inl h6))))))
 exact .inr (.inr (.inr (.inr (.inr (.inr (.inr (⟨h0,h1,h2,h3,h4,h5,h6⟩)))))))
theorem ich_2 (at_:Option Addr) (cap:Nat) (T:List Nd) (cr ca cs cg:Int) (gw cw:Nat) (a x:ByteArray) (w:World) (hx:x.size≤1048576) (hl:T.length≤1048576) (hT:∀x∈T,SmN 1048576 x) (hNB:NB 1000000 T) (hc:RdN w at_ T) (hm:MaxG w) (h:a=⟨#[102,111,108,100,101,114]⟩∨a=⟨#[102,105,108,101]⟩∨a=⟨#[100,114,111,112]⟩) (e0:w.cell? ⟨gw,0,none⟩=some (.string a)) (e1:w.cell? ⟨gw,1,none⟩=some (.string x)) :
  Calls Tryz.prog 45 #[.agg #[.slice at_ T.length cap,.int .i64 cr,.int .i64 ca,.int .i64 cs,.int .i64 cg],.slice (some ⟨gw,0,none⟩) 2 cw] w (RetCh (changeF T ⟨cr,ca,cs,cg⟩ [a,x]) w):=by
 have HT:=hd0 hT;have HNB:=hd0 hNB;clear hT hNB
 go_enter Tryz.func45,Tryz.ntmps45
 have S:=Sep.start w;replace S:=S.alloc_at (n:=w.heap.size) (by simp) #[.slice at_ T.length cap,.int .i64 cr,.int .i64 ca,.int .i64 cs,.int .i64 cg] 31
 go_upto_region 1 with fail
 generalize (w.alloc (.cells #[.slice at_ T.length cap,.int .i64 cr,.int .i64 ca,.int .i64 cs,.int .i64 cg] 31))=w7 at *;generalize w.heap.size=Bk at *;replace e0:=cell_ext S.ext e0;replace e1:=cell_ext S.ext e1
 rcases h with h|h|h
 case' inl =>
  have HX:Hid (changeF T ⟨cr,ca,cs,cg⟩ [a,x]=some (makeNode T ⟨cr,ca,cs,cg⟩ x true 493)):=hd0 (by rw[h];exact ch_folder T ⟨cr,ca,cs,cg⟩ x)
  have t0:(a.toList == [102,111,108,100,101,114])=true:=by rw[h,ByteArray.toList_eq];rfl
  clear h;obtain⟨r,hr⟩:∃r,makeNode T ⟨cr,ca,cs,cg⟩ x true 493=r:=⟨_,rfl⟩;rw[hr]at HX
  go_upto_region 3 with fail
  have HF:=hd0 (fun w' (hE:Ext (World.drew w7) w')=>implMakeNode at_ cap T ⟨cr,ca,cs,cg⟩ x true 493 w' hx hl HT.out HNB.out (hc.ext (S.ext.drew.trans hE)) (hm.ext (S.ext.drew.trans hE)));rw[hr]at HF;clear hr;clear e0
 case' inr.inl =>
  have HX:Hid (changeF T ⟨cr,ca,cs,cg⟩ [a,x]=some (makeNode T ⟨cr,ca,cs,cg⟩ x false 420)):=hd0 (by rw[h];exact ch_file T ⟨cr,ca,cs,cg⟩ x)
  have t0:(a.toList == [102,111,108,100,101,114])=false:=by rw[h,ByteArray.toList_eq];rfl
  have t1:(a.toList == [102,105,108,101])=true:=by rw[h,ByteArray.toList_eq];rfl
  clear h;obtain⟨r,hr⟩:∃r,makeNode T ⟨cr,ca,cs,cg⟩ x false 420=r:=⟨_,rfl⟩;rw[hr]at HX
  go_upto_region 6 with fail
  have HF:=hd0 (fun w' (hE:Ext (World.drew w7) w')=>implMakeNode at_ cap T ⟨cr,ca,cs,cg⟩ x false 420 w' hx hl HT.out HNB.out (hc.ext (S.ext.drew.trans hE)) (hm.ext (S.ext.drew.trans hE)));rw[hr]at HF;clear hr;clear e0
 case' inr.inr =>
  have HX:Hid (changeF T ⟨cr,ca,cs,cg⟩ [a,x]=some (dropName T ⟨cr,ca,cs,cg⟩ x)):=hd0 (by rw[h];exact ch_drop T ⟨cr,ca,cs,cg⟩ x)
  have t0:(a.toList == [102,111,108,100,101,114])=false:=by rw[h,ByteArray.toList_eq];rfl
  have t1:(a.toList == [102,105,108,101])=false:=by rw[h,ByteArray.toList_eq];rfl
  have t2:(a.toList == [100,114,111,112])=true:=by rw[h,ByteArray.toList_eq];rfl
  clear h;obtain⟨r,hr⟩:∃r,dropName T ⟨cr,ca,cs,cg⟩ x=r:=⟨_,rfl⟩;rw[hr]at HX
  go_upto_region 9 with fail
  have HF:=hd0 (fun w' (hE:Ext (World.drew w7) w')=>implDropName at_ cap T ⟨cr,ca,cs,cg⟩ x w' hx hl HT.out (hc.ext (S.ext.drew.trans hE)) (hm.ext (S.ext.drew.trans hE)) HNB.out);rw[hr]at HF;clear hr;clear e0
 all_goals
  have S:=S.drew;obtain⟨bkd0,_⟩:=bx (S.box 0 rfl) 0 rfl;obtain⟨bkd1,_⟩:=bx (S.box 0 rfl) 1 rfl;obtain⟨bkd2,_⟩:=bx (S.box 0 rfl) 2 rfl;obtain⟨bkd3,_⟩:=bx (S.box 0 rfl) 3 rfl;obtain⟨bkd4,_⟩:=bx (S.box 0 rfl) 4 rfl;have e1d:=cell_ext (Ext.refl w7).drew e1;have HSd:=hd0 S;clear S;refine wp_region_c (V:=VJ1 (World.drew w7) Bk at_ cap T cr ca cs cg gw 2 cw x x 0 r) (fun wv=>Ext (World.drew w7) wv) (fun _=>none) [] 12 0 rfl (by decide) (by kernel_rfl) (by kernel_rfl) (by kernel_rfl) (by kernel_rfl) (Ext.refl _) (fun r hr=>by omega) ?_ ?_
  ·intro i o hi ho vz w4 hvl hE hd hrest
   match vz,hvl with
   | [y0,y1,y2,y3,y4,y5,y6,y7,y8,y9,y10,y11],_ =>
   rcases lc12 hi with rfl|rfl|rfl|rfl|rfl|rfl|rfl|rfl|rfl|rfl|rfl|rfl
   all_goals
    obtain rfl:=Option.some.inj ho
   all_goals try (clear hd hrest;simp[putAll,Act.put];go_wp2;exact OneC.mk (VJ1.ext) rfl rfl hE (Ext.refl _))
   ·have q0:y0=.pointer (some ⟨Bk,0,none⟩):=hd ⟨0,.data⟩ (by simp) rfl (.inl rfl);have c0:=cell_ext hE bkd0;subst q0;clear hd hrest;simp[putAll,Act.put];go_wp2;exact OneC.mk (VJ1.ext) rfl rfl hE (Ext.refl _)
   ·have q2:y2=.pointer (some ⟨Bk,1,none⟩):=hd ⟨2,.data⟩ (by simp) rfl (.inl rfl);have c1:=cell_ext hE bkd1;have c2:=cell_ext hE bkd2;have c3:=cell_ext hE bkd3;have c4:=cell_ext hE bkd4;subst q2;clear hd hrest;simp[putAll,Act.put];go_wp2;exact OneC.mk (VJ1.ext) rfl rfl hE (Ext.refl _)
   ·have q4:y4=.slice (some ⟨gw,0,none⟩) 2 cw:=hd ⟨4,.data⟩ (by simp) rfl (.inl rfl);subst q4;clear hd hrest;simp[putAll,Act.put];go_wp2;exact OneC.mk (VJ1.ext) rfl rfl hE (Ext.refl _)
   ·have q5:y5=.pointer (some ⟨gw,1,none⟩):=hd ⟨5,.data⟩ (by simp) rfl (.inl rfl);have c1:=cell_ext hE e1d;subst q5;clear hd hrest;simp[putAll,Act.put];go_wp2;exact OneC.mk (VJ1.ext) rfl rfl hE (Ext.refl _)
   ·have q1:y1=.slice at_ T.length cap:=hd ⟨1,.data⟩ (by simp) rfl (.inl rfl);have q3:y3=.agg #[.int .i64 cr,.int .i64 ca,.int .i64 cs,.int .i64 cg]:=hd ⟨3,.data⟩ (by simp) rfl (.inl rfl);have q6:y6=.string x:=hd ⟨6,.data⟩ (by simp) rfl (.inl rfl);have HC:=hd0 (HF.out w4 hE);subst q1 q3 q6;clear hd hrest;simp[putAll,Act.put]
    go_wp2_with fail
    refine HC.out.mono ?_;rintro e w5 ⟨u5,v5,rfl,S5⟩;have S6:=S5.since hE;have hE5:=S5.ext;clear HC S5;go_wp2;exact OneC.mk (VJ1.ext) rfl ⟨_,_,rfl,S6⟩ (hE.trans hE5) hE5
   ·obtain⟨u5,v5,q7,S5⟩:∃u vs,y7=.tuple #[u,.int .i64 r.2]∧Sep (World.drew w7) w4 [plNd u vs r.1]:=hd ⟨7,.data⟩ (by simp) rfl (.inl rfl);have HS5:=hd0 S5;subst q7;clear hd hrest S5;simp[putAll,Act.put];go_wp2;exact OneC.mk (VJ1.ext) rfl ⟨_,_,rfl,HS5.out⟩ hE (Ext.refl _)
   ·obtain⟨u5,v5,q8,S5⟩:∃u vs,y8=.tuple #[u,.int .i64 r.2]∧Sep (World.drew w7) w4 [plNd u vs r.1]:=hd ⟨8,.data⟩ (by simp) rfl (.inl rfl);have HS5:=hd0 S5;subst q8;clear hd hrest S5;simp[putAll,Act.put];go_wp2;exact OneC.mk (VJ1.ext) rfl ⟨_,HS5.out⟩ hE (Ext.refl _)
   ·obtain⟨u5,v5,q8,S5⟩:∃u vs,y8=.tuple #[u,.int .i64 r.2]∧Sep (World.drew w7) w4 [plNd u vs r.1]:=hd ⟨8,.data⟩ (by simp) rfl (.inl rfl);have HS5:=hd0 S5;subst q8;clear hd hrest S5;simp[putAll,Act.put];go_wp2;exact OneC.mk (VJ1.ext) rfl rfl hE (Ext.refl _)
   ·obtain⟨v5,S5⟩:∃vs,Sep (World.drew w7) w4 [plNd y9 vs r.1]:=hd ⟨9,.data⟩ (by simp) rfl (.inl rfl);have HS5:=hd0 S5;clear hd hrest S5;simp[putAll,Act.put];go_wp2;exact OneC.mk (VJ1.ext) rfl ⟨_,HS5.out⟩ hE (Ext.refl _)
  intro vz w8 hvl hE hV _
  match vz,hvl with
  | [y0,y1,y2,y3,y4,y5,y6,y7,y8,y9,y10,y11],_ =>
  have q10:y10=.int .i64 r.2:=hV 10 (by omega) rfl;obtain⟨v8,S8⟩:∃vs,Sep (World.drew w7) w8 [plNd y11 vs r.1]:=hV 11 (by omega) rfl;subst q10;clear hV hvl bkd0 bkd1 bkd2 bkd3 bkd4 e1d;simp only[putAll,Act.put,List.take_succ_cons,List.take_zero,List.drop_succ_cons,List.drop_zero];simp;clear HF hE;have S:=HSd.out.call S8;obtain⟨ua,uc,rfl,_,_⟩:=nd_view (S8.at_ 0 rfl);clear HSd S8;have S:Sep w w8 [plNd (.slice ua r.1.length uc) v8 r.1,plBox Bk #[.slice at_ T.length cap,.int .i64 cr,.int .i64 ca,.int .i64 cs,.int .i64 cg] 31]:=S;go_wp2;refine bodyPost_ret (v:=.tuple #[.slice ua r.1.length uc,.int .i64 r.2,.bool true]) (by simp[results,Tryz.results45,go_sem]) rfl ?_;rw[HX.out];replace S:Sep w w8 [plNd (.slice ua r.1.length uc) v8 r.1]:=S.drop 1;exact⟨_,v8,rfl,S⟩
theorem ich_3 (at_:Option Addr) (cap:Nat) (T:List Nd) (cr ca cs cg:Int) (gw cw:Nat) (a x y:ByteArray) (w:World) (hx:x.size≤1048576) (hy:y.size≤1048576) (hl:T.length≤1048576) (hT:∀x∈T,SmN 1048576 x) (hNB:NB 1000000 T) (hc:RdN w at_ T) (hm:MaxG w) (h:a=⟨#[119,114,105,116,101]⟩∨a=⟨#[108,105,110,107]⟩∨a=⟨#[109,111,118,101]⟩) (e0:w.cell? ⟨gw,0,none⟩=some (.string a)) (e1:w.cell? ⟨gw,1,none⟩=some (.string x)) (e2:w.cell? ⟨gw,2,none⟩=some (.string y)) :
  Calls Tryz.prog 45 #[.agg #[.slice at_ T.length cap,.int .i64 cr,.int .i64 ca,.int .i64 cs,.int .i64 cg],.slice (some ⟨gw,0,none⟩) 3 cw] w (RetCh (changeF T ⟨cr,ca,cs,cg⟩ [a,x,y]) w):=by
 have HT:=hd0 hT;have HNB:=hd0 hNB;clear hT hNB
 go_enter Tryz.func45,Tryz.ntmps45
 have S:=Sep.start w;replace S:=S.alloc_at (n:=w.heap.size) (by simp) #[.slice at_ T.length cap,.int .i64 cr,.int .i64 ca,.int .i64 cs,.int .i64 cg] 31
 go_upto_region 1 with fail
 generalize (w.alloc (.cells #[.slice at_ T.length cap,.int .i64 cr,.int .i64 ca,.int .i64 cs,.int .i64 cg] 31))=w7 at *;generalize w.heap.size=Bk at *;replace e0:=cell_ext S.ext e0;replace e1:=cell_ext S.ext e1;replace e2:=cell_ext S.ext e2
 rcases h with h|h|h
 case' inl =>
  have HX:Hid (changeF T ⟨cr,ca,cs,cg⟩ [a,x,y]=some (writeFile T ⟨cr,ca,cs,cg⟩ x y)):=hd0 (by rw[h];exact ch_write T ⟨cr,ca,cs,cg⟩ x y)
  have t0:(a.toList == [102,111,108,100,101,114])=false:=by rw[h,ByteArray.toList_eq];rfl
  have t1:(a.toList == [102,105,108,101])=false:=by rw[h,ByteArray.toList_eq];rfl
  have t2:(a.toList == [100,114,111,112])=false:=by rw[h,ByteArray.toList_eq];rfl
  have t3:(a.toList == [119,114,105,116,101])=true:=by rw[h,ByteArray.toList_eq];rfl
  clear h;obtain⟨r,hr⟩:∃r,writeFile T ⟨cr,ca,cs,cg⟩ x y=r:=⟨_,rfl⟩;rw[hr]at HX
  go_upto_region 12 with fail
  have HF:=hd0 (fun w' (hE:Ext (World.drew w7) w')=>implWriteFile at_ cap T ⟨cr,ca,cs,cg⟩ x y w' hx hl HT.out (hc.ext (S.ext.drew.trans hE)) (hm.ext (S.ext.drew.trans hE)));rw[hr]at HF;clear hr;clear e0
 case' inr.inl =>
  have HX:Hid (changeF T ⟨cr,ca,cs,cg⟩ [a,x,y]=some (linkName T ⟨cr,ca,cs,cg⟩ x y)):=hd0 (by rw[h];exact ch_link T ⟨cr,ca,cs,cg⟩ x y)
  have t0:(a.toList == [102,111,108,100,101,114])=false:=by rw[h,ByteArray.toList_eq];rfl
  have t1:(a.toList == [102,105,108,101])=false:=by rw[h,ByteArray.toList_eq];rfl
  have t2:(a.toList == [100,114,111,112])=false:=by rw[h,ByteArray.toList_eq];rfl
  have t3:(a.toList == [119,114,105,116,101])=false:=by rw[h,ByteArray.toList_eq];rfl
  have t4:(a.toList == [109,111,100,101])=false:=by rw[h,ByteArray.toList_eq];rfl
  have t5:(a.toList == [108,105,110,107])=true:=by rw[h,ByteArray.toList_eq];rfl
  clear h;obtain⟨r,hr⟩:∃r,linkName T ⟨cr,ca,cs,cg⟩ x y=r:=⟨_,rfl⟩;rw[hr]at HX
  go_upto_region 21 with fail
  have HF:=hd0 (fun w' (hE:Ext (World.drew w7) w')=>implLinkName at_ cap T ⟨cr,ca,cs,cg⟩ x y w' hx hy hl HT.out HNB.out (hc.ext (S.ext.drew.trans hE)) (hm.ext (S.ext.drew.trans hE)));rw[hr]at HF;clear hr;clear e0
 case' inr.inr =>
  have HX:Hid (changeF T ⟨cr,ca,cs,cg⟩ [a,x,y]=some (moveName T ⟨cr,ca,cs,cg⟩ x y)):=hd0 (by rw[h];exact ch_move T ⟨cr,ca,cs,cg⟩ x y)
  have t0:(a.toList == [102,111,108,100,101,114])=false:=by rw[h,ByteArray.toList_eq];rfl
  have t1:(a.toList == [102,105,108,101])=false:=by rw[h,ByteArray.toList_eq];rfl
  have t2:(a.toList == [100,114,111,112])=false:=by rw[h,ByteArray.toList_eq];rfl
  have t3:(a.toList == [119,114,105,116,101])=false:=by rw[h,ByteArray.toList_eq];rfl
  have t4:(a.toList == [109,111,100,101])=false:=by rw[h,ByteArray.toList_eq];rfl
  have t5:(a.toList == [108,105,110,107])=false:=by rw[h,ByteArray.toList_eq];rfl
  have t6:(a.toList == [109,111,118,101])=true:=by rw[h,ByteArray.toList_eq];rfl
  clear h;obtain⟨r,hr⟩:∃r,moveName T ⟨cr,ca,cs,cg⟩ x y=r:=⟨_,rfl⟩;rw[hr]at HX
  go_upto_region 24 with fail
  have HF:=hd0 (fun w' (hE:Ext (World.drew w7) w')=>implMoveName at_ cap T ⟨cr,ca,cs,cg⟩ x y w' hx hy hl HT.out HNB.out (hc.ext (S.ext.drew.trans hE)) (hm.ext (S.ext.drew.trans hE)));rw[hr]at HF;clear hr;clear e0
 all_goals
  have S:=S.drew;obtain⟨bkd0,_⟩:=bx (S.box 0 rfl) 0 rfl;obtain⟨bkd1,_⟩:=bx (S.box 0 rfl) 1 rfl;obtain⟨bkd2,_⟩:=bx (S.box 0 rfl) 2 rfl;obtain⟨bkd3,_⟩:=bx (S.box 0 rfl) 3 rfl;obtain⟨bkd4,_⟩:=bx (S.box 0 rfl) 4 rfl;have e1d:=cell_ext (Ext.refl w7).drew e1;have e2d:=cell_ext (Ext.refl w7).drew e2;have HSd:=hd0 S;clear S;refine wp_region_c (V:=VJ2 (World.drew w7) Bk at_ cap T cr ca cs cg gw 3 cw x y 0 r) (fun wv=>Ext (World.drew w7) wv) (fun _=>none) [] 15 0 rfl (by decide) (by kernel_rfl) (by kernel_rfl) (by kernel_rfl) (by kernel_rfl) (Ext.refl _) (fun r hr=>by omega) ?_ ?_
  ·intro i o hi ho vz w4 hvl hE hd hrest
   match vz,hvl with
   | [y0,y1,y2,y3,y4,y5,y6,y7,y8,y9,y10,y11,y12,y13,y14],_ =>
   rcases lc15 hi with rfl|rfl|rfl|rfl|rfl|rfl|rfl|rfl|rfl|rfl|rfl|rfl|rfl|rfl|rfl
   all_goals
    obtain rfl:=Option.some.inj ho
   all_goals try (clear hd hrest;simp[putAll,Act.put];go_wp2;exact OneC.mk (VJ2.ext) rfl rfl hE (Ext.refl _))
   ·have q0:y0=.pointer (some ⟨Bk,0,none⟩):=hd ⟨0,.data⟩ (by simp) rfl (.inl rfl);have c0:=cell_ext hE bkd0;subst q0;clear hd hrest;simp[putAll,Act.put];go_wp2;exact OneC.mk (VJ2.ext) rfl rfl hE (Ext.refl _)
   ·have q2:y2=.pointer (some ⟨Bk,1,none⟩):=hd ⟨2,.data⟩ (by simp) rfl (.inl rfl);have c1:=cell_ext hE bkd1;have c2:=cell_ext hE bkd2;have c3:=cell_ext hE bkd3;have c4:=cell_ext hE bkd4;subst q2;clear hd hrest;simp[putAll,Act.put];go_wp2;exact OneC.mk (VJ2.ext) rfl rfl hE (Ext.refl _)
   ·have q4:y4=.slice (some ⟨gw,0,none⟩) 3 cw:=hd ⟨4,.data⟩ (by simp) rfl (.inl rfl);subst q4;clear hd hrest;simp[putAll,Act.put];go_wp2;exact OneC.mk (VJ2.ext) rfl rfl hE (Ext.refl _)
   ·have q5:y5=.pointer (some ⟨gw,1,none⟩):=hd ⟨5,.data⟩ (by simp) rfl (.inl rfl);have c1:=cell_ext hE e1d;subst q5;clear hd hrest;simp[putAll,Act.put];go_wp2;exact OneC.mk (VJ2.ext) rfl rfl hE (Ext.refl _)
   ·have q7:y7=.slice (some ⟨gw,0,none⟩) 3 cw:=hd ⟨7,.data⟩ (by simp) rfl (.inl rfl);subst q7;clear hd hrest;simp[putAll,Act.put];go_wp2;exact OneC.mk (VJ2.ext) rfl rfl hE (Ext.refl _)
   ·have q8:y8=.pointer (some ⟨gw,2,none⟩):=hd ⟨8,.data⟩ (by simp) rfl (.inl rfl);have c1:=cell_ext hE e2d;subst q8;clear hd hrest;simp[putAll,Act.put];go_wp2;exact OneC.mk (VJ2.ext) rfl rfl hE (Ext.refl _)
   ·have q1:y1=.slice at_ T.length cap:=hd ⟨1,.data⟩ (by simp) rfl (.inl rfl);have q3:y3=.agg #[.int .i64 cr,.int .i64 ca,.int .i64 cs,.int .i64 cg]:=hd ⟨3,.data⟩ (by simp) rfl (.inl rfl);have q6:y6=.string x:=hd ⟨6,.data⟩ (by simp) rfl (.inl rfl);have q9:y9=.string y:=hd ⟨9,.data⟩ (by simp) rfl (.inl rfl);have HC:=hd0 (HF.out w4 hE);subst q1 q3 q6 q9;clear hd hrest;simp[putAll,Act.put]
    go_wp2_with fail
    refine HC.out.mono ?_;rintro e w5 ⟨u5,v5,rfl,S5⟩;have S6:=S5.since hE;have hE5:=S5.ext;clear HC S5;go_wp2;exact OneC.mk (VJ2.ext) rfl ⟨_,_,rfl,S6⟩ (hE.trans hE5) hE5
   ·obtain⟨u5,v5,q10,S5⟩:∃u vs,y10=.tuple #[u,.int .i64 r.2]∧Sep (World.drew w7) w4 [plNd u vs r.1]:=hd ⟨10,.data⟩ (by simp) rfl (.inl rfl);have HS5:=hd0 S5;subst q10;clear hd hrest S5;simp[putAll,Act.put];go_wp2;exact OneC.mk (VJ2.ext) rfl ⟨_,_,rfl,HS5.out⟩ hE (Ext.refl _)
   ·obtain⟨u5,v5,q11,S5⟩:∃u vs,y11=.tuple #[u,.int .i64 r.2]∧Sep (World.drew w7) w4 [plNd u vs r.1]:=hd ⟨11,.data⟩ (by simp) rfl (.inl rfl);have HS5:=hd0 S5;subst q11;clear hd hrest S5;simp[putAll,Act.put];go_wp2;exact OneC.mk (VJ2.ext) rfl ⟨_,HS5.out⟩ hE (Ext.refl _)
   ·obtain⟨u5,v5,q11,S5⟩:∃u vs,y11=.tuple #[u,.int .i64 r.2]∧Sep (World.drew w7) w4 [plNd u vs r.1]:=hd ⟨11,.data⟩ (by simp) rfl (.inl rfl);have HS5:=hd0 S5;subst q11;clear hd hrest S5;simp[putAll,Act.put];go_wp2;exact OneC.mk (VJ2.ext) rfl rfl hE (Ext.refl _)
   ·obtain⟨v5,S5⟩:∃vs,Sep (World.drew w7) w4 [plNd y12 vs r.1]:=hd ⟨12,.data⟩ (by simp) rfl (.inl rfl);have HS5:=hd0 S5;clear hd hrest S5;simp[putAll,Act.put];go_wp2;exact OneC.mk (VJ2.ext) rfl ⟨_,HS5.out⟩ hE (Ext.refl _)
  intro vz w8 hvl hE hV _
  match vz,hvl with
  | [y0,y1,y2,y3,y4,y5,y6,y7,y8,y9,y10,y11,y12,y13,y14],_ =>
  have q13:y13=.int .i64 r.2:=hV 13 (by omega) rfl;obtain⟨v8,S8⟩:∃vs,Sep (World.drew w7) w8 [plNd y14 vs r.1]:=hV 14 (by omega) rfl;subst q13;clear hV hvl bkd0 bkd1 bkd2 bkd3 bkd4 e1d e2d;simp only[putAll,Act.put,List.take_succ_cons,List.take_zero,List.drop_succ_cons,List.drop_zero];simp;clear HF hE;have S:=HSd.out.call S8;obtain⟨ua,uc,rfl,_,_⟩:=nd_view (S8.at_ 0 rfl);clear HSd S8;have S:Sep w w8 [plNd (.slice ua r.1.length uc) v8 r.1,plBox Bk #[.slice at_ T.length cap,.int .i64 cr,.int .i64 ca,.int .i64 cs,.int .i64 cg] 31]:=S;go_wp2;refine bodyPost_ret (v:=.tuple #[.slice ua r.1.length uc,.int .i64 r.2,.bool true]) (by simp[results,Tryz.results45,go_sem]) rfl ?_;rw[HX.out];replace S:Sep w w8 [plNd (.slice ua r.1.length uc) v8 r.1]:=S.drop 1;exact⟨_,v8,rfl,S⟩
theorem ich_mode (at_:Option Addr) (cap:Nat) (T:List Nd) (cr ca cs cg:Int) (gw cw:Nat) (x y:ByteArray) (w:World) (hx:x.size≤1048576) (hy:y.size≤1048576) (hl:T.length≤1048576) (hT:∀x∈T,SmN 1048576 x) (hNB:NB 1000000 T) (hc:RdN w at_ T) (hm:MaxG w) (e0:w.cell? ⟨gw,0,none⟩=some (.string ⟨#[109,111,100,101]⟩)) (e1:w.cell? ⟨gw,1,none⟩=some (.string x)) (e2:w.cell? ⟨gw,2,none⟩=some (.string y)) :
  Calls Tryz.prog 45 #[.agg #[.slice at_ T.length cap,.int .i64 cr,.int .i64 ca,.int .i64 cs,.int .i64 cg],.slice (some ⟨gw,0,none⟩) 3 cw] w (RetCh (changeF T ⟨cr,ca,cs,cg⟩ [⟨#[109,111,100,101]⟩,x,y]) w):=by
 have HM:=hd0 (ch_mode T ⟨cr,ca,cs,cg⟩ x y);obtain⟨r,hr⟩:∃r,readMode y=r:=⟨_,rfl⟩;rw[hr]at HM;have HT:=hd0 hT;have HNB:=hd0 hNB;clear hT hNB
 go_enter Tryz.func45,Tryz.ntmps45
 have S:=Sep.start w;replace S:=S.alloc_at (n:=w.heap.size) (by simp) #[.slice at_ T.length cap,.int .i64 cr,.int .i64 ca,.int .i64 cs,.int .i64 cg] 31
 go_upto_region 1 with fail
 generalize (w.alloc (.cells #[.slice at_ T.length cap,.int .i64 cr,.int .i64 ca,.int .i64 cs,.int .i64 cg] 31))=w7 at *;generalize w.heap.size=Bk at *;replace e0:=cell_ext S.ext e0;replace e1:=cell_ext S.ext e1;replace e2:=cell_ext S.ext e2
 go_upto_region 15 with fail
 have HF:=hd0 (implReadMode y w7);rw[hr]at HF;clear hr;obtain⟨md,ok⟩:=r;dsimp only at HM HF
 go_wp2_with fail
 refine HF.out.mono ?_;rintro e wm ⟨rfl,hE⟩;replace e1:=cell_ext hE e1;clear HF e0 e2;replace S:=S.step hE;clear hE
 cases ok with
 | false =>
  have HX:=hd0 (HM.out.trans (if_neg (by decide)));clear HM;go_wp2;refine bodyPost_ret (v:=.tuple #[.slice none 0 0,.int .i64 1,.bool true]) (by simp[results,Tryz.results45,go_sem]) rfl ?_;rw[HX.out];exact⟨_,[],rfl,nil_treeI S.ext⟩
 | true =>
  have HX:=hd0 (HM.out.trans (if_pos rfl));clear HM;obtain⟨r,hr⟩:∃r,changeMode T ⟨cr,ca,cs,cg⟩ x md=r:=⟨_,rfl⟩;rw[hr]at HX
  go_upto_region 18 with fail
  have HF:=hd0 (fun w' (hE:Ext (World.drew wm) w')=>implChangeMode at_ cap T ⟨cr,ca,cs,cg⟩ x md w' hx hl HT.out (hc.ext (S.ext.drew.trans hE)) (hm.ext (S.ext.drew.trans hE)));rw[hr]at HF;clear hr;have S:=S.drew;obtain⟨bkd0,_⟩:=bx (S.box 0 rfl) 0 rfl;obtain⟨bkd1,_⟩:=bx (S.box 0 rfl) 1 rfl;obtain⟨bkd2,_⟩:=bx (S.box 0 rfl) 2 rfl;obtain⟨bkd3,_⟩:=bx (S.box 0 rfl) 3 rfl;obtain⟨bkd4,_⟩:=bx (S.box 0 rfl) 4 rfl;have e1d:=cell_ext (Ext.refl wm).drew e1;have HSd:=hd0 S;clear S;refine wp_region_c (V:=VJm (World.drew wm) Bk at_ cap T cr ca cs cg gw 3 cw x x md r) (fun wv=>Ext (World.drew wm) wv) (fun _=>none) [] 13 0 rfl (by decide) (by kernel_rfl) (by kernel_rfl) (by kernel_rfl) (by kernel_rfl) (Ext.refl _) (fun r hr=>by omega) ?_ ?_
  ·intro i o hi ho vz w4 hvl hE hd hrest
   match vz,hvl with
   | [y0,y1,y2,y3,y4,y5,y6,y7,y8,y9,y10,y11,y12],_ =>
   rcases lc13 hi with rfl|rfl|rfl|rfl|rfl|rfl|rfl|rfl|rfl|rfl|rfl|rfl|rfl
   all_goals
    obtain rfl:=Option.some.inj ho
   all_goals try (clear hd hrest;simp[putAll,Act.put];go_wp2;exact OneC.mk (VJm.ext) rfl rfl hE (Ext.refl _))
   ·have q0:y0=.pointer (some ⟨Bk,0,none⟩):=hd ⟨0,.data⟩ (by simp) rfl (.inl rfl);have c0:=cell_ext hE bkd0;subst q0;clear hd hrest;simp[putAll,Act.put];go_wp2;exact OneC.mk (VJm.ext) rfl rfl hE (Ext.refl _)
   ·have q2:y2=.pointer (some ⟨Bk,1,none⟩):=hd ⟨2,.data⟩ (by simp) rfl (.inl rfl);have c1:=cell_ext hE bkd1;have c2:=cell_ext hE bkd2;have c3:=cell_ext hE bkd3;have c4:=cell_ext hE bkd4;subst q2;clear hd hrest;simp[putAll,Act.put];go_wp2;exact OneC.mk (VJm.ext) rfl rfl hE (Ext.refl _)
   ·have q4:y4=.slice (some ⟨gw,0,none⟩) 3 cw:=hd ⟨4,.data⟩ (by simp) rfl (.inl rfl);subst q4;clear hd hrest;simp[putAll,Act.put];go_wp2;exact OneC.mk (VJm.ext) rfl rfl hE (Ext.refl _)
   ·have q5:y5=.pointer (some ⟨gw,1,none⟩):=hd ⟨5,.data⟩ (by simp) rfl (.inl rfl);have c1:=cell_ext hE e1d;subst q5;clear hd hrest;simp[putAll,Act.put];go_wp2;exact OneC.mk (VJm.ext) rfl rfl hE (Ext.refl _)
   ·have q1:y1=.slice at_ T.length cap:=hd ⟨1,.data⟩ (by simp) rfl (.inl rfl);have q3:y3=.agg #[.int .i64 cr,.int .i64 ca,.int .i64 cs,.int .i64 cg]:=hd ⟨3,.data⟩ (by simp) rfl (.inl rfl);have q6:y6=.string x:=hd ⟨6,.data⟩ (by simp) rfl (.inl rfl);have q7:y7=.int .i64 md:=hd ⟨7,.data⟩ (by simp) rfl (.inl rfl);have HC:=hd0 (HF.out w4 hE);subst q1 q3 q6 q7;clear hd hrest;simp[putAll,Act.put]
    go_wp2_with fail
    refine HC.out.mono ?_;rintro e w5 ⟨u5,v5,rfl,S5⟩;have S6:=S5.since hE;have hE5:=S5.ext;clear HC S5;go_wp2;exact OneC.mk (VJm.ext) rfl ⟨_,_,rfl,S6⟩ (hE.trans hE5) hE5
   ·obtain⟨u5,v5,q8,S5⟩:∃u vs,y8=.tuple #[u,.int .i64 r.2]∧Sep (World.drew wm) w4 [plNd u vs r.1]:=hd ⟨8,.data⟩ (by simp) rfl (.inl rfl);have HS5:=hd0 S5;subst q8;clear hd hrest S5;simp[putAll,Act.put];go_wp2;exact OneC.mk (VJm.ext) rfl ⟨_,_,rfl,HS5.out⟩ hE (Ext.refl _)
   ·obtain⟨u5,v5,q9,S5⟩:∃u vs,y9=.tuple #[u,.int .i64 r.2]∧Sep (World.drew wm) w4 [plNd u vs r.1]:=hd ⟨9,.data⟩ (by simp) rfl (.inl rfl);have HS5:=hd0 S5;subst q9;clear hd hrest S5;simp[putAll,Act.put];go_wp2;exact OneC.mk (VJm.ext) rfl ⟨_,HS5.out⟩ hE (Ext.refl _)
   ·obtain⟨u5,v5,q9,S5⟩:∃u vs,y9=.tuple #[u,.int .i64 r.2]∧Sep (World.drew wm) w4 [plNd u vs r.1]:=hd ⟨9,.data⟩ (by simp) rfl (.inl rfl);have HS5:=hd0 S5;subst q9;clear hd hrest S5;simp[putAll,Act.put];go_wp2;exact OneC.mk (VJm.ext) rfl rfl hE (Ext.refl _)
   ·obtain⟨v5,S5⟩:∃vs,Sep (World.drew wm) w4 [plNd y10 vs r.1]:=hd ⟨10,.data⟩ (by simp) rfl (.inl rfl);have HS5:=hd0 S5;clear hd hrest S5;simp[putAll,Act.put];go_wp2;exact OneC.mk (VJm.ext) rfl ⟨_,HS5.out⟩ hE (Ext.refl _)
  intro vz w8 hvl hE hV _
  match vz,hvl with
  | [y0,y1,y2,y3,y4,y5,y6,y7,y8,y9,y10,y11,y12],_ =>
  have q11:y11=.int .i64 r.2:=hV 11 (by omega) rfl;obtain⟨v8,S8⟩:∃vs,Sep (World.drew wm) w8 [plNd y12 vs r.1]:=hV 12 (by omega) rfl;subst q11;clear hV hvl bkd0 bkd1 bkd2 bkd3 bkd4 e1d;simp only[putAll,Act.put,List.take_succ_cons,List.take_zero,List.drop_succ_cons,List.drop_zero];simp;clear HF hE;have S:=HSd.out.call S8;obtain⟨ua,uc,rfl,_,_⟩:=nd_view (S8.at_ 0 rfl);clear HSd S8;have S:Sep w w8 [plNd (.slice ua r.1.length uc) v8 r.1,plBox Bk #[.slice at_ T.length cap,.int .i64 cr,.int .i64 ca,.int .i64 cs,.int .i64 cg] 31]:=S;go_wp2;refine bodyPost_ret (v:=.tuple #[.slice ua r.1.length uc,.int .i64 r.2,.bool true]) (by simp[results,Tryz.results45,go_sem]) rfl ?_;rw[HX.out];replace S:Sep w w8 [plNd (.slice ua r.1.length uc) v8 r.1]:=S.drop 1;exact⟨_,v8,rfl,S⟩
theorem ich2_no (at_:Option Addr) (cap:Nat) (T:List Nd) (cr ca cs cg:Int) (gw cw:Nat) (a x:ByteArray) (w:World) (hx:x.size≤1048576) (hl:T.length≤1048576) (hT:∀x∈T,SmN 1048576 x) (hNB:NB 1000000 T) (hc:RdN w at_ T) (hm:MaxG w) (h_folder:a≠⟨#[102,111,108,100,101,114]⟩) (h_file:a≠⟨#[102,105,108,101]⟩) (h_drop:a≠⟨#[100,114,111,112]⟩) (e0:w.cell? ⟨gw,0,none⟩=some (.string a)) (e1:w.cell? ⟨gw,1,none⟩=some (.string x)) :
  Calls Tryz.prog 45 #[.agg #[.slice at_ T.length cap,.int .i64 cr,.int .i64 ca,.int .i64 cs,.int .i64 cg],.slice (some ⟨gw,0,none⟩) 2 cw] w (RetCh (changeF T ⟨cr,ca,cs,cg⟩ [a,x]) w):=by
 have HX:=hd0 (ch_two T ⟨cr,ca,cs,cg⟩ x h_folder h_file h_drop);have u0:(a.toList == [102,111,108,100,101,114])=false:=Bool.eq_false_iff.2 (fun h=>h_folder (bytes_eq.1 (by rw[eq_of_beq h,ByteArray.toList_eq])));have u1:(a.toList == [102,105,108,101])=false:=Bool.eq_false_iff.2 (fun h=>h_file (bytes_eq.1 (by rw[eq_of_beq h,ByteArray.toList_eq])));have u2:(a.toList == [100,114,111,112])=false:=Bool.eq_false_iff.2 (fun h=>h_drop (bytes_eq.1 (by rw[eq_of_beq h,ByteArray.toList_eq])));clear h_folder h_file h_drop;have HT:=hd0 hT;have HNB:=hd0 hNB;clear hT hNB
 go_enter Tryz.func45,Tryz.ntmps45
 have S:=Sep.start w;replace S:=S.alloc_at (n:=w.heap.size) (by simp) #[.slice at_ T.length cap,.int .i64 cr,.int .i64 ca,.int .i64 cs,.int .i64 cg] 31
 go_upto_region 1 with fail
 generalize (w.alloc (.cells #[.slice at_ T.length cap,.int .i64 cr,.int .i64 ca,.int .i64 cs,.int .i64 cg] 31))=w7 at *;generalize w.heap.size=Bk at *;replace e0:=cell_ext S.ext e0;replace e1:=cell_ext S.ext e1
 rcases cases2 a with h|h|h|h|h
 case' inl =>
  have t0:(a.toList == [119,114,105,116,101])=true:=by rw[h,ByteArray.toList_eq];rfl
  have t1:(a.toList == [109,111,100,101])=false:=by rw[h,ByteArray.toList_eq];rfl
  have t2:(a.toList == [108,105,110,107])=false:=by rw[h,ByteArray.toList_eq];rfl
  have t3:(a.toList == [109,111,118,101])=false:=by rw[h,ByteArray.toList_eq];rfl
  clear h
 case' inr.inl =>
  have t0:(a.toList == [119,114,105,116,101])=false:=by rw[h,ByteArray.toList_eq];rfl
  have t1:(a.toList == [109,111,100,101])=true:=by rw[h,ByteArray.toList_eq];rfl
  have t2:(a.toList == [108,105,110,107])=false:=by rw[h,ByteArray.toList_eq];rfl
  have t3:(a.toList == [109,111,118,101])=false:=by rw[h,ByteArray.toList_eq];rfl
  clear h
 case' inr.inr.inl =>
  have t0:(a.toList == [119,114,105,116,101])=false:=by rw[h,ByteArray.toList_eq];rfl
  have t1:(a.toList == [109,111,100,101])=false:=by rw[h,ByteArray.toList_eq];rfl
  have t2:(a.toList == [108,105,110,107])=true:=by rw[h,ByteArray.toList_eq];rfl
  have t3:(a.toList == [109,111,118,101])=false:=by rw[h,ByteArray.toList_eq];rfl
  clear h
 case' inr.inr.inr.inl =>
  have t0:(a.toList == [119,114,105,116,101])=false:=by rw[h,ByteArray.toList_eq];rfl
  have t1:(a.toList == [109,111,100,101])=false:=by rw[h,ByteArray.toList_eq];rfl
  have t2:(a.toList == [108,105,110,107])=false:=by rw[h,ByteArray.toList_eq];rfl
  have t3:(a.toList == [109,111,118,101])=true:=by rw[h,ByteArray.toList_eq];rfl
  clear h
 case' inr.inr.inr.inr =>
  obtain⟨h_write,h_mode,h_link,h_move⟩:=h;have t0:(a.toList == [119,114,105,116,101])=false:=Bool.eq_false_iff.2 (fun h=>h_write (bytes_eq.1 (by rw[eq_of_beq h,ByteArray.toList_eq])));have t1:(a.toList == [109,111,100,101])=false:=Bool.eq_false_iff.2 (fun h=>h_mode (bytes_eq.1 (by rw[eq_of_beq h,ByteArray.toList_eq])));have t2:(a.toList == [108,105,110,107])=false:=Bool.eq_false_iff.2 (fun h=>h_link (bytes_eq.1 (by rw[eq_of_beq h,ByteArray.toList_eq])));have t3:(a.toList == [109,111,118,101])=false:=Bool.eq_false_iff.2 (fun h=>h_move (bytes_eq.1 (by rw[eq_of_beq h,ByteArray.toList_eq])));clear h_write h_mode h_link h_move
 all_goals
  go_wp2;refine bodyPost_ret (v:=.tuple #[.slice none 0 0,.int .i64 1,.bool false]) (by simp[results,Tryz.results45,go_sem]) rfl ?_;rw[HX.out];exact⟨_,[],rfl,nil_treeI S.ext⟩
theorem ich3_no (at_:Option Addr) (cap:Nat) (T:List Nd) (cr ca cs cg:Int) (gw cw:Nat) (a x y:ByteArray) (w:World) (hx:x.size≤1048576) (hy:y.size≤1048576) (hl:T.length≤1048576) (hT:∀x∈T,SmN 1048576 x) (hNB:NB 1000000 T) (hc:RdN w at_ T) (hm:MaxG w) (h_write:a≠⟨#[119,114,105,116,101]⟩) (h_mode:a≠⟨#[109,111,100,101]⟩) (h_link:a≠⟨#[108,105,110,107]⟩) (h_move:a≠⟨#[109,111,118,101]⟩) (e0:w.cell? ⟨gw,0,none⟩=some (.string a)) (e1:w.cell? ⟨gw,1,none⟩=some (.string x)) (e2:w.cell? ⟨gw,2,none⟩=some (.string y)) :
  Calls Tryz.prog 45 #[.agg #[.slice at_ T.length cap,.int .i64 cr,.int .i64 ca,.int .i64 cs,.int .i64 cg],.slice (some ⟨gw,0,none⟩) 3 cw] w (RetCh (changeF T ⟨cr,ca,cs,cg⟩ [a,x,y]) w):=by
 have HX:=hd0 (ch_three T ⟨cr,ca,cs,cg⟩ x y h_write h_mode h_link h_move);have u0:(a.toList == [119,114,105,116,101])=false:=Bool.eq_false_iff.2 (fun h=>h_write (bytes_eq.1 (by rw[eq_of_beq h,ByteArray.toList_eq])));have u1:(a.toList == [109,111,100,101])=false:=Bool.eq_false_iff.2 (fun h=>h_mode (bytes_eq.1 (by rw[eq_of_beq h,ByteArray.toList_eq])));have u2:(a.toList == [108,105,110,107])=false:=Bool.eq_false_iff.2 (fun h=>h_link (bytes_eq.1 (by rw[eq_of_beq h,ByteArray.toList_eq])));have u3:(a.toList == [109,111,118,101])=false:=Bool.eq_false_iff.2 (fun h=>h_move (bytes_eq.1 (by rw[eq_of_beq h,ByteArray.toList_eq])));clear h_write h_mode h_link h_move;have HT:=hd0 hT;have HNB:=hd0 hNB;clear hT hNB
 go_enter Tryz.func45,Tryz.ntmps45
 have S:=Sep.start w;replace S:=S.alloc_at (n:=w.heap.size) (by simp) #[.slice at_ T.length cap,.int .i64 cr,.int .i64 ca,.int .i64 cs,.int .i64 cg] 31
 go_upto_region 1 with fail
 generalize (w.alloc (.cells #[.slice at_ T.length cap,.int .i64 cr,.int .i64 ca,.int .i64 cs,.int .i64 cg] 31))=w7 at *;generalize w.heap.size=Bk at *;replace e0:=cell_ext S.ext e0;replace e1:=cell_ext S.ext e1;replace e2:=cell_ext S.ext e2
 rcases cases3 a with h|h|h|h
 case' inl =>
  have t0:(a.toList == [102,111,108,100,101,114])=true:=by rw[h,ByteArray.toList_eq];rfl
  have t1:(a.toList == [102,105,108,101])=false:=by rw[h,ByteArray.toList_eq];rfl
  have t2:(a.toList == [100,114,111,112])=false:=by rw[h,ByteArray.toList_eq];rfl
  clear h
 case' inr.inl =>
  have t0:(a.toList == [102,111,108,100,101,114])=false:=by rw[h,ByteArray.toList_eq];rfl
  have t1:(a.toList == [102,105,108,101])=true:=by rw[h,ByteArray.toList_eq];rfl
  have t2:(a.toList == [100,114,111,112])=false:=by rw[h,ByteArray.toList_eq];rfl
  clear h
 case' inr.inr.inl =>
  have t0:(a.toList == [102,111,108,100,101,114])=false:=by rw[h,ByteArray.toList_eq];rfl
  have t1:(a.toList == [102,105,108,101])=false:=by rw[h,ByteArray.toList_eq];rfl
  have t2:(a.toList == [100,114,111,112])=true:=by rw[h,ByteArray.toList_eq];rfl
  clear h
 case' inr.inr.inr =>
  obtain⟨h_folder,h_file,h_drop⟩:=h;have t0:(a.toList == [102,111,108,100,101,114])=false:=Bool.eq_false_iff.2 (fun h=>h_folder (bytes_eq.1 (by rw[eq_of_beq h,ByteArray.toList_eq])));have t1:(a.toList == [102,105,108,101])=false:=Bool.eq_false_iff.2 (fun h=>h_file (bytes_eq.1 (by rw[eq_of_beq h,ByteArray.toList_eq])));have t2:(a.toList == [100,114,111,112])=false:=Bool.eq_false_iff.2 (fun h=>h_drop (bytes_eq.1 (by rw[eq_of_beq h,ByteArray.toList_eq])));clear h_folder h_file h_drop
 all_goals
  go_wp2;refine bodyPost_ret (v:=.tuple #[.slice none 0 0,.int .i64 1,.bool false]) (by simp[results,Tryz.results45,go_sem]) rfl ?_;rw[HX.out];exact⟨_,[],rfl,nil_treeI S.ext⟩
theorem join_blank (an:Option Addr) (cn:Nat) (N:List ByteArray) (w:World) (hl:N.length≤1048576) (hs:∀p∈N,p.size≤1048576) {base:Nat} {wo:World} (ho:wo.ownsRow base 9 1 (.slice an N.length cn) N.length (N.flatMap encStr1)) (hrd:Rd 1 encStr1 w an N) :
  Calls Tryz.prog 90 #[.slice an N.length cn,.string ⟨#[32]⟩] w fun e w'=>e=.returned (.string (joinW N))∧Ext w w':=by
 by_cases h0:N.length=0
 ·obtain rfl:=List.eq_nil_of_length_eq_zero h0;exact(join_none an cn ⟨#[32]⟩ w).mono (fun e w' h=>⟨h.1,h.2 ▸ Ext.refl w⟩)
 ·obtain⟨b,rfl⟩:=row_blk encStr1_len ho (by omega);obtain⟨a',c',hv,hcap,_,_⟩:=view_owns encStr1_len ho;simp only[Value.slice.injEq,true_and]at hv;have hz:=joinW_size hs;refine(join_any b 0 cn N ⟨#[32]⟩ w (fun j x hx=>?_) (by omega) (by omega) (by rw[hv.2];exact hcap) ?_).mono (fun e w' h=>⟨h.1,h.2⟩)
  ·obtain⟨x',b',o',hx',ha,hc⟩:=atStr hrd (List.getElem?_eq_some_iff.1 hx).1;rw[hx]at hx'
   cases hx'
   simp only[Option.some.injEq,Addr.mk.injEq]at ha;obtain⟨rfl,rfl,_⟩:=ha;exact hc
  ·have h1:(Lib.join (N.map (·.data.toList)) [32]).length=(joinW N).size:=by unfold joinW;rw[ByteArray.size];simp
   have h2:N.length*(1048576+1)≤1048576*(1048576+1):=Nat.mul_le_mul_right _ hl
   show(Lib.join (N.map (·.data.toList)) [32]).length≤_
   omega
theorem ite_read (at_:Option Addr) (cap:Nat) (T:List Nd) (cr ca cs cg:Int) (gw cw:Nat) (x:ByteArray) (w:World) (hx:x.size≤1048576) (hl:T.length≤1048576) (hT:∀x∈T,SmN 1048576 x) (hc:RdN w at_ T) (hm:MaxG w) (e0:w.cell? ⟨gw,0,none⟩=some (.string ⟨#[114,101,97,100]⟩)) (e1:w.cell? ⟨gw,1,none⟩=some (.string x)) :
  Calls Tryz.prog 47 #[.agg #[.slice at_ T.length cap,.int .i64 cr,.int .i64 ca,.int .i64 cs,.int .i64 cg],.slice (some ⟨gw,0,none⟩) 2 cw] w (fun e w'=>e=.returned (.string (tellF T ⟨cr,ca,cs,cg⟩ [⟨#[114,101,97,100]⟩,x]))∧Ext w w'):=by
 have HR:=hd0 (te_read T ⟨cr,ca,cs,cg⟩ x);have HZ:=hd0 (rf_size T ⟨cr,ca,cs,cg⟩ x hT);obtain⟨r,hr⟩:∃r,readFile T ⟨cr,ca,cs,cg⟩ x=r:=⟨_,rfl⟩;rw[hr]at HR HZ;have HT:=hd0 hT;clear hT
 go_enter Tryz.func47,Tryz.ntmps47
 have S:=Sep.start w;replace S:=S.alloc_at (n:=w.heap.size) (by simp) #[.slice at_ T.length cap,.int .i64 cr,.int .i64 ca,.int .i64 cs,.int .i64 cg] 31
 go_upto_region 1 with fail
 generalize (w.alloc (.cells #[.slice at_ T.length cap,.int .i64 cr,.int .i64 ca,.int .i64 cs,.int .i64 cg] 31))=w7 at *;generalize w.heap.size=Bk at *;replace e0:=cell_ext S.ext e0;replace e1:=cell_ext S.ext e1
 go_upto_region 3 with fail
 have HF:=hd0 (fun w' (hE:Ext (World.drew w7) w')=>implReadFile at_ cap T ⟨cr,ca,cs,cg⟩ x w' hx hl HT.out (hc.ext (S.ext.drew.trans hE)) (hm.ext (S.ext.drew.trans hE)));rw[hr]at HF;clear hr;clear e0;have S:=S.drew;obtain⟨bkd0,_⟩:=bx (S.box 0 rfl) 0 rfl;obtain⟨bkd1,_⟩:=bx (S.box 0 rfl) 1 rfl;obtain⟨bkd2,_⟩:=bx (S.box 0 rfl) 2 rfl;obtain⟨bkd3,_⟩:=bx (S.box 0 rfl) 3 rfl;obtain⟨bkd4,_⟩:=bx (S.box 0 rfl) 4 rfl;have e1d:=cell_ext (Ext.refl w7).drew e1;have HSd:=hd0 S;clear S;refine wp_region_c (V:=VJt (World.drew w7) Bk at_ cap T cr ca cs cg gw 2 cw x x 0 r) (fun wv=>Ext (World.drew w7) wv) (fun _=>none) [] 12 0 rfl (by decide) (by kernel_rfl) (by kernel_rfl) (by kernel_rfl) (by kernel_rfl) (Ext.refl _) (fun r hr=>by omega) ?_ ?_
 ·intro i o hi ho vz w4 hvl hE hd hrest
  match vz,hvl with
  | [y0,y1,y2,y3,y4,y5,y6,y7,y8,y9,y10,y11],_ =>
  rcases lc12 hi with rfl|rfl|rfl|rfl|rfl|rfl|rfl|rfl|rfl|rfl|rfl|rfl
  all_goals
   obtain rfl:=Option.some.inj ho
  all_goals try (clear hd hrest;simp[putAll,Act.put];go_wp2;exact OneC.mk (VJt.ext) rfl rfl hE (Ext.refl _))
  ·have q0:y0=.pointer (some ⟨Bk,0,none⟩):=hd ⟨0,.data⟩ (by simp) rfl (.inl rfl);have c0:=cell_ext hE bkd0;subst q0;clear hd hrest;simp[putAll,Act.put];go_wp2;exact OneC.mk (VJt.ext) rfl rfl hE (Ext.refl _)
  ·have q2:y2=.pointer (some ⟨Bk,1,none⟩):=hd ⟨2,.data⟩ (by simp) rfl (.inl rfl);have c1:=cell_ext hE bkd1;have c2:=cell_ext hE bkd2;have c3:=cell_ext hE bkd3;have c4:=cell_ext hE bkd4;subst q2;clear hd hrest;simp[putAll,Act.put];go_wp2;exact OneC.mk (VJt.ext) rfl rfl hE (Ext.refl _)
  ·have q4:y4=.slice (some ⟨gw,0,none⟩) 2 cw:=hd ⟨4,.data⟩ (by simp) rfl (.inl rfl);subst q4;clear hd hrest;simp[putAll,Act.put];go_wp2;exact OneC.mk (VJt.ext) rfl rfl hE (Ext.refl _)
  ·have q5:y5=.pointer (some ⟨gw,1,none⟩):=hd ⟨5,.data⟩ (by simp) rfl (.inl rfl);have c1:=cell_ext hE e1d;subst q5;clear hd hrest;simp[putAll,Act.put];go_wp2;exact OneC.mk (VJt.ext) rfl rfl hE (Ext.refl _)
  ·have q1:y1=.slice at_ T.length cap:=hd ⟨1,.data⟩ (by simp) rfl (.inl rfl);have q3:y3=.agg #[.int .i64 cr,.int .i64 ca,.int .i64 cs,.int .i64 cg]:=hd ⟨3,.data⟩ (by simp) rfl (.inl rfl);have q6:y6=.string x:=hd ⟨6,.data⟩ (by simp) rfl (.inl rfl);have HC:=hd0 (HF.out w4 hE);subst q1 q3 q6;clear hd hrest;simp[putAll,Act.put]
   go_wp2_with fail
   refine HC.out.mono ?_;rintro e w5 ⟨rfl,hE5⟩;have HE5:=hd0 hE5;clear HC hE5;go_wp2;exact OneC.mk (VJt.ext) rfl rfl (hE.trans HE5.out) HE5.out
  ·have q7:y7=.tuple #[.string r.1,.int .i64 r.2]:=hd ⟨7,.data⟩ (by simp) rfl (.inl rfl);subst q7;clear hd hrest;simp[putAll,Act.put];go_wp2;exact OneC.mk (VJt.ext) rfl rfl hE (Ext.refl _)
  ·have q8:y8=.tuple #[.string r.1,.int .i64 r.2]:=hd ⟨8,.data⟩ (by simp) rfl (.inl rfl);subst q8;clear hd hrest;simp[putAll,Act.put];go_wp2;exact OneC.mk (VJt.ext) rfl rfl hE (Ext.refl _)
  ·have q8:y8=.tuple #[.string r.1,.int .i64 r.2]:=hd ⟨8,.data⟩ (by simp) rfl (.inl rfl);subst q8;clear hd hrest;simp[putAll,Act.put];go_wp2;exact OneC.mk (VJt.ext) rfl rfl hE (Ext.refl _)
  ·have q9:y9=.string r.1:=hd ⟨9,.data⟩ (by simp) rfl (.inl rfl);subst q9;clear hd hrest;simp[putAll,Act.put];go_wp2;exact OneC.mk (VJt.ext) rfl rfl hE (Ext.refl _)
 intro vz w8 hvl hE hV _
 match vz,hvl with
 | [y0,y1,y2,y3,y4,y5,y6,y7,y8,y9,y10,y11],_ =>
 have q10:y10=.int .i64 r.2:=hV 10 (by omega) rfl;have q11:y11=.string r.1:=hV 11 (by omega) rfl;subst q11 q10;clear hV hvl bkd0 bkd1 bkd2 bkd3 bkd4 e1d;simp only[putAll,Act.put,List.take_succ_cons,List.take_zero,List.drop_succ_cons,List.drop_zero];simp;have S:=HSd.out;replace S:=S.step hE;clear HSd HF hE;generalize r.1=tx at *;generalize r.2=f at *
 by_cases hf:f=0
 ·subst hf;have HQ:Hid (tellF T ⟨cr,ca,cs,cg⟩ [⟨#[114,101,97,100]⟩,x]=⟨#[61]⟩++tx):=hd0 (by rw[HR.out,if_pos rfl])
  have hsz:(⟨#[61]⟩:ByteArray).size+tx.size≤9223372036854775807:=by
   have:=HZ.out
   show 1+tx.size≤_
   omega
  go_wp2;go_ret;exact⟨by rw[HQ.out];rfl,S.ext⟩
 ·have HQ:Hid (tellF T ⟨cr,ca,cs,cg⟩ [⟨#[114,101,97,100]⟩,x]=faultText f):=hd0 (by rw[HR.out,if_neg hf])
  have tf:(f != 0)=true:=by simpa using hf
  clear hf HR HZ
  go_wp2_with fail
  refine(implFaultText f _).mono ?_;rintro e w9 ⟨rfl,hE9⟩;have HE9:=hd0 (S.ext.trans hE9);clear hE9;go_wp2;go_ret;exact⟨by rw[HQ.out];rfl,HE9.out⟩
theorem ite_list (at_:Option Addr) (cap:Nat) (T:List Nd) (cr ca cs cg:Int) (gw cw:Nat) (x:ByteArray) (w:World) (hx:x.size≤1048576) (hl:T.length≤1048576) (hT:∀x∈T,SmN 1048576 x) (hc:RdN w at_ T) (hm:MaxG w) (e0:w.cell? ⟨gw,0,none⟩=some (.string ⟨#[108,105,115,116]⟩)) (e1:w.cell? ⟨gw,1,none⟩=some (.string x)) :
  Calls Tryz.prog 47 #[.agg #[.slice at_ T.length cap,.int .i64 cr,.int .i64 ca,.int .i64 cs,.int .i64 cg],.slice (some ⟨gw,0,none⟩) 2 cw] w (fun e w'=>e=.returned (.string (tellF T ⟨cr,ca,cs,cg⟩ [⟨#[108,105,115,116]⟩,x]))∧Ext w w'):=by
 have HR:=hd0 (te_list T ⟨cr,ca,cs,cg⟩ x);have HZ:=hd0 (li_size T ⟨cr,ca,cs,cg⟩ x hT);obtain⟨r,hr⟩:∃r,listNames T ⟨cr,ca,cs,cg⟩ x=r:=⟨_,rfl⟩;rw[hr]at HR HZ;have HT:=hd0 hT;clear hT
 go_enter Tryz.func47,Tryz.ntmps47
 have S:=Sep.start w;replace S:=S.alloc_at (n:=w.heap.size) (by simp) #[.slice at_ T.length cap,.int .i64 cr,.int .i64 ca,.int .i64 cs,.int .i64 cg] 31
 go_upto_region 1 with fail
 generalize (w.alloc (.cells #[.slice at_ T.length cap,.int .i64 cr,.int .i64 ca,.int .i64 cs,.int .i64 cg] 31))=w7 at *;generalize w.heap.size=Bk at *;replace e0:=cell_ext S.ext e0;replace e1:=cell_ext S.ext e1
 go_upto_region 5 with fail
 have HF:=hd0 (fun w' (hE:Ext (World.drew w7) w')=>implListNames at_ cap T ⟨cr,ca,cs,cg⟩ x w' hx hl HT.out (hc.ext (S.ext.drew.trans hE)) (hm.ext (S.ext.drew.trans hE)));rw[hr]at HF;clear hr;clear e0;have S:=S.drew;obtain⟨bkd0,_⟩:=bx (S.box 0 rfl) 0 rfl;obtain⟨bkd1,_⟩:=bx (S.box 0 rfl) 1 rfl;obtain⟨bkd2,_⟩:=bx (S.box 0 rfl) 2 rfl;obtain⟨bkd3,_⟩:=bx (S.box 0 rfl) 3 rfl;obtain⟨bkd4,_⟩:=bx (S.box 0 rfl) 4 rfl;have e1d:=cell_ext (Ext.refl w7).drew e1;have HSd:=hd0 S;clear S;refine wp_region_c (V:=VJn (World.drew w7) Bk at_ cap T cr ca cs cg gw 2 cw x x 0 r) (fun wv=>Ext (World.drew w7) wv) (fun _=>none) [] 12 0 rfl (by decide) (by kernel_rfl) (by kernel_rfl) (by kernel_rfl) (by kernel_rfl) (Ext.refl _) (fun r hr=>by omega) ?_ ?_
 ·intro i o hi ho vz w4 hvl hE hd hrest
  match vz,hvl with
  | [y0,y1,y2,y3,y4,y5,y6,y7,y8,y9,y10,y11],_ =>
  rcases lc12 hi with rfl|rfl|rfl|rfl|rfl|rfl|rfl|rfl|rfl|rfl|rfl|rfl
  all_goals
   obtain rfl:=Option.some.inj ho
  all_goals try (clear hd hrest;simp[putAll,Act.put];go_wp2;exact OneC.mk (VJn.ext) rfl rfl hE (Ext.refl _))
  ·have q0:y0=.pointer (some ⟨Bk,0,none⟩):=hd ⟨0,.data⟩ (by simp) rfl (.inl rfl);have c0:=cell_ext hE bkd0;subst q0;clear hd hrest;simp[putAll,Act.put];go_wp2;exact OneC.mk (VJn.ext) rfl rfl hE (Ext.refl _)
  ·have q2:y2=.pointer (some ⟨Bk,1,none⟩):=hd ⟨2,.data⟩ (by simp) rfl (.inl rfl);have c1:=cell_ext hE bkd1;have c2:=cell_ext hE bkd2;have c3:=cell_ext hE bkd3;have c4:=cell_ext hE bkd4;subst q2;clear hd hrest;simp[putAll,Act.put];go_wp2;exact OneC.mk (VJn.ext) rfl rfl hE (Ext.refl _)
  ·have q4:y4=.slice (some ⟨gw,0,none⟩) 2 cw:=hd ⟨4,.data⟩ (by simp) rfl (.inl rfl);subst q4;clear hd hrest;simp[putAll,Act.put];go_wp2;exact OneC.mk (VJn.ext) rfl rfl hE (Ext.refl _)
  ·have q5:y5=.pointer (some ⟨gw,1,none⟩):=hd ⟨5,.data⟩ (by simp) rfl (.inl rfl);have c1:=cell_ext hE e1d;subst q5;clear hd hrest;simp[putAll,Act.put];go_wp2;exact OneC.mk (VJn.ext) rfl rfl hE (Ext.refl _)
  ·have q1:y1=.slice at_ T.length cap:=hd ⟨1,.data⟩ (by simp) rfl (.inl rfl);have q3:y3=.agg #[.int .i64 cr,.int .i64 ca,.int .i64 cs,.int .i64 cg]:=hd ⟨3,.data⟩ (by simp) rfl (.inl rfl);have q6:y6=.string x:=hd ⟨6,.data⟩ (by simp) rfl (.inl rfl);have HC:=hd0 (HF.out w4 hE);subst q1 q3 q6;clear hd hrest;simp[putAll,Act.put]
   go_wp2_with fail
   refine HC.out.mono ?_;rintro e w5 ⟨u5,rfl,S5⟩;have S6:=S5.since hE;have hE5:=S5.ext;clear HC S5;go_wp2;exact OneC.mk (VJn.ext) rfl ⟨_,rfl,S6⟩ (hE.trans hE5) hE5
  ·obtain⟨u5,q7,S5⟩:∃u,y7=.tuple #[u,.int .i64 r.2]∧Sep (World.drew w7) w4 [plRow 9 1 encStr1 u r.1]:=hd ⟨7,.data⟩ (by simp) rfl (.inl rfl);have HS5:=hd0 S5;subst q7;clear hd hrest S5;simp[putAll,Act.put];go_wp2;exact OneC.mk (VJn.ext) rfl ⟨_,rfl,HS5.out⟩ hE (Ext.refl _)
  ·obtain⟨u5,q8,S5⟩:∃u,y8=.tuple #[u,.int .i64 r.2]∧Sep (World.drew w7) w4 [plRow 9 1 encStr1 u r.1]:=hd ⟨8,.data⟩ (by simp) rfl (.inl rfl);have HS5:=hd0 S5;subst q8;clear hd hrest S5;simp[putAll,Act.put];go_wp2;exact OneC.mk (VJn.ext) rfl HS5.out hE (Ext.refl _)
  ·obtain⟨u5,q8,S5⟩:∃u,y8=.tuple #[u,.int .i64 r.2]∧Sep (World.drew w7) w4 [plRow 9 1 encStr1 u r.1]:=hd ⟨8,.data⟩ (by simp) rfl (.inl rfl);have HS5:=hd0 S5;subst q8;clear hd hrest S5;simp[putAll,Act.put];go_wp2;exact OneC.mk (VJn.ext) rfl rfl hE (Ext.refl _)
  ·have S5:Sep (World.drew w7) w4 [plRow 9 1 encStr1 y9 r.1]:=hd ⟨9,.data⟩ (by simp) rfl (.inl rfl);have HS5:=hd0 S5;clear hd hrest S5;simp[putAll,Act.put];go_wp2;exact OneC.mk (VJn.ext) rfl HS5.out hE (Ext.refl _)
 intro vz w8 hvl hE hV _
 match vz,hvl with
 | [y0,y1,y2,y3,y4,y5,y6,y7,y8,y9,y10,y11],_ =>
 have q10:y10=.int .i64 r.2:=hV 10 (by omega) rfl;have S8:Sep (World.drew w7) w8 [plRow 9 1 encStr1 y11 r.1]:=hV 11 (by omega) rfl;subst q10;clear hV hvl bkd0 bkd1 bkd2 bkd3 bkd4 e1d;simp only[putAll,Act.put,List.take_succ_cons,List.take_zero,List.drop_succ_cons,List.drop_zero];simp;have S:=HSd.out.call S8;clear HSd HF hE S8;generalize r.1=N at *;generalize r.2=f at *;obtain⟨an,cn,rfl,_,hrd,_⟩:=view_owns encStr1_len (S.row 0 rfl);have HRD:=hd0 hrd;clear hrd;have S:Sep w w8 [plRow 9 1 encStr1 (.slice an N.length cn) N,plBox Bk #[.slice at_ T.length cap,.int .i64 cr,.int .i64 ca,.int .i64 cs,.int .i64 cg] 31]:=S
 go_wp2_with fail
 refine(join_blank an cn N w8 HZ.out.1 HZ.out.2 (S.row 0 rfl) HRD.out).mono ?_;rintro e wr ⟨rfl,hE⟩;replace S:=S.step hE;clear hE;have hjz:=joinW_size HZ.out.2;have hnl:=HZ.out.1
 by_cases hf:f=0
 ·subst hf;have HQ:Hid (tellF T ⟨cr,ca,cs,cg⟩ [⟨#[108,105,115,116]⟩,x]=⟨#[61]⟩++joinW N):=hd0 (by rw[HR.out,if_pos rfl])
  have hsz:(⟨#[61]⟩:ByteArray).size+(joinW N).size≤9223372036854775807:=by
   have h3:N.length*(1048576+1)≤1048576*(1048576+1):=Nat.mul_le_mul_right _ hnl
   show 1+_≤_
   omega
  clear hjz hnl;go_wp2;go_ret;exact⟨by rw[HQ.out];rfl,S.ext⟩
 ·have HQ:Hid (tellF T ⟨cr,ca,cs,cg⟩ [⟨#[108,105,115,116]⟩,x]=faultText f):=hd0 (by rw[HR.out,if_neg hf])
  have tf:(f != 0)=true:=by simpa using hf
  clear hf HR HZ hjz hnl
  go_wp2_with fail
  refine(implFaultText f _).mono ?_;rintro e w9 ⟨rfl,hE9⟩;have HE9:=hd0 (S.ext.trans hE9);clear hE9;go_wp2;go_ret;exact⟨by rw[HQ.out];rfl,HE9.out⟩
theorem ite2_other (at_:Option Addr) (cap:Nat) (T:List Nd) (cr ca cs cg:Int) (gw cw:Nat) (a x:ByteArray) (w:World) (h_read:a≠⟨#[114,101,97,100]⟩) (h_list:a≠⟨#[108,105,115,116]⟩) (e0:w.cell? ⟨gw,0,none⟩=some (.string a)) :
  Calls Tryz.prog 47 #[.agg #[.slice at_ T.length cap,.int .i64 cr,.int .i64 ca,.int .i64 cs,.int .i64 cg],.slice (some ⟨gw,0,none⟩) 2 cw] w (fun e w'=>e=.returned (.string (tellF T ⟨cr,ca,cs,cg⟩ [a,x]))∧Ext w w'):=by
 have HQ:Hid (tellF T ⟨cr,ca,cs,cg⟩ [a,x]=faultText 1):=hd0 (te_two T ⟨cr,ca,cs,cg⟩ x h_read h_list);have t0:(a.toList == [114,101,97,100])=false:=Bool.eq_false_iff.2 (fun h=>h_read (bytes_eq.1 (by rw[eq_of_beq h,ByteArray.toList_eq])));have t1:(a.toList == [108,105,115,116])=false:=Bool.eq_false_iff.2 (fun h=>h_list (bytes_eq.1 (by rw[eq_of_beq h,ByteArray.toList_eq])));clear h_read h_list
 go_enter Tryz.func47,Tryz.ntmps47
 have S:=Sep.start w;replace S:=S.alloc_at (n:=w.heap.size) (by simp) #[.slice at_ T.length cap,.int .i64 cr,.int .i64 ca,.int .i64 cs,.int .i64 cg] 31
 go_upto_region 1 with fail
 generalize (w.alloc (.cells #[.slice at_ T.length cap,.int .i64 cr,.int .i64 ca,.int .i64 cs,.int .i64 cg] 31))=w7 at *;generalize w.heap.size=Bk at *;replace e0:=cell_ext S.ext e0
 go_wp2_with fail
 refine(implFaultText 1 _).mono ?_;rintro e w9 ⟨rfl,hE9⟩;have HE9:=hd0 (S.ext.trans hE9);clear hE9;go_wp2;go_ret;exact⟨by rw[HQ.out];rfl,HE9.out⟩
theorem iten_read (at_:Option Addr) (cap:Nat) (T:List Nd) (cr ca cs cg:Int) (gw cw:Nat) (n:Nat) (W:List ByteArray) (hn:W.length=n) (h2:n≠2) (hp:0 < n) (w:World) (e0:w.cell? ⟨gw,0,none⟩=some (.string ⟨#[114,101,97,100]⟩)) :
  Calls Tryz.prog 47 #[.agg #[.slice at_ T.length cap,.int .i64 cr,.int .i64 ca,.int .i64 cs,.int .i64 cg],.slice (some ⟨gw,0,none⟩) n cw] w (fun e w'=>e=.returned (.string (tellF T ⟨cr,ca,cs,cg⟩ W))∧Ext w w'):=by
 have HQ:Hid (tellF T ⟨cr,ca,cs,cg⟩ W=faultText 1):=hd0 (te_len T ⟨cr,ca,cs,cg⟩ (hn ▸ h2))
 have t2:((n:Int) == 2)=false:=by simpa using(fun h:(n:Int)=2=>h2 (by omega))
 have i0:(0:Int) < (n:Int):=by omega
 clear hn h2
 go_enter Tryz.func47,Tryz.ntmps47
 have S:=Sep.start w;replace S:=S.alloc_at (n:=w.heap.size) (by simp) #[.slice at_ T.length cap,.int .i64 cr,.int .i64 ca,.int .i64 cs,.int .i64 cg] 31
 go_upto_region 1 with fail
 generalize (w.alloc (.cells #[.slice at_ T.length cap,.int .i64 cr,.int .i64 ca,.int .i64 cs,.int .i64 cg] 31))=w7 at *;generalize w.heap.size=Bk at *;replace e0:=cell_ext S.ext e0
 go_wp2_with fail
 refine(implFaultText 1 _).mono ?_;rintro e w9 ⟨rfl,hE9⟩;have HE9:=hd0 (S.ext.trans hE9);clear hE9;go_wp2;go_ret;exact⟨by rw[HQ.out];rfl,HE9.out⟩
theorem iten_list (at_:Option Addr) (cap:Nat) (T:List Nd) (cr ca cs cg:Int) (gw cw:Nat) (n:Nat) (W:List ByteArray) (hn:W.length=n) (h2:n≠2) (hp:0 < n) (w:World) (e0:w.cell? ⟨gw,0,none⟩=some (.string ⟨#[108,105,115,116]⟩)) :
  Calls Tryz.prog 47 #[.agg #[.slice at_ T.length cap,.int .i64 cr,.int .i64 ca,.int .i64 cs,.int .i64 cg],.slice (some ⟨gw,0,none⟩) n cw] w (fun e w'=>e=.returned (.string (tellF T ⟨cr,ca,cs,cg⟩ W))∧Ext w w'):=by
 have HQ:Hid (tellF T ⟨cr,ca,cs,cg⟩ W=faultText 1):=hd0 (te_len T ⟨cr,ca,cs,cg⟩ (hn ▸ h2))
 have t2:((n:Int) == 2)=false:=by simpa using(fun h:(n:Int)=2=>h2 (by omega))
 have i0:(0:Int) < (n:Int):=by omega
 clear hn h2
 go_enter Tryz.func47,Tryz.ntmps47
 have S:=Sep.start w;replace S:=S.alloc_at (n:=w.heap.size) (by simp) #[.slice at_ T.length cap,.int .i64 cr,.int .i64 ca,.int .i64 cs,.int .i64 cg] 31
 go_upto_region 1 with fail
 generalize (w.alloc (.cells #[.slice at_ T.length cap,.int .i64 cr,.int .i64 ca,.int .i64 cs,.int .i64 cg] 31))=w7 at *;generalize w.heap.size=Bk at *;replace e0:=cell_ext S.ext e0
 go_wp2_with fail
 refine(implFaultText 1 _).mono ?_;rintro e w9 ⟨rfl,hE9⟩;have HE9:=hd0 (S.ext.trans hE9);clear hE9;go_wp2;go_ret;exact⟨by rw[HQ.out];rfl,HE9.out⟩
theorem iten_other (at_:Option Addr) (cap:Nat) (T:List Nd) (cr ca cs cg:Int) (gw cw:Nat) (n:Nat) (W:List ByteArray) (a:ByteArray) (hn:W.length=n) (h2:n≠2) (hp:0 < n) (w:World) (h_read:a≠⟨#[114,101,97,100]⟩) (h_list:a≠⟨#[108,105,115,116]⟩) (e0:w.cell? ⟨gw,0,none⟩=some (.string a)) :
  Calls Tryz.prog 47 #[.agg #[.slice at_ T.length cap,.int .i64 cr,.int .i64 ca,.int .i64 cs,.int .i64 cg],.slice (some ⟨gw,0,none⟩) n cw] w (fun e w'=>e=.returned (.string (tellF T ⟨cr,ca,cs,cg⟩ W))∧Ext w w'):=by
 have HQ:Hid (tellF T ⟨cr,ca,cs,cg⟩ W=faultText 1):=hd0 (te_len T ⟨cr,ca,cs,cg⟩ (hn ▸ h2));have t0:(a.toList == [114,101,97,100])=false:=Bool.eq_false_iff.2 (fun h=>h_read (bytes_eq.1 (by rw[eq_of_beq h,ByteArray.toList_eq])));have t1:(a.toList == [108,105,115,116])=false:=Bool.eq_false_iff.2 (fun h=>h_list (bytes_eq.1 (by rw[eq_of_beq h,ByteArray.toList_eq])));clear h_read h_list
 have t2:((n:Int) == 2)=false:=by simpa using(fun h:(n:Int)=2=>h2 (by omega))
 have i0:(0:Int) < (n:Int):=by omega
 clear hn h2
 go_enter Tryz.func47,Tryz.ntmps47
 have S:=Sep.start w;replace S:=S.alloc_at (n:=w.heap.size) (by simp) #[.slice at_ T.length cap,.int .i64 cr,.int .i64 ca,.int .i64 cs,.int .i64 cg] 31
 go_upto_region 1 with fail
 generalize (w.alloc (.cells #[.slice at_ T.length cap,.int .i64 cr,.int .i64 ca,.int .i64 cs,.int .i64 cg] 31))=w7 at *;generalize w.heap.size=Bk at *;replace e0:=cell_ext S.ext e0
 go_wp2_with fail
 refine(implFaultText 1 _).mono ?_;rintro e w9 ⟨rfl,hE9⟩;have HE9:=hd0 (S.ext.trans hE9);clear hE9;go_wp2;go_ret;exact⟨by rw[HQ.out];rfl,HE9.out⟩
theorem ichn_no (at_:Option Addr) (cap:Nat) (T:List Nd) (cr ca cs cg:Int) (gw cw:Nat) (n:Nat) (W:List ByteArray) (hn:W.length=n) (h2:n≠2) (h3:n≠3) (hp:0 < n) (a:ByteArray) (w:World) (e0:w.cell? ⟨gw,0,none⟩=some (.string a)) :
  Calls Tryz.prog 45 #[.agg #[.slice at_ T.length cap,.int .i64 cr,.int .i64 ca,.int .i64 cs,.int .i64 cg],.slice (some ⟨gw,0,none⟩) n cw] w (RetCh (changeF T ⟨cr,ca,cs,cg⟩ W) w):=by
 have HX:Hid (changeF T ⟨cr,ca,cs,cg⟩ W=none):=hd0 (ch_len T ⟨cr,ca,cs,cg⟩ (hn ▸ h2) (hn ▸ h3))
 have t2:((n:Int) == 2)=false:=by simpa using(fun h:(n:Int)=2=>h2 (by omega))
 have t3:((n:Int) == 3)=false:=by simpa using(fun h:(n:Int)=3=>h3 (by omega))
 have i0:(0:Int) < (n:Int):=by omega
 clear hn h2 h3
 go_enter Tryz.func45,Tryz.ntmps45
 have S:=Sep.start w;replace S:=S.alloc_at (n:=w.heap.size) (by simp) #[.slice at_ T.length cap,.int .i64 cr,.int .i64 ca,.int .i64 cs,.int .i64 cg] 31
 go_upto_region 1 with fail
 generalize (w.alloc (.cells #[.slice at_ T.length cap,.int .i64 cr,.int .i64 ca,.int .i64 cs,.int .i64 cg] 31))=w7 at *;generalize w.heap.size=Bk at *;replace e0:=cell_ext S.ext e0
 rcases casesn a with h|h|h|h|h|h|h|h
 case' inl =>
  have u0:(a.toList == [102,111,108,100,101,114])=true:=by rw[h,ByteArray.toList_eq];rfl
  have u1:(a.toList == [102,105,108,101])=false:=by rw[h,ByteArray.toList_eq];rfl
  have u2:(a.toList == [100,114,111,112])=false:=by rw[h,ByteArray.toList_eq];rfl
  have u3:(a.toList == [119,114,105,116,101])=false:=by rw[h,ByteArray.toList_eq];rfl
  have u4:(a.toList == [109,111,100,101])=false:=by rw[h,ByteArray.toList_eq];rfl
  have u5:(a.toList == [108,105,110,107])=false:=by rw[h,ByteArray.toList_eq];rfl
  have u6:(a.toList == [109,111,118,101])=false:=by rw[h,ByteArray.toList_eq];rfl
  clear h
 case' inr.inl =>
  have u0:(a.toList == [102,111,108,100,101,114])=false:=by rw[h,ByteArray.toList_eq];rfl
  have u1:(a.toList == [102,105,108,101])=true:=by rw[h,ByteArray.toList_eq];rfl
  have u2:(a.toList == [100,114,111,112])=false:=by rw[h,ByteArray.toList_eq];rfl
  have u3:(a.toList == [119,114,105,116,101])=false:=by rw[h,ByteArray.toList_eq];rfl
  have u4:(a.toList == [109,111,100,101])=false:=by rw[h,ByteArray.toList_eq];rfl
  have u5:(a.toList == [108,105,110,107])=false:=by rw[h,ByteArray.toList_eq];rfl
  have u6:(a.toList == [109,111,118,101])=false:=by rw[h,ByteArray.toList_eq];rfl
  clear h
 case' inr.inr.inl =>
  have u0:(a.toList == [102,111,108,100,101,114])=false:=by rw[h,ByteArray.toList_eq];rfl
  have u1:(a.toList == [102,105,108,101])=false:=by rw[h,ByteArray.toList_eq];rfl
  have u2:(a.toList == [100,114,111,112])=true:=by rw[h,ByteArray.toList_eq];rfl
  have u3:(a.toList == [119,114,105,116,101])=false:=by rw[h,ByteArray.toList_eq];rfl
  have u4:(a.toList == [109,111,100,101])=false:=by rw[h,ByteArray.toList_eq];rfl
  have u5:(a.toList == [108,105,110,107])=false:=by rw[h,ByteArray.toList_eq];rfl
  have u6:(a.toList == [109,111,118,101])=false:=by rw[h,ByteArray.toList_eq];rfl
  clear h
 case' inr.inr.inr.inl =>
  have u0:(a.toList == [102,111,108,100,101,114])=false:=by rw[h,ByteArray.toList_eq];rfl
  have u1:(a.toList == [102,105,108,101])=false:=by rw[h,ByteArray.toList_eq];rfl
  have u2:(a.toList == [100,114,111,112])=false:=by rw[h,ByteArray.toList_eq];rfl
  have u3:(a.toList == [119,114,105,116,101])=true:=by rw[h,ByteArray.toList_eq];rfl
  have u4:(a.toList == [109,111,100,101])=false:=by rw[h,ByteArray.toList_eq];rfl
  have u5:(a.toList == [108,105,110,107])=false:=by rw[h,ByteArray.toList_eq];rfl
  have u6:(a.toList == [109,111,118,101])=false:=by rw[h,ByteArray.toList_eq];rfl
  clear h
 case' inr.inr.inr.inr.inl =>
  have u0:(a.toList == [102,111,108,100,101,114])=false:=by rw[h,ByteArray.toList_eq];rfl
  have u1:(a.toList == [102,105,108,101])=false:=by rw[h,ByteArray.toList_eq];rfl
  have u2:(a.toList == [100,114,111,112])=false:=by rw[h,ByteArray.toList_eq];rfl
  have u3:(a.toList == [119,114,105,116,101])=false:=by rw[h,ByteArray.toList_eq];rfl
  have u4:(a.toList == [109,111,100,101])=true:=by rw[h,ByteArray.toList_eq];rfl
  have u5:(a.toList == [108,105,110,107])=false:=by rw[h,ByteArray.toList_eq];rfl
  have u6:(a.toList == [109,111,118,101])=false:=by rw[h,ByteArray.toList_eq];rfl
  clear h
 case' inr.inr.inr.inr.inr.inl =>
  have u0:(a.toList == [102,111,108,100,101,114])=false:=by rw[h,ByteArray.toList_eq];rfl
  have u1:(a.toList == [102,105,108,101])=false:=by rw[h,ByteArray.toList_eq];rfl
  have u2:(a.toList == [100,114,111,112])=false:=by rw[h,ByteArray.toList_eq];rfl
  have u3:(a.toList == [119,114,105,116,101])=false:=by rw[h,ByteArray.toList_eq];rfl
  have u4:(a.toList == [109,111,100,101])=false:=by rw[h,ByteArray.toList_eq];rfl
  have u5:(a.toList == [108,105,110,107])=true:=by rw[h,ByteArray.toList_eq];rfl
  have u6:(a.toList == [109,111,118,101])=false:=by rw[h,ByteArray.toList_eq];rfl
  clear h
 case' inr.inr.inr.inr.inr.inr.inl =>
  have u0:(a.toList == [102,111,108,100,101,114])=false:=by rw[h,ByteArray.toList_eq];rfl
  have u1:(a.toList == [102,105,108,101])=false:=by rw[h,ByteArray.toList_eq];rfl
  have u2:(a.toList == [100,114,111,112])=false:=by rw[h,ByteArray.toList_eq];rfl
  have u3:(a.toList == [119,114,105,116,101])=false:=by rw[h,ByteArray.toList_eq];rfl
  have u4:(a.toList == [109,111,100,101])=false:=by rw[h,ByteArray.toList_eq];rfl
  have u5:(a.toList == [108,105,110,107])=false:=by rw[h,ByteArray.toList_eq];rfl
  have u6:(a.toList == [109,111,118,101])=true:=by rw[h,ByteArray.toList_eq];rfl
  clear h
 case' inr.inr.inr.inr.inr.inr.inr =>
  obtain⟨h_folder,h_file,h_drop,h_write,h_mode,h_link,h_move⟩:=h;have t0:(a.toList == [102,111,108,100,101,114])=false:=Bool.eq_false_iff.2 (fun h=>h_folder (bytes_eq.1 (by rw[eq_of_beq h,ByteArray.toList_eq])));have t1:(a.toList == [102,105,108,101])=false:=Bool.eq_false_iff.2 (fun h=>h_file (bytes_eq.1 (by rw[eq_of_beq h,ByteArray.toList_eq])));have t2:(a.toList == [100,114,111,112])=false:=Bool.eq_false_iff.2 (fun h=>h_drop (bytes_eq.1 (by rw[eq_of_beq h,ByteArray.toList_eq])));have t3:(a.toList == [119,114,105,116,101])=false:=Bool.eq_false_iff.2 (fun h=>h_write (bytes_eq.1 (by rw[eq_of_beq h,ByteArray.toList_eq])));have t4:(a.toList == [109,111,100,101])=false:=Bool.eq_false_iff.2 (fun h=>h_mode (bytes_eq.1 (by rw[eq_of_beq h,ByteArray.toList_eq])));have t5:(a.toList == [108,105,110,107])=false:=Bool.eq_false_iff.2 (fun h=>h_link (bytes_eq.1 (by rw[eq_of_beq h,ByteArray.toList_eq])));have t6:(a.toList == [109,111,118,101])=false:=Bool.eq_false_iff.2 (fun h=>h_move (bytes_eq.1 (by rw[eq_of_beq h,ByteArray.toList_eq])));clear h_folder h_file h_drop h_write h_mode h_link h_move
 all_goals
  go_wp2;refine bodyPost_ret (v:=.tuple #[.slice none 0 0,.int .i64 1,.bool false]) (by simp[results,Tryz.results45,go_sem]) rfl ?_;rw[HX.out];exact⟨_,[],rfl,nil_treeI S.ext⟩
end Go.Proofs.YtnibbldfohbfkaaGreatDoor
