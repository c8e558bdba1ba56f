/- Parts of one proof: what each theorem proves, and its conditions, stand in its own statement. -/
import Derived.Test.YtnibbldfohbfkaaGreatDoorMn8
import Derived.Test.YtnibbldfohbfkaaGreatDoorMn24
set_option linter.all false
set_option maxRecDepth 100000
set_option maxHeartbeats 32000000
namespace Go.Proofs.YtnibbldfohbfkaaGreatDoor
open Go.RowKit
def QN (n:Nat) (v:Value):Prop:=∃q:Nat,v=.int .i64 (q:Int)∧q < n
def PL (gl n:Nat) (v:Value):Prop:=∃q:Nat,v=.pointer (some ⟨gl,q,none⟩)∧q < n
def TS (v:Value):Prop:=∃s:ByteArray,v=.string s∧s.size≤54
def WayT (t:ByteArray):Prop:=t.size≤10∧∃h:0 < t.size,t[0].toNat≠47
def LS (base:Nat) (v:Value) (wv:World):Prop:=∃b,v=.slice (some ⟨b,0,none⟩) 4 4∧base≤b∧wv.heap[b]?=some (.cells #[.string ⟨#[97]⟩,.string ⟨#[98]⟩,.string ⟨#[99,49]⟩,.string ⟨#[116,109,112]⟩] 9)
def PS (base:Nat) (v:Value) (wv:World):Prop:=∃b q t,v=.pointer (some ⟨b,q,none⟩)∧base≤b∧wv.cell? ⟨b,q,none⟩=some (.string t)∧WayT t
def WS (v:Value):Prop:=∃t:ByteArray,v=.string t∧WayT t
theorem ls_at {w:World} {b q:Nat} (h:w.heap[b]?=some (.cells #[.string ⟨#[97]⟩,.string ⟨#[98]⟩,.string ⟨#[99,49]⟩,.string ⟨#[116,109,112]⟩] 9)) (hq:q < 4):∃t,WayT t∧w.cell? ⟨b,q,none⟩=some (.string t):=by
 rcases(show q=0∨q=1∨q=2∨q=3 by omega)with rfl|rfl|rfl|rfl
 ·exact⟨⟨#[97]⟩,⟨by decide,by decide,by decide⟩,(bx h 0 rfl).1⟩
 ·exact⟨⟨#[98]⟩,⟨by decide,by decide,by decide⟩,(bx h 1 rfl).1⟩
 ·exact⟨⟨#[99,49]⟩,⟨by decide,by decide,by decide⟩,(bx h 2 rfl).1⟩
 ·exact⟨⟨#[116,109,112]⟩,⟨by decide,by decide,by decide⟩,(bx h 3 rfl).1⟩
def V6t (g gl nL cl base:Nat):Nat→Value→World→Prop:=fun i v wv=>match i with
 | 0=>v=.slice (some ⟨gl,0,none⟩) nL cl
 | 1=>v=.pointer (some ⟨g,0,none⟩)
 | 2=>v=.slice (some ⟨gl,0,none⟩) nL cl
 | 3=>v=.int .i64 (nL:Int)
 | 4=>QN nL v
 | 5=>PL gl nL v
 | 6=>TS v
 | 7=>LS base v wv
 | 8=>v=.pointer (some ⟨g,0,none⟩)
 | 9=>QN 4 v
 | 10=>PS base v wv
 | 11=>WS v
 | 12=>TS v
 | _=>True
theorem V6t.step {g gl nL cl base:Nat} (hg:g < base) (i:Nat) (v:Value) (w1 w2:World) (h:V6t g gl nL cl base i v w1) (hE:Step g w1 w2):V6t g gl nL cl base i v w2:=by
 match i with
 | 0|1|2|3|4|5|6|8|9|11|12=>exact h
 | 7=>obtain⟨b,h1,h2,h3⟩:=h;exact⟨b,h1,h2,(heap_step hE (by omega) (Array.getElem?_eq_some_iff.1 h3).1).trans h3⟩
 | 10=>obtain⟨b,q,t,h1,h2,h3,h4⟩:=h;exact⟨b,q,t,h1,h2,cell_step hE (by omega) h3,h4⟩
 | (n+13)=>trivial
def OwnK (ak:Option Addr) (K:List Int) (ck:Nat) (b:Nat):Prop:=(Value.slice ak K.length ck).ownBlock=some b
def V29 (w0:World) (g gt cap nT:Nat) (ak:Option Addr) (ck:Nat) (K:List Int) (base:Nat) (PP:Int) (u:Value) (vs:List Nc) (T:List Nd):Nat→Value→World→Prop:=fun i v wv=>match i with
 | 0=>v=.slice (some ⟨gt,0,none⟩) nT cap
 | 1=>v=.slice (some ⟨gt,0,none⟩) nT cap
 | 2=>v=.pointer (some ⟨gt,0,none⟩)
 | 3=>v=.pointer (some ⟨gt,6,none⟩)
 | 4=>v=.slice ak K.length ck
 | 5=>v=.slice (some ⟨gt,0,none⟩) nT cap
 | 6=>v=.int .i64 nT
 | 7=>∃b,v=.slice (some ⟨b,0,none⟩) 3 3∧base≤b∧wv.heap[b]?=some (.cells #[.int .i64 0,.int .i64 nT,.int .i64 (-1)] 3)
 | 8=>v=.pointer (some ⟨g,0,none⟩)
 | 9=>QN 3 v∧Src g (PP+1) wv
 | 10=>∃b q c,v=.pointer (some ⟨b,q,none⟩)∧base≤b∧wv.cell? ⟨b,q,none⟩=some (.int .i64 c)
 | 11=>∃c:Int,v=.int .i64 c
 | 12=>∃b c,v=.slice (some ⟨b,0,none⟩) 1 1∧base≤b∧wv.heap[b]?=some (.cells #[.int .i64 c] 3)
 | 13=>∃(K':List Int) (a':Option Addr) (c':Nat) (w5:World),v=.slice a' K'.length c'∧K'.length=K.length+1∧SepM (fun b=>b=g) w0 w5 [plNd u vs T]∧Chg (fun b=>b=g∨OwnK ak K ck b) w5 wv∧wv.ownsRow 0 3 1 v K'.length (K'.flatMap encInt1)∧(∀b,v.ownBlock=some b→OwnK ak K ck b∨w5.heap.size≤b)
 | 14=>SepM (fun b=>b=g) w0 wv [plNd u vs T]
 | 15=>Src g PP wv
 | _=>True
theorem V29.ext {w0:World} {g gt cap nT:Nat} {ak:Option Addr} {ck:Nat} {K:List Int} {base:Nat} {PP:Int} {u:Value} {vs:List Nc} {T:List Nd} (i:Nat) (v:Value) (w1 w2:World) (h:V29 w0 g gt cap nT ak ck K base PP u vs T i v w1) (hE:Ext w1 w2):V29 w0 g gt cap nT ak ck K base PP u vs T i v w2:=by
 match i with
 | 0|1|2|3|4|5|6|8|11=>exact h
 | 7=>obtain⟨b,h1,h2,h3⟩:=h;exact⟨b,h1,h2,heapx hE h3⟩
 | 9=>exact⟨h.1,h.2.ext hE⟩
 | 10=>obtain⟨b,q,c,h1,h2,h3⟩:=h;exact⟨b,q,c,h1,h2,cell_ext hE h3⟩
 | 12=>obtain⟨b,c,h1,h2,h3⟩:=h;exact⟨b,c,h1,h2,heapx hE h3⟩
 | 13=>obtain⟨K',a',c',w5,h1,h2,h3,h4,h5,h6⟩:=h;exact⟨K',a',c',w5,h1,h2,h3,h4.trans (Chg.of_ext hE),ownsRow_ext h5 hE,h6⟩
 | 14=>exact SepM.step (show SepM _ w0 w1 _ from h) hE
 | 15=>exact Src.ext (show Src _ _ w1 from h) hE
 | (n+16)=>trivial
theorem SepM.nd_pin {M:Nat→Prop} {w0 w:World} {H:List Pl} (S:SepM M w0 w H) (i:Nat) {g n cap:Nat} {vs:List Nc} {T:List Nd} {k:Nat} {c:Nc} {x:Nd} (h:H[i]?=some (plNd (.slice (some ⟨g,0,none⟩) n cap) vs T)) (hc:vs[k]?=some c) (hx:T[k]?=some x) :
  w.ownsRow 0 9 1 (.slice c.an x.N.length c.cn) x.N.length (x.N.flatMap encStr1)∧w.ownsRow 0 3 1 (.slice c.ak x.K.length c.ck) x.K.length (x.K.flatMap encInt1)∧(∀b,((Value.slice c.an x.N.length c.cn).ownBlock=some b∨(Value.slice c.ak x.K.length c.ck).ownBlock=some b)→b≠g∧w0.heap.size≤b∧b < w.heap.size):=by
 obtain⟨h1,h2,h3,h4,h5⟩:=S.at_ i h;obtain⟨e1,p1,p2,p3⟩:=h3 k c x hc hx;subst e1;refine⟨p1,p2,fun b hb=>⟨fun e=>h4 c (List.mem_of_getElem? hc) b hb (by rw[e];rfl),S.lt (List.mem_of_getElem? h) (show(plNd (.slice (some ⟨g,0,none⟩) n cap) vs T).own b from .inr ⟨c,List.mem_of_getElem? hc,hb⟩)⟩⟩
def txts:List ByteArray:=[⟨#[]⟩,⟨#[104,105]⟩,⟨#[104,101,108,108,111]⟩]
theorem txts_len:txts.length=3:=rfl
theorem txts_fit:∀t∈txts,t.size≤5:=by decide
def DrawnT2 (g:Nat) (P:Int) (w:World) (e:Ending) (w':World):Prop:=∃u vs T,e=.returned u∧T.length≤100∧(∀x∈T,SmN 200000 x∧x.N.length≤20)∧Src g P w'∧SepM (fun b=>b=g) w w' [plNd u vs T]
theorem DrawnT2.mk {g:Nat} {P P':Int} {w w':World} {u:Value} {vs:List Nc} {T:List Nd} (hl:T.length≤100) (h:∀x∈T,SmN 200000 x∧x.N.length≤20) (hs:Src g P' w') (hP:P'≤P) (S:SepM (fun b=>b=g) w w' [plNd u vs T]):DrawnT2 g P w (.returned u) w':=⟨u,vs,T,rfl,hl,h,hs.mono hP,S⟩
theorem sm_two {x:Nd} (h:SmN 100000 x):SmN 200000 x:=⟨by have:=h.1;omega,by have:=h.2.1;omega,fun s hs=>by have:=h.2.2.1 s hs;omega,by have:=h.2.2.2;omega⟩
theorem sm_put {T:List Nd} {k:Nat} {x x':Nd} (h:∀x∈T,SmN 100000 x) (hx:T[k]?=some x) (ht:x'.text=x.text) (hN:x'.N=x.N) (hK:x'.K=x.K):∀y∈T.set k x',SmN 200000 y:=fun y hy=>by
 rcases List.mem_or_eq_of_mem_set hy with hy|rfl
 ·exact sm_two (h y hy)
 ·have h1:=sm_two (h x (List.mem_of_getElem? hx));unfold SmN at h1 ⊢;rw[ht,hN,hK];exact h1
theorem sm_put20 {T:List Nd} {k:Nat} {x x':Nd} (h:∀x∈T,SmN 100000 x) (h2:∀x∈T,x.N.length≤20) (hx:T[k]?=some x) (ht:x'.text=x.text) (hN:x'.N=x.N) (hK:x'.K=x.K):∀y∈T.set k x',SmN 200000 y∧y.N.length≤20:=fun y hy=>⟨sm_put h hx ht hN hK y hy,by
 rcases List.mem_or_eq_of_mem_set hy with hy|rfl
 ·exact h2 y hy
 ·rw[hN];exact h2 x (List.mem_of_getElem? hx)⟩
def two99:List Int:=[-1,100]
theorem two99_len:two99.length=2:=rfl
theorem drawTree2 (g:Nat) (P n:Int) (w:World) (hs:Src g P w) (hP:P≤700000) (hn:n≤1000000) :
  Calls Tryz.prog 95 #[.pointer (some ⟨g,0,none⟩),.int .i64 n] w (DrawnT2 g (P+400) w):=by
 have hg:=hs.lt
 have hall:∀x∈([511,493,1023]:List Int),inB x 0 1023=true:=by decide
 have Hall:=hd0 hall;clear hall
 go_enter Tryz.func95,Tryz.ntmps95
 have S:=SepM.begin (fun b=>b=g) w (fun b h=>h ▸ hg);replace S:SepM (fun b=>b=g) w (w.alloc (.cells #[.int .i64 511,.int .i64 493,.int .i64 1023] 3)) [plRow 3 1 encInt1 (.slice (some ⟨w.heap.size,0,none⟩) 3 3) ([511,493,1023]:List Int)]:=S.lit (by simp) _ _ encInt1_len ([511,493,1023]:List Int) rfl rfl (by omega);have hs1:Src g P (w.alloc (.cells #[.int .i64 511,.int .i64 493,.int .i64 1023] 3)):=hs.ext ((Ext.refl w).alloc _);have hll:([511,493,1023]:List Int).length=3:=rfl
 go_wp2_with fail
 generalize (w.alloc (.cells #[.int .i64 511,.int .i64 493,.int .i64 1023] 3))=w1 at *;generalize ([511,493,1023]:List Int)=L3 at *;refine(pick_any g P 3 _ hs1 (by omega)).mono ?_;rintro e w2 ⟨v,rfl,⟨i,rfl,x0,x1,_⟩,hs2,hS⟩;replace S:=S.other (Chg.of_step hS);replace x1:=x1 (by omega);obtain⟨k3,rfl⟩:∃k:Nat,i=k:=⟨i.toNat,by omega⟩;obtain⟨md0,hmd0,hcell⟩:=lit_at (S.rd 0 encInt1_len rfl hll.symm) (k:=k3) (by omega)
 have c0:w2.cell? ⟨w.heap.size,k3,none⟩=some (.int .i64 md0):=by have:=hcell 0 _ rfl;simpa using this
 have hM:=Hall.out md0 hmd0;have SD:=S.drop 0;clear hcell hS hs1 hs hmd0 S x0;have S:SepM (fun b=>b=g) w w2 []:=SD;clear SD
 go_wp2_with fail
 refine(specNewTree md0 w2 hM).mono ?_;rintro e w3 ⟨u0,vs0,rfl,S2⟩;replace S:=S.call S2;have hs3:=hs2.ext S2.ext;have HT0:=hd0 (root_tree hM);clear S2 hs2 c0 x1 hll hM
 go_wp2_with fail
 refine(pick_any g (P+1) 8 _ hs3 (by omega)).mono ?_;rintro e w4 ⟨v,rfl,⟨i,rfl,x0,x1,_⟩,hs4,hS⟩;replace S:=S.other (Chg.of_step hS);replace x1:=x1 (by omega);obtain⟨k0,rfl⟩:∃k:Nat,i=k:=⟨i.toNat,by omega⟩
 have hk7:k0≤7:=by omega
 clear hS hs3 x0 x1;go_wp2
 go_loopw [5,6,7,8,9,10,11,12] (fun t i _ _ _ _ _ _ wr=>∃(k:Nat) (u:Value) (vs:List Nc) (T:List Nd),k≤7∧i=.int .i64 k∧u=t∧TreeOk T∧NB (2*(7 - k)) T∧Src g (P+310 - 40*(k:Int)) wr∧SepM (fun b=>b=g) w wr [plNd u vs T]) (fun _ i _ _ _ _ _ _ _=>(intOf i).toNat)
 case atStart=>exact⟨k0,u0,vs0,[rootNd md0],hk7,rfl,rfl,HT0.out,fun x hx=>by rw[List.mem_singleton.1 hx];exact Nat.zero_le _,hs4.mono (by omega),S⟩
 case round =>
  clear S hs4 hk7;obtain⟨k,u,vs,T,hk7,rfl,rfl,hTr,hNB,hs,S⟩:=hrel;have HTr:=hd0 hTr;have HNB:=hd0 hNB;clear hNB;have hmax:=hTr.max;have hpos:=hTr.pos;obtain⟨r,hr⟩:∃r,T[0]?=some r:=⟨T[0],List.getElem?_eq_getElem (by omega)⟩;obtain⟨_,gt,cap,rfl,hcap,_,_,_,_,_,_,_,_,_,_⟩:=S.ndAt 0 rfl hr;clear hTr hr
  by_cases h0:0 < k
  ·obtain⟨m,rfl⟩:∃m,k=m+1:=⟨k - 1,by omega⟩
   have h0':(0:Int) < ((m+1:Nat):Int):=by omega
   have hw2:IntKind.i64.wrap ((m:Int)+1 - 1)=(m:Int):=by rw[show(m:Int)+1 - 1=m by omega];exact IntWalk.i64_in _ (by omega)
   have hw:IntKind.i64.wrap (((m+1:Nat):Int) - 1)=(m:Int):=by rw[show((m+1:Nat):Int) - 1=m by omega];exact IntWalk.i64_in _ (by omega)
   have HSm:=hd0 (tree_sm HTr.out HNB.out (by omega))
   go_wp2_with fail
   refine(specPathsOf (some ⟨gt,0,none⟩) cap T _ (by omega) (fun x hx=>sm_more (HSm.out x hx)) HTr.out (fun x hx=>by have:=HNB.out x hx;omega) (S.rdN 0 rfl)).mono ?_;rintro e w2 ⟨up,L,rfl,hL1,hL2,hL3,S2⟩;have HL3:=hd0 hL3;have hs2a:=hs.ext S2.ext;replace S:=S.call S2;clear S2 hL3 hs;have hrow:=S.row 0 rfl;obtain⟨al,cl,rfl,hcl,hrL,hsh⟩:=view_owns encStr1_len hrow;obtain⟨gl,rfl⟩:=row_blk encStr1_len hrow (by omega);have hgl:=S.lt (p:=plRow 9 1 encStr1 (.slice (some ⟨gl,0,none⟩) L.length cl) L) (List.mem_cons_self ..) (show(plRow 9 1 encStr1 (.slice (some ⟨gl,0,none⟩) L.length cl) L).own gl from rfl);have HrL:Hid (∀wv,Step g w2.drew wv→Rd 1 encStr1 wv (some ⟨gl,0,none⟩) L):=hd0 (fun wv hE=>(hrL.ext (Ext.refl w2).drew).step hE (fun _ b off h=>by cases h;omega));clear hrow hrL hsh;obtain⟨PP,hPP⟩:∃PP,PP=P+310 - 40*((m+1:Nat):Int):=⟨_,rfl⟩
   have hs2:Src g PP w2:=by rw[hPP];exact hs2a
   have hPPb:PP≤800000:=by omega
   have HPP:=hd0 hPP;clear hs2a hPP;have hgw2:g < w2.heap.size:=hs2.lt
   go_upto_region 6 with fail
   refine wp_region_s (Step g) (fun k wv=>Src g (PP+(k:Int)) wv) 13 (V:=V6t g gl L.length cl w2.heap.size) rfl (by decide) (by kernel_rfl) (by kernel_rfl) (by kernel_rfl) (Step.refl _ _) (fun _ _ _ h k=>h.trans k) ((hs2.mono (by omega)).ext (Ext.refl _).drew) (fun i v w3 w4 h hE=>V6t.step hgw2 i v w3 w4 h hE) ?_ ?_
   ·intro i o hi ho k hk vz w4 hvl hE hsk hd;have hsk1:Src g (PP+((k+1:Nat):Int)) w4:=hsk.mono (by omega);have hsz:w2.heap.size≤w4.heap.size:=hE.size
    match vz,hvl with
    | [y0,y1,y2,y3,y4,y5,y6,y7,y8,y9,y10,y11,y12],_ =>
    rcases lc13 hi with rfl|rfl|rfl|rfl|rfl|rfl|rfl|rfl|rfl|rfl|rfl|rfl|rfl
    all_goals
     obtain rfl:=Option.some.inj ho;simp[Waits,Region.binds]at hd
    ·simp[putAll,Act.put];go_wp2;exact⟨rfl,_,rfl,rfl,Step.refl _ _,hsk1⟩
    ·simp[putAll,Act.put];go_wp2;exact⟨rfl,_,rfl,rfl,Step.refl _ _,hsk1⟩
    ·simp[putAll,Act.put];go_wp2;exact⟨rfl,_,rfl,rfl,Step.refl _ _,hsk1⟩
    ·have e2:y2=.slice (some ⟨gl,0,none⟩) L.length cl:=hd;subst e2;simp[putAll,Act.put];go_wp2;exact⟨rfl,_,rfl,rfl,Step.refl _ _,hsk1⟩
    ·have hd2:y1=.pointer (some ⟨g,0,none⟩)∧y3=.int .i64 (L.length:Int):=hd;obtain⟨e1,e3⟩:=hd2;subst e1 e3;simp[putAll,Act.put]
     go_wp2_with fail
     refine(pick_any g _ (L.length:Int) w4 hsk (by omega)).mono ?_;rintro e w5 ⟨v5,rfl,⟨z,rfl,z0,z1,_⟩,hs5,hS5⟩;have hs6:Src g (PP+((k+1:Nat):Int)) w5:=hs5.mono (by omega);have hz:=z1 (by omega);clear z1;obtain⟨q,rfl⟩:∃q:Nat,z=q:=⟨z.toNat,by omega⟩;go_wp2;exact⟨rfl,_,rfl,⟨q,rfl,by omega⟩,hS5,hs6⟩
    ·have hd2:y0=.slice (some ⟨gl,0,none⟩) L.length cl∧QN L.length y4:=hd;obtain⟨e0,q,e4,hq⟩:=hd2;subst e0 e4
     have hq2:(q:Int) < (L.length:Int):=by omega
     simp[putAll,Act.put];go_wp2;exact⟨rfl,_,rfl,⟨q,rfl,hq⟩,Step.refl _ _,hsk1⟩
    ·have hd2:PL gl L.length y5:=hd;obtain⟨q,e5,hq⟩:=hd2;subst e5;obtain⟨s,b,off,hsl,hb,c0⟩:=atStr (HrL.out w4 hE) hq
     obtain⟨rfl,rfl⟩:gl=b∧0=off:=by simpa using hb
     rw[Nat.zero_add]at c0;have hs54:=HL3.out s (List.mem_of_getElem? hsl);clear hsl hb;simp[putAll,Act.put];go_wp2;exact⟨rfl,_,rfl,⟨s,rfl,hs54⟩,Step.refl _ _,hsk1⟩
    ·simp[putAll,Act.put];go_wp2;exact⟨rfl,_,rfl,⟨_,rfl,hsz,heap_alloc_new w4 _⟩,(Step.refl _ _).alloc _,hsk1.ext ((Ext.refl _).alloc _)⟩
    ·simp[putAll,Act.put];go_wp2;exact⟨rfl,_,rfl,rfl,Step.refl _ _,hsk1⟩
    ·have e8:y8=.pointer (some ⟨g,0,none⟩):=by first|exact hd|exact hd.1|exact hd.2
     subst e8;simp[putAll,Act.put]
     go_wp2_with fail
     refine(pick_any g _ 4 w4 hsk (by omega)).mono ?_;rintro e w5 ⟨v5,rfl,⟨z,rfl,z0,z1,_⟩,hs5,hS5⟩;have hs6:Src g (PP+((k+1:Nat):Int)) w5:=hs5.mono (by omega);have hz:=z1 (by omega);clear z1;obtain⟨q,rfl⟩:∃q:Nat,z=q:=⟨z.toNat,by omega⟩;go_wp2;exact⟨rfl,_,rfl,⟨q,rfl,by omega⟩,hS5,hs6⟩
    ·have hd2:LS w2.heap.size y7 w4∧QN 4 y9:=hd;obtain⟨⟨b7,e7,hb7,hh7⟩,q,e9,hq⟩:=hd2;subst e7 e9
     have hq2:(q:Int) < 4:=by omega
     obtain⟨t,ht,hc7⟩:=ls_at hh7 hq;clear hh7;simp[putAll,Act.put];go_wp2;exact⟨rfl,_,rfl,⟨b7,q,t,rfl,hb7,hc7,ht⟩,Step.refl _ _,hsk1⟩
    ·have hd2:PS w2.heap.size y10 w4:=hd;obtain⟨b7,q,t,e10,hb7,hc7,ht⟩:=hd2;subst e10;simp[putAll,Act.put];go_wp2;exact⟨rfl,_,rfl,⟨t,rfl,ht⟩,Step.refl _ _,hsk1⟩
    ·have hd2:TS y6∧WS y11:=by first|exact hd|exact⟨hd.1,hd.2.1⟩
     obtain⟨⟨s,e6,hs6⟩,t,e11,ht1,ht2,ht3⟩:=hd2;subst e6 e11;have HF:=hd0 (specFollowWay s t w4 (by omega) (by omega) ht2 ht3);clear ht3 ht2;simp[putAll,Act.put]
     go_wp2_with fail
     refine HF.out.mono ?_;rintro e w5 ⟨r,rfl,hr,hE5⟩;go_wp2;exact⟨rfl,_,rfl,⟨r,rfl,hr⟩,Step.of_ext hE5,hsk1.ext hE5⟩
   ·intro vz w3 hvl hE hs3 hV
    match vz,hvl with
    | [y0,y1,y2,y3,y4,y5,y6,y7,y8,y9,y10,y11,y12],_ =>
    have h12:TS y12:=hV 12 (by omega);obtain⟨pth,e12,hpth⟩:=h12;subst e12;clear hV;have Sx:=S.other ((Chg.of_ext (Ext.refl w2).drew).trans (Chg.of_step hE));clear S hE;simp only[putAll,Act.put,List.take_succ_cons,List.take_zero,List.drop_succ_cons,List.drop_zero];simp
    go_wp2_with fail
    replace hs3:Src g (PP+13) w3:=hs3.mono (by omega);refine(pick_any g (PP+13) 2 _ hs3 (by omega)).mono ?_;rintro e w4 ⟨v,rfl,⟨q2,rfl,_,_,_⟩,hs4,hS⟩;replace Sx:=Sx.other (Chg.of_step hS);clear hS hs3
    go_wp2_with fail
    refine(drawMode g (PP+14) 0 _ (hs4.mono (by omega)) (by omega) (by omega)).mono ?_;rintro e w5 ⟨v,rfl,⟨md,rfl⟩,hs5,hS⟩;replace Sx:=Sx.other (Chg.of_step hS);clear hS hs4;generalize (q2 == 0)=fo
    go_wp2_with fail
    refine(specMakeNode (some ⟨gt,0,none⟩) cap T ⟨0,0,0,0⟩ pth fo md w5 (by omega) (by omega) (fun x hx=>sm_more (HSm.out x hx)) (Sx.rdN 1 rfl)).mono ?_;rintro e w6 ⟨ux,vsx,rfl,S6⟩;have hs6:Src g (PP+19) w6:=(hs5.ext S6.ext).mono (by omega);replace Sx:=Sx.call S6;have hMk:=makeNode_ok T ⟨0,0,0,0⟩ pth fo md;have hNBx:=makeNode_nb HNB.out ⟨0,0,0,0⟩ pth fo md;clear S6 hs5;generalize makeNode T ⟨0,0,0,0⟩ pth fo md=R at *;obtain⟨Tx,fx⟩:=R;dsimp only at hMk hNBx Sx ⊢
    rcases hMk with⟨h1,_,hTx,hlen,g5,hlast⟩|⟨h1,_⟩
    rotate_left
    ·have tf:(fx == 0)=false:=by simpa using h1
     have S:SepM (fun b=>b=g) w w6 [plNd (.slice (some ⟨gt,0,none⟩) T.length cap) vs T,plRow 9 1 encStr1 (.slice (some ⟨gl,0,none⟩) L.length cl) L]:=(Sx.drop 0).perm (List.Perm.swap _ _ _);clear Sx h1 hNBx;have HT9:=HTr;have HNB9:Hid (NB (2*(7 - (m+1))+1) T):=hd0 (fun x hx=>by have:=HNB.out x hx;omega);have hs9:=hs6;obtain⟨T9,hT9⟩:∃T9,T9=T:=⟨_,rfl⟩;obtain⟨vs9,hv9⟩:∃vs9,vs9=vs:=⟨_,rfl⟩;obtain⟨g9,hg9⟩:∃g9,g9=gt:=⟨_,rfl⟩;obtain⟨cap9,hc9⟩:∃cap9,cap9=cap:=⟨_,rfl⟩;subst hT9 hv9 hg9 hc9
     go_wp2_with fail
     refine(pick_any g (PP+19) 4 _ hs9 (by omega)).mono ?_;rintro e wp ⟨v,rfl,⟨q4,rfl,_,_,_⟩,hsp,hS⟩;replace S:=S.other (Chg.of_step hS);clear hS hs9
     by_cases h4:q4=0
     ·subst h4
      go_wp2_with fail
      refine(pick_any g (PP+19+1) (L.length:Int) _ hsp (by omega)).mono ?_;rintro e wq ⟨v,rfl,⟨q5,rfl,y0,y1,_⟩,hsq,hS⟩;replace S:=S.other (Chg.of_step hS);replace y1:=y1 (by omega);obtain⟨k5,rfl⟩:∃k:Nat,q5=k:=⟨q5.toNat,by omega⟩;obtain⟨s5,b5,o5,hs5,hb5,c5⟩:=atStr (S.rd 1 encStr1_len rfl rfl) (show k5 < L.length by omega)
      obtain⟨rfl,rfl⟩:gl=b5∧0=o5:=by simpa using hb5
      rw[Nat.zero_add]at c5;have h54:=HL3.out s5 (List.mem_of_getElem? hs5)
      have hq5:(k5:Int) < (L.length:Int):=by omega
      clear hS hs5 hb5 hsp y0 y1
      go_wp2_with fail
      refine(specLinkName (some ⟨g9,0,none⟩) cap9 T9 ⟨0,0,0,0⟩ s5 ⟨#[47,98]⟩ wq (by omega) (by decide) (by omega) (fun x hx=>sm_more (tree_sm HT9.out HNB9.out (by omega) x hx)) (S.rdN 0 rfl)).mono ?_;rintro e wl ⟨uy,vsy,rfl,S6⟩;have hsl:=hsq.ext S6.ext;replace S:=S.call S6;have hLk:=linkName_ok T9 ⟨0,0,0,0⟩ s5 ⟨#[47,98]⟩;have hNBy:=linkName_nb HNB9.out ⟨0,0,0,0⟩ s5 ⟨#[47,98]⟩;clear S6 c5 hq5;generalize linkName T9 ⟨0,0,0,0⟩ s5 ⟨#[47,98]⟩=R9 at *;obtain⟨Ty,fy⟩:=R9;dsimp only at hLk hNBy S ⊢
      rcases hLk with⟨h1,_,hTy,_⟩|⟨h1,_⟩
      ·subst h1;have HTy:=hd0 hTy;have HNy:=hd0 hNBy;have HSF:=hd0 ((S.drop 2).drop 1);clear S hTy hNBy;go_wp2;go_roundw
       case rel=>exact⟨m,uy,vsy,Ty,by omega,by first|rfl|go_num,rfl,HTy.out,fun x hx=>by have:=HNy.out x hx;omega,hsl.mono (by have:=HPP.out;omega),HSF.out⟩
       case measure=>simp[intOf]
      ·have tf:(fy == 0)=false:=by simpa using h1
       have HSF:=hd0 ((S.drop 2).drop 0);clear S h1 hNBy;go_wp2;go_roundw
       case rel=>exact⟨m,_,vs9,T9,by omega,by first|rfl|go_num,rfl,HT9.out,fun x hx=>by have:=HNB9.out x hx;omega,hsl.mono (by have:=HPP.out;omega),HSF.out⟩
       case measure=>simp[intOf]
     ·have tf:(q4 == 0)=false:=by simpa using h4
      have HSF:=hd0 (S.drop 1);clear S h4;go_wp2;go_roundw
      case rel=>exact⟨m,_,vs9,T9,by omega,by first|rfl|go_num,rfl,HT9.out,fun x hx=>by have:=HNB9.out x hx;omega,hsp.mono (by have:=HPP.out;omega),HSF.out⟩
      case measure=>simp[intOf]
    ·subst h1;have HTx:=hd0 hTx;have HNBx:=hd0 hNBx;have HLast:=hd0 hlast;have HLen:=hd0 hlen
     have hx17:Tx.length≤17:=by omega
     have hN0:=hTx.nodes T.length _ hlast;have HNz:Hid (∀(a b:Int) (t:ByteArray),(0≤a∧a≤99∧0≤b∧b≤7∧t.size≤40∧(fo=true→t.size=0))→NodeOk ⟨fo,a,b,md,t,[],[]⟩ Tx.length):=hd0 (fun a b t h=>⟨inB_iff.2 ⟨h.1,h.2.1⟩,inB_iff.2 ⟨h.2.2.1,h.2.2.2.1⟩,hN0.mode,rfl,fun _=>rfl,fun hf=>isEmpty_size.2 (h.2.2.2.2.2 hf),h.2.2.2.2.1,fun k hk=>absurd hk (Nat.not_lt_zero _)⟩)
     have hwl:IntKind.i64.wrap ((Tx.length:Int) - 1)=(T.length:Int):=by rw[show(Tx.length:Int) - 1=T.length by omega];exact IntWalk.i64_in _ (by omega)
     have hil:(T.length:Int) < (Tx.length:Int):=by omega
     clear hTx hNBx hN0;obtain⟨_,gx,capx,rfl,hcapx,_,_,_,_,_,_,_,_,_,_⟩:=Sx.ndAt 0 rfl hlast;clear hlast hlen;have hgx:w.heap.size≤gx:=(Sx.lt (p:=plNd (.slice (some ⟨gx,0,none⟩) Tx.length capx) vsx Tx) (List.mem_cons_self ..) (show(plNd (.slice (some ⟨gx,0,none⟩) Tx.length capx) vsx Tx).own gx from .inl rfl)).1
     have hggx:g < gx:=by omega
     go_wp2_with fail
     refine(drawUser g (PP+19) _ hs6 (by omega)).mono ?_;rintro e w7 ⟨v,rfl,⟨us,rfl,us0,us1⟩,hs7,hS⟩;replace Sx:=Sx.other (Chg.of_step hS);clear hS hs6;obtain⟨c7,gx',capx',hu7,_,hc7,hn7,hcell,hfz,_⟩:=Sx.ndAt 0 rfl HLast.out
     obtain⟨rfl,rfl⟩:gx=gx'∧capx=capx':=by simpa using hu7
     obtain⟨n7,an7,cn7,ak7,ck7⟩:=c7;dsimp only at hn7;subst hn7;have c1:w7.cell? ⟨gx,T.length*7+1,none⟩=some (.int .i64 0):=hcell 1 _ rfl;have S8:=Sx.ndSet 0 rfl hc7 HLast.out (x':=⟨fo,us,g5,md,⟨#[]⟩,[],[]⟩) 1 (.int .i64 us) (by omega) rfl rfl rfl;have hs8:=hs7.setCell (p:=⟨gx,T.length*7+1,none⟩) hggx (.int .i64 us);have HS8:=hd0 S8;clear hcell hu7 Sx hc7 S8 hs7
     go_upto_region 11 with fail
     have Sx:=HS8.out;clear HS8 c1 hfz;generalize (w7.setCell ⟨gx,T.length*7+1,none⟩ (.int .i64 us))=w8 at *;have HL8:Hid ((Tx.set T.length ⟨fo,us,g5,md,⟨#[]⟩,[],[]⟩)[T.length]?=some (⟨fo,us,g5,md,⟨#[]⟩,[],[]⟩:Nd)):=hd0 (by rw[List.getElem?_set_self (by have:=HLen.out;omega)])
     go_wp2_with fail
     refine(pick_any g (PP+20) 3 _ (hs8.mono (by omega)) (by omega)).mono ?_;rintro e w9 ⟨v,rfl,⟨q3,rfl,q30,q31,_⟩,hs9,hS⟩;replace Sx:=Sx.other (Chg.of_step hS);replace q31:=q31 (by omega);clear hS hs8;obtain⟨c9,gx',capx',hu9,_,hc9,hn9,hcell,hfz,_⟩:=Sx.ndAt 0 rfl HL8.out
     obtain⟨rfl,rfl⟩:gx=gx'∧capx=capx':=by simp only[Value.slice.injEq,Option.some.injEq,Addr.mk.injEq,and_true,true_and]at hu9;exact⟨hu9.1,hu9.2.2⟩
     obtain⟨n9,an9,cn9,ak9,ck9⟩:=c9;dsimp only at hn9;subst hn9;have c2:w9.cell? ⟨gx,T.length*7+2,none⟩=some (.int .i64 g5):=hcell 2 _ rfl;have S10:=Sx.ndSet 0 rfl hc9 HL8.out (x':=⟨fo,us,q3,md,⟨#[]⟩,[],[]⟩) 2 (.int .i64 q3) (by omega) rfl rfl rfl;have hs10:=hs9.setCell (p:=⟨gx,T.length*7+2,none⟩) hggx (.int .i64 q3);have HS10:=hd0 S10;clear hcell hu9 Sx hc9 S10 hs9
     go_upto_region 12 with fail
     have Sx:=HS10.out;clear HS10 c2 hfz HL8;obtain⟨vs9,hv9⟩:∃vs9,vs9=(vsx.set T.length (⟨⟨fo,us,g5,md,⟨#[]⟩,[],[]⟩,an7,cn7,ak7,ck7⟩:Nc)).set T.length (⟨⟨fo,us,q3,md,⟨#[]⟩,[],[]⟩,an9,cn9,ak9,ck9⟩:Nc):=⟨_,rfl⟩;obtain⟨T9,hT9⟩:∃T9,T9=(Tx.set T.length (⟨fo,us,g5,md,⟨#[]⟩,[],[]⟩:Nd)).set T.length (⟨fo,us,q3,md,⟨#[]⟩,[],[]⟩:Nd):=⟨_,rfl⟩
     have S:SepM (fun b=>b=g) w (w9.setCell ⟨gx,T.length*7+2,none⟩ (.int .i64 q3)) [plNd (.slice (some ⟨gx,0,none⟩) Tx.length capx) vs9 T9,plRow 9 1 encStr1 (.slice (some ⟨gl,0,none⟩) L.length cl) L]:=by rw[hv9,hT9];exact Sx.drop 2
     have hl9:Tx.length=T9.length:=by rw[hT9,List.length_set,List.length_set]
     rw[List.set_set]at hT9;have HE9:=hd0 hT9;have HL9:Hid (T9[T.length]?=some (⟨fo,us,q3,md,⟨#[]⟩,[],[]⟩:Nd)):=hd0 (by rw[HE9.out,List.getElem?_set_self (by have:=HLen.out;omega)]);clear Sx hv9 hT9;rw[hl9]at S hil hwl hx17 ⊢;have HLE:=hd0 hl9;clear hl9 HLen hcapx;generalize (w9.setCell ⟨gx,T.length*7+2,none⟩ (.int .i64 q3))=w10 at *;obtain⟨c10,gx',capx',hu10,_,hc10,hn10,hcell,hfz,_⟩:=S.ndAt 0 rfl HL9.out
     obtain⟨rfl,rfl⟩:gx=gx'∧capx=capx':=by simp only[Value.slice.injEq,Option.some.injEq,Addr.mk.injEq,and_true,true_and]at hu10;exact⟨hu10.1,hu10.2⟩
     obtain⟨n10,an10,cn10,ak10,ck10⟩:=c10;dsimp only at hn10;subst hn10;have c0:w10.cell? ⟨gx,T.length*7,none⟩=some (.bool fo):=hcell 0 _ rfl;obtain⟨g9,hg9⟩:∃g9,g9=gx:=⟨_,rfl⟩;obtain⟨cap9,hc9⟩:∃cap9,cap9=capx:=⟨_,rfl⟩;subst hg9 hc9;have hs9:Src g (PP+21) w10:=hs10.mono (by omega);clear hcell hu10 hs10
     cases fo with
     | true =>
      have HT9:Hid (TreeOk T9):=hd0 (by rw[HE9.out];exact tree_same HTx.out HLast.out rfl rfl (HNz.out us q3 ⟨#[]⟩ ⟨us0,us1,q30,by omega,Nat.zero_le _,fun _=>rfl⟩));have HNB9:Hid (NB (2*(7 - (m+1))+1) T9):=hd0 (by rw[HE9.out];exact nb_same HNBx.out HLast.out rfl);have hm9:=HT9.out.max
      go_upto_region 14 with fail
      clear c0 hfz hc10 HE9 HL9 HLE HTx HNBx HLast HNz
      go_wp2_with fail
      refine(pick_any g (PP+21) 4 _ hs9 (by omega)).mono ?_;rintro e wp ⟨v,rfl,⟨q4,rfl,_,_,_⟩,hsp,hS⟩;replace S:=S.other (Chg.of_step hS);clear hS hs9
      by_cases h4:q4=0
      ·subst h4
       go_wp2_with fail
       refine(pick_any g (PP+21+1) (L.length:Int) _ hsp (by omega)).mono ?_;rintro e wq ⟨v,rfl,⟨q5,rfl,y0,y1,_⟩,hsq,hS⟩;replace S:=S.other (Chg.of_step hS);replace y1:=y1 (by omega);obtain⟨k5,rfl⟩:∃k:Nat,q5=k:=⟨q5.toNat,by omega⟩;obtain⟨s5,b5,o5,hs5,hb5,c5⟩:=atStr (S.rd 1 encStr1_len rfl rfl) (show k5 < L.length by omega)
       obtain⟨rfl,rfl⟩:gl=b5∧0=o5:=by simpa using hb5
       rw[Nat.zero_add]at c5;have h54:=HL3.out s5 (List.mem_of_getElem? hs5)
       have hq5:(k5:Int) < (L.length:Int):=by omega
       clear hS hs5 hb5 hsp y0 y1
       go_wp2_with fail
       refine(specLinkName (some ⟨g9,0,none⟩) cap9 T9 ⟨0,0,0,0⟩ s5 ⟨#[47,98]⟩ wq (by omega) (by decide) (by omega) (fun x hx=>sm_more (tree_sm HT9.out HNB9.out (by omega) x hx)) (S.rdN 0 rfl)).mono ?_;rintro e wl ⟨uy,vsy,rfl,S6⟩;have hsl:=hsq.ext S6.ext;replace S:=S.call S6;have hLk:=linkName_ok T9 ⟨0,0,0,0⟩ s5 ⟨#[47,98]⟩;have hNBy:=linkName_nb HNB9.out ⟨0,0,0,0⟩ s5 ⟨#[47,98]⟩;clear S6 c5 hq5;generalize linkName T9 ⟨0,0,0,0⟩ s5 ⟨#[47,98]⟩=R9 at *;obtain⟨Ty,fy⟩:=R9;dsimp only at hLk hNBy S ⊢
       rcases hLk with⟨h1,_,hTy,_⟩|⟨h1,_⟩
       ·subst h1;have HTy:=hd0 hTy;have HNy:=hd0 hNBy;have HSF:=hd0 ((S.drop 2).drop 1);clear S hTy hNBy;go_wp2;go_roundw
        case rel=>exact⟨m,uy,vsy,Ty,by omega,by first|rfl|go_num,rfl,HTy.out,fun x hx=>by have:=HNy.out x hx;omega,hsl.mono (by have:=HPP.out;omega),HSF.out⟩
        case measure=>simp[intOf]
       ·have tf:(fy == 0)=false:=by simpa using h1
        have HSF:=hd0 ((S.drop 2).drop 0);clear S h1 hNBy;go_wp2;go_roundw
        case rel=>exact⟨m,_,vs9,T9,by omega,by first|rfl|go_num,rfl,HT9.out,fun x hx=>by have:=HNB9.out x hx;omega,hsl.mono (by have:=HPP.out;omega),HSF.out⟩
        case measure=>simp[intOf]
      ·have tf:(q4 == 0)=false:=by simpa using h4
       have HSF:=hd0 (S.drop 1);clear S h4;go_wp2;go_roundw
       case rel=>exact⟨m,_,vs9,T9,by omega,by first|rfl|go_num,rfl,HT9.out,fun x hx=>by have:=HNB9.out x hx;omega,hsp.mono (by have:=HPP.out;omega),HSF.out⟩
       case measure=>simp[intOf]
     | false =>
      replace S:SepM (fun b=>b=g) w (w10.alloc (.cells #[.string ⟨#[]⟩,.string ⟨#[104,105]⟩,.string ⟨#[104,101,108,108,111]⟩] 9)) [plRow 9 1 encStr1 (.slice (some ⟨w10.heap.size,0,none⟩) 3 3) txts,plNd (.slice (some ⟨g9,0,none⟩) T9.length cap9) vs9 T9,plRow 9 1 encStr1 (.slice (some ⟨gl,0,none⟩) L.length cl) L]:=S.lit (by simp) _ _ encStr1_len txts rfl rfl (by omega);have hsa:Src g (PP+21) (w10.alloc (.cells #[.string ⟨#[]⟩,.string ⟨#[104,105]⟩,.string ⟨#[104,101,108,108,111]⟩] 9)):=hs9.ext ((Ext.refl w10).alloc _)
      go_wp2_with fail
      generalize (w10.alloc (.cells #[.string ⟨#[]⟩,.string ⟨#[104,105]⟩,.string ⟨#[104,101,108,108,111]⟩] 9))=wa at *;clear c0 hfz hs9;refine(pick_any g (PP+21) 3 _ hsa (by omega)).mono ?_;rintro e wb ⟨v,rfl,⟨q6,rfl,z0,z1,_⟩,hsb,hS⟩;replace S:=S.other (Chg.of_step hS);replace z1:=z1 (by omega);obtain⟨k6,rfl⟩:∃k:Nat,q6=k:=⟨q6.toNat,by omega⟩;obtain⟨tx,htx,hcell⟩:=lit_at (S.rd 0 encStr1_len rfl txts_len.symm) (k:=k6) (by rw[txts_len];omega)
      have c5:wb.cell? ⟨w10.heap.size,k6,none⟩=some (.string tx):=by have:=hcell 0 _ rfl;simpa using this
      have htx5:=txts_fit tx htx;have hk63:(k6:Int) < 3:=z1;obtain⟨cA,gx',capx',huA,_,hcA,hnA,hcell2,hfz,_⟩:=S.ndAt 1 rfl HL9.out
      obtain⟨rfl,rfl⟩:g9=gx'∧cap9=capx':=by simp only[Value.slice.injEq,Option.some.injEq,Addr.mk.injEq,and_true,true_and]at huA;exact⟨huA.1,huA.2⟩
      obtain⟨nA,anA,cnA,akA,ckA⟩:=cA;dsimp only at hnA;subst hnA;have c4:wb.cell? ⟨g9,T.length*7+4,none⟩=some (.string ⟨#[]⟩):=hcell2 4 _ rfl;have S8:=S.ndSet 1 rfl hcA HL9.out (x':=⟨false,us,q3,md,tx,[],[]⟩) 4 (.string tx) (by omega) rfl rfl rfl;have hsc:=hsb.setCell (p:=⟨g9,T.length*7+4,none⟩) hggx (.string tx);have HS8:=hd0 (S8.drop 0);clear hcell hcell2 huA S S8 hsb hS hsa z0 z1 htx hc10
      go_upto_region 14 with fail
      clear c5 c4 hfz;generalize (wb.setCell ⟨g9,T.length*7+4,none⟩ (.string tx))=wc at *;obtain⟨TA,hTA⟩:∃TA,TA=T9.set T.length (⟨false,us,q3,md,tx,[],[]⟩:Nd):=⟨_,rfl⟩;obtain⟨vsA,hvA⟩:∃vsA,vsA=vs9.set T.length (⟨⟨false,us,q3,md,tx,[],[]⟩,anA,cnA,akA,ckA⟩:Nc):=⟨_,rfl⟩
      have S:SepM (fun b=>b=g) w wc [plNd (.slice (some ⟨g9,0,none⟩) T9.length cap9) vsA TA,plRow 9 1 encStr1 (.slice (some ⟨gl,0,none⟩) L.length cl) L]:=by rw[hvA,hTA];exact HS8.out
      have hlA:T9.length=TA.length:=by rw[hTA,List.length_set]
      rw[HE9.out,List.set_set]at hTA;have HT9:Hid (TreeOk TA):=hd0 (by rw[hTA];exact tree_same HTx.out HLast.out rfl rfl (HNz.out us q3 tx ⟨us0,us1,q30,by omega,by omega,fun h=>Bool.noConfusion h⟩));have HNB9:Hid (NB (2*(7 - (m+1))+1) TA):=hd0 (by rw[hTA];exact nb_same HNBx.out HLast.out rfl);have hm9:=HT9.out.max;have hs9:Src g (PP+22) wc:=hsc.mono (by omega);clear hTA hvA HS8 hsc hcA;rw[hlA]at S ⊢;clear hil hwl hx17 HE9 HL9 HLE HTx HNBx HLast HNz hlA
      go_wp2_with fail
      refine(pick_any g (PP+22) 4 _ hs9 (by omega)).mono ?_;rintro e wp ⟨v,rfl,⟨q4,rfl,_,_,_⟩,hsp,hS⟩;replace S:=S.other (Chg.of_step hS);clear hS hs9
      by_cases h4:q4=0
      ·subst h4
       go_wp2_with fail
       refine(pick_any g (PP+22+1) (L.length:Int) _ hsp (by omega)).mono ?_;rintro e wq ⟨v,rfl,⟨q5,rfl,y0,y1,_⟩,hsq,hS⟩;replace S:=S.other (Chg.of_step hS);replace y1:=y1 (by omega);obtain⟨k5,rfl⟩:∃k:Nat,q5=k:=⟨q5.toNat,by omega⟩;obtain⟨s5,b5,o5,hs5,hb5,c5⟩:=atStr (S.rd 1 encStr1_len rfl rfl) (show k5 < L.length by omega)
       obtain⟨rfl,rfl⟩:gl=b5∧0=o5:=by simpa using hb5
       rw[Nat.zero_add]at c5;have h54:=HL3.out s5 (List.mem_of_getElem? hs5)
       have hq5:(k5:Int) < (L.length:Int):=by omega
       clear hS hs5 hb5 hsp y0 y1
       go_wp2_with fail
       refine(specLinkName (some ⟨g9,0,none⟩) cap9 TA ⟨0,0,0,0⟩ s5 ⟨#[47,98]⟩ wq (by omega) (by decide) (by omega) (fun x hx=>sm_more (tree_sm HT9.out HNB9.out (by omega) x hx)) (S.rdN 0 rfl)).mono ?_;rintro e wl ⟨uy,vsy,rfl,S6⟩;have hsl:=hsq.ext S6.ext;replace S:=S.call S6;have hLk:=linkName_ok TA ⟨0,0,0,0⟩ s5 ⟨#[47,98]⟩;have hNBy:=linkName_nb HNB9.out ⟨0,0,0,0⟩ s5 ⟨#[47,98]⟩;clear S6 c5 hq5;generalize linkName TA ⟨0,0,0,0⟩ s5 ⟨#[47,98]⟩=R9 at *;obtain⟨Ty,fy⟩:=R9;dsimp only at hLk hNBy S ⊢
       rcases hLk with⟨h1,_,hTy,_⟩|⟨h1,_⟩
       ·subst h1;have HTy:=hd0 hTy;have HNy:=hd0 hNBy;have HSF:=hd0 ((S.drop 2).drop 1);clear S hTy hNBy;go_wp2;go_roundw
        case rel=>exact⟨m,uy,vsy,Ty,by omega,by first|rfl|go_num,rfl,HTy.out,fun x hx=>by have:=HNy.out x hx;omega,hsl.mono (by have:=HPP.out;omega),HSF.out⟩
        case measure=>simp[intOf]
       ·have tf:(fy == 0)=false:=by simpa using h1
        have HSF:=hd0 ((S.drop 2).drop 0);clear S h1 hNBy;go_wp2;go_roundw
        case rel=>exact⟨m,_,vsA,TA,by omega,by first|rfl|go_num,rfl,HT9.out,fun x hx=>by have:=HNB9.out x hx;omega,hsl.mono (by have:=HPP.out;omega),HSF.out⟩
        case measure=>simp[intOf]
      ·have tf:(q4 == 0)=false:=by simpa using h4
       have HSF:=hd0 (S.drop 1);clear S h4;go_wp2;go_roundw
       case rel=>exact⟨m,_,vsA,TA,by omega,by first|rfl|go_num,rfl,HT9.out,fun x hx=>by have:=HNB9.out x hx;omega,hsp.mono (by have:=HPP.out;omega),HSF.out⟩
       case measure=>simp[intOf]
  ·obtain rfl:k=0:=by omega
   have HSm:=hd0 (tree_sm HTr.out HNB.out (by omega));have HS20:Hid (∀x∈T,x.N.length≤20):=hd0 (fun x hx=>by have:=HNB.out x hx;omega);have hs0:Src g (P+310) wr:=hs.mono (by omega);clear h0 hs hcap
   have hggt:g < gt:=by have:=(S.lt (p:=plNd (.slice (some ⟨gt,0,none⟩) T.length cap) vs T) (List.mem_cons_self ..) (show(plNd (.slice (some ⟨gt,0,none⟩) T.length cap) vs T).own gt from .inl rfl)).1;omega
   obtain⟨r,hr⟩:∃r,T[0]?=some r:=⟨T[0],List.getElem?_eq_getElem (by omega)⟩;obtain⟨l,hl⟩:∃l,T.length=l+1:=⟨T.length - 1,by omega⟩;obtain⟨z,hz⟩:∃z,T[l]?=some z:=⟨T[l],List.getElem?_eq_getElem (by omega)⟩;have HR:=hd0 hr;have HZ:=hd0 hz;have HL:=hd0 hl
   have hwl:IntKind.i64.wrap ((T.length:Int) - 1)=(l:Int):=by rw[show(T.length:Int) - 1=l by omega];exact IntWalk.i64_in _ (by omega)
   have hil:(l:Int) < (T.length:Int):=by omega
   have hp0:(0:Int) < (T.length:Int):=by omega
   clear hr hz hl
   go_wp2_with fail
   refine(odd_any g (P+310) n _ hs0 (by omega) hn).mono ?_;rintro e w2 ⟨v,rfl,⟨b,rfl,_⟩,hs2,hS⟩;replace S:=S.other (Chg.of_step hS);clear hS hs0
   cases b with
   | false =>
    have HS:=hd0 S;go_wp2;go_ret;exact DrawnT2.mk (by omega) (fun x hx=>⟨sm_two (HSm.out x hx),HS20.out x hx⟩) hs2 (by omega) HS.out
   | true =>
    go_wp2_with fail
    refine(pick_any g (P+310+1) 6 _ hs2 (by omega)).mono ?_;rintro e w3 ⟨v,rfl,⟨q,rfl,q0,q1,_⟩,hs3a,hS⟩;have hs3:Src g (P+320) w3:=hs3a.mono (by omega);replace S:=S.other (Chg.of_step hS);replace q1:=q1 (by omega);clear hS hs2 hs3a
    rcases(show q=0∨q=1∨q=2∨q=3∨q=4∨q=5 by omega)with rfl|rfl|rfl|rfl|rfl|rfl
    ·have hvl:=plG_len (S.at_ 0 rfl)
     have hvs:vs.length≤100:=by omega
     clear hvl;have S5:SepM (fun b=>b=g) w w3 [pinNd.one (⟨newNd false 0 0 0,none,0,none,0⟩:Nc) (newNd false 0 0 0),plNd (.slice (some ⟨gt,0,none⟩) T.length cap) vs T]:=S.cons (p:=pinNd.one (⟨newNd false 0 0 0,none,0,none,0⟩:Nc) (newNd false 0 0 0)) (Ext.refl w3) (root_pin _ rfl rfl w3) (fun b hb=>absurd hb (root_own _ b));have SA:=S5.alloc #[.bool false,.int .i64 0,.int .i64 0,.int .i64 0,.string ⟨#[]⟩,.slice none 0 0,.slice none 0 0] 89;have hs4:=hs3.ext ((Ext.refl w3).alloc (.cells #[.bool false,.int .i64 0,.int .i64 0,.int .i64 0,.string ⟨#[]⟩,.slice none 0 0,.slice none 0 0] 89));have rd1:Rd 7 encNc (w3.alloc (.cells #[.bool false,.int .i64 0,.int .i64 0,.int .i64 0,.string ⟨#[]⟩,.slice none 0 0,.slice none 0 0] 89)) (some ⟨w3.heap.size,0,none⟩) [(⟨newNd false 0 0 0,none,0,none,0⟩:Nc)]:=rd_lit_new [(⟨newNd false 0 0 0,none,0,none,0⟩:Nc)] encNc_len rfl;have HSA:=hd0 SA;clear S S5 SA
     go_wp2_with (at_builtin;refine Hid.out (?_:Hid _))
     unfold Hid;refine wpList_append_b rfl _ _ 28 rfl w.heap.size 89 _ 7 _ Tryz.underlying28 infoNd rfl (by decide) encNc_len encNc_one _ vs.length vs rfl (HSA.out.gRow 2 rfl) rfl (some ⟨w3.heap.size,0,none⟩) 1 1 [(⟨newNd false 0 0 0,none,0,none,0⟩:Nc)] rfl rfl rd1 (by omega) (by omega) HSA.out.chg.size ?_;intro v7 w7 ho hgr hblk;have SM:=hd0 ((HSA.out.gPush 2 1 rfl rfl (by decide) hgr ho hblk).drop 0)
     have hs7:=hs4.row hgr (fun i hi=>by
      have e:gt=i:=Option.some.inj (show(Value.slice (some ⟨gt,0,none⟩) T.length cap).ownBlock=some i from hi)
      omega)
     clear ho hgr hblk rd1 HSA hs4 hs3;go_wp2;go_ret
     exact DrawnT2.mk (by rw[List.length_append];simp only[List.length_singleton];omega) (fun x hx=>by
      rcases List.mem_append.1 hx with hx|hx
      ·exact⟨sm_two (HSm.out x hx),HS20.out x hx⟩
      ·rw[List.mem_singleton.1 hx];exact⟨⟨Nat.zero_le _,Nat.zero_le _,fun s hs=>absurd (show s∈([]:List ByteArray)from hs) (by simp),Nat.zero_le _⟩,Nat.zero_le _⟩) hs7 (by omega) SM.out
    ·obtain⟨c7,gt',cap',hu7,_,hc7,hn7,hcell,hfz,_⟩:=S.ndAt 0 rfl HR.out
     obtain⟨rfl,rfl⟩:gt=gt'∧cap=cap':=by simp only[Value.slice.injEq,Option.some.injEq,Addr.mk.injEq,and_true,true_and]at hu7;exact⟨hu7.1,hu7.2⟩
     obtain⟨n7,an7,cn7,ak7,ck7⟩:=c7;dsimp only at hn7;subst hn7;have c0:w3.cell? ⟨gt,0,none⟩=some (.bool n7.fold):=hcell 0 _ rfl;have S8:SepM (fun b=>b=g) w (w3.setCell ⟨gt,0,none⟩ (.bool false)) [plNd (.slice (some ⟨gt,0,none⟩) T.length cap) _ (T.set 0 ⟨false,n7.own,n7.grp,n7.mode,n7.text,n7.N,n7.K⟩)]:=S.ndSet 0 rfl hc7 HR.out (x':=⟨false,n7.own,n7.grp,n7.mode,n7.text,n7.N,n7.K⟩) 0 (.bool false) (by omega) rfl rfl rfl;have hs8:=hs3.setCell (p:=⟨gt,0,none⟩) hggt (.bool false);have HS8:=hd0 S8;clear hcell hu7 S hc7 S8 hs3
     go_upto_region 32 with fail
     clear c0 hfz;generalize (w3.setCell ⟨gt,0,none⟩ (.bool false))=w8 at *;go_wp2;go_ret;refine DrawnT2.mk (by rw[List.length_set];omega) ?_ hs8 (by omega) HS8.out;exact sm_put20 HSm.out HS20.out HR.out rfl rfl rfl
    ·replace S:SepM (fun b=>b=g) w (w3.alloc (.cells #[.int .i64 (-1),.int .i64 100] 3)) [plRow 3 1 encInt1 (.slice (some ⟨w3.heap.size,0,none⟩) 2 2) two99,plNd (.slice (some ⟨gt,0,none⟩) T.length cap) vs T]:=S.lit (by simp) _ _ encInt1_len two99 rfl rfl (by omega);have hs4:Src g (P+320) (w3.alloc (.cells #[.int .i64 (-1),.int .i64 100] 3)):=hs3.ext ((Ext.refl w3).alloc _)
     go_wp2_with fail
     generalize (w3.alloc (.cells #[.int .i64 (-1),.int .i64 100] 3))=w4 at *;refine(pick_any g (P+320) 2 _ hs4 (by omega)).mono ?_;rintro e w5 ⟨v,rfl,⟨q2,rfl,z0,z1,_⟩,hs5,hS⟩;replace S:=S.other (Chg.of_step hS);replace z1:=z1 (by omega);obtain⟨k2,rfl⟩:∃k:Nat,q2=k:=⟨q2.toNat,by omega⟩;obtain⟨y,_,hcell⟩:=lit_at (S.rd 0 encInt1_len rfl two99_len.symm) (k:=k2) (by rw[two99_len];omega)
     have cy:w5.cell? ⟨w3.heap.size,k2,none⟩=some (.int .i64 y):=by have:=hcell 0 _ rfl;simpa using this
     clear hcell;replace S:=S.drop 0;obtain⟨c7,gt',cap',hu7,_,hc7,hn7,hcell,hfz,_⟩:=S.ndAt 0 rfl HZ.out
     obtain⟨rfl,rfl⟩:gt=gt'∧cap=cap':=by simp only[Value.slice.injEq,Option.some.injEq,Addr.mk.injEq,and_true,true_and]at hu7;exact⟨hu7.1,hu7.2⟩
     obtain⟨n7,an7,cn7,ak7,ck7⟩:=c7;dsimp only at hn7;subst hn7;have c0:w5.cell? ⟨gt,l*7+1,none⟩=some (.int .i64 n7.own):=hcell 1 _ rfl;have S8:=S.ndSet 0 rfl hc7 HZ.out (x':=⟨n7.fold,y,n7.grp,n7.mode,n7.text,n7.N,n7.K⟩) 1 (.int .i64 y) (by omega) rfl rfl rfl;have hs8:=hs5.setCell (p:=⟨gt,l*7+1,none⟩) hggt (.int .i64 y);have HS8:=hd0 S8;have hk22:(k2:Int) < 2:=z1;clear hcell hu7 S hc7 S8 hs5 hs4 hs3 hS z0 z1
     go_upto_region 32 with fail
     clear c0 cy hfz;generalize (w5.setCell ⟨gt,l*7+1,none⟩ (.int .i64 y))=w8 at *;go_wp2;go_ret;refine DrawnT2.mk (by rw[List.length_set];omega) ?_ hs8 (by omega) HS8.out;exact sm_put20 HSm.out HS20.out HZ.out rfl rfl rfl
    ·obtain⟨c7,gt',cap',hu7,_,hc7,hn7,hcell,hfz,_⟩:=S.ndAt 0 rfl HR.out
     obtain⟨rfl,rfl⟩:gt=gt'∧cap=cap':=by simp only[Value.slice.injEq,Option.some.injEq,Addr.mk.injEq,and_true,true_and]at hu7;exact⟨hu7.1,hu7.2⟩
     obtain⟨n7,an7,cn7,ak7,ck7⟩:=c7;dsimp only at hn7;subst hn7;obtain⟨pN,_,pO⟩:=S.nd_pin 0 rfl hc7 HR.out;have hs7:=HSm.out n7 (List.mem_of_getElem? HR.out);have hNl:n7.N.length≤100000:=hs7.2.1;have HS7:=hd0 hs7;have d5:w3.cell? ⟨gt,5,none⟩=some (.slice an7 n7.N.length cn7):=hcell 5 _ rfl;have f5:=hfz 5;have EA:=(Ext.refl w3).alloc (.cells #[.string ⟨#[122,122]⟩] 9);have SA:=S.step EA;have pN4:=ownsRow_ext pN EA;have rd1:Rd 1 encStr1 (w3.alloc (.cells #[.string ⟨#[122,122]⟩] 9)) (some ⟨w3.heap.size,0,none⟩) [(⟨#[122,122]⟩:ByteArray)]:=rd_lit_new [(⟨#[122,122]⟩:ByteArray)] encStr1_len rfl;have hs4:=hs3.ext EA;have HSA:=hd0 SA;have HC7:=hd0 hc7;clear hcell hu7 S hc7 hs3 hs7 SA pN hfz
     go_wp2_with (at_builtin;refine Hid.out (?_:Hid _))
     unfold Hid;refine wpList_append_b rfl _ _ 39 rfl 0 9 _ 1 _ Tryz.underlying39 infoStr1 rfl (by decide) encStr1_len encStr1_one _ n7.N.length n7.N rfl pN4 rfl (some ⟨w3.heap.size,0,none⟩) 1 1 [(⟨#[122,122]⟩:ByteArray)] rfl rfl rd1 (by omega) (by omega) (Nat.zero_le _) ?_;intro v7 w7 ho hgr hblk;obtain⟨NN,hNN⟩:∃NN,NN=n7.N++[(⟨#[122,122]⟩:ByteArray)]:=⟨_,rfl⟩;rw[←hNN]at ho
     have HNN:Hid (NN.length=n7.N.length+1∧∀s∈NN,s.size≤100000):=hd0 ⟨by rw[hNN];simp,fun s hs=>by
      rw[hNN]at hs
      rcases List.mem_append.1 hs with hs|hs
      ·exact HS7.out.2.2.1 s hs
      ·rw[List.mem_singleton.1 hs];show 2≤100000;omega⟩
     obtain⟨a8,k8,hv8,hk8,_,_⟩:=view_owns encStr1_len ho;subst hv8;have hch:Chg (fun b=>(Value.slice an7 n7.N.length cn7).ownBlock=some b) (w3.alloc (.cells #[.string ⟨#[122,122]⟩] 9)) w7:=Chg.of_grown hgr;have hgtl:=(HSA.out.lt (p:=plNd (.slice (some ⟨gt,0,none⟩) T.length cap) vs T) (List.mem_cons_self ..) (show(plNd (.slice (some ⟨gt,0,none⟩) T.length cap) vs T).own gt from .inl rfl)).2;have hbe:=hch.block gt hgtl (fun e=>(pO gt (.inl e)).1 rfl)
     have e5:w7.cell? ⟨gt,5,none⟩=some (.slice an7 n7.N.length cn7):=by rw[World.cell?_of_block hbe];exact cell_ext EA d5
     have ef5:w7.frozen? ⟨gt,5,none⟩=false:=by rw[World.frozen?_of_block hbe];exact((bcell EA).2 gt 5 (World.block_lt_of_cell? _ _ d5)).trans f5
     have S8:SepM (fun b=>b=g) w (w7.setCell ⟨gt,5,none⟩ (.slice a8 NN.length k8)) [plNd (.slice (some ⟨gt,0,none⟩) T.length cap) (vs.set 0 ⟨⟨n7.fold,n7.own,n7.grp,n7.mode,n7.text,NN,n7.K⟩,a8,k8,ak7,ck7⟩) (T.set 0 ⟨n7.fold,n7.own,n7.grp,n7.mode,n7.text,NN,n7.K⟩)]:=HSA.out.ndGrowN 0 rfl HC7.out HR.out (hch.mono (fun b hb _=>.inr hb)) (ownsRow_base ho (Nat.zero_le _)) hblk;have hs7:=(hs4.row hgr (fun i hi=>by have:=(pO i (.inl hi)).2.1;have:=hs4.lt;omega)).setCell (p:=⟨gt,5,none⟩) hggt (.slice a8 NN.length k8);have HS8:=hd0 S8;clear ho hgr hblk hch rd1 HSA pN4 hs4 S8 pO hNN d5 f5 EA hbe hgtl
     go_upto_region 29 with fail
     clear e5 ef5;generalize (w7.setCell ⟨gt,5,none⟩ (.slice a8 NN.length k8))=w8 at *;obtain⟨n8,hn8⟩:∃n8:Nd,n8=⟨n7.fold,n7.own,n7.grp,n7.mode,n7.text,NN,n7.K⟩:=⟨_,rfl⟩;have hS8:=HS8.out;rw[←hn8]at hS8;have HN8:Hid (SmN 100001 n8∧n8.N.length≤20):=hd0 (by rw[hn8];exact⟨⟨by have:=HS7.out.1;show n7.text.size≤100001;omega,by have:=HNN.out.1;show NN.length≤100001;omega,fun s hs=>by have:=HNN.out.2 s hs;omega,by have:=HS7.out.2.2.2;show n7.K.length≤100001;omega⟩,by have h1:=HNN.out.1;have h2:=HNB.out n7 (List.mem_of_getElem? HR.out);show NN.length≤20;omega⟩);obtain⟨vs8,hvs8⟩:∃vs8,vs8=vs.set 0 (⟨n8,a8,k8,ak7,ck7⟩:Nc):=⟨_,rfl⟩;obtain⟨T8,hT8⟩:∃T8,T8=T.set 0 n8:=⟨_,rfl⟩;rw[←hvs8,←hT8]at hS8
     have hl8:T.length=T8.length:=by rw[hT8,List.length_set]
     have HX8:Hid (T8[0]?=some n8):=hd0 (by rw[hT8,List.getElem?_set_self (by omega)])
     have HF8:Hid (∀x∈T8,SmN 100001 x∧x.N.length≤20):=hd0 (fun x hx=>by
      rw[hT8]at hx
      rcases List.mem_or_eq_of_mem_set hx with hx|rfl
      ·have:=HSm.out x hx;exact⟨⟨by have:=this.1;omega,by have:=this.2.1;omega,fun s hs=>by have:=this.2.2.1 s hs;omega,by have:=this.2.2.2;omega⟩,HS20.out x hx⟩
      ·exact HN8.out)
     clear hT8 hvs8 hn8 HS8 HNN HS7 HC7;rw[hl8]at hS8 hil hwl hp0 hmax hpos ⊢;clear hl8;obtain⟨c9,gt',cap',hu9,_,hc9,hn9,hcell,hfz,_⟩:=hS8.ndAt 0 rfl HX8.out
     obtain⟨rfl,rfl⟩:gt=gt'∧cap=cap':=by simp only[Value.slice.injEq,Option.some.injEq,Addr.mk.injEq,and_true,true_and]at hu9;exact⟨hu9.1,hu9.2⟩
     obtain⟨n9,an9,cn9,ak9,ck9⟩:=c9;dsimp only at hn9;subst hn9;obtain⟨_,pK,pO⟩:=hS8.nd_pin 0 rfl hc9 HX8.out;have d6:w8.cell? ⟨gt,6,none⟩=some (.slice ak9 n9.K.length ck9):=hcell 6 _ rfl;have f6:=hfz 6;have hKl:n9.K.length≤100001:=HN8.out.1.2.2.2;have hgtl:=(hS8.lt (p:=plNd (.slice (some ⟨gt,0,none⟩) T8.length cap) vs8 T8) (List.mem_cons_self ..) (show(plNd (.slice (some ⟨gt,0,none⟩) T8.length cap) vs8 T8).own gt from .inl rfl)).2
     have hnI:¬(gt=g∨OwnK ak9 n9.K ck9 gt):=fun e=>e.elim (fun e=>by omega) (fun e=>(pO gt (.inr e)).1 rfl)
     have hc6:∀wv,Chg (fun b=>b=g∨OwnK ak9 n9.K ck9 b) (World.drew w8) wv→wv.cell? ⟨gt,6,none⟩=some (.slice ak9 n9.K.length ck9):=fun wv hI=>cell_chg (cell_ext (Ext.refl w8).drew d6) hI hnI
     have hf6:∀wv,Chg (fun b=>b=g∨OwnK ak9 n9.K ck9 b) (World.drew w8) wv→wv.frozen? ⟨gt,6,none⟩=false:=fun wv hI=>by rw[World.frozen?_of_block (hI.block gt (by simpa using hgtl) hnI)];exact f6
     have hOb:∀b,OwnK ak9 n9.K ck9 b→w.heap.size≤b∧b < w8.heap.size:=fun b hb=>(pO b (.inr hb)).2
     have Sd:SepM (fun b=>b=g) w (World.drew w8) [plNd (.slice (some ⟨gt,0,none⟩) T8.length cap) vs8 T8]:=hS8.drew;have hsd:Src g (P+320) (World.drew w8):=hs7.ext (Ext.refl _).drew;have HC9:=hd0 hc9;clear hcell hu9 hfz hc9 d6 f6 hS8 hs7;refine wp_region_c (V:=V29 w g gt cap T8.length ak9 ck9 n9.K w8.heap.size (P+320) (.slice (some ⟨gt,0,none⟩) T8.length cap) vs8 T8) (Chg (fun b=>b=g∨OwnK ak9 n9.K ck9 b) (World.drew w8)) (fun i=>if i=14 then some 13 else if i=15 then some 9 else none) [] 14 2 rfl (by decide) (by kernel_rfl) (by kernel_rfl) (by kernel_rfl) (by kernel_rfl) (Chg.refl _ _) (fun r hr=>match r,hr with|0,_=>Sd|1,_=>hsd) ?_ ?_
     ·intro i o hi ho vz w4 hvl hE hd hrest;have hsz:w8.heap.size≤w4.heap.size:=hE.size
      match vz,hvl with
      | [y0,y1,y2,y3,y4,y5,y6,y7,y8,y9,y10,y11,y12,y13],_ =>
      rcases lc14 hi with rfl|rfl|rfl|rfl|rfl|rfl|rfl|rfl|rfl|rfl|rfl|rfl|rfl|rfl
      all_goals
       obtain rfl:=Option.some.inj ho
      ·clear hd hrest;simp[putAll,Act.put];go_wp2;exact OneC.mk (V29.ext) rfl rfl hE (Ext.refl _)
      ·clear hd hrest;simp[putAll,Act.put];go_wp2;exact OneC.mk (V29.ext) rfl rfl hE (Ext.refl _)
      ·have q1:y1=.slice (some ⟨gt,0,none⟩) T8.length cap:=hd ⟨1,.data⟩ (by simp) rfl (by decide);subst q1;clear hd hrest;simp[putAll,Act.put];go_wp2;exact OneC.mk (V29.ext) rfl rfl hE (Ext.refl _)
      ·have q1:y2=.pointer (some ⟨gt,0,none⟩):=hd ⟨2,.data⟩ (by simp) rfl (by decide);subst q1;clear hd hrest;simp[putAll,Act.put];go_wp2;exact OneC.mk (V29.ext) rfl rfl hE (Ext.refl _)
      ·have q1:y3=.pointer (some ⟨gt,6,none⟩):=hd ⟨3,.data⟩ (by simp) rfl (by decide);have c6:=hc6 w4 hE;subst q1;clear hd hrest;simp[putAll,Act.put];go_wp2;exact OneC.mk (V29.ext) rfl rfl hE (Ext.refl _)
      ·clear hd hrest;simp[putAll,Act.put];go_wp2;exact OneC.mk (V29.ext) rfl rfl hE (Ext.refl _)
      ·have q1:y5=.slice (some ⟨gt,0,none⟩) T8.length cap:=hd ⟨5,.data⟩ (by simp) rfl (by decide);subst q1;clear hd hrest;simp[putAll,Act.put];go_wp2;exact OneC.mk (V29.ext) rfl rfl hE (Ext.refl _)
      ·have q1:y6=.int .i64 T8.length:=hd ⟨6,.data⟩ (by simp) rfl (by decide);subst q1;clear hd hrest;simp[putAll,Act.put];go_wp2;exact OneC.mk (V29.ext) rfl ⟨_,rfl,hsz,heap_alloc_new w4 _⟩ (hE.trans (Chg.of_ext ((Ext.refl w4).alloc _))) ((Ext.refl _).alloc _)
      ·clear hd hrest;simp[putAll,Act.put];go_wp2;exact OneC.mk (V29.ext) rfl rfl hE (Ext.refl _)
      ·have q1:y8=.pointer (some ⟨g,0,none⟩):=hd ⟨8,.data⟩ (by simp) rfl (by decide);have hsk:Src g (P+320) w4:=hrest 1 (by omega) (.inr rfl);subst q1;clear hd hrest;simp[putAll,Act.put]
       go_wp2_with fail
       refine(pick_any g (P+320) 3 w4 hsk (by omega)).mono ?_;rintro e w5 ⟨v5,rfl,⟨z,rfl,z0,z1,_⟩,hs5,hS5⟩;have hz:=z1 (by omega);clear z1;obtain⟨q,rfl⟩:∃q:Nat,z=q:=⟨z.toNat,by omega⟩;have hcs:Chg (fun b=>b=g) w4 w5:=Chg.of_step hS5;have hgl:=hsk.lt;go_wp2;refine⟨rfl,_,rfl,⟨⟨q,rfl,by omega⟩,hs5⟩,hE.trans (hcs.mono (fun b hb _=>.inl hb)),fun j u hj hne hcon hnd hnc hv=>?_⟩
       match j with
       | 0|1|2|3|4|5|6|8|11=>exact hv
       | 7=>obtain⟨b,h1,h2,h3⟩:=hv;exact⟨b,h1,h2,heap_chg h3 hcs (fun e=>by omega)⟩
       | 9=>exact absurd rfl hne
       | 10=>obtain⟨b,q,c,h1,h2,h3⟩:=hv;exact⟨b,q,c,h1,h2,cell_chg h3 hcs (fun e=>by omega)⟩
       | 12=>obtain⟨b,c,h1,h2,h3⟩:=hv;exact⟨b,c,h1,h2,heap_chg h3 hcs (fun e=>by omega)⟩
       | 13 =>
        obtain⟨K',a',c',w5',h1,h2,h3,h4,h5,h6⟩:=hv;refine⟨K',a',c',w5',h1,h2,h3,h4.trans (hcs.mono (fun b hb _=>.inl hb)),?_,h6⟩;refine(plRow 3 1 encInt1 u K').frame w4 w5 h5 (fun b hb=>hcs.block b ((plRow 3 1 encInt1 u K').lt w4 b h5 hb) (fun e=>?_));have hb':u.ownBlock=some b:=hb;have:=h3.chg.size
        rcases h6 b hb' with h|h
        ·have:=(hOb b h).1;omega
        ·omega
       | 14=>exact(show SepM (fun b=>b=g) w w4 _ from hv).other hcs
       | 15=>exact absurd rfl hcon
       | (zz+16)=>trivial
      ·obtain⟨b7,q1,hb7,hh7⟩:∃b,y7=.slice (some ⟨b,0,none⟩) 3 3∧w8.heap.size≤b∧w4.heap[b]?=some (.cells #[.int .i64 0,.int .i64 T8.length,.int .i64 (-1)] 3):=hd ⟨7,.data⟩ (by simp) rfl (by decide);obtain⟨⟨q,q2,hq⟩,_⟩:QN 3 y9∧Src g (P+320+1) w4:=hd ⟨9,.data⟩ (by simp) rfl (by decide)
       obtain⟨c,hcc⟩:∃c:Int,w4.cell? ⟨b7,q,none⟩=some (.int .i64 c):=by
        rcases(show q=0∨q=1∨q=2 by omega)with rfl|rfl|rfl
        ·exact⟨_,(bx hh7 0 rfl).1⟩
        ·exact⟨_,(bx hh7 1 rfl).1⟩
        ·exact⟨_,(bx hh7 2 rfl).1⟩
       have hq2:(q:Int) < 3:=by omega
       subst q1 q2;clear hd hrest hh7;simp[putAll,Act.put];go_wp2;exact OneC.mk (V29.ext) rfl ⟨b7,q,c,rfl,hb7,hcc⟩ hE (Ext.refl _)
      ·obtain⟨b7,q,c,q1,hb7,hcc⟩:∃b q c,y10=.pointer (some ⟨b,q,none⟩)∧w8.heap.size≤b∧w4.cell? ⟨b,q,none⟩=some (.int .i64 c):=hd ⟨10,.data⟩ (by simp) rfl (by decide);subst q1;clear hd hrest;simp[putAll,Act.put];go_wp2;exact OneC.mk (V29.ext) rfl ⟨c,rfl⟩ hE (Ext.refl _)
      ·obtain⟨c,q1⟩:∃c:Int,y11=.int .i64 c:=hd ⟨11,.data⟩ (by simp) rfl (by decide);subst q1;clear hd hrest;simp[putAll,Act.put];go_wp2;exact OneC.mk (V29.ext) rfl ⟨_,c,rfl,hsz,heap_alloc_new w4 _⟩ (hE.trans (Chg.of_ext ((Ext.refl w4).alloc _))) ((Ext.refl _).alloc _)
      ·have q1:y4=.slice ak9 n9.K.length ck9:=hd ⟨4,.data⟩ (by simp) rfl (by decide);obtain⟨b7,c,q2,hb7,hh7⟩:∃b c,y12=.slice (some ⟨b,0,none⟩) 1 1∧w8.heap.size≤b∧w4.heap[b]?=some (.cells #[.int .i64 c] 3):=hd ⟨12,.data⟩ (by simp) rfl (by decide);have S4:SepM (fun b=>b=g) w w4 [plNd (.slice (some ⟨gt,0,none⟩) T8.length cap) vs8 T8]:=hrest 0 (by omega) (.inr rfl);have pK4:=(S4.nd_pin 0 rfl HC9.out HX8.out).2.1;have hrd:Rd 1 encInt1 w4 (some ⟨b7,0,none⟩) [c]:=rd_lit [c] encInt1_len hh7 rfl;subst q1 q2;clear hd hrest;simp[putAll,Act.put];refine wpList_append_b rfl _ _ 86 rfl 0 3 _ 1 _ Tryz.underlying86 infoInt rfl (by decide) encInt1_len encInt1_one _ n9.K.length n9.K rfl pK4 rfl (some ⟨b7,0,none⟩) 1 1 [c] rfl rfl hrd (by omega) (by omega) (Nat.zero_le _) ?_;intro v9 w9 ho9 hgr hblk;have hch:Chg (fun b=>OwnK ak9 n9.K ck9 b) w4 w9:=Chg.of_grown hgr;have hgl:=S4.small g rfl;obtain⟨KK,hKK⟩:∃KK,KK=n9.K++[c]:=⟨_,rfl⟩;rw[←hKK]at ho9
       have hKKl:KK.length=n9.K.length+1:=by rw[hKK];simp
       have HKK:=hd0 hKKl;obtain⟨a9,k9,hv9,_,_,_⟩:=view_owns encInt1_len ho9;subst hv9;clear hKK hKKl pK4 hrd
       have hgo:∀i,(Value.slice ak9 n9.K.length ck9).ownBlock=some i→g < i:=fun i hi=>by have:=(hOb i hi).1;omega
       have hgr2:w4.grownBy w9 (Value.slice ak9 n9.K.length ck9).ownBlock:=hgr;go_wp2;refine⟨rfl,_,rfl,⟨KK,a9,k9,w4,rfl,HKK.out,S4,hch.mono (fun b hb _=>.inr hb),ho9,hblk⟩,hE.trans (hch.mono (fun b hb _=>.inr hb)),fun j u hj hne hcon hnd hnc hv=>?_⟩
       match j with
       | 0|1|2|3|4|5|6|8|11=>exact hv
       | 7=>obtain⟨b,h1,h2,h3⟩:=hv;exact⟨b,h1,h2,heap_chg h3 hch (fun e=>by have:=(hOb b e).2;omega)⟩
       | 9=>exact⟨hv.1,hv.2.row hgr2 hgo⟩
       | 10=>obtain⟨b,q,c,h1,h2,h3⟩:=hv;exact⟨b,q,c,h1,h2,cell_chg h3 hch (fun e=>by have:=(hOb b e).2;omega)⟩
       | 12=>obtain⟨b,c,h1,h2,h3⟩:=hv;exact⟨b,c,h1,h2,heap_chg h3 hch (fun e=>by have:=(hOb b e).2;omega)⟩
       | 13=>exact absurd rfl hne
       | 14=>exact absurd rfl hcon
       | 15=>exact(show Src g (P+320) w4 from hv).row hgr2 hgo
       | (zz+16)=>trivial
     ·intro vz wE hvl hE hV _
      match vz,hvl with
      | [y0,y1,y2,y3,y4,y5,y6,y7,y8,y9,y10,y11,y12,y13],_ =>
      have q0:y0=.slice (some ⟨gt,0,none⟩) T8.length cap:=hV 0 (by omega) rfl;obtain⟨K',a',c',w5,e13,hKl',S5,hC5,ho5,hb5⟩:∃(K':List Int) (a':Option Addr) (c':Nat) (w5:World),y13=.slice a' K'.length c'∧K'.length=n9.K.length+1∧SepM (fun b=>b=g) w w5 [plNd (.slice (some ⟨gt,0,none⟩) T8.length cap) vs8 T8]∧Chg (fun b=>b=g∨OwnK ak9 n9.K ck9 b) w5 wE∧wE.ownsRow 0 3 1 y13 K'.length (K'.flatMap encInt1)∧(∀b,y13.ownBlock=some b→OwnK ak9 n9.K ck9 b∨w5.heap.size≤b):=hV 13 (by omega) rfl;obtain⟨_,hsE⟩:QN 3 y9∧Src g (P+320+1) wE:=hV 9 (by omega) rfl;have c6:=hc6 wE hE;have g6:=hf6 wE hE;subst q0 e13;have HKl:=hd0 hKl';have S9:=hd0 (S5.ndGrowK 0 rfl HC9.out HX8.out hC5 ho5 hb5);have hs9:=hsE.setCell (p:=⟨gt,6,none⟩) hggt (.slice a' K'.length c');clear hV hE hc6 hf6 Sd hsd S5 hC5 ho5 hb5 hKl' hsE pK pO hOb;simp only[putAll,Act.put,List.take_succ_cons,List.take_zero,List.drop_succ_cons,List.drop_zero];simp
      go_upto_region 32 with fail
      clear c6 g6;have HS9:Hid (SepM (fun b=>b=g) w (wE.setCell ⟨gt,6,none⟩ (.slice a' K'.length c')) [plNd (.slice (some ⟨gt,0,none⟩) T8.length cap) _ (T8.set 0 ⟨n9.fold,n9.own,n9.grp,n9.mode,n9.text,n9.N,K'⟩)]):=S9;clear S9;generalize (wE.setCell ⟨gt,6,none⟩ (.slice a' K'.length c'))=w10 at *;go_wp2;go_ret;refine DrawnT2.mk (by rw[List.length_set];omega) (fun x hx=>?_) hs9 (by omega) HS9.out
      rcases List.mem_or_eq_of_mem_set hx with hx|rfl
      ·have h9:=(HF8.out x hx).2;have:=(HF8.out x hx).1;exact⟨⟨by have:=this.1;omega,by have:=this.2.1;omega,fun s hs=>by have:=this.2.2.1 s hs;omega,by have:=this.2.2.2;omega⟩,h9⟩
      ·have h9:=HN8.out.2;have:=HN8.out.1;exact⟨⟨by have:=this.1;show n9.text.size≤200000;omega,by have:=this.2.1;show n9.N.length≤200000;omega,fun s hs=>by have:=this.2.2.1 s hs;omega,by have:=HKl.out;show K'.length≤200000;omega⟩,h9⟩
    ·obtain⟨c7,gt',cap',hu7,_,hc7,hn7,hcell,hfz,_⟩:=S.ndAt 0 rfl HZ.out
     obtain⟨rfl,rfl⟩:gt=gt'∧cap=cap':=by simp only[Value.slice.injEq,Option.some.injEq,Addr.mk.injEq,and_true,true_and]at hu7;exact⟨hu7.1,hu7.2⟩
     obtain⟨n7,an7,cn7,ak7,ck7⟩:=c7;dsimp only at hn7;subst hn7;have c0:w3.cell? ⟨gt,l*7+3,none⟩=some (.int .i64 n7.mode):=hcell 3 _ rfl;have S8:=S.ndSet 0 rfl hc7 HZ.out (x':=⟨n7.fold,n7.own,n7.grp,1024,n7.text,n7.N,n7.K⟩) 3 (.int .i64 1024) (by omega) rfl rfl rfl;have hs8:=hs3.setCell (p:=⟨gt,l*7+3,none⟩) hggt (.int .i64 1024);have HS8:=hd0 S8;clear hcell hu7 S hc7 S8 hs3
     go_upto_region 32 with fail
     clear c0 hfz;generalize (w3.setCell ⟨gt,l*7+3,none⟩ (.int .i64 1024))=w8 at *;go_wp2;go_ret;refine DrawnT2.mk (by rw[List.length_set];omega) ?_ hs8 (by omega) HS8.out;exact sm_put20 HSm.out HS20.out HZ.out rfl rfl rfl
    ·have S0:=S.lit0 (n:=w3.heap.size) rfl 89 7 encNc;have S1:=hd0 ((S0.gPure (P:=pinNd) (T:=([]:List Nd)) 0 rfl rfl (fun k s t hs=>by simp at hs) (fun s hs=>by simp at hs)).drop 1);have hs4:=hs3.ext ((Ext.refl w3).alloc (.cells #[] 89));clear S S0;go_wp2;go_ret;exact DrawnT2.mk (Nat.zero_le _) (fun x hx=>by cases hx) hs4 (by omega) S1.out
def KerG (M:Nat→Prop) (w0:World) (v:Value) (w:World):Prop:=∃(a:Option Addr) (cap:Nat) (vs:List Nc) (T:List Nd) (r c s g:Int),v=.agg #[.slice a T.length cap,.int .i64 r,.int .i64 c,.int .i64 s,.int .i64 g]∧T.length≤100∧T.length≤cap∧(∀x∈T,SmN 200000 x∧x.N.length≤20)∧SepM M w0 w [plNd (.slice a T.length cap) vs T]
theorem SepM.callM {M:Nat→Prop} {w0 w w':World} {H H':List Pl} (S:SepM M w0 w H) (T:SepM M w w' H'):SepM M w0 w' (H' ++ H):=S.otherCall H' T.chg T.ok T.base T.apart
theorem drawKernel2 (g:Nat) (P n:Int) (w:World) (hs:Src g P w) (hP:P≤700000) (hn:n≤1000000) :
  Calls Tryz.prog 54 #[.pointer (some ⟨g,0,none⟩),.int .i64 n] w (fun e w'=>∃v,e=.returned v∧KerG (fun b=>b=g) w v w'∧Src g (P+420) w'):=by
 have hg:=hs.lt
 go_enter Tryz.func54,Tryz.ntmps54
 have S:=SepM.begin (fun b=>b=g) w (fun b h=>h ▸ hg);replace S:=S.alloc_at (n:=w.heap.size) (by simp) #[.slice none 0 0,.int .i64 0,.int .i64 0,.int .i64 0,.int .i64 0] 31;have hs1:Src g P (w.alloc (.cells #[.slice none 0 0,.int .i64 0,.int .i64 0,.int .i64 0,.int .i64 0] 31)):=hs.ext ((Ext.refl w).alloc _)
 go_wp2_with fail
 generalize (w.alloc (.cells #[.slice none 0 0,.int .i64 0,.int .i64 0,.int .i64 0,.int .i64 0] 31))=w1 at *;refine(drawTree2 g P n w1 hs1 hP hn).mono ?_;rintro e w2 ⟨u,vs,T,rfl,hT1,hT2,hs2,S2⟩;obtain⟨a,cap,rfl,hcap,_⟩:=nd_view (S2.at_ 0 rfl);replace S:SepM (fun b=>b=g) w w2 [plNd (.slice a T.length cap) vs T,plBox w.heap.size #[.slice none 0 0,.int .i64 0,.int .i64 0,.int .i64 0,.int .i64 0] 31]:=(S.callM S2);have HT2:=hd0 hT2;clear S2 hT2 hs1 hs
 go_wp2_with fail
 refine(drawCred g (P+400) n w2 hs2 (by omega) hn).mono ?_;rintro e w3 ⟨v,rfl,⟨r,c,s,q,rfl⟩,hs3,hS⟩;replace S:SepM (fun b=>b=g) w w3 [plNd (.slice a T.length cap) vs T,plBox w.heap.size #[.slice none 0 0,.int .i64 0,.int .i64 0,.int .i64 0,.int .i64 0] 31]:=(S.other (Chg.of_step hS));clear hS hs2;obtain⟨⟨rbc0,rbf0⟩,⟨rbc1,rbf1⟩,⟨rbc2,rbf2⟩,⟨rbc3,rbf3⟩,⟨rbc4,rbf4⟩⟩:=bx5 (S.box 1 rfl);go_wp2;clear rbc0 rbf0 rbc1 rbf1 rbc2 rbf2 rbc3 rbf3 rbc4 rbf4;replace S:SepM (fun b=>b=g) w (((((w3.setCell ⟨w.heap.size,0,none⟩ (.slice a T.length cap)).setCell ⟨w.heap.size,1,none⟩ (.int .i64 r)).setCell ⟨w.heap.size,2,none⟩ (.int .i64 c)).setCell ⟨w.heap.size,3,none⟩ (.int .i64 s)).setCell ⟨w.heap.size,4,none⟩ (.int .i64 q)) [plNd (.slice a T.length cap) vs T,plBox w.heap.size #[.slice a T.length cap,.int .i64 r,.int .i64 c,.int .i64 s,.int .i64 q] 31]:=((((S.set 1 rfl 0 _).set 1 rfl 1 _).set 1 rfl 2 _).set 1 rfl 3 _).set 1 rfl 4 _;have hs4:Src g (P+400+20) (((((w3.setCell ⟨w.heap.size,0,none⟩ (.slice a T.length cap)).setCell ⟨w.heap.size,1,none⟩ (.int .i64 r)).setCell ⟨w.heap.size,2,none⟩ (.int .i64 c)).setCell ⟨w.heap.size,3,none⟩ (.int .i64 s)).setCell ⟨w.heap.size,4,none⟩ (.int .i64 q)):=((((hs3.setCell hg _).setCell hg _).setCell hg _).setCell hg _).setCell hg _;generalize (((((w3.setCell ⟨w.heap.size,0,none⟩ (.slice a T.length cap)).setCell ⟨w.heap.size,1,none⟩ (.int .i64 r)).setCell ⟨w.heap.size,2,none⟩ (.int .i64 c)).setCell ⟨w.heap.size,3,none⟩ (.int .i64 s)).setCell ⟨w.heap.size,4,none⟩ (.int .i64 q))=w4 at *;obtain⟨⟨rbc0,rbf0⟩,⟨rbc1,rbf1⟩,⟨rbc2,rbf2⟩,⟨rbc3,rbf3⟩,⟨rbc4,rbf4⟩⟩:=bx5 (S.box 1 rfl);refine bodyPost_ret (v:=.agg #[.slice a T.length cap,.int .i64 r,.int .i64 c,.int .i64 s,.int .i64 q]) (by simp[results,Tryz.results54,go_sem,rbc0,rbc1,rbc2,rbc3,rbc4]) rfl ?_;replace S:SepM (fun b=>b=g) w w4 [plNd (.slice a T.length cap) vs T]:=S.drop 1;exact⟨_,rfl,⟨a,cap,vs,T,r,c,s,q,rfl,hT1,hcap,HT2.out,S⟩,hs4.mono (by omega)⟩
end Go.Proofs.YtnibbldfohbfkaaGreatDoor
