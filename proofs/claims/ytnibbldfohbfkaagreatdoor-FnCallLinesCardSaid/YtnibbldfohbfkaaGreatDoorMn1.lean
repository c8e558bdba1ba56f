/- Parts of one proof: what each theorem proves, and its conditions, stand in its own statement. -/
import Derived.WalkKit
import Derived.WalkSpells
import Derived.WalkLawsBesides
import Derived.BigQuiet
import Derived.Deep.QuietTactic
import Derived.Lib.Hide
import Derived.StillTailTactics
import Derived.Deep.DeepFit
import Derived.Test.YtnibbldfohbfkaaGreatDoorRows
import Derived.ProofKit
import Derived.OpenShut
import Derived.Deep.Slices
import Derived.Deep.Fields
import Derived.Test.YtnibbldfohbfkaaGreatDoorTie
import Derived.Test.YtnibbldfohbfkaaGreatDoorCards
import Derived.HandedShaped
import Derived.Lay
import Derived.Shelf.Vars
import Derived.SevenTiedAt
import Derived.Stop.Joined
set_option linter.all false
set_option maxRecDepth 100000
set_option maxHeartbeats 32000000
namespace Go.Proofs.YtnibbldfohbfkaaGreatDoor
open Go.RowKit
theorem ret_bool {a b:Bool} (h:a=b):Ending.returned (.bool a)=.returned (.bool b):=by rw[h]
abbrev Ext (w w':World):Prop:=Below w.heap.size w w'
theorem Ext.refl (w:World):Ext w w:=Below.refl _ _
theorem Ext.trans {a b c:World} (h:Ext a b) (k:Ext b c):Ext a c:=Below.trans h (k.mono h.size)
theorem Ext.alloc {a w:World} (h:Ext a w) (o:Obj):Ext a (w.alloc o):=Below.alloc h h.size o
theorem Ext.drew {a w:World} (h:Ext a w):Ext a w.drew:=Below.drew h
theorem Ext.drewN {a w:World} (h:Ext a w) (n:Nat):Ext a (w.drewN n):=⟨h.os,h.tape,h.output,h.size,h.block⟩
theorem Ext.setCell {a w:World} (h:Ext a w) {p:Addr} (hp:a.heap.size≤p.block) (u:Value):Ext a (w.setCell p u):=Below.setCell h hp u
theorem Ext.grown {a w w':World} {row:Option Nat} (h:Ext a w) (hg:w.grownBy w' row) (hr:∀k,row=some k→a.heap.size≤k):Ext a w':=Below.grown h hg h.size hr
theorem ext_of_grown {w w':World} (hg:w.grownBy w' none):Ext w w':=(Ext.refl w).grown hg (by intro k h;cases h)
theorem grown_of_ext {w w':World} (h:Ext w w') (row:Option Nat):w.grownBy w' row:=⟨h.os,h.tape,h.output,h.size,fun k hk _=>h.block k hk⟩
theorem bcell {W w1:World} (hb:Ext W w1):(∀b o,b < W.heap.size→w1.cell? ⟨b,o,none⟩=W.cell? ⟨b,o,none⟩)∧(∀b o,b < W.heap.size→w1.frozen? ⟨b,o,none⟩=W.frozen? ⟨b,o,none⟩) :=
 ⟨fun b o h=>hb.cell (p:=⟨b,o,none⟩) h,fun b o h=>hb.frozen (p:=⟨b,o,none⟩) h⟩
theorem cell_ext {W w1:World} (hb:Ext W w1) {b o:Nat} {v:Value} (h:W.cell? ⟨b,o,none⟩=some v):w1.cell? ⟨b,o,none⟩=some v:=by
 have:=World.block_lt_of_cell? W ⟨b,o,none⟩ h;rw[hb.cell (p:=⟨b,o,none⟩) this];exact h
def RetB (P:Prop) (w:World) (e:Ending) (w':World):Prop:=∃b,e=.returned (.bool b)∧(b=true↔P)∧Ext w w'
theorem RetB.mk {P:Prop} {w w':World} {v:Value} (b:Bool) (hv:v=.bool b) (h:b=true↔P) (hw:Ext w w'):RetB P w (.returned v) w':=⟨b,by rw[hv],h,hw⟩
def RetV (Q:Value→World→Prop) (w:World) (e:Ending) (w':World):Prop:=∃v,e=.returned v∧Q v w'∧Ext w w'
theorem RetV.mk {Q:Value→World→Prop} {w w':World} {v:Value} (h:Q v w') (hw:Ext w w'):RetV Q w (.returned v) w':=⟨v,rfl,h,hw⟩
def RetSz (left:Int) (P:Unit→Prop) (w:World) (e:Ending) (w':World):Prop:=∃r:Int,e=.returned (.int .i64 r) ∧ -1≤r∧r≤left∧(0≤r→P ())∧Ext w w'
theorem RetSz.mk {left:Int} {P:Unit→Prop} {w w':World} {v:Value} {r:Int} (hv:v=.int .i64 r) (h1 : -1≤r) (h2:r≤left) (h3:0≤r→P ()) (hw:Ext w w'):RetSz left P w (.returned v) w':=⟨r,by rw[hv],h1,h2,h3,hw⟩
def RetI (n:Int) (w:World) (e:Ending) (w':World):Prop:=e=.returned (.int .i64 n)∧Ext w w'
theorem RetI.mk {n m:Int} {w w':World} {v:Value} (hv:v=.int .i64 n) (hw:Ext w w') (h:n=m:=by omega):RetI m w (.returned v) w':=⟨by rw[hv,h],hw⟩
def RetMark (n:Int) (Q:World→Prop) (row:Option Nat) (w:World) (e:Ending) (w':World):Prop:=e=.returned (.int .i64 n)∧Q w'∧w.grownBy w' row
theorem RetMark.mk {n m:Int} {Q:World→Prop} {row:Option Nat} {w w':World} {v:Value} (hv:v=.int .i64 n) (hq:Q w') (hw:w.grownBy w' row) (h:n=m:=by omega):RetMark m Q row w (.returned v) w':=⟨by rw[hv,h],hq,hw⟩
def RetSB {α:Type} (E nf:Nat) (enc:α→List Value) (R:List α→Bool→Prop) (w:World) (e:Ending) (w':World):Prop :=
 ∃v L ok,e=.returned (.tuple #[v,.bool ok])∧R L ok∧w'.ownsRow w.heap.size E nf v L.length (L.flatMap enc)∧Ext w w'
theorem RetSB.mk {α:Type} {E nf:Nat} {enc:α→List Value} {R:List α→Bool→Prop} {w w':World} {v u:Value} {L:List α} {ok:Bool} (hu:u=.bool ok) (hR:R L ok)
  (ho:w'.ownsRow w.heap.size E nf v L.length (L.flatMap enc)) (hw:Ext w w'):RetSB E nf enc R w (.returned (.tuple #[v,u])) w':=⟨v,L,ok,by rw[hu],hR,ho,hw⟩
theorem bytes_eq {a b:ByteArray}:a.toList=b.toList↔a=b:=by
 rw[ByteArray.toList_eq,ByteArray.toList_eq];obtain⟨⟨x⟩⟩:=a;obtain⟨⟨y⟩⟩:=b;simp
section rd
variable {α:Type}
def Rd (nf:Nat) (enc:α→List Value) (w:World) (a:Option Addr) (l:List α):Prop :=
 ∀i,(h:i < l.length)→∃b off,a=some ⟨b,off,none⟩∧∀j u,(enc l[i])[j]?=some u→w.cell? ⟨b,off+i*nf+j,none⟩=some u
theorem Rd.ext {nf:Nat} {enc:α→List Value} {w w':World} {a:Option Addr} {l:List α} (h:Rd nf enc w a l) (hb:Ext w w'):Rd nf enc w' a l:=by
 intro i hi;obtain⟨b,off,ha,hc⟩:=h i hi;exact⟨b,off,ha,fun j u hu=>cell_ext hb (hc j u hu)⟩
theorem flatMap_length {enc:α→List Value} {nf:Nat} (hn:∀x,(enc x).length=nf) (l:List α):(l.flatMap enc).length=l.length*nf:=by
 induction l with
 | nil=>simp
 | cons x l ih=>simp[hn,ih,Nat.add_mul];omega
theorem flatMap_at {enc:α→List Value} {nf:Nat} (hn:∀x,(enc x).length=nf) (l:List α) (i j:Nat) (hj:j < nf):(l.flatMap enc)[i*nf+j]?=(l[i]?).bind (fun x=>(enc x)[j]?):=by
 induction l generalizing i with
 | nil=>simp
 | cons x l ih =>
  cases i with
  | zero=>simp[List.getElem?_append,hn,hj]
  | succ i =>
   have e:(i+1)*nf+j=nf+(i*nf+j):=by rw[Nat.add_mul];omega
   rw[e,List.flatMap_cons,List.getElem?_append_right (by rw[hn];omega),hn]
   have e2:nf+(i*nf+j) - nf=i*nf+j:=by omega
   rw[e2,ih i];simp
theorem flatMap_set {enc:α→List Value} {nf:Nat} (hn:∀x,(enc x).length=nf) (l:List α) (k j:Nat) (u:Value) (x':α) (hk:k < l.length) (hj:j < nf) (hx:enc x'=(enc l[k]).set j u) :
  (l.flatMap enc).set (k*nf+j) u=(l.set k x').flatMap enc:=by
 induction l generalizing k with
 | nil=>simp at hk
 | cons x l ih =>
  cases k with
  | zero =>
   simp only[List.getElem_cons_zero]at hx;simp[List.set_append,hn,hj,hx]
  | succ k =>
   simp only[List.getElem_cons_succ]at hx
   have e:(k+1)*nf+j=nf+(k*nf+j):=by rw[Nat.add_mul];omega
   have e2:nf+(k*nf+j) - nf=k*nf+j:=by omega
   have e3:¬nf+(k*nf+j) < nf:=by omega
   rw[e,List.flatMap_cons,List.set_append,hn,if_neg e3,e2,ih k (by simpa using hk) hx];simp
theorem rd_of_owns {w:World} {base e nf:Nat} {enc:α→List Value} (hn:∀x,(enc x).length=nf) {v:Value} {l:List α} {n:Nat} (h:w.ownsRow base e nf v n (l.flatMap enc)) (hl:n=l.length) :
  ∃a cap,v=.slice a l.length cap∧Rd nf enc w a l:=by
 subst hl
 rcases h.2 with⟨rfl,h0⟩|⟨g,cap,cur,rfl,_,hg,_,_,_,htake⟩
 ·refine⟨none,0,by rw[h0],fun i hi=>by omega⟩
 ·refine⟨_,cap,rfl,fun i hi=>⟨g,0,rfl,fun j u hu=>?_⟩⟩
  have hj:j < nf:=by
   have:=(List.getElem?_eq_some_iff.1 hu).1
   rwa [hn]at this
  have hlt:i*nf+j < l.length*nf:=by
   have:(i+1)*nf≤l.length*nf:=Nat.mul_le_mul_right _ hi;rw[Nat.add_mul]at this;omega
  rw[Nat.zero_add,cell_of_row w g _ cur e (0,0) hg];have h2:=flatMap_at hn l i j hj;rw[List.getElem?_eq_getElem hi,Option.bind_some,hu,←htake,List.getElem?_take,if_pos hlt]at h2
  simpa using h2
theorem rd_owns {w:World} {base e nf:Nat} {enc:α→List Value} (hn:∀x,(enc x).length=nf) {a:Option Addr} {cap:Nat} {l:List α} {n:Nat} (h:w.ownsRow base e nf (.slice a n cap) n (l.flatMap enc)) (hl:n=l.length):Rd nf enc w a l:=by
 obtain⟨a',cap',hv,hr⟩:=rd_of_owns hn h hl;simp only[Value.slice.injEq]at hv;rw[hv.1];exact hr
theorem owns_at {w:World} {base e nf:Nat} {enc:α→List Value} (hn:∀x,(enc x).length=nf) {g n cap:Nat} {L:List α} (h:w.ownsRow base e nf (.slice (some ⟨g,0,none⟩) n cap) n (L.flatMap enc)) (k:Nat) (hk:k < L.length) :
  ∀j u,(enc L[k])[j]?=some u→w.cell? ⟨g,k*nf+j,none⟩=some u:=by
 intro j u hu
 have hj:j < nf:=by
  have:=(List.getElem?_eq_some_iff.1 hu).1
  rwa [hn]at this
 have hlen:=h.1;rw[flatMap_length hn]at hlen
 have hlt:k*nf+j < n*nf:=by
  have:(k+1)*nf≤L.length*nf:=Nat.mul_le_mul_right _ hk;rw[Nat.add_mul]at this;omega
 rw[h.cellAt _ hlt,flatMap_at hn L k j hj,List.getElem?_eq_getElem hk,Option.bind_some,hu]
theorem owns_set {w:World} {base e nf:Nat} {enc:α→List Value} (hn:∀x,(enc x).length=nf) {g n cap:Nat} {L:List α} (h:w.ownsRow base e nf (.slice (some ⟨g,0,none⟩) n cap) n (L.flatMap enc)) (k j:Nat) (u:Value) (x':α) (hk:k < L.length) (hj:j < nf) (hx:enc x'=(enc L[k]).set j u) :
  (w.setCell ⟨g,k*nf+j,none⟩ u).ownsRow base e nf (.slice (some ⟨g,0,none⟩) n cap) n ((L.set k x').flatMap enc):=by
 have:=(h.stored (k*nf+j) u).1
 rwa [flatMap_set hn L k j u x' hk hj hx]at this
def setAll (xs:List Value) (p:Nat):List Value→List Value
 | []=>xs
 | u :: us=>setAll (xs.set p u) (p+1) us
theorem setAll_at (us:List Value):∀(xs:List Value) (p i:Nat),p+us.length≤xs.length→(setAll xs p us)[i]?=if p≤i∧i < p+us.length then us[i - p]? else xs[i]?:=by
 induction us with
 | nil=>intro xs p i _;simp[setAll];omega
 | cons u us ih =>
  intro xs p i h;simp only[List.length_cons]at h;rw[setAll,ih _ _ _ (by simp;omega)]
  by_cases h1:p+1≤i∧i < p+1+us.length
  ·rw[if_pos h1,if_pos (by simp;omega),show i - p=(i - (p+1))+1 by omega,List.getElem?_cons_succ]
  ·rw[if_neg h1]
   by_cases h2:i=p
   ·subst h2;rw[if_pos (by simp),List.getElem?_set_self (by omega)];simp
   ·rw[if_neg (by simp;omega),List.getElem?_set_ne (by omega)]
theorem flatMap_setAll {enc:α→List Value} {nf:Nat} (hn:∀x,(enc x).length=nf) (l:List α) (k:Nat) (x:α) (hk:k < l.length):setAll (l.flatMap enc) (k*nf) (enc x)=(l.set k x).flatMap enc:=by
 apply List.ext_getElem?;intro i
 have hb:k*nf+nf≤l.length*nf:=by
  have:(k+1)*nf≤l.length*nf:=Nat.mul_le_mul_right _ hk;rw[Nat.add_mul]at this;omega
 rw[setAll_at _ _ _ _ (by rw[hn,flatMap_length hn];exact hb),hn]
 by_cases h0:nf=0
 ·subst h0;have e1:l.flatMap enc=[]:=List.eq_nil_of_length_eq_zero (by rw[flatMap_length hn];simp);have e2:(l.set k x).flatMap enc=[]:=List.eq_nil_of_length_eq_zero (by rw[flatMap_length hn];simp);rw[if_neg (by omega),e1,e2]
 have hp:0 < nf:=by omega
 have e:i=i / nf*nf+i % nf:=by rw[Nat.mul_comm];exact(Nat.div_add_mod i nf).symm
 have hm:=Nat.mod_lt i hp
 by_cases hd:i / nf=k
 ·have e':i=k*nf+i % nf:=by rw[←hd];exact e
  have r1:(if k*nf≤i∧i < k*nf+nf then(enc x)[i - k*nf]? else(l.flatMap enc)[i]?)=(enc x)[i % nf]?:=by
   rw[if_pos (by omega),show i - k*nf=i % nf by omega]
  rw[r1]
  have r2:((l.set k x).flatMap enc)[i]?=((l.set k x).flatMap enc)[k*nf+i % nf]?:=by rw[←e']
  rw[r2,flatMap_at hn _ _ _ hm,List.getElem?_set_self hk,Option.bind_some]
 ·have r1:¬(k*nf≤i∧i < k*nf+nf):=by
   rintro⟨a1,a2⟩;apply hd;exact(Nat.div_eq_iff hp).2 ⟨by omega,by omega⟩
  rw[if_neg r1]
  have r2:(l.flatMap enc)[i]?=(l.flatMap enc)[i / nf*nf+i % nf]?:=by rw[←e]
  have r3:((l.set k x).flatMap enc)[i]?=((l.set k x).flatMap enc)[i / nf*nf+i % nf]?:=by rw[←e]
  rw[r2,r3,flatMap_at hn _ _ _ hm,flatMap_at hn _ _ _ hm,List.getElem?_set_ne (by omega)]
def setCells (w:World) (g p:Nat):List Value→World
 | []=>w
 | u :: us=>setCells (w.setCell ⟨g,p,none⟩ u) g (p+1) us
theorem owns_setCells {base e nf g n cap:Nat} (us:List Value):∀{w:World} {xs:List Value} (p:Nat),w.ownsRow base e nf (.slice (some ⟨g,0,none⟩) n cap) n xs→(setCells w g p us).ownsRow base e nf (.slice (some ⟨g,0,none⟩) n cap) n (setAll xs p us):=by
 induction us with
 | nil=>intro w xs p h;exact h
 | cons u us ih=>intro w xs p h;exact ih (p+1) (h.stored p u).1
theorem owns_put {w:World} {base e nf:Nat} {enc:α→List Value} (hn:∀x,(enc x).length=nf) {g n cap:Nat} {L:List α} (h:w.ownsRow base e nf (.slice (some ⟨g,0,none⟩) n cap) n (L.flatMap enc)) (k:Nat) (x:α) (hk:k < L.length) :
  (setCells w g (k*nf) (enc x)).ownsRow base e nf (.slice (some ⟨g,0,none⟩) n cap) n ((L.set k x).flatMap enc):=by
 have:=owns_setCells (enc x) (k*nf) h
 rwa [flatMap_setAll hn L k x hk]at this
end rd
theorem grown_setCell {a w:World} {g p:Nat} (h:a.grownBy w (some g)) (u:Value):a.grownBy (w.setCell ⟨g,p,none⟩ u) (some g) :=
 ⟨h.os,h.tape,h.output,by simpa [World.setCell]using h.size,fun k hk hne=>(Below.heap_setCell _ _ _ _ (by intro e;exact hne (by rw[e]))).trans (h.block k hk hne)⟩
theorem grown_setCells {a:World} {g:Nat} (us:List Value):∀{w:World} (p:Nat),a.grownBy w (some g)→a.grownBy (setCells w g p us) (some g):=by
 induction us with
 | nil=>intro w p h;exact h
 | cons u us ih=>intro w p h;exact ih (p+1) (grown_setCell h u)
theorem Ext.setCells {a:World} {g:Nat} (hg:a.heap.size≤g) (us:List Value):∀{w:World} (p:Nat),Ext a w→Ext a (setCells w g p us):=by
 induction us with
 | nil=>intro w p h;exact h
 | cons u us ih=>intro w p h;exact ih (p+1) (h.setCell hg u)
theorem ownsRow_ext {w w':World} {base e nf:Nat} {v:Value} {n:Nat} {xs:List Value} (h:w.ownsRow base e nf v n xs) (hb:Ext w w'):w'.ownsRow base e nf v n xs :=
 h.kept (row:=none) (grown_of_ext hb none) (by cases v.ownBlock<;>simp)
def OwnV {α:Type} (base E nf:Nat) (enc:α→List Value) (l:List α) (v:Value) (w:World):Prop:=∃g c,v=.slice g l.length c∧w.ownsRow base E nf (.slice g l.length c) l.length (l.flatMap enc)
theorem OwnV.ext {α:Type} {base E nf:Nat} {enc:α→List Value} {l:List α} {v:Value} {w w':World} (h:OwnV base E nf enc l v w) (hE:Ext w w'):OwnV base E nf enc l v w':=by
 obtain⟨g,c,h1,h2⟩:=h;exact⟨g,c,h1,ownsRow_ext h2 hE⟩
def PostSB {α:Type} (base E nf:Nat) (enc:α→List Value) (R:List α→Bool→Prop) (v:Value) (w:World):Prop:=∃u L ok,v=.tuple #[u,.bool ok]∧R L ok∧w.ownsRow base E nf u L.length (L.flatMap enc)
theorem PostSB.ext {α:Type} {base E nf:Nat} {enc:α→List Value} {R:List α→Bool→Prop} {v:Value} {w w':World} (h:PostSB base E nf enc R v w) (hE:Ext w w'):PostSB base E nf enc R v w':=by
 obtain⟨u,L,ok,h1,h2,h3⟩:=h;exact⟨u,L,ok,h1,h2,ownsRow_ext h3 hE⟩
def OneS {α:Type} (base E nf:Nat) (enc:α→List Value) (R:List α→Bool→Prop) (v:Value) (w:World):Prop:=∃L,(∃ok,R L ok)∧w.ownsRow base E nf v L.length (L.flatMap enc)
theorem OneS.ext {α:Type} {base E nf:Nat} {enc:α→List Value} {R:List α→Bool→Prop} {v:Value} {w w':World} (h:OneS base E nf enc R v w) (hE:Ext w w'):OneS base E nf enc R v w':=by
 obtain⟨L,h1,h2⟩:=h;exact⟨L,h1,ownsRow_ext h2 hE⟩
theorem ownsRow_base {w:World} {base base' e nf:Nat} {v:Value} {n:Nat} {xs:List Value} (h:w.ownsRow base e nf v n xs) (hb:base'≤base):w.ownsRow base' e nf v n xs:=by
 refine⟨h.1,?_⟩
 rcases h.2 with h2|⟨g,cap,cur,hv,hg,r⟩
 ·exact .inl h2
 ·exact .inr ⟨g,cap,cur,hv,Nat.le_trans hb hg,r⟩
end Go.Proofs.YtnibbldfohbfkaaGreatDoor

namespace Go.Proofs.YtnibbldfohbfkaaGreatDoor
open Go.ChangeShapes Go.WideShapes Go.ChangeAt Go.RowKit Go.Deep
theorem rowOwn:ownKnob Tryz.prog.godebug=none:=by kernel_rfl
theorem rowLaid:laidOutB Tryz.prog=true:=by kernel_rfl
theorem choose_list {α:Type} {P:α→Nat→Prop} (n:Nat) (h:∀i,i < n→∃x,P x i):∃l:List α,l.length=n∧∀i,(hi:i < l.length)→P l[i] i:=by
 induction n with
 | zero=>exact⟨[],rfl,fun i hi=>by simp at hi⟩
 | succ n ih =>
  obtain⟨l,hl,hp⟩:=ih (fun i hi=>h i (by omega));obtain⟨x,hx⟩:=h n (by omega);refine⟨l++[x],by simp[hl],fun i hi=>?_⟩;simp only[List.length_append,List.length_singleton]at hi
  by_cases h1:i < l.length
  ·rw[List.getElem_append_left h1];exact hp i h1
  ·have e:i=n:=by omega
   subst e;rw[List.getElem_append_right (by omega)]
   simpa using hx
section
variable {H:Type} {enc:TypeId×Value→H} {P:Program} {w:World} {base:Nat} {spare:Nat→Bool} {held:Bool}
theorem open_rd {α:Type} {encA:α→List Value} {good:α→Prop} {t e nf:Nat} (ht:P.underlying t=some (.slice e)) (hC:P.cellsOf e=nf) (hnf:0 < nf) (hlen:∀x,(encA x).length=nf)
  (hel:∀n cs y,DataW.trod enc P w base spare held n e cs=some y→∃x,cs=encA x∧good x) {fuel:Nat} {v:Value} {x:DataW H×List MemPlace} (h:DataW.trod enc P w base spare held fuel t [v]=some x) :
  ∃a cap l,v=.slice a l.length cap∧l.length≤9223372036854775807∧(∀x∈l,good x)∧Rd nf encA w a l:=by
 rcases open_slice ht h with⟨hcs,_⟩|⟨a,len,cap,m,n,D,Pl,hcs,hb,hl,hm,hmm,hx,hi⟩
 ·simp only[List.cons.injEq,and_true]at hcs;exact⟨none,0,[],hcs,by simp,by simp,fun i hi=>by simp at hi⟩
 ·simp only[List.cons.injEq,and_true]at hcs
  have hml:len≤m:=by rw[hmm];split<;>omega
  obtain⟨l,hll,hp⟩:=choose_list (P:=fun x i=>good x∧w.cells? base (a.add (i*nf)) nf=some (encA x)) len (fun i hil=>by
   obtain⟨cs',hc,ht'⟩:=hi i (by omega);obtain⟨y,rfl,hg⟩:=hel _ _ _ ht';rw[hC]at hc
   exact⟨y,hg,hc⟩)
  refine⟨some a,cap,l,by rw[hll];exact hcs,by have:cap≤9223372036854775807:=hm;omega,fun x hx=>?_,fun i hi=>?_⟩
  ·obtain⟨i,hi,rfl⟩:=List.getElem_of_mem hx;exact(hp i hi).1
  ·obtain⟨hg,hc⟩:=hp i hi;obtain⟨_,hcl,hat⟩:=World.cells?_some hc
   have hsp:a.spot=none:=by
    have h0:=(World.cells?_some (hp 0 (by omega)).2).2.2 0 hnf
    have hsome:(encA l[0])[0]?.isSome=true:=by
     rw[List.getElem?_eq_getElem (by rw[hlen];exact hnf)];rfl
    rw[←h0]at hsome
    have e0:(a.add (0*nf)).add 0=a:=by simp[Addr.add]
    rw[e0]at hsome;unfold World.cell? at hsome
    cases hs:a.spot with
    | none=>rfl
    | some s =>
     rw[hs]at hsome
     split at hsome<;>simp at hsome
   refine⟨a.block,a.off,by rw[←hsp],fun j u hu=>?_⟩
   have hj:j < nf:=by
    have:=(List.getElem?_eq_some_iff.1 hu).1
    rwa [hlen]at this
   rw[←hu,←hat j hj]
   congr 1
   obtain⟨ab,ao,asp⟩:=a;simp only at hsp;subst hsp;rw[Addr.add_lit,Addr.add_lit]
theorem open_rd_arg {α:Type} {encA:α→List Value} {good:α→Prop} {t e nf:Nat} {r:Reach} {b0:Nat} (ht:P.underlying t=some (.slice e)) (hC:P.cellsOf e=nf) (hnf:0 < nf) (hlen:∀x,(encA x).length=nf)
  (hel:∀n cs y,DataW.trod enc P w base spare held n e cs=some y→∃x,cs=encA x∧good x) {v:Value} {d:DataW H} {p:List MemPlace} (hv:Value.okWide P w r b0 t v) (h:DataW.Trod enc P w base spare held t v d p) :
  ∃a cap l,v=.slice a l.length cap∧l.length≤9223372036854775807∧(∀x∈l,good x)∧Rd nf encA w a l:=by
 obtain⟨a,len,cap,rfl⟩:=okWide_slice ht hv;obtain⟨fuel,hf⟩:=h;exact open_rd ht hC hnf hlen hel hf
theorem trodAll_stays (hlaid:laidOutB P=true) {W W':World} (hb:Below W.heap.size W W'):∀(ts:List TypeId) (vs:List Value) (ds:List (DataW H)) (ps:List MemPlace),
  (∀t∈ts,P.readableRec t=true∧t < P.types.size)→DataW.TrodAll enc P W 0 (fun _=>true) true ts vs ds ps→(∀x∈ps,x.block < W.heap.size) →
  DataW.TrodAll enc P W' 0 (fun b=>decide (b < W.heap.size)) true ts vs ds ps:=by
 intro ts
 induction ts with
 | nil =>
  intro vs ds ps _ h _;obtain⟨rfl,rfl,rfl⟩:=trodAll_nil h;exact trodAll_mk0
 | cons t ts ih =>
  intro vs ds ps ht h hlt;obtain⟨v,vs',d,ds',p,q,rfl,rfl,rfl,h0,h1⟩:=trodAll_cons h;have ht0:=ht t (by simp);exact trodAll_cons_mk (Below.trod hlaid ht0.1 ht0.2 h0 hb (fun x hx=>hlt x (by simp[hx]))) (ih _ _ _ (fun t' h'=>ht t' (by simp[h'])) h1 (fun x hx=>hlt x (by simp[hx])))
theorem law_post {f:Func} {s:ChangeSpec} {W W':World} {args:Array Value} {ds gs:List (DataW H)} {before:List MemPlace} {tb:TypeId} (hlaid:laidOutB P=true)
  (hW:DataW.Whole enc P f.params.toList s.vars false W args.toList ds gs before) (hvars:s.vars=[])
  (hr:f.resultTypes=#[tb]) (htb:P.underlying tb=some .bool) (hts:∀t∈f.params.toList,P.readableRec t=true∧t < P.types.size)
  (hres:(s.fn H (ds++gs)).results=[.lit (.bool true)]) (hargs:(s.fn H (ds++gs)).args=ds) (hv0:(s.fn H (ds++gs)).vars=[]) (hE:Ext W W') :
  s.post enc P f false true false false W args (.bool true) W':=by
 have hW':=hW;obtain⟨p,q,hA,hV,rfl,hfz,hnd⟩:=hW;rw[hvars]at hV;obtain⟨rfl,rfl⟩:=trodVars_none hV
 have hlt:∀x∈p,x.block < W.heap.size:=fun x hx=>by simpa using hW'.lt x (by simp[hx])
 refine⟨ds,[],p++[],[],p,[],hW',?_,?_,?_,hE.frame _,fun h=>by cases h⟩
 ·rw[hres,hr];exact trodAll_mk1 (shut_bool htb _)
 ·rw[hargs];exact trodAll_stays hlaid hE _ _ _ _ hts hA hlt
 ·rw[hvars,hv0];exact rfl
end
end Go.Proofs.YtnibbldfohbfkaaGreatDoor

namespace Go.Proofs.YtnibbldfohbfkaaGreatDoor
open Go.ChangeShapes Go.WideShapes Go.ChangeAt Go.RowKit Go.Deep
theorem wrapD {H:Type} {enc:TypeId×Value→H} {a:Assume} {C:Checked} {os:Os} {f:FuncId} {fn:Func} {s:ChangeSpec} {conds:List PathCond} {apart fresh handsOn again:Bool} {laid:List (String×DataW Unit)}
  (own:ownKnob C.prog.godebug=none) (started:os.Started) (noInit:C.prog.inits.idxOf? f=none) (hfn:C.prog.funcs[f]?=some fn)
  (witness:∃(w:World) (tape:Tape) (i:Input),w.os=os∧(w.forCall tape i).Shaped C.prog∧i.vars=[]∧Input.okWide C.prog (w.forCall tape i) .any w.heap.size f i ∧
   ((s.pre enc C.prog fn conds apart (w.forCall tape i).memory i.args∧laidMetH C.prog laid (w.forCall tape i).memory)∧sizedMet enc C.prog fn (OpenSpec.ofChange s) apart (w.forCall tape i).memory i.args)∧a.holds C.prog (lone (Frame.enter C.prog f i.args .normal) [] (w.forCall tape i)))
  (contract:∀(W:World) (base:Nat) (args:Array Value) (ds gs:List (DataW H)) (before:List MemPlace),
   (∀(j:Nat) t v,fn.params[j]?=some t→args[j]?=some v→Value.okWide C.prog W .any base t v) →
   DataW.Whole enc C.prog fn.params.toList s.vars apart W args.toList ds gs before →
   W.ShapedOpen C.prog →
   Calls C.prog f args W fun e W'=>∃v,e=.returned v∧s.post enc C.prog fn apart fresh handsOn again W args v W') :
  ReturnsInHanded a C os f .any (fun w args=>(s.pre enc C.prog fn conds apart w args∧laidMetH C.prog laid w)∧sizedMet enc C.prog fn (OpenSpec.ofChange s) apart w args) (s.post enc C.prog fn apart fresh handsOn again):=by
 refine returnsInHanded_of_calls own started noInit witness ?_;intro w tape i _ hsh _ hok hpre _;obtain⟨_,_,_,fn',hfn',_,_,_,_,hval⟩:=hok;obtain rfl:fn'=fn:=Option.some.inj (hfn'.symm.trans hfn);obtain⟨⟨⟨ds,gs,before,hw,_⟩,_⟩,_⟩:=hpre
 refine(contract (w.forCall tape i) w.heap.size i.args ds gs before hval (DataW.Whole.of_heap (w':=w.forCall tape i) (by rfl) hw) hsh).mono fun e W' ⟨v,he,hp⟩=>?_
 subst he;exact ChangeSpec.post_blind hp
def encU8 (x:Int):List Value:=[.int .u8 x]
theorem encU8_len (x:Int):(encU8 x).length=1:=rfl
def Step (g:Nat) (w w':World):Prop:=w.grownBy w' (some g)
theorem Step.refl (g:Nat) (w:World):Step g w w:=⟨rfl,rfl,rfl,Nat.le_refl _,fun _ _ _=>rfl⟩
theorem Step.size {g:Nat} {w w':World} (h:Step g w w'):w.heap.size≤w'.heap.size:=World.grownBy.size h
theorem Step.trans {g:Nat} {a b c:World} (h:Step g a b) (k:Step g b c):Step g a c :=
 ⟨(World.grownBy.os k).trans (World.grownBy.os h),(World.grownBy.tape k).trans (World.grownBy.tape h),(World.grownBy.output k).trans (World.grownBy.output h),Nat.le_trans h.size k.size,
  fun i hi hn=>((World.grownBy.block k) i (Nat.lt_of_lt_of_le hi h.size) hn).trans ((World.grownBy.block h) i hi hn)⟩
theorem Step.of_ext {g:Nat} {a b:World} (h:Ext a b):Step g a b:=grown_of_ext h _
theorem Step.ext {g:Nat} {a b c:World} (h:Step g a b) (k:Ext b c):Step g a c:=h.trans (.of_ext k)
theorem Step.alloc {g:Nat} {a b:World} (h:Step g a b) (o:Obj):Step g a (b.alloc o):=h.ext ((Ext.refl _).alloc o)
theorem Step.drew {g:Nat} {a b:World} (h:Step g a b):Step g a b.drew:=h.ext (Ext.refl _).drew
theorem Step.row {g:Nat} {a b c:World} {row:Option Nat} (h:Step g a b) (k:b.grownBy c row) (hr:∀i,row=some i→a.heap.size≤i):Step g a c :=
 ⟨k.os.trans (World.grownBy.os h),k.tape.trans (World.grownBy.tape h),k.output.trans (World.grownBy.output h),Nat.le_trans h.size k.size,
  fun i hi hn=>(k.block i (Nat.lt_of_lt_of_le hi h.size) (fun e=>absurd (hr i e.symm) (by omega))).trans ((World.grownBy.block h) i hi hn)⟩
theorem Step.toExt {g:Nat} {a b c:World} (h:Ext a b) (k:Step g b c) (hg:a.heap.size≤g):Ext a c:=h.grown k (fun i e=>by cases e;exact hg)
theorem cell_step {g:Nat} {w w':World} (h:Step g w w') {b o:Nat} {v:Value} (hb:b≠g) (hc:w.cell? ⟨b,o,none⟩=some v):w'.cell? ⟨b,o,none⟩=some v:=by
 have hlt:=World.block_lt_of_cell? w ⟨b,o,none⟩ hc;rw[World.cell?_of_block (w:=w) ((World.grownBy.block h) b hlt (by intro e;exact hb (Option.some.inj e)))];exact hc
theorem heap_step {g:Nat} {w w':World} (h:Step g w w') {b:Nat} (hb:b≠g) (hlt:b < w.heap.size):w'.heap[b]?=w.heap[b]?:=(World.grownBy.block h) b hlt (by intro e;exact hb (Option.some.inj e))
theorem Rd.step {α:Type} {nf:Nat} {enc:α→List Value} {g:Nat} {w w':World} {a:Option Addr} {l:List α} (h:Rd nf enc w a l) (k:Step g w w') (hg:l≠[]→∀b off,a=some ⟨b,off,none⟩→b≠g):Rd nf enc w' a l:=by
 intro i hi;obtain⟨b,off,ha,hc⟩:=h i hi;exact⟨b,off,ha,fun j u hu=>cell_step k (hg (by intro e;subst e;simp at hi) b off ha) (hc j u hu)⟩
def Src (g:Nat) (P:Int) (w:World):Prop :=
 ∃(ab:Option Addr) (cb:Nat) (l:List Int) (p:Int),w.heap[g]?=some (.cells #[.slice ab l.length cb,.int .i64 p] 108 (0,0))∧0≤p∧p≤P∧l.length≤2000∧(∀x∈l,0≤x∧x≤255)∧Rd 1 encU8 w ab l∧(l≠[]→∀b off,ab=some ⟨b,off,none⟩→b < g)
theorem Src.lt {g:Nat} {P:Int} {w:World} (h:Src g P w):g < w.heap.size:=by
 obtain⟨ab,cb,l,p,hg,_⟩:=h
 rcases Nat.lt_or_ge g w.heap.size with h3|h3
 ·exact h3
 ·rw[Array.getElem?_eq_none h3]at hg;cases hg
theorem Src.mono {g:Nat} {P P':Int} {w:World} (h:Src g P w) (hP:P≤P'):Src g P' w:=by
 obtain⟨ab,cb,l,p,hg,h0,h1,r⟩:=h;exact⟨ab,cb,l,p,hg,h0,by omega,r⟩
theorem Src.ext {g:Nat} {P:Int} {w w':World} (h:Src g P w) (hE:Ext w w'):Src g P w':=by
 have hlt:=h.lt;obtain⟨ab,cb,l,p,hg,h0,h1,h2,h3,h4,h5⟩:=h;exact⟨ab,cb,l,p,by rw[hE.block g hlt];exact hg,h0,h1,h2,h3,h4.ext hE,h5⟩
theorem Src.below {g:Nat} {P:Int} {w w':World} (h:Src g P w) (hB:Below (g+1) w w'):Src g P w':=by
 obtain⟨ab,cb,l,p,hg,h0,h1,h2,h3,h4,h5⟩:=h;refine⟨ab,cb,l,p,by rw[hB.block g (by omega)];exact hg,h0,h1,h2,h3,?_,h5⟩;intro i hi;obtain⟨b,off,ha,hc⟩:=h4 i hi;have hb:=h5 (by intro e;subst e;simp at hi) b off ha;exact⟨b,off,ha,fun j u hu=>by rw[hB.cell (p:=⟨b,off+i*1+j,none⟩) (by show b < g+1;omega)];exact hc j u hu⟩
theorem Src.row {g:Nat} {P:Int} {w w':World} {row:Option Nat} (h:Src g P w) (k:w.grownBy w' row) (hr:∀i,row=some i→g < i):Src g P w' :=
 h.below ((Below.refl _ _).grown k (by have:=h.lt;omega) (fun i e=>hr i e))
theorem Step.setCell {g:Nat} {a b:World} (h:Step g a b) {p:Addr} (hp:a.heap.size≤p.block) (u:Value):Step g a (b.setCell p u) :=
 ⟨(show b.os=a.os from World.grownBy.os h),(show b.tape=a.tape from World.grownBy.tape h),(show b.output=a.output from World.grownBy.output h),by have:=h.size;simpa [World.setCell]using this,
  fun i hi hn=>(Below.heap_setCell _ _ _ _ (by omega)).trans ((World.grownBy.block h) i hi hn)⟩
theorem Src.setCell {g:Nat} {P:Int} {w:World} (h:Src g P w) {p:Addr} (hp:g < p.block) (u:Value):Src g P (w.setCell p u) :=
 h.below ((Below.refl _ _).setCell (by omega) u)
def RetD (g:Nat) (P:Int) (c:Int) (Q:Value→World→Prop) (w:World) (e:Ending) (w':World):Prop:=∃v,e=.returned v∧Q v w'∧Src g (P+c) w'∧Step g w w'
theorem RetD.mk {g:Nat} {P c P':Int} {Q:Value→World→Prop} {w w':World} {v:Value} (h:Q v w') (hs:Src g P' w') (hP:P'≤P+c) (hw:Step g w w'):RetD g P c Q w (.returned v) w':=⟨v,rfl,h,hs.mono hP,hw⟩
theorem lit_at {α:Type} {nf:Nat} {enc:α→List Value} {w:World} {b:Nat} {l:List α} (h:Rd nf enc w (some ⟨b,0,none⟩) l) {k:Nat} (hk:k < l.length):∃x∈l,∀j u,(enc x)[j]?=some u→w.cell? ⟨b,k*nf+j,none⟩=some u:=by
 obtain⟨b',off,hb,hc⟩:=h k hk;simp only[Option.some.injEq,Addr.mk.injEq,and_true]at hb;obtain⟨rfl,rfl⟩:=hb;exact⟨l[k],List.getElem_mem hk,fun j u hu=>by have:=hc j u hu;rwa [Nat.zero_add]at this⟩
def encStr1 (s:ByteArray):List Value:=[.string s]
def encInt1 (x:Int):List Value:=[.int .i64 x]
end Go.Proofs.YtnibbldfohbfkaaGreatDoor

namespace Go.Proofs.YtnibbldfohbfkaaGreatDoor
open Go.ChangeShapes Go.WideShapes Go.ChangeAt Go.RowKit Go.Deep
section
variable {H:Type} {enc:TypeId×Value→H} {w:World} {base:Nat} {spare:Nat→Bool} {held:Bool}
theorem openU8 (n:Nat) (cs:List Value) (y:DataW H×List MemPlace) (h:DataW.trod enc Tryz.prog w base spare held n 5 cs=some y):∃x:Int,cs=encU8 x∧(0≤x∧x≤255):=by
 obtain⟨v,hv,_,h2⟩:=DataW.trod_int Tryz.underlying5 h;refine⟨v,hv,?_⟩;simp[Lit.wf]at h2
 have h3:IntKind.u8.min=0:=by decide
 have h4:IntKind.u8.max=255:=by decide
 omega
theorem trod_cap {P:Program} {t e:TypeId} {a:Option Addr} {len cap:Nat} {d:DataW H} {p:List MemPlace} (ht:P.underlying t=some (.slice e)) (h:DataW.Trod enc P w base spare held t (.slice a len cap) d p):len≤cap:=by
 obtain⟨fuel,hf⟩:=h
 rcases open_slice ht hf with⟨hcs,_⟩|⟨a',len',cap',m,n,D,Pl,hcs,hb,hl,hm,hmm,hx,hi⟩
 ·injection hcs with h1 h2
  injection h1
  omega
 ·injection hcs with h1 h2
  injection h1
  omega
end
theorem infoInt:(Tryz.prog.info? 3).map (fun i=>(i.zero,i.size,i.bytes))=some (some (.int .i64 0),1,8):=by kernel_rfl
def inB (n lo hi:Int):Bool:=decide (lo≤n∧n≤hi)
theorem inB_iff {n lo hi:Int}:inB n lo hi=true↔lo≤n∧n≤hi:=by simp[inB]
theorem l1In_any (n lo hi:Int) (w:World) :
  Calls Tryz.prog 68 #[.int .i64 n,.int .i64 lo,.int .i64 hi] w fun e w'=>e=.returned (.bool (inB n lo hi))∧w=w':=by
 unfold inB
 by_cases h:lo≤n <;>
 ·go_enter Tryz.func68,Tryz.ntmps68
  go_wp2;go_ret
  exact⟨ret_bool (by simp<;>omega),rfl⟩
theorem within_any (n lo hi:Int) (w:World) :
  Calls Tryz.prog 91 #[.int .i64 n,.int .i64 lo,.int .i64 hi] w fun e w'=>e=.returned (.bool (inB n lo hi))∧w=w':=by
 unfold inB
 by_cases h:lo≤n <;>
 ·go_enter Tryz.func91,Tryz.ntmps91
  go_wp2;go_ret
  exact⟨ret_bool (by simp<;>omega),rfl⟩
section
variable {P:Program}
def putAll (a:Act):List Oper→List Value→Act
 | o :: os,v :: vs=>putAll (a.put o.dst v) os vs
 | _,_=>a
def headB (l:List Oper) (size n:Nat):Bool :=
 (List.range n).all (fun i=>match l[i]? with
  | some o=>(match o.dst with|some d=>decide (d < size) && (List.range n).all (fun j=>decide (j=i) || match l[j]? with|some o'=>decide (o'.dst≠some d)|none=>true)|none=>true) &&
    o.after.toList.all (fun e=>!Region.binds .any e || decide (e.on < i))
  | none=>false)
def tailB (l:List Oper) (n:Nat):Bool :=
 decide (n=l.length) || (decide (n < l.length) && Region.sinkB .any l.toArray n && Region.chainB .any l.toArray n)
def markN (n m:Nat):Array Bool:=((List.range m).map (fun i=>decide (i < n))).toArray
def OneQ (V:Value→World→Prop) (o:Oper) (a:Act) (w:World):Exit→Act→World→Prop :=
 fun e a' w'=>e=.normal∧∃v,a'=a.put o.dst v∧V v w'∧Ext w w'
theorem wp_of_one {o:Oper} {a:Act} {w:World} {K:Act→World→Prop} {V:Value→World→Prop} {Q:Exit→Act→World→Prop} {ops:Array Oper} {i:Nat} (ho:ops[i]?=some o)
  (h:wpList P ops (OneQ V o a w) [o] a w) (hK:∀v w',V v w'→Ext w w'→K (a.put o.dst v) w'):wpOp P ops Q i K a w:=by
 have hno:¬LetsOut (OneQ V o a w):=by rintro⟨a',w',h',_⟩;cases h'
 unfold wpOp;simp only[ho];simp only[wpList]at h
 split
 ·rename_i hw;rw[if_pos hw]at h;left
  rcases h with h|⟨_,h⟩
  ·unfold Oper.wp at *;generalize (execOp a.eval o).run P w=r at *
   cases r with
   | ok x w1 =>
    cases x<;>simp only[Oper.upon]at h ⊢
    case enter f args => exact h.mono fun e w2 he => by
                          cases e with
                          | returned v=>obtain⟨_,u,h1,h2,h3⟩:=he;show K _ _;rw[h1];exact hK u w2 h2 h3
                          | panicked ch=>obtain⟨h1,_⟩:=he;cases h1
                          | outgrown=>exact absurd he hno
    case row r1 args=>exact h.mono fun v w2 he=>by obtain⟨_,u,h1,h2,h3⟩:=he;rw[h1];exact hK u w2 h2 h3
    all_goals(obtain⟨_,u,h1,h2,h3⟩:=h;rw[h1];exact hK u _ h2 h3)
   | halt x w1=>cases x<;>simp only[Oper.upon]at h ⊢<;>(obtain⟨h1,_⟩:=h;cases h1)
  ·exact absurd h hno
 ·rename_i hw;rw[if_neg hw]at h;obtain⟨_,u,h1,h2,h3⟩:=h;rw[h1];exact hK u w h2 h3
theorem putAll_put (a:Act):∀(os:List Oper) (vs:List Value) (i:Nat) (o:Oper) (v:Value),os[i]?=some o→os.length=vs.length →
  (∀d,o.dst=some d→∀j o',os[j]?=some o'→j≠i→o'.dst≠some d)→(putAll a os vs).put o.dst v=putAll a os (vs.set i v):=by
 have comm:∀(os:List Oper) (vs:List Value) (a:Act) (x:Option Tmp) (v:Value),(∀d,x=some d→∀o'∈os,o'.dst≠some d)→putAll (a.put x v) os vs=(putAll a os vs).put x v:=by
  intro os
  induction os with
  | nil=>intro vs a x v _;rfl
  | cons o os ih =>
   intro vs a x v h
   cases vs with
   | nil=>rfl
   | cons u vs =>
    simp only[putAll];rw[Act.put_comm a v u (fun d hd=>h d hd o (by simp)),ih vs _ x v (fun d hd o' ho'=>h d hd o' (by simp[ho']))]
 have twice:∀(a:Act) (x:Option Tmp) (u v:Value),(a.put x u).put x v=a.put x v:=by
  intro a x u v
  cases x with
  | none=>rfl
  | some d=>simp[Act.put]
 intro os
 induction os generalizing a with
 | nil=>intro vs i o v h;simp at h
 | cons p os ih =>
  intro vs i o v hi hlen hd
  cases vs with
  | nil=>simp at hlen
  | cons u vs =>
   cases i with
   | zero =>
    simp only[List.getElem?_cons_zero,Option.some.injEq]at hi;subst hi;simp only[putAll,List.set_cons_zero]
    have hos:∀d,p.dst=some d→∀o'∈os,o'.dst≠some d:=fun d h o' ho'=>by
     obtain⟨j,hj⟩:=List.getElem?_of_mem ho';exact hd d h (j+1) o' (by simpa using hj) (by omega)
    rw[←comm os vs _ _ _ hos,twice]
   | succ i =>
    simp only[List.getElem?_cons_succ]at hi;simp only[putAll,List.set_cons_succ];exact ih _ vs i o v hi (by simpa using hlen) (fun d h j o' hj hne=>hd d h (j+1) o' (by simpa using hj) (by omega))
def oldVals (a:Act) (os:List Oper):List Value:=os.map (fun o=>match o.dst with|some d=>a.tmps.getD d undef|none=>undef)
theorem putAll_old (a:Act):∀(os:List Oper),(∀o∈os,∀d,o.dst=some d→d < a.tmps.size)→putAll a os (oldVals a os)=a:=by
 have one:∀(o:Oper),(∀d,o.dst=some d→d < a.tmps.size)→a.put o.dst (match o.dst with|some d=>a.tmps.getD d undef|none=>undef)=a:=by
  intro o h
  cases hd:o.dst with
  | none=>rfl
  | some d =>
   have hlt:=h d hd;obtain⟨t,df⟩:=a;simp only[Act.put,Act.mk.injEq,and_true];apply Array.ext_getElem?;intro i
   by_cases hi:d=i
   ·subst hi;simp only[]at hlt;simp[hlt]
   ·simp[Array.getElem?_setIfInBounds_ne hi]
 intro os
 induction os with
 | nil=>intro _;rfl
 | cons o os ih =>
  intro h;have h0:=one o (h o (by simp));simp only[oldVals,List.map_cons,putAll];rw[h0];exact ih (fun o' ho'=>h o' (by simp[ho']))
def Waits (V:Nat→Value→World→Prop) (o:Oper) (vs:List Value) (w:World):Prop:=∀e∈o.after.toList,Region.binds .any e=true→V e.on (vs.getD e.on undef) w
structure HInv (V:Nat→Value→World→Prop) (l:List Oper) (n:Nat) (a0:Act) (w0:World) (listed:Array Bool) (a:Act) (w:World):Prop where
 head:HeadInv .any l.toArray n listed
 ext:Ext w0 w
 vals:∃vs:List Value,vs.length=n∧a=putAll a0 (l.take n) vs∧∀i,i < n→listed.getD i false=true→V i (vs.getD i undef) w
def unlisted (listed:Array Bool) (n:Nat):Nat:=((List.range n).filter (fun i=>!listed.getD i false)).length
theorem unlisted_set {listed:Array Bool} {n i:Nat} (hi:i < n) (hl:listed.getD i true=false):unlisted listed n=unlisted (listed.setIfInBounds i true) n+1:=by
 unfold unlisted
 have hs:i < listed.size:=by
  rcases Nat.lt_or_ge i listed.size with h|h
  ·exact h
  ·simp[Array.getElem?_eq_none h]at hl
 have hf:listed.getD i false=false:=getD_both hl
 induction n with
 | zero=>omega
 | succ n ih =>
  rw[List.range_succ,List.filter_append,List.filter_append,List.length_append,List.length_append]
  by_cases hin:i=n
  ·subst hin
   have e1:((List.range i).filter (fun j=>!listed.getD j false))=((List.range i).filter (fun j=>!(listed.setIfInBounds i true).getD j false)):=by
    apply List.filter_congr;intro j hj;rw[getD_set_ne false (by have:=List.mem_range.1 hj;omega)]
   have e2:(listed.setIfInBounds i true).getD i false=true:=by simp[hs]
   rw[e1];simp only[List.filter_cons,hf,e2,Bool.not_false,Bool.not_true,if_true,Bool.false_eq_true,if_false,List.filter_nil,List.length_cons,List.length_nil]
  ·have:=ih (by omega);rw[this];have e3:(listed.setIfInBounds i true).getD n false=listed.getD n false:=getD_set_ne false hin;simp only[List.filter_cons,List.filter_nil,e3];omega
theorem unlisted_zero {listed:Array Bool} {n:Nat} (h:unlisted listed n=0):∀i,i < n→listed.getD i false=true:=by
 intro i hi;unfold unlisted at h;have h1:=List.eq_nil_of_length_eq_zero h;have h2:=List.filter_eq_nil_iff.1 h1 i (List.mem_range.2 hi)
 simpa using h2
theorem unlisted_pos {listed:Array Bool} {n:Nat} (h:unlisted listed n≠0):∃i,i < n∧listed.getD i false=false∧∀j,j < i→listed.getD j false=true:=by
 induction n with
 | zero=>simp[unlisted]at h
 | succ n ih =>
  by_cases hn:unlisted listed n=0
  ·have hall:=unlisted_zero hn;refine⟨n,by omega,?_,hall⟩
   cases hf:listed.getD n false with
   | false=>rfl
   | true =>
    exfalso;apply h;unfold unlisted at hn ⊢;rw[List.range_succ,List.filter_append,List.length_append,hn];simp only[List.filter_cons,hf,Bool.not_true,Bool.false_eq_true,if_false,List.filter_nil,List.length_nil]
  ·obtain⟨i,h1,h2,h3⟩:=ih hn;exact⟨i,by omega,h2,h3⟩
theorem wpAny_head {V:Nat→Value→World→Prop} {l:List Oper} {n:Nat} {a0:Act} {w0:World} {Q:Exit→Act→World→Prop} (hn:n≤l.length)
  (hH:headB l a0.tmps.size n=true) (hT:tailB l n=true) (hS:Region.seqB .any l.toArray (l.length - n) n (markN n l.length)=true)
  (hst:∀i v w w',V i v w→Ext w w'→V i v w')
  (hstep:∀i o,i < n→l[i]?=some o→∀vs w,vs.length=n→Ext w0 w→Waits V o vs w→wpList P l.toArray (OneQ (V i) o (putAll a0 (l.take n) vs) w) [o] (putAll a0 (l.take n) vs) w)
  (hend:∀vs w,vs.length=n→Ext w0 w→(∀i,i < n→V i (vs.getD i undef) w)→wpList P l.toArray Q (l.drop n) (putAll a0 (l.take n) vs) w) :
  ∀(f:Nat) (listed:Array Bool) (a:Act) (w:World),unlisted listed n=f→HInv V l n a0 w0 listed a w→wpAny P .any l.toArray Q (f+(l.length - n)) listed a w:=by
 have hop:∀i o,i < n→l[i]?=some o→(∀d,o.dst=some d→∀j o',(l.take n)[j]?=some o'→j≠i→o'.dst≠some d)∧(∀e∈o.after.toList,Region.binds .any e=true→e.on < i):=by
  intro i o hi ho;have h1:=List.all_eq_true.1 hH i (List.mem_range.2 hi);simp only[ho,Bool.and_eq_true]at h1;refine⟨fun d hd j o' hj hne=>?_,fun e he hb=>?_⟩
  ·have h2:=h1.1;simp only[hd,Bool.and_eq_true]at h2
   have hjn:j < n:=by
    have:=(List.getElem?_eq_some_iff.1 hj).1;simp at this;omega
   have h3:=List.all_eq_true.1 h2.2 j (List.mem_range.2 hjn);rw[List.getElem?_take,if_pos hjn]at hj;simp only[hj,Bool.or_eq_true,decide_eq_true_eq]at h3;exact h3.resolve_left hne
  ·have h3:=List.all_eq_true.1 h1.2 e he;simp only[Bool.or_eq_true,Bool.not_eq_true',hb,decide_eq_true_eq]at h3;exact h3.resolve_left (by simp)
 have htailno:∀listed,HeadInv .any l.toArray n listed→(∃i,i < n∧listed.getD i true=false)→∀t,n≤t→t∉Region.ready .any l.toArray listed:=by
  intro listed inv ⟨i,hi,hun⟩ t ht;simp only[tailB,Bool.or_eq_true,Bool.and_eq_true,decide_eq_true_eq]at hT
  rcases hT with h|h
  ·intro hr;obtain⟨_,o,ho,_⟩:=mem_ready.1 hr;have:=(Array.getElem?_eq_some_iff.1 ho).1;simp at this;omega
  ·exact tail_waits h.1.2 h.2 (by simpa using h.1.1) inv _ i rfl hi hun t ht
 intro f
 induction f with
 | zero =>
  intro listed a w hf inv;obtain⟨vs,hvl,rfl,hV⟩:=inv.vals;have hall:=unlisted_zero hf
  have hlist:listed=markN n l.length:=by
   apply Array.ext_getElem?;intro i;have hsz:=inv.head.size;simp only[List.size_toArray]at hsz
   by_cases hi:i < l.length
   ·have hil:i < listed.size:=by omega
    rw[Array.getElem?_eq_getElem hil]
    by_cases hin:i < n
    ·have:=hall i hin;simp only[Array.getD_eq_getD_getElem?,Array.getElem?_eq_getElem hil,Option.getD_some]at this;simp[markN,hi,hin,this]
    ·have:=inv.head.tail i (by omega) (by simpa using hi);simp only[Array.getD_eq_getD_getElem?,Array.getElem?_eq_getElem hil,Option.getD_some]at this;simp[markN,hi,hin,this]
   ·rw[Array.getElem?_eq_none (by omega),Array.getElem?_eq_none (by simp[markN];omega)]
  rw[hlist];have:=wpAny_of_seq (P:=P) (md:=.any) (Q':=Q) (ops:=l.toArray) (l.drop n) n (markN n l.length) (putAll a0 (l.take n) vs) w (fun j=>by simp[List.getElem?_drop]) (by rw[List.length_drop];exact hS) (hend vs w hvl inv.ext (fun i hi=>hV i hi (hall i hi)));rw[List.length_drop]at this;rw[Nat.zero_add];exact this
 | succ f ih =>
  intro listed a w hf inv;rw[show f+1+(l.length - n)=(f+(l.length - n))+1 by omega];obtain⟨vs,hvl,rfl,hV⟩:=inv.vals;obtain⟨i0,hi0,hun0,hmin⟩:=unlisted_pos (show unlisted listed n≠0 by omega);have hsz:=inv.head.size;simp only[List.size_toArray]at hsz;have hun0':listed.getD i0 true=false:=getD_in (by omega) hun0;refine⟨fun hnil=>?_,fun i hi=>?_⟩
  ·exfalso;obtain⟨o,ho⟩:∃o,l[i0]?=some o:=⟨_,List.getElem?_eq_getElem (by omega)⟩;have:i0∈Region.ready .any l.toArray listed:=mem_ready.2 ⟨hun0',o,by simpa using ho,fun e he hb=>hmin _ ((hop i0 o hi0 ho).2 e (by simpa using he) hb)⟩;rw[hnil]at this
   cases this
  ·have hin:i < n:=by
    rcases Nat.lt_or_ge i n with h|h
    ·exact h
    ·exact absurd hi (htailno listed inv.head ⟨i0,hi0,hun0'⟩ i h)
   obtain⟨hun,o,ho,hall⟩:=mem_ready.1 hi
   have ho':l[i]?=some o:=by simpa using ho
   refine wp_of_one ho (hstep i o hin ho' vs w hvl inv.ext (fun e he hb=>hV e.on (by have:=(hop i o hin ho').2 e he hb;omega) (hall e (by simpa using he) hb))) (fun v w' hv hE=>?_);refine ih _ _ _ (by have:=unlisted_set hin hun;omega) ⟨inv.head.set hi hin,inv.ext.trans hE,vs.set i v,by simpa using hvl,?_,fun j hj hlj=>?_⟩
   ·exact putAll_put a0 (l.take n) vs i o v (by rw[List.getElem?_take,if_pos hin];exact ho') (by simp;omega) (hop i o hin ho').1
   ·by_cases hij:i=j
    ·subst hij;rw[List.getD_eq_getElem?_getD,List.getElem?_set_self (by omega)];exact hv
    ·rw[getD_set_ne false hij]at hlj;rw[List.getD_eq_getElem?_getD,List.getElem?_set_ne hij,←List.getD_eq_getElem?_getD];exact hst j _ _ _ (hV j hj hlj) hE
theorem wp_region_v {V:Nat→Value→World→Prop} {l:List Oper} (n:Nat) {id:Nat} {a0:Act} {w:World} {Q:Exit→Act→World→Prop} (hm:P.follows .mixedOrders=true)
  (hn:n≤l.length) (hH:headB l a0.tmps.size n=true) (hT:tailB l n=true) (hS:Region.seqB .any l.toArray (l.length - n) n (markN n l.length)=true)
  (hst:∀i v w w',V i v w→Ext w w'→V i v w')
  (hstep:∀i o,i < n→l[i]?=some o→∀vs w2,vs.length=n→Ext w.drew w2→Waits V o vs w2→wpList P l.toArray (OneQ (V i) o (putAll a0 (l.take n) vs) w2) [o] (putAll a0 (l.take n) vs) w2)
  (hend:∀vs w2,vs.length=n→Ext w.drew w2→(∀i,i < n→V i (vs.getD i undef) w2)→wpList P l.toArray Q (l.drop n) (putAll a0 (l.take n) vs) w2) :
  (Code.region id l.toArray true).wp P Q a0 w:=by
 refine wp_region_any hm ?_
 have hdst:∀o∈l.take n,∀d,o.dst=some d→d < a0.tmps.size:=by
  intro o ho d hd;obtain⟨i,hi⟩:=List.getElem?_of_mem ho
  have hin:i < n:=by
   have:=(List.getElem?_eq_some_iff.1 hi).1;simp at this;omega
  rw[List.getElem?_take,if_pos hin]at hi;have h1:=List.all_eq_true.1 hH i (List.mem_range.2 hin);simp only[hi,hd,Bool.and_eq_true,decide_eq_true_eq]at h1;exact h1.1.1
 have hu:unlisted (Array.replicate l.length false) n=n:=by
  unfold unlisted;rw[List.filter_eq_self.2 (by intro i hi;rw[getD_replicate_false];rfl)];simp
 have:=wpAny_head (P:=P) (Q:=Q) (a0:=a0) (w0:=w.drew) hn hH hT hS hst hstep hend n (Array.replicate l.length false) a0 w.drew hu
  ⟨⟨by simp,fun j oj _ hl=>(by rw[getD_replicate_false]at hl;cases hl),fun t _ ht=>getD_in (by simpa using ht) (getD_replicate_false _ _)⟩,Ext.refl _,oldVals a0 (l.take n),by simp[oldVals];omega,(putAll_old a0 _ hdst).symm,fun i _ hl=>(by rw[getD_replicate_false]at hl;cases hl)⟩
 rw[show n+(l.length - n)=l.toArray.size by simp;omega]at this;exact this
end
section
variable {P:Program} {α:Type}
theorem rd_flat {nf:Nat} {enc:α→List Value} (hn:∀x,(enc x).length=nf) {w:World} {ad:Addr} {l:List α} (h:Rd nf enc w (some ad) l):∀j u,(l.flatMap enc)[j]?=some u→w.cell? (ad.add j)=some u:=by
 intro j u hu;have hj:=(List.getElem?_eq_some_iff.1 hu).1;rw[flatMap_length hn]at hj
 have hp:0 < nf:=by
  rcases Nat.eq_zero_or_pos nf with h0|h0
  ·subst h0;simp at hj
  ·exact h0
 have e:j=j / nf*nf+j % nf:=by rw[Nat.mul_comm];exact(Nat.div_add_mod j nf).symm
 have hm:=Nat.mod_lt j hp;have hd:j / nf < l.length:=(Nat.div_lt_iff_lt_mul hp).2 hj;obtain⟨b,off,ha,hc⟩:=h _ hd;obtain rfl:=Option.some.inj ha;rw[e,flatMap_at hn _ _ _ hm,List.getElem?_eq_getElem hd,Option.bind_some]at hu;rw[Addr.add_lit];have:=hc _ u hu;rw[Nat.add_assoc,←e]at this;exact this
theorem run_append_none (w:World) (base:Nat) (t ty e:TypeId) (i:TypeInfo) (size:Nat) (ht:P.underlying t=some (.slice e)) (hi:P.info? e=some i) (v:Value) (n c:Nat) (xs:List Value) (hown:w.ownsRow base e size v n xs) :
  (Builtin.append_ #[t,t] ty #[v,.slice none 0 c]).run P w=.ok v w:=by
 rcases hown.2 with⟨rfl,rfl⟩|⟨g,cap,cur,rfl,_,_,hnc,_⟩
 ·simp[Builtin.append_,run_underlying ht,sizeOf,typeInfo,hi,Builtin.lenOf,Builtin.firstCells]
 ·simp[Builtin.append_,run_underlying ht,sizeOf,typeInfo,hi,Builtin.lenOf,Builtin.firstCells,hnc,storeCells]
theorem wpList_append_rd {w:World} {ops:Array Oper} {rest:List Oper} {o:Oper} {a:Act} {Q:Exit→Act→World→Prop} (hgd:o.guard=none) (s x:Operand) (t:TypeId)
  (ho:o.op=.call { callee:=.builtin .append,args:=#[s,x],argTypes:=#[t,t] })
  (base:Nat) (e:TypeId) (z:Value) (size bytes:Nat) (ht:P.underlying t=some (.slice e)) (hinfo:(P.info? e).map (fun i=>(i.zero,i.size,i.bytes))=some (some z,size,bytes))
  (hzs:z.cells.size=size) (hsz:0 < size)
  {enc:α→List Value} (hn:∀x,(enc x).length=size) (h1:∀x,∀u∈enc x,u.oneCell'=true)
  (v:Value) (n:Nat) (L:List α) (hs:a.eval s=v) (hown:w.ownsRow base e size v n (L.flatMap enc)) (hnL:n=L.length)
  (ao:Option Addr) (m c:Nat) (l:List α) (hx:a.eval x=.slice ao m c) (hm:m=l.length) (hrd:Rd size enc w ao l)
  (h63:n+m≤1000000000) (hbytes:bytes≤1000) (hbase:base≤w.heap.size)
  (h:∀v' w',w'.ownsRow base e size v' (L++l).length ((L++l).flatMap enc)→w.grownBy w' v.ownBlock→wpList P ops Q rest (a.put o.dst v') w'):wpList P ops Q (o :: rest) a w:=by
 obtain⟨i,hi,hz,hsize,hby⟩:=info_parts hinfo;subst hm hnL
 cases ao with
 | some ad =>
  refine wpList_append_own w hgd s x t ho base e i z size bytes ht hi hz hsize hby hzs hsz v L.length (L.flatMap enc) hs hown ad l.length c (l.flatMap enc) hx (flatMap_length hn l) (rd_flat hn hrd) (by
   intro u hu;obtain⟨y,_,hy⟩:=List.mem_flatMap.1 hu
   exact h1 y u hy) (by unfold maxLen;omega) (by
   have:(L.length+l.length)*bytes≤1000000000*1000:=Nat.mul_le_mul h63 hbytes
   omega) hbase (fun v' w' h2 h3 _=>h v' w' (by rw[List.length_append,List.flatMap_append];exact h2) h3)
 | none =>
  have hl:l=[]:=by
   cases l with
   | nil=>rfl
   | cons y l=>obtain⟨b,off,h0,_⟩:=hrd 0 (by simp);cases h0
  subst hl
  refine wpList_plain hgd fun K hK=>?_
  have hr:=run_append_none (P:=P) w base t o.type e i size ht hi v L.length c _ hown;have h2:=h v w (by simpa using hown) ⟨rfl,rfl,rfl,Nat.le_refl _,fun _ _ _=>rfl⟩;unfold Oper.wp execOp;simp only[ho,resolve,invoke,builtin,Sem.run_bind,Sem.run_pure,Result.andThen_ok,List.map_toArray,List.map_cons,List.map_nil,hs,hx,List.length_nil,hr];exact hK _ _ h2
theorem run_append_fresh (w:World) (base:Nat) (t ty e:TypeId) (i:TypeInfo) (z:Value) (size bytes:Nat) (ht:P.underlying t=some (.slice e)) (hi:P.info? e=some i) (hz:i.zero=some z)
  (hsize:i.size=size) (hby:i.bytes=bytes) (hzs:z.cells.size=size) (hsz:0 < size) (g:Nat) (hg:w.heap[g]?=some (.cells #[] e (0,0))) (hbg:base≤g)
  (a:Addr) (m c:Nat) (news:List Value) (hl:news.length=m*size) (hnews:∀j u,news[j]?=some u→w.cell? (a.add j)=some u) (h1:∀u∈news,u.oneCell'=true)
  (h63:m≤maxLen) (hbytes:m*bytes≤140737488355328) (hbase:base≤w.heap.size) :
  ∃v' w',(Builtin.append_ #[t,t] ty #[.slice (some ⟨g,0,none⟩) 0 0,.slice (some a) m c]).run P w=.ok v' w'∧w'.ownsRow base e size v' m news∧Ext w w':=by
 subst hsize hby
 by_cases hm:m=0
 ·subst hm;have hn:news=[]:=List.eq_nil_of_length_eq_zero (by simpa using hl);subst hn;have hr:=run_append_room (P:=P) w t ty e i ht hi g 0 0 #[] hg a 0 c [] (by simp) (by simp) (by simp) (by omega) (by simp);refine⟨_,_,hr,⟨by simp,.inr ⟨g,0,_,rfl,hbg,setRow_heap w g #[] _ e _ hg,Nat.le_refl _,by simp,by simp,by simp⟩⟩,⟨rfl,rfl,rfl,by simp,fun k _=>?_⟩⟩
  by_cases hk:k=g
  ·subst hk;rw[setRow_heap w k #[] _ e _ hg,hg];simp
  ·exact setRow_other w g k _ hk
 ·have hsmall:m≤9223372036854775807:=by simp only[maxLen]at h63;omega
  have hr:=run_append_grow (P:=P) w t ty e i z ht hi hz ⟨g,0,none⟩ 0 0 [] (by simp) (by simp) a m c news hl hnews (by omega) (by omega) (growslice_fits (by omega) (by simpa using hbytes));simp only[Nat.zero_add]at hr;have hge:=grownCap_ge w m 0 e;have hcm:grownCap w m 0 e≤maxLen:=grownCap_le_maxLen w m 0 e h63;refine⟨_,_,hr,⟨hl,.inr ⟨w.heap.size,_,_,rfl,hbase,heap_alloc_new w.drew _,by omega,hcm,?_,?_⟩⟩,⟨rfl,rfl,rfl,by simp,fun k hk=>Below.heap_alloc w.drew _ k hk⟩⟩
  ·simp only[Array.size_append,List.size_toArray,size_zeroCells,hzs,List.length_nil,Nat.zero_add,hl,←Nat.add_mul]
   congr 1
   omega
  ·simp only[Array.toList_append,List.append_assoc,List.nil_append];rw[←hl];exact List.take_left
theorem wpList_append_lit {w:World} {ops:Array Oper} {rest:List Oper} {o:Oper} {a:Act} {Q:Exit→Act→World→Prop} (hgd:o.guard=none) (s x:Operand) (t:TypeId)
  (ho:o.op=.call { callee:=.builtin .append,args:=#[s,x],argTypes:=#[t,t] })
  (base:Nat) (e:TypeId) (z:Value) (size bytes:Nat) (ht:P.underlying t=some (.slice e)) (hinfo:(P.info? e).map (fun i=>(i.zero,i.size,i.bytes))=some (some z,size,bytes))
  (hzs:z.cells.size=size) (hsz:0 < size)
  {enc:α→List Value} (hn:∀x,(enc x).length=size) (h1:∀x,∀u∈enc x,u.oneCell'=true)
  (g:Nat) (hs:a.eval s=.slice (some ⟨g,0,none⟩) 0 0) (hg:w.heap[g]?=some (.cells #[] e (0,0))) (hbg:base≤g)
  (ao:Option Addr) (m c:Nat) (l:List α) (hx:a.eval x=.slice ao m c) (hm:m=l.length) (hrd:Rd size enc w ao l)
  (h63:m≤1000000000) (hbytes:bytes≤1000) (hbase:base≤w.heap.size)
  (h:∀v' w',w'.ownsRow base e size v' l.length (l.flatMap enc)→Ext w w'→wpList P ops Q rest (a.put o.dst v') w'):wpList P ops Q (o :: rest) a w:=by
 obtain⟨i,hi,hz,hsize,hby⟩:=info_parts hinfo;subst hm
 refine wpList_plain hgd fun K hK=>?_
 cases ao with
 | some ad =>
  obtain⟨v',w',hr,h2,h3⟩:=run_append_fresh (P:=P) w base t o.type e i z size bytes ht hi hz hsize hby hzs hsz g hg hbg ad l.length c (l.flatMap enc) (flatMap_length hn l) (rd_flat hn hrd) (by
   intro u hu;obtain⟨y,_,hy⟩:=List.mem_flatMap.1 hu
   exact h1 y u hy) (by unfold maxLen;omega) (by
   have:l.length*bytes≤1000000000*1000:=Nat.mul_le_mul h63 hbytes
   omega) hbase
  unfold Oper.wp execOp;simp only[ho,resolve,invoke,builtin,Sem.run_bind,Sem.run_pure,Result.andThen_ok,List.map_toArray,List.map_cons,List.map_nil,hs,hx,hr];exact hK _ _ (h v' w' h2 h3)
 | none =>
  have hl:l=[]:=by
   cases l with
   | nil=>rfl
   | cons y l=>obtain⟨b,off,h0,_⟩:=hrd 0 (by simp);cases h0
  subst hl;have hown:w.ownsRow base e size (.slice (some ⟨g,0,none⟩) 0 0) 0 []:=⟨by simp,.inr ⟨g,0,#[],rfl,hbg,hg,Nat.le_refl _,by simp,by simp,by simp⟩⟩;have hr:=run_append_none (P:=P) w base t o.type e i size ht hi _ 0 c _ hown;have h2:=h _ w hown (Ext.refl w);unfold Oper.wp execOp;simp only[ho,resolve,invoke,builtin,Sem.run_bind,Sem.run_pure,Result.andThen_ok,List.map_toArray,List.map_cons,List.map_nil,hs,hx,List.length_nil,hr];exact hK _ _ h2
theorem rd_lit {nf:Nat} {enc:α→List Value} {w:World} {g:Nat} {C:Array Value} {e:TypeId} {fz:Nat×Nat} (l:List α) (hn:∀x,(enc x).length=nf) (hg:w.heap[g]?=some (.cells C e fz)) (hC:C.toList=l.flatMap enc):Rd nf enc w (some ⟨g,0,none⟩) l:=by
 intro i hi;refine⟨g,0,rfl,fun j u hu=>?_⟩
 have hj:j < nf:=by
  have:=(List.getElem?_eq_some_iff.1 hu).1
  rwa [hn]at this
 have h:=flatMap_at hn l i j hj;rw[List.getElem?_eq_getElem hi,Option.bind_some,hu,←hC]at h;simp only[World.cell?,hg,Nat.zero_add]
 simpa using h
theorem rd_lit_new {nf:Nat} {enc:α→List Value} {w:World} {C:Array Value} {e:TypeId} (l:List α) (hn:∀x,(enc x).length=nf) (hC:C.toList=l.flatMap enc):Rd nf enc (w.alloc (.cells C e)) (some ⟨w.heap.size,0,none⟩) l :=
 rd_lit l hn (heap_alloc_new w _) hC
theorem owns_lit_new {nf e:Nat} {enc:α→List Value} {w:World} {C:Array Value} {base n:Nat} (l:List α) (hn:∀x,(enc x).length=nf) (hC:C.toList=l.flatMap enc) (hl:n=l.length) (hsmall:n≤1000000000) (hb:base≤w.heap.size) :
  (w.alloc (.cells C e)).ownsRow base e nf (.slice (some ⟨w.heap.size,0,none⟩) n n) n (l.flatMap enc):=by
 rw[←hC];refine World.ownsRow_lit w C n hb (by unfold maxLen;omega) ?_;rw[←Array.length_toList,hC,flatMap_length hn,hl]
end
theorem view_owns {α:Type} {w:World} {base e nf:Nat} {enc:α→List Value} (hn:∀x,(enc x).length=nf) {v:Value} {l:List α} (h:w.ownsRow base e nf v l.length (l.flatMap enc)) :
  ∃a cap,v=.slice a l.length cap∧l.length≤cap∧Rd nf enc w a l∧((a=none∧l=[]∧cap=0)∨∃g,a=some ⟨g,0,none⟩∧base≤g):=by
 obtain⟨a,cap,hv,hr⟩:=rd_of_owns hn h rfl;subst hv;refine⟨a,cap,rfl,?_,hr,?_⟩
 ·rcases h.2 with⟨h1,h2⟩|⟨g,cap',cur,h1,_,_,h2,_⟩
  ·simp only[Value.slice.injEq]at h1;omega
  ·simp only[Value.slice.injEq]at h1;omega
 ·rcases h.2 with⟨h1,h2⟩|⟨g,cap',cur,h1,hb,_,h2,_⟩
  ·simp only[Value.slice.injEq]at h1;exact .inl ⟨h1.1,List.eq_nil_of_length_eq_zero h1.2.1,h1.2.2⟩
  ·simp only[Value.slice.injEq]at h1;exact .inr ⟨g,h1.1,hb⟩
theorem Rd.drop {α:Type} {nf:Nat} {enc:α→List Value} {w:World} {b off:Nat} {l:List α} (h:Rd nf enc w (some ⟨b,off,none⟩) l) (k:Nat):Rd nf enc w (some ⟨b,off+k*nf,none⟩) (l.drop k):=by
 intro i hi;rw[List.length_drop]at hi;obtain⟨b',off',ha,hc⟩:=h (k+i) (by omega);simp only[Option.some.injEq,Addr.mk.injEq,and_true]at ha;obtain⟨rfl,rfl⟩:=ha;refine⟨b,off+k*nf,rfl,fun j u hu=>?_⟩;rw[List.getElem_drop]at hu;have:=hc j u hu
 rwa [Nat.add_mul,←Nat.add_assoc]at this
theorem Rd.nil {α:Type} {nf:Nat} {enc:α→List Value} {w:World} {a:Option Addr}:Rd nf enc w a ([]:List α):=fun i hi=>by simp at hi
structure ExtW (w:World) where
 x:World
 h:Ext w x
instance (w:World):Nonempty (ExtW w):=⟨⟨w,Ext.refl w⟩⟩
theorem wp_region_quiet_ext {P:Program} {id:Nat} {Q:Exit→Act→World→Prop} {a:Act} {w:World} {l:List Oper} (hm:P.follows .mixedOrders=true) (hB:Region.lexB .any l.toArray=true)
  (h:wpQuiet P l.toArray (fun w'=>∃s:ExtW w,w'=s.x) (fun a'=>∀w',(∃s:ExtW w,w'=s.x)→Q .normal a' w') l a):(Code.region id l.toArray true).wp P Q a w :=
 wp_region_quiet (C:=fun w'=>∃s:ExtW w,w'=s.x) hm hB ⟨⟨w.drew,(Ext.refl w).drew⟩,rfl⟩ (by simpa using h)
theorem ExtW.cell {w:World} {b o:Nat} {v:Value} (h:w.cell? ⟨b,o,none⟩=some v):∀s:ExtW w,s.x.cell? ⟨b,o,none⟩=some v:=fun s=>cell_ext s.h h
theorem ExtW.lt {w:World} {b o:Nat} {v:Value} (h:w.cell? ⟨b,o,none⟩=some v):∀s:ExtW w,b < s.x.heap.size:=fun s=>Nat.lt_of_lt_of_le (World.block_lt_of_cell? w ⟨b,o,none⟩ h) s.h.size
theorem Calls.at_b {P:Program} {f:FuncId} {args:Array Value} {w:World} {s:ExtW w} {T:Prop} (b:Bool) (hT:(b=true↔T)) (h:Calls P f args s.x (RetB T s.x)):Calls P f args s.x fun e w''=>e=.returned (.bool b)∧∃s':ExtW w,w''=s'.x :=
 h.mono fun e w2 ⟨b',he,hb,hE⟩=>by
  obtain rfl:b'=b:=Bool.eq_iff_iff.2 (hb.trans hT.symm);exact⟨he,⟨w2,s.h.trans hE⟩,rfl⟩
theorem Calls.at_same {P:Program} {f:FuncId} {args:Array Value} {w:World} {s:ExtW w} {v:Value} (h:Calls P f args s.x fun e w'=>e=.returned v∧s.x=w'):Calls P f args s.x fun e w''=>e=.returned v∧∃s':ExtW w,w''=s'.x :=
 h.mono fun e w2 ⟨he,hw⟩=>⟨he,s,hw.symm⟩
theorem Rd.take {α:Type} {nf:Nat} {enc:α→List Value} {w:World} {a:Option Addr} {l:List α} (h:Rd nf enc w a l) (k:Nat):Rd nf enc w a (l.take k):=by
 intro i hi
 have hi':i < l.length:=by simp at hi;omega
 obtain⟨b,off,ha,hc⟩:=h i hi';exact⟨b,off,ha,fun j u hu=>hc j u (by simpa using hu)⟩
theorem encInt1_len (x:Int):(encInt1 x).length=1:=rfl
theorem encInt1_one (x:Int):∀u∈encInt1 x,u.oneCell'=true:=by simp[encInt1,Value.oneCell']
theorem atInt {w:World} {a:Option Addr} {l:List Int} (h:Rd 1 encInt1 w a l) {k:Nat} (hk:k < l.length) :
  ∃x b off,l[k]?=some x∧a=some ⟨b,off,none⟩∧w.cell? ⟨b,off+k,none⟩=some (.int .i64 x):=by
 obtain⟨b,off,ha,hc⟩:=h k hk;exact⟨l[k],b,off,List.getElem?_eq_getElem hk,ha,by simpa using hc 0 _ rfl⟩
theorem madeInt (n:Nat):(madeCells #[Value.int .i64 0] n).toList=(List.replicate n (0:Int)).flatMap encInt1:=by
 apply List.ext_getElem?;intro j
 by_cases hj:j < n
 ·have h:=flatMap_at encInt1_len (List.replicate n (0:Int)) j 0 (by omega);rw[Nat.mul_one,Nat.add_zero]at h;rw[h];simp[madeCells,hj,encInt1,Nat.mod_one]
 ·rw[List.getElem?_eq_none (by simp[madeCells];omega),List.getElem?_eq_none (by rw[flatMap_length encInt1_len];simp;omega)]
theorem infoStr:(Tryz.prog.info? 9).map (fun i=>(i.zero,i.size,i.bytes))=some (some (.string ByteArray.empty),1,16):=by kernel_rfl
theorem encStr1_len (x:ByteArray):(encStr1 x).length=1:=rfl
theorem encStr1_one (x:ByteArray):∀u∈encStr1 x,u.oneCell'=true:=by simp[encStr1,Value.oneCell']
theorem atStr {w:World} {a:Option Addr} {l:List ByteArray} (h:Rd 1 encStr1 w a l) {k:Nat} (hk:k < l.length) :
  ∃x b off,l[k]?=some x∧a=some ⟨b,off,none⟩∧w.cell? ⟨b,off+k,none⟩=some (.string x):=by
 obtain⟨b,off,ha,hc⟩:=h k hk;exact⟨l[k],b,off,List.getElem?_eq_getElem hk,ha,by simpa using hc 0 _ rfl⟩
theorem madeStr (n:Nat):(madeCells #[Value.string ByteArray.empty] n).toList=(List.replicate n ByteArray.empty).flatMap encStr1:=by
 apply List.ext_getElem?;intro j
 by_cases hj:j < n
 ·have h:=flatMap_at encStr1_len (List.replicate n ByteArray.empty) j 0 (by omega);rw[Nat.mul_one,Nat.add_zero]at h;rw[h];simp[madeCells,hj,encStr1,Nat.mod_one]
 ·rw[List.getElem?_eq_none (by simp[madeCells];omega),List.getElem?_eq_none (by rw[flatMap_length encStr1_len];simp;omega)]
end Go.Proofs.YtnibbldfohbfkaaGreatDoor
