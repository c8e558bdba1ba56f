/- Parts of one proof: what each theorem proves, and its conditions, stand in its own statement. -/
import Derived.Test.YtnibbldfohbfkaaGreatDoorMn4
set_option linter.all false
set_option maxRecDepth 100000
set_option maxHeartbeats 32000000
namespace Go.Proofs.YtnibbldfohbfkaaGreatDoor
open Go.RowKit
theorem bl_tr:∀(a b c:List UInt8),Op.bytesLess a b=true→Op.bytesLess b c=true→Op.bytesLess a c=true
 | a,[],_,h,_=>by cases a<;>simp[Op.bytesLess]at h
 | _,_ :: _,[],_,h=>by simp[Op.bytesLess]at h
 | [],_ :: _,_ :: _,_,_=>by simp[Op.bytesLess]
 | x :: a,y :: b,z :: c,h,h'=>by
  simp only[Op.bytesLess]at h h' ⊢;have ih:=bl_tr a b c
  by_cases h1:x < y
  ·by_cases h2:y < z
   ·have:x < z:=UInt8.lt_trans h1 h2;simp[this]
   ·have h3:y=z∧Op.bytesLess b c=true:=by simpa [h2]using h'
    obtain⟨e,_⟩:=h3;subst e;simp[h1]
  ·have h3:x=y∧Op.bytesLess a b=true:=by simpa [h1]using h
   obtain⟨e,h3⟩:=h3;subst e
   by_cases h2:x < z
   ·simp[h2]
   ·have h4:x=z∧Op.bytesLess b c=true:=by simpa [h2]using h'
    simp[h4.1,ih h3 h4.2]
theorem bl_irr:∀a:List UInt8,Op.bytesLess a a=false
 | []=>rfl
 | x :: a=>by simp[Op.bytesLess,UInt8.lt_irrefl,bl_irr a]
def Asc (N:List ByteArray):Prop:=∀(i j:Nat) p q,i < j→N[i]?=some p→N[j]?=some q→Op.bytesLess p.toList q.toList=true
theorem asc_of {N:List ByteArray} (h:∀k,k < N.length→NmAt N k):Asc N:=by
 intro i j p q hij hp hq
 induction j generalizing q with
 | zero=>omega
 | succ j ih =>
  have hj:=(List.getElem?_eq_some_iff.1 hq).1;have hr:N[j]?=some N[j]:=List.getElem?_eq_getElem (by omega);have h1:=(h (j+1) hj q hq).2 j N[j] rfl hr
  by_cases e:i=j
  ·subst e;rw[hr]at hp;cases hp;exact h1
  ·exact bl_tr _ _ _ (ih _ (by omega) hr) h1
theorem posOf_mem {N:List ByteArray} (h:Asc N) {s:ByteArray} {k:Nat} (hk:N[k]?=some s):posOf N s=k:=by
 have hl:=(List.getElem?_eq_some_iff.1 hk).1
 rcases Nat.lt_trichotomy (posOf N s) k with h1|h1|h1
 ·have hp:N[posOf N s]?=some N[posOf N s]:=List.getElem?_eq_getElem (by omega);have h2:=posOf_at N s _ hp;rw[h _ _ _ _ h1 hp hk]at h2;cases h2
 ·exact h1
 ·have h2:=posOf_lt N s k s h1 hk;rw[bl_irr]at h2;cases h2
theorem asc_ne {N:List ByteArray} (h:Asc N) {i j:Nat} {s:ByteArray} (hi:N[i]?=some s) (hj:N[j]?=some s):i=j:=(posOf_mem h hi).symm.trans (posOf_mem h hj)
theorem kidOf_at:∀(N:List ByteArray) (K:List Int) (s:ByteArray) (k:Nat) (y:Int),N[k]?=some s→K[k]?=some y→(∀j,j < k→N[j]?≠some s)→kidOf N K s=y
 | [],_,s,k,y,h,_,_=>by simp at h
 | _ :: _,[],s,k,y,_,h,_=>by simp at h
 | n :: N,q :: K,s,0,y,h1,h2,_=>by
  simp only[List.getElem?_cons_zero,Option.some.injEq]at h1 h2;rw[kidOf,if_pos h1,h2]
 | n :: N,q :: K,s,k+1,y,h1,h2,h3=>by
  rw[List.getElem?_cons_succ]at h1 h2;rw[kidOf,if_neg (fun e=>h3 0 (by omega) (by simp[e]))];exact kidOf_at N K s k y h1 h2 (fun j hj=>by have:=h3 (j+1) (by omega);rwa [List.getElem?_cons_succ]at this)
theorem kidOf_has:∀(N:List ByteArray) (K:List Int) (s:ByteArray),0≤kidOf N K s→∃k:Nat,N[k]?=some s∧K[k]?=some (kidOf N K s)
 | [],[],_,h=>by rw[kidOf]at h;omega;all_goals simp
 | [],k :: K,_,h=>by rw[kidOf]at h;omega;all_goals simp
 | n :: N,[],_,h=>by rw[kidOf]at h;omega;all_goals simp
 | n :: N,q :: K,s,h=>by
  rw[kidOf]at h ⊢
  by_cases e:n=s
  ·rw[if_pos e];exact⟨0,by simp[e],rfl⟩
  ·rw[if_neg e]at h ⊢;obtain⟨k,h1,h2⟩:=kidOf_has N K s h;exact⟨k+1,by rw[List.getElem?_cons_succ];exact h1,by rw[List.getElem?_cons_succ];exact h2⟩
theorem kidOf_not {N:List ByteArray} {K:List Int} {s:ByteArray} (h:s∉N):kidOf N K s = -1:=by
 induction N generalizing K with
 | nil=>cases K<;>rfl
 | cons n N ih =>
  cases K with
  | nil=>rfl
  | cons k K=>rw[kidOf,if_neg (fun e=>h (by rw[e];exact List.mem_cons_self ..))];exact ih (fun hm=>h (List.mem_cons_of_mem _ hm))
theorem kid_place {x:Nd} {many:Nat} {s:ByteArray} (h:NodeOk x many) (hk:0≤kidOf x.N x.K s):posOf x.N s < x.N.length∧x.N[posOf x.N s]?=some s∧x.K[posOf x.N s]?=some (kidOf x.N x.K s)∧1≤kidOf x.N x.K s∧kidOf x.N x.K s < many∧x.fold=true:=by
 obtain⟨k,h1,h2⟩:=kidOf_has _ _ _ hk
 have hf:x.fold=true:=by
  cases hf:x.fold with
  | true=>rfl
  | false=>have:=h.file hf;have:=(List.getElem?_eq_some_iff.1 h1).1;omega
 have hA:=asc_of ((nodeOk_iff.1 h).1.dir hf).2.2;have e:=posOf_mem hA h1;rw[e];have h3:=inB_iff.1 (nodeOk_kid h (List.mem_of_getElem? h2));exact⟨(List.getElem?_eq_some_iff.1 h1).1,h1,h2,h3.1,by omega,hf⟩
def takeNd (x:Nd) (s:ByteArray):Nd:=⟨x.fold,x.own,x.grp,x.mode,x.text,x.N.eraseIdx (posOf x.N s),x.K.eraseIdx (posOf x.N s)⟩
theorem era_at {α:Type} (l:List α) (p k:Nat):(l.eraseIdx p)[k]?=if k < p then l[k]? else l[k+1]?:=List.getElem?_eraseIdx ..
theorem take_nm {N:List ByteArray} (h:∀k,k < N.length→NmAt N k) (p:Nat):∀k,NmAt (N.eraseIdx p) k:=by
 have hA:=asc_of h;intro k t ht;rw[era_at]at ht
 have hN:∀j t,N[j]?=some t→NameOk t:=fun j t h1=>(h j (List.getElem?_eq_some_iff.1 h1).1 t h1).1
 split at ht
 ·refine⟨hN _ _ ht,fun m q hm hq=>?_⟩;rw[era_at,if_pos (by omega)]at hq;exact hA m k q t (by omega) hq ht
 ·refine⟨hN _ _ ht,fun m q hm hq=>?_⟩;rw[era_at]at hq
  split at hq
  ·exact hA m (k+1) q t (by omega) hq ht
  ·exact hA (m+1) (k+1) q t (by omega) hq ht
theorem takeNd_ok {x:Nd} {s:ByteArray} {many:Nat} (h:NodeOk x many) (hf:x.fold=true):NodeOk (takeNd x s) many:=by
 have hi:=(nodeOk_iff.1 h).1;have hk:=(nodeOk_iff.1 h).2;have hd:=hi.dir hf;refine nodeOk_iff.2 ⟨⟨hi.own,hi.grp,hi.mode,fun h0=>Bool.noConfusion (hf.symm.trans h0),fun _=>⟨hd.1,?_,fun k _=>take_nm hd.2.2 _ k⟩⟩,fun z hz=>hk z (List.eraseIdx_sublist ..|>.subset hz)⟩
 show(x.N.eraseIdx _).length=(x.K.eraseIdx _).length
 rw[List.length_eraseIdx,List.length_eraseIdx,hd.2.1]
theorem count_erase {l:List Int} {p:Nat} {y:Int} (h:l[p]?=some y) (c:Int):l.count c=(l.eraseIdx p).count c+(if y=c then 1 else 0):=by
 induction l generalizing p with
 | nil=>simp at h
 | cons a l ih =>
  cases p with
  | zero =>
   simp only[List.getElem?_cons_zero,Option.some.injEq]at h;subst h;rw[List.eraseIdx_cons_zero,List.count_cons]
   by_cases e:a=c<;>simp[e]
  | succ p =>
   rw[List.getElem?_cons_succ]at h;rw[List.eraseIdx_cons_succ,List.count_cons,List.count_cons,ih h];omega
theorem kids_less {T:List Nd} {i:Nat} {x x':Nd} {c:Int} {d:Nat} (hx:T[i]?=some x) (h:x.K.count c=x'.K.count c+d):(kids T).count c=(kids (T.set i x')).count c+d:=by
 have hi:=(List.getElem?_eq_some_iff.1 hx).1;have h1:(T.set i x')[i]?=some x':=List.getElem?_set_self hi;have h2:=kids_set h1 h;rw[List.set_set,set_same_get hx]at h2;exact h2
where
 set_same_get {T:List Nd} {i:Nat} {x:Nd} (h:T[i]?=some x):T.set i x=T:=by
  apply List.ext_getElem?;intro j
  by_cases e:i=j
  ·subst e;rw[List.getElem?_set_self (List.getElem?_eq_some_iff.1 h).1,h]
  ·rw[List.getElem?_set_ne e]
def renum (kid:Nat) (y:Int):Int:=if (kid:Int) < y then y - 1 else y
def renNd (kid:Nat) (z:Nd):Nd:=⟨z.fold,z.own,z.grp,z.mode,z.text,z.N,z.K.map (renum kid)⟩
def dropT (T:List Nd) (n:Nat) (x:Nd) (s:ByteArray) (kid:Nat):List Nd :=
 if 0 < (kids (T.set n (takeNd x s))).count (kid:Int)then T.set n (takeNd x s)else((T.set n (takeNd x s)).eraseIdx kid).map (renNd kid)
theorem renum_inj {kid:Nat} {a b:Int} (ha:a≠kid) (hb:b≠kid) (h:renum kid a=renum kid b):a=b:=by
 unfold renum at h
 split at h<;>split at h<;>omega
theorem count_renum {kid:Nat} {l:List Int} (h:∀y∈l,y≠kid) {c:Int} (hc:c≠kid):(l.map (renum kid)).count (renum kid c)=l.count c:=by
 induction l with
 | nil=>rfl
 | cons a l ih =>
  have ha:=h a (List.mem_cons_self ..);rw[List.map_cons,List.count_cons,List.count_cons,ih (fun y hy=>h y (List.mem_cons_of_mem _ hy))]
  by_cases e:a=c
  ·simp[e]
  ·have:¬renum kid a=renum kid c:=fun h'=>e (renum_inj ha hc h')
   simp[e,this]
theorem kids_erase {T:List Nd} {k:Nat} {z:Nd} (h:T[k]?=some z) (hz:z.K=[]):kids (T.eraseIdx k)=kids T:=by
 induction T generalizing k with
 | nil=>simp at h
 | cons a T ih =>
  cases k with
  | zero =>
   simp only[List.getElem?_cons_zero,Option.some.injEq]at h;subst h;simp[kids,hz]
  | succ k =>
   rw[List.getElem?_cons_succ]at h;have:=ih h;simp only[kids,List.eraseIdx_cons_succ,List.flatMap_cons]at this ⊢;rw[this]
theorem kids_ren (kid:Nat) (T:List Nd):kids (T.map (renNd kid))=(kids T).map (renum kid):=by
 induction T with
 | nil=>rfl
 | cons a T ih=>simp only[kids,List.map_cons,List.flatMap_cons,List.map_append]at ih ⊢;rw[ih];rfl
structure DropOk (T:List Nd) (n:Nat) (x:Nd) (s:ByteArray) (kid:Nat) (z:Nd):Prop where
 tree:TreeOk T
 hx:T[n]?=some x
 kd:kidOf x.N x.K s=(kid:Int)
 hz:T[kid]?=some z
 emp:z.N.length=0
section
variable {T:List Nd} {n:Nat} {x:Nd} {s:ByteArray} {kid:Nat} {z:Nd}
theorem take_count (h:TreeOk T) (hx:T[n]?=some x) (hk:kidOf x.N x.K s=(kid:Int)) (c:Int):(kids T).count c=(kids (T.set n (takeNd x s))).count c+(if (kid:Int)=c then 1 else 0):=by
 obtain⟨_,_,h3,_⟩:=kid_place (h.nodes n x hx) (s:=s) (by omega);rw[hk]at h3;exact kids_less hx (count_erase h3 c)
theorem take_get (hx:T[n]?=some x) (y:Nd) {k:Nat} {m:Nd} (hm:(T.set n y)[k]?=some m):(k=n∧m=y)∨(k≠n∧T[k]?=some m):=by
 have hi:=(List.getElem?_eq_some_iff.1 hx).1
 by_cases hik:n=k
 ·subst hik;rw[List.getElem?_set_self hi]at hm;exact .inl ⟨rfl,(Option.some.inj hm).symm⟩
 ·rw[List.getElem?_set_ne hik]at hm;exact .inr ⟨fun e=>hik e.symm,hm⟩
structure AlmostOk (T:List Nd) (kid:Nat):Prop where
 pos:1≤T.length
 max:T.length≤16
 root:∀n,T[0]?=some n→n.fold=true
 nodes:∀(k:Nat) n,T[k]?=some n→NodeOk n T.length
 down:∀(k:Nat) n,T[k]?=some n→∀x∈n.K,DownOk T k x
 links:∀(k:Nat) n,T[k]?=some n→0 < k→k≠kid→LkOk T k n
theorem take_almost (h:DropOk T n x s kid z):AlmostOk (T.set n (takeNd x s)) kid:=by
 have hf:=(kid_place (h.tree.nodes n x h.hx) (s:=s) (by rw[h.kd];omega)).2.2.2.2.2
 have hsub:∀c∈(takeNd x s).K,c∈x.K:=fun c hc=>(List.eraseIdx_sublist ..).subset hc
 have hdown:∀(k:Nat) (c:Int),DownOk T k c→DownOk (T.set n (takeNd x s)) k c:=fun k c hd m hm2 hmf=>by
  rcases take_get h.hx _ hm2 with⟨e,rfl⟩|⟨_,e⟩
  ·exact hd x (by rw[e];exact h.hx) hmf
  ·exact hd m e hmf
 refine⟨by rw[List.length_set];exact h.tree.pos,by rw[List.length_set];exact h.tree.max,fun m hm=>?_,fun k m hm=>?_,fun k m hm c hc=>?_,fun k m hm hk hne=>?_⟩
 ·rcases take_get h.hx _ hm with⟨e,rfl⟩|⟨_,e⟩
  ·exact hf
  ·exact h.tree.root m e
 ·rw[List.length_set]
  rcases take_get h.hx _ hm with⟨e,rfl⟩|⟨_,e⟩
  ·exact takeNd_ok (h.tree.nodes n x h.hx) hf
  ·exact h.tree.nodes k m e
 ·rcases take_get h.hx _ hm with⟨e,rfl⟩|⟨_,e⟩
  ·subst e;exact hdown k c (h.tree.down k x h.hx c (hsub c hc))
  ·exact hdown k c (h.tree.down k m e c hc)
 ·have hc:=take_count h.tree h.hx h.kd (k:Int);rw[if_neg (by omega)]at hc;unfold LkOk;rw[show(kids (T.set n (takeNd x s))).count (k:Int)=(kids T).count (k:Int)by omega]
  rcases take_get h.hx _ hm with⟨e,rfl⟩|⟨_,e⟩
  ·subst e;exact h.tree.links k x h.hx hk
  ·exact h.tree.links k m e hk
theorem drop_kid (h:DropOk T n x s kid z):kid≠n∧1≤kid∧kid < T.length∧z.K=[]∧(T.set n (takeNd x s))[kid]?=some z:=by
 obtain⟨h1,h2,h3,h4,h5,hf⟩:=kid_place (h.tree.nodes n x h.hx) (s:=s) (by rw[h.kd];omega);rw[h.kd]at h4 h5;have hz:=h.tree.nodes kid z h.hz
 have e:kid≠n:=fun e=>by
  subst e;have:=h.hx.symm.trans h.hz
  cases this
  have:=h.emp;omega
 refine⟨e,by omega,by omega,List.eq_nil_of_length_eq_zero (by rw[←hz.len];exact h.emp),?_⟩;rw[List.getElem?_set_ne (fun e'=>e e'.symm)];exact h.hz
theorem dropT_ok (h:DropOk T n x s kid z):TreeOk (dropT T n x s kid):=by
 have hA:=take_almost h;obtain⟨k1,k2,k3,k4,k5⟩:=drop_kid h;have hlen:(T.set n (takeNd x s)).length=T.length:=List.length_set;unfold dropT
 have hlk:z.fold=true→(kids (T.set n (takeNd x s))).count (kid:Int)≤1:=fun hf=>by
  have h1:=(h.tree.links kid z h.hz (by omega)).2 hf;have h2:=take_count h.tree h.hx h.kd (kid:Int);omega
 generalize T.set n (takeNd x s)=T1 at *
 split
 ·rename_i hc;refine⟨hA.pos,hA.max,hA.root,hA.nodes,hA.down,fun k m hm hk=>?_⟩
  by_cases e:k=kid
  ·subst e;rw[k5]at hm;cases hm;exact⟨hc,hlk⟩
  ·exact hA.links k m hm hk e
 ·rename_i hc
  have h0:(kids T1).count (kid:Int)=0:=by omega
  have hno:∀(k:Nat) m,T1[k]?=some m→∀y∈m.K,y≠(kid:Int):=fun k m hm y hy e=>by
   subst e;exact List.count_eq_zero.1 h0 (kids_mem hm hy)
  have hl2:((T1.eraseIdx kid).map (renNd kid)).length=T1.length - 1:=by rw[List.length_map,List.length_eraseIdx_of_lt (by omega)]
  -- the elder place
  have hget:∀(k:Nat) m,((T1.eraseIdx kid).map (renNd kid))[k]?=some m→∃(k':Nat) (m':Nd),T1[k']?=some m'∧m=renNd kid m'∧k'≠kid∧(k:Int)=renum kid (k':Int):=fun k m hm=>by
   rw[List.getElem?_map,era_at]at hm
   split at hm
   ·rename_i hk
    cases hq:T1[k]? with
    | none=>rw[hq]at hm;cases hm
    | some m' =>
     rw[hq]at hm;cases hm;exact⟨k,m',hq,rfl,by omega,by unfold renum;rw[if_neg (by omega)]⟩
   ·rename_i hk
    cases hq:T1[k+1]? with
    | none=>rw[hq]at hm;cases hm
    | some m' =>
     rw[hq]at hm;cases hm;exact⟨k+1,m',hq,rfl,by omega,by unfold renum;rw[if_pos (by omega)];omega⟩
  have hkids:kids ((T1.eraseIdx kid).map (renNd kid))=(kids T1).map (renum kid):=by rw[kids_ren,kids_erase k5 k4]
  have hall:∀y∈kids T1,y≠(kid:Int):=fun y hy e=>by subst e;exact List.count_eq_zero.1 h0 hy
  have hpos:=hA.pos;have hmax:=hA.max;refine⟨by omega,by omega,fun m hm=>?_,fun k m hm=>?_,fun k m hm c hc2=>?_,fun k m hm hk=>?_⟩
  ·obtain⟨k',m',h1,rfl,h2,h3⟩:=hget 0 m hm
   have:k'=0:=by unfold renum at h3;split at h3<;>omega
   subst this;exact hA.root m' h1
  ·obtain⟨k',m',h1,rfl,h2,h3⟩:=hget k m hm;have hN:=hA.nodes k' m' h1;have hi:=(nodeOk_iff.1 hN).1;rw[hl2];refine nodeOk_iff.2 ⟨⟨hi.own,hi.grp,hi.mode,fun hf=>?_,fun hf=>?_⟩,fun c hc2=>?_⟩
   ·obtain⟨a1,a2,a3⟩:=hi.file hf;exact⟨a1,a2,by show m'.K.map _=[];rw[a3];rfl⟩
   ·obtain⟨a1,a2,a3⟩:=hi.dir hf;exact⟨a1,by show m'.N.length=(m'.K.map _).length;rw[List.length_map];exact a2,a3⟩
   ·obtain⟨y,hy,rfl⟩:=List.mem_map.1 (show c∈m'.K.map (renum kid)from hc2);have b1:=inB_iff.1 (nodeOk_kid hN hy);have b2:=hno k' m' h1 y hy;refine inB_iff.2 ?_;unfold renum
    split<;>omega
  ·obtain⟨k',m',h1,rfl,h2,h3⟩:=hget k m hm;obtain⟨y,hy,rfl⟩:=List.mem_map.1 (show c∈m'.K.map (renum kid)from hc2);have b1:=inB_iff.1 (nodeOk_kid (hA.nodes k' m' h1) hy);have b2:=hno k' m' h1 y hy;intro q hq hqf;obtain⟨q',m2,h4,rfl,h5,h6⟩:=hget _ q hq
   have e:y=(q':Int):=by
    have:renum kid y=renum kid (q':Int):=by
     rw[←h6]
     have:0≤renum kid y:=by unfold renum;split<;>omega
     omega
    exact renum_inj b2 (by omega) this
   have hd:=hA.down k' m' h1 y hy m2 (by rw[e,Int.toNat_natCast];exact h4) hqf;rw[h3];unfold renum
   split<;>split<;>omega
  ·obtain⟨k',m',h1,rfl,h2,h3⟩:=hget k m hm;unfold LkOk;rw[hkids,h3,count_renum hall (by omega)];refine hA.links k' m' h1 ?_ h2;unfold renum at h3
   split at h3<;>omega
end
def stuck (c:Cr) (x z:Nd):Bool:=decide (512≤x.mode) && (decide (c.a≠0) && (decide (c.a≠x.own) && decide (c.a≠z.own)))
theorem stuck_cases (c:Cr) (x z:Nd):(¬512≤x.mode∧stuck c x z=false)∨(512≤x.mode∧c.a=0∧stuck c x z=false)∨(512≤x.mode∧c.a≠0∧c.a=x.own∧stuck c x z=false)∨(512≤x.mode∧c.a≠0∧c.a≠x.own∧c.a=z.own∧stuck c x z=false)∨(512≤x.mode∧c.a≠0∧c.a≠x.own∧c.a≠z.own∧stuck c x z=true):=by
 unfold stuck
 by_cases h1:512≤x.mode
 ·rw[decide_eq_true h1,Bool.true_and]
  by_cases h2:c.a=0
  ·exact .inr (.inl ⟨h1,h2,by rw[decide_eq_false (fun e=>e h2),Bool.false_and]⟩)
  ·rw[decide_eq_true h2,Bool.true_and]
   by_cases h3:c.a=x.own
   ·exact .inr (.inr (.inl ⟨h1,h2,h3,by rw[decide_eq_false (fun e=>e h3),Bool.false_and]⟩))
   ·rw[decide_eq_true h3,Bool.true_and]
    by_cases h4:c.a=z.own
    ·exact .inr (.inr (.inr (.inl ⟨h1,h2,h3,h4,by rw[decide_eq_false (fun e=>e h4)]⟩)))
    ·exact .inr (.inr (.inr (.inr ⟨h1,h2,h3,h4,by rw[decide_eq_true h4]⟩)))
 ·exact .inl ⟨h1,by rw[decide_eq_false h1,Bool.false_and]⟩
noncomputable def mayDropF (T:List Nd) (c:Cr) (s:ByteArray) (full:Bool):Int :=
 if (folderAbove T c s).2.2≠0 then(folderAbove T c s).2.2 else match T[(folderAbove T c s).1.toNat]? with
  | none=>1
  | some x=>if kidOf x.N x.K (folderAbove T c s).2.1 < 0 then 2 else match T[(kidOf x.N x.K (folderAbove T c s).2.1).toNat]? with
   | none=>1
   | some z=>if stuck c x z=true then 3 else if full=false∧0 < z.N.length then 7 else 0
section
variable {T:List Nd} {c:Cr} {s:ByteArray} {m kid:Nat} {x z:Nd} {full:Bool}
theorem md_fault {f:Int} (hf:f≠0) (h:folderAbove T c s=(-1,⟨#[]⟩,f)):mayDropF T c s full=f:=by rw[mayDropF,h,if_pos hf]
theorem md_at (h : FaOk T c s m x) : mayDropF T c s full = if kidOf x.N x.K (lastOf s) < 0 then 2 else match T[(kidOf x.N x.K (lastOf s)).toNat]? with
      | none=>1
      | some z=>if stuck c x z=true then 3 else if full=false∧0 < z.N.length then 7 else 0:=by
 rw[mayDropF,h.eq,if_neg (by simp)];dsimp only;rw[Int.toNat_natCast,h.hx]
theorem md_miss (h:FaOk T c s m x) (hk:kidOf x.N x.K (lastOf s) < 0):mayDropF T c s full=2:=by rw[md_at h,if_pos hk]
theorem md_kid (h:FaOk T c s m x) (hk:kidOf x.N x.K (lastOf s)=(kid:Int)) (hz:T[kid]?=some z):mayDropF T c s full=if stuck c x z=true then 3 else if full=false∧0 < z.N.length then 7 else 0:=by
 rw[md_at h,if_neg (by omega),hk,Int.toNat_natCast,hz]
structure MdOk (T:List Nd) (c:Cr) (s:ByteArray) (m kid:Nat) (x z:Nd):Prop where
 fa:FaOk T c s m x
 kd:kidOf x.N x.K (lastOf s)=(kid:Int)
 hz:T[kid]?=some z
 free:stuck c x z=false
theorem md_cases (T:List Nd) (c:Cr) (s:ByteArray):(∃m kid x z,MdOk T c s m kid x z∧mayDropF T c s true=0∧(0 < z.N.length→mayDropF T c s false=7)∧(z.N.length=0→mayDropF T c s false=0))∨∃f:Int,f≠0∧f≠7∧mayDropF T c s true=f∧mayDropF T c s false=f:=by
 rcases fa_cases T c s with⟨m,x,h⟩|⟨f,hf,h⟩
 ·by_cases hk:kidOf x.N x.K (lastOf s) < 0
  ·exact .inr ⟨2,by decide,by decide,md_miss h hk,md_miss h hk⟩
  ·obtain⟨h1,h2,h3,h4,h5,h6⟩:=kid_place (h.tree.nodes m x h.hx) (s:=lastOf s) (by omega);obtain⟨kid,hkd⟩:∃kid:Nat,kidOf x.N x.K (lastOf s)=(kid:Int):=⟨_,(Int.toNat_of_nonneg (by omega)).symm⟩;have hz:T[kid]?=some T[kid]:=List.getElem?_eq_getElem (by omega)
   cases hs:stuck c x T[kid]with
   | true=>exact .inr ⟨3,by decide,by decide,by rw[md_kid h hkd hz,if_pos hs],by rw[md_kid h hkd hz,if_pos hs]⟩
   | false =>
    refine .inl ⟨m,kid,x,T[kid],⟨h,hkd,hz,hs⟩,?_,fun hl=>?_,fun hl=>?_⟩
    ·rw[md_kid h hkd hz,if_neg (by rw[hs];decide),if_neg (by simp)]
    ·rw[md_kid h hkd hz,if_neg (by rw[hs];decide),if_pos ⟨rfl,hl⟩]
    ·rw[md_kid h hkd hz,if_neg (by rw[hs];decide),if_neg (by omega)]
 ·by_cases h7:f=7
  ·exfalso;subst h7
   cases hs:(aboveOf s).isSome with
   | false=>rw[fa_no hs]at h;simp at h
   | true =>
    rcases find_cases T c (abOf s)with⟨m,hF,hm,_⟩|⟨g,hg,hF⟩
    ·have hx:T[m]?=some T[m]:=List.getElem?_eq_getElem hm;rw[fa_at hs hF hx]at h
     split at h
     ·simp at h
     ·split at h
      ·simp at h
      ·simp at h
    ·rw[fa_fault hs (by rw[hF];exact hg),hF]at h;simp at h;subst h;exact find_not7 _ _ _ (by rw[hF])
  ·exact .inr ⟨f,hf,h7,md_fault hf h,md_fault hf h⟩
where
 find_not7 (T:List Nd) (c:Cr) (s:ByteArray):(findNode T c s).2≠7:=by
  rw[findNode]
  split
  ·simp
  ·split
   ·exact ff_not7 T c _ _
   ·simp
 ff_not7 (T:List Nd) (c:Cr):∀(P:List ByteArray) (i:Int),(findFrom T c P i).2≠7
  | [],i=>by simp[findFrom]
  | p :: P,i=>by
   rw[findFrom]
   split
   ·simp
   ·split
    ·simp
    ·split
     ·simp
     ·split
      ·simp
      ·exact ff_not7 T c P _
end
noncomputable def dropName (T:List Nd) (c:Cr) (s:ByteArray):List Nd×Int :=
 if mayDropF T c s false≠0 then([],mayDropF T c s false)else match T[(folderAbove T c s).1.toNat]? with
  | none=>([],1)
  | some x=>(dropT T (folderAbove T c s).1.toNat x (lastOf s) (kidOf x.N x.K (lastOf s)).toNat,0)
theorem md_drop {T:List Nd} {c:Cr} {s:ByteArray} {m kid:Nat} {x z:Nd} (h:MdOk T c s m kid x z) (h0:z.N.length=0):DropOk T m x (lastOf s) kid z:=⟨h.fa.tree,h.fa.hx,h.kd,h.hz,h0⟩
theorem dn_ok {T:List Nd} {c:Cr} {s:ByteArray} {m kid:Nat} {x z:Nd} (h:MdOk T c s m kid x z) (h0:mayDropF T c s false=0):dropName T c s=(dropT T m x (lastOf s) kid,0):=by
 rw[dropName,if_neg (by rw[h0];simp),h.fa.eq];dsimp only;rw[Int.toNat_natCast,h.fa.hx];dsimp only;rw[h.kd,Int.toNat_natCast]
theorem dn_bad {T:List Nd} {c:Cr} {s:ByteArray} {f:Int} (hf:f≠0) (h:mayDropF T c s false=f):dropName T c s=([],f):=by rw[dropName,h,if_pos hf]
theorem dropName_ok (T:List Nd) (c:Cr) (s:ByteArray):((dropName T c s).2=0∧TreeOk T∧TreeOk (dropName T c s).1∧(dropName T c s).1.length≤T.length)∨((dropName T c s).2≠0∧(dropName T c s).1=[]):=by
 rcases md_cases T c s with⟨m,kid,x,z,h,_,h2,h3⟩|⟨f,hf,_,_,h⟩
 ·by_cases h0:z.N.length=0
  ·rw[dn_ok h (h3 h0)];refine .inl ⟨rfl,h.fa.tree,dropT_ok (md_drop h h0),?_⟩
   show(dropT T m x (lastOf s) kid).length≤T.length
   unfold dropT
   split
   ·rw[List.length_set];exact Nat.le_refl _
   ·rw[List.length_map];have:=(List.eraseIdx_sublist (T.set m (takeNd x (lastOf s))) kid).length_le;rw[List.length_set]at this;exact this
  ·rw[dn_bad (by decide) (h2 (by omega))];exact .inr ⟨by simp,rfl⟩
 ·rw[dn_bad hf h];exact .inr ⟨hf,rfl⟩
def moveT (T:List Nd) (old n:Nat) (x y:Nd) (s d:ByteArray) (kid:Nat):List Nd:=(T.set old (takeNd x s)).set n (putNd y d (kid:Int))
noncomputable def moveName (T:List Nd) (c:Cr) (src dst:ByteArray):List Nd×Int :=
 if mayDropF T c src true≠0 then([],mayDropF T c src true)else if (placeFor T c dst).2≠0 then([],(placeFor T c dst).2)else match T[(folderAbove T c src).1.toNat]? with
  | none=>([],1)
  | some x=>match T[(kidOf x.N x.K (lastOf src)).toNat]? with
   | none=>([],1)
   | some z=>if z.fold=true∧(folderAbove T c src).1≠(placeFor T c dst).1 then([],4)else match (T.set (folderAbove T c src).1.toNat (takeNd x (lastOf src)))[(placeFor T c dst).1.toNat]? with
    | none=>([],1)
    | some y=>(moveT T (folderAbove T c src).1.toNat (placeFor T c dst).1.toNat x y (lastOf src) (lastOf dst) (kidOf x.N x.K (lastOf src)).toNat,0)
section
variable {T:List Nd} {c:Cr} {src dst:ByteArray} {m n kid:Nat} {x y z:Nd} {f:Int}
theorem mv_bad (hf:f≠0) (h:mayDropF T c src true=f):moveName T c src dst=([],f):=by rw[moveName,h,if_pos hf]
theorem mv_place (h:mayDropF T c src true=0) (hf:f≠0) (hp:placeFor T c dst=(-1,f)):moveName T c src dst=([],f):=by rw[moveName,if_neg (by rw[h];simp),hp,if_pos hf]
theorem mv_at (h : mayDropF T c src true = 0) (hM : MdOk T c src m kid x z) (hp : placeFor T c dst = ((n : Int), 0)) : moveName T c src dst = if z.fold = true ∧ (m : Int) ≠ (n : Int) then (([] : List Nd), (4 : Int)) else match (T.set m (takeNd x (lastOf src)))[n]? with
        | none=>([],1)
        | some y=>(moveT T m n x y (lastOf src) (lastOf dst) kid,0):=by
 rw[moveName,if_neg (by rw[h];simp),hp,if_neg (by simp),hM.fa.eq];dsimp only;rw[Int.toNat_natCast,hM.fa.hx];dsimp only;rw[hM.kd,Int.toNat_natCast,hM.hz];rfl
theorem mv_kind (h:mayDropF T c src true=0) (hM:MdOk T c src m kid x z) (hp:placeFor T c dst=((n:Int),0)) (hz:z.fold=true) (hne:m≠n):moveName T c src dst=([],4):=by
 rw[mv_at h hM hp,if_pos ⟨hz,by omega⟩]
theorem mv_ok (h:mayDropF T c src true=0) (hM:MdOk T c src m kid x z) (hp:placeFor T c dst=((n:Int),0)) (hz:z.fold=false∨m=n) (hy:(T.set m (takeNd x (lastOf src)))[n]?=some y):moveName T c src dst=(moveT T m n x y (lastOf src) (lastOf dst) kid,0):=by
 rw[mv_at h hM hp,if_neg (by
  rintro⟨h1,h2⟩
  rcases hz with h3|h3
  ·rw[h1]at h3;cases h3
  ·exact h2 (by rw[h3])),hy]
end
theorem moveT_ok {T:List Nd} (h:TreeOk T) {m n kid:Nat} {x y z:Nd} {s d:ByteArray} (hx:T[m]?=some x) (hk:kidOf x.N x.K s=(kid:Int)) (hz:T[kid]?=some z) (hy:(T.set m (takeNd x s))[n]?=some y) (hyf:y.fold=true) (hd:NameOk d) (hnd:d∉y.N) (hzf:z.fold=false∨m=n):TreeOk (moveT T m n x y s d kid):=by
 obtain⟨k1,k2,k3,k4,k5,hf⟩:=kid_place (h.nodes m x hx) (s:=s) (by omega);rw[hk]at k3 k4 k5;have hm:=(List.getElem?_eq_some_iff.1 hx).1
 have hn:n < T.length:=by have:=(List.getElem?_eq_some_iff.1 hy).1;rwa [List.length_set]at this
 have hpos:=h.pos
 have hlen:(moveT T m n x y s d kid).length=T.length:=by unfold moveT;rw[List.length_set,List.length_set]
 -- what stands at each place, with the elder node
 have hget:∀(k:Nat) q,(moveT T m n x y s d kid)[k]?=some q→∃q0,T[k]?=some q0∧q.fold=q0.fold∧NodeOk q T.length∧∀v∈q.K,v∈q0.K∨(v=(kid:Int)∧k=n):=fun k q hq=>by
  unfold moveT at hq
  rcases take_get hy (putNd y d (kid:Int)) hq with⟨e,rfl⟩|⟨hne,hq'⟩
  ·subst e
   rcases take_get hx (takeNd x s) hy with⟨e2,rfl⟩|⟨hne2,hy'⟩
   ·refine⟨x,by rw[e2];exact hx,rfl,putNd_ok (takeNd_ok (h.nodes m x hx) hf) (Nat.le_refl _) hyf hd hnd (inB_iff.2 ⟨k4,by omega⟩),fun v hv=>?_⟩
    rcases putNd_kid.1 hv with rfl|hv
    ·exact .inr ⟨rfl,rfl⟩
    ·exact .inl ((List.eraseIdx_sublist ..).subset hv)
   ·refine⟨y,hy',rfl,putNd_ok (h.nodes k y hy') (Nat.le_refl _) hyf hd hnd (inB_iff.2 ⟨k4,by omega⟩),fun v hv=>?_⟩
    rcases putNd_kid.1 hv with rfl|hv
    ·exact .inr ⟨rfl,rfl⟩
    ·exact .inl hv
  ·rcases take_get hx (takeNd x s) hq' with⟨e2,rfl⟩|⟨hne2,hq2⟩
   ·subst e2;exact⟨x,hx,rfl,takeNd_ok (h.nodes k x hx) hf,fun v hv=>.inl ((List.eraseIdx_sublist ..).subset hv)⟩
   ·exact⟨q,hq2,rfl,h.nodes k q hq2,fun v hv=>.inl hv⟩
 have hcnt:∀c,(kids (moveT T m n x y s d kid)).count c=(kids T).count c:=fun c=>by
  have h1:=take_count h hx hk c;have h2:(kids (moveT T m n x y s d kid)).count c=(kids (T.set m (takeNd x s))).count c+(if (kid:Int)=c then 1 else 0):=kids_set hy putNd_count;omega
 have hdown:∀(k:Nat) (v:Int),DownOk T k v→DownOk (moveT T m n x y s d kid) k v:=fun k v hdo q hq hqf=>by
  obtain⟨q0,h1,h2,_⟩:=hget _ q hq;exact hdo q0 h1 (by rw[←h2];exact hqf)
 refine⟨by omega,by rw[hlen];exact h.max,fun q hq=>?_,fun k q hq=>?_,fun k q hq v hv=>?_,fun k q hq hk0=>?_⟩
 ·obtain⟨q0,h1,h2,_⟩:=hget 0 q hq;rw[h2];exact h.root q0 h1
 ·rw[hlen];exact(hget k q hq).choose_spec.2.2.1
 ·obtain⟨q0,h1,_,_,h4⟩:=hget k q hq
  rcases h4 v hv with hv|⟨rfl,rfl⟩
  ·exact hdown k v (h.down k q0 h1 v hv)
  ·rcases hzf with hzf|e
   ·exact hdown k _ (down_file hz hzf)
   ·subst e;have hxx:q0=x:=Option.some.inj (h1.symm.trans hx);exact hdown m _ (h.down m x hx _ (List.mem_of_getElem? k3))
 ·unfold LkOk;rw[hcnt];obtain⟨q0,h1,h2,_⟩:=hget k q hq;rw[h2];exact h.links k q0 h1 hk0
noncomputable def gateAt (T:List Nd) (c:Cr) (s:ByteArray) (dir:Bool) (want:Int):Int×Int :=
 if (findNode T c s).2≠0 then(-1,(findNode T c s).2)else match T[(findNode T c s).1.toNat]? with
  | none=>(-1,1)
  | some x=>if x.fold≠dir then(-1,4)else if c.may x want=false then(-1,3)else((findNode T c s).1,0)
section
variable {T:List Nd} {c:Cr} {s t:ByteArray} {dir:Bool} {want f md:Int} {n:Nat} {x:Nd}
theorem ga_fault (hf:f≠0) (h:findNode T c s=(-1,f)):gateAt T c s dir want=(-1,f):=by rw[gateAt,h,if_pos hf]
theorem ga_at (h:findNode T c s=((n:Int),0)) (hx:T[n]?=some x):gateAt T c s dir want=if x.fold≠dir then(-1,4)else if c.may x want=false then(-1,3)else((n:Int),0):=by
 rw[gateAt,h,if_neg (by simp)];dsimp only;rw[Int.toNat_natCast,hx]
theorem ga_kind (h:findNode T c s=((n:Int),0)) (hx:T[n]?=some x) (hd:x.fold≠dir):gateAt T c s dir want=(-1,4):=by rw[ga_at h hx,if_pos hd]
theorem ga_may (h:findNode T c s=((n:Int),0)) (hx:T[n]?=some x) (hd:x.fold=dir) (hm:c.may x want=false):gateAt T c s dir want=(-1,3):=by rw[ga_at h hx,if_neg (by simp[hd]),if_pos hm]
theorem ga_ok (h:findNode T c s=((n:Int),0)) (hx:T[n]?=some x) (hd:x.fold=dir) (hm:c.may x want=true):gateAt T c s dir want=((n:Int),0):=by rw[ga_at h hx,if_neg (by simp[hd]),if_neg (by simp[hm])]
noncomputable def readFile (T:List Nd) (c:Cr) (s:ByteArray):ByteArray×Int :=
 if (gateAt T c s false 4).2≠0 then(⟨#[]⟩,(gateAt T c s false 4).2)else match T[(gateAt T c s false 4).1.toNat]? with
  | none=>(⟨#[]⟩,1)
  | some x=>(x.text,0)
theorem rf_bad (hf:f≠0) (h:gateAt T c s false 4=(-1,f)):readFile T c s=(⟨#[]⟩,f):=by rw[readFile,h,if_pos hf]
theorem rf_ok (h:gateAt T c s false 4=((n:Int),0)) (hx:T[n]?=some x):readFile T c s=(x.text,0):=by
 rw[readFile,h,if_neg (by simp)];dsimp only;rw[Int.toNat_natCast,hx]
noncomputable def listNames (T:List Nd) (c:Cr) (s:ByteArray):List ByteArray×Int :=
 if (gateAt T c s true 4).2≠0 then([],(gateAt T c s true 4).2)else match T[(gateAt T c s true 4).1.toNat]? with
  | none=>([],1)
  | some x=>(x.N,0)
theorem li_bad (hf:f≠0) (h:gateAt T c s true 4=(-1,f)):listNames T c s=([],f):=by rw[listNames,h,if_pos hf]
theorem li_ok (h:gateAt T c s true 4=((n:Int),0)) (hx:T[n]?=some x):listNames T c s=(x.N,0):=by
 rw[listNames,h,if_neg (by simp)];dsimp only;rw[Int.toNat_natCast,hx]
def textNd (x:Nd) (t:ByteArray):Nd:=⟨x.fold,x.own,x.grp,x.mode,t,x.N,x.K⟩
def modeNd (x:Nd) (m:Int):Nd:=⟨x.fold,x.own,x.grp,m,x.text,x.N,x.K⟩
noncomputable def writeFile (T:List Nd) (c:Cr) (s t:ByteArray):List Nd×Int :=
 if (gateAt T c s false 2).2≠0 then([],(gateAt T c s false 2).2)else if 40 < t.size then([],6)else match T[(gateAt T c s false 2).1.toNat]? with
  | none=>([],1)
  | some x=>(T.set (gateAt T c s false 2).1.toNat (textNd x t),0)
theorem wf_bad (hf:f≠0) (h:gateAt T c s false 2=(-1,f)):writeFile T c s t=([],f):=by rw[writeFile,h,if_pos hf]
theorem wf_full (h:gateAt T c s false 2=((n:Int),0)) (ht:40 < t.size):writeFile T c s t=([],6):=by rw[writeFile,h,if_neg (by simp),if_pos ht]
theorem wf_ok (h:gateAt T c s false 2=((n:Int),0)) (ht:¬40 < t.size) (hx:T[n]?=some x):writeFile T c s t=(T.set n (textNd x t),0):=by
 rw[writeFile,h,if_neg (by simp),if_neg ht];dsimp only;rw[Int.toNat_natCast,hx]
noncomputable def changeMode (T:List Nd) (c:Cr) (s:ByteArray) (md:Int):List Nd×Int :=
 if inB md 0 1023=false then([],1)else if (findNode T c s).2≠0 then([],(findNode T c s).2)else match T[(findNode T c s).1.toNat]? with
  | none=>([],1)
  | some x=>if c.a≠0∧c.a≠x.own then([],3)else(T.set (findNode T c s).1.toNat (modeNd x md),0)
theorem cm_mode (h:inB md 0 1023=false):changeMode T c s md=([],1):=by rw[changeMode,if_pos h]
theorem cm_fault (h:inB md 0 1023=true) (hf:f≠0) (hF:findNode T c s=(-1,f)):changeMode T c s md=([],f):=by rw[changeMode,if_neg (by simp[h]),hF,if_pos hf]
theorem cm_at (h:inB md 0 1023=true) (hF:findNode T c s=((n:Int),0)) (hx:T[n]?=some x):changeMode T c s md=if c.a≠0∧c.a≠x.own then(([]:List Nd),(3:Int))else(T.set n (modeNd x md),0):=by
 rw[changeMode,if_neg (by simp[h]),hF,if_neg (by simp)];dsimp only;rw[Int.toNat_natCast,hx]
theorem text_ok (h:TreeOk T) (hx:T[n]?=some x) (hf:x.fold=false) (ht:¬40 < t.size):TreeOk (T.set n (textNd x t)):=by
 have hN:=h.nodes n x hx;refine tree_same h hx rfl rfl ⟨hN.own,hN.grp,hN.mode,hN.len,hN.file,fun e=>?_,by show t.size≤40;omega,hN.at_⟩;have e':x.fold=true:=e;rw[hf]at e';cases e'
theorem mode_ok (h:TreeOk T) (hx:T[n]?=some x) (hm:inB md 0 1023=true):TreeOk (T.set n (modeNd x md)):=by
 have hN:=h.nodes n x hx;exact tree_same h hx rfl rfl ⟨hN.own,hN.grp,hm,hN.len,hN.file,hN.dir,hN.short,hN.at_⟩
end
theorem gate_cases (T:List Nd) (c:Cr) (s:ByteArray) (dir:Bool) (want:Int):(∃n x,gateAt T c s dir want=(((n:Nat):Int),0)∧T[n]?=some x∧x.fold=dir∧TreeOk T)∨∃f:Int,f≠0∧gateAt T c s dir want=(-1,f):=by
 rcases find_cases T c s with⟨m,hF,hm,hT,_⟩|⟨f,hf,hF⟩
 ·have hx:T[m]?=some T[m]:=List.getElem?_eq_getElem hm
  by_cases hd:T[m].fold=dir
  ·cases hy:c.may T[m] want with
   | false=>exact .inr ⟨3,by decide,ga_may hF hx hd hy⟩
   | true=>exact .inl ⟨m,_,ga_ok hF hx hd hy,hx,hd,hT⟩
  ·exact .inr ⟨4,by decide,ga_kind hF hx hd⟩
 ·exact .inr ⟨f,hf,ga_fault hf hF⟩
theorem writeFile_ok (T:List Nd) (c:Cr) (s t:ByteArray):((writeFile T c s t).2=0∧TreeOk T∧TreeOk (writeFile T c s t).1∧(writeFile T c s t).1.length≤T.length)∨((writeFile T c s t).2≠0∧(writeFile T c s t).1=[]):=by
 rcases gate_cases T c s false 2 with⟨n,x,h,hx,hf,hT⟩|⟨f,hf,h⟩
 ·by_cases ht:40 < t.size
  ·rw[wf_full h ht];exact .inr ⟨by simp,rfl⟩
  ·rw[wf_ok h ht hx];exact .inl ⟨rfl,hT,text_ok hT hx hf ht,by simp⟩
 ·rw[wf_bad hf h];exact .inr ⟨hf,rfl⟩
theorem changeMode_ok (T:List Nd) (c:Cr) (s:ByteArray) (md:Int):((changeMode T c s md).2=0∧TreeOk T∧TreeOk (changeMode T c s md).1∧(changeMode T c s md).1.length≤T.length)∨((changeMode T c s md).2≠0∧(changeMode T c s md).1=[]):=by
 cases hm:inB md 0 1023 with
 | false=>rw[cm_mode hm];exact .inr ⟨by simp,rfl⟩
 | true =>
  rcases find_cases T c s with⟨n,hF,hn,hT,_⟩|⟨f,hf,hF⟩
  ·have hx:T[n]?=some T[n]:=List.getElem?_eq_getElem hn;rw[cm_at hm hF hx]
   split
   ·exact .inr ⟨by simp,rfl⟩
   ·exact .inl ⟨rfl,hT,mode_ok hT hx hm,by simp⟩
  ·rw[cm_fault hm hf hF];exact .inr ⟨hf,rfl⟩
def faultText (f:Int):ByteArray :=
 if f=0 then⟨#[110,111,110,101]⟩else if f=1 then⟨#[112,97,116,104]⟩else if f=2 then⟨#[109,105,115,115,105,110,103]⟩else if f=3 then⟨#[97,99,99,101,115,115]⟩else if f=4 then⟨#[107,105,110,100]⟩else if f=5 then⟨#[116,104,101,114,101]⟩else if f=6 then⟨#[102,117,108,108]⟩else if f=7 then⟨#[98,117,115,121]⟩else⟨#[]⟩
section
variable {P:Program}
def waitsB (l:List Oper) (j i:Nat):Bool:=match l[j]? with|some o=>o.after.toList.any (fun e=>Region.binds .any e && decide (e.on=i))|none=>false
def depsB (l:List Oper) (n:Nat) (D:List (Nat×Nat)):Bool:=D.all (fun p=>decide (p.1 < n) && waitsB l p.1 p.2)
def OneC (V:Nat→Value→World→Prop) (cons:Nat→Option Nat) (D:List (Nat×Nat)) (n m:Nat) (I:World→Prop) (i:Nat) (o:Oper) (a:Act) (w:World):Exit→Act→World→Prop :=
 fun e a' w'=>e=.normal∧∃v,a'=a.put o.dst v∧V i v w'∧I w'∧∀j u,j < n+m→j≠i→cons j≠some i→(j,i)∉D→(∀c,cons j=some c→(i,c)∉D)→V j u w→V j u w'
theorem wp_of_oneC {V:Nat→Value→World→Prop} {cons:Nat→Option Nat} {D:List (Nat×Nat)} {n m:Nat} {I:World→Prop} {o:Oper} {a:Act} {w:World} {K:Act→World→Prop} {Q:Exit→Act→World→Prop} {ops:Array Oper} {i:Nat} (ho:ops[i]?=some o)
  (h:wpList P ops (OneC V cons D n m I i o a w) [o] a w) (hK:∀v w',V i v w'→I w'→(∀j u,j < n+m→j≠i→cons j≠some i→(j,i)∉D→(∀c,cons j=some c→(i,c)∉D)→V j u w→V j u w')→K (a.put o.dst v) w'):wpOp P ops Q i K a w:=by
 have hno:¬LetsOut (OneC V cons D n m I i o a w):=by rintro⟨a',w',h',_⟩;cases h'
 unfold wpOp;simp only[ho];simp only[wpList]at h
 split
 ·rename_i hw;rw[if_pos hw]at h;left
  rcases h with h|⟨_,h⟩
  ·unfold Oper.wp at *;generalize (execOp a.eval o).run P w=r at *
   cases r with
   | ok x w1 =>
    cases x<;>simp only[Oper.upon]at h ⊢
    case enter f args => exact h.mono fun e w2 he => by
                          cases e with
                          | returned v=>obtain⟨_,u,h1,h2,h3,h4⟩:=he;show K _ _;rw[h1];exact hK u w2 h2 h3 h4
                          | panicked ch=>obtain⟨h1,_⟩:=he;cases h1
                          | outgrown=>exact absurd he hno
    case row r1 args=>exact h.mono fun v w2 he=>by obtain⟨_,u,h1,h2,h3,h4⟩:=he;rw[h1];exact hK u w2 h2 h3 h4
    all_goals(obtain⟨_,u,h1,h2,h3,h4⟩:=h;rw[h1];exact hK u _ h2 h3 h4)
   | halt x w1=>cases x<;>simp only[Oper.upon]at h ⊢<;>(obtain⟨h1,_⟩:=h;cases h1)
  ·exact absurd h hno
 ·rename_i hw;rw[if_neg hw]at h;obtain⟨_,u,h1,h2,h3,h4⟩:=h;rw[h1];exact hK u w h2 h3 h4
def WaitsC (V:Nat→Value→World→Prop) (cons:Nat→Option Nat) (i:Nat) (o:Oper) (vs:List Value) (w:World):Prop :=
 ∀e∈o.after.toList,Region.binds .any e=true→(cons e.on=none∨cons e.on=some i)→V e.on (vs.getD e.on undef) w
def RestC (V:Nat→Value→World→Prop) (cons:Nat→Option Nat) (n m i:Nat) (w:World):Prop :=
 ∀r,r < m→(cons (n+r)=none∨cons (n+r)=some i)→V (n+r) undef w
structure HInvC (V:Nat→Value→World→Prop) (cons:Nat→Option Nat) (l:List Oper) (n m:Nat) (a0:Act) (I:World→Prop) (listed:Array Bool) (a:Act) (w:World):Prop where
 head:HeadInv .any l.toArray n listed
 ext:I w
 rest:∀r,r < m→(∀c,cons (n+r)=some c→listed.getD c false=false)→V (n+r) undef w
 vals:∃vs:List Value,vs.length=n∧a=putAll a0 (l.take n) vs∧∀i,i < n→listed.getD i false=true→(∀c,cons i=some c→listed.getD c false=false)→V i (vs.getD i undef) w
theorem wpAny_headC {V:Nat→Value→World→Prop} {cons:Nat→Option Nat} {D:List (Nat×Nat)} {l:List Oper} {n m:Nat} {a0:Act} {I:World→Prop} {Q:Exit→Act→World→Prop} (hn:n≤l.length)
  (hH:headB l a0.tmps.size n=true) (hT:tailB l n=true) (hS:Region.seqB .any l.toArray (l.length - n) n (markN n l.length)=true) (hD:depsB l n D=true)
  (hstep:∀i o,i < n→l[i]?=some o→∀vs w,vs.length=n→I w→WaitsC V cons i o vs w→RestC V cons n m i w→wpList P l.toArray (OneC V cons D n m I i o (putAll a0 (l.take n) vs) w) [o] (putAll a0 (l.take n) vs) w)
  (hend:∀vs w,vs.length=n→I w→(∀i,i < n→cons i=none→V i (vs.getD i undef) w)→(∀r,r < m→cons (n+r)=none→V (n+r) undef w)→wpList P l.toArray Q (l.drop n) (putAll a0 (l.take n) vs) w) :
  ∀(f:Nat) (listed:Array Bool) (a:Act) (w:World),unlisted listed n=f→HInvC V cons l n m a0 I listed a w→wpAny P .any l.toArray Q (f+(l.length - n)) listed a w:=by
 have hop:∀i o,i < n→l[i]?=some o→(∀d,o.dst=some d→∀j o',(l.take n)[j]?=some o'→j≠i→o'.dst≠some d)∧(∀e∈o.after.toList,Region.binds .any e=true→e.on < i):=by
  intro i o hi ho;have h1:=List.all_eq_true.1 hH i (List.mem_range.2 hi);simp only[ho,Bool.and_eq_true]at h1;refine⟨fun d hd j o' hj hne=>?_,fun e he hb=>?_⟩
  ·have h2:=h1.1;simp only[hd,Bool.and_eq_true]at h2
   have hjn:j < n:=by
    have:=(List.getElem?_eq_some_iff.1 hj).1;simp at this;omega
   have h3:=List.all_eq_true.1 h2.2 j (List.mem_range.2 hjn);rw[List.getElem?_take,if_pos hjn]at hj;simp only[hj,Bool.or_eq_true,decide_eq_true_eq]at h3;exact h3.resolve_left hne
  ·have h3:=List.all_eq_true.1 h1.2 e he;simp only[Bool.or_eq_true,Bool.not_eq_true',hb,decide_eq_true_eq]at h3;exact h3.resolve_left (by simp)
 have htailno:∀listed,HeadInv .any l.toArray n listed→(∃i,i < n∧listed.getD i true=false)→∀t,n≤t→t∉Region.ready .any l.toArray listed:=by
  intro listed inv ⟨i,hi,hun⟩ t ht;simp only[tailB,Bool.or_eq_true,Bool.and_eq_true,decide_eq_true_eq]at hT
  rcases hT with h|h
  ·intro hr;obtain⟨_,o,ho,_⟩:=mem_ready.1 hr;have:=(Array.getElem?_eq_some_iff.1 ho).1;simp at this;omega
  ·exact tail_waits h.1.2 h.2 (by simpa using h.1.1) inv _ i rfl hi hun t ht
 intro f
 induction f with
 | zero =>
  intro listed a w hf inv;obtain⟨vs,hvl,rfl,hV⟩:=inv.vals;have hall:=unlisted_zero hf
  have hlist:listed=markN n l.length:=by
   apply Array.ext_getElem?;intro i;have hsz:=inv.head.size;simp only[List.size_toArray]at hsz
   by_cases hi:i < l.length
   ·have hil:i < listed.size:=by omega
    rw[Array.getElem?_eq_getElem hil]
    by_cases hin:i < n
    ·have:=hall i hin;simp only[Array.getD_eq_getD_getElem?,Array.getElem?_eq_getElem hil,Option.getD_some]at this;simp[markN,hi,hin,this]
    ·have:=inv.head.tail i (by omega) (by simpa using hi);simp only[Array.getD_eq_getD_getElem?,Array.getElem?_eq_getElem hil,Option.getD_some]at this;simp[markN,hi,hin,this]
   ·rw[Array.getElem?_eq_none (by omega),Array.getElem?_eq_none (by simp[markN];omega)]
  rw[hlist];have:=wpAny_of_seq (P:=P) (md:=.any) (Q':=Q) (ops:=l.toArray) (l.drop n) n (markN n l.length) (putAll a0 (l.take n) vs) w (fun j=>by simp[List.getElem?_drop]) (by rw[List.length_drop];exact hS) (hend vs w hvl inv.ext (fun i hi hc=>hV i hi (hall i hi) (by rw[hc];simp)) (fun r hr hc=>inv.rest r hr (by rw[hc];simp)));rw[List.length_drop]at this;rw[Nat.zero_add];exact this
 | succ f ih =>
  intro listed a w hf inv;rw[show f+1+(l.length - n)=(f+(l.length - n))+1 by omega];obtain⟨vs,hvl,rfl,hV⟩:=inv.vals;obtain⟨i0,hi0,hun0,hmin⟩:=unlisted_pos (show unlisted listed n≠0 by omega);have hsz:=inv.head.size;simp only[List.size_toArray]at hsz;have hun0':listed.getD i0 true=false:=getD_in (by omega) hun0;refine⟨fun hnil=>?_,fun i hi=>?_⟩
  ·exfalso;obtain⟨o,ho⟩:∃o,l[i0]?=some o:=⟨_,List.getElem?_eq_getElem (by omega)⟩;have:i0∈Region.ready .any l.toArray listed:=mem_ready.2 ⟨hun0',o,by simpa using ho,fun e he hb=>hmin _ ((hop i0 o hi0 ho).2 e (by simpa using he) hb)⟩;rw[hnil]at this
   cases this
  ·have hin:i < n:=by
    rcases Nat.lt_or_ge i n with h|h
    ·exact h
    ·exact absurd hi (htailno listed inv.head ⟨i0,hi0,hun0'⟩ i h)
   obtain⟨hun,o,ho,hall⟩:=mem_ready.1 hi
   have ho':l[i]?=some o:=by simpa using ho
   have hunf:listed.getD i false=false:=getD_both hun
   have hno2:∀j,(∀c,cons j=some c→listed.getD c false=false)→∀c,cons j=some c→(i,c)∉D:=fun j hj c hc hm=>by
    have h1:=List.all_eq_true.1 hD (i,c) hm;simp only[Bool.and_eq_true,waitsB,ho']at h1;obtain⟨e,he,h2⟩:=List.any_eq_true.1 h1.2;simp only[Bool.and_eq_true,decide_eq_true_eq]at h2;have h3:=hall e (by simpa using he) h2.1;rw[h2.2,hj c hc]at h3
    cases h3
   refine wp_of_oneC ho (hstep i o hin ho' vs w hvl inv.ext (fun e he hb hc=>hV e.on (by have:=(hop i o hin ho').2 e he hb;omega) (hall e (by simpa using he) hb) (fun c hcc=>by
    rcases hc with hc|hc
    ·rw[hc]at hcc;cases hcc
    ·rw[hc]at hcc;cases hcc;exact hunf)) (fun r hr hc=>inv.rest r hr (fun c hcc=>by
    rcases hc with hc|hc
    ·rw[hc]at hcc;cases hcc
    ·rw[hc]at hcc;cases hcc;exact hunf))) (fun v w' hv hE hkeep=>?_)
   refine ih _ _ _ (by have:=unlisted_set hin hun;omega) ⟨inv.head.set hi hin,hE,fun r hr hcr=>?_,vs.set i v,by simpa using hvl,?_,fun j hj hlj hcj=>?_⟩
   ·have hil:i < listed.size:=by omega
    have hci:cons (n+r)≠some i:=fun e=>by
     have:=hcr i e;rw[show(listed.setIfInBounds i true).getD i false=true by simp[hil]]at this
     cases this
    have hnd:(n+r,i)∉D:=fun hm=>by
     have h1:=List.all_eq_true.1 hD (n+r,i) hm;simp only[Bool.and_eq_true,decide_eq_true_eq]at h1;omega
    have hun2:∀c,cons (n+r)=some c→listed.getD c false=false:=fun c hc=>by
     have h2:=hcr c hc
     have hne:i≠c:=fun e=>hci (by rw[e];exact hc)
     rwa [getD_set_ne false hne]at h2
    exact hkeep (n+r) _ (by omega) (by omega) hci hnd (hno2 _ hun2) (inv.rest r hr hun2)
   ·exact putAll_put a0 (l.take n) vs i o v (by rw[List.getElem?_take,if_pos hin];exact ho') (by simp;omega) (hop i o hin ho').1
   ·by_cases hij:i=j
    ·subst hij;rw[List.getD_eq_getElem?_getD,List.getElem?_set_self (by omega)];exact hv
    ·rw[getD_set_ne false hij]at hlj;rw[List.getD_eq_getElem?_getD,List.getElem?_set_ne hij,←List.getD_eq_getElem?_getD]
     have hil:i < listed.size:=by omega
     have hci:cons j≠some i:=fun e=>by
      have:=hcj i e;rw[show(listed.setIfInBounds i true).getD i false=true by simp[hil]]at this
      cases this
     have hnd:(j,i)∉D:=fun hm=>by
      have h1:=List.all_eq_true.1 hD (j,i) hm;simp only[Bool.and_eq_true,waitsB]at h1;obtain⟨oj,hoj⟩:∃oj,l[j]?=some oj:=⟨_,List.getElem?_eq_getElem (by omega)⟩;rw[hoj]at h1;obtain⟨e,he,h2⟩:=List.any_eq_true.1 h1.2;simp only[Bool.and_eq_true,decide_eq_true_eq]at h2;have h3:=inv.head.closed j oj (by simpa using hoj) hlj e (by simpa using he) h2.1;rw[h2.2,hunf]at h3
      cases h3
     have hun2:∀c,cons j=some c→listed.getD c false=false:=fun c hc=>by
      have h2:=hcj c hc
      have hne:i≠c:=fun e=>hci (by rw[e];exact hc)
      rwa [getD_set_ne false hne]at h2
     exact hkeep j _ (by omega) (fun e=>hij e.symm) hci hnd (hno2 _ hun2) (hV j hj hlj hun2)
theorem wp_region_c {V:Nat→Value→World→Prop} (I:World→Prop) (cons:Nat→Option Nat) (D:List (Nat×Nat)) {l:List Oper} (n m:Nat) {id:Nat} {a0:Act} {w:World} {Q:Exit→Act→World→Prop} (hm:P.follows .mixedOrders=true)
  (hn:n≤l.length) (hH:headB l a0.tmps.size n=true) (hT:tailB l n=true) (hS:Region.seqB .any l.toArray (l.length - n) n (markN n l.length)=true) (hD:depsB l n D=true)
  (hI0:I w.drew) (hR0:∀r,r < m→V (n+r) undef w.drew)
  (hstep:∀i o,i < n→l[i]?=some o→∀vs w2,vs.length=n→I w2→WaitsC V cons i o vs w2→RestC V cons n m i w2→wpList P l.toArray (OneC V cons D n m I i o (putAll a0 (l.take n) vs) w2) [o] (putAll a0 (l.take n) vs) w2)
  (hend:∀vs w2,vs.length=n→I w2→(∀i,i < n→cons i=none→V i (vs.getD i undef) w2)→(∀r,r < m→cons (n+r)=none→V (n+r) undef w2)→wpList P l.toArray Q (l.drop n) (putAll a0 (l.take n) vs) w2) :
  (Code.region id l.toArray true).wp P Q a0 w:=by
 refine wp_region_any hm ?_
 have hdst:∀o∈l.take n,∀d,o.dst=some d→d < a0.tmps.size:=by
  intro o ho d hd;obtain⟨i,hi⟩:=List.getElem?_of_mem ho
  have hin:i < n:=by
   have:=(List.getElem?_eq_some_iff.1 hi).1;simp at this;omega
  rw[List.getElem?_take,if_pos hin]at hi;have h1:=List.all_eq_true.1 hH i (List.mem_range.2 hin);simp only[hi,hd,Bool.and_eq_true,decide_eq_true_eq]at h1;exact h1.1.1
 have hu:unlisted (Array.replicate l.length false) n=n:=by
  unfold unlisted;rw[List.filter_eq_self.2 (by intro i hi;rw[getD_replicate_false];rfl)];simp
 have:=wpAny_headC (P:=P) (Q:=Q) (a0:=a0) (I:=I) hn hH hT hS hD hstep hend n (Array.replicate l.length false) a0 w.drew hu
  ⟨⟨by simp,fun j oj _ hl=>(by rw[getD_replicate_false]at hl;cases hl),fun t _ ht=>getD_in (by simpa using ht) (getD_replicate_false _ _)⟩,hI0,fun r hr _=>hR0 r hr,oldVals a0 (l.take n),by simp[oldVals];omega,(putAll_old a0 _ hdst).symm,fun i _ hl=>(by rw[getD_replicate_false]at hl;cases hl)⟩
 rw[show n+(l.length - n)=l.toArray.size by simp;omega]at this;exact this
end
theorem OneC.mk {V:Nat→Value→World→Prop} {cons:Nat→Option Nat} {D:List (Nat×Nat)} {n m:Nat} {I:World→Prop} {i:Nat} {o:Oper} {a a':Act} {w w':World} (hst:∀i v w w',V i v w→Ext w w'→V i v w') {v:Value} (ha:a'=a.put o.dst v) (hV:V i v w') (hI:I w') (hE:Ext w w') :
  OneC V cons D n m I i o a w .normal a' w':=⟨rfl,v,ha,hV,hI,fun j u _ _ _ _ _ h=>hst j u w w' h hE⟩
section
variable {P:Program}
def waitsF:Nat→List Oper→Nat→Nat→Bool
 | 0,_,_,_=>false
 | f+1,l,j,i=>match l[j]? with|some o=>o.after.toList.any (fun e=>Region.binds .any e && (decide (e.on=i) || waitsF f l e.on i))|none=>false
def depsT (l:List Oper) (n:Nat) (D:List (Nat×Nat)):Bool:=D.all (fun p=>decide (p.1 < n) && waitsF 5 l p.1 p.2)
theorem waitsF_closed {l:List Oper} {listed:Array Bool} (hc:∀j oj,l[j]?=some oj→listed.getD j false=true→∀e∈oj.after,Region.binds .any e=true→listed.getD e.on false=true):∀(f j i:Nat),waitsF f l j i=true→listed.getD j false=true→listed.getD i false=true
 | 0,j,i,h,_=>by simp[waitsF]at h
 | f+1,j,i,h,hj=>by
  rw[waitsF]at h
  cases ho:l[j]? with
  | none=>rw[ho]at h;simp at h
  | some o =>
   rw[ho]at h;obtain⟨e,he,h2⟩:=List.any_eq_true.1 h;simp only[Bool.and_eq_true,Bool.or_eq_true,decide_eq_true_eq]at h2;have h3:=hc j o ho hj e (by simpa using he) h2.1
   rcases h2.2 with h4|h4
   ·rw[←h4];exact h3
   ·exact waitsF_closed hc f e.on i h4 h3
theorem waitsF_listed {l:List Oper} {listed:Array Bool} (hc:∀j oj,l[j]?=some oj→listed.getD j false=true→∀e∈oj.after,Region.binds .any e=true→listed.getD e.on false=true) {f j i:Nat} {o:Oper} (h:waitsF f l j i=true) (ho:l[j]?=some o) (ha:∀e∈o.after.toList,Region.binds .any e=true→listed.getD e.on false=true):listed.getD i false=true:=by
 cases f with
 | zero=>simp[waitsF]at h
 | succ f =>
  rw[waitsF,ho]at h;obtain⟨e,he,h2⟩:=List.any_eq_true.1 h;simp only[Bool.and_eq_true,Bool.or_eq_true,decide_eq_true_eq]at h2;have h3:=ha e he h2.1
  rcases h2.2 with h4|h4
  ·rw[←h4];exact h3
  ·exact waitsF_closed hc f e.on i h4 h3
theorem wpAny_headT {V:Nat→Value→World→Prop} {cons:Nat→Option Nat} {D:List (Nat×Nat)} {l:List Oper} {n m:Nat} {a0:Act} {I:World→Prop} {Q:Exit→Act→World→Prop} (hn:n≤l.length)
  (hH:headB l a0.tmps.size n=true) (hT:tailB l n=true) (hS:Region.seqB .any l.toArray (l.length - n) n (markN n l.length)=true) (hD:depsT l n D=true)
  (hstep:∀i o,i < n→l[i]?=some o→∀vs w,vs.length=n→I w→WaitsC V cons i o vs w→RestC V cons n m i w→wpList P l.toArray (OneC V cons D n m I i o (putAll a0 (l.take n) vs) w) [o] (putAll a0 (l.take n) vs) w)
  (hend:∀vs w,vs.length=n→I w→(∀i,i < n→cons i=none→V i (vs.getD i undef) w)→(∀r,r < m→cons (n+r)=none→V (n+r) undef w)→wpList P l.toArray Q (l.drop n) (putAll a0 (l.take n) vs) w) :
  ∀(f:Nat) (listed:Array Bool) (a:Act) (w:World),unlisted listed n=f→HInvC V cons l n m a0 I listed a w→wpAny P .any l.toArray Q (f+(l.length - n)) listed a w:=by
 have hop:∀i o,i < n→l[i]?=some o→(∀d,o.dst=some d→∀j o',(l.take n)[j]?=some o'→j≠i→o'.dst≠some d)∧(∀e∈o.after.toList,Region.binds .any e=true→e.on < i):=by
  intro i o hi ho;have h1:=List.all_eq_true.1 hH i (List.mem_range.2 hi);simp only[ho,Bool.and_eq_true]at h1;refine⟨fun d hd j o' hj hne=>?_,fun e he hb=>?_⟩
  ·have h2:=h1.1;simp only[hd,Bool.and_eq_true]at h2
   have hjn:j < n:=by
    have:=(List.getElem?_eq_some_iff.1 hj).1;simp at this;omega
   have h3:=List.all_eq_true.1 h2.2 j (List.mem_range.2 hjn);rw[List.getElem?_take,if_pos hjn]at hj;simp only[hj,Bool.or_eq_true,decide_eq_true_eq]at h3;exact h3.resolve_left hne
  ·have h3:=List.all_eq_true.1 h1.2 e he;simp only[Bool.or_eq_true,Bool.not_eq_true',hb,decide_eq_true_eq]at h3;exact h3.resolve_left (by simp)
 have htailno:∀listed,HeadInv .any l.toArray n listed→(∃i,i < n∧listed.getD i true=false)→∀t,n≤t→t∉Region.ready .any l.toArray listed:=by
  intro listed inv ⟨i,hi,hun⟩ t ht;simp only[tailB,Bool.or_eq_true,Bool.and_eq_true,decide_eq_true_eq]at hT
  rcases hT with h|h
  ·intro hr;obtain⟨_,o,ho,_⟩:=mem_ready.1 hr;have:=(Array.getElem?_eq_some_iff.1 ho).1;simp at this;omega
  ·exact tail_waits h.1.2 h.2 (by simpa using h.1.1) inv _ i rfl hi hun t ht
 intro f
 induction f with
 | zero =>
  intro listed a w hf inv;obtain⟨vs,hvl,rfl,hV⟩:=inv.vals;have hall:=unlisted_zero hf
  have hlist:listed=markN n l.length:=by
   apply Array.ext_getElem?;intro i;have hsz:=inv.head.size;simp only[List.size_toArray]at hsz
   by_cases hi:i < l.length
   ·have hil:i < listed.size:=by omega
    rw[Array.getElem?_eq_getElem hil]
    by_cases hin:i < n
    ·have:=hall i hin;simp only[Array.getD_eq_getD_getElem?,Array.getElem?_eq_getElem hil,Option.getD_some]at this;simp[markN,hi,hin,this]
    ·have:=inv.head.tail i (by omega) (by simpa using hi);simp only[Array.getD_eq_getD_getElem?,Array.getElem?_eq_getElem hil,Option.getD_some]at this;simp[markN,hi,hin,this]
   ·rw[Array.getElem?_eq_none (by omega),Array.getElem?_eq_none (by simp[markN];omega)]
  rw[hlist];have:=wpAny_of_seq (P:=P) (md:=.any) (Q':=Q) (ops:=l.toArray) (l.drop n) n (markN n l.length) (putAll a0 (l.take n) vs) w (fun j=>by simp[List.getElem?_drop]) (by rw[List.length_drop];exact hS) (hend vs w hvl inv.ext (fun i hi hc=>hV i hi (hall i hi) (by rw[hc];simp)) (fun r hr hc=>inv.rest r hr (by rw[hc];simp)));rw[List.length_drop]at this;rw[Nat.zero_add];exact this
 | succ f ih =>
  intro listed a w hf inv;rw[show f+1+(l.length - n)=(f+(l.length - n))+1 by omega];obtain⟨vs,hvl,rfl,hV⟩:=inv.vals;obtain⟨i0,hi0,hun0,hmin⟩:=unlisted_pos (show unlisted listed n≠0 by omega);have hsz:=inv.head.size;simp only[List.size_toArray]at hsz;have hun0':listed.getD i0 true=false:=getD_in (by omega) hun0;refine⟨fun hnil=>?_,fun i hi=>?_⟩
  ·exfalso;obtain⟨o,ho⟩:∃o,l[i0]?=some o:=⟨_,List.getElem?_eq_getElem (by omega)⟩;have:i0∈Region.ready .any l.toArray listed:=mem_ready.2 ⟨hun0',o,by simpa using ho,fun e he hb=>hmin _ ((hop i0 o hi0 ho).2 e (by simpa using he) hb)⟩;rw[hnil]at this
   cases this
  ·have hin:i < n:=by
    rcases Nat.lt_or_ge i n with h|h
    ·exact h
    ·exact absurd hi (htailno listed inv.head ⟨i0,hi0,hun0'⟩ i h)
   obtain⟨hun,o,ho,hall⟩:=mem_ready.1 hi
   have ho':l[i]?=some o:=by simpa using ho
   have hunf:listed.getD i false=false:=getD_both hun
   have hno2:∀j,(∀c,cons j=some c→listed.getD c false=false)→∀c,cons j=some c→(i,c)∉D:=fun j hj c hc hm=>by
    have h1:=List.all_eq_true.1 hD (i,c) hm;simp only[Bool.and_eq_true]at h1;have h2:=waitsF_listed (fun j oj hoj hl=>inv.head.closed j oj (by simpa using hoj) hl) h1.2 ho' (fun e he hb=>hall e (by simpa using he) hb);rw[hj c hc]at h2
    cases h2
   refine wp_of_oneC ho (hstep i o hin ho' vs w hvl inv.ext (fun e he hb hc=>hV e.on (by have:=(hop i o hin ho').2 e he hb;omega) (hall e (by simpa using he) hb) (fun c hcc=>by
    rcases hc with hc|hc
    ·rw[hc]at hcc;cases hcc
    ·rw[hc]at hcc;cases hcc;exact hunf)) (fun r hr hc=>inv.rest r hr (fun c hcc=>by
    rcases hc with hc|hc
    ·rw[hc]at hcc;cases hcc
    ·rw[hc]at hcc;cases hcc;exact hunf))) (fun v w' hv hE hkeep=>?_)
   refine ih _ _ _ (by have:=unlisted_set hin hun;omega) ⟨inv.head.set hi hin,hE,fun r hr hcr=>?_,vs.set i v,by simpa using hvl,?_,fun j hj hlj hcj=>?_⟩
   ·have hil:i < listed.size:=by omega
    have hci:cons (n+r)≠some i:=fun e=>by
     have:=hcr i e;rw[show(listed.setIfInBounds i true).getD i false=true by simp[hil]]at this
     cases this
    have hnd:(n+r,i)∉D:=fun hm=>by
     have h1:=List.all_eq_true.1 hD (n+r,i) hm;simp only[Bool.and_eq_true,decide_eq_true_eq]at h1;omega
    have hun2:∀c,cons (n+r)=some c→listed.getD c false=false:=fun c hc=>by
     have h2:=hcr c hc
     have hne:i≠c:=fun e=>hci (by rw[e];exact hc)
     rwa [getD_set_ne false hne]at h2
    exact hkeep (n+r) _ (by omega) (by omega) hci hnd (hno2 _ hun2) (inv.rest r hr hun2)
   ·exact putAll_put a0 (l.take n) vs i o v (by rw[List.getElem?_take,if_pos hin];exact ho') (by simp;omega) (hop i o hin ho').1
   ·by_cases hij:i=j
    ·subst hij;rw[List.getD_eq_getElem?_getD,List.getElem?_set_self (by omega)];exact hv
    ·rw[getD_set_ne false hij]at hlj;rw[List.getD_eq_getElem?_getD,List.getElem?_set_ne hij,←List.getD_eq_getElem?_getD]
     have hil:i < listed.size:=by omega
     have hci:cons j≠some i:=fun e=>by
      have:=hcj i e;rw[show(listed.setIfInBounds i true).getD i false=true by simp[hil]]at this
      cases this
     have hnd:(j,i)∉D:=fun hm=>by
      have h1:=List.all_eq_true.1 hD (j,i) hm;simp only[Bool.and_eq_true]at h1;obtain⟨oj,hoj⟩:∃oj,l[j]?=some oj:=⟨_,List.getElem?_eq_getElem (by omega)⟩;have h2:=waitsF_listed (fun j oj hoj hl=>inv.head.closed j oj (by simpa using hoj) hl) h1.2 hoj (fun e he hb=>inv.head.closed j oj (by simpa using hoj) hlj e (by simpa using he) hb);rw[hunf]at h2
      cases h2
     have hun2:∀c,cons j=some c→listed.getD c false=false:=fun c hc=>by
      have h2:=hcj c hc
      have hne:i≠c:=fun e=>hci (by rw[e];exact hc)
      rwa [getD_set_ne false hne]at h2
     exact hkeep j _ (by omega) (fun e=>hij e.symm) hci hnd (hno2 _ hun2) (hV j hj hlj hun2)
theorem wp_region_t {V:Nat→Value→World→Prop} (I:World→Prop) (cons:Nat→Option Nat) (D:List (Nat×Nat)) {l:List Oper} (n m:Nat) {id:Nat} {a0:Act} {w:World} {Q:Exit→Act→World→Prop} (hm:P.follows .mixedOrders=true)
  (hn:n≤l.length) (hH:headB l a0.tmps.size n=true) (hT:tailB l n=true) (hS:Region.seqB .any l.toArray (l.length - n) n (markN n l.length)=true) (hD:depsT l n D=true)
  (hI0:I w.drew) (hR0:∀r,r < m→V (n+r) undef w.drew)
  (hstep:∀i o,i < n→l[i]?=some o→∀vs w2,vs.length=n→I w2→WaitsC V cons i o vs w2→RestC V cons n m i w2→wpList P l.toArray (OneC V cons D n m I i o (putAll a0 (l.take n) vs) w2) [o] (putAll a0 (l.take n) vs) w2)
  (hend:∀vs w2,vs.length=n→I w2→(∀i,i < n→cons i=none→V i (vs.getD i undef) w2)→(∀r,r < m→cons (n+r)=none→V (n+r) undef w2)→wpList P l.toArray Q (l.drop n) (putAll a0 (l.take n) vs) w2) :
  (Code.region id l.toArray true).wp P Q a0 w:=by
 refine wp_region_any hm ?_
 have hdst:∀o∈l.take n,∀d,o.dst=some d→d < a0.tmps.size:=by
  intro o ho d hd;obtain⟨i,hi⟩:=List.getElem?_of_mem ho
  have hin:i < n:=by
   have:=(List.getElem?_eq_some_iff.1 hi).1;simp at this;omega
  rw[List.getElem?_take,if_pos hin]at hi;have h1:=List.all_eq_true.1 hH i (List.mem_range.2 hin);simp only[hi,hd,Bool.and_eq_true,decide_eq_true_eq]at h1;exact h1.1.1
 have hu:unlisted (Array.replicate l.length false) n=n:=by
  unfold unlisted;rw[List.filter_eq_self.2 (by intro i hi;rw[getD_replicate_false];rfl)];simp
 have:=wpAny_headT (P:=P) (Q:=Q) (a0:=a0) (I:=I) hn hH hT hS hD hstep hend n (Array.replicate l.length false) a0 w.drew hu
  ⟨⟨by simp,fun j oj _ hl=>(by rw[getD_replicate_false]at hl;cases hl),fun t _ ht=>getD_in (by simpa using ht) (getD_replicate_false _ _)⟩,hI0,fun r hr _=>hR0 r hr,oldVals a0 (l.take n),by simp[oldVals];omega,(putAll_old a0 _ hdst).symm,fun i _ hl=>(by rw[getD_replicate_false]at hl;cases hl)⟩
 rw[show n+(l.length - n)=l.toArray.size by simp;omega]at this;exact this
end
theorem heapx {w w':World} {b:Nat} {o:Obj} (hE:Ext w w') (h:w.heap[b]?=some o):w'.heap[b]?=some o:=by
 rw[hE.block b (Array.getElem?_eq_some_iff.1 h).1];exact h
theorem heap_chg {S:Nat→Prop} {w w':World} {b:Nat} {o:Obj} (h:w.heap[b]?=some o) (hc:Chg S w w') (hn:¬S b):w'.heap[b]?=some o :=
 (hc.block b (Array.getElem?_eq_some_iff.1 h).1 hn).trans h
theorem cell_chg {S:Nat→Prop} {w w':World} {b o:Nat} {v:Value} (h:w.cell? ⟨b,o,none⟩=some v) (hc:Chg S w w') (hn:¬S b):w'.cell? ⟨b,o,none⟩=some v:=by
 rw[World.cell?_of_block (w:=w) (hc.block b (World.block_lt_of_cell? w ⟨b,o,none⟩ h) hn)];exact h
end Go.Proofs.YtnibbldfohbfkaaGreatDoor
