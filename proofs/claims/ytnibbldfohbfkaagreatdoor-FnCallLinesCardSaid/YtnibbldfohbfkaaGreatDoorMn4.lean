/- Parts of one proof: what each theorem proves, and its conditions, stand in its own statement. -/
import Derived.OwnWalk
import Derived.Test.YtnibbldfohbfkaaGreatDoorMn3
set_option linter.all false
set_option maxRecDepth 100000
set_option maxHeartbeats 32000000
namespace Go.Proofs.YtnibbldfohbfkaaGreatDoor
open Go.RowKit
structure Cr where
 r:Int
 a:Int
 s:Int
 g:Int
def Cr.ok (c:Cr):Prop:=CredOk c.r c.a c.s c.g
def Cr.may (c:Cr) (x:Nd) (want:Int):Bool:=mayDo c.r c.a c.s c.g x.own x.grp x.mode want
noncomputable def partsOf (s:ByteArray):Option (List ByteArray):=open Classical in if h:∃P,PartsOk P∧joinPath P=s then some h.choose else none
theorem partsOf_some {s:ByteArray} {P:List ByteArray} (h:PartsOk P) (e:joinPath P=s):partsOf s=some P:=by
 have hx:∃P,PartsOk P∧joinPath P=s:=⟨P,h,e⟩;rw[partsOf,dif_pos hx];exact congrArg some (joinPath_inj hx.choose_spec.1 h (hx.choose_spec.2.trans e.symm))
theorem partsOf_none {s:ByteArray} (h:∀Q,PartsOk Q→joinPath Q≠s):partsOf s=none:=by
 rw[partsOf,dif_neg];rintro⟨P,h1,h2⟩;exact h P h1 h2
theorem partsOf_ok {s:ByteArray} {P:List ByteArray} (h:partsOf s=some P):PartsOk P∧joinPath P=s:=by
 rw[partsOf]at h
 split at h
 ·rename_i hx;cases h;exact hx.choose_spec
 ·cases h
theorem partsR_of {s:ByteArray} {P:List ByteArray} {ok:Bool} (h:PartsR s P ok):partsOf s=if ok=true then some P else none:=by
 rcases h with⟨rfl,h1,h2⟩|⟨rfl,_,h2⟩
 ·rw[if_pos rfl];exact partsOf_some h1 h2
 ·rw[if_neg (by simp)];exact partsOf_none h2
noncomputable def aboveOf (s:ByteArray):Option (ByteArray×ByteArray):=match partsOf s with
 | none=>none
 | some P=>match P.getLast? with
  | none=>none
  | some l=>some (joinPath P.dropLast,l)
theorem aboveOf_name {s a n:ByteArray} (h:aboveOf s=some (a,n)):NameOk n:=by
 rw[aboveOf]at h
 split at h
 ·cases h
 ·rename_i P hP
  split at h
  ·cases h
  ·rename_i l hl
   cases h
   exact(partsOf_ok hP).1.1 n (List.mem_of_getLast? hl)
noncomputable def findFrom (T:List Nd) (c:Cr):List ByteArray→Int→Int×Int
 | [],i=>(i,0)
 | p :: P,i=>match T[i.toNat]? with
  | none=>(-1,2)
  | some x=>if x.fold=false then(-1,4)else if c.may x 1=false then(-1,3)else if kidOf x.N x.K p < 0 then(-1,2)else findFrom T c P (kidOf x.N x.K p)
theorem kidOf_in {T:List Nd} (h:TreeOk T) {k:Nat} {x:Nd} (hx:T[k]?=some x) {p:ByteArray} (hp:0≤kidOf x.N x.K p):kidOf x.N x.K p < T.length:=by
 have:=inB_iff.1 (nodeOk_kid (h.nodes k x hx) (kidOf_mem _ _ _ hp));omega
theorem findFrom_in {T:List Nd} (h:TreeOk T) (c:Cr):∀(P:List ByteArray) (i:Int),0≤i→i < T.length→((findFrom T c P i).2=0∧0≤(findFrom T c P i).1∧(findFrom T c P i).1 < T.length)∨((findFrom T c P i).2≠0∧(findFrom T c P i).1 = -1)
 | [],i,h0,h1=>.inl ⟨rfl,h0,h1⟩
 | p :: P,i,h0,h1=>by
  have hx:T[i.toNat]?=some T[i.toNat]:=List.getElem?_eq_getElem (by omega);rw[findFrom,hx];dsimp only
  split
  ·exact .inr ⟨by simp,rfl⟩
  ·split
   ·exact .inr ⟨by simp,rfl⟩
   ·split
    ·exact .inr ⟨by simp,rfl⟩
    ·rename_i hk
     have hk0:0≤kidOf T[i.toNat].N T[i.toNat].K p:=by omega
     exact findFrom_in h c P _ hk0 (kidOf_in h hx hk0)
noncomputable def findNode (T:List Nd) (c:Cr) (s:ByteArray):Int×Int:=open Classical in match partsOf s with
 | none=>(-1,1)
 | some P=>if TreeOk T∧c.ok then findFrom T c P 0 else(-1,1)
theorem findNode_in (T:List Nd) (c:Cr) (s:ByteArray):((findNode T c s).2=0∧0≤(findNode T c s).1∧(findNode T c s).1 < T.length∧TreeOk T∧c.ok)∨((findNode T c s).2≠0∧(findNode T c s).1 = -1):=by
 rw[findNode]
 split
 ·exact .inr ⟨by simp,rfl⟩
 ·rename_i P hP
  split
  ·rename_i hT;have hpos:=hT.1.pos
   rcases findFrom_in hT.1 c P 0 (by omega) (by omega)with⟨h1,h2,h3⟩|h
   ·exact .inl ⟨h1,h2,h3,hT⟩
   ·exact .inr h
  ·exact .inr ⟨by simp,rfl⟩
noncomputable def placeFor (T:List Nd) (c:Cr) (s:ByteArray):Int×Int:=match aboveOf s with
 | none=>(-1,1)
 | some (ab,nm)=>if (findNode T c ab).2≠0 then(-1,(findNode T c ab).2)else match T[(findNode T c ab).1.toNat]? with
  | none=>(-1,1)
  | some x=>if x.fold=false then(-1,4)else if c.may x 3=false then(-1,3)else if 0≤kidOf x.N x.K nm then(-1,5)else((findNode T c ab).1,0)
theorem placeFor_in (T:List Nd) (c:Cr) (s:ByteArray):(∃ab nm n x,placeFor T c s=(((n:Nat):Int),0)∧aboveOf s=some (ab,nm)∧NameOk nm∧T[n]?=some x∧x.fold=true∧nm∉x.N∧TreeOk T∧c.ok)∨((placeFor T c s).2≠0∧(placeFor T c s).1 = -1):=by
 rw[placeFor]
 split
 ·exact .inr ⟨by simp,rfl⟩
 ·rename_i ab nm hab;have hF:=findNode_in T c ab;generalize findNode T c ab=F at *;obtain⟨n,f⟩:=F;dsimp only at hF ⊢
  split
  ·rename_i hf;exact .inr ⟨hf,rfl⟩
  ·rename_i hf;obtain⟨h1,h2,h3,h4,h5⟩:=hF.resolve_right (fun h=>hf h.1);have hx:T[n.toNat]?=some T[n.toNat]:=List.getElem?_eq_getElem (by omega);rw[hx];dsimp only
   split
   ·exact .inr ⟨by simp,rfl⟩
   ·split
    ·exact .inr ⟨by simp,rfl⟩
    ·split
     ·exact .inr ⟨by simp,rfl⟩
     ·rename_i g1 g2 g3;have hN:=h4.nodes _ _ hx;refine .inl ⟨ab,nm,n.toNat,T[n.toNat],by rw[show((n.toNat:Nat):Int)=n by omega],hab,aboveOf_name hab,hx,by simpa using g1,kidOf_none _ _ _ hN.len (fun y hy=>?_) (by omega),h4,h5⟩;have:=inB_iff.1 (nodeOk_kid hN hy);omega
noncomputable def lastOf (s:ByteArray):ByteArray:=match aboveOf s with
 | none=>⟨#[]⟩
 | some (_,n)=>n
def newNd (folder:Bool) (own grp mode:Int):Nd:=⟨folder,own,grp,mode,⟨#[]⟩,[],[]⟩
noncomputable def makeNode (T:List Nd) (c:Cr) (s:ByteArray) (folder:Bool) (mode:Int):List Nd×Int :=
 if inB mode 0 1023=false then([],1)else if (placeFor T c s).2≠0 then([],(placeFor T c s).2)else if T.length=16 then([],6)else match T[(placeFor T c s).1.toNat]? with
  | none=>([],1)
  | some x=>(T.set (placeFor T c s).1.toNat (putNd x (lastOf s) (T.length:Int))++[newNd folder c.a x.grp mode],0)
theorem makeNode_ok (T:List Nd) (c:Cr) (s:ByteArray) (folder:Bool) (mode:Int):((makeNode T c s folder mode).2=0∧TreeOk T∧TreeOk (makeNode T c s folder mode).1∧(makeNode T c s folder mode).1.length=T.length+1∧∃g,(makeNode T c s folder mode).1[T.length]?=some (newNd folder c.a g mode))∨((makeNode T c s folder mode).2≠0∧(makeNode T c s folder mode).1=[]):=by
 rw[makeNode]
 split
 ·exact .inr ⟨by simp,rfl⟩
 ·rename_i hm
  split
  ·rename_i hf;exact .inr ⟨hf,rfl⟩
  ·rename_i hf
   rcases placeFor_in T c s with⟨ab,nm,n,x,hp,hab,hn,hx,hxf,hni,hT,hc⟩|h
   ·rw[hp]
    split
    ·exact .inr ⟨by simp,rfl⟩
    ·rename_i h16;dsimp only;rw[Int.toNat_natCast,hx];have hmax:=hT.max
     have e:lastOf s=nm:=by rw[lastOf,hab]
     rw[e];refine .inl ⟨rfl,hT,tree_make hT hx hxf hn hni (by omega) ?_ rfl,by simp,x.grp,by simp⟩;have hN:=hT.nodes n x hx;refine⟨hc.2.1,hN.grp,?_,rfl,fun _=>rfl,fun _=>?_,Nat.zero_le _,fun k hk=>absurd hk (Nat.not_lt_zero _)⟩
     ·have hm2:¬inB mode 0 1023=false:=hm
      simpa [newNd]using hm2
     ·exact isEmpty_size.2 rfl
   ·exact absurd h.1 hf
noncomputable def linkName (T:List Nd) (c:Cr) (src dst:ByteArray):List Nd×Int :=
 if (findNode T c src).2≠0 then([],(findNode T c src).2)else match T[(findNode T c src).1.toNat]? with
  | none=>([],1)
  | some z=>if z.fold=true then([],4)else if (placeFor T c dst).2≠0 then([],(placeFor T c dst).2)else match T[(placeFor T c dst).1.toNat]? with
   | none=>([],1)
   | some x=>(T.set (placeFor T c dst).1.toNat (putNd x (lastOf dst) (findNode T c src).1),0)
theorem linkName_ok (T:List Nd) (c:Cr) (src dst:ByteArray):((linkName T c src dst).2=0∧TreeOk T∧TreeOk (linkName T c src dst).1∧(linkName T c src dst).1.length=T.length)∨((linkName T c src dst).2≠0∧(linkName T c src dst).1=[]):=by
 rw[linkName]
 split
 ·rename_i hf;exact .inr ⟨hf,rfl⟩
 ·rename_i hf;have hF:=findNode_in T c src;generalize findNode T c src=F at *;obtain⟨kd,f⟩:=F;dsimp only at hF hf ⊢;obtain⟨h1,h2,h3,h4,h5⟩:=hF.resolve_right (fun h=>hf h.1);have hz:T[kd.toNat]?=some T[kd.toNat]:=List.getElem?_eq_getElem (by omega);rw[hz];dsimp only
  split
  ·exact .inr ⟨by simp,rfl⟩
  ·rename_i hzf
   split
   ·rename_i hf;exact .inr ⟨hf,rfl⟩
   ·rename_i hf2
    rcases placeFor_in T c dst with⟨ab,nm,n,x,hp,hab,hn,hx,hxf,hni,hT,hc⟩|h
    ·rw[hp];dsimp only;rw[Int.toNat_natCast,hx]
     have e:lastOf dst=nm:=by rw[lastOf,hab]
     rw[e]
     have ek:kd=((kd.toNat:Nat):Int):=by omega
     rw[ek];exact .inl ⟨rfl,hT,tree_link_ok hT hx hxf hn hni hz (by simpa using hzf),by simp⟩
    ·exact absurd h.1 hf2
section
variable {P:Program} {α:Type}
theorem run_append_blk (w:World) (base:Nat) (t ty e:TypeId) (i:TypeInfo) (z:Value) (size bytes:Nat) (ht:P.underlying t=some (.slice e)) (hi:P.info? e=some i) (hz:i.zero=some z)
  (hsize:i.size=size) (hby:i.bytes=bytes) (hzs:z.cells.size=size) (hsz:0 < size)
  (v:Value) (n:Nat) (xs:List Value) (hown:w.ownsRow base e size v n xs)
  (a:Addr) (m c:Nat) (news:List Value) (hl:news.length=m*size) (hnews:∀j u,news[j]?=some u→w.cell? (a.add j)=some u) (h1:∀u∈news,u.oneCell'=true)
  (h63:n+m≤maxLen) (hbytes:(n+m)*bytes≤140737488355328) (hbase:base≤w.heap.size) :
  ∃v' w',(Builtin.append_ #[t,t] ty #[v,.slice (some a) m c]).run P w=.ok v' w'∧w'.ownsRow base e size v' (n+m) (xs++news)∧w.grownBy w' v.ownBlock ∧
   (∀b,v'.ownBlock=some b→v.ownBlock=some b∨w.heap.size≤b):=by
 obtain⟨v',w',hr,ho,hg,_⟩:=run_append_own (P:=P) w base t ty e i z size bytes ht hi hz hsize hby hzs hsz v n xs hown a m c news hl hnews h1 h63 hbytes hbase;refine⟨v',w',hr,ho,hg,fun b hb=>?_⟩
 rcases hown.2 with⟨rfl,rfl⟩|⟨g,cap,cur,rfl,hbg,hgg,hnc,hcm,hcs,htake⟩
 ·have hx:xs=[]:=List.eq_nil_of_length_eq_zero (by simpa using hown.1);subst hx;obtain⟨v2,w2,hr2,ho2,_⟩:=run_append_own (P:=P) w w.heap.size t ty e i z size bytes ht hi hz hsize hby hzs hsz _ 0 [] (World.ownsRow_nil w w.heap.size e size) a m c news hl hnews h1 h63 hbytes (Nat.le_refl _);rw[hr]at hr2
  cases hr2
  exact .inr (World.ownsRow.lt ho2 b hb).1
 ·by_cases hroom:n+m≤cap
  ·obtain⟨w2,hr2,_⟩:=run_append_fits (P:=P) w base t ty e i size ht hi hsize g n cap xs hown a m c news hl hnews h1 hroom;rw[hr]at hr2
   cases hr2
   exact .inl hb
  ·subst hsize hby
   have hsmall:n+m≤9223372036854775807:=by simp only[maxLen]at h63;omega
   have holds:∀j u,xs[j]?=some u→w.cell? ((⟨g,0,none⟩:Addr).add j)=some u:=hown.cells (g:=g) rfl;have hr2:=run_append_grow (P:=P) w t ty e i z ht hi hz ⟨g,0,none⟩ n cap xs hown.1 holds a m c news hl hnews (by omega) (by omega) (growslice_fits (by omega) hbytes);rw[hr]at hr2
   cases hr2
   simp only[Value.ownBlock,Option.some.injEq]at hb;exact .inr (by omega)
theorem wpList_append_b {w:World} {ops:Array Oper} {rest:List Oper} {o:Oper} {a:Act} {Q:Exit→Act→World→Prop} (hgd:o.guard=none) (s x:Operand) (t:TypeId)
  (ho:o.op=.call { callee:=.builtin .append,args:=#[s,x],argTypes:=#[t,t] })
  (base:Nat) (e:TypeId) (z:Value) (size bytes:Nat) (ht:P.underlying t=some (.slice e)) (hinfo:(P.info? e).map (fun i=>(i.zero,i.size,i.bytes))=some (some z,size,bytes))
  (hzs:z.cells.size=size) (hsz:0 < size)
  {enc:α→List Value} (hn:∀x,(enc x).length=size) (h1:∀x,∀u∈enc x,u.oneCell'=true)
  (v:Value) (n:Nat) (L:List α) (hs:a.eval s=v) (hown:w.ownsRow base e size v n (L.flatMap enc)) (hnL:n=L.length)
  (ao:Option Addr) (m c:Nat) (l:List α) (hx:a.eval x=.slice ao m c) (hm:m=l.length) (hrd:Rd size enc w ao l)
  (h63:n+m≤1000000000) (hbytes:bytes≤1000) (hbase:base≤w.heap.size)
  (h:∀v' w',w'.ownsRow base e size v' (L++l).length ((L++l).flatMap enc)→w.grownBy w' v.ownBlock→(∀b,v'.ownBlock=some b→v.ownBlock=some b∨w.heap.size≤b)→wpList P ops Q rest (a.put o.dst v') w'):wpList P ops Q (o :: rest) a w:=by
 obtain⟨i,hi,hz,hsize,hby⟩:=info_parts hinfo;subst hm hnL
 cases ao with
 | some ad =>
  obtain⟨v',w',hr,h2,h3,h4⟩:=run_append_blk (P:=P) w base t o.type e i z size bytes ht hi hz hsize hby hzs hsz v L.length (L.flatMap enc) hown ad l.length c (l.flatMap enc) (flatMap_length hn l) (rd_flat hn hrd) (by
   intro u hu;obtain⟨y,_,hy⟩:=List.mem_flatMap.1 hu
   exact h1 y u hy) (by unfold maxLen;omega) (by
   have:(L.length+l.length)*bytes≤1000000000*1000:=Nat.mul_le_mul h63 hbytes
   omega) hbase
  refine wpList_plain hgd fun K hK=>?_
  unfold Oper.wp execOp;simp only[ho,resolve,invoke,builtin,Sem.run_bind,Sem.run_pure,Result.andThen_ok,List.map_toArray,List.map_cons,List.map_nil,hs,hx,hr];exact hK _ _ (h v' w' (by rw[List.length_append,List.flatMap_append];exact h2) h3 h4)
 | none =>
  have hl:l=[]:=by
   cases l with
   | nil=>rfl
   | cons y l=>obtain⟨b,off,h0,_⟩:=hrd 0 (by simp);cases h0
  subst hl
  refine wpList_plain hgd fun K hK=>?_
  have hr:=run_append_none (P:=P) w base t o.type e i size ht hi v L.length c _ hown;have h2:=h v w (by simpa using hown) ⟨rfl,rfl,rfl,Nat.le_refl _,fun _ _ _=>rfl⟩ (fun b hb=>.inl hb);unfold Oper.wp execOp;simp only[ho,resolve,invoke,builtin,Sem.run_bind,Sem.run_pure,Result.andThen_ok,List.map_toArray,List.map_cons,List.map_nil,hs,hx,List.length_nil,hr];exact hK _ _ h2
end
theorem cutP_step {s:ByteArray} {k:Nat} (h:k < s.size):cutP (s.data.toList.take (k+1))=stepP (cutP (s.data.toList.take k)) s[k]:=by
 have h':k < s.data.toList.length:=by rw[Array.length_toList];exact h
 rw[List.take_add_one,List.getElem?_eq_getElem h'];unfold cutP;rw[List.foldl_append];rfl
theorem cutP_len:∀(l:List UInt8),(cutP l).length≤l.length:=fun l=>by
 unfold cutP
 suffices h:∀(l:List UInt8) (Q:List ByteArray),(l.foldl stepP Q).length≤Q.length+l.length by simpa using h l []
 intro l
 induction l with
 | nil=>intro Q;simp
 | cons c l ih =>
  intro Q;rw[List.foldl_cons];have h1:=ih (stepP Q c)
  have h2:(stepP Q c).length≤Q.length+1:=by
   unfold stepP
   split
   ·simp
   ·split
    ·simp
    ·simp
  simp only[List.length_cons];omega
theorem joinPath_size (P:List ByteArray):(joinPath P).size≤54:=by
 have key:∀(Q:List ByteArray) (o:ByteArray),(∀p∈Q,p.size≤8)→(Q.foldl (fun o p=>o++⟨#[47]⟩++p) o).size≤o.size+9*Q.length:=by
  intro Q
  induction Q with
  | nil=>intro o _;simp
  | cons p Q ih =>
   intro o h;have h1:=ih (o++⟨#[47]⟩++p) (fun q hq=>h q (List.mem_cons_of_mem _ hq));have h2:=h p (List.mem_cons_self ..);rw[ByteArray.size_append,ByteArray.size_append]at h1;have h3:(⟨#[47]⟩:ByteArray).size=1:=rfl;rw[List.foldl_cons,List.length_cons];omega
 rw[joinPath]
 split
 ·show 1≤54;omega
 ·split
  ·rename_i h;have h1:=key P ⟨#[]⟩ (fun p hp=>(h.1 p hp).2.2);have h2:=h.2;have h3:(⟨#[]⟩:ByteArray).size=0:=rfl;unfold joinB;omega
  ·show 0≤54;omega
theorem joinPath_pos {Q:List ByteArray} (h:PartsOk Q):0 < (joinPath Q).size:=by
 by_cases hQ:Q=[]
 ·rw[joinPath,if_pos hQ];show 0 < 1;omega
 ·rw[joinPath_ok h hQ];exact joinB_size_pos hQ
theorem parts_root {s:ByteArray} (h:s=⟨#[47]⟩):PartsR s [] true:=.inl ⟨rfl,⟨fun p hp=>(by cases hp),Nat.zero_le _⟩,by rw[h];simp[joinPath]⟩
theorem parts_of_join {s:ByteArray} {Q:List ByteArray} (hs:s≠⟨#[47]⟩) (h:PartsOk Q) (e:joinPath Q=s):cutP s.data.toList=Q:=by
 have hQ:Q≠[]:=fun hq=>hs (by rw[←e,joinPath,if_pos hq])
 rw[←e,joinPath_ok h hQ];exact cut_join h.1
theorem parts_yes {s:ByteArray} {X:List ByteArray} (hs:s≠⟨#[47]⟩) (hp:0 < s.size) (h:joinPath X=s):PartsR s X true:=by
 have hX:X≠[]:=fun hx=>hs (by rw[←h,joinPath,if_pos hx])
 refine .inl ⟨rfl,?_,h⟩;rw[joinPath,if_neg hX]at h
 split at h
 ·rename_i ho;exact ho
 ·rw[←h]at hp;exact absurd hp (by decide)
theorem parts_no {s:ByteArray} {X:List ByteArray} (hs:s≠⟨#[47]⟩) (hX:X=cutP s.data.toList) (h:joinPath X≠s):PartsR s [] false:=.inr ⟨rfl,rfl,fun Q hQ e=>h (by rw[hX,parts_of_join hs hQ e];exact e)⟩
theorem parts_empty {s:ByteArray} (h:s.size=0):PartsR s [] false:=.inr ⟨rfl,rfl,fun Q hQ e=>by have:=joinPath_pos hQ;rw[e]at this;omega⟩
theorem stepP_last {Q:List ByteArray} {c:UInt8} {l:ByteArray} {m:Nat} (hc:c≠47) (hm:Q.length=m+1) (hl:Q[m]?=some l):stepP Q c=Q.set m (l++⟨#[c]⟩):=by
 obtain⟨R,y,rfl⟩:∃R y,Q=R++[y]:=⟨Q.dropLast,Q.getLast (by intro e;rw[e]at hm;simp at hm),(List.dropLast_concat_getLast _).symm⟩
 have hR:R.length=m:=by simpa using hm
 subst hR;rw[List.getElem?_append_right (Nat.le_refl _),Nat.sub_self]at hl;simp only[List.getElem?_cons_zero,Option.some.injEq]at hl;subst hl;rw[stepP_char _ _ hc,List.set_append,if_neg (Nat.lt_irrefl _),Nat.sub_self];rfl
theorem stepP_none {c:UInt8} (hc:c≠47):stepP [] c=[]:=by simp[stepP,hc]
theorem ext_one {s:ByteArray} {k:Nat} (h:k < s.size):s.extract k (k+1)=⟨#[s[k]]⟩:=by
 apply ByteArray.ext;rw[ByteArray.data_extract];apply Array.ext
 ·simp only[Array.size_extract,List.size_toArray,List.length_singleton];have:s.data.size=s.size:=rfl;omega
 ·intro i h1 h2
  have:i=0:=by simpa using h2
  subst this;simp;rfl
theorem infoStr1:(Tryz.prog.info? 9).map (fun i=>(i.zero,i.size,i.bytes))=some (some (.string ByteArray.empty),1,16):=by kernel_rfl
theorem row_blk {α:Type} {w:World} {base e nf:Nat} {enc:α→List Value} {a:Option Addr} {n cap:Nat} {l:List α} (hn:∀x,(enc x).length=nf) (h:w.ownsRow base e nf (.slice a n cap) l.length (l.flatMap enc)) (hl:0 < l.length):∃g,a=some ⟨g,0,none⟩:=by
 obtain⟨a',c',hv,_,_,h2⟩:=view_owns hn h;simp only[Value.slice.injEq]at hv;rw[hv.1]
 rcases h2 with⟨_,h3,_⟩|⟨g,h3,_⟩
 ·rw[h3]at hl;exact absurd hl (Nat.lt_irrefl 0)
 ·exact⟨g,h3⟩
def RetParts (s:ByteArray) (w:World) (e:Ending) (w':World):Prop:=∃u P ok,e=.returned (.tuple #[u,.bool ok])∧PartsR s P ok∧Sep w w' [plRow 9 1 encStr1 u P]
theorem RetParts.mk {s:ByteArray} {w w':World} {u:Value} {P:List ByteArray} (ok:Bool) (h:PartsR s P ok) (S:Sep w w' [plRow 9 1 encStr1 u P]):RetParts s w (.returned (.tuple #[u,.bool ok])) w':=⟨u,P,ok,rfl,h,S⟩
theorem specPathParts (s:ByteArray) (w:World) (hs:s.size≤1048576) :
  Calls Tryz.prog 106 #[.string s] w (RetParts s w):=by
 by_cases hr:s=⟨#[47]⟩
 ·have HR:=hd0 (parts_root hr);subst hr
  go_enter Tryz.func106,Tryz.ntmps106
  have S:=Sep.start w;replace S:Sep w (w.alloc (.cells #[] 9)) [plRow 9 1 encStr1 (.slice (some ⟨w.heap.size,0,none⟩) 0 0) []]:=S.lit0 (by simp) _ _ _;go_wp2;go_ret2;exact RetParts.mk true HR.out S
 have tr:(s.toList == [47])=false:=Bool.eq_false_iff.2 (fun h=>hr (bytes_eq.1 (by rw[eq_of_beq h,ByteArray.toList_eq])));have HRt:=hd0 hr;have HT:=hd0 tr;clear hr
 go_enter Tryz.func106,Tryz.ntmps106
 have S:=Sep.start w;replace S:Sep w (w.alloc (.cells #[] 9)) [plRow 9 1 encStr1 (.slice (some ⟨w.heap.size,0,none⟩) 0 0) []]:=S.lit0 (by simp) _ _ _;go_wp2;generalize (w.alloc (.cells #[] 9))=w1 at *;clear tr
 go_loopw [4,5] (fun o i wr=>∃(k:Nat) (a:Option Addr) (c:Nat) (X:List ByteArray),k≤s.size∧i=.int .i64 k∧o=.slice a X.length c∧X=cutP (s.data.toList.take k)∧(∀x∈X,x.size≤k)∧Sep w wr [plRow 9 1 encStr1 (.slice a X.length c) X]) (fun _ i _=>s.size - (intOf i).toNat)
 case atStart=>exact⟨0,some ⟨w.heap.size,0,none⟩,0,[],Nat.zero_le _,rfl,rfl,by simp[cutP],fun x hx=>(by cases hx),S⟩
 case round =>
  clear S;obtain⟨k,a,c,X,hk,rfl,rfl,hX,hF,S⟩:=hrel
  have hXl:X.length≤k:=by
   have h1:=cutP_len (s.data.toList.take k);rw[←hX,List.length_take]at h1;omega
  have HX:=hd0 hX;have HF:=hd0 hF;clear hX hF
  by_cases hlt:k < s.size
  rotate_left
  ·obtain rfl:k=s.size:=by omega
   have hni:¬(s.size:Int) < (s.size:Int):=by omega
   have hXe:Hid (X=cutP s.data.toList):=hd0 (by rw[HX.out,List.take_of_length_le (by rw[Array.length_toList];exact Nat.le_refl _)])
   by_cases h0:s.size=0
   ·have HR:=hd0 (parts_empty h0);have te:s.toList.isEmpty=true:=isEmpty_size.2 h0;go_wp2
    have SM:=S.cons (p:=plRow 9 1 encStr1 (.slice (some ⟨wr.heap.size,0,none⟩) 0 0) []) ((Ext.refl wr).alloc (.cells #[] 9)) (by
     exact⟨by simp,.inr ⟨wr.heap.size,0,#[],rfl,Nat.zero_le _,heap_alloc_new wr _,Nat.le_refl _,Nat.zero_le _,by simp,by simp⟩⟩) (fun b hb=>by
     have:wr.heap.size=b:=Option.some.inj hb
     omega)
    have SD:=SM.drop 1;go_ret2;exact RetParts.mk false HR.out SD
   ·have te:s.toList.isEmpty=false:=isEmpty_pos (by omega);have HP:Hid (0 < s.size):=hd0 (by omega);have hr1:Rd 1 encStr1 wr a X:=S.rd 0 encStr1_len rfl rfl
    go_wp2_with fail
    refine(specJoinPath a c X wr (by omega) (fun x hx=>by have:=HF.out x hx;omega) hr1).mono ?_;rintro e w2 ⟨v,rfl,rfl,hE⟩;replace S:=S.step hE;clear hE;clear hr1
    by_cases hj:joinPath X=s
    ·have HR:=hd0 (parts_yes HRt.out HP.out hj);rw[hj];clear hj;go_wp2;go_ret2;exact RetParts.mk true HR.out S
    ·have HR:=hd0 (parts_no HRt.out hXe.out hj)
     have tj:((joinPath X).toList == s.toList)=false:=by simpa [bytes_eq]using hj
     clear hj;generalize joinPath X=J at *;go_wp2
     have SM:=S.cons (p:=plRow 9 1 encStr1 (.slice (some ⟨w2.heap.size,0,none⟩) 0 0) []) ((Ext.refl w2).alloc (.cells #[] 9)) (by
      exact⟨by simp,.inr ⟨w2.heap.size,0,#[],rfl,Nat.zero_le _,heap_alloc_new w2 _,Nat.le_refl _,Nat.zero_le _,by simp,by simp⟩⟩) (fun b hb=>by
      have:w2.heap.size=b:=Option.some.inj hb
      omega)
     have SD:=SM.drop 1;go_ret2;exact RetParts.mk false HR.out SD
  ·have i0:(k:Int) < (s.size:Int):=by omega
   have i00:(0:Int)≤(k:Int):=by omega
   have HS1:=hd0 (cutP_step hlt)
   by_cases hc:s[k].toNat=47
   ·have hc8:s[k]=47:=UInt8.toNat_inj.1 hc
    have tc:(s[k].toNat:Int)=47:=by omega
    have HN:Hid (X++[⟨#[]⟩]=cutP (s.data.toList.take (k+1))):=hd0 (by rw[HS1.out,hc8,stepP_slash,←HX.out])
    have HFN:Hid (∀x∈X++[(⟨#[]⟩:ByteArray)],x.size≤k+1):=hd0 (fun x hx=>by
     rcases List.mem_append.1 hx with hx|hx
     ·have:=HF.out x hx;omega
     ·rw[List.mem_singleton.1 hx];exact Nat.zero_le _)
    clear hc8 hc HS1;have SA:=S.alloc #[.string ⟨#[]⟩] 9;have rd1:Rd 1 encStr1 (wr.alloc (.cells #[.string ⟨#[]⟩] 9)) (some ⟨wr.heap.size,0,none⟩) [(⟨#[]⟩:ByteArray)]:=rd_lit_new [(⟨#[]⟩:ByteArray)] encStr1_len rfl
    go_wp2_with (at_builtin;refine Hid.out (?_:Hid _))
    unfold Hid;refine wpList_append_b rfl _ _ 39 rfl w.heap.size 9 _ 1 _ Tryz.underlying39 infoStr1 rfl (by decide) encStr1_len encStr1_one _ X.length X rfl (SA.row (0+1) rfl) rfl (some ⟨wr.heap.size,0,none⟩) 1 1 [(⟨#[]⟩:ByteArray)] rfl rfl rd1 (by omega) (by omega) SA.chg.size ?_;intro v7 w7 ho hgr hblk;obtain⟨G,hG⟩:∃G,G=X++[(⟨#[]⟩:ByteArray)]:=⟨_,rfl⟩;rw[←hG]at ho HN HFN;obtain⟨a7,c7,hv7,hk7,_,_⟩:=view_owns encStr1_len ho;subst hv7;have SM:=(SA.grow (0+1) rfl hgr ho hblk).drop 0;clear ho hgr hblk SA rd1 S hG;go_wp2;go_roundw
    case rel=>exact⟨k+1,a7,c7,G,by omega,by go_num,rfl,HN.out,HFN.out,SM⟩
    case measure=>simp[intOf];omega
   ·have hc8:s[k]≠47:=fun h=>hc (by rw[h];rfl)
    have tc:((s[k].toNat:Int) == 47)=false:=by simp;omega
    by_cases h0:X=[]
    ·have HN:Hid (X=cutP (s.data.toList.take (k+1))):=hd0 (by rw[HS1.out,←HX.out,h0,stepP_none hc8]);have HFN:Hid (∀x∈X,x.size≤k+1):=hd0 (fun x hx=>by have:=HF.out x hx;omega)
     have t0:¬(0:Int) < (X.length:Int):=by rw[h0];simp
     clear hc8 hc HS1;go_wp2;go_roundw
     case rel=>exact⟨k+1,a,c,X,by omega,by go_num,rfl,HN.out,HFN.out,S⟩
     case measure=>simp[intOf];omega
    ·obtain⟨m,hm⟩:∃m,X.length=m+1:=⟨X.length - 1,by have:=List.length_pos_iff.2 h0;omega⟩;have hx:X[m]?=some X[m]:=List.getElem?_eq_getElem (by omega);obtain⟨l,hl⟩:∃l,l=X[m]:=⟨_,rfl⟩;rw[←hl]at hx;have hrow:=S.row 0 rfl;obtain⟨g,rfl⟩:=row_blk encStr1_len hrow (by omega)
     have g0:wr.cell? ⟨g,m,none⟩=some (.string l):=by
      have:=owns_at encStr1_len hrow m (by omega) 0 (.string l) (by rw[←hl];rfl)
      simpa using this
     have hls:=HF.out l (List.mem_of_getElem? hx);have HN:Hid (X.set m (l++s.extract k (k+1))=cutP (s.data.toList.take (k+1))):=hd0 (by rw[HS1.out,←HX.out,stepP_last hc8 hm hx,ext_one hlt])
     have hE1:(s.extract k (k+1)).size=1:=by rw[ext_one hlt];rfl
     have HFN:Hid (∀x∈X.set m (l++s.extract k (k+1)),x.size≤k+1):=hd0 (fun x hx=>by
      rcases List.mem_or_eq_of_mem_set hx with hx|rfl
      ·have:=HF.out x hx;omega
      ·rw[ByteArray.size_append];omega)
     have hml:m < X.length:=by omega
     have t0:(0:Int) < (X.length:Int):=by omega
     have HXm:=hd0 hm
     have hw1:IntKind.i64.wrap ((X.length:Int) - 1)=(m:Int):=by rw[show(X.length:Int) - 1=m by omega];exact IntWalk.i64_in _ (by omega)
     have hmi:(m:Int) < (X.length:Int):=by omega
     have hwk:IntKind.i64.wrap ((k:Int)+1)=(k:Int)+1:=IntWalk.i64_in _ (by omega)
     have hsz:¬9223372036854775807 < l.size+1:=by omega
     have hkt:((k:Int)+1).toNat=k+1:=by omega
     have hk1:(k:Int)+1≤(s.size:Int):=by omega
     have hk2:(k:Int)≤(k:Int)+1:=by omega
     have hk3:(0:Int)≤(k:Int)+1:=by omega
     clear hc8 hc HS1 hl hx h0 hm
     go_wp2_with fail
     go_still_tail 17,(by kernel_rfl)
     change wpList _ _ _ _ _ wr.drew
     generalize hw2:wr.drew=w2
     have he2:Ext wr w2:=by rw[←hw2];exact(Ext.refl wr).drew
     have SM:=(S.step he2).rowSet 0 encStr1_len rfl rfl m 0 (.string (l++s.extract k (k+1))) (l++s.extract k (k+1)) hml (by omega) rfl
     have f0:=(S.step he2).row 0 rfl |>.frozenAt
     have g2:=cell_ext he2 g0;have HSM:=hd0 SM;clear SM S g0 hw2 hrow;go_wp2;go_roundw
     case rel=>exact⟨k+1,some ⟨g,0,none⟩,c,X.set m (l++s.extract k (k+1)),by omega,by go_num,by rw[List.length_set],HN.out,HFN.out,by simpa using HSM.out⟩
     case measure=>simp[intOf];omega
theorem specLinksOf (a:Option Addr) (cap:Nat) (T:List Nd) (w:World) (hl:T.length≤1048576) (hs:∀x∈T,SmN 1048576 x) (hc:RdN w a T) :
  Calls Tryz.prog 105 #[.slice a T.length cap] w (RetV (fun v w'=>∃L,w'.ownsRow w.heap.size 3 1 v L.length (L.flatMap encInt1)∧LinksR T L) w):=by
 obtain⟨i0,hi,hz0,hz1,hz2⟩:=info_parts infoInt;have HS:=hd0 hs;clear hs
 go_enter Tryz.func105,Tryz.ntmps105
 go_wp2_with (at_make;refine wpList_make_full _ rfl _ _ 86 rfl w.heap.size 3 i0 _ 1 Tryz.underlying86 hi hz0 hz1 _ _ _ _ T.length rfl rfl rfl rfl ?b1 ?b2 ?b3 ?_)
 case b1=>rw[hz2];omega
 case b2=>unfold maxLen;omega
 case b3=>exact Nat.le_refl _
 intro w1 hown1 hgr1;have hE:=ext_of_grown hgr1;clear hgr1
 by_cases h16:T.length≤16
 rotate_left
 ·have h16i:(16:Int) < (T.length:Int):=by omega
  have HR:Hid (LinksR T []):=hd0 (.inr ⟨fun h=>h16 h.1,rfl⟩);have HO:=hd0 (owns_lit0 hE);clear hown1;go_wp2;go_ret;exact RetV.mk ⟨[],HO.out,HR.out⟩ (hE.alloc _)
 ·have h16i:(T.length:Int)≤16:=by omega
  go_wp2
  go_loopw [4] (fun i wr=>∃k:Nat,k≤T.length∧i=.int .i64 k∧wr.ownsRow w.heap.size 3 1 (.slice (some ⟨w.heap.size,0,none⟩) T.length T.length) T.length ((cntL T.length (kids (T.take k))).flatMap encInt1)∧(∀x∈kids (T.take k),inB x 0 ((T.length:Int) - 1)=true)∧Ext w wr) (fun i _=>T.length - (intOf i).toNat)
  case atStart =>
   refine⟨0,Nat.zero_le _,rfl,?_,fun x hx=>by simp[kids]at hx,hE⟩;rw[List.take_zero,show kids []=[]from rfl,cntL_zero,←madeInt];exact hown1
  case round =>
   clear hown1 hE;obtain⟨k,hk,rfl,hown,hpre,hb⟩:=hrel;have Hpre:=hd0 hpre;clear hpre
   by_cases hlt:k < T.length
   rotate_left
   ·obtain rfl:k=T.length:=by omega
    have hni:¬(T.length:Int) < (T.length:Int):=by omega
    rw[List.take_length]at hown Hpre
    have hown2:wr.ownsRow w.heap.size 3 1 (.slice (some ⟨w.heap.size,0,none⟩) T.length T.length) (cntL T.length (kids T)).length ((cntL T.length (kids T)).flatMap encInt1):=by rw[cntL_len];exact hown
    have HO:=hd0 hown2;have HR:Hid (LinksR T (cntL T.length (kids T))):=hd0 (.inl ⟨⟨h16,Hpre.out⟩,rfl⟩);clear hown hown2;go_wp2;go_ret;exact RetV.mk ⟨_,HO.out,HR.out⟩ hb
   ·obtain⟨x,b,off,an,cn,ak,ck,hx,rfl,c0,c1,c2,c3,c4,c5,c6,hcn,hck,hrn,hrk⟩:=atNd hc hlt;have Hx:=hd0 hx;have hkl:=(HS.out x (List.mem_of_getElem? hx)).2.2.2
    have i0:(k:Int) < (T.length:Int):=by omega
    clear hx c0 c1 c2 c3 c4 c5 hcn hck hrn;have HA:=hd0 hown;have HB:=hd0 hb;have C6:=hd0 c6;clear hown hb c6;go_wp2
    go_loopw [5] (fun i wr=>∃m:Nat,m≤x.K.length∧i=.int .i64 m∧wr.ownsRow w.heap.size 3 1 (.slice (some ⟨w.heap.size,0,none⟩) T.length T.length) T.length ((cntL T.length (kids (T.take k)++x.K.take m)).flatMap encInt1)∧(∀y∈kids (T.take k)++x.K.take m,inB y 0 ((T.length:Int) - 1)=true)∧Ext w wr) (fun i _=>x.K.length - (intOf i).toNat)
    case atStart =>
     refine⟨0,Nat.zero_le _,rfl,?_,?_,HB.out⟩
     ·rw[List.take_zero,List.append_nil];exact HA.out
     ·rw[List.take_zero,List.append_nil];exact Hpre.out
    case round =>
     clear HA HB;obtain⟨m,hm,rfl,hown,hpre2,hb⟩:=hrel;have Hpre2:=hd0 hpre2;have d6:=cell_ext hb C6.out;clear hpre2
     by_cases hlm:m < x.K.length
     rotate_left
     ·obtain rfl:m=x.K.length:=by omega
      have hni:¬(x.K.length:Int) < (x.K.length:Int):=by omega
      rw[List.take_length,kids_step Hx.out]at hown Hpre2;have HO:=hd0 hown;clear hown;go_wp2;go_roundw
      case rel=>exact⟨k+1,by omega,by go_num,HO.out,Hpre2.out,hb⟩
      case measure=>simp[intOf];omega
     ·obtain⟨y,b2,off2,hy,rfl,e0⟩:=atInt (hrk.ext hb) hlm;have Hy:=hd0 hy
      have j0:(m:Int) < (x.K.length:Int):=by omega
      have s1:IntKind.i64.wrap ((T.length:Int) - 1)=(T.length:Int) - 1:=IntWalk.i64_in _ (by omega);clear hy
      cases hI:inB y 0 ((T.length:Int) - 1)with
      | false =>
       have HI:=hd0 hI;have HR:Hid (LinksR T []):=hd0 (.inr ⟨fun h=>Bool.noConfusion (hI.symm.trans (h.2 y (kids_mem Hx.out (List.mem_of_getElem? Hy.out)))),rfl⟩);have HO:=hd0 (owns_lit0 hb);clear hI hown
       go_wp2_with (go_at_call 68;refine(l1In_is HI.out _).mono ?_;rintro e w' ⟨rfl,rfl⟩)
       go_ret;exact RetV.mk ⟨[],HO.out,HR.out⟩ (hb.alloc _)
      | true =>
       have HI:=hd0 hI;obtain⟨i,rfl,hiM⟩:=in_cast hI;clear hI
       have hkm:i < (cntL T.length (kids (T.take k)++x.K.take m)).length:=by rw[cntL_len];exact hiM
       have g0:wr.cell? ⟨w.heap.size,i,none⟩=some (.int .i64 (cntL T.length (kids (T.take k)++x.K.take m))[i]):=by simpa using owns_at encInt1_len hown i hkm 0 _ rfl
       rw[cntL_at hkm]at g0;have hcl:(kids (T.take k)++x.K.take m).count (i:Int)≤100000000:=Nat.le_trans List.count_le_length (pre_len HS.out Hx.out m h16)
       have Hin:Hid (∀y∈kids (T.take k)++x.K.take (m+1),inB y 0 ((T.length:Int) - 1)=true):=hd0 (fun z hz=>by
        rw[take_next Hy.out]at hz
        rcases List.mem_append.1 hz with hz|hz
        ·exact Hpre2.out z hz
        ·rw[List.mem_singleton.1 hz];exact HI.out)
       have k0:(i:Int) < (T.length:Int):=by omega
       have Hnx:=hd0 (cntL_step (M:=T.length) (P:=kids (T.take k)++x.K.take m) (i:=i));rw[←take_next Hy.out]at Hnx;obtain⟨L,hL⟩:∃L,L=cntL T.length (kids (T.take k)++x.K.take m):=⟨_,rfl⟩;rw[←hL]at hown hkm Hnx;clear hL;generalize (kids (T.take k)++x.K.take m).count (i:Int)=c at *;have Hkm:=hd0 hkm;have Hown:=hd0 hown;clear hkm hown
       go_wp2_with (go_at_call 68;refine(l1In_is HI.out _).mono ?_;rintro e w' ⟨rfl,rfl⟩)
       go_still_tail 22,(by kernel_rfl)
       change wpList _ _ _ _ _ wr.drew
       generalize hw2:wr.drew=w2
       have he2:Ext wr w2:=by rw[←hw2];exact(Ext.refl wr).drew
       have hb2:=hb.trans he2;have hown2:=ownsRow_ext Hown.out he2;have g2:=cell_ext he2 g0;have f0:=hown2.frozenAt;have h3:=owns_put encInt1_len hown2 i ((c:Int)+1) Hkm.out;rw[Hnx.out]at h3;have H3:=hd0 h3;have HE:=hd0 (Ext.setCells (Nat.le_refl _) (encInt1 ((c:Int)+1)) (i*1) hb2);clear hw2 he2 hb hb2 hown2 h3 g0 d6 e0;go_wp2;go_roundw
       case rel=>exact⟨m+1,by omega,by go_num,by simpa [setCells,encInt1]using H3.out,Hin.out,by simpa [setCells,encInt1]using HE.out⟩
       case measure=>simp[intOf];omega
theorem specTreeValid (a:Option Addr) (cap:Nat) (T:List Nd) (w:World) (hl:T.length≤1048576) (hs:∀x∈T,SmN 1048576 x) (hc:RdN w a T) :
  Calls Tryz.prog 64 #[.slice a T.length cap] w (RetB (TreeOk T) w):=by
 have HS:=hd0 hs;clear hs
 cases hM:inB (T.length:Int) 1 16 with
 | false =>
  have HM:=hd0 hM;have HB:Hid (¬TreeOk T):=hd0 (fun h=>Bool.noConfusion (hM.symm.trans (inB_iff.2 (by have:=h.pos;have:=h.max;omega))));clear hM
  go_enter Tryz.func64,Tryz.ntmps64
  go_wp2_with (go_at_call 68;refine(l1In_is HM.out _).mono ?_;rintro e w' ⟨rfl,rfl⟩)
  go_ret;exact RetB.mk false rfl (by simp[HB.out]) (Ext.refl _)
 | true =>
  have HM:=hd0 hM;obtain⟨hM1,hM2⟩:=inB_iff.1 hM;clear hM
  have h1:1≤T.length:=by omega
  have h16:T.length≤16:=by omega
  have z0:(0:Int) < (T.length:Int):=by omega
  obtain⟨r,b,off,rn,cn,rk,ck,hr,hpe,c0,_⟩:=atNd hc (show 0 < T.length by omega);simp only[Nat.zero_mul,Nat.add_zero]at c0
  cases hf:r.fold with
  | false =>
   have HB:Hid (¬TreeOk T):=hd0 (fun h=>Bool.noConfusion (hf.symm.trans (h.root r hr)));rw[hf]at c0;subst hpe;clear hf hr
   go_enter Tryz.func64,Tryz.ntmps64
   go_wp2_with (go_at_call 68;refine(l1In_is HM.out _).mono ?_;rintro e w' ⟨rfl,rfl⟩)
   go_ret;exact RetB.mk false rfl (by simp[HB.out]) (Ext.refl _)
  | true =>
   have HRT:Hid (∀n,T[0]?=some n→n.fold=true):=hd0 (fun n hn=>by rw[hr]at hn;cases hn;exact hf);rw[hf]at c0;subst hpe;clear hf hr
   go_enter Tryz.func64,Tryz.ntmps64
   go_wp2_with (go_at_call 68;refine(l1In_is HM.out _).mono ?_;rintro e w' ⟨rfl,rfl⟩)
   go_loopw [3] (fun i wr=>∃k:Nat,k≤T.length∧i=.int .i64 k∧(∀(j:Nat) n,j < k→T[j]?=some n→NodeOk n T.length∧∀x∈n.K,DownOk T j x)∧Ext w wr) (fun i _=>T.length - (intOf i).toNat)
   case atStart=>exact⟨0,Nat.zero_le _,rfl,fun _ _ h=>absurd h (Nat.not_lt_zero _),Ext.refl _⟩
   case round =>
    clear c0;obtain⟨k,hk,rfl,hpre,hb⟩:=hrel;have Hpre:=hd0 hpre;clear hpre
    by_cases hlt:k < T.length
    ·obtain⟨x,b',off',an,cn,ak,ck,hx,hpe,c0,c1,c2,c3,c4,c5,c6,hcn,hck,hrn,hrk⟩:=atNd hc hlt
     obtain⟨rfl,rfl⟩:b=b'∧off=off':=by simpa using hpe
     have Hx:=hd0 hx;have hsx:=hd0 (HS.out x (List.mem_of_getElem? hx))
     have i0:(k:Int) < (T.length:Int):=by omega
     have C6:=hd0 c6;have d0:=cell_ext hb c0;have d1:=cell_ext hb c1;have d2:=cell_ext hb c2;have d3:=cell_ext hb c3;have d4:=cell_ext hb c4;have d5:=cell_ext hb c5;have d6:=cell_ext hb c6;clear hx c0 c1 c2 c3 c4 c5 c6 hcn hck hpe
     go_wp2_with fail
     refine(specNode x an ak cn ck T.length wr hl hsx.out (hrn.ext hb) (hrk.ext hb)).mono ?_;rintro e w2 ⟨v,rfl,hv,hE⟩;have Hv:=hd0 hv;have hb2:=hb.trans hE;clear hv d0 d1 d2 d3 d4 d5 d6 hE hb hrn
     cases v with
     | false =>
      have HB:Hid (¬TreeOk T):=hd0 (fun h=>Bool.noConfusion (Hv.out.2 (h.nodes k x Hx.out)));go_wp2;go_ret;exact RetB.mk false rfl (by simp[HB.out]) hb2
     | true =>
      have HN:=hd0 (Hv.out.1 rfl);have HB2:=hd0 hb2;clear Hv hb2;have hkl:=hsx.out.2.2.2;go_wp2
      go_loopw [4] (fun i wr=>∃m:Nat,m≤x.K.length∧i=.int .i64 m∧(∀(j:Nat) y,j < m→x.K[j]?=some y→DownOk T k y)∧Ext w wr) (fun i _=>x.K.length - (intOf i).toNat)
      case atStart=>exact⟨0,Nat.zero_le _,rfl,fun _ _ h=>absurd h (Nat.not_lt_zero _),HB2.out⟩
      case round =>
       clear HB2;obtain⟨m,hm,rfl,hpre2,hb⟩:=hrel;have Hpre2:=hd0 hpre2;have d6:=cell_ext hb C6.out;clear hpre2
       by_cases hlm:m < x.K.length
       rotate_left
       ·obtain rfl:m=x.K.length:=by omega
        have hni:¬(x.K.length:Int) < (x.K.length:Int):=by omega
        have Hnext:=hd0 (all_next (Q:=fun j n=>NodeOk n T.length∧∀x∈n.K,DownOk T j x) Hpre.out Hx.out ⟨HN.out,all_mem Hpre2.out⟩);go_wp2;go_roundw
        case rel=>exact⟨k+1,by omega,by go_num,Hnext.out,hb⟩
        case measure=>simp[intOf];omega
       ·obtain⟨y,b2,off2,hy,rfl,e0⟩:=atInt (hrk.ext hb) hlm;have Hy:=hd0 hy
        have j0:(m:Int) < (x.K.length:Int):=by omega
        obtain⟨i,rfl,hiM⟩:=in_cast1 (nodeOk_kid HN.out (List.mem_of_getElem? hy))
        have k0:(i:Int) < (T.length:Int):=by omega
        obtain⟨z,b',off',an',cn',ak',ck',hz,hpe,f0,_⟩:=atNd (hc.ext hb) hiM
        obtain⟨rfl,rfl⟩:b=b'∧off=off':=by simpa using hpe
        have Hz:=hd0 hz;clear hy hz hpe
        cases hzf:z.fold with
        | false =>
         have Hnext:=hd0 (all_next (Q:=fun _ y=>DownOk T k y) Hpre2.out Hy.out (down_file Hz.out hzf));rw[hzf]at f0;clear hzf;go_wp2;go_roundw
         case rel=>exact⟨m+1,by omega,by go_num,Hnext.out,hb⟩
         case measure=>simp[intOf];omega
        | true =>
         by_cases hik:i≤k
         ·have HB:Hid (¬TreeOk T):=hd0 (fun h=>down_bad Hz.out hzf hik (h.down k x Hx.out _ (List.mem_of_getElem? Hy.out)))
          have t1:(i:Int)≤(k:Int):=by omega
          rw[hzf]at f0;clear hzf;go_wp2;go_ret;exact RetB.mk false rfl (by simp[HB.out]) hb
         ·have Hnext:=hd0 (all_next (Q:=fun _ y=>DownOk T k y) Hpre2.out Hy.out (down_good (T:=T) (show k < i by omega)))
          have t1:¬(i:Int)≤(k:Int):=by omega
          rw[hzf]at f0;clear hzf;go_wp2;go_roundw
          case rel=>exact⟨m+1,by omega,by go_num,Hnext.out,hb⟩
          case measure=>simp[intOf];omega
    ·obtain rfl:k=T.length:=by omega
     have hni:¬(T.length:Int) < (T.length:Int):=by omega
     have HLK:=hd0 (linkOk_of h16 (fun k n hn=>(Hpre.out k n (List.getElem?_eq_some_iff.1 hn).1 hn).1))
     go_wp2_with fail
     refine(specLinksOf (some ⟨b,off,none⟩) cap T wr hl HS.out (hc.ext hb)).mono ?_;rintro e w2 ⟨v,rfl,⟨L,ho,hR⟩,hE⟩
     obtain rfl:L=cntL T.length (kids T):=by
      rcases hR with⟨_,h⟩|⟨h,_⟩
      ·exact h
      ·exact absurd HLK.out h
     obtain⟨al,cl,hv,_,hrl,_⟩:=view_owns encInt1_len ho;rw[cntL_len]at hv;subst hv;have HB2:=hd0 (hb.trans hE);have HRL:=hd0 hrl;clear hR ho hrl hb hE hni;go_wp2
     go_loopw [6] (fun i wr=>∃k:Nat,1≤k∧k≤T.length∧i=.int .i64 k∧(∀(j:Nat) n,j < k→T[j]?=some n→0 < j→LkOk T j n)∧Ext w2 wr) (fun i _=>T.length - (intOf i).toNat)
     case atStart=>exact⟨1,Nat.le_refl _,h1,rfl,fun j n h _ h0=>by omega,Ext.refl _⟩
     case round =>
      obtain⟨k,hk1,hk,rfl,hpre2,hb3⟩:=hrel;have Hpre2:=hd0 hpre2;have hb:=HB2.out.trans hb3;clear hpre2
      by_cases hlt:k < T.length
      rotate_left
      ·obtain rfl:k=T.length:=by omega
       have hni:¬(T.length:Int) < (T.length:Int):=by omega
       have HO:=hd0 (tree_spec h1 h16 HRT.out Hpre.out Hpre2.out);go_wp2;go_ret;exact RetB.mk true rfl (by simp[HO.out]) hb
      ·obtain⟨x,b',off',an,cn,ak,ck,hx,hpe,c0,_⟩:=atNd (hc.ext hb) hlt
       obtain⟨rfl,rfl⟩:b=b'∧off=off':=by simpa using hpe
       obtain⟨y,b2,off2,hy,rfl,e0⟩:=atInt (HRL.out.ext hb3) (show k < (cntL T.length (kids T)).length by rw[cntL_len];exact hlt);rw[cntL_get hlt]at hy;obtain rfl:=Option.some.inj hy;have Hx:=hd0 hx
       have i0:(k:Int) < (T.length:Int):=by omega
       have HQ:=hd0 (show LkOk T k x↔1≤(kids T).count (k:Int)∧(x.fold=true→(kids T).count (k:Int)≤1)from Iff.rfl);have HBL:Hid (¬LkOk T k x→¬TreeOk T):=hd0 (fun h ht=>h (ht.links k x hx (by omega)));have HNX:Hid (LkOk T k x→∀(j:Nat) n,j < k+1→T[j]?=some n→0 < j→LkOk T j n):=hd0 (fun h=>all_next (Q:=fun j n=>0 < j→LkOk T j n) Hpre2.out hx (fun _=>h));generalize (kids T).count (k:Int)=c at *;clear hx hy hpe
       by_cases hc0:c < 1
       ·have HB:=hd0 (HBL.out (fun h=>by have:=(HQ.out.1 h).1;omega))
        have t1:(c:Int) < 1:=by omega
        clear hc0;go_wp2;go_ret;exact RetB.mk false rfl (by simp[HB.out]) hb
       ·have t1:¬(c:Int) < 1:=by omega
        cases hxf:x.fold with
        | false =>
         have HN:=hd0 (HNX.out (HQ.out.2 ⟨by omega,fun h=>Bool.noConfusion (hxf.symm.trans h)⟩));rw[hxf]at c0;clear hxf hc0;go_wp2;go_roundw
         case rel=>exact⟨k+1,by omega,by omega,by go_num,HN.out,hb3⟩
         case measure=>simp[intOf];omega
        | true =>
         by_cases hc1:1 < c
         ·have HB:=hd0 (HBL.out (fun h=>by have:=(HQ.out.1 h).2 hxf;omega))
          have t2:(1:Int) < (c:Int):=by omega
          rw[hxf]at c0;clear hxf hc0 hc1;go_wp2;go_ret;exact RetB.mk false rfl (by simp[HB.out]) hb
         ·have HN:=hd0 (HNX.out (HQ.out.2 ⟨by omega,fun _=>by omega⟩))
          have t2:¬(1:Int) < (c:Int):=by omega
          rw[hxf]at c0;clear hxf hc0 hc1;go_wp2;go_roundw
          case rel=>exact⟨k+1,by omega,by omega,by go_num,HN.out,hb3⟩
          case measure=>simp[intOf];omega
noncomputable def abOf (s:ByteArray):ByteArray:=match aboveOf s with
 | none=>⟨#[]⟩
 | some (a,_)=>a
theorem above_no {s:ByteArray} (h:PartsR s [] false):abOf s=⟨#[]⟩∧lastOf s=⟨#[]⟩∧(aboveOf s).isSome=false:=by
 have h1:=partsR_of h
 have h2:aboveOf s=none:=by rw[aboveOf,h1];rfl
 rw[abOf,lastOf,h2];exact⟨rfl,rfl,rfl⟩
theorem above_nil {s:ByteArray} (h:PartsR s [] true):abOf s=⟨#[]⟩∧lastOf s=⟨#[]⟩∧(aboveOf s).isSome=false:=by
 have h1:=partsR_of h
 have h2:aboveOf s=none:=by rw[aboveOf,h1];rfl
 rw[abOf,lastOf,h2];exact⟨rfl,rfl,rfl⟩
theorem above_some {s:ByteArray} {P:List ByteArray} {m:Nat} {l:ByteArray} (h:PartsR s P true) (hm:P.length=m+1) (hl:P[m]?=some l):abOf s=joinPath (P.take m)∧lastOf s=l∧(aboveOf s).isSome=true:=by
 have h1:=partsR_of h
 have h3:P.getLast?=some l:=by rw[List.getLast?_eq_getElem?,hm];exact hl
 have h4:P.dropLast=P.take m:=by rw[List.dropLast_eq_take,hm];rfl
 have h2:aboveOf s=some (joinPath (P.take m),l):=by rw[aboveOf,h1,if_pos rfl];dsimp only;rw[h3,h4]
 rw[abOf,lastOf,h2];exact⟨rfl,rfl,rfl⟩
theorem parts_len {s:ByteArray} {P:List ByteArray} {ok:Bool} (h:PartsR s P ok):P.length≤6∧∀p∈P,p.size≤8:=by
 rcases h with⟨_,h1,_⟩|⟨_,rfl,_⟩
 ·exact⟨h1.2,fun p hp=>(h1.1 p hp).2.2⟩
 ·exact⟨Nat.zero_le _,fun p hp=>by cases hp⟩
theorem parts_false {s:ByteArray} {P:List ByteArray} (h:PartsR s P false):P=[]:=by
 rcases h with⟨h1,_⟩|⟨_,h1,_⟩
 ·cases h1
 ·exact h1
theorem Calls.at_v {P:Program} {f:FuncId} {args:Array Value} {w:World} {s:ExtW w} {v:Value} (h:Calls P f args s.x (RetV (fun v' _=>v'=v) s.x)):Calls P f args s.x fun e w''=>e=.returned v∧∃s':ExtW w,w''=s'.x :=
 h.mono fun e w2 ⟨v',he,hb,hE⟩=>by
  subst hb;exact⟨he,⟨w2,s.h.trans hE⟩,rfl⟩
theorem Calls.at_e {P:Program} {f:FuncId} {args:Array Value} {w:World} {s:ExtW w} {v:Value} (h:Calls P f args s.x (fun e w'=>e=.returned v∧Ext s.x w')):Calls P f args s.x fun e w''=>e=.returned v∧∃s':ExtW w,w''=s'.x :=
 h.mono fun e w2 ⟨he,hE⟩=>⟨he,⟨w2,s.h.trans hE⟩,rfl⟩
theorem specAboveOf (s:ByteArray) (w:World) (hs:s.size≤1048576) :
  Calls Tryz.prog 67 #[.string s] w fun e w'=>e=.returned (.tuple #[.string (abOf s),.string (lastOf s),.bool (aboveOf s).isSome])∧Ext w w':=by
 go_enter Tryz.func67,Tryz.ntmps67
 go_wp2_with fail
 refine(specPathParts s w hs).mono ?_;rintro e w1 ⟨u,P,ok,rfl,hR,S⟩;have HR:=hd0 hR;obtain⟨hP6,hP8⟩:=parts_len hR
 cases ok with
 | false =>
  obtain rfl:=parts_false hR;obtain⟨e1,e2,e3⟩:=above_no hR;have HE:=hd0 (And.intro e1 (And.intro e2 e3));clear hR e1 e2 e3;go_wp2
  try simp only[Exit.inBlock,Exit.then]
  refine bodyPost_ret (v:=.tuple #[.string ⟨#[]⟩,.string ⟨#[]⟩,.bool false]) (by simp[results,Tryz.results67,go_sem]) rfl ?_;exact⟨by rw[HE.out.1,HE.out.2.1,HE.out.2.2],S.ext⟩
 | true =>
  have hrow:=S.row 0 rfl;obtain⟨a,c,rfl,hPc,hrd,_⟩:=view_owns encStr1_len hrow;clear hrow
  by_cases hP:P=[]
  ·subst hP;obtain⟨e1,e2,e3⟩:=above_nil hR;have HE:=hd0 (And.intro e1 (And.intro e2 e3));clear hR e1 e2 e3;go_wp2
   try simp only[Exit.inBlock,Exit.then]
   refine bodyPost_ret (v:=.tuple #[.string ⟨#[]⟩,.string ⟨#[]⟩,.bool false]) (by simp[results,Tryz.results67,go_sem]) rfl ?_;exact⟨by rw[HE.out.1,HE.out.2.1,HE.out.2.2],S.ext⟩
  ·obtain⟨m,hm⟩:∃m,P.length=m+1:=⟨P.length - 1,by have:=List.length_pos_iff.2 hP;omega⟩;obtain⟨l,b,off,hl,rfl,c0⟩:=atStr hrd (show m < P.length by omega);obtain⟨e1,e2,e3⟩:=above_some hR hm hl;have HE:=hd0 (And.intro e1 (And.intro e2 e3))
   have hwm:IntKind.i64.wrap ((P.length:Int) - 1)=(m:Int):=by rw[show(P.length:Int) - 1=m by omega];exact IntWalk.i64_in _ (by omega)
   have t0:((P.length:Int) == 0)=false:=by simp;omega
   have hmi:(m:Int) < (P.length:Int):=by omega
   have hmc:(m:Int)≤(c:Int):=by omega
   have hml:(P.take m).length=m:=by rw[List.length_take];omega
   have Hml:=hd0 hml;have hrt:=hrd.take m;have Hrt:=hd0 hrt;have HX:=hd0 S.ext;clear hR e1 e2 e3 hl hm hml hrt hrd S hP;have HP8:=hd0 hP8;clear hP8
   go_wp2_with fail
   have q0:=ExtW.cell c0;have bl:=ExtW.lt c0
   have HJ:Hid (∀s:ExtW w1,Calls Tryz.prog 107 #[.slice (some ⟨b,off,none⟩) m c] s.x fun e w''=>e=.returned (.string (joinPath (P.take m)))∧∃s':ExtW w1,w''=s'.x):=hd0 (fun s=>by
    have hC:=specJoinPath (some ⟨b,off,none⟩) c (P.take m) s.x (by have:=Hml.out;omega) (fun x hx=>by have:=HP8.out x (List.mem_of_mem_take hx);omega) (Hrt.out.ext s.h);rw[Hml.out]at hC
    exact Calls.at_v hC)
   clear c0
   (refine wp_region_quiet_ext (by kernel_rfl) (by kernel_rfl) ?_;(repeat (go_big_quiet_step ((go_at_call 107;exact HJ.out _))));refine wpQuiet_nil ?_;intro _ hw';obtain⟨sq,hw''⟩:=hw';subst hw'')
   obtain⟨w3,hw3⟩:=sq;go_wp2
   try simp only[Exit.inBlock,Exit.then]
   refine bodyPost_ret (v:=.tuple #[.string (joinPath (P.take m)),.string l,.bool true]) (by simp[results,Tryz.results67,go_sem]) rfl ?_;exact⟨by rw[HE.out.1,HE.out.2.1,HE.out.2.2],HX.out.trans hw3⟩
section
variable {T:List Nd} {c:Cr} {P:List ByteArray} {p:ByteArray} {m k:Nat} {x:Nd}
theorem ff_drop (h:P[k]?=some p) (i:Int):findFrom T c (P.drop k) i=findFrom T c (p :: P.drop (k+1)) i:=by
 obtain⟨h1,h2⟩:=List.getElem?_eq_some_iff.1 h;rw[List.drop_eq_getElem_cons h1,h2]
theorem ff_file (hx:T[m]?=some x) (hf:x.fold=false):findFrom T c (p :: P) (m:Int)=(-1,4):=by
 rw[findFrom,Int.toNat_natCast,hx];dsimp only;rw[if_pos hf]
theorem ff_may (hx:T[m]?=some x) (hf:x.fold=true) (hm:c.may x 1=false):findFrom T c (p :: P) (m:Int)=(-1,3):=by
 rw[findFrom,Int.toNat_natCast,hx];dsimp only;rw[if_neg (by simp[hf]),if_pos hm]
theorem ff_miss (hx:T[m]?=some x) (hf:x.fold=true) (hm:c.may x 1=true) (hk:kidOf x.N x.K p < 0):findFrom T c (p :: P) (m:Int)=(-1,2):=by
 rw[findFrom,Int.toNat_natCast,hx];dsimp only;rw[if_neg (by simp[hf]),if_neg (by simp[hm]),if_pos hk]
theorem ff_next (hx:T[m]?=some x) (hf:x.fold=true) (hm:c.may x 1=true) (hk:¬kidOf x.N x.K p < 0):findFrom T c (p :: P) (m:Int)=findFrom T c P (kidOf x.N x.K p):=by
 rw[findFrom,Int.toNat_natCast,hx];dsimp only;rw[if_neg (by simp[hf]),if_neg (by simp[hm]),if_neg hk]
theorem find_no {s:ByteArray} (h:PartsR s P false):findNode T c s=(-1,1):=by rw[findNode,partsR_of h];rfl
theorem find_bad {s:ByteArray} (h:PartsR s P true) (hT:¬(TreeOk T∧c.ok)):findNode T c s=(-1,1):=by
 rw[findNode,partsR_of h,if_pos rfl];dsimp only;rw[if_neg hT]
theorem find_go {s:ByteArray} (h:PartsR s P true) (hT:TreeOk T∧c.ok):findNode T c s=findFrom T c P 0:=by
 rw[findNode,partsR_of h,if_pos rfl];dsimp only;rw[if_pos hT]
end
theorem specFindNode (a:Option Addr) (cap:Nat) (T:List Nd) (c:Cr) (s:ByteArray) (w:World) (hs:s.size≤1048576) (hl:T.length≤1048576) (hT:∀x∈T,SmN 1048576 x) (hc:RdN w a T) :
  Calls Tryz.prog 71 #[.slice a T.length cap,.agg #[.int .i64 c.r,.int .i64 c.a,.int .i64 c.s,.int .i64 c.g],.string s] w fun e w'=>e=.returned (.tuple #[.int .i64 (findNode T c s).1,.int .i64 (findNode T c s).2])∧Ext w w':=by
 obtain⟨cr,ca,cs,cg⟩:=c;have HT:=hd0 hT;clear hT;dsimp only
 go_enter Tryz.func71,Tryz.ntmps71
 have S:=Sep.start w;replace S:=S.alloc_at (n:=w.heap.size) (by simp) #[.int .i64 cr,.int .i64 ca,.int .i64 cs,.int .i64 cg] 29
 go_wp2_with fail
 generalize (w.alloc (.cells #[.int .i64 cr,.int .i64 ca,.int .i64 cs,.int .i64 cg] 29))=w1 at *;refine(specPathParts s w1 hs).mono ?_;rintro e w2 ⟨u,P,ok,rfl,hR,S2⟩;replace S:Sep w w2 [plRow 9 1 encStr1 u P,plBox w.heap.size #[.int .i64 cr,.int .i64 ca,.int .i64 cs,.int .i64 cg] 29]:=S.call S2;clear S2;have HR:=hd0 hR;obtain⟨hP6,hP8⟩:=parts_len hR;clear hP8 hR
 cases ok with
 | false =>
  have HE:=hd0 (find_no (T:=T) (c:=⟨cr,ca,cs,cg⟩) HR.out);go_wp2;go_ret2;exact⟨by rw[HE.out];rfl,S.ext⟩
 | true =>
  go_wp2_with fail
  refine(specTreeValid a cap T w2 hl HT.out (hc.ext S.ext)).mono ?_;rintro e w3 ⟨v,rfl,hv,hE⟩;have Hv:=hd0 hv;clear hv;replace S:=S.step hE;clear hE
  cases v with
  | false =>
   have HE:=hd0 (find_bad (T:=T) (c:=⟨cr,ca,cs,cg⟩) HR.out (fun h=>Bool.noConfusion (Hv.out.2 h.1)));go_wp2;go_ret2;exact⟨by rw[HE.out];rfl,S.ext⟩
  | true =>
   have HTr:=hd0 (Hv.out.1 rfl);clear Hv;obtain⟨⟨bc0,bf0⟩,⟨bc1,bf1⟩,⟨bc2,bf2⟩,⟨bc3,bf3⟩⟩:=bx4 (S.box 1 rfl)
   go_wp2_with fail
   refine(specCredValid cr ca cs cg w3).mono ?_;rintro e w4 ⟨v,rfl,hv,hE⟩;have Hv:=hd0 hv;clear hv;clear bc0 bf0 bc1 bf1 bc2 bf2 bc3 bf3;replace S:=S.step hE;clear hE
   cases v with
   | false =>
    have HE:=hd0 (find_bad (T:=T) (c:=⟨cr,ca,cs,cg⟩) HR.out (fun h=>Bool.noConfusion (Hv.out.2 h.2)));go_wp2;go_ret2;exact⟨by rw[HE.out];rfl,S.ext⟩
   | true =>
    have HE:=hd0 (find_go (T:=T) (c:=⟨cr,ca,cs,cg⟩) HR.out ⟨HTr.out,Hv.out.1 rfl⟩);clear Hv HR;have hrow:=S.row 0 rfl;obtain⟨pa,pc,rfl,hPc,_,_⟩:=view_owns encStr1_len hrow;clear hrow;have hpos:=HTr.out.pos;go_wp2
    go_loopw [10,11,35,42] (fun at_ i _ _ wr=>∃k m:Nat,k≤P.length∧m < T.length∧at_=.int .i64 m∧i=.int .i64 k∧findFrom T ⟨cr,ca,cs,cg⟩ P 0=findFrom T ⟨cr,ca,cs,cg⟩ (P.drop k) (m:Int)∧Sep w wr [plRow 9 1 encStr1 (.slice pa P.length pc) P,plBox w.heap.size #[.int .i64 cr,.int .i64 ca,.int .i64 cs,.int .i64 cg] 29]) (fun _ i _ _ _=>P.length - (intOf i).toNat)
    case atStart=>exact⟨0,0,Nat.zero_le _,by omega,rfl,rfl,by rw[List.drop_zero];rfl,S⟩
    case round =>
     clear S;obtain⟨k,m,hk,hm,rfl,rfl,hpre,S⟩:=hrel;have Hpre:=hd0 hpre;clear hpre
     by_cases hlt:k < P.length
     rotate_left
     ·obtain rfl:k=P.length:=by omega
      have hni:¬(P.length:Int) < (P.length:Int):=by omega
      have HX:=hd0 (HE.out.trans (Hpre.out.trans (by rw[List.drop_length];rfl:_=((m:Int),(0:Int)))));go_wp2;go_ret2;exact⟨by rw[HX.out];rfl,S.ext⟩
     ·obtain⟨x,b',off,an,cn,ak,ck,hx,rfl,c0,c1,c2,c3,c4,c5,c6,hcn,hck,hrn,hrk⟩:=atNd hc hm;have hrP:Rd 1 encStr1 wr pa P:=S.rd 0 encStr1_len rfl rfl;obtain⟨p,b2,off2,hp,rfl,e0⟩:=atStr hrP hlt;have Hx:=hd0 hx;have hN:=HTr.out.nodes m x hx;have HNl:=hd0 hN.len;have hsx:=HT.out x (List.mem_of_getElem? hx);have hNl:x.N.length≤1048576:=hsx.2.1;have Hd:=hd0 (HE.out.trans (Hpre.out.trans (ff_drop hp (m:Int))))
      have i0:(k:Int) < (P.length:Int):=by omega
      have i1:(m:Int) < (T.length:Int):=by omega
      have hE:=S.ext;have d0:=cell_ext hE c0;have d1:=cell_ext hE c1;have d2:=cell_ext hE c2;have d3:=cell_ext hE c3;have d4:=cell_ext hE c4;have d5:=cell_ext hE c5;have d6:=cell_ext hE c6;have Hrn:=hd0 (hrn.ext hE);have Hrk:=hd0 (hrk.ext hE);clear hx hp hN hsx c0 c1 c2 c3 c4 c5 c6 hcn hck hrn hrk hrP hE
      cases hf:x.fold with
      | false =>
       have HX:=hd0 (Hd.out.trans (ff_file Hx.out hf));rw[hf]at d0;clear hf;go_wp2;go_ret2;exact⟨by rw[HX.out];rfl,S.ext⟩
      | true =>
       have Hf:=hd0 hf;obtain⟨⟨bc0,bf0⟩,⟨bc1,bf1⟩,⟨bc2,bf2⟩,⟨bc3,bf3⟩⟩:=bx4 (S.box 1 rfl)
       have HM:Hid (∀s:ExtW wr,Calls Tryz.prog 74 #[.agg #[.int .i64 cr,.int .i64 ca,.int .i64 cs,.int .i64 cg],.agg #[.bool true,.int .i64 x.own,.int .i64 x.grp,.int .i64 x.mode,.string x.text,.slice an x.N.length cn,.slice ak x.K.length ck],.int .i64 1] s.x fun e w''=>e=.returned (.bool (Cr.may ⟨cr,ca,cs,cg⟩ x 1))∧∃s':ExtW wr,w''=s'.x):=hd0 (fun s=>by
        have hC:=specMay cr ca cs cg 1 x an ak cn ck s.x;rw[hf]at hC
        exact Calls.at_e hC)
       rw[hf]at d0;clear hf
       go_wp2_with fail
       have q0:=ExtW.cell d0;have q1:=ExtW.cell d1;have q2:=ExtW.cell d2;have q3:=ExtW.cell d3;have q4:=ExtW.cell d4;have q5:=ExtW.cell d5;have q6:=ExtW.cell d6;have bl:=ExtW.lt d0;have r0:=ExtW.cell bc0;have r1:=ExtW.cell bc1;have r2:=ExtW.cell bc2;have r3:=ExtW.cell bc3;have br:=ExtW.lt bc0
       have ax0:∀(hM0:Cr.may ⟨cr,ca,cs,cg⟩ x 1=true),True:=fun _=>trivial
       clear ax0;have S9:=hd0 S;clear d0 d1 d2 d3 d4 d5 d6 bc0 bc1 bc2 bc3 bf0 bf1 bf2 bf3 S
       cases hmay:Cr.may ⟨cr,ca,cs,cg⟩ x 1 with
       | false =>
        have HX:=hd0 (Hd.out.trans (ff_may Hx.out Hf.out hmay));rw[hmay]at HM;clear hmay
        (refine wp_region_quiet_ext (by kernel_rfl) (by kernel_rfl) ?_;(repeat (go_big_quiet_step ((go_at_call 74;exact HM.out _))));refine wpQuiet_nil ?_;intro _ hw';obtain⟨sq,hw''⟩:=hw';subst hw'')
        obtain⟨w5,hw5⟩:=sq;go_wp2;go_ret2;exact⟨by rw[HX.out];rfl,S9.out.ext.trans hw5⟩
       | true =>
        have Hmay:=hd0 hmay;rw[hmay]at HM;clear hmay
        (refine wp_region_quiet_ext (by kernel_rfl) (by kernel_rfl) ?_;(repeat (go_big_quiet_step ((go_at_call 74;exact HM.out _))));refine wpQuiet_nil ?_;intro _ hw';obtain⟨sq,hw''⟩:=hw';subst hw'')
        obtain⟨w5,hw5⟩:=sq;have S10:=S9.out.step hw5;have p0:=q0 ⟨w5,hw5⟩;have p1:=q1 ⟨w5,hw5⟩;have p2:=q2 ⟨w5,hw5⟩;have p3:=q3 ⟨w5,hw5⟩;have p4:=q4 ⟨w5,hw5⟩;have p5:=q5 ⟨w5,hw5⟩;have p6:=q6 ⟨w5,hw5⟩;have pe:=cell_ext hw5 e0
        have HK:Hid (∀s:ExtW w5,Calls Tryz.prog 76 #[.agg #[.bool true,.int .i64 x.own,.int .i64 x.grp,.int .i64 x.mode,.string x.text,.slice an x.N.length cn,.slice ak x.K.length ck],.string p] s.x fun e w''=>e=.returned (.int .i64 (kidOf x.N x.K p))∧∃s':ExtW w5,w''=s'.x):=hd0 (fun s=>by
         have hC:=specKid x an ak cn ck p s.x hNl HNl.out (Hrn.out.ext (hw5.trans s.h)) (Hrk.out.ext (hw5.trans s.h));rw[Hf.out]at hC
         exact Calls.at_e hC)
        have HS10:=hd0 S10;clear q0 q1 q2 q3 q4 q5 q6 bl r0 r1 r2 r3 br S9 S10 e0 HM
        go_wp2_with fail
        have q0:=ExtW.cell p0;have q1:=ExtW.cell p1;have q2:=ExtW.cell p2;have q3:=ExtW.cell p3;have q4:=ExtW.cell p4;have q5:=ExtW.cell p5;have q6:=ExtW.cell p6;have qe:=ExtW.cell pe;have bl:=ExtW.lt p0;have be:=ExtW.lt pe;clear p0 p1 p2 p3 p4 p5 p6 pe
        by_cases hkid:kidOf x.N x.K p < 0
        ·have HX:=hd0 (Hd.out.trans (ff_miss Hx.out Hf.out Hmay.out hkid))
         (refine wp_region_quiet_ext (by kernel_rfl) (by kernel_rfl) ?_;(repeat (go_big_quiet_step ((go_at_call 76;exact HK.out _))));refine wpQuiet_nil ?_;intro _ hw';obtain⟨sq,hw''⟩:=hw';subst hw'')
         obtain⟨w6,hw6⟩:=sq;clear q0 q1 q2 q3 q4 q5 q6 qe bl be;go_wp2;go_ret2;exact⟨by rw[HX.out];rfl,HS10.out.ext.trans hw6⟩
        ·have hin:=kidOf_in HTr.out Hx.out (p:=p) (by omega);have HX:=hd0 (Hd.out.trans (ff_next Hx.out Hf.out Hmay.out hkid));obtain⟨j,hj⟩:∃j:Nat,kidOf x.N x.K p=(j:Int):=⟨(kidOf x.N x.K p).toNat,by omega⟩;rw[hj]at HK HX hin;clear hj hkid
         (refine wp_region_quiet_ext (by kernel_rfl) (by kernel_rfl) ?_;(repeat (go_big_quiet_step ((go_at_call 76;exact HK.out _))));refine wpQuiet_nil ?_;intro _ hw';obtain⟨sq,hw''⟩:=hw';subst hw'')
         obtain⟨w6,hw6⟩:=sq;clear q0 q1 q2 q3 q4 q5 q6 qe bl be;go_wp2;go_roundw
         case rel=>exact⟨k+1,j,by omega,by omega,rfl,by go_num,HE.out.symm.trans HX.out,HS10.out.step hw6⟩
         case measure=>simp[intOf];omega
theorem abOf_size (s:ByteArray):(abOf s).size≤54:=by
 rw[abOf]
 split
 ·exact Nat.zero_le _
 ·rename_i a n h;rw[aboveOf]at h
  split at h
  ·cases h
  ·split at h
   ·cases h
   ·cases h;exact joinPath_size _
section
variable {T:List Nd} {c:Cr} {s:ByteArray} {m:Nat} {x:Nd}
theorem pf_no (h:(aboveOf s).isSome=false):placeFor T c s=(-1,1):=by
 have:aboveOf s=none:=by simpa using h
 rw[placeFor,this]
theorem pf_some (h:(aboveOf s).isSome=true):placeFor T c s=if (findNode T c (abOf s)).2≠0 then(-1,(findNode T c (abOf s)).2)else match T[(findNode T c (abOf s)).1.toNat]? with
  | none=>(-1,1)
  | some x=>if x.fold=false then(-1,4)else if c.may x 3=false then(-1,3)else if 0≤kidOf x.N x.K (lastOf s)then(-1,5)else((findNode T c (abOf s)).1,0):=by
 obtain⟨⟨a,n⟩,h'⟩:=Option.isSome_iff_exists.1 h
 rw[placeFor,abOf,lastOf,h']<;>rfl
theorem pf_fault (h:(aboveOf s).isSome=true) (hf:(findNode T c (abOf s)).2≠0):placeFor T c s=(-1,(findNode T c (abOf s)).2):=by rw[pf_some h,if_pos hf]
theorem pf_at (h:(aboveOf s).isSome=true) (hF:findNode T c (abOf s)=((m:Int),0)) (hx:T[m]?=some x):placeFor T c s=if x.fold=false then(-1,4)else if c.may x 3=false then(-1,3)else if 0≤kidOf x.N x.K (lastOf s)then(-1,5)else((m:Int),0):=by
 rw[pf_some h,hF,if_neg (by simp)];dsimp only;rw[Int.toNat_natCast,hx]
theorem find_cases (T:List Nd) (c:Cr) (s:ByteArray):(∃m:Nat,findNode T c s=((m:Int),0)∧m < T.length∧TreeOk T∧c.ok)∨∃f:Int,f≠0∧findNode T c s=(-1,f):=by
 have h:=findNode_in T c s;generalize findNode T c s=F at *;obtain⟨n,f⟩:=F
 rcases h with⟨h1,h2,h3,h4,h5⟩|⟨h1,h2⟩
 ·refine .inl ⟨n.toNat,?_,?_,h4,h5⟩
  ·dsimp only at h1 h2;rw[h1,show((n.toNat:Nat):Int)=n by omega]
  ·dsimp only at h2 h3;omega
 ·dsimp only at h1 h2;exact .inr ⟨f,h1,by rw[h2]⟩
end
theorem specPlaceFor (a:Option Addr) (cap:Nat) (T:List Nd) (c:Cr) (s:ByteArray) (w:World) (hs:s.size≤1048576) (hl:T.length≤1048576) (hT:∀x∈T,SmN 1048576 x) (hc:RdN w a T) :
  Calls Tryz.prog 66 #[.slice a T.length cap,.agg #[.int .i64 c.r,.int .i64 c.a,.int .i64 c.s,.int .i64 c.g],.string s] w fun e w'=>e=.returned (.tuple #[.int .i64 (placeFor T c s).1,.int .i64 (placeFor T c s).2])∧Ext w w':=by
 obtain⟨cr,ca,cs,cg⟩:=c;have HT:=hd0 hT;clear hT;dsimp only
 go_enter Tryz.func66,Tryz.ntmps66
 have S:=Sep.start w;replace S:=S.alloc_at (n:=w.heap.size) (by simp) #[.int .i64 cr,.int .i64 ca,.int .i64 cs,.int .i64 cg] 29
 go_wp2_with fail
 generalize (w.alloc (.cells #[.int .i64 cr,.int .i64 ca,.int .i64 cs,.int .i64 cg] 29))=w1 at *;refine(specAboveOf s w1 hs).mono ?_;rintro e w2 ⟨rfl,hE⟩;replace S:=S.step hE;clear hE;obtain⟨⟨bc0,bf0⟩,⟨bc1,bf1⟩,⟨bc2,bf2⟩,⟨bc3,bf3⟩⟩:=bx4 (S.box 0 rfl);have hab:=abOf_size s
 go_wp2_with fail
 refine(specFindNode a cap T ⟨cr,ca,cs,cg⟩ (abOf s) w2 (by omega) hl HT.out (hc.ext S.ext)).mono ?_;rintro e w3 ⟨rfl,hE⟩;clear bc0 bf0 bc1 bf1 bc2 bf2 bc3 bf3;replace S:=S.step hE;clear hE
 cases hso:(aboveOf s).isSome with
 | false =>
  have HX:=hd0 (pf_no (T:=T) (c:=⟨cr,ca,cs,cg⟩) hso);clear hso;go_wp2;go_ret2;exact⟨by rw[HX.out];rfl,S.ext⟩
 | true =>
  rcases find_cases T ⟨cr,ca,cs,cg⟩ (abOf s)with⟨m,hF,hm,hTr,_⟩|⟨f,hf,hF⟩
  rotate_left
  ·have HX:=hd0 (pf_fault (T:=T) (c:=⟨cr,ca,cs,cg⟩) hso (by rw[hF];exact hf));rw[hF]at HX ⊢
   have tf:(f == 0)=false:=by simpa using hf
   clear hso hF hf;dsimp only at HX ⊢;go_wp2;go_ret2;exact⟨by rw[HX.out];rfl,S.ext⟩
  ·obtain⟨x,b',off,an,cn,ak,ck,hx,rfl,c0,c1,c2,c3,c4,c5,c6,hcn,hck,hrn,hrk⟩:=atNd hc hm;have Hx:=hd0 hx;have hN:=hTr.nodes m x hx;have HNl:=hd0 hN.len;have hsx:=HT.out x (List.mem_of_getElem? hx);have hNl:x.N.length≤1048576:=hsx.2.1;have HP:=hd0 (pf_at (T:=T) (c:=⟨cr,ca,cs,cg⟩) hso hF hx);rw[hF]
   have i1:(m:Int) < (T.length:Int):=by omega
   have hE:=S.ext;have d0:=cell_ext hE c0;have d1:=cell_ext hE c1;have d2:=cell_ext hE c2;have d3:=cell_ext hE c3;have d4:=cell_ext hE c4;have d5:=cell_ext hE c5;have d6:=cell_ext hE c6;have Hrn:=hd0 (hrn.ext hE);have Hrk:=hd0 (hrk.ext hE);clear hx hN hsx c0 c1 c2 c3 c4 c5 c6 hcn hck hrn hrk hE hF hTr hso;dsimp only
   cases hf:x.fold with
   | false =>
    have HX:=hd0 (HP.out.trans (if_pos hf));rw[hf]at d0;clear hf;go_wp2;go_ret2;exact⟨by rw[HX.out];rfl,S.ext⟩
   | true =>
    have Hf:=hd0 hf;have HQ:=hd0 (HP.out.trans (if_neg (by simp[hf])));clear HP;obtain⟨⟨bc0,bf0⟩,⟨bc1,bf1⟩,⟨bc2,bf2⟩,⟨bc3,bf3⟩⟩:=bx4 (S.box 0 rfl)
    have HM:Hid (∀s:ExtW w3,Calls Tryz.prog 74 #[.agg #[.int .i64 cr,.int .i64 ca,.int .i64 cs,.int .i64 cg],.agg #[.bool true,.int .i64 x.own,.int .i64 x.grp,.int .i64 x.mode,.string x.text,.slice an x.N.length cn,.slice ak x.K.length ck],.int .i64 3] s.x fun e w''=>e=.returned (.bool (Cr.may ⟨cr,ca,cs,cg⟩ x 3))∧∃s':ExtW w3,w''=s'.x):=hd0 (fun s=>by
     have hC:=specMay cr ca cs cg 3 x an ak cn ck s.x;rw[hf]at hC
     exact Calls.at_e hC)
    rw[hf]at d0;clear hf
    go_wp2_with fail
    have q0:=ExtW.cell d0;have q1:=ExtW.cell d1;have q2:=ExtW.cell d2;have q3:=ExtW.cell d3;have q4:=ExtW.cell d4;have q5:=ExtW.cell d5;have q6:=ExtW.cell d6;have bl:=ExtW.lt d0;have r0:=ExtW.cell bc0;have r1:=ExtW.cell bc1;have r2:=ExtW.cell bc2;have r3:=ExtW.cell bc3;have br:=ExtW.lt bc0;have S9:=hd0 S;clear d0 d1 d2 d3 d4 d5 d6 bc0 bc1 bc2 bc3 bf0 bf1 bf2 bf3 S
    cases hmay:Cr.may ⟨cr,ca,cs,cg⟩ x 3 with
    | false =>
     have HX:=hd0 (HQ.out.trans (if_pos hmay));rw[hmay]at HM;clear hmay
     (refine wp_region_quiet_ext (by kernel_rfl) (by kernel_rfl) ?_;(repeat (go_big_quiet_step ((go_at_call 74;exact HM.out _))));refine wpQuiet_nil ?_;intro _ hw';obtain⟨sq,hw''⟩:=hw';subst hw'')
     obtain⟨w5,hw5⟩:=sq;go_wp2;go_ret2;exact⟨by rw[HX.out];rfl,S9.out.ext.trans hw5⟩
    | true =>
     have HQ2:=hd0 (HQ.out.trans (if_neg (by simp[hmay])));clear HQ;rw[hmay]at HM;clear hmay
     (refine wp_region_quiet_ext (by kernel_rfl) (by kernel_rfl) ?_;(repeat (go_big_quiet_step ((go_at_call 74;exact HM.out _))));refine wpQuiet_nil ?_;intro _ hw';obtain⟨sq,hw''⟩:=hw';subst hw'')
     obtain⟨w5,hw5⟩:=sq;have p0:=q0 ⟨w5,hw5⟩;have p1:=q1 ⟨w5,hw5⟩;have p2:=q2 ⟨w5,hw5⟩;have p3:=q3 ⟨w5,hw5⟩;have p4:=q4 ⟨w5,hw5⟩;have p5:=q5 ⟨w5,hw5⟩;have p6:=q6 ⟨w5,hw5⟩;have HS10:=hd0 (S9.out.step hw5);have hC:=specKid x an ak cn ck (lastOf s) w5 hNl HNl.out (Hrn.out.ext hw5) (Hrk.out.ext hw5);rw[Hf.out]at hC;have HC:=hd0 hC;clear q0 q1 q2 q3 q4 q5 q6 bl r0 r1 r2 r3 br S9 HM hC
     go_wp2_with fail
     refine HC.out.mono ?_;rintro e w6 ⟨rfl,hw6⟩;clear p0 p1 p2 p3 p4 p5 p6 HC
     by_cases hkid:0≤kidOf x.N x.K (lastOf s)
     ·have HX:=hd0 (HQ2.out.trans (if_pos hkid));go_wp2;go_ret2;exact⟨by rw[HX.out];rfl,HS10.out.ext.trans hw6⟩
     ·have HX:=hd0 (HQ2.out.trans (if_neg hkid));go_wp2;go_ret2;exact⟨by rw[HX.out];rfl,HS10.out.ext.trans hw6⟩
noncomputable def folderAbove (T:List Nd) (c:Cr) (s:ByteArray):Int×ByteArray×Int:=match aboveOf s with
 | none=>(-1,⟨#[]⟩,1)
 | some (ab,nm)=>if (findNode T c ab).2≠0 then(-1,⟨#[]⟩,(findNode T c ab).2)else match T[(findNode T c ab).1.toNat]? with
  | none=>(-1,⟨#[]⟩,1)
  | some x=>if x.fold=false then(-1,⟨#[]⟩,4)else if c.may x 3=false then(-1,⟨#[]⟩,3)else((findNode T c ab).1,nm,0)
section
variable {T:List Nd} {c:Cr} {s:ByteArray} {m:Nat} {x:Nd}
theorem fa_no (h:(aboveOf s).isSome=false):folderAbove T c s=(-1,⟨#[]⟩,1):=by
 have:aboveOf s=none:=by simpa using h
 rw[folderAbove,this]
theorem fa_some (h:(aboveOf s).isSome=true):folderAbove T c s=if (findNode T c (abOf s)).2≠0 then(-1,⟨#[]⟩,(findNode T c (abOf s)).2)else match T[(findNode T c (abOf s)).1.toNat]? with
  | none=>(-1,⟨#[]⟩,1)
  | some x=>if x.fold=false then(-1,⟨#[]⟩,4)else if c.may x 3=false then(-1,⟨#[]⟩,3)else((findNode T c (abOf s)).1,lastOf s,0):=by
 obtain⟨⟨a,n⟩,h'⟩:=Option.isSome_iff_exists.1 h;rw[folderAbove,abOf,lastOf,h']
theorem fa_fault (h:(aboveOf s).isSome=true) (hf:(findNode T c (abOf s)).2≠0):folderAbove T c s=(-1,⟨#[]⟩,(findNode T c (abOf s)).2):=by rw[fa_some h,if_pos hf]
theorem fa_at (h:(aboveOf s).isSome=true) (hF:findNode T c (abOf s)=((m:Int),0)) (hx:T[m]?=some x):folderAbove T c s=if x.fold=false then(-1,⟨#[]⟩,4)else if c.may x 3=false then(-1,⟨#[]⟩,3)else((m:Int),lastOf s,0):=by
 rw[fa_some h,hF,if_neg (by simp)];dsimp only;rw[Int.toNat_natCast,hx]
structure FaOk (T:List Nd) (c:Cr) (s:ByteArray) (n:Nat) (x:Nd):Prop where
 eq:folderAbove T c s=((n:Int),lastOf s,0)
 hx:T[n]?=some x
 fold:x.fold=true
 may:c.may x 3=true
 some_:(aboveOf s).isSome=true
 find:findNode T c (abOf s)=((n:Int),0)
 tree:TreeOk T
 cred:c.ok
 name:NameOk (lastOf s)
theorem fa_cases (T:List Nd) (c:Cr) (s:ByteArray):(∃n x,FaOk T c s n x)∨∃f:Int,f≠0∧folderAbove T c s=(-1,⟨#[]⟩,f):=by
 cases h:(aboveOf s).isSome with
 | false=>exact .inr ⟨1,by decide,fa_no h⟩
 | true =>
  rcases find_cases T c (abOf s)with⟨m,hF,hm,hT,hc⟩|⟨f,hf,hF⟩
  ·have hx:T[m]?=some T[m]:=List.getElem?_eq_getElem hm;have e:=fa_at h hF hx
   cases hf:T[m].fold with
   | false=>rw[if_pos hf]at e;exact .inr ⟨4,by decide,e⟩
   | true =>
    rw[if_neg (by rw[hf];decide)]at e
    cases hy:c.may T[m] 3 with
    | false=>rw[if_pos hy]at e;exact .inr ⟨3,by decide,e⟩
    | true =>
     rw[if_neg (by rw[hy];decide)]at e;obtain⟨⟨a,n⟩,h'⟩:=Option.isSome_iff_exists.1 h;exact .inl ⟨m,_,e,hx,hf,hy,h,hF,hT,hc,by rw[lastOf,h'];exact aboveOf_name h'⟩
  ·exact .inr ⟨f,hf,by rw[fa_fault h (by rw[hF];exact hf),hF]⟩
theorem pf_bad {f:Int} (hf:f≠0) (h:folderAbove T c s=(-1,⟨#[]⟩,f)):placeFor T c s=(-1,f):=by
 cases hs:(aboveOf s).isSome with
 | false =>
  rw[fa_no hs]at h;rw[pf_no hs];simp at h;rw[h]
 | true =>
  rcases find_cases T c (abOf s)with⟨m,hF,hm,_⟩|⟨g,hg,hF⟩
  ·have hx:T[m]?=some T[m]:=List.getElem?_eq_getElem hm;rw[fa_at hs hF hx]at h;rw[pf_at hs hF hx]
   split at h
   ·rename_i h1;rw[if_pos h1];simp at h;rw[h]
   ·rename_i h1;rw[if_neg h1]
    split at h
    ·rename_i h2;rw[if_pos h2];simp at h;rw[h]
    ·simp at h
  ·rw[fa_fault hs (by rw[hF];exact hg),hF]at h;rw[pf_fault hs (by rw[hF];exact hg),hF];simp at h;rw[←h]
theorem pf_good (h:FaOk T c s m x):placeFor T c s=if 0≤kidOf x.N x.K (lastOf s)then(-1,5)else((m:Int),0):=by
 rw[pf_at h.some_ h.find h.hx,if_neg (by rw[h.fold];decide),if_neg (by rw[h.may];decide)]
end
end Go.Proofs.YtnibbldfohbfkaaGreatDoor
