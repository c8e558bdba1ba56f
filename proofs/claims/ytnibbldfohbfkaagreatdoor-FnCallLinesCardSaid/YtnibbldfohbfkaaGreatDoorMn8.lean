/- Parts of one proof: what each theorem proves, and its conditions, stand in its own statement. -/
import Derived.Test.YtnibbldfohbfkaaGreatDoorMn7
set_option linter.all false
set_option maxRecDepth 100000
set_option maxHeartbeats 32000000
namespace Go.Proofs.YtnibbldfohbfkaaGreatDoor
open Go.RowKit
theorem SepM.putM {M:Nat→Prop} {w0 w w':World} {H:List Pl} (S:SepM M w0 w H) (i:Nat) {p q:Pl} (h:H[i]?=some p) (hg:Chg (fun b=>M b∨p.own b) w w') (hq:q.ok w') (hblk:∀b,q.own b→p.own b∨w.heap.size≤b):SepM M w0 w' (H.set i q):=by
 have hm:=List.mem_of_getElem? h;have hi:=(List.getElem?_eq_some_iff.1 h).1
 have hok:∀j r,H[j]?=some r→j≠i→r.ok w':=fun j r hj hne =>
  r.frame w w' (S.at_ j hj) (fun b hb=>hg.block b (S.lt (List.mem_of_getElem? hj) hb).2 (fun e=>e.elim (fun e=>by have h1:=S.small b e;have h2:=(S.lt (List.mem_of_getElem? hj) hb).1;omega) (fun e=>S.ne h hj (fun e=>hne e.symm) e hb)))
 refine⟨⟨hg.os.trans S.chg.os,hg.tape.trans S.chg.tape,hg.output.trans S.chg.output,Nat.le_trans S.chg.size hg.size,fun k hk hn=>(hg.block k (Nat.lt_of_lt_of_le hk S.chg.size) (fun hs=>hs.elim hn (fun hs=>by have:=(S.lt hm hs).1;omega))).trans (S.chg.block k hk hn)⟩,S.small,fun r hr=>?_,fun r hr b hb=>?_,?_⟩
 ·obtain⟨j,hj⟩:=List.getElem?_of_mem hr
  by_cases hji:i=j
  ·subst hji;rw[List.getElem?_set_self hi]at hj
   cases hj;exact hq
  ·rw[List.getElem?_set_ne hji]at hj;exact hok j r hj (fun e=>hji e.symm)
 ·obtain⟨j,hj⟩:=List.getElem?_of_mem hr
  by_cases hji:i=j
  ·subst hji;rw[List.getElem?_set_self hi]at hj
   cases hj
   rcases hblk b hb with h2|h2
   ·exact(S.lt hm h2).1
   ·exact Nat.le_trans S.chg.size h2
  ·rw[List.getElem?_set_ne hji]at hj;exact S.base r (List.mem_of_getElem? hj) b hb
 ·rw[List.pairwise_iff_getElem];intro j k hj hk hjk b hb;simp only[List.length_set]at hj hk;rw[List.getElem_set]at hb ⊢;have h1:=List.pairwise_iff_getElem.1 S.apart j k hj hk hjk
  by_cases e1:i=j
  ·subst e1;rw[if_pos rfl]at hb;rw[if_neg (by omega)]
   rcases hblk b hb with h2|h2
   ·exact S.ne h (List.getElem?_eq_getElem hk) (by omega) h2
   ·intro e;have:=(S.lt (List.getElem_mem hk) e).2;omega
  ·rw[if_neg e1]at hb
   by_cases e2:i=k
   ·subst e2;rw[if_pos rfl];intro e
    rcases hblk b e with h2|h2
    ·exact S.ne (List.getElem?_eq_getElem hj) h (by omega) hb h2
    ·have:=(S.lt (List.getElem_mem hj) hb).2;omega
   ·rw[if_neg e2];exact h1 b hb
section
variable {M:Nat→Prop} {w0 w w':World} {H:List Pl} {g n cap:Nat} {vs:List Nc} {T:List Nd} {k:Nat} {c c':Nc} {x x':Nd}
theorem SepM.ndPut (S:SepM M w0 w H) (i:Nat) (hi:H[i]?=some (plNd (.slice (some ⟨g,0,none⟩) n cap) vs T)) (hc:vs[k]?=some c) (hg:Chg (fun b=>M b∨(b=g∨pinNd.own c b)) w w')
  (hr:w'.ownsRow 0 89 7 (.slice (some ⟨g,0,none⟩) n cap) vs.length ((vs.set k c').flatMap encNc)) (hp:pinNd.ok c' x' w') (ho:∀b,pinNd.own c' b→pinNd.own c b∨w.heap.size≤b) :
  SepM M w0 w' (H.set i (plNd (.slice (some ⟨g,0,none⟩) n cap) (vs.set k c') (T.set k x'))):=by
 obtain⟨h1,h2,h3,h4,h5⟩:=S.at_ i hi;have him:=List.mem_of_getElem? hi;have hcm:=List.mem_of_getElem? hc;have hk:=(List.getElem?_eq_some_iff.1 hc).1
 have hlt:∀s∈vs,∀b,pinNd.own s b→w0.heap.size≤b∧b < w.heap.size:=fun s hs b hb=>S.lt him (show(plNd (.slice (some ⟨g,0,none⟩) n cap) vs T).own b from .inr ⟨s,hs,hb⟩)
 have hgl:g < w.heap.size:=(S.lt him (show(plNd (.slice (some ⟨g,0,none⟩) n cap) vs T).own g from .inl rfl)).2;refine S.putM i hi (hg.mono (fun b hb _=>?_)) ⟨by rw[List.length_set];exact hr,by simp[h2],fun l s2 t2 hs2 ht2=>?_,fun s2 hs2 b hb hb2=>?_,fun l m s2 s3 hlm hs2 hs3 b hb hb3=>?_⟩ (fun b hb=>?_)
 ·rcases hb with hb|rfl|hb
  ·exact .inl hb
  ·exact .inr (.inl rfl)
  ·exact .inr (.inr ⟨c,hcm,hb⟩)
 ·by_cases hlk:k=l
  ·subst hlk;rw[List.getElem?_set_self hk]at hs2;rw[List.getElem?_set_self (by omega)]at ht2
   cases hs2;cases ht2
   exact hp
  ·rw[List.getElem?_set_ne hlk]at hs2 ht2;have h6:=h3 l s2 t2 hs2 ht2
   exact pinNd.frame s2 t2 w w' h6 (fun b hb=>hg.block b (pinNd.lt s2 t2 w b h6 hb) (fun e=>by
    rcases e with e|e|e
    ·have h7:=S.small b e;have h8:=(hlt s2 (List.mem_of_getElem? hs2) b hb).1;omega
    ·exact h4 s2 (List.mem_of_getElem? hs2) b hb (by rw[e];rfl)
    ·exact h5 l k s2 c (fun e=>hlk e.symm) hs2 hc b hb e))
 ·rcases List.mem_or_eq_of_mem_set hs2 with hs2|rfl
  ·exact h4 s2 hs2 b hb hb2
  ·rcases ho b hb with h|h
   ·exact h4 c hcm b h hb2
   ·obtain rfl:g=b:=by simpa [Value.ownBlock]using hb2
    omega
 ·by_cases hlk:k=l
  ·subst hlk;rw[List.getElem?_set_self hk]at hs2
   cases hs2
   rw[List.getElem?_set_ne hlm]at hs3
   rcases ho b hb with h|h
   ·exact h5 k m c s3 hlm hc hs3 b h hb3
   ·have:=(hlt s3 (List.mem_of_getElem? hs3) b hb3).2;omega
  ·rw[List.getElem?_set_ne hlk]at hs2
   by_cases hmk:k=m
   ·subst hmk;rw[List.getElem?_set_self hk]at hs3
    cases hs3
    rcases ho b hb3 with h|h
    ·exact h5 l k s2 c hlm hs2 hc b hb h
    ·have:=(hlt s2 (List.mem_of_getElem? hs2) b hb).2;omega
   ·rw[List.getElem?_set_ne hmk]at hs3;exact h5 l m s2 s3 hlm hs2 hs3 b hb hb3
 ·rcases hb with hb|⟨s2,hs2,hb⟩
  ·exact .inl (.inl hb)
  ·rcases List.mem_or_eq_of_mem_set hs2 with hs2|rfl
   ·exact .inl (.inr ⟨s2,hs2,hb⟩)
   ·rcases ho b hb with h|h
    ·exact .inl (.inr ⟨c,hcm,h⟩)
    ·exact .inr h
theorem SepM.ndSet (S:SepM M w0 w H) (i:Nat) (hi:H[i]?=some (plNd (.slice (some ⟨g,0,none⟩) n cap) vs T)) (hc:vs[k]?=some c) (hx:T[k]?=some x) (j:Nat) (v:Value) (hj:j < 7)
  (he:encNc ⟨x',c.an,c.cn,c.ak,c.ck⟩=(encNc c).set j v) (hN:x'.N=x.N) (hK:x'.K=x.K) :
  SepM M w0 (w.setCell ⟨g,k*7+j,none⟩ v) (H.set i (plNd (.slice (some ⟨g,0,none⟩) n cap) (vs.set k ⟨x',c.an,c.cn,c.ak,c.ck⟩) (T.set k x'))):=by
 obtain⟨h1,h2,h3,h4,h5⟩:=S.at_ i hi;obtain⟨hk,hck⟩:=List.getElem?_eq_some_iff.1 hc;have hpin:=h3 k c x hc hx
 have hlen:n=vs.length:=by
  rcases h1.2 with⟨e,_⟩|⟨g',cap',cur,e,_⟩
  ·simp at e
  ·simp only[Value.slice.injEq]at e;exact e.2.1
 have hset:=owns_set encNc_len (show w.ownsRow 0 89 7 (.slice (some ⟨g,0,none⟩) n cap) n (vs.flatMap encNc)by rw[hlen];rw[hlen]at h1;exact h1) k j v (⟨x',c.an,c.cn,c.ak,c.ck⟩:Nc) hk hj (by rw[he,hck]);have hch:=Chg.setCell w g (k*7+j) v;have hpin2:=pinNd.frame c x w (w.setCell ⟨g,k*7+j,none⟩ v) hpin (fun b hb=>hch.block b (pinNd.lt c x w b hpin hb) (fun e=>h4 c (List.mem_of_getElem? hc) b hb (by rw[e];rfl)));obtain⟨e1,p1,p2,p3⟩:=hpin2
 have hN2:x'.N=c.n.N:=by rw[e1];exact hN
 have hK2:x'.K=c.n.K:=by rw[e1];exact hK
 refine S.ndPut i hi hc (hch.mono (fun b hb _=>.inr (.inl hb))) (by rw[hlen]at hset ⊢;exact hset) ⟨rfl,?_,?_,?_⟩ (fun b hb=>.inl ?_)
 ·show World.ownsRow _ _ _ _ (.slice c.an x'.N.length c.cn) x'.N.length (x'.N.flatMap encStr1)
  rw[hN2];exact p1
 ·show World.ownsRow _ _ _ _ (.slice c.ak x'.K.length c.ck) x'.K.length (x'.K.flatMap encInt1)
  rw[hK2];exact p2
 ·show ∀b:Nat,(Value.slice c.an x'.N.length c.cn).ownBlock=some b→(Value.slice c.ak x'.K.length c.ck).ownBlock≠some b
  rw[hN2,hK2];exact p3
 ·have hb':(Value.slice c.an x'.N.length c.cn).ownBlock=some b∨(Value.slice c.ak x'.K.length c.ck).ownBlock=some b:=hb;rw[hN2,hK2]at hb';exact hb'
theorem SepM.ndGrowN (S:SepM M w0 w H) (i:Nat) (hi:H[i]?=some (plNd (.slice (some ⟨g,0,none⟩) n cap) vs T)) (hc:vs[k]?=some c) (hx:T[k]?=some x) {N':List ByteArray} {a':Option Addr} {cp':Nat}
  (hg:Chg (fun b=>M b∨(Value.slice c.an x.N.length c.cn).ownBlock=some b) w w') (ho:w'.ownsRow 0 9 1 (.slice a' N'.length cp') N'.length (N'.flatMap encStr1)) (hb:∀b,(Value.slice a' N'.length cp').ownBlock=some b→(Value.slice c.an x.N.length c.cn).ownBlock=some b∨w.heap.size≤b) :
  SepM M w0 (w'.setCell ⟨g,k*7+5,none⟩ (.slice a' N'.length cp')) (H.set i (plNd (.slice (some ⟨g,0,none⟩) n cap) (vs.set k ⟨⟨x.fold,x.own,x.grp,x.mode,x.text,N',x.K⟩,a',cp',c.ak,c.ck⟩) (T.set k ⟨x.fold,x.own,x.grp,x.mode,x.text,N',x.K⟩))):=by
 obtain⟨h1,h2,h3,h4,h5⟩:=S.at_ i hi;obtain⟨hk,hck⟩:=List.getElem?_eq_some_iff.1 hc;have him:=List.mem_of_getElem? hi;have hcm:=List.mem_of_getElem? hc;have hpin:=h3 k c x hc hx;obtain⟨e1,p1,p2,p3⟩:=hpin;have hgl:=S.lt him (show(plNd (.slice (some ⟨g,0,none⟩) n cap) vs T).own g from .inl rfl)
 have hcl:∀b,pinNd.own c b→w0.heap.size≤b∧b < w.heap.size:=fun b hb=>S.lt him (show(plNd (.slice (some ⟨g,0,none⟩) n cap) vs T).own b from .inr ⟨c,hcm,hb⟩)
 subst e1
 have hlen:n=vs.length:=by
  rcases h1.2 with⟨e,_⟩|⟨g',cap',cur,e,_⟩
  ·simp at e
  ·simp only[Value.slice.injEq]at e;exact e.2.1
 have hgn:¬(M g∨(Value.slice c.an c.n.N.length c.cn).ownBlock=some g):=fun e=>e.elim (fun e=>by have:=S.small g e;omega) (fun e=>h4 c hcm g (.inl e) rfl)
 have hrow:w'.ownsRow 0 89 7 (.slice (some ⟨g,0,none⟩) n cap) n (vs.flatMap encNc):=by
  have:=(plRow 89 7 encNc (.slice (some ⟨g,0,none⟩) n cap) vs).frame w w' h1 (fun b hb2=>by
   obtain rfl:g=b:=by simpa [plRow,Value.ownBlock]using hb2
   exact hg.block g hgl.2 hgn)
  rw[hlen]at this ⊢;exact this
 have hset:=owns_set encNc_len hrow k 5 (.slice a' N'.length cp') (⟨⟨c.n.fold,c.n.own,c.n.grp,c.n.mode,c.n.text,N',c.n.K⟩,a',cp',c.ak,c.ck⟩:Nc) hk (by omega) (by rw[hck];rfl);have hch:=Chg.setCell w' g (k*7+5) (.slice a' N'.length cp')
 have hkd:∀b,(Value.slice c.ak c.n.K.length c.ck).ownBlock=some b→w'.heap[b]?=w.heap[b]?:=fun b hb2=>hg.block b (hcl b (.inr hb2)).2 (fun e=>e.elim (fun e=>by have:=S.small b e;have:=(hcl b (.inr hb2)).1;omega) (fun e=>p3 b e hb2))
 have hkg:∀b,(Value.slice c.ak c.n.K.length c.ck).ownBlock=some b→b≠g:=fun b hb2 e=>h4 c hcm b (.inr hb2) (by rw[e];rfl)
 have hng:∀b,(Value.slice a' N'.length cp').ownBlock=some b→b≠g:=fun b hb2 e=>by
  rcases hb b hb2 with h|h
  ·exact h4 c hcm b (.inl h) (by rw[e];rfl)
  ·omega
 refine S.ndPut i hi hc ((hg.mono (fun b hb2 _=>hb2.elim .inl (fun h=>.inr (.inr (.inl h))))).trans (hch.mono (fun b hb2 _=>.inr (.inl hb2)))) (by rw[hlen]at hset ⊢;exact hset) ⟨rfl,?_,?_,?_⟩ (fun b hb2=>?_)
 ·exact(plRow 9 1 encStr1 (.slice a' N'.length cp') N').frame w' _ ho (fun b hb2=>hch.block b ((plRow 9 1 encStr1 (.slice a' N'.length cp') N').lt w' b ho hb2) (hng b hb2))
 ·exact(plRow 3 1 encInt1 (.slice c.ak c.n.K.length c.ck) c.n.K).frame w _ p2 (fun b hb2=>(hch.block b (Nat.lt_of_lt_of_le (hcl b (.inr hb2)).2 hg.size) (hkg b hb2)).trans (hkd b hb2))
 ·intro b hb2 hb3;have hb4:(Value.slice c.ak c.n.K.length c.ck).ownBlock=some b:=hb3
  rcases hb b hb2 with h|h
  ·exact p3 b h hb4
  ·have:=(hcl b (.inr hb4)).2;omega
 ·rcases hb2 with hb2|hb2
  ·rcases hb b hb2 with h|h
   ·exact .inl (.inl h)
   ·exact .inr h
  ·exact .inl (.inr hb2)
theorem SepM.ndGrowK (S:SepM M w0 w H) (i:Nat) (hi:H[i]?=some (plNd (.slice (some ⟨g,0,none⟩) n cap) vs T)) (hc:vs[k]?=some c) (hx:T[k]?=some x) {K':List Int} {a':Option Addr} {cp':Nat}
  (hg:Chg (fun b=>M b∨(Value.slice c.ak x.K.length c.ck).ownBlock=some b) w w') (ho:w'.ownsRow 0 3 1 (.slice a' K'.length cp') K'.length (K'.flatMap encInt1)) (hb:∀b,(Value.slice a' K'.length cp').ownBlock=some b→(Value.slice c.ak x.K.length c.ck).ownBlock=some b∨w.heap.size≤b) :
  SepM M w0 (w'.setCell ⟨g,k*7+6,none⟩ (.slice a' K'.length cp')) (H.set i (plNd (.slice (some ⟨g,0,none⟩) n cap) (vs.set k ⟨⟨x.fold,x.own,x.grp,x.mode,x.text,x.N,K'⟩,c.an,c.cn,a',cp'⟩) (T.set k ⟨x.fold,x.own,x.grp,x.mode,x.text,x.N,K'⟩))):=by
 obtain⟨h1,h2,h3,h4,h5⟩:=S.at_ i hi;obtain⟨hk,hck⟩:=List.getElem?_eq_some_iff.1 hc;have him:=List.mem_of_getElem? hi;have hcm:=List.mem_of_getElem? hc;have hpin:=h3 k c x hc hx;obtain⟨e1,p1,p2,p3⟩:=hpin;have hgl:=S.lt him (show(plNd (.slice (some ⟨g,0,none⟩) n cap) vs T).own g from .inl rfl)
 have hcl:∀b,pinNd.own c b→w0.heap.size≤b∧b < w.heap.size:=fun b hb=>S.lt him (show(plNd (.slice (some ⟨g,0,none⟩) n cap) vs T).own b from .inr ⟨c,hcm,hb⟩)
 subst e1
 have hlen:n=vs.length:=by
  rcases h1.2 with⟨e,_⟩|⟨g',cap',cur,e,_⟩
  ·simp at e
  ·simp only[Value.slice.injEq]at e;exact e.2.1
 have hgn:¬(M g∨(Value.slice c.ak c.n.K.length c.ck).ownBlock=some g):=fun e=>e.elim (fun e=>by have:=S.small g e;omega) (fun e=>h4 c hcm g (.inr e) rfl)
 have hrow:w'.ownsRow 0 89 7 (.slice (some ⟨g,0,none⟩) n cap) n (vs.flatMap encNc):=by
  have:=(plRow 89 7 encNc (.slice (some ⟨g,0,none⟩) n cap) vs).frame w w' h1 (fun b hb2=>by
   obtain rfl:g=b:=by simpa [plRow,Value.ownBlock]using hb2
   exact hg.block g hgl.2 hgn)
  rw[hlen]at this ⊢;exact this
 have hset:=owns_set encNc_len hrow k 6 (.slice a' K'.length cp') (⟨⟨c.n.fold,c.n.own,c.n.grp,c.n.mode,c.n.text,c.n.N,K'⟩,c.an,c.cn,a',cp'⟩:Nc) hk (by omega) (by rw[hck];rfl);have hch:=Chg.setCell w' g (k*7+6) (.slice a' K'.length cp')
 have hkd:∀b,(Value.slice c.an c.n.N.length c.cn).ownBlock=some b→w'.heap[b]?=w.heap[b]?:=fun b hb2=>hg.block b (hcl b (.inl hb2)).2 (fun e=>e.elim (fun e=>by have:=S.small b e;have:=(hcl b (.inl hb2)).1;omega) (fun e=>p3 b hb2 e))
 have hkg:∀b,(Value.slice c.an c.n.N.length c.cn).ownBlock=some b→b≠g:=fun b hb2 e=>h4 c hcm b (.inl hb2) (by rw[e];rfl)
 have hng:∀b,(Value.slice a' K'.length cp').ownBlock=some b→b≠g:=fun b hb2 e=>by
  rcases hb b hb2 with h|h
  ·exact h4 c hcm b (.inr h) (by rw[e];rfl)
  ·omega
 refine S.ndPut i hi hc ((hg.mono (fun b hb2 _=>hb2.elim .inl (fun h=>.inr (.inr (.inr h))))).trans (hch.mono (fun b hb2 _=>.inr (.inl hb2)))) (by rw[hlen]at hset ⊢;exact hset) ⟨rfl,?_,?_,?_⟩ (fun b hb2=>?_)
 ·exact(plRow 9 1 encStr1 (.slice c.an c.n.N.length c.cn) c.n.N).frame w _ p1 (fun b hb2=>(hch.block b (Nat.lt_of_lt_of_le (hcl b (.inl hb2)).2 hg.size) (hkg b hb2)).trans (hkd b hb2))
 ·exact(plRow 3 1 encInt1 (.slice a' K'.length cp') K').frame w' _ ho (fun b hb2=>hch.block b ((plRow 3 1 encInt1 (.slice a' K'.length cp') K').lt w' b ho hb2) (hng b hb2))
 ·intro b hb2 hb3;have hb4:(Value.slice c.an c.n.N.length c.cn).ownBlock=some b:=hb2
  rcases hb b hb3 with h|h
  ·exact p3 b hb4 h
  ·have:=(hcl b (.inl hb4)).2;omega
 ·rcases hb2 with hb2|hb2
  ·exact .inl (.inl hb2)
  ·rcases hb b hb2 with h|h
   ·exact .inl (.inr h)
   ·exact .inr h
end
def NB (b:Nat) (T:List Nd):Prop:=∀x∈T,x.N.length≤b
theorem tree_sm {T:List Nd} (h:TreeOk T) {b:Nat} (hb:NB b T) (h20:b≤1000):∀x∈T,SmN 100000 x:=fun x hx=>by
 obtain⟨k,hk⟩:=List.getElem?_of_mem hx;have hN:=h.nodes k x hk;have hl:=hb x hx;refine⟨by have:=hN.short;omega,by omega,fun s hs=>?_,by have:=hN.len;omega⟩;obtain⟨j,hj⟩:=List.getElem?_of_mem hs;have:=((hN.at_ j (List.getElem?_eq_some_iff.1 hj).1).1 s hj).1.2.2;omega
theorem sm_more {x:Nd} (h:SmN 100000 x):SmN 1048576 x:=⟨by have:=h.1;omega,by have:=h.2.1;omega,fun s hs=>by have:=h.2.2.1 s hs;omega,by have:=h.2.2.2;omega⟩
theorem putNd_len (x:Nd) (s:ByteArray) (y:Int):(putNd x s y).N.length=x.N.length+1:=by
 have:=posOf_le x.N s
 show(x.N.take _++s :: x.N.drop _).length=_
 simp only[List.length_append,List.length_take,List.length_cons,List.length_drop];omega
theorem nb_set {T:List Nd} {b n:Nat} {x z:Nd} (h:NB b T) (hx:T[n]?=some x) (hz:z.N.length≤x.N.length+1):NB (b+1) (T.set n z):=fun y hy=>by
 rcases List.mem_or_eq_of_mem_set hy with hy|rfl
 ·have:=h y hy;omega
 ·have:=h x (List.mem_of_getElem? hx);omega
theorem nb_same {T:List Nd} {b n:Nat} {x z:Nd} (h:NB b T) (hx:T[n]?=some x) (hz:z.N=x.N):NB b (T.set n z):=fun y hy=>by
 rcases List.mem_or_eq_of_mem_set hy with hy|rfl
 ·exact h y hy
 ·rw[hz];exact h x (List.mem_of_getElem? hx)
theorem makeNode_nb {T:List Nd} {b:Nat} (h:NB b T) (c:Cr) (s:ByteArray) (fo:Bool) (md:Int):NB (b+1) (makeNode T c s fo md).1:=by
 have nil:NB (b+1) []:=fun x hx=>by cases hx
 rw[makeNode]
 split
 ·exact nil
 ·split
  ·exact nil
  ·split
   ·exact nil
   ·split
    ·exact nil
    ·rename_i x hx;intro y hy
     rcases List.mem_append.1 hy with hy|hy
     ·exact nb_set h hx (by rw[putNd_len];exact Nat.le_refl _) y hy
     ·rw[List.mem_singleton.1 hy];exact Nat.zero_le _
theorem linkName_nb {T:List Nd} {b:Nat} (h:NB b T) (c:Cr) (src dst:ByteArray):NB (b+1) (linkName T c src dst).1:=by
 have nil:NB (b+1) []:=fun x hx=>by cases hx
 rw[linkName]
 split
 ·exact nil
 ·split
  ·exact nil
  ·split
   ·exact nil
   ·split
    ·exact nil
    ·split
     ·exact nil
     ·rename_i x hx;exact nb_set h hx (by rw[putNd_len];exact Nat.le_refl _)
theorem root_tree {m:Int} (h:inB m 0 1023=true):TreeOk [rootNd m] where
 pos:=Nat.le_refl _
 max:=by simp
 root n hn:=by simp only[List.getElem?_cons_zero,Option.some.injEq]at hn;subst hn;rfl
 nodes k n hn:=by
  have hk:=(List.getElem?_eq_some_iff.1 hn).1
  obtain rfl:k=0:=by simpa using hk
  simp only[List.getElem?_cons_zero,Option.some.injEq]at hn;subst hn;exact⟨(show inB 0 0 99=true by decide),(show inB 0 0 7=true by decide),h,rfl,fun h=>Bool.noConfusion h,fun _=>isEmpty_size.2 (show(⟨#[]⟩:ByteArray).size=0 from rfl),Nat.zero_le _,fun k hk=>absurd hk (Nat.not_lt_zero _)⟩
 down k n hn:=by
  have hk:=(List.getElem?_eq_some_iff.1 hn).1
  obtain rfl:k=0:=by simpa using hk
  simp only[List.getElem?_cons_zero,Option.some.injEq]at hn;subst hn
  exact fun x hx=>by cases hx
 links k n hn h0:=by
  have hk:=(List.getElem?_eq_some_iff.1 hn).1
  obtain rfl:k=0:=by simpa using hk
  exact absurd h0 (Nat.lt_irrefl _)
theorem cf_read (T:List Nd) (c:Cr) (x:ByteArray):callF T c [⟨#[114,101,97,100]⟩,x]=(T,if (readFile T c x).2=0 then⟨#[61]⟩++(readFile T c x).1 else faultText (readFile T c x).2):=by
 have h:changeF T c [⟨#[114,101,97,100]⟩,x]=none:=by
  unfold changeF;dsimp only;rw[if_neg (by decide),if_neg (by decide),if_neg (by decide)]
 unfold callF;rw[h];dsimp only;unfold tellF;dsimp only;rw[if_pos rfl]
theorem cf_list (T:List Nd) (c:Cr) (x:ByteArray):callF T c [⟨#[108,105,115,116]⟩,x]=(T,if (listNames T c x).2=0 then⟨#[61]⟩++joinW (listNames T c x).1 else faultText (listNames T c x).2):=by
 have h:changeF T c [⟨#[108,105,115,116]⟩,x]=none:=by
  unfold changeF;dsimp only;rw[if_neg (by decide),if_neg (by decide),if_neg (by decide)]
 unfold callF;rw[h];dsimp only;unfold tellF;dsimp only;rw[if_neg (by decide),if_pos rfl]
theorem cf_mode (T:List Nd) (c:Cr) (x y:ByteArray) (h:(readMode y).2=true):callF T c [⟨#[109,111,100,101]⟩,x,y]=doneT T (changeMode T c x (readMode y).1):=by
 have h:changeF T c [⟨#[109,111,100,101]⟩,x,y]=some (changeMode T c x (readMode y).1):=by
  unfold changeF;dsimp only;rw[if_neg (by decide),if_pos rfl,if_pos h]
 unfold callF;rw[h]
theorem cf_nomode (T:List Nd) (c:Cr) (x y:ByteArray) (h:(readMode y).2=false):callF T c [⟨#[109,111,100,101]⟩,x,y]=(T,faultText 1):=by
 have h:changeF T c [⟨#[109,111,100,101]⟩,x,y]=some ([],1):=by
  unfold changeF;dsimp only;rw[if_neg (by decide),if_pos rfl,if_neg (by rw[h];decide)]
 unfold callF;rw[h];rfl
theorem joinW_nil:joinW []=⟨#[]⟩:=rfl
theorem joinW_one (a:ByteArray):joinW [a]=a:=by
 unfold joinW;rw[List.map_cons,List.map_nil,Lib.join_one]
theorem joinW_take {N:List ByteArray} {j:Nat} {a:ByteArray} (h:N[j]?=some a) (hj:0 < j):joinW (N.take (j+1))=joinW (N.take j)++⟨#[32]⟩++a:=by
 cases N with
 | nil=>simp at h
 | cons b N =>
  obtain⟨k,rfl⟩:∃k,j=k+1:=⟨j - 1,by omega⟩;rw[List.getElem?_cons_succ]at h;unfold joinW;rw[List.take_succ_cons,List.take_succ_cons,List.map_cons,List.map_cons,Lib.join_cons,Lib.join_cons,List.map_take,List.map_take,Lib.joinTail_take_succ _ _ k a.data.toList (by rw[List.getElem?_map,h];rfl)];apply ByteArray.ext;apply Array.toList_inj.1;simp[ByteArray.data_append,List.append_assoc]
theorem joinW_size {N:List ByteArray} {M:Nat} (h:∀p∈N,p.size≤M):(joinW N).size≤N.length*(M+1):=by
 cases N with
 | nil=>simp[joinW_nil,ByteArray.size]
 | cons b N =>
  unfold joinW;rw[ByteArray.size,List.size_toArray,List.map_cons,Lib.join_cons,List.length_append,Lib.joinTail_length];have hb:=h b (by simp)
  have hs:∀L:List ByteArray,(∀p∈L,p.size≤M)→Lib.lens (L.map (·.data.toList))≤L.length*M:=fun L=>by
   induction L with
   | nil=>intro _;simp[Lib.lens]
   | cons p L ih =>
    intro hL;have h1:=ih (fun q hq=>hL q (List.mem_cons_of_mem _ hq))
    have h2:p.data.toList.length≤M:=by have:=hL p (by simp);rw[Array.length_toList];exact this
    simp only[Lib.lens,List.map_cons,List.sum_cons,List.length_cons]at h1 ⊢;rw[Nat.succ_mul];omega
  have h3:=hs N (fun q hq=>h q (List.mem_cons_of_mem _ hq))
  have h4:b.data.toList.length≤M:=by rw[Array.length_toList];exact hb
  simp only[List.length_map,List.length_cons,List.length_nil]at h3 ⊢
  have h5:(N.length+1)*(M+1)=N.length*M+N.length+M+1:=by rw[Nat.add_mul,Nat.mul_add];omega
  rw[h5];omega
theorem nb_more {T:List Nd} {b d:Nat} (h:NB b T) (hd:b≤d):NB d T:=fun x hx=>Nat.le_trans (h x hx) hd
theorem nb_nil (b:Nat):NB b []:=fun x hx=>by cases hx
theorem writeFile_nb {T:List Nd} {b:Nat} (h:NB b T) (c:Cr) (s t:ByteArray):NB b (writeFile T c s t).1:=by
 rcases gate_cases T c s false 2 with⟨n,x,hg,hx,hf,hT⟩|⟨f,hf,hg⟩
 ·by_cases ht:40 < t.size
  ·rw[wf_full hg ht];exact nb_nil b
  ·rw[wf_ok hg ht hx];exact nb_same h hx rfl
 ·rw[wf_bad hf hg];exact nb_nil b
theorem changeMode_nb {T:List Nd} {b:Nat} (h:NB b T) (c:Cr) (s:ByteArray) (md:Int):NB b (changeMode T c s md).1:=by
 cases hm:inB md 0 1023 with
 | false=>rw[cm_mode hm];exact nb_nil b
 | true =>
  rcases find_cases T c s with⟨n,hF,hn,hT,_⟩|⟨f,hf,hF⟩
  ·have hx:T[n]?=some T[n]:=List.getElem?_eq_getElem hn;rw[cm_at hm hF hx]
   split
   ·exact nb_nil b
   ·exact nb_same h hx rfl
  ·rw[cm_fault hm hf hF];exact nb_nil b
theorem nb_take {T:List Nd} {b m:Nat} {x:Nd} (h:NB b T) (hx:T[m]?=some x) (s:ByteArray):NB b (T.set m (takeNd x s)):=fun y hy=>by
 rcases List.mem_or_eq_of_mem_set hy with hy|rfl
 ·exact h y hy
 ·exact Nat.le_trans (List.eraseIdx_sublist ..).length_le (h x (List.mem_of_getElem? hx))
theorem dropName_nb {T:List Nd} {b:Nat} (h:NB b T) (c:Cr) (s:ByteArray):NB b (dropName T c s).1:=by
 rcases md_cases T c s with⟨m,kid,x,z,hD,_,h2,h3⟩|⟨f,hf,_,_,hd⟩
 ·by_cases h0:z.N.length=0
  ·rw[dn_ok hD (h3 h0)]
   show NB b (dropT T m x (lastOf s) kid)
   unfold dropT
   split
   ·exact nb_take h hD.fa.hx _
   ·intro y hy;obtain⟨q,hq,rfl⟩:=List.mem_map.1 hy;exact nb_take h hD.fa.hx (lastOf s) q ((List.eraseIdx_sublist ..).subset hq)
  ·rw[dn_bad (by decide) (h2 (by omega))];exact nb_nil b
 ·rw[dn_bad hf hd];exact nb_nil b
theorem move_cases (T:List Nd) (c:Cr) (src dst:ByteArray):(∃m n kid x y z,moveName T c src dst=(moveT T m n x y (lastOf src) (lastOf dst) kid,0)∧TreeOk T∧T[m]?=some x∧kidOf x.N x.K (lastOf src)=((kid:Nat):Int)∧T[kid]?=some z∧(T.set m (takeNd x (lastOf src)))[n]?=some y∧y.fold=true∧NameOk (lastOf dst)∧lastOf dst∉y.N∧(z.fold=false∨m=n))∨∃f:Int,f≠0∧moveName T c src dst=([],f):=by
 rcases md_cases T c src with⟨m,kid,x,z,hD,hd0,_,_⟩|⟨f,hf,_,hd0,_⟩
 ·rcases placeFor_in T c dst with⟨ab,nm,n,q,hp,hab,hnm,hq,hqf,hqn,hT,_⟩|⟨h1,h2⟩
  ·have hl:lastOf dst=nm:=by rw[lastOf,hab]
   have hn:n < T.length:=(List.getElem?_eq_some_iff.1 hq).1
   by_cases hz:z.fold=false∨m=n
   ·have hy:(T.set m (takeNd x (lastOf src)))[n]?=some ((T.set m (takeNd x (lastOf src)))[n]'(by rw[List.length_set];exact hn)):=List.getElem?_eq_getElem _;generalize (T.set m (takeNd x (lastOf src)))[n]'(by rw[List.length_set];exact hn)=y at hy
    have hyy:y.fold=true∧nm∉y.N:=by
     by_cases e:m=n
     ·subst e;rw[List.getElem?_set_self (by exact hn)]at hy
      cases hy
      rw[hD.fa.hx]at hq
      cases hq
      exact⟨hqf,fun hm=>hqn ((List.eraseIdx_sublist ..).subset hm)⟩
     ·rw[List.getElem?_set_ne e,hq]at hy
      cases hy
      exact⟨hqf,hqn⟩
    exact .inl ⟨m,n,kid,x,y,z,mv_ok hd0 hD hp hz hy,hT,hD.fa.hx,hD.kd,hD.hz,hy,hyy.1,by rw[hl];exact hnm,by rw[hl];exact hyy.2,hz⟩
   ·refine .inr ⟨4,by decide,mv_kind hd0 hD hp ?_ (fun e=>hz (.inr e))⟩
    cases hzf:z.fold with
    | true=>rfl
    | false=>exact absurd (.inl hzf) hz
  ·exact .inr ⟨_,h1,mv_place hd0 h1 (Prod.ext h2 rfl)⟩
 ·exact .inr ⟨f,hf,mv_bad hf hd0⟩
theorem moveName_ok (T:List Nd) (c:Cr) (src dst:ByteArray):((moveName T c src dst).2=0∧TreeOk (moveName T c src dst).1)∨((moveName T c src dst).2≠0∧(moveName T c src dst).1=[]):=by
 rcases move_cases T c src dst with⟨m,n,kid,x,y,z,e,hT,hx,hk,hz,hy,hyf,hd,hnd,hzf⟩|⟨f,hf,e⟩
 ·rw[e];exact .inl ⟨rfl,moveT_ok hT hx hk hz hy hyf hd hnd hzf⟩
 ·rw[e];exact .inr ⟨hf,rfl⟩
theorem moveName_nb {T:List Nd} {b:Nat} (h:NB b T) (c:Cr) (src dst:ByteArray):NB (b+1) (moveName T c src dst).1:=by
 rcases move_cases T c src dst with⟨m,n,kid,x,y,z,e,hT,hx,hk,hz,hy,hyf,hd,hnd,hzf⟩|⟨f,hf,e⟩
 ·rw[e];exact nb_set (nb_take h hx _) hy (by rw[putNd_len];exact Nat.le_refl _)
 ·rw[e];exact nb_nil _
theorem changeF_ok {T:List Nd} {b:Nat} (h:NB b T) (c:Cr) (W:List ByteArray) {r:List Nd×Int} (hr:changeF T c W=some r):(r.2=0→TreeOk r.1)∧NB (b+1) r.1:=by
 have g:∀{q:List Nd×Int} {P:Prop},((q.2=0∧TreeOk T∧TreeOk q.1∧P)∨(q.2≠0∧q.1=[]))→(q.2=0→TreeOk q.1):=fun hq h0=>by
  rcases hq with hq|hq
  ·exact hq.2.2.1
  ·exact absurd h0 hq.1
 unfold changeF at hr
 split at hr
 ·split at hr
  ·cases hr;exact⟨g (makeNode_ok ..),makeNode_nb h c _ _ _⟩
  ·split at hr
   ·cases hr;exact⟨g (makeNode_ok ..),makeNode_nb h c _ _ _⟩
   ·split at hr
    ·cases hr;exact⟨g (dropName_ok ..),nb_more (dropName_nb h c _) (by omega)⟩
    ·cases hr
 ·split at hr
  ·cases hr;exact⟨g (writeFile_ok ..),nb_more (writeFile_nb h c _ _) (by omega)⟩
  ·split at hr
   ·split at hr
    ·cases hr;exact⟨g (changeMode_ok ..),nb_more (changeMode_nb h c _ _) (by omega)⟩
    ·cases hr;exact⟨fun e=>by simp at e,nb_nil _⟩
   ·split at hr
    ·cases hr;exact⟨g (linkName_ok ..),linkName_nb h c _ _⟩
    ·split at hr
     ·cases hr
      refine⟨fun e=>?_,moveName_nb h c _ _⟩
      rcases moveName_ok T c _ _ with hq|hq
      ·exact hq.2
      ·exact absurd e hq.1
     ·cases hr
 ·cases hr
theorem callF_ok {T:List Nd} {b:Nat} (hT:TreeOk T) (h:NB b T) (c:Cr) (W:List ByteArray):TreeOk (callF T c W).1∧NB (b+1) (callF T c W).1:=by
 unfold callF
 split
 ·rename_i r hr;have h1:=changeF_ok h c W hr;refine⟨done_ok hT h1.1,?_⟩;unfold doneT
  split
  ·exact h1.2
  ·exact nb_more h (by omega)
 ·exact⟨hT,nb_more h (by omega)⟩
theorem tree_sm20 {T:List Nd} (h:TreeOk T) {b:Nat} (hb:NB b T) (h20:b≤1000000):∀x∈T,SmN 1048576 x:=fun x hx=>by
 obtain⟨k,hk⟩:=List.getElem?_of_mem hx;have hN:=h.nodes k x hk;have hl:=hb x hx;refine⟨by have:=hN.short;omega,by omega,fun s hs=>?_,by have:=hN.len;omega⟩;obtain⟨j,hj⟩:=List.getElem?_of_mem hs;have:=((hN.at_ j (List.getElem?_eq_some_iff.1 hj).1).1 s hj).1.2.2;omega
theorem rf_size (T:List Nd) (c:Cr) (s:ByteArray) (h:∀x∈T,SmN 1048576 x):(readFile T c s).1.size≤1048576:=by
 unfold readFile
 split
 ·exact Nat.zero_le _
 ·split
  ·exact Nat.zero_le _
  ·rename_i x hx;exact(h x (List.mem_of_getElem? hx)).1
theorem li_size (T:List Nd) (c:Cr) (s:ByteArray) (h:∀x∈T,SmN 1048576 x):(listNames T c s).1.length≤1048576∧∀p∈(listNames T c s).1,p.size≤1048576:=by
 unfold listNames
 split
 ·exact⟨Nat.zero_le _,fun p hp=>by cases hp⟩
 ·split
  ·exact⟨Nat.zero_le _,fun p hp=>by cases hp⟩
  ·rename_i x hx;have h1:=h x (List.mem_of_getElem? hx);exact⟨h1.2.1,h1.2.2.1⟩
def preJ (N:List ByteArray) (k:Nat):ByteArray:=⟨#[61]⟩++joinW (N.take k)
theorem ba_nil (a:ByteArray):a++⟨#[]⟩=a:=ByteArray.ext (by simp[ByteArray.data_append])
theorem ba_assoc (a b c:ByteArray):a++(b++c)=a++b++c:=ByteArray.ext (by simp[ByteArray.data_append,Array.append_assoc])
theorem preJ_zero (N:List ByteArray):preJ N 0=⟨#[61]⟩:=by
 unfold preJ;rw[List.take_zero,joinW_nil,ba_nil]
theorem preJ_one {N:List ByteArray} {a:ByteArray} (h:N[0]?=some a):preJ N 0++a=preJ N 1:=by
 rw[preJ_zero];unfold preJ
 cases N with
 | nil=>simp at h
 | cons b N =>
  simp only[List.getElem?_cons_zero,Option.some.injEq]at h;subst h;rw[List.take_succ_cons,List.take_zero,joinW_one]
theorem preJ_more {N:List ByteArray} {k:Nat} {a:ByteArray} (h:N[k]?=some a) (hk:0 < k):preJ N k++⟨#[32]⟩++a=preJ N (k+1):=by
 unfold preJ;rw[joinW_take h hk,ba_assoc,ba_assoc]
theorem preJ_size {N:List ByteArray} (h:∀p∈N,p.size≤1048576) (k:Nat) (hk:k≤1048576):(preJ N k).size≤1099512676353:=by
 unfold preJ;have h1:=joinW_size (N:=N.take k) (M:=1048576) (fun p hp=>h p (List.mem_of_mem_take hp))
 have h2:(N.take k).length≤1048576:=by rw[List.length_take];omega
 have h3:(N.take k).length*(1048576+1)≤1048576*(1048576+1):=Nat.mul_le_mul_right _ h2;rw[ByteArray.size_append]
 show 1+_≤_
 omega
def RetNs (R:List ByteArray×Int) (w:World) (e:Ending) (w':World):Prop:=∃u,e=.returned (.tuple #[u,.int .i64 R.2])∧Sep w w' [plRow 9 1 encStr1 u R.1]
theorem RetNs.empty {w w1:World} {R:List ByteArray×Int} {f:Int} (hE:Ext w w1) (hR:R=([],f)):RetNs R w (.returned (.tuple #[.slice (some ⟨w1.heap.size,0,none⟩) 0 0,.int .i64 f])) (w1.alloc (.cells #[] 9)):=by
 have S0:=(Sep.of_ext hE).lit0 (n:=w1.heap.size) rfl 9 1 encStr1;exact⟨_,by rw[hR],by rw[hR];exact S0⟩
theorem RetNs.nil {w w1:World} {R:List ByteArray×Int} {f:Int} (hE:Ext w w1) (hR:R=([],f)):RetNs R w (.returned (.tuple #[.slice none 0 0,.int .i64 f])) w1:=by
 have S0:=(Sep.of_ext hE).nil 9 1 encStr1;exact⟨_,by rw[hR],by rw[hR];exact S0⟩
theorem specReadFile (a:Option Addr) (cap:Nat) (T:List Nd) (c:Cr) (s:ByteArray) (w:World) (hs:s.size≤1048576) (hl:T.length≤1048576) (hT:∀x∈T,SmN 1048576 x) (hc:RdN w a T) :
  Calls Tryz.prog 34 #[.slice a T.length cap,.agg #[.int .i64 c.r,.int .i64 c.a,.int .i64 c.s,.int .i64 c.g],.string s] w fun e w'=>e=.returned (.tuple #[.string (readFile T c s).1,.int .i64 (readFile T c s).2])∧Ext w w':=by
 obtain⟨cr,ca,cs,cg⟩:=c;have HT:=hd0 hT;clear hT;dsimp only
 go_enter Tryz.func34,Tryz.ntmps34
 have S:=Sep.start w;replace S:=S.alloc_at (n:=w.heap.size) (by simp) #[.int .i64 cr,.int .i64 ca,.int .i64 cs,.int .i64 cg] 29
 go_wp2_with fail
 generalize (w.alloc (.cells #[.int .i64 cr,.int .i64 ca,.int .i64 cs,.int .i64 cg] 29))=w1 at *;refine(specFindNode a cap T ⟨cr,ca,cs,cg⟩ s w1 hs hl HT.out (hc.ext S.ext)).mono ?_;rintro e w2 ⟨rfl,hE⟩;replace S:=S.step hE;clear hE
 rcases find_cases T ⟨cr,ca,cs,cg⟩ s with⟨m,hF,hm_,hTr,hCo⟩|⟨f,hf,hF⟩
 rotate_left
 ·have HG:=hd0 (ga_fault (dir:=false) (want:=4) hf hF);have HX:=hd0 (rf_bad hf HG.out);rw[hF]
  have tf:(f == 0)=false:=by simpa using hf
  clear hF hf HG;dsimp only;go_wp2;go_ret2;exact⟨by rw[HX.out];rfl,S.ext⟩
 ·obtain⟨x,b',off,an,cn,ak,ck,hx,rfl,c0,c1,c2,c3,c4,c5,c6,hcn,hck,hrn,hrk⟩:=atNd hc hm_;have Hx:=hd0 hx;have HN:=hd0 (hTr.nodes m x hx);have HCo:=hd0 hCo;have HF:=hd0 hF;rw[hF]
  have i1:(m:Int) < (T.length:Int):=by omega
  have hE:=S.ext;have d0:=cell_ext hE c0;have d1:=cell_ext hE c1;have d2:=cell_ext hE c2;have d3:=cell_ext hE c3;have d4:=cell_ext hE c4;have d5:=cell_ext hE c5;have d6:=cell_ext hE c6;have Hrn:=hd0 hrn;have hNl:x.N.length≤1048576:=(HT.out x (List.mem_of_getElem? hx)).2.1;have HNl:=hd0 hNl;clear hx c0 c1 c2 c3 c4 c5 c6 hcn hck hrn hrk hE hF hTr hCo hNl;dsimp only
  cases hfo:x.fold with
  | true =>
   have HG:=hd0 (ga_kind (dir:=false) (want:=4) HF.out Hx.out (by simp[hfo]));have HX:=hd0 (rf_bad (by decide) HG.out);rw[hfo]at d0;clear hfo HG;go_wp2;go_ret2;exact⟨by rw[HX.out];rfl,S.ext⟩
  | false =>
   have Hfo:=hd0 hfo;obtain⟨⟨bc0,bf0⟩,⟨bc1,bf1⟩,⟨bc2,bf2⟩,⟨bc3,bf3⟩⟩:=bx4 (S.box 0 rfl)
   have HMy:Hid (∀s:ExtW w2,Calls Tryz.prog 74 #[.agg #[.int .i64 cr,.int .i64 ca,.int .i64 cs,.int .i64 cg],.agg #[.bool false,.int .i64 x.own,.int .i64 x.grp,.int .i64 x.mode,.string x.text,.slice an x.N.length cn,.slice ak x.K.length ck],.int .i64 4] s.x fun e w''=>e=.returned (.bool (Cr.may ⟨cr,ca,cs,cg⟩ x 4))∧∃s':ExtW w2,w''=s'.x):=hd0 (fun s=>by
    have hC:=specMay cr ca cs cg 4 x an ak cn ck s.x;rw[hfo]at hC
    exact Calls.at_e hC)
   rw[hfo]at d0;clear hfo
   go_wp2_with fail
   have q0:=ExtW.cell d0;have q1:=ExtW.cell d1;have q2:=ExtW.cell d2;have q3:=ExtW.cell d3;have q4:=ExtW.cell d4;have q5:=ExtW.cell d5;have q6:=ExtW.cell d6;have bl:=ExtW.lt d0;have r0:=ExtW.cell bc0;have r1:=ExtW.cell bc1;have r2:=ExtW.cell bc2;have r3:=ExtW.cell bc3;have br:=ExtW.lt bc0;have S9:=hd0 S;clear d0 d1 d2 d3 d4 d5 d6 bc0 bc1 bc2 bc3 bf0 bf1 bf2 bf3 S
   cases hmay:Cr.may ⟨cr,ca,cs,cg⟩ x 4 with
   | false =>
    have HG:=hd0 (ga_may (dir:=false) (want:=4) HF.out Hx.out Hfo.out hmay);have HX:=hd0 (rf_bad (by decide) HG.out);rw[hmay]at HMy;clear hmay HG
    (refine wp_region_quiet_ext (by kernel_rfl) (by kernel_rfl) ?_;(repeat (go_big_quiet_step ((go_at_call 74;exact HMy.out _))));refine wpQuiet_nil ?_;intro _ hw';obtain⟨sq,hw''⟩:=hw';subst hw'')
    obtain⟨w5,hw5⟩:=sq;have HS5:=hd0 (S9.out.step hw5);clear q0 q1 q2 q3 q4 q5 q6 bl r0 r1 r2 r3 br S9 HMy;go_wp2;go_ret2;exact⟨by rw[HX.out];rfl,HS5.out.ext⟩
   | true =>
    have HG:=hd0 (ga_ok (dir:=false) (want:=4) HF.out Hx.out Hfo.out hmay);rw[hmay]at HMy;clear hmay
    (refine wp_region_quiet_ext (by kernel_rfl) (by kernel_rfl) ?_;(repeat (go_big_quiet_step ((go_at_call 74;exact HMy.out _))));refine wpQuiet_nil ?_;intro _ hw';obtain⟨sq,hw''⟩:=hw';subst hw'')
    obtain⟨w5,hw5⟩:=sq;have p0:=q0 ⟨w5,hw5⟩;have p1:=q1 ⟨w5,hw5⟩;have p2:=q2 ⟨w5,hw5⟩;have p3:=q3 ⟨w5,hw5⟩;have p4:=q4 ⟨w5,hw5⟩;have p5:=q5 ⟨w5,hw5⟩;have p6:=q6 ⟨w5,hw5⟩;have HS5:=hd0 (S9.out.step hw5);clear q0 q1 q2 q3 q4 q5 q6 bl r0 r1 r2 r3 br S9 HMy;have HX:=hd0 (rf_ok HG.out Hx.out);go_wp2;go_ret2;exact⟨by rw[HX.out];rfl,HS5.out.ext⟩
theorem specWriteFile (a:Option Addr) (cap:Nat) (T:List Nd) (c:Cr) (s:ByteArray) (t:ByteArray) (w:World) (hs:s.size≤1048576) (hl:T.length≤1048576) (hT:∀x∈T,SmN 1048576 x) (hc:RdN w a T) :
  Calls Tryz.prog 37 #[.slice a T.length cap,.agg #[.int .i64 c.r,.int .i64 c.a,.int .i64 c.s,.int .i64 c.g],.string s,.string t] w (RetMk (writeFile T c s t) w):=by
 obtain⟨cr,ca,cs,cg⟩:=c;have HT:=hd0 hT;clear hT;dsimp only
 go_enter Tryz.func37,Tryz.ntmps37
 have S:=Sep.start w;replace S:=S.alloc_at (n:=w.heap.size) (by simp) #[.int .i64 cr,.int .i64 ca,.int .i64 cs,.int .i64 cg] 29
 go_wp2_with fail
 generalize (w.alloc (.cells #[.int .i64 cr,.int .i64 ca,.int .i64 cs,.int .i64 cg] 29))=w1 at *;refine(specFindNode a cap T ⟨cr,ca,cs,cg⟩ s w1 hs hl HT.out (hc.ext S.ext)).mono ?_;rintro e w2 ⟨rfl,hE⟩;replace S:=S.step hE;clear hE
 rcases find_cases T ⟨cr,ca,cs,cg⟩ s with⟨m,hF,hm_,hTr,hCo⟩|⟨f,hf,hF⟩
 rotate_left
 ·have HG:=hd0 (ga_fault (dir:=false) (want:=2) hf hF);have HX:=hd0 (wf_bad (t:=t) hf HG.out);rw[hF]
  have tf:(f == 0)=false:=by simpa using hf
  clear hF hf HG;dsimp only;go_wp2;go_ret2;exact RetMk.empty S.ext HX.out
 ·obtain⟨x,b',off,an,cn,ak,ck,hx,rfl,c0,c1,c2,c3,c4,c5,c6,hcn,hck,hrn,hrk⟩:=atNd hc hm_;have Hx:=hd0 hx;have HN:=hd0 (hTr.nodes m x hx);have HCo:=hd0 hCo;have HF:=hd0 hF;rw[hF]
  have i1:(m:Int) < (T.length:Int):=by omega
  have hE:=S.ext;have d0:=cell_ext hE c0;have d1:=cell_ext hE c1;have d2:=cell_ext hE c2;have d3:=cell_ext hE c3;have d4:=cell_ext hE c4;have d5:=cell_ext hE c5;have d6:=cell_ext hE c6;have Hrn:=hd0 hrn;have hNl:x.N.length≤1048576:=(HT.out x (List.mem_of_getElem? hx)).2.1;have HNl:=hd0 hNl;clear hx c0 c1 c2 c3 c4 c5 c6 hcn hck hrn hrk hE hF hTr hCo hNl;dsimp only
  cases hfo:x.fold with
  | true =>
   have HG:=hd0 (ga_kind (dir:=false) (want:=2) HF.out Hx.out (by simp[hfo]));have HX:=hd0 (wf_bad (t:=t) (by decide) HG.out);rw[hfo]at d0;clear hfo HG;go_wp2;go_ret2;exact RetMk.empty S.ext HX.out
  | false =>
   have Hfo:=hd0 hfo;obtain⟨⟨bc0,bf0⟩,⟨bc1,bf1⟩,⟨bc2,bf2⟩,⟨bc3,bf3⟩⟩:=bx4 (S.box 0 rfl)
   have HMy:Hid (∀s:ExtW w2,Calls Tryz.prog 74 #[.agg #[.int .i64 cr,.int .i64 ca,.int .i64 cs,.int .i64 cg],.agg #[.bool false,.int .i64 x.own,.int .i64 x.grp,.int .i64 x.mode,.string x.text,.slice an x.N.length cn,.slice ak x.K.length ck],.int .i64 2] s.x fun e w''=>e=.returned (.bool (Cr.may ⟨cr,ca,cs,cg⟩ x 2))∧∃s':ExtW w2,w''=s'.x):=hd0 (fun s=>by
    have hC:=specMay cr ca cs cg 2 x an ak cn ck s.x;rw[hfo]at hC
    exact Calls.at_e hC)
   rw[hfo]at d0;clear hfo
   go_wp2_with fail
   have q0:=ExtW.cell d0;have q1:=ExtW.cell d1;have q2:=ExtW.cell d2;have q3:=ExtW.cell d3;have q4:=ExtW.cell d4;have q5:=ExtW.cell d5;have q6:=ExtW.cell d6;have bl:=ExtW.lt d0;have r0:=ExtW.cell bc0;have r1:=ExtW.cell bc1;have r2:=ExtW.cell bc2;have r3:=ExtW.cell bc3;have br:=ExtW.lt bc0;have S9:=hd0 S;clear d0 d1 d2 d3 d4 d5 d6 bc0 bc1 bc2 bc3 bf0 bf1 bf2 bf3 S
   cases hmay:Cr.may ⟨cr,ca,cs,cg⟩ x 2 with
   | false =>
    have HG:=hd0 (ga_may (dir:=false) (want:=2) HF.out Hx.out Hfo.out hmay);have HX:=hd0 (wf_bad (t:=t) (by decide) HG.out);rw[hmay]at HMy;clear hmay HG
    (refine wp_region_quiet_ext (by kernel_rfl) (by kernel_rfl) ?_;(repeat (go_big_quiet_step ((go_at_call 74;exact HMy.out _))));refine wpQuiet_nil ?_;intro _ hw';obtain⟨sq,hw''⟩:=hw';subst hw'')
    obtain⟨w5,hw5⟩:=sq;have HS5:=hd0 (S9.out.step hw5);clear q0 q1 q2 q3 q4 q5 q6 bl r0 r1 r2 r3 br S9 HMy;go_wp2;go_ret2;exact RetMk.empty HS5.out.ext HX.out
   | true =>
    have HG:=hd0 (ga_ok (dir:=false) (want:=2) HF.out Hx.out Hfo.out hmay);rw[hmay]at HMy;clear hmay
    (refine wp_region_quiet_ext (by kernel_rfl) (by kernel_rfl) ?_;(repeat (go_big_quiet_step ((go_at_call 74;exact HMy.out _))));refine wpQuiet_nil ?_;intro _ hw';obtain⟨sq,hw''⟩:=hw';subst hw'')
    obtain⟨w5,hw5⟩:=sq;have p0:=q0 ⟨w5,hw5⟩;have p1:=q1 ⟨w5,hw5⟩;have p2:=q2 ⟨w5,hw5⟩;have p3:=q3 ⟨w5,hw5⟩;have p4:=q4 ⟨w5,hw5⟩;have p5:=q5 ⟨w5,hw5⟩;have p6:=q6 ⟨w5,hw5⟩;have HS5:=hd0 (S9.out.step hw5);clear q0 q1 q2 q3 q4 q5 q6 bl r0 r1 r2 r3 br S9 HMy
    by_cases ht:40 < t.size
    ·have HX:=hd0 (wf_full HG.out ht)
     have ti:(40:Int) < (t.size:Int):=by omega
     clear ht;go_wp2;go_ret2;exact RetMk.empty HS5.out.ext HX.out
    ·have HX:=hd0 (wf_ok HG.out ht Hx.out)
     have ti:¬(40:Int) < (t.size:Int):=by omega
     clear ht
     go_wp2_with fail
     clear p0 p1 p2 p3 p4 p5 p6;refine(specCopy (some ⟨b',off,none⟩) cap T w5 hl HT.out (hc.ext HS5.out.ext)).mono ?_;rintro e w7 ⟨u,vs,rfl,S7⟩;have S8:=S7.since HS5.out.ext;clear S7;obtain⟨xc,g,cap2,rfl,hcap2,hxc,hxn,hcell,hfz,_⟩:=S8.ndAt 0 rfl Hx.out;obtain⟨x',an',cn',ak',ck'⟩:=xc;dsimp only at hxn;subst hxn;have e4:=hcell 4 _ rfl;have SA:=S8.ndSet 0 rfl hxc Hx.out (x':=textNd x' t) 4 (.string t) (by decide) rfl rfl rfl;have SB:Sep w (w7.setCell ⟨g,m*7+4,none⟩ (.string t)) [plNd (.slice (some ⟨g,0,none⟩) T.length cap2) (vs.set m ⟨textNd x' t,an',cn',ak',ck'⟩) (T.set m (textNd x' t))]:=SA;have HSB:=hd0 SB;clear SA SB S8 hcell hxc hcap2;go_wp2;go_ret2;exact⟨_,_,by rw[HX.out];rfl,by rw[HX.out];exact HSB.out⟩
theorem specListNames (a:Option Addr) (cap:Nat) (T:List Nd) (c:Cr) (s:ByteArray) (w:World) (hs:s.size≤1048576) (hl:T.length≤1048576) (hT:∀x∈T,SmN 1048576 x) (hc:RdN w a T) :
  Calls Tryz.prog 36 #[.slice a T.length cap,.agg #[.int .i64 c.r,.int .i64 c.a,.int .i64 c.s,.int .i64 c.g],.string s] w (RetNs (listNames T c s) w):=by
 obtain⟨cr,ca,cs,cg⟩:=c;have HT:=hd0 hT;clear hT;dsimp only
 go_enter Tryz.func36,Tryz.ntmps36
 have S:=Sep.start w;replace S:=S.alloc_at (n:=w.heap.size) (by simp) #[.int .i64 cr,.int .i64 ca,.int .i64 cs,.int .i64 cg] 29
 go_wp2_with fail
 generalize (w.alloc (.cells #[.int .i64 cr,.int .i64 ca,.int .i64 cs,.int .i64 cg] 29))=w1 at *;refine(specFindNode a cap T ⟨cr,ca,cs,cg⟩ s w1 hs hl HT.out (hc.ext S.ext)).mono ?_;rintro e w2 ⟨rfl,hE⟩;replace S:=S.step hE;clear hE
 rcases find_cases T ⟨cr,ca,cs,cg⟩ s with⟨m,hF,hm_,hTr,hCo⟩|⟨f,hf,hF⟩
 rotate_left
 ·have HG:=hd0 (ga_fault (dir:=true) (want:=4) hf hF);have HX:=hd0 (li_bad hf HG.out);rw[hF]
  have tf:(f == 0)=false:=by simpa using hf
  clear hF hf HG;dsimp only;go_wp2;go_ret2;exact RetNs.empty S.ext HX.out
 ·obtain⟨x,b',off,an,cn,ak,ck,hx,rfl,c0,c1,c2,c3,c4,c5,c6,hcn,hck,hrn,hrk⟩:=atNd hc hm_;have Hx:=hd0 hx;have HN:=hd0 (hTr.nodes m x hx);have HCo:=hd0 hCo;have HF:=hd0 hF;rw[hF]
  have i1:(m:Int) < (T.length:Int):=by omega
  have hE:=S.ext;have d0:=cell_ext hE c0;have d1:=cell_ext hE c1;have d2:=cell_ext hE c2;have d3:=cell_ext hE c3;have d4:=cell_ext hE c4;have d5:=cell_ext hE c5;have d6:=cell_ext hE c6;have Hrn:=hd0 hrn;have hNl:x.N.length≤1048576:=(HT.out x (List.mem_of_getElem? hx)).2.1;have HNl:=hd0 hNl;clear hx c0 c1 c2 c3 c4 c5 c6 hcn hck hrn hrk hE hF hTr hCo hNl;dsimp only
  cases hfo:x.fold with
  | false =>
   have HG:=hd0 (ga_kind (dir:=true) (want:=4) HF.out Hx.out (by simp[hfo]));have HX:=hd0 (li_bad (by decide) HG.out);rw[hfo]at d0;clear hfo HG;go_wp2;go_ret2;exact RetNs.empty S.ext HX.out
  | true =>
   have Hfo:=hd0 hfo;obtain⟨⟨bc0,bf0⟩,⟨bc1,bf1⟩,⟨bc2,bf2⟩,⟨bc3,bf3⟩⟩:=bx4 (S.box 0 rfl)
   have HMy:Hid (∀s:ExtW w2,Calls Tryz.prog 74 #[.agg #[.int .i64 cr,.int .i64 ca,.int .i64 cs,.int .i64 cg],.agg #[.bool true,.int .i64 x.own,.int .i64 x.grp,.int .i64 x.mode,.string x.text,.slice an x.N.length cn,.slice ak x.K.length ck],.int .i64 4] s.x fun e w''=>e=.returned (.bool (Cr.may ⟨cr,ca,cs,cg⟩ x 4))∧∃s':ExtW w2,w''=s'.x):=hd0 (fun s=>by
    have hC:=specMay cr ca cs cg 4 x an ak cn ck s.x;rw[hfo]at hC
    exact Calls.at_e hC)
   rw[hfo]at d0;clear hfo
   go_wp2_with fail
   have q0:=ExtW.cell d0;have q1:=ExtW.cell d1;have q2:=ExtW.cell d2;have q3:=ExtW.cell d3;have q4:=ExtW.cell d4;have q5:=ExtW.cell d5;have q6:=ExtW.cell d6;have bl:=ExtW.lt d0;have r0:=ExtW.cell bc0;have r1:=ExtW.cell bc1;have r2:=ExtW.cell bc2;have r3:=ExtW.cell bc3;have br:=ExtW.lt bc0;have S9:=hd0 S;clear d0 d1 d2 d3 d4 d5 d6 bc0 bc1 bc2 bc3 bf0 bf1 bf2 bf3 S
   cases hmay:Cr.may ⟨cr,ca,cs,cg⟩ x 4 with
   | false =>
    have HG:=hd0 (ga_may (dir:=true) (want:=4) HF.out Hx.out Hfo.out hmay);have HX:=hd0 (li_bad (by decide) HG.out);rw[hmay]at HMy;clear hmay HG
    (refine wp_region_quiet_ext (by kernel_rfl) (by kernel_rfl) ?_;(repeat (go_big_quiet_step ((go_at_call 74;exact HMy.out _))));refine wpQuiet_nil ?_;intro _ hw';obtain⟨sq,hw''⟩:=hw';subst hw'')
    obtain⟨w5,hw5⟩:=sq;have HS5:=hd0 (S9.out.step hw5);clear q0 q1 q2 q3 q4 q5 q6 bl r0 r1 r2 r3 br S9 HMy;go_wp2;go_ret2;exact RetNs.empty HS5.out.ext HX.out
   | true =>
    have HG:=hd0 (ga_ok (dir:=true) (want:=4) HF.out Hx.out Hfo.out hmay);rw[hmay]at HMy;clear hmay
    (refine wp_region_quiet_ext (by kernel_rfl) (by kernel_rfl) ?_;(repeat (go_big_quiet_step ((go_at_call 74;exact HMy.out _))));refine wpQuiet_nil ?_;intro _ hw';obtain⟨sq,hw''⟩:=hw';subst hw'')
    obtain⟨w5,hw5⟩:=sq;have p0:=q0 ⟨w5,hw5⟩;have p1:=q1 ⟨w5,hw5⟩;have p2:=q2 ⟨w5,hw5⟩;have p3:=q3 ⟨w5,hw5⟩;have p4:=q4 ⟨w5,hw5⟩;have p5:=q5 ⟨w5,hw5⟩;have p6:=q6 ⟨w5,hw5⟩;have HS5:=hd0 (S9.out.step hw5);clear q0 q1 q2 q3 q4 q5 q6 bl r0 r1 r2 r3 br S9 HMy;have HX:=hd0 (li_ok HG.out Hx.out);have hE5:=HS5.out.ext;have E6:=(Ext.refl w5).alloc (.cells #[] 9);have rdA:Rd 1 encStr1 (w5.alloc (.cells #[] 9)) an x.N:=(Hrn.out.ext hE5).ext E6;have hNl:=HNl.out;have ep5:=cell_ext E6 p5
    go_wp2_with (at_builtin;refine wpList_append_lit rfl _ _ 39 rfl w5.heap.size 9 _ 1 _ Tryz.underlying39 infoStr1 rfl (by decide) encStr1_len encStr1_one w5.heap.size rfl (heap_alloc_new _ _) (Nat.le_refl _) an _ _ x.N rfl rfl rdA (by omega) (by omega) E6.size ?_)
    intro v6 w6 ho6 hE6;have HSB:=hd0 (((Sep.start w).step hE5).owned (E6.trans hE6) (Nat.le_refl _) ho6);clear ho6 hE6 E6 rdA hE5 ep5 p0 p1 p2 p3 p4 p5 p6;go_wp2;go_ret2;exact⟨_,by rw[HX.out];rfl,by rw[HX.out];exact HSB.out⟩
theorem specChangeMode (a:Option Addr) (cap:Nat) (T:List Nd) (c:Cr) (s:ByteArray) (md:Int) (w:World) (hs:s.size≤1048576) (hl:T.length≤1048576) (hT:∀x∈T,SmN 1048576 x) (hc:RdN w a T) :
  Calls Tryz.prog 39 #[.slice a T.length cap,.agg #[.int .i64 c.r,.int .i64 c.a,.int .i64 c.s,.int .i64 c.g],.string s,.int .i64 md] w (RetMk (changeMode T c s md) w):=by
 obtain⟨cr,ca,cs,cg⟩:=c;have HT:=hd0 hT;clear hT;dsimp only
 go_enter Tryz.func39,Tryz.ntmps39
 have S:=Sep.start w;replace S:=S.alloc_at (n:=w.heap.size) (by simp) #[.int .i64 cr,.int .i64 ca,.int .i64 cs,.int .i64 cg] 29
 go_wp2_with fail
 generalize (w.alloc (.cells #[.int .i64 cr,.int .i64 ca,.int .i64 cs,.int .i64 cg] 29))=w1 at *;refine(specFindNode a cap T ⟨cr,ca,cs,cg⟩ s w1 hs hl HT.out (hc.ext S.ext)).mono ?_;rintro e w2 ⟨rfl,hE⟩;replace S:=S.step hE;clear hE
 cases hMo:inB md 0 1023 with
 | false =>
  have HMo:=hd0 hMo;have HX:=hd0 (cm_mode (T:=T) (c:=⟨cr,ca,cs,cg⟩) (s:=s) hMo);clear hMo
  go_wp2_with (go_at_call 68;refine(l1In_is HMo.out _).mono ?_;rintro e w' ⟨rfl,rfl⟩)
  go_ret2;exact RetMk.empty S.ext HX.out
 | true =>
  have HMo:=hd0 hMo;clear hMo
  rcases find_cases T ⟨cr,ca,cs,cg⟩ s with⟨m,hF,hm_,hTr,hCo⟩|⟨f,hf,hF⟩
  rotate_left
  ·have HX:=hd0 (cm_fault HMo.out hf hF);rw[hF]
   have tf:(f == 0)=false:=by simpa using hf
   clear hF hf;dsimp only
   go_wp2_with (go_at_call 68;refine(l1In_is HMo.out _).mono ?_;rintro e w' ⟨rfl,rfl⟩)
   go_ret2;exact RetMk.empty S.ext HX.out
  ·obtain⟨x,b',off,an,cn,ak,ck,hx,rfl,_,c1,_⟩:=atNd hc hm_;have Hx:=hd0 hx;have HP:=hd0 (cm_at HMo.out hF hx);rw[hF]
   have i1:(m:Int) < (T.length:Int):=by omega
   have d1:=cell_ext S.ext c1;clear hx c1 hF hTr hCo;dsimp only;obtain⟨⟨bc0,bf0⟩,⟨bc1,bf1⟩,⟨bc2,bf2⟩,⟨bc3,bf3⟩⟩:=bx4 (S.box 0 rfl)
   go_wp2_with (first|(go_at_call 68;refine(l1In_is HMo.out _).mono ?_;rintro e w' ⟨rfl,rfl⟩)|fail)
   have q1:=ExtW.cell d1;have bl:=ExtW.lt d1;have r1:=ExtW.cell bc1;have br:=ExtW.lt bc1;have S9:=hd0 S;clear d1 bc0 bc1 bc2 bc3 bf0 bf1 bf2 bf3 S
   rcases(show ca=0∨(ca≠0∧ca=x.own)∨(ca≠0∧ca≠x.own)by omega)with hcase|hcase|hcase
   ·have HX:=hd0 (HP.out.trans (if_neg (fun h=>h.1 hcase)));have ta:ca=0:=hcase;clear hcase HP;subst ta
    (refine wp_region_quiet_ext (by kernel_rfl) (by kernel_rfl) ?_;(repeat (go_big_quiet_step ((fail))));refine wpQuiet_nil ?_;intro _ hw';obtain⟨sq,hw''⟩:=hw';subst hw'')
    obtain⟨w5,hw5⟩:=sq;have HS5:=hd0 (S9.out.step hw5);clear q1 bl r1 br S9
    go_wp2_with fail
    refine(specCopy (some ⟨b',off,none⟩) cap T w5 hl HT.out (hc.ext HS5.out.ext)).mono ?_;rintro e w7 ⟨u,vs,rfl,S7⟩;have S8:=S7.since HS5.out.ext;clear S7;obtain⟨xc,g,cap2,rfl,hcap2,hxc,hxn,hcell,hfz,_⟩:=S8.ndAt 0 rfl Hx.out;obtain⟨x',an',cn',ak',ck'⟩:=xc;dsimp only at hxn;subst hxn;have e3:=hcell 3 _ rfl;have SA:=S8.ndSet 0 rfl hxc Hx.out (x':=modeNd x' md) 3 (.int .i64 md) (by decide) rfl rfl rfl;have SB:Sep w (w7.setCell ⟨g,m*7+3,none⟩ (.int .i64 md)) [plNd (.slice (some ⟨g,0,none⟩) T.length cap2) (vs.set m ⟨modeNd x' md,an',cn',ak',ck'⟩) (T.set m (modeNd x' md))]:=SA;have HSB:=hd0 SB;clear SA SB S8 hcell hxc hcap2;go_wp2;go_ret2;exact⟨_,_,by rw[HX.out];rfl,by rw[HX.out];exact HSB.out⟩
   ·have HX:=hd0 (HP.out.trans (if_neg (fun h=>h.2 hcase.2)))
    have ta:(ca != 0)=true:=by simpa using hcase.1
    have to_:(ca != x.own)=false:=by simpa using hcase.2
    clear hcase HP
    (refine wp_region_quiet_ext (by kernel_rfl) (by kernel_rfl) ?_;(repeat (go_big_quiet_step ((fail))));refine wpQuiet_nil ?_;intro _ hw';obtain⟨sq,hw''⟩:=hw';subst hw'')
    obtain⟨w5,hw5⟩:=sq;have HS5:=hd0 (S9.out.step hw5);clear q1 bl r1 br S9
    go_wp2_with fail
    refine(specCopy (some ⟨b',off,none⟩) cap T w5 hl HT.out (hc.ext HS5.out.ext)).mono ?_;rintro e w7 ⟨u,vs,rfl,S7⟩;have S8:=S7.since HS5.out.ext;clear S7;obtain⟨xc,g,cap2,rfl,hcap2,hxc,hxn,hcell,hfz,_⟩:=S8.ndAt 0 rfl Hx.out;obtain⟨x',an',cn',ak',ck'⟩:=xc;dsimp only at hxn;subst hxn;have e3:=hcell 3 _ rfl;have SA:=S8.ndSet 0 rfl hxc Hx.out (x':=modeNd x' md) 3 (.int .i64 md) (by decide) rfl rfl rfl;have SB:Sep w (w7.setCell ⟨g,m*7+3,none⟩ (.int .i64 md)) [plNd (.slice (some ⟨g,0,none⟩) T.length cap2) (vs.set m ⟨modeNd x' md,an',cn',ak',ck'⟩) (T.set m (modeNd x' md))]:=SA;have HSB:=hd0 SB;clear SA SB S8 hcell hxc hcap2;go_wp2;go_ret2;exact⟨_,_,by rw[HX.out];rfl,by rw[HX.out];exact HSB.out⟩
   ·have HX:=hd0 (HP.out.trans (if_pos hcase))
    have ta:(ca != 0)=true:=by simpa using hcase.1
    have to_:(ca != x.own)=true:=by simpa using hcase.2
    clear hcase HP
    (refine wp_region_quiet_ext (by kernel_rfl) (by kernel_rfl) ?_;(repeat (go_big_quiet_step ((fail))));refine wpQuiet_nil ?_;intro _ hw';obtain⟨sq,hw''⟩:=hw';subst hw'')
    obtain⟨w5,hw5⟩:=sq;have HS5:=hd0 (S9.out.step hw5);clear q1 bl r1 br S9;go_wp2;go_ret2;exact RetMk.empty HS5.out.ext HX.out
theorem and7:∀q:Fin 1024,bits BinOp.and IntKind.i64 (q.val:Int) 7=(q.val:Int) % 8:=by decide +kernel
theorem and7' {q:Int} (h0:0≤q) (h1:q≤1023):bits BinOp.and IntKind.i64 q 7=q % 8:=by
 have:=and7 ⟨q.toNat,by omega⟩
 rwa [show((q.toNat:Nat):Int)=q by omega]at this
theorem and1:∀q:Fin 256,bits BinOp.and IntKind.i64 (q.val:Int) 1=(q.val:Int) % 2:=by decide +kernel
theorem and1' {q:Int} (h0:0≤q) (h1:q≤255):bits BinOp.and IntKind.i64 q 1=q % 2:=by
 have:=and1 ⟨q.toNat,by omega⟩
 rwa [show((q.toNat:Nat):Int)=q by omega]at this
theorem implRightsFor (mode cls:Int) (w:World) (hm:inB mode 0 1023=true) (hc:cls=0∨cls=1∨cls=2):Calls Tryz.prog 176 #[.int .i64 mode,.int .i64 cls] w fun e w'=>e=.returned (.int .i64 (rightsFor mode cls))∧w=w':=by
 obtain⟨b1,b2⟩:=inB_iff.1 hm
 rcases hc with rfl|rfl|rfl
 ·have HR:=hd0 (show rightsFor mode 0=mode / 64 % 8 by rw[rightsFor,if_pos ⟨hm,(by decide)⟩];simp)
  go_enter Tryz.func176,Tryz.ntmps176
  go_wp2;go_ret;exact⟨by rw[HR.out,←and7' (by omega) (by omega)];rfl,rfl⟩
 ·have HR:=hd0 (show rightsFor mode 1=mode / 8 % 8 by rw[rightsFor,if_pos ⟨hm,(by decide)⟩];simp)
  go_enter Tryz.func176,Tryz.ntmps176
  go_wp2;go_ret;exact⟨by rw[HR.out,←and7' (by omega) (by omega)];rfl,rfl⟩
 ·have HR:=hd0 (show rightsFor mode 2=mode % 8 by rw[rightsFor,if_pos ⟨hm,(by decide)⟩];simp)
  go_enter Tryz.func176,Tryz.ntmps176
  go_wp2;go_ret;exact⟨by rw[HR.out,←and7' (by omega) (by omega)];rfl,rfl⟩
theorem implHasGroup (gs g:Int) (w:World) (h1:inB gs 0 255=true) (h2:inB g 0 7=true):Calls Tryz.prog 188 #[.int .i64 gs,.int .i64 g] w fun e w'=>e=.returned (.bool (hasGroup gs g))∧w=w':=by
 obtain⟨a1,a2⟩:=inB_iff.1 h2;obtain⟨b1,b2⟩:=inB_iff.1 h1
 rcases(show g=0∨g=1∨g=2∨g=3∨g=4∨g=5∨g=6∨g=7 by omega)with rfl|rfl|rfl|rfl|rfl|rfl|rfl|rfl
 all_goals
  have HR:=hd0 h1;have H2:=hd0 h2;clear h1 h2
  go_enter Tryz.func188,Tryz.ntmps188
  go_wp2_with (first|(go_at_call 91;refine(within_is HR.out _).mono ?_;rintro e w' ⟨rfl,rfl⟩)|(go_at_call 139;refine(isGroup_is H2.out _).mono ?_;rintro e w' ⟨rfl,rfl⟩))
  go_ret;refine⟨?_,rfl⟩;rw[and1' (by omega) (by omega)];simp[hasGroup,HR.out,H2.out]
theorem implClassOf (r a s gs owner grp:Int) (w:World) (hc:CredOk r a s gs) (ho:inB owner 0 99=true) (hg:inB grp 0 7=true):Calls Tryz.prog 177 #[.agg #[.int .i64 r,.int .i64 a,.int .i64 s,.int .i64 gs],.int .i64 owner,.int .i64 grp] w (RetI (classOf r a s gs owner grp) w):=by
 have HC:=hd0 (classOf_good (r:=r) (a:=a) (s:=s) (gs:=gs) (owner:=owner) (grp:=grp) ⟨hc,ho,hg⟩);have HG:=hd0 (fun(w:World)=>implHasGroup gs grp w hc.2.2.2 hg);clear hc ho hg
 go_enter Tryz.func177,Tryz.ntmps177
 have S:=Sep.start w;replace S:=S.alloc_at (n:=w.heap.size) (by simp) #[.int .i64 r,.int .i64 a,.int .i64 s,.int .i64 gs] 29
 go_upto_region 1 with fail
 generalize (w.alloc (.cells #[.int .i64 r,.int .i64 a,.int .i64 s,.int .i64 gs] 29))=w1 at *;obtain⟨⟨bc0,bf0⟩,⟨bc1,bf1⟩,⟨bc2,bf2⟩,⟨bc3,bf3⟩⟩:=bx4 (S.box 0 rfl)
 by_cases h3:a=owner
 ·have HB:=hd0 (HC.out.trans (if_pos h3));subst h3;go_wp2;go_ret;exact⟨by rw[HB.out];rfl,S.ext⟩
 ·have t3:(a == owner)=false:=by simpa using h3
  have HN:=hd0 (HC.out.trans (if_neg h3));clear h3 HC
  cases h4:hasGroup gs grp with
  | false =>
   have HB:=hd0 (HN.out.trans (if_neg (by rw[h4];exact Bool.false_ne_true)));have H4:=hd0 h4;clear h4
   go_wp2_with (go_at_call 188;refine(HG.out _).mono ?_;rintro e w' ⟨rfl,rfl⟩;rw[H4.out])
   go_ret;exact⟨by rw[HB.out];rfl,S.ext⟩
  | true =>
   have HB:=hd0 (HN.out.trans (if_pos h4));have H4:=hd0 h4;clear h4
   go_wp2_with (go_at_call 188;refine(HG.out _).mono ?_;rintro e w' ⟨rfl,rfl⟩;rw[H4.out])
   go_ret;exact⟨by rw[HB.out];rfl,S.ext⟩
def bAnd (x y:Int):Int:=bits BinOp.and IntKind.i64 x y
def bOr (x y:Int):Int:=bits BinOp.or IntKind.i64 x y
def bNot (x y:Int):Int:=bits BinOp.andNot IntKind.i64 x y
theorem may_tab0:∀(r0 r1 r2:Fin 8) (c:Fin 3) (w:Fin 5),w.val≠0 →
  (bNot (w.val:Int) ((if c.val=0 then(r0.val:Int)else if c.val=1 then(r1.val:Int)else(r2.val:Int))) == 0 || (bAnd (w.val:Int) 1 == 0 || bAnd (bOr (bOr (r0.val:Int) (r1.val:Int)) (r2.val:Int)) 1 != 0))=((w.val:Int).tmod 2 == 0 || (bOr (bOr (r0.val:Int) (r1.val:Int)) (r2.val:Int)).tmod 2 == 1):=by decide +kernel
theorem may_tab1:∀(r0:Fin 8) (w:Fin 5),w.val≠0→(bNot (w.val:Int) (r0.val:Int) == 0)=(bAnd (r0.val:Int) (w.val:Int) == (w.val:Int)):=by decide +kernel
theorem rights_in {mode cls:Int} (hm:inB mode 0 1023=true) (hc:cls=0∨cls=1∨cls=2):0≤rightsFor mode cls∧rightsFor mode cls < 8:=by
 obtain⟨b1,b2⟩:=inB_iff.1 hm
 rcases hc with rfl|rfl|rfl
 ·rw[rightsFor,if_pos ⟨hm,(by decide)⟩];simp;omega
 ·rw[rightsFor,if_pos ⟨hm,(by decide)⟩];simp;omega
 ·rw[rightsFor,if_pos ⟨hm,(by decide)⟩];simp;omega
theorem classOf_in {r a s gs owner grp:Int} (hc:CredOk r a s gs) (ho:inB owner 0 99=true) (hg:inB grp 0 7=true):classOf r a s gs owner grp=0∨classOf r a s gs owner grp=1∨classOf r a s gs owner grp=2:=by
 rw[classOf_good ⟨hc,ho,hg⟩]
 split
 ·exact .inl rfl
 ·split
  ·exact .inr (.inl rfl)
  ·exact .inr (.inr rfl)
theorem may_same {r a s gs owner grp mode want:Int} (hc:CredOk r a s gs) (ho:inB owner 0 99=true) (hg:inB grp 0 7=true) (hm:inB mode 0 1023=true) (hw:1≤want∧want≤4) :
  mayDo r a s gs owner grp mode want=(bNot want (rightsFor mode (classOf r a s gs owner grp)) == 0 || (a == 0 && (bAnd want 1 == 0 || bAnd (bOr (bOr (rightsFor mode 0) (rightsFor mode 1)) (rightsFor mode 2)) 1 != 0))):=by
 have hcl:=classOf_in hc ho hg
 obtain⟨z,hz,hz3⟩:∃z:Nat,classOf r a s gs owner grp=(z:Int)∧z < 3:=by
  rcases hcl with h|h|h
  ·exact⟨0,h,by omega⟩
  ·exact⟨1,h,by omega⟩
  ·exact⟨2,h,by omega⟩
 have hq:=fun c h=>rights_in (cls:=c) hm h
 obtain⟨a0,a1⟩:=hq 0 (.inl rfl);obtain⟨b0,b1⟩:=hq 1 (.inr (.inl rfl));obtain⟨c0,c1⟩:=hq 2 (.inr (.inr rfl));obtain⟨x0,hx0⟩:∃x:Nat,rightsFor mode 0=x:=⟨(rightsFor mode 0).toNat,by omega⟩;obtain⟨x1,hx1⟩:∃x:Nat,rightsFor mode 1=x:=⟨(rightsFor mode 1).toNat,by omega⟩;obtain⟨x2,hx2⟩:∃x:Nat,rightsFor mode 2=x:=⟨(rightsFor mode 2).toNat,by omega⟩;obtain⟨u,hu⟩:∃u:Nat,want=u:=⟨want.toNat,by omega⟩
 have hcr:rightsFor mode (z:Int)=if z=0 then(x0:Int)else if z=1 then(x1:Int)else(x2:Int):=by
  rcases(show z=0∨z=1∨z=2 by omega)with rfl|rfl|rfl
  ·simpa using hx0
  ·simpa using hx1
  ·simpa using hx2
 rw[mayDo,hz,if_neg (show ¬(((z:Nat):Int) < 0∨inB mode 0 1023=false∨inB want 0 7=false)by
  rw[hm,show inB want 0 7=true from inB_iff.2 ⟨by omega,by omega⟩]
  simp),hcr]
 have e1:=may_tab0 ⟨x0,by omega⟩ ⟨x1,by omega⟩ ⟨x2,by omega⟩ ⟨z,hz3⟩ ⟨u,by omega⟩ (show u≠0 by omega);dsimp only at e1
 by_cases ha:a=0
 ·rw[if_pos ha,hx0,hx1,hx2,hu];rw[show(a == 0)=true by simpa using ha,Bool.true_and,e1];rfl
 ·rw[if_neg ha,show(a == 0)=false by simpa using ha,Bool.false_and,Bool.or_false,hu]
  rcases(show z=0∨z=1∨z=2 by omega)with rfl|rfl|rfl
  ·exact(may_tab1 ⟨x0,by omega⟩ ⟨u,by omega⟩ (show u≠0 by omega)).symm
  ·exact(may_tab1 ⟨x1,by omega⟩ ⟨u,by omega⟩ (show u≠0 by omega)).symm
  ·exact(may_tab1 ⟨x2,by omega⟩ ⟨u,by omega⟩ (show u≠0 by omega)).symm
theorem implMayDo (r a s gs owner grp mode want:Int) (w:World) (hc:CredOk r a s gs) (ho:inB owner 0 99=true) (hg:inB grp 0 7=true) (hm:inB mode 0 1023=true) (hw:1≤want∧want≤4) :
  Calls Tryz.prog 153 #[.agg #[.int .i64 r,.int .i64 a,.int .i64 s,.int .i64 gs],.int .i64 owner,.int .i64 grp,.int .i64 mode,.int .i64 want] w (fun e w'=>e=.returned (.bool (mayDo r a s gs owner grp mode want))∧Ext w w'):=by
 have HE:=hd0 (may_same hc ho hg hm hw);have HM:=hd0 hm;have HCl:=hd0 (classOf_in hc ho hg);have HCO:=hd0 (fun(w:World)=>implClassOf r a s gs owner grp w hc ho hg);clear hc ho hg hm
 go_enter Tryz.func153,Tryz.ntmps153
 have S:=Sep.start w;replace S:=S.alloc_at (n:=w.heap.size) (by simp) #[.int .i64 r,.int .i64 a,.int .i64 s,.int .i64 gs] 29
 go_upto_region 1 with fail
 generalize (w.alloc (.cells #[.int .i64 r,.int .i64 a,.int .i64 s,.int .i64 gs] 29))=w1 at *;obtain⟨⟨bc0,bf0⟩,⟨bc1,bf1⟩,⟨bc2,bf2⟩,⟨bc3,bf3⟩⟩:=bx4 (S.box 0 rfl)
 go_wp2_with fail
 refine(HCO.out w1).mono ?_;rintro e w2 ⟨rfl,hE⟩;clear bc0 bf0 bc1 bf1 bc2 bf2 bc3 bf3;replace S:=S.step hE;clear hE;generalize classOf r a s gs owner grp=cl at *;obtain⟨⟨bc0,bf0⟩,⟨bc1,bf1⟩,⟨bc2,bf2⟩,⟨bc3,bf3⟩⟩:=bx4 (S.box 0 rfl)
 cases hn:(bNot want (rightsFor mode cl) == 0)with
 | true =>
  have hn2:(bits BinOp.andNot IntKind.i64 want (rightsFor mode cl) == 0)=true:=hn;have HX:Hid (mayDo r a s gs owner grp mode want=true):=hd0 (by rw[HE.out,hn];rfl);clear hn HE
  go_wp2_with (go_at_call 176;refine(implRightsFor _ _ _ HM.out (by first|exact HCl.out|decide)).mono ?_;rintro e w' ⟨rfl,rfl⟩)
  go_ret;exact⟨by rw[HX.out];rfl,S.ext⟩
 | false =>
  have hn2:(bits BinOp.andNot IntKind.i64 want (rightsFor mode cl) == 0)=false:=hn;have HX:Hid (mayDo r a s gs owner grp mode want=(a == 0 && (bAnd want 1 == 0 || bAnd (bOr (bOr (rightsFor mode 0) (rightsFor mode 1)) (rightsFor mode 2)) 1 != 0))):=hd0 (by rw[HE.out,hn];rfl);clear hn HE
  go_wp2_with (go_at_call 176;refine(implRightsFor _ _ _ HM.out (by first|exact HCl.out|decide)).mono ?_;rintro e w' ⟨rfl,rfl⟩)
  all_goals go_ret
  all_goals exact⟨by rw[HX.out];first|rfl|(unfold bAnd bOr;simp_all),S.ext⟩
end Go.Proofs.YtnibbldfohbfkaaGreatDoor
