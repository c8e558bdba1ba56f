/- Parts of one proof: what each theorem proves, and its conditions, stand in its own statement. -/
import Derived.Deep.Cut
import Derived.Test.YtnibbldfohbfkaaGreatDoorMn1
set_option linter.all false
set_option maxRecDepth 100000
set_option maxHeartbeats 32000000
namespace Go.Proofs.YtnibbldfohbfkaaGreatDoor
open Go.RowKit
structure Pl where
 own:Nat→Prop
 ok:World→Prop
 frame:∀w w',ok w→(∀b,own b→w'.heap[b]?=w.heap[b]?)→ok w'
 lt:∀w b,ok w→own b→b < w.heap.size
structure Chg (S:Nat→Prop) (w w':World):Prop where
 os:w'.os=w.os
 tape:w'.tape=w.tape
 output:w'.output=w.output
 size:w.heap.size≤w'.heap.size
 block:∀k,k < w.heap.size→¬S k→w'.heap[k]?=w.heap[k]?
theorem Chg.refl (S:Nat→Prop) (w:World):Chg S w w:=⟨rfl,rfl,rfl,Nat.le_refl _,fun _ _ _=>rfl⟩
theorem Chg.of_ext {S:Nat→Prop} {w w':World} (h:Ext w w'):Chg S w w':=⟨h.os,h.tape,h.output,h.size,fun k hk _=>h.block k hk⟩
theorem Chg.trans {S:Nat→Prop} {a b c:World} (h:Chg S a b) (k:Chg S b c):Chg S a c :=
 ⟨k.os.trans h.os,k.tape.trans h.tape,k.output.trans h.output,Nat.le_trans h.size k.size,fun i hi hn=>(k.block i (Nat.lt_of_lt_of_le hi h.size) hn).trans (h.block i hi hn)⟩
theorem Chg.mono {S S':Nat→Prop} {w w':World} (h:Chg S w w') (hs:∀k,S k→k < w.heap.size→S' k):Chg S' w w' :=
 ⟨h.os,h.tape,h.output,h.size,fun k hk hn=>h.block k hk (fun hS=>hn (hs k hS hk))⟩
theorem Chg.of_grown {w w':World} {v:Value} (h:w.grownBy w' v.ownBlock):Chg (fun b=>v.ownBlock=some b) w w':=⟨h.os,h.tape,h.output,h.size,fun k hk hn=>h.block k hk (fun e=>hn e.symm)⟩
theorem Chg.of_row {w w':World} {row:Option Nat} (h:w.grownBy w' row):Chg (fun b=>row=some b) w w':=⟨h.os,h.tape,h.output,h.size,fun k hk hn=>h.block k hk (fun e=>hn e.symm)⟩
theorem Chg.grown {w w':World} {row:Option Nat} (h:Chg (fun b=>row=some b) w w'):w.grownBy w' row:=⟨h.os,h.tape,h.output,h.size,fun k hk hn=>h.block k hk (fun e=>hn e.symm)⟩
theorem Chg.setCell (w:World) (b o:Nat) (u:Value):Chg (fun k=>k=b) w (w.setCell ⟨b,o,none⟩ u) :=
 ⟨rfl,rfl,rfl,by simp[World.setCell],fun k _ hn=>Below.heap_setCell _ _ _ _ (fun e=>hn e)⟩
theorem Chg.ext {S:Nat→Prop} {w0 w w':World} (h:Ext w0 w) (hc:Chg S w w') (hS:∀k,S k→w0.heap.size≤k):Ext w0 w' :=
 ⟨hc.os.trans h.os,hc.tape.trans h.tape,hc.output.trans h.output,Nat.le_trans h.size hc.size,fun k hk=>(hc.block k (Nat.lt_of_lt_of_le hk h.size) (fun hs=>by have:=hS k hs;omega)).trans (h.block k hk)⟩
def plBox (b:Nat) (C:Array Value) (t:TypeId):Pl where
 own k:=k=b
 ok w:=w.heap[b]?=some (.cells C t)
 frame:=fun w w' h hf=>(hf b rfl).trans h
 lt:=fun w k h e=>by
  subst e
  rcases Nat.lt_or_ge k w.heap.size with h3|h3
  ·exact h3
  ·rw[Array.getElem?_eq_none h3]at h;cases h
def plRow {α:Type} (e nf:Nat) (enc:α→List Value) (u:Value) (l:List α):Pl where
 own k:=u.ownBlock=some k
 ok w:=w.ownsRow 0 e nf u l.length (l.flatMap enc)
 frame:=fun w w' h hf=>by
  refine⟨h.1,?_⟩
  rcases h.2 with h2|⟨g,cap,cur,hv,hb,hh,r⟩
  ·exact .inl h2
  ·exact .inr ⟨g,cap,cur,hv,hb,by rw[hf g (by rw[hv];rfl)];exact hh,r⟩
 lt:=fun w k h e=>(World.ownsRow.lt h k e).2
structure SepM (M:Nat→Prop) (w0 w:World) (H:List Pl):Prop where
 chg:Chg M w0 w
 small:∀b,M b→b < w0.heap.size
 ok:∀p∈H,p.ok w
 base:∀p∈H,∀b,p.own b→w0.heap.size≤b
 apart:H.Pairwise (fun p q=>∀b,p.own b→¬q.own b)
abbrev Sep (w0 w:World) (H:List Pl):Prop:=SepM (fun _=>False) w0 w H
theorem SepM.ext {w0 w:World} {H:List Pl} (S:Sep w0 w H):Ext w0 w:=⟨S.chg.os,S.chg.tape,S.chg.output,S.chg.size,fun k hk=>S.chg.block k hk (fun h=>h)⟩
theorem Sep.start (w:World):Sep w w []:=⟨Chg.refl _ w,by simp,by simp,by simp,.nil⟩
theorem Sep.of_ext {w0 w:World} (h:Ext w0 w):Sep w0 w []:=⟨Chg.of_ext h,by simp,by simp,by simp,.nil⟩
theorem SepM.begin (M:Nat→Prop) (w:World) (hM:∀b,M b→b < w.heap.size):SepM M w w []:=⟨Chg.refl _ w,hM,by simp,by simp,.nil⟩
theorem SepM.lt {M:Nat→Prop} {w0 w:World} {H:List Pl} (S:SepM M w0 w H) {p:Pl} (hp:p∈H) {b:Nat} (hb:p.own b):w0.heap.size≤b∧b < w.heap.size:=⟨S.base p hp b hb,p.lt w b (S.ok p hp) hb⟩
theorem SepM.step {M:Nat→Prop} {w0 w w':World} {H:List Pl} (S:SepM M w0 w H) (hE:Ext w w'):SepM M w0 w' H :=
 ⟨S.chg.trans (Chg.of_ext hE),S.small,fun p hp=>p.frame w w' (S.ok p hp) (fun b hb=>hE.block b (S.lt hp hb).2),S.base,S.apart⟩
theorem SepM.drew {M:Nat→Prop} {w0 w:World} {H:List Pl} (S:SepM M w0 w H):SepM M w0 w.drew H:=S.step (Ext.refl w).drew
theorem SepM.drewN {M:Nat→Prop} {w0 w:World} {H:List Pl} (S:SepM M w0 w H) (n:Nat):SepM M w0 (w.drewN n) H:=S.step ((Ext.refl w).drewN n)
theorem SepM.call {M:Nat→Prop} {w0 w w':World} {H H':List Pl} (S:SepM M w0 w H) (T:Sep w w' H'):SepM M w0 w' (H' ++ H) :=
 ⟨S.chg.trans (Chg.of_ext T.ext),S.small,fun p hp=>by
  rcases List.mem_append.1 hp with h|h
  ·exact T.ok p h
  ·exact(S.step T.ext).ok p h,fun p hp b hb=>by
  rcases List.mem_append.1 hp with h|h
  ·exact Nat.le_trans S.chg.size (T.base p h b hb)
  ·exact S.base p h b hb,List.pairwise_append.2 ⟨T.apart,S.apart,fun p hp q hq b hb hc=>by
  have h1:=T.base p hp b hb;have h2:=(S.lt hq hc).2
  omega⟩⟩
theorem SepM.cons {M:Nat→Prop} {w0 w w':World} {H:List Pl} {p:Pl} (S:SepM M w0 w H) (hE:Ext w w') (hp:p.ok w') (hn:∀b,p.own b→w.heap.size≤b):SepM M w0 w' (p :: H) :=
 S.call (H':=[p]) ⟨Chg.of_ext hE,by simp,fun q hq=>by rw[List.mem_singleton.1 hq];exact hp,fun q hq b hb=>by rw[List.mem_singleton.1 hq]at hb;exact hn b hb,List.pairwise_singleton _ _⟩
theorem Sep.one {w w':World} {p:Pl} (hE:Ext w w') (hp:p.ok w') (hn:∀b,p.own b→w.heap.size≤b):Sep w w' [p]:=(Sep.start w).cons hE hp hn
theorem SepM.alloc {M:Nat→Prop} {w0 w:World} {H:List Pl} (S:SepM M w0 w H) (C:Array Value) (t:TypeId):SepM M w0 (w.alloc (.cells C t)) (plBox w.heap.size C t :: H) :=
 S.cons ((Ext.refl w).alloc _) (heap_alloc_new w _) (fun b hb=>by
  have:b=w.heap.size:=hb
  omega)
theorem SepM.alloc_at {M:Nat→Prop} {w0 w:World} {H:List Pl} {n:Nat} (S:SepM M w0 w H) (hn:n=w.heap.size) (C:Array Value) (t:TypeId):SepM M w0 (w.alloc (.cells C t)) (plBox n C t :: H):=by subst hn;exact S.alloc C t
theorem SepM.owned {α:Type} {M:Nat→Prop} {w0 w w':World} {H:List Pl} (S:SepM M w0 w H) (hE:Ext w w') {base e nf:Nat} {enc:α→List Value} {v:Value} {l:List α} (hb:w.heap.size≤base) (h:w'.ownsRow base e nf v l.length (l.flatMap enc)):SepM M w0 w' (plRow e nf enc v l :: H) :=
 S.cons hE (ownsRow_base h (Nat.zero_le _)) (fun b hb2=>Nat.le_trans hb (World.ownsRow.lt h b hb2).1)
theorem SepM.lit0 {α:Type} {M:Nat→Prop} {w0 w:World} {H:List Pl} (S:SepM M w0 w H) {n:Nat} (hn:n=w.heap.size) (e nf:Nat) (enc:α→List Value):SepM M w0 (w.alloc (.cells #[] e)) (plRow e nf enc (.slice (some ⟨n,0,none⟩) 0 0) [] :: H):=by
 subst hn
 exact S.cons (p:=plRow e nf enc (.slice (some ⟨w.heap.size,0,none⟩) 0 0) []) ((Ext.refl w).alloc _) ⟨by simp,.inr ⟨w.heap.size,0,#[],rfl,Nat.zero_le _,heap_alloc_new w _,Nat.le_refl _,Nat.zero_le _,by simp,by simp⟩⟩ (fun b hb=>by
  have:w.heap.size=b:=Option.some.inj hb
  omega)
theorem SepM.nil {α:Type} {M:Nat→Prop} {w0 w:World} {H:List Pl} (S:SepM M w0 w H) (e nf:Nat) (enc:α→List Value):SepM M w0 w (plRow e nf enc (.slice none 0 0) [] :: H) :=
 S.cons (Ext.refl w) (World.ownsRow_nil _ _ _ _) (fun b hb=>by cases hb)
theorem SepM.lit {α:Type} {M:Nat→Prop} {w0 w:World} {H:List Pl} (S:SepM M w0 w H) {n:Nat} (hn:n=w.heap.size) (e nf:Nat) {enc:α→List Value} (hlen:∀x,(enc x).length=nf) (l:List α) {C:Array Value} {m:Nat} (hC:C.toList=l.flatMap enc) (hm:m=l.length) (hsm:m≤1000000000):SepM M w0 (w.alloc (.cells C e)) (plRow e nf enc (.slice (some ⟨n,0,none⟩) m m) l :: H):=by
 subst hn hm
 exact S.cons (p:=plRow e nf enc (.slice (some ⟨w.heap.size,0,none⟩) l.length l.length) l) ((Ext.refl w).alloc _) (by
  have hsz:C.size=l.length*nf:=by rw[←Array.length_toList,hC,flatMap_length hlen]
  refine⟨flatMap_length hlen l,.inr ⟨w.heap.size,l.length,C,rfl,Nat.zero_le _,heap_alloc_new w _,Nat.le_refl _,by unfold maxLen;omega,hsz,?_⟩⟩
  rw[hC,List.take_of_length_le (by rw[flatMap_length hlen];exact Nat.le_refl _)]) (fun b hb=>by
  have:w.heap.size=b:=Option.some.inj hb
  omega)
theorem SepM.at_ {M:Nat→Prop} {w0 w:World} {H:List Pl} (S:SepM M w0 w H) (i:Nat) {p:Pl} (h:H[i]?=some p):p.ok w:=S.ok p (List.mem_of_getElem? h)
theorem SepM.box {M:Nat→Prop} {w0 w:World} {H:List Pl} (S:SepM M w0 w H) (i:Nat) {b:Nat} {C:Array Value} {t:TypeId} (h:H[i]?=some (plBox b C t)):w.heap[b]?=some (.cells C t):=S.at_ i h
theorem SepM.ge {M:Nat→Prop} {w0 w:World} {H:List Pl} (S:SepM M w0 w H) (i:Nat) {b:Nat} {C:Array Value} {t:TypeId} (h:H[i]?=some (plBox b C t)):w0.heap.size≤b∧b < w.heap.size:=S.lt (List.mem_of_getElem? h) (show b=b from rfl)
theorem SepM.row {α:Type} {M:Nat→Prop} {w0 w:World} {H:List Pl} (S:SepM M w0 w H) (i:Nat) {e nf:Nat} {enc:α→List Value} {v:Value} {l:List α} (h:H[i]?=some (plRow e nf enc v l)):w.ownsRow w0.heap.size e nf v l.length (l.flatMap enc):=by
 have h0:w.ownsRow 0 e nf v l.length (l.flatMap enc):=S.at_ i h;refine⟨h0.1,?_⟩
 rcases h0.2 with h2|⟨g,cap,cur,hv,hb,r⟩
 ·exact .inl h2
 ·exact .inr ⟨g,cap,cur,hv,(S.lt (List.mem_of_getElem? h) (show v.ownBlock=some g by rw[hv];rfl)).1,r⟩
theorem SepM.ne {M:Nat→Prop} {w0 w:World} {H:List Pl} (S:SepM M w0 w H) {i j:Nat} {p q:Pl} (hi:H[i]?=some p) (hj:H[j]?=some q) (hij:i≠j) {b:Nat} (hb:p.own b):¬q.own b:=by
 have hp:=List.pairwise_iff_getElem.1 S.apart;obtain⟨i1,i2⟩:=List.getElem?_eq_some_iff.1 hi;obtain⟨j1,j2⟩:=List.getElem?_eq_some_iff.1 hj
 rcases Nat.lt_or_gt_of_ne hij with h|h
 ·have:=hp i j i1 j1 h b (by rw[i2];exact hb)
  rwa [j2]at this
 ·intro e;have:=hp j i j1 i1 h b (by rw[j2];exact e);rw[i2]at this;exact this hb
theorem SepM.bne {M:Nat→Prop} {w0 w:World} {H:List Pl} (S:SepM M w0 w H) (i j:Nat) {b c:Nat} {C D:Array Value} {t s:TypeId} (hi:H[i]?=some (plBox b C t)) (hj:H[j]?=some (plBox c D s)) (hij:i≠j):b≠c:=fun e=>S.ne hi hj hij (show b=b from rfl) e
theorem SepM.put {M:Nat→Prop} {w0 w w':World} {H:List Pl} (S:SepM M w0 w H) (i:Nat) {p q:Pl} (h:H[i]?=some p) (hg:Chg p.own w w') (hq:q.ok w') (hblk:∀b,q.own b→p.own b∨w.heap.size≤b):SepM M w0 w' (H.set i q):=by
 have hm:=List.mem_of_getElem? h;have hi:=(List.getElem?_eq_some_iff.1 h).1
 have hok:∀j r,H[j]?=some r→j≠i→r.ok w':=fun j r hj hne =>
  r.frame w w' (S.at_ j hj) (fun b hb=>hg.block b (S.lt (List.mem_of_getElem? hj) hb).2 (fun e=>S.ne h hj (fun e=>hne e.symm) e hb))
 refine⟨⟨hg.os.trans S.chg.os,hg.tape.trans S.chg.tape,hg.output.trans S.chg.output,Nat.le_trans S.chg.size hg.size,fun k hk hn=>(hg.block k (Nat.lt_of_lt_of_le hk S.chg.size) (fun hs=>by have:=(S.lt hm hs).1;omega)).trans (S.chg.block k hk hn)⟩,S.small,fun r hr=>?_,fun r hr b hb=>?_,?_⟩
 ·obtain⟨j,hj⟩:=List.getElem?_of_mem hr
  by_cases hji:i=j
  ·subst hji;rw[List.getElem?_set_self hi]at hj
   cases hj;exact hq
  ·rw[List.getElem?_set_ne hji]at hj;exact hok j r hj (fun e=>hji e.symm)
 ·obtain⟨j,hj⟩:=List.getElem?_of_mem hr
  by_cases hji:i=j
  ·subst hji;rw[List.getElem?_set_self hi]at hj
   cases hj
   rcases hblk b hb with h2|h2
   ·exact(S.lt hm h2).1
   ·exact Nat.le_trans S.chg.size h2
  ·rw[List.getElem?_set_ne hji]at hj;exact S.base r (List.mem_of_getElem? hj) b hb
 ·rw[List.pairwise_iff_getElem];intro j k hj hk hjk b hb;simp only[List.length_set]at hj hk;rw[List.getElem_set]at hb ⊢;have h1:=List.pairwise_iff_getElem.1 S.apart j k hj hk hjk
  by_cases e1:i=j
  ·subst e1;rw[if_pos rfl]at hb;rw[if_neg (by omega)]
   rcases hblk b hb with h2|h2
   ·exact S.ne h (List.getElem?_eq_getElem hk) (by omega) h2
   ·intro e;have:=(S.lt (List.getElem_mem hk) e).2;omega
  ·rw[if_neg e1]at hb
   by_cases e2:i=k
   ·subst e2;rw[if_pos rfl];intro e
    rcases hblk b e with h2|h2
    ·exact S.ne (List.getElem?_eq_getElem hj) h (by omega) hb h2
    ·have:=(S.lt (List.getElem_mem hj) hb).2;omega
   ·rw[if_neg e2];exact h1 b hb
theorem SepM.set {M:Nat→Prop} {w0 w:World} {H:List Pl} (S:SepM M w0 w H) (i:Nat) {b:Nat} {C:Array Value} {t:TypeId} (h:H[i]?=some (plBox b C t)) (o:Nat) (u:Value):SepM M w0 (w.setCell ⟨b,o,none⟩ u) (H.set i (plBox b (C.setIfInBounds o u) t)) :=
 S.put i h (Chg.setCell w b o u) (by
  have:=S.box i h
  show(w.setCell ⟨b,o,none⟩ u).heap[b]?=_
  simp[World.setCell,Array.getElem?_modify,this]) (fun c hc=>.inl hc)
theorem SepM.grow {α:Type} {M:Nat→Prop} {w0 w w':World} {H:List Pl} (S:SepM M w0 w H) (i:Nat) {base e nf:Nat} {enc:α→List Value} {v v':Value} {l l':List α} (h:H[i]?=some (plRow e nf enc v l)) (hg:w.grownBy w' v.ownBlock) (ho:w'.ownsRow base e nf v' l'.length (l'.flatMap enc)) (hblk:∀b,v'.ownBlock=some b→v.ownBlock=some b∨w.heap.size≤b):SepM M w0 w' (H.set i (plRow e nf enc v' l')) :=
 S.put i h (Chg.of_grown hg) (ownsRow_base ho (Nat.zero_le _)) hblk
theorem SepM.rowSet {α:Type} {M:Nat→Prop} {w0 w:World} {H:List Pl} (S:SepM M w0 w H) (i:Nat) {e nf:Nat} {enc:α→List Value} (hn:∀x,(enc x).length=nf) {g n cap:Nat} {L:List α} (h:H[i]?=some (plRow e nf enc (.slice (some ⟨g,0,none⟩) n cap) L)) (hnL:n=L.length) (k j:Nat) (u:Value) (x':α) (hk:k < L.length) (hj:j < nf) (hx:enc x'=(enc L[k]).set j u) :
  SepM M w0 (w.setCell ⟨g,k*nf+j,none⟩ u) (H.set i (plRow e nf enc (.slice (some ⟨g,0,none⟩) n cap) (L.set k x'))):=by
 subst hnL;have h0:=S.row i h;refine S.put i h ((Chg.setCell w g (k*nf+j) u).mono (fun b hb _=>by show some g=some b;rw[hb])) ?_ (fun b hb=>.inl hb);have:=owns_set hn (ownsRow_base h0 (Nat.zero_le _)) k j u x' hk hj hx
 show World.ownsRow _ 0 e nf _ (L.set k x').length _
 rw[List.length_set];exact this
theorem SepM.keep {M:Nat→Prop} {w0 w:World} {H:List Pl} (S:SepM M w0 w H) (H':List Pl) (h:H'.Sublist H):SepM M w0 w H' :=
 ⟨S.chg,S.small,fun p hp=>S.ok p (h.subset hp),fun p hp=>S.base p (h.subset hp),S.apart.sublist h⟩
theorem SepM.drop {M:Nat→Prop} {w0 w:World} {H:List Pl} (S:SepM M w0 w H) (i:Nat):SepM M w0 w (H.eraseIdx i):=S.keep _ (List.eraseIdx_sublist ..)
theorem SepM.perm {M:Nat→Prop} {w0 w:World} {H H':List Pl} (S:SepM M w0 w H) (h:H.Perm H'):SepM M w0 w H' :=
 ⟨S.chg,S.small,fun p hp=>S.ok p (h.mem_iff.2 hp),fun p hp=>S.base p (h.mem_iff.2 hp),S.apart.perm h (fun hab b hb ha=>hab b ha hb)⟩
theorem Sep.since {w0 w1 w:World} {H:List Pl} (S:Sep w1 w H) (hE:Ext w0 w1):Sep w0 w H:=by
 have:=(Sep.of_ext hE).call S
 rwa [List.append_nil]at this
theorem bx {w:World} {b:Nat} {C:Array Value} {t:TypeId} (h:w.heap[b]?=some (.cells C t)) (o:Nat) {v:Value} (hv:C[o]?=some v):w.cell? ⟨b,o,none⟩=some v∧w.frozen? ⟨b,o,none⟩=false:=by
 refine⟨?_,?_⟩
 ·simp[World.cell?,h,hv]
 ·simp[World.frozen?,h]
theorem bx2 {w:World} {b t:Nat} {a0 a1:Value} (h:w.heap[b]?=some (.cells #[a0,a1] t)):(w.cell? ⟨b,0,none⟩=some a0∧w.frozen? ⟨b,0,none⟩=false)∧(w.cell? ⟨b,1,none⟩=some a1∧w.frozen? ⟨b,1,none⟩=false) :=
 ⟨bx h 0 rfl,bx h 1 rfl⟩
theorem bx3 {w:World} {b t:Nat} {a0 a1 a2:Value} (h:w.heap[b]?=some (.cells #[a0,a1,a2] t)):(w.cell? ⟨b,0,none⟩=some a0∧w.frozen? ⟨b,0,none⟩=false)∧(w.cell? ⟨b,1,none⟩=some a1∧w.frozen? ⟨b,1,none⟩=false)∧(w.cell? ⟨b,2,none⟩=some a2∧w.frozen? ⟨b,2,none⟩=false) :=
 ⟨bx h 0 rfl,bx h 1 rfl,bx h 2 rfl⟩
theorem bx4 {w:World} {b t:Nat} {a0 a1 a2 a3:Value} (h:w.heap[b]?=some (.cells #[a0,a1,a2,a3] t)):(w.cell? ⟨b,0,none⟩=some a0∧w.frozen? ⟨b,0,none⟩=false)∧(w.cell? ⟨b,1,none⟩=some a1∧w.frozen? ⟨b,1,none⟩=false)∧(w.cell? ⟨b,2,none⟩=some a2∧w.frozen? ⟨b,2,none⟩=false)∧(w.cell? ⟨b,3,none⟩=some a3∧w.frozen? ⟨b,3,none⟩=false) :=
 ⟨bx h 0 rfl,bx h 1 rfl,bx h 2 rfl,bx h 3 rfl⟩
theorem bx5 {w:World} {b t:Nat} {a0 a1 a2 a3 a4:Value} (h:w.heap[b]?=some (.cells #[a0,a1,a2,a3,a4] t)):(w.cell? ⟨b,0,none⟩=some a0∧w.frozen? ⟨b,0,none⟩=false)∧(w.cell? ⟨b,1,none⟩=some a1∧w.frozen? ⟨b,1,none⟩=false)∧(w.cell? ⟨b,2,none⟩=some a2∧w.frozen? ⟨b,2,none⟩=false)∧(w.cell? ⟨b,3,none⟩=some a3∧w.frozen? ⟨b,3,none⟩=false)∧(w.cell? ⟨b,4,none⟩=some a4∧w.frozen? ⟨b,4,none⟩=false) :=
 ⟨bx h 0 rfl,bx h 1 rfl,bx h 2 rfl,bx h 3 rfl,bx h 4 rfl⟩
theorem bx6 {w:World} {b t:Nat} {a0 a1 a2 a3 a4 a5:Value} (h:w.heap[b]?=some (.cells #[a0,a1,a2,a3,a4,a5] t)):(w.cell? ⟨b,0,none⟩=some a0∧w.frozen? ⟨b,0,none⟩=false)∧(w.cell? ⟨b,1,none⟩=some a1∧w.frozen? ⟨b,1,none⟩=false)∧(w.cell? ⟨b,2,none⟩=some a2∧w.frozen? ⟨b,2,none⟩=false)∧(w.cell? ⟨b,3,none⟩=some a3∧w.frozen? ⟨b,3,none⟩=false)∧(w.cell? ⟨b,4,none⟩=some a4∧w.frozen? ⟨b,4,none⟩=false)∧(w.cell? ⟨b,5,none⟩=some a5∧w.frozen? ⟨b,5,none⟩=false) :=
 ⟨bx h 0 rfl,bx h 1 rfl,bx h 2 rfl,bx h 3 rfl,bx h 4 rfl,bx h 5 rfl⟩
theorem bx7 {w:World} {b t:Nat} {a0 a1 a2 a3 a4 a5 a6:Value} (h:w.heap[b]?=some (.cells #[a0,a1,a2,a3,a4,a5,a6] t)):(w.cell? ⟨b,0,none⟩=some a0∧w.frozen? ⟨b,0,none⟩=false)∧(w.cell? ⟨b,1,none⟩=some a1∧w.frozen? ⟨b,1,none⟩=false)∧(w.cell? ⟨b,2,none⟩=some a2∧w.frozen? ⟨b,2,none⟩=false)∧(w.cell? ⟨b,3,none⟩=some a3∧w.frozen? ⟨b,3,none⟩=false)∧(w.cell? ⟨b,4,none⟩=some a4∧w.frozen? ⟨b,4,none⟩=false)∧(w.cell? ⟨b,5,none⟩=some a5∧w.frozen? ⟨b,5,none⟩=false)∧(w.cell? ⟨b,6,none⟩=some a6∧w.frozen? ⟨b,6,none⟩=false) :=
 ⟨bx h 0 rfl,bx h 1 rfl,bx h 2 rfl,bx h 3 rfl,bx h 4 rfl,bx h 5 rfl,bx h 6 rfl⟩
theorem lc3 {i:Nat} (h:i < 3):i=0∨i=1∨i=2:=by omega
theorem lc5 {i:Nat} (h:i < 5):i=0∨i=1∨i=2∨i=3∨i=4:=by omega
theorem lc7 {i:Nat} (h:i < 7):i=0∨i=1∨i=2∨i=3∨i=4∨i=5∨i=6:=by omega
theorem lc8 {i:Nat} (h:i < 8):i=0∨i=1∨i=2∨i=3∨i=4∨i=5∨i=6∨i=7:=by omega
theorem lc9 {i:Nat} (h:i < 9):i=0∨i=1∨i=2∨i=3∨i=4∨i=5∨i=6∨i=7∨i=8:=by omega
theorem lc10 {i:Nat} (h:i < 10):i=0∨i=1∨i=2∨i=3∨i=4∨i=5∨i=6∨i=7∨i=8∨i=9:=by omega
theorem lc11 {i:Nat} (h:i < 11):i=0∨i=1∨i=2∨i=3∨i=4∨i=5∨i=6∨i=7∨i=8∨i=9∨i=10:=by omega
theorem lc12 {i:Nat} (h:i < 12):i=0∨i=1∨i=2∨i=3∨i=4∨i=5∨i=6∨i=7∨i=8∨i=9∨i=10∨i=11:=by omega
theorem lc13 {i:Nat} (h:i < 13):i=0∨i=1∨i=2∨i=3∨i=4∨i=5∨i=6∨i=7∨i=8∨i=9∨i=10∨i=11∨i=12:=by omega
theorem lc14 {i:Nat} (h:i < 14):i=0∨i=1∨i=2∨i=3∨i=4∨i=5∨i=6∨i=7∨i=8∨i=9∨i=10∨i=11∨i=12∨i=13:=by omega
theorem lc15 {i:Nat} (h:i < 15):i=0∨i=1∨i=2∨i=3∨i=4∨i=5∨i=6∨i=7∨i=8∨i=9∨i=10∨i=11∨i=12∨i=13∨i=14:=by omega
theorem hd0 {p:Prop} (h:p):Hid p:=Lib.hid h
theorem Sep.of_owns {α:Type} {w w':World} {e nf:Nat} {enc:α→List Value} {v:Value} {l:List α} (hE:Ext w w') (h:w'.ownsRow w.heap.size e nf v l.length (l.flatMap enc)):Sep w w' [plRow e nf enc v l] :=
 (Sep.start w).owned hE (Nat.le_refl _) h
theorem SepM.rd {α:Type} {M:Nat→Prop} {w0 w:World} {H:List Pl} (S:SepM M w0 w H) (i:Nat) {e nf:Nat} {enc:α→List Value} (hn:∀x,(enc x).length=nf) {a:Option Addr} {cap n:Nat} {l:List α} (h:H[i]?=some (plRow e nf enc (.slice a n cap) l)) (hl:n=l.length):Rd nf enc w a l:=by
 subst hl;exact rd_owns hn (S.row i h) rfl
theorem SepM.other {M:Nat→Prop} {w0 w w':World} {H:List Pl} (S:SepM M w0 w H) (hc:Chg M w w'):SepM M w0 w' H :=
 ⟨S.chg.trans hc,S.small,fun p hp=>p.frame w w' (S.ok p hp) (fun b hb=>hc.block b (S.lt hp hb).2 (fun hm=>by
  have h1:=S.small b hm;have h2:=(S.lt hp hb).1
  omega)),S.base,S.apart⟩
theorem SepM.otherCall {M:Nat→Prop} {w0 w w':World} {H:List Pl} (H':List Pl) (S:SepM M w0 w H) (hc:Chg M w w') (hp:∀p∈H',p.ok w') (hn:∀p∈H',∀b,p.own b→w.heap.size≤b) (hap:H'.Pairwise (fun p q=>∀b,p.own b→¬q.own b)):SepM M w0 w' (H' ++ H):=by
 have S':=S.other hc;refine⟨S'.chg,S.small,fun q hq=>?_,fun q hq b h=>?_,List.pairwise_append.2 ⟨hap,S.apart,fun q hq r hr b h h2=>?_⟩⟩
 ·rcases List.mem_append.1 hq with hq|hq
  ·exact hp q hq
  ·exact S'.ok q hq
 ·rcases List.mem_append.1 hq with hq|hq
  ·exact Nat.le_trans S.chg.size (hn q hq b h)
  ·exact S.base q hq b h
 ·have h3:=(S.lt hr h2).2;have h4:=hn q hq b h;omega
def RetSep (Q:Value→List Pl→Prop) (w:World) (e:Ending) (w':World):Prop:=∃v H,e=.returned v∧Q v H∧Sep w w' H
theorem RetSep.mk {Q:Value→List Pl→Prop} {w w':World} {v:Value} {H:List Pl} (h:Q v H) (S:Sep w w' H):RetSep Q w (.returned v) w':=⟨v,H,rfl,h,S⟩
structure Sl where
 a:Option Addr
 n:Nat
 c:Nat
def Sl.v (s:Sl):Value:=.slice s.a s.n s.c
def RdT (w:World) (a:Option Addr) (T:List (List Int)):Prop :=
 ∀i t,T[i]?=some t→∃b off ai ci,a=some ⟨b,off,none⟩∧w.cell? ⟨b,off+i,none⟩=some (.slice ai t.length ci)∧t.length≤ci∧Rd 1 encInt1 w ai t
theorem RdT.ext {w w':World} {a:Option Addr} {T:List (List Int)} (h:RdT w a T) (hb:Ext w w'):RdT w' a T:=by
 intro i t hi;obtain⟨b,off,ai,ci,ha,hc,hl,hr⟩:=h i t hi;exact⟨b,off,ai,ci,ha,cell_ext hb hc,hl,hr.ext hb⟩
theorem RdT.nil {w:World} {a:Option Addr}:RdT w a []:=fun i t h=>by simp at h
theorem SepM.put' {M:Nat→Prop} {w0 w w':World} {H:List Pl} (S:SepM M w0 w H) (i:Nat) {p q:Pl} (h:H[i]?=some p) (hg:Chg p.own w w') (hq:q.ok w') (hblk:∀b,q.own b→p.own b∨w.heap.size≤b∨(w0.heap.size≤b∧∀r∈H,¬r.own b)):SepM M w0 w' (H.set i q):=by
 have hm:=List.mem_of_getElem? h;have hi:=(List.getElem?_eq_some_iff.1 h).1
 have hok:∀j r,H[j]?=some r→j≠i→r.ok w':=fun j r hj hne =>
  r.frame w w' (S.at_ j hj) (fun b hb=>hg.block b (S.lt (List.mem_of_getElem? hj) hb).2 (fun e=>S.ne h hj (fun e=>hne e.symm) e hb))
 refine⟨⟨hg.os.trans S.chg.os,hg.tape.trans S.chg.tape,hg.output.trans S.chg.output,Nat.le_trans S.chg.size hg.size,fun k hk hn=>(hg.block k (Nat.lt_of_lt_of_le hk S.chg.size) (fun hs=>by have:=(S.lt hm hs).1;omega)).trans (S.chg.block k hk hn)⟩,S.small,fun r hr=>?_,fun r hr b hb=>?_,?_⟩
 ·obtain⟨j,hj⟩:=List.getElem?_of_mem hr
  by_cases hji:i=j
  ·subst hji;rw[List.getElem?_set_self hi]at hj
   cases hj;exact hq
  ·rw[List.getElem?_set_ne hji]at hj;exact hok j r hj (fun e=>hji e.symm)
 ·obtain⟨j,hj⟩:=List.getElem?_of_mem hr
  by_cases hji:i=j
  ·subst hji;rw[List.getElem?_set_self hi]at hj
   cases hj
   rcases hblk b hb with h2|h2|h2
   ·exact(S.lt hm h2).1
   ·exact Nat.le_trans S.chg.size h2
   ·exact h2.1
  ·rw[List.getElem?_set_ne hji]at hj;exact S.base r (List.mem_of_getElem? hj) b hb
 ·rw[List.pairwise_iff_getElem];intro j k hj hk hjk b hb;simp only[List.length_set]at hj hk;rw[List.getElem_set]at hb ⊢;have h1:=List.pairwise_iff_getElem.1 S.apart j k hj hk hjk
  by_cases e1:i=j
  ·subst e1;rw[if_pos rfl]at hb;rw[if_neg (by omega)]
   rcases hblk b hb with h2|h2|h2
   ·exact S.ne h (List.getElem?_eq_getElem hk) (by omega) h2
   ·intro e;have:=(S.lt (List.getElem_mem hk) e).2;omega
   ·exact h2.2 _ (List.getElem_mem hk)
  ·rw[if_neg e1]at hb
   by_cases e2:i=k
   ·subst e2;rw[if_pos rfl];intro e
    rcases hblk b e with h2|h2|h2
    ·exact S.ne (List.getElem?_eq_getElem hj) h (by omega) hb h2
    ·have:=(S.lt (List.getElem_mem hj) hb).2;omega
    ·exact h2.2 _ (List.getElem_mem hj) hb
   ·rw[if_neg e2];exact h1 b hb
def plNone:Pl where
 own _:=False
 ok _:=True
 frame:=fun _ _ h _=>h
 lt:=fun _ _ _ h=>h.elim
theorem SepM.fuse {M:Nat→Prop} {w0 w w':World} {H:List Pl} (S:SepM M w0 w H) (i j:Nat) {p q r:Pl} (hi:H[i]?=some p) (hj:H[j]?=some r) (hij:i≠j) (hg:Chg p.own w w') (hq:r.ok w'→q.ok w') (hblk:∀b,q.own b→p.own b∨r.own b∨w.heap.size≤b):SepM M w0 w' ((H.set i q).eraseIdx j):=by
 have hrm:=List.mem_of_getElem? hj;have hr':r.ok w':=r.frame w w' (S.at_ j hj) (fun b hb=>hg.block b (S.lt hrm hb).2 (fun e=>S.ne hi hj hij e hb));have S1:SepM M w0 w (H.set j plNone):=S.put j hj ((Chg.refl _ w)) trivial (fun b hb=>hb.elim)
 have hi1:(H.set j plNone)[i]?=some p:=by rw[List.getElem?_set_ne (fun e=>hij e.symm)];exact hi
 have S2:SepM M w0 w' ((H.set j plNone).set i q):=S1.put' i hi1 hg (hq hr') (fun b hb=>by
  rcases hblk b hb with h|h|h
  ·exact .inl h
  ·refine .inr (.inr ⟨(S.lt hrm h).1,fun m hm hmb=>?_⟩);obtain⟨k,hk⟩:=List.getElem?_of_mem hm
   by_cases hkj:j=k
   ·subst hkj;rw[List.getElem?_set_self (List.getElem?_eq_some_iff.1 hj).1]at hk
    cases hk;exact hmb
   ·rw[List.getElem?_set_ne hkj]at hk;exact S.ne hj hk hkj h hmb
  ·exact .inr (.inl h))
 have S3:=S2.drop j
 have e:((H.set j plNone).set i q).eraseIdx j=(H.set i q).eraseIdx j:=by
  rw[List.set_comm _ _ (fun e=>hij e.symm)];apply List.ext_getElem?;intro k;simp only[List.getElem?_eraseIdx]
  split
  ·rw[List.getElem?_set_ne (by omega)]
  ·rw[List.getElem?_set_ne (by omega)]
 rw[e]at S3;exact S3
section
variable {M:Nat→Prop} {w0 w w':World} {H:List Pl}
end
structure Pin (β α:Type) where
 own:β→Nat→Prop
 ok:β→α→World→Prop
 frame:∀s t w w',ok s t w→(∀b,own s b→w'.heap[b]?=w.heap[b]?)→ok s t w'
 lt:∀s t w b,ok s t w→own s b→b < w.heap.size
def Pin.one {β α:Type} (P:Pin β α) (s:β) (t:α):Pl:=⟨P.own s,P.ok s t,P.frame s t,P.lt s t⟩
section
variable {β α:Type}
def plG (e nf:Nat) (enc:β→List Value) (P:Pin β α) (u:Value) (vs:List β) (T:List α):Pl where
 own b:=u.ownBlock=some b∨∃s∈vs,P.own s b
 ok w:=w.ownsRow 0 e nf u vs.length (vs.flatMap enc)∧vs.length=T.length∧(∀(i:Nat) (s:β) (t:α),vs[i]?=some s→T[i]?=some t→P.ok s t w) ∧
  (∀s∈vs,∀b:Nat,P.own s b→u.ownBlock≠some b)∧(∀(i j:Nat) (s s':β),i≠j→vs[i]?=some s→vs[j]?=some s'→∀b:Nat,P.own s b→¬P.own s' b)
 frame:=fun w w' h hf=>by
  obtain⟨h1,h2,h3,h4,h5⟩:=h;exact⟨(plRow e nf enc u vs).frame w w' h1 (fun b hb=>hf b (.inl hb)),h2,fun i s t hs ht=>P.frame s t w w' (h3 i s t hs ht) (fun b hb=>hf b (.inr ⟨s,List.mem_of_getElem? hs,hb⟩)),h4,h5⟩
 lt:=fun w k h hk=>by
  obtain⟨h1,h2,h3,h4,h5⟩:=h
  rcases hk with hk|⟨s,hs,hk⟩
  ·exact(plRow e nf enc u vs).lt w k h1 hk
  ·obtain⟨i,hi⟩:=List.getElem?_of_mem hs;have hil:=(List.getElem?_eq_some_iff.1 hi).1;exact P.lt s T[i] w k (h3 i s T[i] hi (List.getElem?_eq_getElem (by omega))) hk
variable {e nf:Nat} {enc:β→List Value} {P:Pin β α}
theorem plG_len {w:World} {u:Value} {vs:List β} {T:List α} (h:(plG e nf enc P u vs T).ok w):vs.length=T.length:=h.2.1
theorem chg_setCells (w:World) (g p:Nat) (us:List Value):Chg (fun k=>k=g) w (setCells w g p us) :=
 (Chg.of_row (grown_setCells us p (grown_of_ext (Ext.refl w) (some g)))).mono (fun k hk _=>(Option.some.inj hk).symm)
variable {M:Nat→Prop} {w0 w w':World} {H:List Pl}
theorem SepM.gRow (S:SepM M w0 w H) (i:Nat) {u:Value} {vs:List β} {T:List α} (h:H[i]?=some (plG e nf enc P u vs T)):w.ownsRow w0.heap.size e nf u vs.length (vs.flatMap enc):=by
 have h0:=(S.at_ i h).1;refine⟨h0.1,?_⟩
 rcases h0.2 with h2|⟨g,cap,cur,hv,hb,r⟩
 ·exact .inl h2
 ·exact .inr ⟨g,cap,cur,hv,(S.lt (List.mem_of_getElem? h) (show u.ownBlock=some g∨_ from .inl (by rw[hv];rfl))).1,r⟩
theorem SepM.gPut (S:SepM M w0 w H) (i j:Nat) (hn:∀x,(enc x).length=nf) {g n cap:Nat} {vs:List β} {T:List α} {s:β} {t:α} {k:Nat} (hi:H[i]?=some (plG e nf enc P (.slice (some ⟨g,0,none⟩) n cap) vs T)) (hj:H[j]?=some (P.one s t)) (hij:i≠j) (hk:k < vs.length) :
  SepM M w0 (setCells w g (k*nf) (enc s)) ((H.set i (plG e nf enc P (.slice (some ⟨g,0,none⟩) n cap) (vs.set k s) (T.set k t))).eraseIdx j):=by
 obtain⟨h1,h2,h3,h4,h5⟩:=S.at_ i hi;have hjm:=List.mem_of_getElem? hj
 have hnew:∀b,P.own s b→¬(plG e nf enc P (.slice (some ⟨g,0,none⟩) n cap) vs T).own b:=fun b hb=>S.ne hj hi (fun e=>hij e.symm) hb
 have hlen:n=vs.length:=by
  rcases h1.2 with⟨e,_⟩|⟨g',cap',cur,e,_⟩
  ·simp at e
  ·simp only[Value.slice.injEq]at e;exact e.2.1
 have hset:=owns_put hn (show w.ownsRow 0 e nf (.slice (some ⟨g,0,none⟩) n cap) n (vs.flatMap enc)by rw[hlen];rw[hlen]at h1;exact h1) k s hk;have hchg:=chg_setCells w g (k*nf) (enc s);refine S.fuse i j hi hj hij (hchg.mono (fun b hb _=>.inl (by rw[hb];rfl))) (fun hr=>⟨by rw[List.length_set,←hlen];exact hset,by simp[h2],fun l s2 t2 hs2 ht2=>?_,fun s2 hs2 b hb hb2=>?_,fun l m s2 s3 hlm hs2 hs3 b hb hb3=>?_⟩) (fun b hb=>?_)
 ·by_cases hlk:k=l
  ·subst hlk;rw[List.getElem?_set_self hk]at hs2;rw[List.getElem?_set_self (by omega)]at ht2
   cases hs2;cases ht2
   exact hr
  ·rw[List.getElem?_set_ne hlk]at hs2 ht2;have h6:=h3 l s2 t2 hs2 ht2;exact P.frame s2 t2 w _ h6 (fun b hb=>hchg.block b (P.lt s2 t2 w b h6 hb) (fun e=>h4 s2 (List.mem_of_getElem? hs2) b hb (by rw[e];rfl)))
 ·rcases List.mem_or_eq_of_mem_set hs2 with hs2|rfl
  ·exact h4 s2 hs2 b hb hb2
  ·exact hnew b hb (.inl hb2)
 ·by_cases hlk:k=l
  ·subst hlk;rw[List.getElem?_set_self hk]at hs2
   cases hs2
   rw[List.getElem?_set_ne hlm]at hs3;exact hnew b hb (.inr ⟨s3,List.mem_of_getElem? hs3,hb3⟩)
  ·rw[List.getElem?_set_ne hlk]at hs2
   by_cases hmk:k=m
   ·subst hmk;rw[List.getElem?_set_self hk]at hs3
    cases hs3
    exact hnew b hb3 (.inr ⟨s2,List.mem_of_getElem? hs2,hb⟩)
   ·rw[List.getElem?_set_ne hmk]at hs3;exact h5 l m s2 s3 hlm hs2 hs3 b hb hb3
 ·rcases hb with hb|⟨s2,hs2,hb⟩
  ·exact .inl (.inl hb)
  ·rcases List.mem_or_eq_of_mem_set hs2 with hs2|rfl
   ·exact .inl (.inr ⟨s2,hs2,hb⟩)
   ·exact .inr (.inl hb)
end
@[ext] structure Nd where
 fold:Bool
 own:Int
 grp:Int
 mode:Int
 text:ByteArray
 N:List ByteArray
 K:List Int
structure Nc where
 n:Nd
 an:Option Addr
 cn:Nat
 ak:Option Addr
 ck:Nat
def encNc (c:Nc):List Value:=[.bool c.n.fold,.int .i64 c.n.own,.int .i64 c.n.grp,.int .i64 c.n.mode,.string c.n.text,.slice c.an c.n.N.length c.cn,.slice c.ak c.n.K.length c.ck]
theorem encNc_len (c:Nc):(encNc c).length=7:=rfl
theorem encNc_one (c:Nc):∀u∈encNc c,u.oneCell'=true:=by simp[encNc,Value.oneCell']
def Nc.rd (w:World) (c:Nc):Prop:=c.n.N.length≤c.cn∧c.n.K.length≤c.ck∧Rd 1 encStr1 w c.an c.n.N∧Rd 1 encInt1 w c.ak c.n.K
theorem Nc.rd.ext {w w':World} {c:Nc} (h:c.rd w) (hE:Ext w w'):c.rd w':=⟨h.1,h.2.1,h.2.2.1.ext hE,h.2.2.2.ext hE⟩
def RdN (w:World) (a:Option Addr) (T:List Nd):Prop:=∃vs:List Nc,vs.map (·.n)=T∧Rd 7 encNc w a vs∧∀c∈vs,c.rd w
theorem RdN.ext {w w':World} {a:Option Addr} {T:List Nd} (h:RdN w a T) (hE:Ext w w'):RdN w' a T:=by
 obtain⟨vs,h1,h2,h3⟩:=h;exact⟨vs,h1,h2.ext hE,fun c hc=>(h3 c hc).ext hE⟩
theorem atNd {w:World} {a:Option Addr} {T:List Nd} (h:RdN w a T) {k:Nat} (hk:k < T.length) :
  ∃(x:Nd) (b off:Nat) (an:Option Addr) (cn:Nat) (ak:Option Addr) (ck:Nat),T[k]?=some x∧a=some ⟨b,off,none⟩∧w.cell? ⟨b,off+k*7,none⟩=some (.bool x.fold)∧w.cell? ⟨b,off+k*7+1,none⟩=some (.int .i64 x.own)∧w.cell? ⟨b,off+k*7+2,none⟩=some (.int .i64 x.grp) ∧
   w.cell? ⟨b,off+k*7+3,none⟩=some (.int .i64 x.mode)∧w.cell? ⟨b,off+k*7+4,none⟩=some (.string x.text)∧w.cell? ⟨b,off+k*7+5,none⟩=some (.slice an x.N.length cn)∧w.cell? ⟨b,off+k*7+6,none⟩=some (.slice ak x.K.length ck) ∧
   x.N.length≤cn∧x.K.length≤ck∧Rd 1 encStr1 w an x.N∧Rd 1 encInt1 w ak x.K:=by
 obtain⟨vs,rfl,h2,h3⟩:=h
 have hk':k < vs.length:=by simpa using hk
 obtain⟨b,off,ha,hc⟩:=h2 k hk';obtain⟨g1,g2,g3,g4⟩:=h3 vs[k] (List.getElem_mem hk');refine⟨vs[k].n,b,off,vs[k].an,vs[k].cn,vs[k].ak,vs[k].ck,by rw[List.getElem?_map,List.getElem?_eq_getElem hk'];rfl,ha,hc 0 _ rfl,hc 1 _ rfl,hc 2 _ rfl,hc 3 _ rfl,hc 4 _ rfl,hc 5 _ rfl,hc 6 _ rfl,g1,g2,g3,g4⟩
def pinNd:Pin Nc Nd where
 own c b:=(Value.slice c.an c.n.N.length c.cn).ownBlock=some b∨(Value.slice c.ak c.n.K.length c.ck).ownBlock=some b
 ok c n w:=c.n=n∧w.ownsRow 0 9 1 (.slice c.an c.n.N.length c.cn) c.n.N.length (c.n.N.flatMap encStr1)∧w.ownsRow 0 3 1 (.slice c.ak c.n.K.length c.ck) c.n.K.length (c.n.K.flatMap encInt1) ∧
  ∀b:Nat,(Value.slice c.an c.n.N.length c.cn).ownBlock=some b→(Value.slice c.ak c.n.K.length c.ck).ownBlock≠some b
 frame c n w w' h hf:=⟨h.1,(plRow 9 1 encStr1 (.slice c.an c.n.N.length c.cn) c.n.N).frame w w' h.2.1 (fun b hb=>hf b (.inl hb)),(plRow 3 1 encInt1 (.slice c.ak c.n.K.length c.ck) c.n.K).frame w w' h.2.2.1 (fun b hb=>hf b (.inr hb)),h.2.2.2⟩
 lt c n w b h hb:=hb.elim (fun hb=>(plRow 9 1 encStr1 (.slice c.an c.n.N.length c.cn) c.n.N).lt w b h.2.1 hb) (fun hb=>(plRow 3 1 encInt1 (.slice c.ak c.n.K.length c.ck) c.n.K).lt w b h.2.2.1 hb)
theorem pin_rd {c:Nc} {n:Nd} {w:World} (h:pinNd.ok c n w):c.rd w:=by
 obtain⟨_,h1,h2,_⟩:=h;obtain⟨a,cap,hv,hl,hr,_⟩:=view_owns encStr1_len h1;simp only[Value.slice.injEq,true_and]at hv;obtain⟨rfl,rfl⟩:=hv;obtain⟨a,cap,hv,hl2,hr2,_⟩:=view_owns encInt1_len h2;simp only[Value.slice.injEq,true_and]at hv;obtain⟨rfl,rfl⟩:=hv;exact⟨hl,hl2,hr,hr2⟩
abbrev plNd (u:Value) (vs:List Nc) (T:List Nd):Pl:=plG 89 7 encNc pinNd u vs T
theorem nd_map {w:World} {u:Value} {vs:List Nc} {T:List Nd} (h:(plNd u vs T).ok w):vs.map (·.n)=T:=by
 obtain⟨_,h2,h3,_⟩:=h;apply List.ext_getElem?;intro i
 by_cases hi:i < vs.length
 ·have:=(h3 i vs[i] T[i] (List.getElem?_eq_getElem hi) (List.getElem?_eq_getElem (by omega))).1;rw[List.getElem?_map,List.getElem?_eq_getElem hi,List.getElem?_eq_getElem (by omega:i < T.length),Option.map_some,this]
 ·rw[List.getElem?_eq_none (by simp;omega),List.getElem?_eq_none (by omega)]
theorem nd_view {w:World} {u:Value} {vs:List Nc} {T:List Nd} (h:(plNd u vs T).ok w):∃a cap,u=.slice a T.length cap∧T.length≤cap∧RdN w a T:=by
 have hm:=nd_map h;obtain⟨h1,h2,h3,h4,h5⟩:=h;obtain⟨a,cap,hu,hc,hr,hs⟩:=view_owns encNc_len h1;refine⟨a,cap,by rw[hu,h2],by omega,vs,hm,hr,fun c hc=>?_⟩;obtain⟨i,hi⟩:=List.getElem?_of_mem hc;have hil:=(List.getElem?_eq_some_iff.1 hi).1;exact pin_rd (h3 i c T[i] hi (List.getElem?_eq_getElem (by omega)))
theorem SepM.rdN {M:Nat→Prop} {w0 w:World} {H:List Pl} (S:SepM M w0 w H) (i:Nat) {a:Option Addr} {n cap:Nat} {vs:List Nc} {T:List Nd} (h:H[i]?=some (plNd (.slice a n cap) vs T)):RdN w a T:=by
 obtain⟨a',cap',hu,_,hr⟩:=nd_view (S.at_ i h);simp only[Value.slice.injEq]at hu;rw[hu.1];exact hr
theorem SepM.ofRows {M:Nat→Prop} {w0 w:World} {H:List Pl} (S:SepM M w0 w H) (i j:Nat) (c:Nc) (hi:H[i]?=some (plRow 9 1 encStr1 (.slice c.an c.n.N.length c.cn) c.n.N)) (hj:H[j]?=some (plRow 3 1 encInt1 (.slice c.ak c.n.K.length c.ck) c.n.K)) (hij:i≠j) :
  SepM M w0 w ((H.set i (pinNd.one c c.n)).eraseIdx j) :=
 S.fuse i j hi hj hij (Chg.refl _ w) (fun hr=>⟨rfl,S.at_ i hi,hr,fun b hb=>S.ne hi hj hij hb⟩) (fun b hb=>hb.elim .inl (fun h=>.inr (.inl h)))
def SmN (M:Nat) (n:Nd):Prop:=n.text.size≤M∧n.N.length≤M∧(∀s∈n.N,s.size≤M)∧n.K.length≤M
theorem infoNd:(Tryz.prog.info? 89).map (fun i=>(i.zero,i.size,i.bytes))=some (some (.agg #[.bool false,.int .i64 0,.int .i64 0,.int .i64 0,.string ByteArray.empty,.slice none 0 0,.slice none 0 0]),7,96):=by kernel_rfl
def CredOk (r a s g:Int):Prop:=inB r 0 99=true∧inB a 0 99=true∧inB s 0 99=true∧inB g 0 255=true
theorem l1In_is {n lo hi:Int} {b:Bool} (h:inB n lo hi=b) (w:World):Calls Tryz.prog 68 #[.int .i64 n,.int .i64 lo,.int .i64 hi] w fun e w'=>e=.returned (.bool b)∧w=w':=h ▸ l1In_any n lo hi w
theorem within_is {n lo hi:Int} {b:Bool} (h:inB n lo hi=b) (w:World):Calls Tryz.prog 91 #[.int .i64 n,.int .i64 lo,.int .i64 hi] w fun e w'=>e=.returned (.bool b)∧w=w':=h ▸ within_any n lo hi w
theorem isUser_is {n:Int} {b:Bool} (h:inB n 0 99=b) (w:World):Calls Tryz.prog 102 #[.int .i64 n] w fun e w'=>e=.returned (.bool b)∧w=w':=by
 go_enter Tryz.func102,Tryz.ntmps102
 go_wp2_with (go_at_call 91;refine(within_is h _).mono ?_;rintro e w' ⟨rfl,rfl⟩)
 go_ret;exact⟨rfl,rfl⟩
theorem cred_cases (r a s g:Int):inB r 0 99=false∨(inB r 0 99=true∧inB a 0 99=false)∨(inB r 0 99=true∧inB a 0 99=true∧inB s 0 99=false)∨(inB r 0 99=true∧inB a 0 99=true∧inB s 0 99=true∧inB g 0 255=false)∨(inB r 0 99=true∧inB a 0 99=true∧inB s 0 99=true∧inB g 0 255=true):=by
 cases inB r 0 99<;>cases inB a 0 99<;>cases inB s 0 99<;>cases inB g 0 255<;>simp
theorem specCredValid (r a s g:Int) (w:World):Calls Tryz.prog 65 #[.agg #[.int .i64 r,.int .i64 a,.int .i64 s,.int .i64 g]] w (RetB (CredOk r a s g) w):=by
 unfold CredOk
 rcases cred_cases r a s g with h1|⟨h1,h2⟩|⟨h1,h2,h3⟩|⟨h1,h2,h3,h4⟩|⟨h1,h2,h3,h4⟩
 all_goals
  go_enter Tryz.func65,Tryz.ntmps65
  go_wp2_with (go_at_call 68;refine(l1In_is (by assumption) _).mono ?_;rintro e w' ⟨rfl,rfl⟩)
  go_ret;exact RetB.mk _ rfl (by simp[*]) ((Ext.refl _).alloc _)
theorem implCredValid (r a s g:Int) (w:World):Calls Tryz.prog 60 #[.agg #[.int .i64 r,.int .i64 a,.int .i64 s,.int .i64 g]] w (RetB (CredOk r a s g) w):=by
 unfold CredOk
 rcases cred_cases r a s g with h1|⟨h1,h2⟩|⟨h1,h2,h3⟩|⟨h1,h2,h3,h4⟩|⟨h1,h2,h3,h4⟩
 all_goals
  go_enter Tryz.func60,Tryz.ntmps60
  go_wp2_with (first
   | (go_at_call 102;refine(isUser_is (by assumption) _).mono ?_;rintro e w' ⟨rfl,rfl⟩)
   | (go_at_call 91;refine(within_is (by assumption) _).mono ?_;rintro e w' ⟨rfl,rfl⟩))
  go_ret;exact RetB.mk _ rfl (by simp[*]) ((Ext.refl _).alloc _)
def rightsFor (mode cls:Int):Int:=if inB mode 0 1023=true∧inB cls 0 2=true then(if cls=0 then mode / 64 % 8 else if cls=1 then mode / 8 % 8 else mode % 8)else -1
def hasGroup (gs g:Int):Bool:=inB gs 0 255 && (inB g 0 7 && (gs / 2 ^ g.toNat % 2 == 1))
def classOf (r a s gs owner grp:Int):Int:=if (inB r 0 99=true∧inB a 0 99=true∧inB s 0 99=true∧inB gs 0 255=true)∧inB owner 0 99=true∧inB grp 0 7=true then(if a=owner then 0 else if hasGroup gs grp=true then 1 else 2)else -1
theorem specRightsFor (mode cls:Int) (w:World):Calls Tryz.prog 142 #[.int .i64 mode,.int .i64 cls] w fun e w'=>e=.returned (.int .i64 (rightsFor mode cls))∧w=w':=by
 cases h1:inB mode 0 1023 with
 | false =>
  have hr:rightsFor mode cls = -1:=by simp[rightsFor,h1]
  rw[hr]
  go_enter Tryz.func142,Tryz.ntmps142
  go_wp2_with (go_at_call 68;refine(l1In_is (by assumption) _).mono ?_;rintro e w' ⟨rfl,rfl⟩)
  go_ret;exact⟨rfl,rfl⟩
 | true =>
  cases h2:inB cls 0 2 with
  | false =>
   have hr:rightsFor mode cls = -1:=by simp[rightsFor,h2]
   rw[hr]
   go_enter Tryz.func142,Tryz.ntmps142
   go_wp2_with (go_at_call 68;refine(l1In_is (by assumption) _).mono ?_;rintro e w' ⟨rfl,rfl⟩)
   go_ret;exact⟨rfl,rfl⟩
  | true =>
   obtain⟨a1,a2⟩:=inB_iff.1 h2;obtain⟨b1,b2⟩:=inB_iff.1 h1
   rcases(show cls=0∨cls=1∨cls=2 by omega)with rfl|rfl|rfl
   ·have HR:=hd0 (show rightsFor mode 0=mode / 64 % 8 by simp[rightsFor,h1,h2])
    go_enter Tryz.func142,Tryz.ntmps142
    go_wp2_with (go_at_call 68;refine(l1In_is (by assumption) _).mono ?_;rintro e w' ⟨rfl,rfl⟩)
    go_ret;exact⟨by rw[HR.out];rfl,rfl⟩
   ·have HR:=hd0 (show rightsFor mode 1=mode / 8 % 8 by simp[rightsFor,h1,h2])
    go_enter Tryz.func142,Tryz.ntmps142
    go_wp2_with (go_at_call 68;refine(l1In_is (by assumption) _).mono ?_;rintro e w' ⟨rfl,rfl⟩)
    go_ret;exact⟨by rw[HR.out];rfl,rfl⟩
   ·have HR:=hd0 (show rightsFor mode 2=mode % 8 by simp[rightsFor,h1,h2])
    go_enter Tryz.func142,Tryz.ntmps142
    go_wp2_with (go_at_call 68;refine(l1In_is (by assumption) _).mono ?_;rintro e w' ⟨rfl,rfl⟩)
    go_ret;exact⟨by rw[HR.out];rfl,rfl⟩
theorem specHasGroup (gs g:Int) (w:World):Calls Tryz.prog 160 #[.int .i64 gs,.int .i64 g] w fun e w'=>e=.returned (.bool (hasGroup gs g))∧w=w':=by
 cases h1:inB gs 0 255 with
 | false =>
  have hr:hasGroup gs g=false:=by simp[hasGroup,h1]
  rw[hr]
  go_enter Tryz.func160,Tryz.ntmps160
  go_wp2_with (go_at_call 68;refine(l1In_is (by assumption) _).mono ?_;rintro e w' ⟨rfl,rfl⟩)
  go_ret;exact⟨rfl,rfl⟩
 | true =>
  cases h2:inB g 0 7 with
  | false =>
   have hr:hasGroup gs g=false:=by simp[hasGroup,h2]
   rw[hr]
   go_enter Tryz.func160,Tryz.ntmps160
   go_wp2_with (go_at_call 68;refine(l1In_is (by assumption) _).mono ?_;rintro e w' ⟨rfl,rfl⟩)
   go_ret;exact⟨rfl,rfl⟩
  | true =>
   obtain⟨a1,a2⟩:=inB_iff.1 h2;obtain⟨b1,b2⟩:=inB_iff.1 h1
   rcases(show g=0∨g=1∨g=2∨g=3∨g=4∨g=5∨g=6∨g=7 by omega)with rfl|rfl|rfl|rfl|rfl|rfl|rfl|rfl
   all_goals
    have HR:=hd0 h1;clear h1
    go_enter Tryz.func160,Tryz.ntmps160
    go_wp2_with (go_at_call 68;refine(l1In_is (by first|exact HR.out|assumption) _).mono ?_;rintro e w' ⟨rfl,rfl⟩)
    go_ret;refine⟨?_,rfl⟩;simp[hasGroup,HR.out,h2]
theorem classOf_bad {r a s gs owner grp:Int} (h:¬((inB r 0 99=true∧inB a 0 99=true∧inB s 0 99=true∧inB gs 0 255=true)∧inB owner 0 99=true∧inB grp 0 7=true)):classOf r a s gs owner grp = -1:=by rw[classOf,if_neg h]
theorem classOf_good {r a s gs owner grp:Int} (h:(inB r 0 99=true∧inB a 0 99=true∧inB s 0 99=true∧inB gs 0 255=true)∧inB owner 0 99=true∧inB grp 0 7=true):classOf r a s gs owner grp=if a=owner then 0 else if hasGroup gs grp=true then 1 else 2:=by rw[classOf,if_pos h]
theorem specClassOf (r a s gs owner grp:Int) (w:World):Calls Tryz.prog 141 #[.agg #[.int .i64 r,.int .i64 a,.int .i64 s,.int .i64 gs],.int .i64 owner,.int .i64 grp] w (RetI (classOf r a s gs owner grp) w):=by
 go_enter Tryz.func141,Tryz.ntmps141
 have S:=Sep.start w;replace S:=S.alloc_at (n:=w.heap.size) (by simp) #[.int .i64 r,.int .i64 a,.int .i64 s,.int .i64 gs] 29
 go_wp2_with fail
 generalize (w.alloc (.cells #[.int .i64 r,.int .i64 a,.int .i64 s,.int .i64 gs] 29))=w1 at *;refine(specCredValid r a s gs w1).mono ?_;rintro e w2 ⟨v,rfl,hv,hE⟩;have Hv:=hd0 hv;clear hv;replace S:=S.step hE;clear hE;obtain⟨⟨bc0,bf0⟩,⟨bc1,bf1⟩,⟨bc2,bf2⟩,⟨bc3,bf3⟩⟩:=bx4 (S.box 0 rfl)
 cases v with
 | false =>
  have HB:=hd0 (classOf_bad (r:=r) (a:=a) (s:=s) (gs:=gs) (owner:=owner) (grp:=grp) (fun h=>Bool.noConfusion (Hv.out.2 h.1)));go_wp2;go_ret;exact⟨by rw[HB.out];rfl,S.ext⟩
 | true =>
  have HC:=hd0 (Hv.out.1 rfl);clear Hv
  cases h1:inB owner 0 99 with
  | false =>
   have HB:=hd0 (classOf_bad (r:=r) (a:=a) (s:=s) (gs:=gs) (owner:=owner) (grp:=grp) (fun h=>Bool.noConfusion (h1.symm.trans h.2.1)))
   go_wp2_with (go_at_call 68;refine(l1In_is (by assumption) _).mono ?_;rintro e w' ⟨rfl,rfl⟩)
   go_ret;exact⟨by rw[HB.out];rfl,S.ext⟩
  | true =>
   cases h2:inB grp 0 7 with
   | false =>
    have HB:=hd0 (classOf_bad (r:=r) (a:=a) (s:=s) (gs:=gs) (owner:=owner) (grp:=grp) (fun h=>Bool.noConfusion (h2.symm.trans h.2.2)))
    go_wp2_with (go_at_call 68;refine(l1In_is (by assumption) _).mono ?_;rintro e w' ⟨rfl,rfl⟩)
    go_ret;exact⟨by rw[HB.out];rfl,S.ext⟩
   | true =>
    have HG:=hd0 (classOf_good (r:=r) (a:=a) (s:=s) (gs:=gs) (owner:=owner) (grp:=grp) ⟨HC.out,h1,h2⟩)
    by_cases h3:a=owner
    ·have HB:=hd0 (HG.out.trans (if_pos h3));subst h3;clear HG
     go_wp2_with (go_at_call 68;refine(l1In_is (by assumption) _).mono ?_;rintro e w' ⟨rfl,rfl⟩)
     go_ret;exact⟨by rw[HB.out];rfl,S.ext⟩
    ·have t3:(a == owner)=false:=by simpa using h3
     have HN:=hd0 (HG.out.trans (if_neg h3));clear h3 HG
     cases h4:hasGroup gs grp with
     | false =>
      have HB:=hd0 (HN.out.trans (if_neg (by rw[h4];exact Bool.false_ne_true)));have H4:=hd0 h4;clear h4
      go_wp2_with (first
       | (go_at_call 68;refine(l1In_is (by assumption) _).mono ?_;rintro e w' ⟨rfl,rfl⟩)
       | (go_at_call 160;refine(specHasGroup gs grp _).mono ?_;rintro e w' ⟨rfl,rfl⟩;rw[H4.out]))
      go_ret;exact⟨by rw[HB.out];rfl,S.ext⟩
     | true =>
      have HB:=hd0 (HN.out.trans (if_pos h4));have H4:=hd0 h4;clear h4
      go_wp2_with (first
       | (go_at_call 68;refine(l1In_is (by assumption) _).mono ?_;rintro e w' ⟨rfl,rfl⟩)
       | (go_at_call 160;refine(specHasGroup gs grp _).mono ?_;rintro e w' ⟨rfl,rfl⟩;rw[H4.out]))
      go_ret;exact⟨by rw[HB.out];rfl,S.ext⟩
def mayDo (r a s gs owner grp mode want:Int):Bool :=
 if classOf r a s gs owner grp < 0∨inB mode 0 1023=false∨inB want 0 7=false then false
 else if a=0 then(want.tmod 2 == 0 || (bits BinOp.or IntKind.i64 (bits BinOp.or IntKind.i64 (rightsFor mode 0) (rightsFor mode 1)) (rightsFor mode 2)).tmod 2 == 1)
 else(bits BinOp.and IntKind.i64 (rightsFor mode (classOf r a s gs owner grp)) want == want)
theorem specMayDo (r a s gs owner grp mode want:Int) (w:World):Calls Tryz.prog 108 #[.agg #[.int .i64 r,.int .i64 a,.int .i64 s,.int .i64 gs],.int .i64 owner,.int .i64 grp,.int .i64 mode,.int .i64 want] w (fun e w'=>e=.returned (.bool (mayDo r a s gs owner grp mode want))∧Ext w w'):=by
 go_enter Tryz.func108,Tryz.ntmps108
 have S:=Sep.start w;replace S:=S.alloc_at (n:=w.heap.size) (by simp) #[.int .i64 r,.int .i64 a,.int .i64 s,.int .i64 gs] 29
 go_wp2_with fail
 generalize (w.alloc (.cells #[.int .i64 r,.int .i64 a,.int .i64 s,.int .i64 gs] 29))=w1 at *;refine(specClassOf r a s gs owner grp w1).mono ?_;rintro e w2 ⟨rfl,hE⟩;replace S:=S.step hE;clear hE;obtain⟨⟨bc0,bf0⟩,⟨bc1,bf1⟩,⟨bc2,bf2⟩,⟨bc3,bf3⟩⟩:=bx4 (S.box 0 rfl)
 have HM:Hid (mayDo r a s gs owner grp mode want=if classOf r a s gs owner grp < 0∨inB mode 0 1023=false∨inB want 0 7=false then false
  else if a=0 then(want.tmod 2 == 0 || (bits BinOp.or IntKind.i64 (bits BinOp.or IntKind.i64 (rightsFor mode 0) (rightsFor mode 1)) (rightsFor mode 2)).tmod 2 == 1)
  else(bits BinOp.and IntKind.i64 (rightsFor mode (classOf r a s gs owner grp)) want == want)):=hd0 rfl
 generalize classOf r a s gs owner grp=cls at *
 by_cases h0:cls < 0
 ·have HB:=hd0 (HM.out.trans (if_pos (.inl h0)));go_wp2;go_ret;exact⟨by rw[HB.out];rfl,S.ext⟩
 cases h1:inB mode 0 1023 with
 | false =>
  have HB:=hd0 (HM.out.trans (if_pos (.inr (.inl h1))))
  go_wp2_with (go_at_call 68;refine(l1In_is (by assumption) _).mono ?_;rintro e w' ⟨rfl,rfl⟩)
  go_ret;exact⟨by rw[HB.out];rfl,S.ext⟩
 | true =>
  cases h2:inB want 0 7 with
  | false =>
   have HB:=hd0 (HM.out.trans (if_pos (.inr (.inr h2))))
   go_wp2_with (go_at_call 68;refine(l1In_is (by assumption) _).mono ?_;rintro e w' ⟨rfl,rfl⟩)
   go_ret;exact⟨by rw[HB.out];rfl,S.ext⟩
  | true =>
   have HN:=hd0 (HM.out.trans (if_neg (by rintro(h|h|h);exact h0 h;exact Bool.noConfusion (h1.symm.trans h);exact Bool.noConfusion (h2.symm.trans h))));clear HM
   by_cases ha:a=0
   ·have HB:=hd0 (HN.out.trans (if_pos ha));clear HN;subst ha
    go_wp2_with (first
     | (go_at_call 68;refine(l1In_is (by assumption) _).mono ?_;rintro e w' ⟨rfl,rfl⟩)
     | (go_at_call 142;refine(specRightsFor _ _ _).mono ?_;rintro e w' ⟨rfl,rfl⟩))
    all_goals go_ret
    all_goals exact⟨by rw[HB.out];first|rfl|(rename_i hw;simp[hw])|simp,S.ext⟩
   ·have t3:(a == 0)=false:=by simpa using ha
    have HB:=hd0 (HN.out.trans (if_neg ha));clear ha HN
    go_wp2_with (first
     | (go_at_call 68;refine(l1In_is (by assumption) _).mono ?_;rintro e w' ⟨rfl,rfl⟩)
     | (go_at_call 142;refine(specRightsFor _ _ _).mono ?_;rintro e w' ⟨rfl,rfl⟩))
    all_goals go_ret
    all_goals exact⟨by rw[HB.out];first|rfl|(rename_i hw;simp[hw])|simp,S.ext⟩
def NameChar (k c:Nat):Prop:=(97≤c∧c≤122)∨(0 < k∧48≤c∧c≤57)
def NameOk (s:ByteArray):Prop:=(∀k,(h:k < s.size)→NameChar k s[k].toNat)∧1≤s.size∧s.size≤8
theorem implNameValid (s:ByteArray) (w:World) (hs:s.size≤9223372036854775807):Calls Tryz.prog 61 #[.string s] w (RetB (NameOk s) w):=by
 go_enter Tryz.func61,Tryz.ntmps61
 go_wp2
 go_loopw [3,6] (fun _ i wr=>∃k:Nat,k≤s.size∧i=.int .i64 k∧(∀j,(h:j < s.size)→j < k→NameChar j s[j].toNat)∧Ext w wr) (fun _ i _=>s.size - (intOf i).toNat)
 case atStart=>exact⟨0,Nat.zero_le _,rfl,fun _ _ h=>absurd h (Nat.not_lt_zero _),Ext.refl _⟩
 case round =>
  obtain⟨k,hk,rfl,hpre,hb⟩:=hrel;have Hpre:=hd0 hpre;clear hpre
  by_cases hlt:k < s.size
  ·have i0:(0:Int)≤(k:Int):=by omega
   have i1:(k:Int) < (s.size:Int):=by omega
   have Hnext:Hid (NameChar k s[k].toNat→∀j,(h:j < s.size)→j < k+1→NameChar j s[j].toNat):=hd0 (fun hc j hj hjk=>by
    rcases Nat.lt_succ_iff_lt_or_eq.1 hjk with h'|rfl
    ·exact Hpre.out j hj h'
    ·exact hc)
   have Hbad:Hid (¬NameChar k s[k].toNat→¬NameOk s):=hd0 (fun hc h=>hc (h.1 k hlt));have Hch:Hid (NameChar k s[k].toNat↔((97≤(s[k].toNat:Int)∧(s[k].toNat:Int)≤122)∨(0 < k∧48≤(s[k].toNat:Int)∧(s[k].toNat:Int)≤57))):=hd0 (by unfold NameChar;omega)
   by_cases h1:97≤(s[k].toNat:Int)<;>by_cases h2:(s[k].toNat:Int)≤122<;>by_cases h3:0 < k<;>by_cases h4:48≤(s[k].toNat:Int)<;>by_cases h5:(s[k].toNat:Int)≤57
   all_goals first
    | omega
    | (have Hc := hd0 (Hch.out.2 (by omega))
       clear Hch;go_wp2;go_roundw
       case rel=>exact⟨k+1,by omega,by go_num,Hnext.out Hc.out,hb⟩
       case measure=>simp[intOf];omega)
    | (have Hc := hd0 (Hbad.out (fun h => absurd (Hch.out.1 h) (by omega)))
       clear Hch;go_wp2;go_ret
       exact RetB.mk false rfl (by simp[Hc.out]) hb)
  ·have hall:Hid (∀j,(h:j < s.size)→NameChar j s[j].toNat):=hd0 (fun j hj=>Hpre.out j hj (by omega))
   go_wp2_with (go_at_call 91;refine(within_any _ _ _ _).mono ?_;rintro e w' ⟨rfl,rfl⟩)
   go_ret;exact RetB.mk _ rfl ⟨fun h=>⟨hall.out,by have:=inB_iff.1 h;omega⟩,fun h=>inB_iff.2 (by have:=h.2;omega)⟩ hb
theorem nameA1:NameOk ⟨#[97,49]⟩:=by
 refine⟨fun k h=>?_,by decide,by decide⟩
 match k,h with
 | 0,_=>exact .inl (show 97≤97∧97≤122 by decide)
 | 1,_=>exact .inr (show 0 < 1∧48≤49∧49≤57 by decide)
theorem name1A:¬NameOk ⟨#[49,97]⟩:=by
 intro h
 rcases h.1 0 (by decide)with h|h
 ·exact absurd (show 97≤49 from h.1) (by decide)
 ·exact absurd h.1 (by decide)
theorem alive_any (w:World):Calls Tryz.prog 20 #[] w (RetB True w):=by
 go_enter Tryz.func20,Tryz.ntmps20
 go_wp2_with fail
 refine(implNameValid _ _ (by decide)).mono ?_;rintro e w1 ⟨b,rfl,hb,E⟩;obtain rfl:b=true:=hb.2 nameA1;clear hb
 go_wp2_with fail
 refine(implNameValid _ _ (by decide)).mono ?_;rintro e w2 ⟨b,rfl,hb,E2⟩
 obtain rfl:b=false:=by
  cases b with
  | false=>rfl
  | true=>exact absurd (hb.1 rfl) name1A
 clear hb;go_wp2;go_ret;exact RetB.mk true rfl (by simp) (E.trans E2)
theorem less_total:∀a b:List UInt8,(Op.bytesLess b a || b == a)=!(Op.bytesLess a b)
 | [],[]=>by simp[Op.bytesLess]
 | [],y :: b=>by simp[Op.bytesLess]
 | x :: a,[]=>by simp[Op.bytesLess]
 | x :: a,y :: b=>by
  have ih:=less_total a b
  by_cases h1:x < y
  ·have h2:¬y < x:=UInt8.not_lt.2 (UInt8.le_of_lt h1)
   have h3:y≠x:=fun e=>by subst e;exact absurd h1 (UInt8.lt_irrefl _)
   simp[Op.bytesLess,h1,h2,h3]
  ·by_cases h2:y < x
   ·have h3:x≠y:=fun e=>by subst e;exact absurd h2 (UInt8.lt_irrefl _)
    simp[Op.bytesLess,h1,h2,h3]
   ·have h3:x=y:=UInt8.le_antisymm (UInt8.not_lt.1 h2) (UInt8.not_lt.1 h1);subst h3
    simpa [Op.bytesLess,UInt8.lt_irrefl]using ih
theorem less_cases (a b:List UInt8):(Op.bytesLess a b=true∧Op.bytesLess b a=false∧(b == a)=false)∨(Op.bytesLess a b=false∧Op.bytesLess b a=true)∨(Op.bytesLess a b=false∧Op.bytesLess b a=false∧(b == a)=true):=by
 have h:=less_total a b
 cases h1:Op.bytesLess a b<;>cases h2:Op.bytesLess b a<;>cases h3:(b == a)<;>simp_all
theorem specNameValid (s:ByteArray) (w:World) (hs:s.size≤9223372036854775807):Calls Tryz.prog 140 #[.string s] w (RetB (NameOk s) w):=by
 go_enter Tryz.func140,Tryz.ntmps140
 go_wp2
 go_loopw [3,4] (fun i _ wr=>∃k:Nat,k≤s.size∧i=.int .i64 k∧(∀j,(h:j < s.size)→j < k→NameChar j s[j].toNat)∧Ext w wr) (fun i _ _=>s.size - (intOf i).toNat)
 case atStart=>exact⟨0,Nat.zero_le _,rfl,fun _ _ h=>absurd h (Nat.not_lt_zero _),Ext.refl _⟩
 case round =>
  obtain⟨k,hk,rfl,hpre,hb⟩:=hrel;have Hpre:=hd0 hpre;clear hpre
  by_cases hlt:k < s.size
  ·have i0:(0:Int)≤(k:Int):=by omega
   have i1:(k:Int) < (s.size:Int):=by omega
   have Hnext:Hid (NameChar k s[k].toNat→∀j,(h:j < s.size)→j < k+1→NameChar j s[j].toNat):=hd0 (fun hc j hj hjk=>by
    rcases Nat.lt_succ_iff_lt_or_eq.1 hjk with h'|rfl
    ·exact Hpre.out j hj h'
    ·exact hc)
   have Hbad:Hid (¬NameChar k s[k].toNat→¬NameOk s):=hd0 (fun hc h=>hc (h.1 k hlt));have Hch:Hid (NameChar k s[k].toNat↔((97≤(s[k].toNat:Int)∧(s[k].toNat:Int)≤122)∨(0 < k∧48≤(s[k].toNat:Int)∧(s[k].toNat:Int)≤57))):=hd0 (by unfold NameChar;omega)
   rcases k with _|m
   ·by_cases h1:97≤(s[0].toNat:Int)<;>by_cases h2:(s[0].toNat:Int)≤122
    all_goals first
     | (have Hc := hd0 (Hch.out.2 (by omega))
        clear Hch;go_wp2
        all_goals first
         | (rename_i hq;exfalso;simp at hq;omega)
         | (go_roundw
            case rel=>exact⟨0+1,by omega,by first|rfl|go_num,Hnext.out Hc.out,hb⟩
            case measure=>first|omega|(simp[intOf];omega)|simp[intOf]))
     | (have Hc := hd0 (Hbad.out (fun h => absurd (Hch.out.1 h) (by omega)))
        clear Hch;go_wp2
        all_goals first
         | (rename_i hq;exfalso;simp at hq;omega)
         | (go_ret
            exact RetB.mk false rfl (by simp[Hc.out]) hb))
   ·have tk:(((m:Int)+1) == 0)=false:=by simp;omega
    by_cases h1:97≤(s[m+1].toNat:Int)<;>by_cases h2:(s[m+1].toNat:Int)≤122<;>by_cases h4:48≤(s[m+1].toNat:Int)<;>by_cases h5:(s[m+1].toNat:Int)≤57
    all_goals first
     | omega
     | (have Hc := hd0 (Hch.out.2 (by omega))
        clear Hch;go_wp2
        all_goals first
         | (rename_i hq;exfalso;simp at hq;omega)
         | (go_roundw
            case rel=>exact⟨m+1+1,by omega,by go_num,Hnext.out Hc.out,hb⟩
            case measure=>first|omega|(simp[intOf];omega)|simp[intOf]))
     | (have Hc := hd0 (Hbad.out (fun h => absurd (Hch.out.1 h) (by omega)))
        clear Hch;go_wp2
        all_goals first
         | (rename_i hq;exfalso;simp at hq;omega)
         | (go_ret
            exact RetB.mk false rfl (by simp[Hc.out]) hb))
  ·have hall:Hid (∀j,(h:j < s.size)→NameChar j s[j].toNat):=hd0 (fun j hj=>Hpre.out j hj (by omega))
   go_wp2_with (go_at_call 68;refine(l1In_any _ _ _ _).mono ?_;rintro e w' ⟨rfl,rfl⟩)
   go_ret;exact RetB.mk _ rfl ⟨fun h=>⟨hall.out,by have:=inB_iff.1 h;omega⟩,fun h=>inB_iff.2 (by have:=h.2;omega)⟩ hb
end Go.Proofs.YtnibbldfohbfkaaGreatDoor
