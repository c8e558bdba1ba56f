/- Parts of one proof: what each theorem proves, and its conditions, stand in its own statement. -/
import Derived.Test.YtnibbldfohbfkaaGreatDoorMc12
set_option linter.all false
set_option maxRecDepth 100000
set_option maxHeartbeats 32000000
namespace Go.Proofs.YtnibbldfohbfkaaGreatDoor
open Go.RowKit
def eraNd (x:Nd) (p:Nat):Nd:=⟨x.fold,x.own,x.grp,x.mode,x.text,x.N.eraseIdx p,x.K.eraseIdx p⟩
theorem era_take {α:Type} (l:List α) (p:Nat):l.take p++l.drop (p+1)=l.eraseIdx p:=(List.eraseIdx_eq_take_drop_succ l p).symm
def VTk (W0:World) (H:List Pl) (g nT cap:Nat) (vs:List Nc) (k:Nat) (x:Nd) (gn cn gk ck p:Nat):Nat→Value→List Value→World→Prop:=fun i v us wv=>match i with
 | 0=>v=.slice (some ⟨g,0,none⟩) nT cap
 | 1=>v=.int .i64 (k:Nat)
 | 2=>v=.slice (some ⟨g,0,none⟩) nT cap
 | 3=>v=.int .i64 (k:Nat)
 | 4=>v=.slice (some ⟨g,0,none⟩) nT cap
 | 5=>v=.int .i64 (k:Nat)
 | 6=>v=.pointer (some ⟨g,k*7,none⟩)
 | 7=>v=.pointer (some ⟨g,k*7+5,none⟩)
 | 8=>v=.slice (some ⟨gn,0,none⟩) x.N.length cn
 | 9=>v=.int .i64 (p:Nat)
 | 10=>v=.int .i64 (p:Nat)
 | 11=>v=.int .i64 ((p:Int)+1)
 | 12=>v=.slice (some ⟨gn,0,none⟩) (eraNd x p).N.length cn∧∃w5,Sep W0 w5 H∧Chg (fun b=>b=gn) w5 wv∧wv.ownsRow 0 9 1 v (eraNd x p).N.length ((eraNd x p).N.flatMap encStr1)
 | 13=>v=.slice (some ⟨g,0,none⟩) nT cap
 | 14=>v=.int .i64 (k:Nat)
 | 15=>v=.pointer (some ⟨g,k*7,none⟩)
 | 16=>v=.pointer (some ⟨g,k*7+6,none⟩)
 | 17=>v=.slice (some ⟨gk,0,none⟩) x.K.length ck
 | 18=>v=.int .i64 (p:Nat)
 | 19=>v=.int .i64 (p:Nat)
 | 20=>v=.int .i64 ((p:Int)+1)
 | 21=>v=.slice (some ⟨gk,0,none⟩) (eraNd x p).K.length ck∧us.getD 0 undef=.slice (some ⟨gn,0,none⟩) (eraNd x p).N.length cn∧AdOk W0 H g (⟨x,some ⟨gn,0,none⟩,cn,some ⟨gk,0,none⟩,ck⟩:Nc) (eraNd x p).N (eraNd x p).K (.slice (some ⟨gn,0,none⟩) (eraNd x p).N.length cn) v wv∧wv.ownsRow 0 89 7 (.slice (some ⟨g,0,none⟩) nT cap) nT (vs.flatMap encNc)
 | 22=>v=.pointer (some ⟨g,k*7,none⟩)
 | 23=>v=.pointer (some ⟨g,k*7+5,none⟩)
 | 24=>us.getD 0 undef=.slice (some ⟨gk,0,none⟩) (eraNd x p).K.length ck∧AdOk W0 H g (⟨x,some ⟨gn,0,none⟩,cn,some ⟨gk,0,none⟩,ck⟩:Nc) (eraNd x p).N (eraNd x p).K (.slice (some ⟨gn,0,none⟩) (eraNd x p).N.length cn) (.slice (some ⟨gk,0,none⟩) (eraNd x p).K.length ck) wv∧wv.ownsRow 0 89 7 (.slice (some ⟨g,0,none⟩) nT cap) nT ((vs.set k (⟨⟨x.fold,x.own,x.grp,x.mode,x.text,(eraNd x p).N,x.K⟩,some ⟨gn,0,none⟩,cn,some ⟨gk,0,none⟩,ck⟩:Nc)).flatMap encNc)
 | 25=>Sep W0 wv H
 | 26=>wv.cell? ⟨g,k*7+5,none⟩=some (.slice (some ⟨gn,0,none⟩) x.N.length cn)
 | 27=>wv.cell? ⟨g,k*7+6,none⟩=some (.slice (some ⟨gk,0,none⟩) x.K.length ck)
 | _=>True
theorem VTk.ext {W0:World} {H:List Pl} {g nT cap:Nat} {vs:List Nc} {k:Nat} {x:Nd} {gn cn gk ck p:Nat} (i:Nat) (v:Value) (us:List Value) (w1 w2:World) (h:VTk W0 H g nT cap vs k x gn cn gk ck p i v us w1) (hE:Ext w1 w2):VTk W0 H g nT cap vs k x gn cn gk ck p i v us w2:=by
 match i with
 | 0|1|2|3|4|5|6|7|8|9|10|11|13|14|15|16|17|18|19|20|22|23=>exact h
 | 12=>obtain⟨h1,w5,h2,h3,h4⟩:=h;exact⟨h1,w5,h2,h3.trans (Chg.of_ext hE),ownsRow_ext h4 hE⟩
 | 21=>exact⟨h.1,h.2.1,h.2.2.1.ext hE,ownsRow_ext h.2.2.2 hE⟩
 | 24=>exact⟨h.1,h.2.1.ext hE,ownsRow_ext h.2.2 hE⟩
 | 25=>exact SepM.step (show Sep W0 w1 H from h) hE
 | 26=>exact cell_ext hE h
 | 27=>exact cell_ext hE h
 | (n+28)=>trivial
theorem zeroNd:∀w,(zeroValue 89).run Tryz.prog w=.ok (.agg #[.bool false,.int .i64 0,.int .i64 0,.int .i64 0,.string ⟨#[]⟩,.slice none 0 0,.slice none 0 0]) w:=by intro w;go_simp
theorem delNd_any (base g cap i j:Nat) (l:List Nc) (w:World) (hij:i < j) (hj:j≤l.length)
  (hown:w.ownsRow base 89 7 (.slice (some ⟨g,0,none⟩) l.length cap) l.length (l.flatMap encNc)) :
  Calls Tryz.prog 152 #[.slice (some ⟨g,0,none⟩) l.length cap,.int .i64 i,.int .i64 j] w fun e w'=>e=.returned (.slice (some ⟨g,0,none⟩) (l.length - (j - i)) cap) ∧
   w'.ownsRow base 89 7 (.slice (some ⟨g,0,none⟩) (l.length - (j - i)) cap) (l.length - (j - i)) ((l.take i++l.drop j).flatMap encNc)∧w.grownBy w' (some g):=by
 obtain⟨hlc,hcm,hbg⟩:=owns_bound hown;obtain⟨i0,hi0,hz0,hz1,hz2⟩:=info_parts infoNd;have hv:=zeroNd;have mixed:Tryz.prog.follows .mixedOrders=true:=rfl;obtain⟨news,hnews⟩:∃news,news=(l.drop j).flatMap encNc:=⟨_,rfl⟩
 have hlen:news.length=(l.length - j)*7:=by rw[hnews,flatMap_length encNc_len,List.length_drop]
 have hget:∀t,t < news.length→∀u,news[t]?=some u→w.cell? ⟨g,j*7+t,none⟩=some u:=by
  intro t ht u hu
  have hlt:j*7+t < l.length*7:=by omega
  rw[hown.cellAt _ hlt];rw[hnews,←flatMap_drop encNc_len,List.getElem?_drop]at hu;exact hu
 obtain⟨A,hA,hsrc⟩:∃A:Addr,(if cap=j then some (⟨g,0,none⟩:Addr)else some ⟨g,j*7,none⟩)=some A∧Hid (∀t u,news[t]?=some u→w.drew.cell? (A.add t)=some u):=by
  by_cases h:cap=j
  ·refine⟨⟨g,0,none⟩,by simp[h],fun t u hu=>?_⟩
   have h0:news.length=0:=by rw[hlen];omega
   rw[List.length_eq_zero_iff.1 h0]at hu;simp at hu
  ·refine⟨⟨g,j*7,none⟩,by simp[h],fun t u hu=>?_⟩;rw[Addr.add_lit];have:=hget t (List.getElem?_eq_some_iff.1 hu).1 u hu
   simpa using this
 have s1:Hid (news.length=(l.length - j)*7):=hlen
 have s2:Hid (∀u∈news,u.oneCell'=true):=by
  intro u hu;rw[hnews]at hu;obtain⟨x,_,hx⟩:=List.mem_flatMap.1 hu;exact encNc_one x u hx
 have s3:Hid (∀t,t < news.length→(w.drew.cell? ⟨g,0+i*7+t,none⟩).isSome=true∧w.drew.frozen? ⟨g,0+i*7+t,none⟩=false):=by
  intro t ht;rw[hlen]at ht;have:=owns_there hown (i*7+t) (by omega);rw[Nat.zero_add];exact this
 obtain⟨W1,hW1⟩:∃W1,W1=w.drew.setCells g (0+i*7) news:=⟨_,rfl⟩
 have hg1:w.grownBy W1 (some g):=by
  rw[hW1,kit_setCells];exact grown_setCells _ _ (grown_of_ext (Ext.refl w).drew _)
 have ho1:W1.ownsRow base 89 7 (.slice (some ⟨g,0,none⟩) l.length cap) l.length (setAll (l.flatMap encNc) (i*7) news):=by
  rw[hW1,kit_setCells,Nat.zero_add];exact owns_setCells _ _ hown.drew
 have hcl:∀ty,(Builtin.clear_ #[28] ty #[.slice (some ⟨g,(i+(l.length - j))*7,none⟩) (l.length - (i+(l.length - j))) (cap - (i+(l.length - j)))]).run Tryz.prog W1=.ok (.tuple #[]) (W1.setCells g ((i+(l.length - j))*7) (Builtin.zeroCells (.agg #[.bool false,.int .i64 0,.int .i64 0,.int .i64 0,.string ⟨#[]⟩,.slice none 0 0,.slice none 0 0]:Value).cells (l.length - (i+(l.length - j)))).toList) :=
  fun ty=>run_clear_cells W1 _ _ ty _ 7 Tryz.underlying28 hv rfl (by decide) g ((i+(l.length - j))*7) (l.length - (i+(l.length - j))) (cap - (i+(l.length - j))) (by omega) (fun t ht=>(owns_there ho1 ((i+(l.length - j))*7+t) (by omega)).1) (fun t ht=>(owns_there ho1 ((i+(l.length - j))*7+t) (by omega)).2)
 obtain⟨W2,hW2⟩:∃W2,W2=W1.setCells g ((i+(l.length - j))*7) (Builtin.zeroCells (.agg #[.bool false,.int .i64 0,.int .i64 0,.int .i64 0,.string ⟨#[]⟩,.slice none 0 0,.slice none 0 0]:Value).cells (l.length - (i+(l.length - j)))).toList:=⟨_,rfl⟩;rw[←hW2]at hcl
 have hg2:Hid (w.grownBy W2 (some g)):=by
  rw[hW2,kit_setCells];exact grown_setCells _ _ hg1
 have ho2:Hid (W2.ownsRow base 89 7 (.slice (some ⟨g,0,none⟩) (l.length - (j - i)) cap) (l.length - (j - i)) ((l.take i++l.drop j).flatMap encNc)):=by
  have h:=owns_shrink (m:=l.length - (j - i)) (owns_setCells (Builtin.zeroCells (.agg #[.bool false,.int .i64 0,.int .i64 0,.int .i64 0,.string ⟨#[]⟩,.slice none 0 0,.slice none 0 0]:Value).cells (l.length - (i+(l.length - j)))).toList ((i+(l.length - j))*7) ho1) (by omega);rw[hnews,del_list encNc_len l i j (by omega) hj _ (by simp[Builtin.zeroCells,Value.cells];omega)]at h;rw[hW2,kit_setCells];exact hd0 (by simpa using h)
 have hW:Hid (W1=w.drew.setCells g (0+i*7) news):=hW1
 have hic:i≤cap:=by omega
 have hjc:j≤cap:=by omega
 clear hW1 hW2 hg1 ho1 hown hget hnews hlen hbg
 go_enter Tryz.func152,Tryz.ntmps152
 go_wp2_with fail
 go_region_law_o (refine step_append_room rfl (.tmp 22) (.tmp 25) 28 rfl 89 i0 7 Tryz.underlying28 hi0 hz1 g 0 i cap (by simp[Act.eval,Act.put]) A (l.length - j) (cap - j) news (by simp[Act.eval,Act.put]) s1.out hsrc.out s2.out (by omega) s3.out ?_;rw[←hW.out])
 go_wp2;go_ret;refine⟨by rw[show l.length - (j - i)=i+(l.length - j)by omega];rfl,ho2.out,hg2.out⟩
section
variable {β α:Type} {e nf:Nat} {enc:β→List Value} {P:Pin β α} {M:Nat→Prop} {w0 w w':World} {H:List Pl}
theorem SepM.gCut (S:SepM M w0 w H) (i:Nat) {g n n' cap:Nat} {vs:List β} {T:List α} (hi:H[i]?=some (plG e nf enc P (.slice (some ⟨g,0,none⟩) n cap) vs T)) (kid:Nat)
  (hg:w.grownBy w' (some g)) (ho:w'.ownsRow 0 e nf (.slice (some ⟨g,0,none⟩) n' cap) (vs.eraseIdx kid).length ((vs.eraseIdx kid).flatMap enc)) :
  SepM M w0 w' (H.set i (plG e nf enc P (.slice (some ⟨g,0,none⟩) n' cap) (vs.eraseIdx kid) (T.eraseIdx kid))):=by
 obtain⟨h1,h2,h3,h4,h5⟩:=S.at_ i hi;have hch:Chg (fun b=>b=g) w w':=(Chg.of_row hg).mono (fun b hb _=>(Option.some.inj hb).symm);have him:=List.mem_of_getElem? hi
 have hat:∀(l:Nat) (s:β),(vs.eraseIdx kid)[l]?=some s→vs[if l < kid then l else l+1]?=some s:=fun l s hs=>by
  rw[era_at]at hs
  split<;>rename_i h
  ·rwa [if_pos h]at hs
  ·rwa [if_neg h]at hs
 have hlt:∀s∈vs,∀b,P.own s b→b < w.heap.size:=fun s hs b hb=>(S.lt him (show(plG e nf enc P (.slice (some ⟨g,0,none⟩) n cap) vs T).own b from .inr ⟨s,hs,hb⟩)).2
 refine S.put i hi (hch.mono (fun b hb _=>.inl (by rw[hb];rfl))) ⟨ho,?_,fun l s t hs ht=>?_,fun s hs b hb hb2=>?_,fun l m s s' hlm hs hs' b hb hb'=>?_⟩ (fun b hb=>?_)
 ·rw[List.length_eraseIdx,List.length_eraseIdx,h2]
 ·have hs2:=hat l s hs
  have ht2:T[if l < kid then l else l+1]?=some t:=by
   rw[era_at]at ht
   split<;>rename_i h
   ·rwa [if_pos h]at ht
   ·rwa [if_neg h]at ht
  have h6:=h3 _ s t hs2 ht2;exact P.frame s t w w' h6 (fun b hb=>hch.block b (hlt s (List.mem_of_getElem? hs2) b hb) (fun e=>h4 s (List.mem_of_getElem? hs2) b hb (by rw[e];rfl)))
 ·obtain⟨l,hl⟩:=List.getElem?_of_mem hs;exact h4 s (List.mem_of_getElem? (hat l s hl)) b hb hb2
 ·exact h5 _ _ s s' (fun e=>hlm (by split at e<;>split at e<;>omega)) (hat l s hs) (hat m s' hs') b hb hb'
 ·rcases hb with hb|⟨s,hs,hb⟩
  ·exact .inl (.inl hb)
  ·obtain⟨l,hl⟩:=List.getElem?_of_mem hs;exact .inl (.inr ⟨s,List.mem_of_getElem? (hat l s hl),hb⟩)
end
section
variable {M:Nat→Prop} {w0 w:World} {H:List Pl} {g n cap:Nat} {vs:List Nc} {T:List Nd} {k gk:Nat} {c:Nc} {x:Nd}
def kidNd (x:Nd) (K:List Int):Nd:=⟨x.fold,x.own,x.grp,x.mode,x.text,x.N,K⟩
theorem SepM.ndKid (S:SepM M w0 w H) (i:Nat) (hi:H[i]?=some (plNd (.slice (some ⟨g,0,none⟩) n cap) vs T)) (hc:vs[k]?=some c) (hx:T[k]?=some x) (hak:c.ak=some ⟨gk,0,none⟩) (j:Nat) (y:Int) (hj:j < x.K.length) :
  SepM M w0 (w.setCell ⟨gk,j,none⟩ (.int .i64 y)) (H.set i (plNd (.slice (some ⟨g,0,none⟩) n cap) (vs.set k ⟨kidNd x (x.K.set j y),c.an,c.cn,c.ak,c.ck⟩) (T.set k (kidNd x (x.K.set j y))))):=by
 obtain⟨h1,h2,h3,h4,h5⟩:=S.at_ i hi;obtain⟨pN,pK,pO,pA⟩:=S.nd_pin' i hi hc hx;obtain⟨hk,hck⟩:=List.getElem?_eq_some_iff.1 hc;have e1:=(h3 k c x hc hx).1;obtain⟨cn',an,cn,ak,ck⟩:=c;dsimp only at hak e1 pN pK pO pA;subst hak e1;have hch:=Chg.setCell w gk j (.int .i64 y);have hgg:gk≠g:=(pO gk (.inr rfl)).1;have hlen:(cn'.K.set j y).length=cn'.K.length:=List.length_set;have hK:=owns_set encInt1_len pK j 0 (.int .i64 y) y hj (by omega) rfl;rw[Nat.mul_one,Nat.add_zero]at hK
 have hcells:(vs.set k (⟨kidNd cn' (cn'.K.set j y),an,cn,some ⟨gk,0,none⟩,ck⟩:Nc)).flatMap encNc=vs.flatMap encNc:=by
  have e:(vs.set k (⟨kidNd cn' (cn'.K.set j y),an,cn,some ⟨gk,0,none⟩,ck⟩:Nc)).map encNc=vs.map encNc:=by
   rw[List.map_set]
   have e2:encNc (⟨kidNd cn' (cn'.K.set j y),an,cn,some ⟨gk,0,none⟩,ck⟩:Nc)=encNc vs[k]:=by
    rw[hck]
    show[Value.bool cn'.fold,.int .i64 cn'.own,.int .i64 cn'.grp,.int .i64 cn'.mode,.string cn'.text,.slice an cn'.N.length cn,.slice (some ⟨gk,0,none⟩) (cn'.K.set j y).length ck]=_
    rw[hlen];rfl
   rw[e2];apply List.ext_getElem?;intro l
   by_cases hl:k=l
   ·subst hl;rw[List.getElem?_set_self (by simpa using hk),List.getElem?_map,hc,hck];rfl
   ·rw[List.getElem?_set_ne hl]
  rw[List.flatMap_def,List.flatMap_def,e]
 refine S.ndPut i hi hc (c':=⟨kidNd cn' (cn'.K.set j y),an,cn,some ⟨gk,0,none⟩,ck⟩) (x':=kidNd cn' (cn'.K.set j y)) (hch.mono (fun b hb _=>.inr (.inr (.inr (by rw[hb];rfl))))) ?_ ⟨rfl,?_,?_,?_⟩ (fun b hb=>?_)
 ·rw[hcells]
  exact(plRow 89 7 encNc (.slice (some ⟨g,0,none⟩) n cap) vs).frame w _ h1 (fun b hb=>by
   have hb':g=b:=Option.some.inj hb;subst hb'
   exact hch.block g (S.lt (List.mem_of_getElem? hi) (show(plNd (.slice (some ⟨g,0,none⟩) n cap) vs T).own g from .inl rfl)).2 (fun e=>hgg e.symm))
 ·exact(plRow 9 1 encStr1 (.slice an cn'.N.length cn) cn'.N).frame w _ pN (fun b hb=>hch.block b (pO b (.inl hb)).2.2 (fun e=>pA b hb (by rw[e];rfl)))
 ·show World.ownsRow _ _ _ _ (.slice (some ⟨gk,0,none⟩) (cn'.K.set j y).length ck) (cn'.K.set j y).length ((cn'.K.set j y).flatMap encInt1)
  rw[hlen];exact hK
 ·intro b hb hb2;have hb2':(Value.slice (some ⟨gk,0,none⟩) (cn'.K.set j y).length ck).ownBlock=some b:=hb2;exact pA b hb hb2'
 ·exact .inl hb
end
def mapMix {α:Type} (f:α→α) (l:List α) (q:Nat):List α:=(l.take q).map f++l.drop q
section
variable {α:Type} {f:α→α} {l:List α} {q:Nat} {x:α}
theorem mm_len (hq:q≤l.length):(mapMix f l q).length=l.length:=by simp[mapMix];omega
theorem mm_zero:mapMix f l 0=l:=by simp[mapMix]
theorem mm_full:mapMix f l l.length=l.map f:=by simp[mapMix]
theorem mm_at (hq:q≤l.length):(mapMix f l q)[q]?=l[q]?:=by
 unfold mapMix;rw[List.getElem?_append_right (by simp;omega),List.length_map,List.length_take,Nat.min_eq_left hq,Nat.sub_self,List.getElem?_drop,Nat.add_zero]
theorem mm_set (hx:l[q]?=some x):(mapMix f l q).set q (f x)=mapMix f l (q+1):=by
 obtain⟨hq,rfl⟩:=List.getElem?_eq_some_iff.1 hx;unfold mapMix
 have hl:((l.take q).map f).length=q:=by simp;omega
 rw[List.set_append,if_neg (by omega),hl,Nat.sub_self,List.drop_eq_getElem_cons hq,List.set_cons_zero,List.take_succ_eq_append_getElem hq,List.map_append,List.append_assoc];rfl
theorem mm_same (hx:l[q]?=some x) (h:f x=x):mapMix f l q=mapMix f l (q+1):=by
 rw[←mm_set hx,h];apply List.ext_getElem?;intro j
 by_cases hj:q=j
 ·subst hj;have hq:=(List.getElem?_eq_some_iff.1 hx).1;rw[List.getElem?_set_self (by rw[mm_len (by omega)];exact hq),mm_at (by omega),hx]
 ·rw[List.getElem?_set_ne hj]
end
theorem era_takeNd (x:Nd) (s:ByteArray):takeNd x s=eraNd x (posOf x.N s):=rfl
theorem sm_era {x:Nd} {p:Nat} (h:SmN 1048576 x):SmN 1048576 (eraNd x p):=⟨h.1,by have:=h.2.1;have:(x.N.eraseIdx p).length≤x.N.length:=(List.eraseIdx_sublist ..).length_le;show(x.N.eraseIdx p).length≤_;omega,fun s hs=>h.2.2.1 s ((List.eraseIdx_sublist ..).subset hs),by have:=h.2.2.2;have:(x.K.eraseIdx p).length≤x.K.length:=(List.eraseIdx_sublist ..).length_le;show(x.K.eraseIdx p).length≤_;omega⟩
theorem links_almost {T:List Nd} {kid:Nat} {L:List Int} (h:AlmostOk T kid) (hL:LinksR T L):L=cntL T.length (kids T):=by
 rcases hL with⟨_,h1⟩|⟨h1,_⟩
 ·exact h1
 ·exact absurd (linkOk_of h.max h.nodes) h1
theorem implDropT {W0 w:World} {H:List Pl} (S:Sep W0 w H) (i:Nat) {g cap:Nat} {vs:List Nc} {T:List Nd} (hiH:H[i]?=some (plNd (.slice (some ⟨g,0,none⟩) T.length cap) vs T)) {k kid:Nat} {x z:Nd} {s:ByteArray} (hD:DropOk T k x s kid z) (hT:∀x∈T,SmN 1048576 x) (hNl:x.N.length≤1000000) :
  Calls Tryz.prog 119 #[.slice (some ⟨g,0,none⟩) T.length cap,.int .i64 k,.string s] w (fun e w'=>∃u' vs',e=.returned u'∧Sep W0 w' (H.set i (plNd u' vs' (dropT T k x s kid)))):=by
 have hxk:=hD.hx;have hN:=hD.tree.nodes k x hxk;obtain⟨hp,hps,hpk,hk1,hk2,hfo⟩:=kid_place hN (s:=s) (by rw[hD.kd];omega);rw[hD.kd]at hpk;obtain⟨c,g',cap',hu,hTc,hck,hcn,hcell,hfz,_,_,_,_,hrN,hrK⟩:=S.ndAt i hiH hxk
 obtain⟨rfl,rfl⟩:g=g'∧cap=cap':=by simp only[Value.slice.injEq,Option.some.injEq,Addr.mk.injEq,and_true,true_and]at hu;exact⟨hu.1,hu.2⟩
 obtain⟨pN,pK,_,_⟩:=S.nd_pin' i hiH hck hxk;obtain⟨x',an,cn,ak,ck⟩:=c;dsimp only at hcn pN pK hrN hrK;subst hcn;obtain⟨x,hxx⟩:∃z,z=x':=⟨_,rfl⟩;subst hxx;have hlen:=hN.len;obtain⟨gn,rfl⟩:=row_blk encStr1_len pN (by omega);obtain⟨gk,rfl⟩:=row_blk encInt1_len pK (by omega);have hA:=node_asc hN;have d5:w.cell? ⟨g,k*7+5,none⟩=some (.slice (some ⟨gn,0,none⟩) x.N.length cn):=hcell 5 _ rfl;have d6:w.cell? ⟨g,k*7+6,none⟩=some (.slice (some ⟨gk,0,none⟩) x.K.length ck):=hcell 6 _ rfl;obtain⟨yk,bk,ok,hyk,hbk,dk⟩:=atInt hrK (show posOf x.N s < x.K.length by omega)
 obtain⟨rfl,rfl⟩:gk=bk∧0=ok:=by simpa using hbk
 rw[Nat.zero_add]at dk;obtain rfl:yk=(kid:Int):=Option.some.inj (hyk.symm.trans hpk);have HLen:=hd0 hlen
 have hkT:(k:Int) < (T.length:Int):=by have:=(List.getElem?_eq_some_iff.1 hxk).1;omega
 have hpi:((posOf x.N s:Nat):Int) < (x.K.length:Int):=by omega
 have hpw:IntKind.i64.wrap (((posOf x.N s:Nat):Int)+1)=((posOf x.N s:Nat):Int)+1:=IntWalk.i64_in _ (by omega);have hkw:IntKind.i64.wrap ((kid:Int)+1)=(kid:Int)+1:=IntWalk.i64_in _ (by have:=hD.tree.max;have:=hD.kd;omega);have HSe:=hd0 (search_any (some ⟨gn,0,none⟩) cn _ x.N s w rfl hA (by omega) hrN);have HD:=hd0 hD;have HT:=hd0 hT;have hmax:=hD.tree.max;clear hcell hu hA hN hrN hrK hfz hyk hbk hpk hps hlen pN pK hfo hD hT
 go_enter Tryz.func119,Tryz.ntmps119
 go_wp2_with fail
 refine HSe.out.mono ?_;rintro e w1 ⟨fd,rfl,_,hE1⟩;replace S:=S.step hE1;replace d5:=cell_ext hE1 d5;replace d6:=cell_ext hE1 d6;replace dk:=cell_ext hE1 dk;clear HSe hE1;obtain⟨p,hpp⟩:∃p,p=posOf x.N s:=⟨_,rfl⟩;rw[←hpp]at hp hpi hpw dk ⊢;have Hpp:=hd0 hpp;clear hpp
 go_upto_region 3 with fail
 have e5:(World.drew w1).cell? ⟨g,k*7+5,none⟩=some (.slice (some ⟨gn,0,none⟩) x.N.length cn):=cell_ext (Ext.refl w1).drew d5;have e6:(World.drew w1).cell? ⟨g,k*7+6,none⟩=some (.slice (some ⟨gk,0,none⟩) x.K.length ck):=cell_ext (Ext.refl w1).drew d6;clear d5 d6 dk hpi;have Sd:Sep W0 (World.drew w1) H:=S.drew;refine wp_region_d (V:=VTk W0 H g T.length cap vs k x gn cn gk ck p) (fun i=>if i=21 then[12]else if i=24 then[21]else[]) (fun _ wv=>Chg (fun b=>b=g∨pinNd.own (⟨x,some ⟨gn,0,none⟩,cn,some ⟨gk,0,none⟩,ck⟩:Nc) b) (World.drew w1) wv) (fun i=>if i=25 then some 12 else if i=26 then some 8 else if i=12 then some 21 else if i=21 then some 24 else none) [(21,12),(24,12),(24,21),(24,8)] 25 3 rfl (by decide) (by kernel_rfl) (by kernel_rfl) (by kernel_rfl) (by kernel_rfl) (by kernel_rfl) (Chg.refl _ _) (fun r hr=>match r,hr with|0,_=>Sd|1,_=>e5|2,_=>e6) ?_ ?_
 ·intro i2 o hi ho k2 hk2 vz w4 hvl hI hd hrest
  match vz,hvl with
  | [y0,y1,y2,y3,y4,y5,y6,y7,y8,y9,y10,y11,y12,y13,y14,y15,y16,y17,y18,y19,y20,y21,y22,y23,y24],_ =>
  rcases(show i2=0∨i2=1∨i2=2∨i2=3∨i2=4∨i2=5∨i2=6∨i2=7∨i2=8∨i2=9∨i2=10∨i2=11∨i2=12∨i2=13∨i2=14∨i2=15∨i2=16∨i2=17∨i2=18∨i2=19∨i2=20∨i2=21∨i2=22∨i2=23∨i2=24 by omega)with rfl|rfl|rfl|rfl|rfl|rfl|rfl|rfl|rfl|rfl|rfl|rfl|rfl|rfl|rfl|rfl|rfl|rfl|rfl|rfl|rfl|rfl|rfl|rfl|rfl
  all_goals
   obtain rfl:=Option.some.inj ho
  ·clear hd hrest;simp[putAll,Act.put];go_wp2;exact OneD.mk (VTk.ext) rfl rfl hI (Ext.refl _)
  ·clear hd hrest;simp[putAll,Act.put];go_wp2;exact OneD.mk (VTk.ext) rfl rfl hI (Ext.refl _)
  ·clear hd hrest;simp[putAll,Act.put];go_wp2;exact OneD.mk (VTk.ext) rfl rfl hI (Ext.refl _)
  ·clear hd hrest;simp[putAll,Act.put];go_wp2;exact OneD.mk (VTk.ext) rfl rfl hI (Ext.refl _)
  ·clear hd hrest;simp[putAll,Act.put];go_wp2;exact OneD.mk (VTk.ext) rfl rfl hI (Ext.refl _)
  ·clear hd hrest;simp[putAll,Act.put];go_wp2;exact OneD.mk (VTk.ext) rfl rfl hI (Ext.refl _)
  ·have q4:y4=.slice (some ⟨g,0,none⟩) T.length cap:=hd ⟨4,.data⟩ (by simp) rfl (.inl rfl);have q5:y5=.int .i64 (k:Nat):=hd ⟨5,.data⟩ (by simp) rfl (.inl rfl);subst q4 q5;clear hd hrest;simp[putAll,Act.put];go_wp2;exact OneD.mk (VTk.ext) rfl rfl hI (Ext.refl _)
  ·have q6:y6=.pointer (some ⟨g,k*7,none⟩):=hd ⟨6,.data⟩ (by simp) rfl (.inl rfl);subst q6;clear hd hrest;simp[putAll,Act.put];go_wp2;exact OneD.mk (VTk.ext) rfl rfl hI (Ext.refl _)
  ·have q7:y7=.pointer (some ⟨g,k*7+5,none⟩):=hd ⟨7,.data⟩ (by simp) rfl (.inl rfl);have c5:w4.cell? ⟨g,k*7+5,none⟩=some (.slice (some ⟨gn,0,none⟩) x.N.length cn):=hrest 1 (by omega) (.inr rfl);subst q7;clear hd hrest;simp[putAll,Act.put];go_wp2;exact OneD.mk (VTk.ext) rfl rfl hI (Ext.refl _)
  ·clear hd hrest;simp[putAll,Act.put];go_wp2;exact OneD.mk (VTk.ext) rfl rfl hI (Ext.refl _)
  ·clear hd hrest;simp[putAll,Act.put];go_wp2;exact OneD.mk (VTk.ext) rfl rfl hI (Ext.refl _)
  ·have q10:y10=.int .i64 (p:Nat):=hd ⟨10,.data⟩ (by simp) rfl (.inl rfl);subst q10;clear hd hrest;simp[putAll,Act.put];go_wp2;exact OneD.mk (VTk.ext) rfl rfl hI (Ext.refl _)
  ·have q8:y8=.slice (some ⟨gn,0,none⟩) x.N.length cn:=hd ⟨8,.data⟩ (by simp) rfl (.inl rfl);have q9:y9=.int .i64 (p:Nat):=hd ⟨9,.data⟩ (by simp) rfl (.inl rfl);have q11:y11=.int .i64 ((p:Int)+1):=hd ⟨11,.data⟩ (by simp) rfl (.inl rfl);have S4:Sep W0 w4 H:=hrest 0 (by omega) (.inr rfl);obtain⟨pN,pK,pO,pA⟩:=S4.nd_pin' i hiH hck hxk
   have HC:Hid (Calls Tryz.prog 126 #[.slice (some ⟨gn,0,none⟩) x.N.length cn,.int .i64 (p:Nat),.int .i64 ((p:Int)+1)] w4 fun e w'=>e=.returned (.slice (some ⟨gn,0,none⟩) (eraNd x p).N.length cn)∧w'.ownsRow 0 9 1 (.slice (some ⟨gn,0,none⟩) (eraNd x p).N.length cn) (eraNd x p).N.length ((eraNd x p).N.flatMap encStr1)∧w4.grownBy w' (some gn)):=hd0 (by
    have h:=delStr_any 0 gn cn p (p+1) x.N w4 (by omega) (by omega) pN
    have e1:x.N.length - (p+1 - p)=(eraNd x p).N.length:=by show _=(x.N.eraseIdx p).length;rw[List.length_eraseIdx_of_lt hp];omega
    rw[e1,era_take]at h
    exact h)
   have hgn:gn≠g:=(pO gn (.inl rfl)).1;have HS4:=hd0 S4;subst q8 q9 q11;clear hd hrest pN pK pO pA S4;simp[putAll,Act.put]
   go_wp2_with fail
   refine HC.out.mono ?_;rintro e w5 ⟨rfl,ho5,hg5⟩;have hch:Chg (fun b=>b=gn) w4 w5:=(Chg.of_row hg5).mono (fun b hb _=>(Option.some.inj hb).symm);clear HC hg5;go_wp2;refine⟨rfl,_,rfl,⟨rfl,w4,HS4.out,hch,ho5⟩,hI.trans (hch.mono (fun b hb _=>.inr (.inl (by rw[hb];rfl)))),fun j u us hj hne hcon hnd hnc hv=>?_⟩
   match j with
   | 0|1|2|3|4|5|6|7|8|9|10|11|13|14|15|16|17|18|19|20|22|23=>exact hv
   | 12=>exact absurd rfl hne
   | 21=>exact absurd (by decide) hnd
   | 24=>exact absurd (by decide) hnd
   | 25=>exact absurd rfl hcon
   | 26=>exact cell_chg (show w4.cell? _=_ from hv) hch (fun e=>hgn e.symm)
   | 27=>exact cell_chg (show w4.cell? _=_ from hv) hch (fun e=>hgn e.symm)
   | (zz+28)=>trivial
  ·clear hd hrest;simp[putAll,Act.put];go_wp2;exact OneD.mk (VTk.ext) rfl rfl hI (Ext.refl _)
  ·clear hd hrest;simp[putAll,Act.put];go_wp2;exact OneD.mk (VTk.ext) rfl rfl hI (Ext.refl _)
  ·have q13:y13=.slice (some ⟨g,0,none⟩) T.length cap:=hd ⟨13,.data⟩ (by simp) rfl (.inl rfl);have q14:y14=.int .i64 (k:Nat):=hd ⟨14,.data⟩ (by simp) rfl (.inl rfl);subst q13 q14;clear hd hrest;simp[putAll,Act.put];go_wp2;exact OneD.mk (VTk.ext) rfl rfl hI (Ext.refl _)
  ·have q15:y15=.pointer (some ⟨g,k*7,none⟩):=hd ⟨15,.data⟩ (by simp) rfl (.inl rfl);subst q15;clear hd hrest;simp[putAll,Act.put];go_wp2;exact OneD.mk (VTk.ext) rfl rfl hI (Ext.refl _)
  ·have q16:y16=.pointer (some ⟨g,k*7+6,none⟩):=hd ⟨16,.data⟩ (by simp) rfl (.inl rfl);have c6:w4.cell? ⟨g,k*7+6,none⟩=some (.slice (some ⟨gk,0,none⟩) x.K.length ck):=hrest 2 (by omega) (.inl rfl);subst q16;clear hd hrest;simp[putAll,Act.put];go_wp2;exact OneD.mk (VTk.ext) rfl rfl hI (Ext.refl _)
  ·clear hd hrest;simp[putAll,Act.put];go_wp2;exact OneD.mk (VTk.ext) rfl rfl hI (Ext.refl _)
  ·clear hd hrest;simp[putAll,Act.put];go_wp2;exact OneD.mk (VTk.ext) rfl rfl hI (Ext.refl _)
  ·have q19:y19=.int .i64 (p:Nat):=hd ⟨19,.data⟩ (by simp) rfl (.inl rfl);subst q19;clear hd hrest;simp[putAll,Act.put];go_wp2;exact OneD.mk (VTk.ext) rfl rfl hI (Ext.refl _)
  ·have q17:y17=.slice (some ⟨gk,0,none⟩) x.K.length ck:=hd ⟨17,.data⟩ (by simp) rfl (.inl rfl);have q18:y18=.int .i64 (p:Nat):=hd ⟨18,.data⟩ (by simp) rfl (.inl rfl);have q20:y20=.int .i64 ((p:Int)+1):=hd ⟨20,.data⟩ (by simp) rfl (.inl rfl);obtain⟨q12,w9,S9,hC9,ho9⟩:y12=.slice (some ⟨gn,0,none⟩) (eraNd x p).N.length cn∧∃w5,Sep W0 w5 H∧Chg (fun b=>b=gn) w5 w4∧w4.ownsRow 0 9 1 y12 (eraNd x p).N.length ((eraNd x p).N.flatMap encStr1):=hd ⟨12,.chain⟩ (by simp) rfl (.inr rfl);obtain⟨pN,pK,pO,pA⟩:=S9.nd_pin' i hiH hck hxk;have hgn:gn≠g:=(pO gn (.inl rfl)).1;have hgk:gk≠g:=(pO gk (.inr rfl)).1
   have hnk:gn≠gk:=fun e=>pA gn rfl (by rw[e];rfl)
   have hg9:g < w9.heap.size:=(S9.lt (List.mem_of_getElem? hiH) (show(plNd (.slice (some ⟨g,0,none⟩) T.length cap) vs T).own g from .inl rfl)).2;have hk9:gk < w9.heap.size:=(pO gk (.inr rfl)).2.2;have hn4:gn < w4.heap.size:=Nat.lt_of_lt_of_le (pO gn (.inl rfl)).2.2 hC9.size
   have pK4:w4.ownsRow 0 3 1 (.slice (some ⟨gk,0,none⟩) x.K.length ck) x.K.length (x.K.flatMap encInt1):=(plRow 3 1 encInt1 (.slice (some ⟨gk,0,none⟩) x.K.length ck) x.K).frame w9 w4 pK (fun b hb=>by
    have hb':gk=b:=Option.some.inj hb;subst hb'
    exact hC9.block gk hk9 (fun e=>hnk e.symm))
   have hvT:vs.length=T.length:=plG_len (S9.at_ i hiH)
   have pR4:w4.ownsRow 0 89 7 (.slice (some ⟨g,0,none⟩) T.length cap) T.length (vs.flatMap encNc):=by
    have h:=(plRow 89 7 encNc (.slice (some ⟨g,0,none⟩) T.length cap) vs).frame w9 w4 (S9.at_ i hiH).1 (fun b hb=>by
     have hb':g=b:=Option.some.inj hb;subst hb'
     exact hC9.block g hg9 (fun e=>hgn e.symm))
    have h':w4.ownsRow 0 89 7 (.slice (some ⟨g,0,none⟩) T.length cap) vs.length (vs.flatMap encNc):=h;rw[hvT]at h';exact h'
   have HC:Hid (Calls Tryz.prog 127 #[.slice (some ⟨gk,0,none⟩) x.K.length ck,.int .i64 (p:Nat),.int .i64 ((p:Int)+1)] w4 fun e w'=>e=.returned (.slice (some ⟨gk,0,none⟩) (eraNd x p).K.length ck)∧w'.ownsRow 0 3 1 (.slice (some ⟨gk,0,none⟩) (eraNd x p).K.length ck) (eraNd x p).K.length ((eraNd x p).K.flatMap encInt1)∧w4.grownBy w' (some gk)):=hd0 (by
    have hpK:p < x.K.length:=by rw[←HLen.out];exact hp
    have h:=delInt_any 0 gk ck p (p+1) x.K w4 (by omega) (by omega) pK4
    have e1:x.K.length - (p+1 - p)=(eraNd x p).K.length:=by show _=(x.K.eraseIdx p).length;rw[List.length_eraseIdx_of_lt hpK];omega
    rw[e1,era_take]at h
    exact h)
   have HB:=hd0 (And.intro S9 (And.intro hC9 ho9));have HV:=hd0 (And.intro hvT pR4);have HH:=hd0 (And.intro hgn (And.intro hgk (And.intro hnk (And.intro hn4 hg9))));subst q17 q18 q20 q12;clear hd hrest pN pK pO pA S9 hC9 ho9 pK4 pR4 hvT hgn hgk hnk hn4 hg9 hk9;simp[putAll,Act.put]
   go_wp2_with fail
   refine HC.out.mono ?_;rintro e w5 ⟨rfl,ho5,hg5⟩;have hch:Chg (fun b=>b=gk) w4 w5:=(Chg.of_row hg5).mono (fun b hb _=>(Option.some.inj hb).symm);clear HC hg5;obtain⟨S9,hC9,ho9⟩:=HB.out;obtain⟨hgn,hgk,hnk,hn4,hg9⟩:=HH.out
   have hAd:AdOk W0 H g (⟨x,some ⟨gn,0,none⟩,cn,some ⟨gk,0,none⟩,ck⟩:Nc) (eraNd x p).N (eraNd x p).K (.slice (some ⟨gn,0,none⟩) (eraNd x p).N.length cn) (.slice (some ⟨gk,0,none⟩) (eraNd x p).K.length ck) w5:=by
    refine⟨⟨w9,S9,(hC9.mono (fun b hb _=>.inr (.inl (by rw[hb];rfl)))).trans (hch.mono (fun b hb _=>.inr (.inr (by rw[hb];rfl)))),fun b hb=>.inl hb,fun b hb=>.inl hb⟩,⟨_,_,rfl⟩,⟨_,_,rfl⟩,?_,ho5,⟨fun b hb e=>?_,fun b hb e=>?_⟩,fun b hb hk=>?_⟩
    ·exact(plRow 9 1 encStr1 (.slice (some ⟨gn,0,none⟩) (eraNd x p).N.length cn) (eraNd x p).N).frame w4 w5 ho9 (fun b hb=>by
      have hb':gn=b:=Option.some.inj hb;subst hb'
      exact hch.block gn hn4 hnk)
    ·exact hgn ((Option.some.inj hb:gn=b).trans e)
    ·exact hgk ((Option.some.inj hb:gk=b).trans e)
    ·exact hnk ((Option.some.inj hb:gn=b).trans (Option.some.inj hk:gk=b).symm)
   have hRow:w5.ownsRow 0 89 7 (.slice (some ⟨g,0,none⟩) T.length cap) T.length (vs.flatMap encNc):=by
    have h':(plRow 89 7 encNc (.slice (some ⟨g,0,none⟩) T.length cap) vs).ok w4:=by
     show World.ownsRow _ _ _ _ _ vs.length _
     rw[HV.out.1];exact HV.out.2
    have h:=(plRow 89 7 encNc (.slice (some ⟨g,0,none⟩) T.length cap) vs).frame w4 w5 h' (fun b hb=>by
     have hb':g=b:=Option.some.inj hb;subst hb'
     exact hch.block g (Nat.lt_of_lt_of_le hg9 hC9.size) (fun e=>hgk e.symm))
    have h2:w5.ownsRow 0 89 7 (.slice (some ⟨g,0,none⟩) T.length cap) vs.length (vs.flatMap encNc):=h;rw[HV.out.1]at h2;exact h2
   have HF:=hd0 (And.intro hAd hRow);clear S9 hC9 ho9 HB hAd hRow ho5 hgn hnk hn4 hg9;go_wp2;refine⟨rfl,_,rfl,⟨rfl,rfl,HF.out.1,HF.out.2⟩,hI.trans (hch.mono (fun b hb _=>.inr (.inr (by rw[hb];rfl)))),fun j u us hj hne hcon hnd hnc hv=>?_⟩
   match j with
   | 0|1|2|3|4|5|6|7|8|9|10|11|13|14|15|16|17|18|19|20|22|23=>exact hv
   | 12=>exact absurd rfl hcon
   | 21=>exact absurd rfl hne
   | 24=>exact absurd (by decide) hnd
   | 25=>exact absurd (by decide) (hnc 12 rfl)
   | 26=>exact cell_chg (show w4.cell? _=_ from hv) hch (fun e=>hgk e.symm)
   | 27=>exact cell_chg (show w4.cell? _=_ from hv) hch (fun e=>hgk e.symm)
   | (zz+28)=>trivial
  ·have q0:y0=.slice (some ⟨g,0,none⟩) T.length cap:=hd ⟨0,.data⟩ (by simp) rfl (.inl rfl);have q1:y1=.int .i64 (k:Nat):=hd ⟨1,.data⟩ (by simp) rfl (.inl rfl);subst q0 q1;clear hd hrest;simp[putAll,Act.put];go_wp2;exact OneD.mk (VTk.ext) rfl rfl hI (Ext.refl _)
  ·have q22:y22=.pointer (some ⟨g,k*7,none⟩):=hd ⟨22,.data⟩ (by simp) rfl (.inl rfl);subst q22;clear hd hrest;simp[putAll,Act.put];go_wp2;exact OneD.mk (VTk.ext) rfl rfl hI (Ext.refl _)
  ·have q23:y23=.pointer (some ⟨g,k*7+5,none⟩):=hd ⟨23,.data⟩ (by simp) rfl (.inl rfl);obtain⟨q21,q12,hAd,hRow⟩:y21=.slice (some ⟨gk,0,none⟩) (eraNd x p).K.length ck∧y12=.slice (some ⟨gn,0,none⟩) (eraNd x p).N.length cn∧AdOk W0 H g (⟨x,some ⟨gn,0,none⟩,cn,some ⟨gk,0,none⟩,ck⟩:Nc) (eraNd x p).N (eraNd x p).K (.slice (some ⟨gn,0,none⟩) (eraNd x p).N.length cn) y21 w4∧w4.ownsRow 0 89 7 (.slice (some ⟨g,0,none⟩) T.length cap) T.length (vs.flatMap encNc):=hd ⟨21,.chain⟩ (by simp) rfl (.inr rfl);have hkl:=(List.getElem?_eq_some_iff.1 hck).1
   have hkT2:k < T.length:=by omega
   obtain⟨p5,f5⟩:=owns_there hRow (k*7+5) (by omega);rw[q21]at hAd;have hAd2:=hd0 (hAd.store (k*7+5) (.slice (some ⟨gn,0,none⟩) (eraNd x p).N.length cn));have hck2:vs[k]=(⟨x,some ⟨gn,0,none⟩,cn,some ⟨gk,0,none⟩,ck⟩:Nc):=(List.getElem?_eq_some_iff.1 hck).2;have hR2:=hd0 (owns_set encNc_len hRow k 5 (.slice (some ⟨gn,0,none⟩) (eraNd x p).N.length cn) (⟨⟨x.fold,x.own,x.grp,x.mode,x.text,(eraNd x p).N,x.K⟩,some ⟨gn,0,none⟩,cn,some ⟨gk,0,none⟩,ck⟩:Nc) hkl (by omega) (by rw[hck2];rfl));have hch:=Chg.setCell w4 g (k*7+5) (.slice (some ⟨gn,0,none⟩) (eraNd x p).N.length cn);have HQ:=hd0 hch;obtain⟨pv,hpv⟩:=Option.isSome_iff_exists.1 p5;subst q23 q12 q21;clear hd hrest hAd hRow p5 hch;simp[putAll,Act.put];go_wp2;refine⟨rfl,undef,rfl,⟨rfl,hAd2.out,hR2.out⟩,hI.trans (HQ.out.mono (fun b hb _=>.inl hb)),fun j u us hj hne hcon hnd hnc hv=>?_⟩
   match j with
   | 0|1|2|3|4|5|6|7|8|9|10|11|13|14|15|16|17|18|19|20|22|23=>exact hv
   | 12=>exact absurd (by decide) (hnc 21 rfl)
   | 21=>exact absurd rfl hcon
   | 24=>exact absurd rfl hne
   | 25=>exact absurd (by decide) (hnc 12 rfl)
   | 26=>exact absurd (by decide) (hnc 8 rfl)
   | 27 =>
    show(w4.setCell ⟨g,k*7+5,none⟩ (.slice (some ⟨gn,0,none⟩) (eraNd x p).N.length cn)).cell? ⟨g,k*7+6,none⟩=_
    rw[World.cell?_setCell_other w4 _ _ _ (by intro h;simp at h)];exact hv
   | (zz+28)=>trivial
 ·intro vz wE hvl hI hV hVr
  match vz,hvl with
  | [y0,y1,y2,y3,y4,y5,y6,y7,y8,y9,y10,y11,y12,y13,y14,y15,y16,y17,y18,y19,y20,y21,y22,y23,y24],_ =>
  have q2:y2=.slice (some ⟨g,0,none⟩) T.length cap:=hV 2 (by omega) rfl;have q3:y3=.int .i64 (k:Nat):=hV 3 (by omega) rfl;obtain⟨q21,hAd,hRow⟩:y21=.slice (some ⟨gk,0,none⟩) (eraNd x p).K.length ck∧AdOk W0 H g (⟨x,some ⟨gn,0,none⟩,cn,some ⟨gk,0,none⟩,ck⟩:Nc) (eraNd x p).N (eraNd x p).K (.slice (some ⟨gn,0,none⟩) (eraNd x p).N.length cn) (.slice (some ⟨gk,0,none⟩) (eraNd x p).K.length ck) wE∧wE.ownsRow 0 89 7 (.slice (some ⟨g,0,none⟩) T.length cap) T.length ((vs.set k (⟨⟨x.fold,x.own,x.grp,x.mode,x.text,(eraNd x p).N,x.K⟩,some ⟨gn,0,none⟩,cn,some ⟨gk,0,none⟩,ck⟩:Nc)).flatMap encNc):=hV 24 (by omega) rfl;subst q2 q3 q21;have hkl:=(List.getElem?_eq_some_iff.1 hck).1;have hvT:vs.length=T.length:=plG_len (Sd.at_ i hiH);obtain⟨p6,f6⟩:=owns_there hRow (k*7+6) (by omega);obtain⟨pv,hpv⟩:=Option.isSome_iff_exists.1 p6;have hR2:=owns_set encNc_len hRow k 6 (.slice (some ⟨gk,0,none⟩) (eraNd x p).K.length ck) (⟨eraNd x p,some ⟨gn,0,none⟩,cn,some ⟨gk,0,none⟩,ck⟩:Nc) (by rw[List.length_set];exact hkl) (by omega) (by rw[List.getElem_set_self];rfl);rw[List.set_set]at hR2;have hAd2:=hAd.store (k*7+6) (.slice (some ⟨gk,0,none⟩) (eraNd x p).K.length ck);obtain⟨w5,S5,hC5,hn5,hk5⟩:=hAd2.ex;have hFin:Hid (Sep W0 (wE.setCell ⟨g,k*7+6,none⟩ (.slice (some ⟨gk,0,none⟩) (eraNd x p).K.length ck)) (H.set i (plNd (.slice (some ⟨g,0,none⟩) T.length cap) (vs.set k (⟨eraNd x p,some ⟨gn,0,none⟩,cn,some ⟨gk,0,none⟩,ck⟩:Nc)) (T.set k (eraNd x p))))):=hd0 (S5.ndPut i hiH hck (c':=(⟨eraNd x p,some ⟨gn,0,none⟩,cn,some ⟨gk,0,none⟩,ck⟩:Nc)) (x':=eraNd x p) (hC5.mono (fun b hb _=>.inr hb)) (by rw[hvT];exact hR2) ⟨rfl,hAd2.r9,hAd2.r17,fun b hb=>hAd2.apart b hb⟩ (fun b hb=>.inl hb));clear hV hVr hI hAd hAd2 hRow hR2 S5 hC5 hn5 hk5 p6 Sd e5 e6;simp only[putAll,Act.put,List.take_succ_cons,List.take_zero,List.drop_succ_cons,List.drop_zero];simp
  go_upto_region 4 with fail
  clear hpv f6;generalize (wE.setCell ⟨g,k*7+6,none⟩ (.slice (some ⟨gk,0,none⟩) (eraNd x p).K.length ck))=w2 at *;have HA:=hd0 (take_almost HD.out);obtain⟨kd1,kd2,kd3,kd4,kd5⟩:=drop_kid HD.out
  have HT2:Hid (∀y∈T.set k (eraNd x p),SmN 1048576 y):=hd0 (fun y hy=>by
   rcases List.mem_or_eq_of_mem_set hy with hy|rfl
   ·exact HT.out y hy
   ·exact sm_era (HT.out x (List.mem_of_getElem? hxk)))
  obtain⟨T1,hT1⟩:∃T1,T1=T.set k (eraNd x p):=⟨_,rfl⟩;obtain⟨v1,hv1⟩:∃v1,v1=vs.set k (⟨eraNd x p,some ⟨gn,0,none⟩,cn,some ⟨gk,0,none⟩,ck⟩:Nc):=⟨_,rfl⟩;have hFi:=hFin.out;rw[←hv1,←hT1]at hFi;rw[era_takeNd,←Hpp.out,←hT1]at HA kd5;rw[←hT1]at HT2;have HR:Hid (dropT T k x s kid=if 0 < (kids T1).count (kid:Int)then T1 else(T1.eraseIdx kid).map (renNd kid)):=hd0 (by rw[hT1,Hpp.out];rfl)
  have hl1:T.length=T1.length:=by rw[hT1,List.length_set]
  have hset:∀Q,(H.set i (plNd (.slice (some ⟨g,0,none⟩) T.length cap) v1 T1)).set i Q=H.set i Q:=fun Q=>List.set_set ..
  have hiL:=(List.getElem?_eq_some_iff.1 hiH).1;obtain⟨H1,hH1⟩:∃H1,H1=H.set i (plNd (.slice (some ⟨g,0,none⟩) T.length cap) v1 T1):=⟨_,rfl⟩;rw[←hH1]at hFi hset
  have hi1:H1[i]?=some (plNd (.slice (some ⟨g,0,none⟩) T1.length cap) v1 T1):=by rw[hH1,List.getElem?_set_self hiL,hl1]
  have Hset:=hd0 hset;have HK5:=hd0 kd5;have HK4:=hd0 kd4;rw[hl1]at kd3 hkT hmax ⊢;clear hFin hT1 hv1 hl1 hset hH1 hiH hck hxk kd5 kd4 HD Hpp hp hpw
  go_wp2_with fail
  refine(implLinksOf (some ⟨g,0,none⟩) cap T1 w2 (by omega) HT2.out (hFi.rdN i hi1)).mono ?_;rintro e w3 ⟨v,rfl,⟨L,hoL,hLR⟩,hE3⟩;obtain rfl:=links_almost HA.out hLR;obtain⟨la,lc,rfl,_,hrL,_⟩:=view_owns encInt1_len hoL;have hll:(cntL T1.length (kids T1)).length=T1.length:=cntL_len _ _;obtain⟨yl,bl,ol,hyl,rfl,dl⟩:=atInt hrL (show kid < (cntL T1.length (kids T1)).length by omega);obtain rfl:yl=((kids T1).count (kid:Int):Int):=Option.some.inj (hyl.symm.trans (cntL_get kd3));have S3:=hFi.step hE3
  have hki:(kid:Int) < ((cntL T1.length (kids T1)).length:Int):=by omega
  generalize cntL T1.length (kids T1)=L at *;clear hoL hLR hrL hyl hll hE3 hFi
  by_cases hcnt:0 < (kids T1).count (kid:Int)
  ·have HX:=hd0 (HR.out.trans (if_pos hcnt))
   have hci:(0:Int) < ((kids T1).count (kid:Int):Int):=by omega
   have S4:Sep W0 w3 (H.set i (plNd (.slice (some ⟨g,0,none⟩) T1.length cap) v1 T1)):=by
    have h:=Hset.out (plNd (.slice (some ⟨g,0,none⟩) T1.length cap) v1 T1)
    have h2:H1.set i (plNd (.slice (some ⟨g,0,none⟩) T1.length cap) v1 T1)=H1:=by
     apply List.ext_getElem?;intro j
     by_cases hj:i=j
     ·subst hj;rw[List.getElem?_set_self (List.getElem?_eq_some_iff.1 hi1).1,hi1]
     ·rw[List.getElem?_set_ne hj]
    rw[←h,h2];exact S3
   have HS4:=hd0 S4;clear S3 S4 hcnt;generalize (kids T1).count (kid:Int)=cnt at *;go_wp2;go_ret;exact⟨_,v1,rfl,by rw[HX.out];exact HS4.out⟩
  ·have HX:=hd0 (HR.out.trans (if_neg hcnt))
   have hci:¬(0:Int) < ((kids T1).count (kid:Int):Int):=by omega
   have hv1:=plG_len (S3.at_ i hi1)
   have hown:w3.ownsRow 0 89 7 (.slice (some ⟨g,0,none⟩) v1.length cap) v1.length (v1.flatMap encNc):=by
    have h:=(S3.at_ i hi1).1;rw[←hv1]at h;exact h
   have HC:Hid (Calls Tryz.prog 152 #[.slice (some ⟨g,0,none⟩) T1.length cap,.int .i64 (kid:Nat),.int .i64 ((kid:Int)+1)] w3 fun e w'=>e=.returned (.slice (some ⟨g,0,none⟩) (T1.length - (kid+1 - kid)) cap) ∧
    w'.ownsRow 0 89 7 (.slice (some ⟨g,0,none⟩) (T1.length - (kid+1 - kid)) cap) (T1.length - (kid+1 - kid)) ((v1.take kid++v1.drop (kid+1)).flatMap encNc)∧w3.grownBy w' (some g)):=hd0 (by
    have h:=delNd_any 0 g cap kid (kid+1) v1 w3 (by omega) (by omega) hown;rw[hv1]at h
    exact h)
   have HV1:=hd0 hv1;have HS3:=hd0 S3;clear hown hv1 S3 hcnt;generalize (kids T1).count (kid:Int)=cnt at *
   go_wp2_with fail
   refine HC.out.mono ?_;rintro e w4 ⟨rfl,ho4,hg4⟩
   have hlE:T1.length - (kid+1 - kid)=(T1.eraseIdx kid).length:=by rw[List.length_eraseIdx_of_lt kd3];omega
   have hlV:(v1.eraseIdx kid).length=(T1.eraseIdx kid).length:=by rw[List.length_eraseIdx,List.length_eraseIdx,HV1.out]
   rw[hlE]at ho4 ⊢;rw[era_take]at ho4;have S4:=HS3.out.gCut i hi1 kid hg4 (by rw[hlV];exact ho4);rw[Hset.out]at S4;clear ho4 hg4 HC hlE hlV HS3
   have HT3:Hid (∀y∈T1.eraseIdx kid,SmN 1048576 y∧∀q∈y.K,1≤q∧q≤16):=hd0 (fun y hy=>by
    have hy':=(List.eraseIdx_sublist ..).subset hy;refine⟨HT2.out y hy',fun q hq=>?_⟩;obtain⟨l,hl⟩:=List.getElem?_of_mem hy';have:=inB_iff.1 (nodeOk_kid (HA.out.nodes l y hl) hq)
    omega)
   generalize v1.eraseIdx kid=v2 at *
   have hT2l:(T1.eraseIdx kid).length≤16:=by have:=(List.eraseIdx_sublist T1 kid).length_le;omega
   generalize T1.eraseIdx kid=T2 at *;clear HA HT2 HK5 HK4 HV1 HR;have hiL2:i < H.length:=hiL;go_wp2
   go_loopw [11,12,13,72,79] (fun _ _ _ ix _ wr=>∃(q:Nat) (v3:List Nc),q≤T2.length∧ix=.int .i64 q∧Sep W0 wr (H.set i (plNd (.slice (some ⟨g,0,none⟩) T2.length cap) v3 (mapMix (renNd kid) T2 q)))) (fun _ _ _ ix _ _=>T2.length - (intOf ix).toNat)
   case atStart=>exact⟨0,v2,Nat.zero_le _,rfl,by rw[mm_zero];exact S4⟩
   case round =>
    clear S4;obtain⟨q,v3,hq,rfl,S⟩:=hrel
    by_cases hlt:q < T2.length
    rotate_left
    ·obtain rfl:q=T2.length:=by omega
     have hni:¬(T2.length:Int) < (T2.length:Int):=by omega
     rw[mm_full]at S;have HS:=hd0 S;clear S;go_wp2;go_ret
     first|exact⟨_,v3,rfl,by rw[HX.out];exact HS.out⟩|exact⟨_,rfl,v3,by rw[HX.out];exact HS.out⟩
    ·obtain⟨x2,hx2⟩:∃x2,T2[q]?=some x2:=⟨_,List.getElem?_eq_getElem hlt⟩;have Hx2:=hd0 hx2
     have hxm:(mapMix (renNd kid) T2 q)[q]?=some x2:=by rw[mm_at (by omega)];exact hx2
     have hi3:(H.set i (plNd (.slice (some ⟨g,0,none⟩) T2.length cap) v3 (mapMix (renNd kid) T2 q)))[i]?=some (plNd (.slice (some ⟨g,0,none⟩) T2.length cap) v3 (mapMix (renNd kid) T2 q)):=List.getElem?_set_self hiL2;obtain⟨c,g',cap',hu,_,hck,hcn,hcell,_,_,hsk,_,hckl,hrN,hrK⟩:=S.ndAt i hi3 hxm
     obtain⟨rfl,rfl⟩:g=g'∧cap=cap':=by simp only[Value.slice.injEq,Option.some.injEq,Addr.mk.injEq,and_true,true_and]at hu;exact⟨hu.1,hu.2.2⟩
     obtain⟨x2',an2,cn2,ak2,ck2⟩:=c;dsimp only at hcn hckl hsk hrK;subst hcn;obtain⟨x2,hxx⟩:∃z,z=x2':=⟨_,rfl⟩;subst hxx;have c0:wr.cell? ⟨g,q*7,none⟩=some (.bool x2.fold):=hcell 0 _ rfl;have c1:wr.cell? ⟨g,q*7+1,none⟩=some (.int .i64 x2.own):=hcell 1 _ rfl;have c2:wr.cell? ⟨g,q*7+2,none⟩=some (.int .i64 x2.grp):=hcell 2 _ rfl;have c3:wr.cell? ⟨g,q*7+3,none⟩=some (.int .i64 x2.mode):=hcell 3 _ rfl;have c4:wr.cell? ⟨g,q*7+4,none⟩=some (.string x2.text):=hcell 4 _ rfl;have c5:wr.cell? ⟨g,q*7+5,none⟩=some (.slice an2 x2.N.length cn2):=hcell 5 _ rfl;have c6:wr.cell? ⟨g,q*7+6,none⟩=some (.slice ak2 x2.K.length ck2):=hcell 6 _ rfl;have hKl:x2.K.length≤1048576:=(HT3.out x2 (List.mem_of_getElem? hx2)).1.2.2.2;have HK16:=hd0 (HT3.out x2 (List.mem_of_getElem? hx2)).2
     have iq:(q:Int) < (T2.length:Int):=by omega
     have SB:=S.alloc #[.bool x2.fold,.int .i64 x2.own,.int .i64 x2.grp,.int .i64 x2.mode,.string x2.text,.slice an2 x2.N.length cn2,.slice ak2 x2.K.length ck2] 89;have HSk:=hd0 hsk;have Hm:=hd0 hxm;have Hck:=hd0 hck;have Hcl:=hd0 hckl;clear hcell hu hck hrN hrK hx2 hxm hi3 S hsk hckl
     go_upto_region 10 with fail
     clear c0 c1 c2 c3 c4 c5 c6;generalize hwB:(wr.alloc (.cells #[.bool x2.fold,.int .i64 x2.own,.int .i64 x2.grp,.int .i64 x2.mode,.string x2.text,.slice an2 x2.N.length cn2,.slice ak2 x2.K.length ck2] 89))=wB at *;generalize wr.heap.size=B at *;clear hwB;obtain⟨b6,_⟩:=bx (SB.box 0 rfl) 6 rfl
     have HSB:Hid (∃v4:List Nc,v4[q]?=some ⟨kidNd x2 (mapMix (renum kid) x2.K 0),an2,cn2,ak2,ck2⟩∧Sep W0 wB (plBox B #[.bool x2.fold,.int .i64 x2.own,.int .i64 x2.grp,.int .i64 x2.mode,.string x2.text,.slice an2 x2.N.length cn2,.slice ak2 x2.K.length ck2] 89 :: H.set i (plNd (.slice (some ⟨g,0,none⟩) T2.length cap) v4 ((mapMix (renNd kid) T2 q).set q (kidNd x2 (mapMix (renum kid) x2.K 0)))))):=hd0 ⟨v3,by rw[mm_zero];exact Hck.out,by
      rw[mm_zero]
      have e:(mapMix (renNd kid) T2 q).set q (kidNd x2 x2.K)=mapMix (renNd kid) T2 q:=by
       apply List.ext_getElem?;intro j
       by_cases hj:q=j
       ·subst hj;rw[List.getElem?_set_self (List.getElem?_eq_some_iff.1 Hm.out).1,Hm.out];rfl
       ·rw[List.getElem?_set_ne hj]
      rw[e];exact SB⟩
     clear SB;go_wp2;clear b6
     go_loopw [12,13,79] (fun _ _ jx wz=>∃(j:Nat) (v4:List Nc),j≤x2.K.length∧jx=.int .i64 j∧v4[q]?=some ⟨kidNd x2 (mapMix (renum kid) x2.K j),an2,cn2,ak2,ck2⟩∧Sep W0 wz (plBox B #[.bool x2.fold,.int .i64 x2.own,.int .i64 x2.grp,.int .i64 x2.mode,.string x2.text,.slice an2 x2.N.length cn2,.slice ak2 x2.K.length ck2] 89 :: H.set i (plNd (.slice (some ⟨g,0,none⟩) T2.length cap) v4 ((mapMix (renNd kid) T2 q).set q (kidNd x2 (mapMix (renum kid) x2.K j)))))) (fun _ _ jx _=>x2.K.length - (intOf jx).toNat)
     case atStart =>
      obtain⟨v4,h1,h2⟩:=HSB.out;exact⟨0,v4,Nat.zero_le _,rfl,h1,h2⟩
     case round =>
      obtain⟨j,v4,hj,rfl,hc4,S⟩:=hrel;have hqm:q < (mapMix (renNd kid) T2 q).length:=(List.getElem?_eq_some_iff.1 Hm.out).1
      have hi4:(plBox B #[.bool x2.fold,.int .i64 x2.own,.int .i64 x2.grp,.int .i64 x2.mode,.string x2.text,.slice an2 x2.N.length cn2,.slice ak2 x2.K.length ck2] 89 :: H.set i (plNd (.slice (some ⟨g,0,none⟩) T2.length cap) v4 ((mapMix (renNd kid) T2 q).set q (kidNd x2 (mapMix (renum kid) x2.K j)))))[i+1]?=some (plNd (.slice (some ⟨g,0,none⟩) T2.length cap) v4 ((mapMix (renNd kid) T2 q).set q (kidNd x2 (mapMix (renum kid) x2.K j)))):=by rw[List.getElem?_cons_succ];exact List.getElem?_set_self hiL2
      have hx4:((mapMix (renNd kid) T2 q).set q (kidNd x2 (mapMix (renum kid) x2.K j)))[q]?=some (kidNd x2 (mapMix (renum kid) x2.K j)):=List.getElem?_set_self hqm
      by_cases hjl:j < x2.K.length
      rotate_left
      ·obtain rfl:j=x2.K.length:=by omega
       have hni:¬(x2.K.length:Int) < (x2.K.length:Int):=by omega
       have S5:Sep W0 wr (H.set i (plNd (.slice (some ⟨g,0,none⟩) T2.length cap) v4 (mapMix (renNd kid) T2 (q+1)))):=by
        have h:=S.drop 0;rw[mm_full]at h;have e:=mm_set (f:=renNd kid) Hx2.out;rw[←e];exact h
       have HS5:=hd0 S5;clear S S5 hi4 hx4 hc4;go_wp2;go_roundw
       case rel=>exact⟨q+1,v4,by omega,by go_num,HS5.out⟩
       case measure=>simp[intOf];omega
      ·obtain⟨y,hy⟩:∃y,x2.K[j]?=some y:=⟨_,List.getElem?_eq_getElem hjl⟩
       have hym:(mapMix (renum kid) x2.K j)[j]?=some y:=by rw[mm_at (by omega)];exact hy
       have hml:(mapMix (renum kid) x2.K j).length=x2.K.length:=mm_len (by omega);obtain⟨c5,g5,cap5,hu5,_,hck5,_,_,_,_,_,_,_,_,hrK5⟩:=S.ndAt (i+1) hi4 hx4;obtain rfl:c5=⟨kidNd x2 (mapMix (renum kid) x2.K j),an2,cn2,ak2,ck2⟩:=Option.some.inj (hck5.symm.trans hc4);obtain⟨y',bk2,ok2,hy',hbk2,dk2⟩:=atInt hrK5 (show j < (kidNd x2 (mapMix (renum kid) x2.K j)).K.length by show j < (mapMix (renum kid) x2.K j).length;omega);obtain rfl:y=y':=Option.some.inj (hym.symm.trans hy')
       have hak:∃gk2,ak2=some ⟨gk2,0,none⟩:=by
        rcases HSk.out with⟨h1,h2,h3⟩|⟨g2,h2⟩
        ·have:=Hcl.out;omega
        ·exact⟨g2,h2⟩
       obtain⟨gk2,rfl⟩:=hak
       obtain⟨rfl,rfl⟩:gk2=bk2∧0=ok2:=by simpa using hbk2
       rw[Nat.zero_add]at dk2;obtain⟨b6,bf6⟩:=bx (S.box 0 rfl) 6 rfl
       have iji:(j:Int) < (x2.K.length:Int):=by omega
       have hy16:=HK16.out y (List.mem_of_getElem? hy)
       by_cases hgt:(kid:Int) < y
       ·have hyw:IntKind.i64.wrap (y - 1)=y - 1:=IntWalk.i64_in _ (by omega);have S6:=S.ndKid (i+1) hi4 hc4 hx4 rfl j (y - 1) (by show j < (mapMix (renum kid) x2.K j).length;omega);have pKj:=(S.nd_pin' (i+1) hi4 hc4 hx4).2.1;obtain⟨_,fk⟩:=owns_there pKj j (by rw[Nat.mul_one];show j < (mapMix (renum kid) x2.K j).length;omega)
        have e1:(mapMix (renum kid) x2.K j).set j (y - 1)=mapMix (renum kid) x2.K (j+1):=by
         have h:=mm_set (f:=renum kid) hy;rw[show renum kid y=y - 1 by unfold renum;rw[if_pos hgt]]at h;exact h
        have HS6:Hid (∃v5:List Nc,v5[q]?=some ⟨kidNd x2 (mapMix (renum kid) x2.K (j+1)),an2,cn2,some ⟨gk2,0,none⟩,ck2⟩∧Sep W0 (wr.setCell ⟨gk2,j,none⟩ (.int .i64 (y - 1))) (plBox B #[.bool x2.fold,.int .i64 x2.own,.int .i64 x2.grp,.int .i64 x2.mode,.string x2.text,.slice an2 x2.N.length cn2,.slice (some ⟨gk2,0,none⟩) x2.K.length ck2] 89 :: H.set i (plNd (.slice (some ⟨g,0,none⟩) T2.length cap) v5 ((mapMix (renNd kid) T2 q).set q (kidNd x2 (mapMix (renum kid) x2.K (j+1))))))):=hd0 ⟨_,List.getElem?_set_self (List.getElem?_eq_some_iff.1 hc4).1 |>.trans (by rw[←e1]),by
         rw[List.set_cons_succ,List.set_set,List.set_set]at S6;rw[←e1]
         exact S6⟩
        clear S S6 hi4 hx4 hc4 hck5 hrK5 hu5 hy' hym hml e1 pKj;go_wp2;go_roundw
        case rel =>
         obtain⟨v5,h1,h2⟩:=HS6.out;exact⟨j+1,v5,by omega,by go_num,h1,h2⟩
        case measure=>simp[intOf];omega
       ·have e1:mapMix (renum kid) x2.K j=mapMix (renum kid) x2.K (j+1):=mm_same hy (by unfold renum;rw[if_neg hgt]);have HS6:=hd0 (And.intro hc4 S);rw[e1]at HS6;clear S hi4 hx4 hc4 hck5 hrK5 hu5 hy' hym hml e1;go_wp2;go_roundw
        case rel=>exact⟨j+1,v4,by omega,by go_num,HS6.out.1,HS6.out.2⟩
        case measure=>simp[intOf];omega
theorem and512_all:∀q:Fin 1024,(bits BinOp.and IntKind.i64 (q.val:Int) 512 != 0)=decide (512≤(q.val:Int)):=by decide +kernel
theorem and512 {m:Int} (h:inB m 0 1023=true):(bits BinOp.and IntKind.i64 m 512 != 0)=decide (512≤m):=by
 obtain⟨h0,h1⟩:=inB_iff.1 h;have:=and512_all ⟨m.toNat,by omega⟩
 rwa [show((m.toNat:Nat):Int)=m by omega]at this
theorem implMayDropF (a:Option Addr) (cap:Nat) (T:List Nd) (c:Cr) (s:ByteArray) (full:Bool) (w:World) (hs:s.size≤1048576) (hl:T.length≤1048576) (hT:∀x∈T,SmN 1048576 x) (hc:RdN w a T) (hm:MaxG w) :
  Calls Tryz.prog 123 #[.slice a T.length cap,.agg #[.int .i64 c.r,.int .i64 c.a,.int .i64 c.s,.int .i64 c.g],.string s,.bool full] w (RetI (mayDropF T c s full) w):=by
 obtain⟨cr,ca,cs,cg⟩:=c;have HT:=hd0 hT;have HM:=hd0 hm;clear hT hm;dsimp only
 go_enter Tryz.func123,Tryz.ntmps123
 have S:=Sep.start w;replace S:=S.alloc_at (n:=w.heap.size) (by simp) #[.int .i64 cr,.int .i64 ca,.int .i64 cs,.int .i64 cg] 29
 go_wp2_with fail
 generalize (w.alloc (.cells #[.int .i64 cr,.int .i64 ca,.int .i64 cs,.int .i64 cg] 29))=w1 at *;refine(implFolderAbove a cap T ⟨cr,ca,cs,cg⟩ s w1 hs hl HT.out (hc.ext S.ext) (HM.out.ext S.ext)).mono ?_;rintro e w2 ⟨rfl,hE⟩;replace S:=S.step hE;clear hE
 rcases fa_cases T ⟨cr,ca,cs,cg⟩ s with⟨n,x,hF⟩|⟨f,hf,hF⟩
 rotate_left
 ·have HX:=hd0 (md_fault (full:=full) hf hF);rw[hF]
  have tf:(f == 0)=false:=by simpa using hf
  clear hf hF;dsimp only;go_wp2;go_ret;exact⟨by rw[HX.out];rfl,S.ext⟩
 have HF:=hd0 hF;rw[hF.eq];obtain⟨x',b',off,an,cn,ak,ck,hx,rfl,c0,c1,c2,c3,c4,c5,c6,hcn,hck,hrn,hrk⟩:=atNd hc (List.getElem?_eq_some_iff.1 hF.hx).1;obtain rfl:x=x':=Option.some.inj (hF.hx.symm.trans hx);have hN:=hF.tree.nodes n x hx;have Hmo:=hd0 hN.mode;have hNl:x.N.length≤1048576:=(HT.out x (List.mem_of_getElem? hx)).2.1
 have i1:(n:Int) < (T.length:Int):=by have:=(List.getElem?_eq_some_iff.1 hx).1;omega
 have hE:=S.ext;have d0:=cell_ext hE c0;have d1:=cell_ext hE c1;have d2:=cell_ext hE c2;have d3:=cell_ext hE c3;have d4:=cell_ext hE c4;have d5:=cell_ext hE c5;have d6:=cell_ext hE c6;have HKd:=hd0 (implKid x T.length an ak cn ck (lastOf s) w2 hN hNl (hrn.ext hE) (hrk.ext hE));have HKp:=hd0 (fun h=>kid_place hN (s:=lastOf s) h);clear hx hN c0 c1 c2 c3 c4 c5 c6 hcn hck hrn hrk hE hF;dsimp only
 go_wp2_with fail
 refine HKd.out.mono ?_;rintro e w3 ⟨rfl,hw3⟩;have g0:=cell_ext hw3 d0;have g1:=cell_ext hw3 d1;have g3:=cell_ext hw3 d3;clear d0 d1 d2 d3 d4 d5 d6 HKd;replace S:=S.step hw3;clear hw3
 by_cases hkid:kidOf x.N x.K (lastOf s) < 0
 ·have HX:=hd0 (md_miss (full:=full) HF.out hkid);clear g0 g1 g3;go_wp2;go_ret;exact⟨by rw[HX.out];rfl,S.ext⟩
 ·obtain⟨_,_,_,k4,k5,_⟩:=HKp.out (by omega);obtain⟨kid,hkd⟩:∃kid:Nat,kidOf x.N x.K (lastOf s)=(kid:Int):=⟨_,(Int.toNat_of_nonneg (by omega)).symm⟩;obtain⟨z,b2,off2,zan,zcn,zak,zck,hz,hzb,_,y1,_,_,_,y5,_⟩:=atNd (hc.ext S.ext) (show kid < T.length by omega)
  obtain⟨rfl,rfl⟩:b'=b2∧off=off2:=by simpa using hzb
  have HK:=hd0 (md_kid (full:=full) HF.out hkd hz)
  have i2:(kid:Int) < (T.length:Int):=by omega
  rw[hkd]at hkid ⊢;have d0:=g0;have d1:=g1;have d3:=g3;have z1:=y1;have z5:=y5;clear g0 g1 g3 y1 y5 k4 k5 hkd hz hzb HKp HF;obtain⟨⟨bc0,bf0⟩,⟨bc1,bf1⟩,⟨bc2,bf2⟩,⟨bc3,bf3⟩⟩:=bx4 (S.box 0 rfl)
  rcases stuck_cases ⟨cr,ca,cs,cg⟩ x z with⟨h1,hst⟩|⟨h1,h2,hst⟩|⟨h1,h2,h3,hst⟩|⟨h1,h2,h3,h4,hst⟩|⟨h1,h2,h3,h4,hst⟩
  ·have Hst:=hd0 hst
   have tm:bits BinOp.and IntKind.i64 x.mode 512=0:=by have h:=and512 Hmo.out;rw[decide_eq_false h1]at h;simpa using h
   clear h1 hst
   go_wp2_with fail
   have q0:=ExtW.cell d0;have q1:=ExtW.cell d1;have q3:=ExtW.cell d3;have qz1:=ExtW.cell z1;have qz5:=ExtW.cell z5;have bl:=ExtW.lt d0;have r0:=ExtW.cell bc0;have r1:=ExtW.cell bc1;have br:=ExtW.lt bc0;have HSx:=hd0 S;clear d0 d1 d3 z1 z5 bc0 bc1 bc2 bc3 bf0 bf1 bf2 bf3 S
   (refine wp_region_quiet_ext (by kernel_rfl) (by kernel_rfl) ?_;(repeat (go_big_quiet_step ((fail))));refine wpQuiet_nil ?_;intro _ hw';obtain⟨sq,hw''⟩:=hw';subst hw'')
   obtain⟨w5,hw5⟩:=sq;have pz5:=qz5 ⟨w5,hw5⟩;clear q0 q1 q3 qz1 qz5 bl r0 r1 br
   cases full with
   | true =>
    have HX:=hd0 (HK.out.trans (by rw[if_neg (by rw[Hst.out];decide),if_neg (by simp)]));go_wp2;go_ret;exact⟨by rw[HX.out];rfl,HSx.out.ext.trans hw5⟩
   | false =>
    by_cases hz0:0 < z.N.length
    ·have HX:=hd0 (HK.out.trans (by rw[if_neg (by rw[Hst.out];decide),if_pos ⟨rfl,hz0⟩]))
     have hzi:(0:Int) < (z.N.length:Int):=by omega
     go_wp2;go_ret;exact⟨by rw[HX.out];rfl,HSx.out.ext.trans hw5⟩
    ·have HX:=hd0 (HK.out.trans (by rw[if_neg (by rw[Hst.out];decide),if_neg (fun h=>hz0 h.2)]))
     have hzi:¬(0:Int) < (z.N.length:Int):=by omega
     go_wp2;go_ret;exact⟨by rw[HX.out];rfl,HSx.out.ext.trans hw5⟩
  ·have Hst:=hd0 hst
   have tm:(bits BinOp.and IntKind.i64 x.mode 512 != 0)=true:=by rw[and512 Hmo.out];simpa using h1
   have ta:ca=0:=h2;clear h2;subst ta;clear h1 hst
   go_wp2_with fail
   have q0:=ExtW.cell d0;have q1:=ExtW.cell d1;have q3:=ExtW.cell d3;have qz1:=ExtW.cell z1;have qz5:=ExtW.cell z5;have bl:=ExtW.lt d0;have r0:=ExtW.cell bc0;have r1:=ExtW.cell bc1;have br:=ExtW.lt bc0;have HSx:=hd0 S;clear d0 d1 d3 z1 z5 bc0 bc1 bc2 bc3 bf0 bf1 bf2 bf3 S
   (refine wp_region_quiet_ext (by kernel_rfl) (by kernel_rfl) ?_;(repeat (go_big_quiet_step ((fail))));refine wpQuiet_nil ?_;intro _ hw';obtain⟨sq,hw''⟩:=hw';subst hw'')
   obtain⟨w5,hw5⟩:=sq;have pz5:=qz5 ⟨w5,hw5⟩;clear q0 q1 q3 qz1 qz5 bl r0 r1 br
   cases full with
   | true =>
    have HX:=hd0 (HK.out.trans (by rw[if_neg (by rw[Hst.out];decide),if_neg (by simp)]));go_wp2;go_ret;exact⟨by rw[HX.out];rfl,HSx.out.ext.trans hw5⟩
   | false =>
    by_cases hz0:0 < z.N.length
    ·have HX:=hd0 (HK.out.trans (by rw[if_neg (by rw[Hst.out];decide),if_pos ⟨rfl,hz0⟩]))
     have hzi:(0:Int) < (z.N.length:Int):=by omega
     go_wp2;go_ret;exact⟨by rw[HX.out];rfl,HSx.out.ext.trans hw5⟩
    ·have HX:=hd0 (HK.out.trans (by rw[if_neg (by rw[Hst.out];decide),if_neg (fun h=>hz0 h.2)]))
     have hzi:¬(0:Int) < (z.N.length:Int):=by omega
     go_wp2;go_ret;exact⟨by rw[HX.out];rfl,HSx.out.ext.trans hw5⟩
  ·have Hst:=hd0 hst
   have tm:(bits BinOp.and IntKind.i64 x.mode 512 != 0)=true:=by rw[and512 Hmo.out];simpa using h1
   have ta:(ca != 0)=true:=by simpa using h2
   have to_:(ca != x.own)=false:=by simpa using h3
   clear h1 h2 h3 hst
   go_wp2_with fail
   have q0:=ExtW.cell d0;have q1:=ExtW.cell d1;have q3:=ExtW.cell d3;have qz1:=ExtW.cell z1;have qz5:=ExtW.cell z5;have bl:=ExtW.lt d0;have r0:=ExtW.cell bc0;have r1:=ExtW.cell bc1;have br:=ExtW.lt bc0;have HSx:=hd0 S;clear d0 d1 d3 z1 z5 bc0 bc1 bc2 bc3 bf0 bf1 bf2 bf3 S
   (refine wp_region_quiet_ext (by kernel_rfl) (by kernel_rfl) ?_;(repeat (go_big_quiet_step ((fail))));refine wpQuiet_nil ?_;intro _ hw';obtain⟨sq,hw''⟩:=hw';subst hw'')
   obtain⟨w5,hw5⟩:=sq;have pz5:=qz5 ⟨w5,hw5⟩;clear q0 q1 q3 qz1 qz5 bl r0 r1 br
   cases full with
   | true =>
    have HX:=hd0 (HK.out.trans (by rw[if_neg (by rw[Hst.out];decide),if_neg (by simp)]));go_wp2;go_ret;exact⟨by rw[HX.out];rfl,HSx.out.ext.trans hw5⟩
   | false =>
    by_cases hz0:0 < z.N.length
    ·have HX:=hd0 (HK.out.trans (by rw[if_neg (by rw[Hst.out];decide),if_pos ⟨rfl,hz0⟩]))
     have hzi:(0:Int) < (z.N.length:Int):=by omega
     go_wp2;go_ret;exact⟨by rw[HX.out];rfl,HSx.out.ext.trans hw5⟩
    ·have HX:=hd0 (HK.out.trans (by rw[if_neg (by rw[Hst.out];decide),if_neg (fun h=>hz0 h.2)]))
     have hzi:¬(0:Int) < (z.N.length:Int):=by omega
     go_wp2;go_ret;exact⟨by rw[HX.out];rfl,HSx.out.ext.trans hw5⟩
  ·have Hst:=hd0 hst
   have tm:(bits BinOp.and IntKind.i64 x.mode 512 != 0)=true:=by rw[and512 Hmo.out];simpa using h1
   have ta:(ca != 0)=true:=by simpa using h2
   have to_:(ca != x.own)=true:=by simpa using h3
   have tz:(ca != z.own)=false:=by simpa using h4
   clear h1 h2 h3 h4 hst
   go_wp2_with fail
   have q0:=ExtW.cell d0;have q1:=ExtW.cell d1;have q3:=ExtW.cell d3;have qz1:=ExtW.cell z1;have qz5:=ExtW.cell z5;have bl:=ExtW.lt d0;have r0:=ExtW.cell bc0;have r1:=ExtW.cell bc1;have br:=ExtW.lt bc0;have HSx:=hd0 S;clear d0 d1 d3 z1 z5 bc0 bc1 bc2 bc3 bf0 bf1 bf2 bf3 S
   (refine wp_region_quiet_ext (by kernel_rfl) (by kernel_rfl) ?_;(repeat (go_big_quiet_step ((fail))));refine wpQuiet_nil ?_;intro _ hw';obtain⟨sq,hw''⟩:=hw';subst hw'')
   obtain⟨w5,hw5⟩:=sq;have pz5:=qz5 ⟨w5,hw5⟩;clear q0 q1 q3 qz1 qz5 bl r0 r1 br
   cases full with
   | true =>
    have HX:=hd0 (HK.out.trans (by rw[if_neg (by rw[Hst.out];decide),if_neg (by simp)]));go_wp2;go_ret;exact⟨by rw[HX.out];rfl,HSx.out.ext.trans hw5⟩
   | false =>
    by_cases hz0:0 < z.N.length
    ·have HX:=hd0 (HK.out.trans (by rw[if_neg (by rw[Hst.out];decide),if_pos ⟨rfl,hz0⟩]))
     have hzi:(0:Int) < (z.N.length:Int):=by omega
     go_wp2;go_ret;exact⟨by rw[HX.out];rfl,HSx.out.ext.trans hw5⟩
    ·have HX:=hd0 (HK.out.trans (by rw[if_neg (by rw[Hst.out];decide),if_neg (fun h=>hz0 h.2)]))
     have hzi:¬(0:Int) < (z.N.length:Int):=by omega
     go_wp2;go_ret;exact⟨by rw[HX.out];rfl,HSx.out.ext.trans hw5⟩
  ·have Hst:=hd0 hst
   have tm:(bits BinOp.and IntKind.i64 x.mode 512 != 0)=true:=by rw[and512 Hmo.out];simpa using h1
   have ta:(ca != 0)=true:=by simpa using h2
   have to_:(ca != x.own)=true:=by simpa using h3
   have tz:(ca != z.own)=true:=by simpa using h4
   clear h1 h2 h3 h4 hst
   go_wp2_with fail
   have q0:=ExtW.cell d0;have q1:=ExtW.cell d1;have q3:=ExtW.cell d3;have qz1:=ExtW.cell z1;have qz5:=ExtW.cell z5;have bl:=ExtW.lt d0;have r0:=ExtW.cell bc0;have r1:=ExtW.cell bc1;have br:=ExtW.lt bc0;have HSx:=hd0 S;clear d0 d1 d3 z1 z5 bc0 bc1 bc2 bc3 bf0 bf1 bf2 bf3 S
   (refine wp_region_quiet_ext (by kernel_rfl) (by kernel_rfl) ?_;(repeat (go_big_quiet_step ((fail))));refine wpQuiet_nil ?_;intro _ hw';obtain⟨sq,hw''⟩:=hw';subst hw'')
   obtain⟨w5,hw5⟩:=sq;have pz5:=qz5 ⟨w5,hw5⟩;clear q0 q1 q3 qz1 qz5 bl r0 r1 br;have HX:=hd0 (HK.out.trans (by rw[if_pos Hst.out]));go_wp2;go_ret;exact⟨by rw[HX.out];rfl,HSx.out.ext.trans hw5⟩
theorem implMayDrop (a:Option Addr) (cap:Nat) (T:List Nd) (c:Cr) (s:ByteArray) (w:World) (hs:s.size≤1048576) (hl:T.length≤1048576) (hT:∀x∈T,SmN 1048576 x) (hc:RdN w a T) (hm:MaxG w) :
  Calls Tryz.prog 117 #[.slice a T.length cap,.agg #[.int .i64 c.r,.int .i64 c.a,.int .i64 c.s,.int .i64 c.g],.string s] w (RetI (mayDropF T c s false) w):=by
 obtain⟨cr,ca,cs,cg⟩:=c;have HT:=hd0 hT;have HM:=hd0 hm;clear hT hm;dsimp only
 go_enter Tryz.func117,Tryz.ntmps117
 have S:=Sep.start w;replace S:=S.alloc_at (n:=w.heap.size) (by simp) #[.int .i64 cr,.int .i64 ca,.int .i64 cs,.int .i64 cg] 29
 go_wp2_with fail
 generalize (w.alloc (.cells #[.int .i64 cr,.int .i64 ca,.int .i64 cs,.int .i64 cg] 29))=w1 at *;refine(implMayDropF a cap T ⟨cr,ca,cs,cg⟩ s false w1 hs hl HT.out (hc.ext S.ext) (HM.out.ext S.ext)).mono ?_;rintro e w2 ⟨rfl,hE⟩;replace S:=S.step hE;clear hE;go_wp2;go_ret;exact⟨rfl,S.ext⟩
theorem implDropName (a:Option Addr) (cap:Nat) (T:List Nd) (c:Cr) (s:ByteArray) (w:World) (hs:s.size≤1048576) (hl:T.length≤1048576) (hT:∀x∈T,SmN 1048576 x) (hc:RdN w a T) (hm:MaxG w) (hNB:NB 1000000 T) :
  Calls Tryz.prog 80 #[.slice a T.length cap,.agg #[.int .i64 c.r,.int .i64 c.a,.int .i64 c.s,.int .i64 c.g],.string s] w (RetMk (dropName T c s) w):=by
 obtain⟨cr,ca,cs,cg⟩:=c;have HT:=hd0 hT;have HM:=hd0 hm;have HNB:=hd0 hNB;clear hT hm hNB;dsimp only
 go_enter Tryz.func80,Tryz.ntmps80
 have S:=Sep.start w;replace S:=S.alloc_at (n:=w.heap.size) (by simp) #[.int .i64 cr,.int .i64 ca,.int .i64 cs,.int .i64 cg] 29
 go_wp2_with fail
 generalize (w.alloc (.cells #[.int .i64 cr,.int .i64 ca,.int .i64 cs,.int .i64 cg] 29))=w1 at *;refine(implMayDrop a cap T ⟨cr,ca,cs,cg⟩ s w1 hs hl HT.out (hc.ext S.ext) (HM.out.ext S.ext)).mono ?_;rintro e w2 ⟨rfl,hE⟩;replace S:=S.step hE;clear hE
 by_cases hmd:mayDropF T ⟨cr,ca,cs,cg⟩ s false=0
 rotate_left
 ·have HX:=hd0 (dn_bad hmd rfl)
  have tf:(mayDropF T ⟨cr,ca,cs,cg⟩ s false == 0)=false:=by simpa using hmd
  clear hmd;generalize mayDropF T ⟨cr,ca,cs,cg⟩ s false=f at *;go_wp2;go_ret2;exact RetMk.nil S.ext HX.out
 ·rcases md_cases T ⟨cr,ca,cs,cg⟩ s with⟨m,kid,x,z,hD,_,h7,_⟩|⟨f,hf,_,_,h⟩
  rotate_left
  ·exact absurd (h.symm.trans hmd) hf
  ·have h0:z.N.length=0:=by
    by_cases h0:z.N.length=0
    ·exact h0
    ·have:=(h7 (by omega)).symm.trans hmd;cases this
   have HX:=hd0 (dn_ok hD hmd);have HD:=hd0 (md_drop hD h0);have HF:=hd0 hD.fa;have hx:=hD.fa.hx;have hNl:=HNB.out x (List.mem_of_getElem? hx);rw[hmd];clear hmd hD h7 h0;obtain⟨⟨bc0,bf0⟩,⟨bc1,bf1⟩,⟨bc2,bf2⟩,⟨bc3,bf3⟩⟩:=bx4 (S.box 0 rfl)
   go_wp2_with fail
   clear bc0 bf0 bc1 bf1 bc2 bf2 bc3 bf3;refine(implFolderAbove a cap T ⟨cr,ca,cs,cg⟩ s w2 hs hl HT.out (hc.ext S.ext) (HM.out.ext S.ext)).mono ?_;rintro e w3 ⟨rfl,hE⟩;rw[HF.out.eq];dsimp only;replace S:=S.step hE;clear hE
   go_wp2_with fail
   refine(implCopy a cap T w3 hl HT.out (hc.ext S.ext)).mono ?_;rintro e w4 ⟨u,vs,rfl,S4⟩;replace S:Sep w w4 [plNd u vs T,plBox w.heap.size #[.int .i64 cr,.int .i64 ca,.int .i64 cs,.int .i64 cg] 29]:=S.call S4;clear S4;obtain⟨_,g,cap2,rfl,_,_⟩:=S.ndAt 0 rfl hx;have HS:=hd0 S;clear S
   go_wp2_with fail
   refine(implDropT HS.out 0 rfl HD.out HT.out hNl).mono ?_;rintro e w5 ⟨u',vs',rfl,S5⟩;have HS5:=hd0 (S5.drop 1);clear S5 HS;go_wp2;go_ret2;refine⟨u',vs',by rw[HX.out];rfl,?_⟩;rw[HX.out];exact HS5.out
end Go.Proofs.YtnibbldfohbfkaaGreatDoor
