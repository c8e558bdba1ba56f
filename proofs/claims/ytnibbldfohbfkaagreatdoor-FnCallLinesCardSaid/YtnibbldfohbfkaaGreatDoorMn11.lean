/- Parts of one proof: what each theorem proves, and its conditions, stand in its own statement. -/
import Derived.Shelf.Spec.SlicesInsertGrow
import Derived.Test.YtnibbldfohbfkaaGreatDoorMn10
set_option linter.all false
set_option maxRecDepth 100000
set_option maxHeartbeats 32000000
namespace Go.Proofs.YtnibbldfohbfkaaGreatDoor
open Go.RowKit
theorem run_copy_kStr {P:Program} (w:World) (dT sT ty elem:TypeId) (b o dLen dCap:Nat) (a:Addr) (sLen sCap n nf:Nat) (cs:List Value)
  (hu:P.underlying dT=some (.slice elem)) (hs:(P.info? elem).map (·.size)=some nf) (hn:n=Nat.min sLen dLen) (hcl:cs.length=n*nf)
  (hsrc:∀j v,cs[j]?=some v→w.cell? (a.add j)=some v) (hc:∀j,j < cs.length→(w.cell? ⟨b,o+j,none⟩).isSome=true) (hf:∀j,j < cs.length→w.frozen? ⟨b,o+j,none⟩=false) (h1:∀v∈cs,v.oneCell'=true) :
  (Builtin.copy_ #[dT,sT] ty #[.slice (some ⟨b,o,none⟩) dLen dCap,.slice (some a) sLen sCap]).run P w=.ok (goInt n) (w.setCells b o cs):=by
 have hl:=run_loadCells_list (P:=P) w a cs hsrc;have hst:=run_storeCells_cells (P:=P) b o cs 0 w (by simpa using hc) (by simpa using hf) h1
 cases hq:P.info? elem with
 | none=>simp[hq]at hs
 | some i =>
  have hi:i.size=nf:=by simpa [hq]using hs
  simp[Builtin.copy_,run_underlying hu,Builtin.lenOf,Builtin.firstCells,sizeOf,typeInfo,hq,hi,←hn,←hcl,hl,hst]
theorem setCells_sameStr (g:Nat):∀(us:List Value) (o:Nat) (w:World),w.setCells g o us=setCells w g o us
 | [],_,_=>rfl
 | u :: us,o,w=>setCells_sameStr g us (o+1) (w.setCell ⟨g,o,none⟩ u)
theorem owns_moreStr {w:World} {base e nf g n cap:Nat} {xs:List Value} (h:w.ownsRow base e nf (.slice (some ⟨g,0,none⟩) n cap) n xs) (hc:n+1≤cap):∃ys:List Value,ys.length=nf∧w.ownsRow base e nf (.slice (some ⟨g,0,none⟩) (n+1) cap) (n+1) (xs++ys):=by
 rcases h.2 with⟨h1,_⟩|⟨g',cap',cur,h1,hb,hg,_,hm,hs,ht⟩
 ·cases h1
 ·simp only[Value.slice.injEq,Option.some.injEq,Addr.mk.injEq,and_true,true_and]at h1;obtain⟨rfl,rfl⟩:=h1;have hle:(n+1)*nf≤cap*nf:=Nat.mul_le_mul_right _ hc
  have hcl:cur.toList.length=cap*nf:=by rw[Array.length_toList];exact hs
  have e1:(n+1)*nf=n*nf+nf:=by rw[Nat.add_mul,Nat.one_mul]
  have e2:cur.toList.take ((n+1)*nf)=xs++(cur.toList.drop (n*nf)).take nf:=by rw[←ht,e1,List.take_add]
  refine⟨(cur.toList.drop (n*nf)).take nf,by rw[List.length_take,List.length_drop];omega,?_,.inr ⟨g,cap,cur,rfl,hb,hg,hc,hm,hs,e2⟩⟩;rw[←e2,List.length_take];omega
theorem setAll_lenStr (us:List Value):∀(xs:List Value) (p:Nat),(setAll xs p us).length=xs.length:=by
 induction us with
 | nil=>intro xs p;rfl
 | cons u us ih=>intro xs p;rw[setAll,ih,List.length_set]
theorem ins_cellsStr (L:List ByteArray) (x:ByteArray) (i:Nat) (hi:i≤L.length) (junk:List Value) (hj:junk.length=1) :
  setAll (setAll (L.flatMap encStr1++junk) ((i+1)*1) ((L.drop i).flatMap encStr1)) (i*1) (encStr1 x)=(L.take i++x :: L.drop i).flatMap encStr1:=by
 have h1:(L.flatMap encStr1++junk).length=(L.length+1)*1:=by rw[List.length_append,flatMap_length encStr1_len,hj];omega
 have h2:((L.drop i).flatMap encStr1).length=(L.length - i)*1:=by rw[flatMap_length encStr1_len,List.length_drop]
 have h3:((L.take i).flatMap encStr1).length=i*1:=by rw[flatMap_length encStr1_len,List.length_take,Nat.min_eq_left hi]
 have hl:L.flatMap encStr1=(L.take i).flatMap encStr1++(L.drop i).flatMap encStr1:=by rw[←List.flatMap_append,List.take_append_drop]
 apply List.ext_getElem?;intro j;rw[setAll_at _ _ _ _ (by rw[setAll_lenStr,h1,encStr1_len];omega),encStr1_len,setAll_at _ _ _ _ (by rw[h1,h2];omega),h2,List.flatMap_append,List.flatMap_cons,hl]
 by_cases c1:j < i*1
 ·rw[if_neg (by omega),if_neg (by omega),List.append_assoc,List.getElem?_append_left (by rw[h3];exact c1),List.getElem?_append_left (by rw[h3];exact c1)]
 ·by_cases c2:j < i*1+1
  ·rw[if_pos (by omega),List.getElem?_append_right (by rw[h3];omega),h3,List.getElem?_append_left (by rw[encStr1_len];omega)]
  ·by_cases c3:j < (L.length+1)*1
   ·rw[if_neg (by omega),if_pos (by omega),List.getElem?_append_right (by rw[h3];omega),h3,List.getElem?_append_right (by rw[encStr1_len];omega),encStr1_len]
    congr 1
    all_goals omega
   ·rw[if_neg (by omega),if_neg (by omega),List.getElem?_eq_none (by simp only[List.length_append,h2,h3,hj];omega),List.getElem?_eq_none (by simp only[List.length_append,h2,h3,encStr1_len];omega)]
theorem ins_cells2Str (L:List ByteArray) (x:ByteArray) (i:Nat) (hi:i≤L.length) (R:List Value) (hR:R.length=(L.length+1)*1) (ht:R.take (i*1)=(L.take i).flatMap encStr1) :
  setAll (setAll R (i*1) (encStr1 x)) ((i+1)*1) ((L.drop i).flatMap encStr1)=(L.take i++x :: L.drop i).flatMap encStr1:=by
 have h2:((L.drop i).flatMap encStr1).length=(L.length - i)*1:=by rw[flatMap_length encStr1_len,List.length_drop]
 have h3:((L.take i).flatMap encStr1).length=i*1:=by rw[flatMap_length encStr1_len,List.length_take,Nat.min_eq_left hi]
 apply List.ext_getElem?;intro j;rw[setAll_at _ _ _ _ (by rw[setAll_lenStr,hR,h2];omega),h2,setAll_at _ _ _ _ (by rw[hR,encStr1_len];omega),encStr1_len,List.flatMap_append,List.flatMap_cons]
 by_cases c1:j < i*1
 ·rw[if_neg (by omega),if_neg (by omega),List.getElem?_append_left (by rw[h3];exact c1),←ht,List.getElem?_take,if_pos c1]
 ·by_cases c2:j < i*1+1
  ·rw[if_neg (by omega),if_pos (by omega),List.getElem?_append_right (by rw[h3];omega),h3,List.getElem?_append_left (by rw[encStr1_len];omega)]
  ·by_cases c3:j < (L.length+1)*1
   ·rw[if_pos (by omega),List.getElem?_append_right (by rw[h3];omega),h3,List.getElem?_append_right (by rw[encStr1_len];omega),encStr1_len]
    congr 1
    all_goals omega
   ·rw[if_neg (by omega),if_neg (by omega),List.getElem?_eq_none (by omega),List.getElem?_eq_none (by simp only[List.length_append,h2,h3,encStr1_len];omega)]
def InsQStr (base:Nat) (u:Value) (L:List ByteArray) (w:World) (e:Ending) (w':World):Prop:=∃v',e=.returned v'∧w'.ownsRow base 9 1 v' L.length (L.flatMap encStr1)∧w.grownBy w' u.ownBlock∧(∀b,v'.ownBlock=some b→u.ownBlock=some b∨w.heap.size≤b)
theorem insStr_end (base:Nat) (a:Option Addr) (cap vb:Nat) (L:List ByteArray) (x:ByteArray) (w:World) (hL:L.length≤1000000) (hb:base≤w.heap.size)
  (hown:w.ownsRow base 9 1 (.slice a L.length cap) L.length (L.flatMap encStr1)) (hv:w.heap[vb]?=some (.cells (encStr1 x).toArray 9)) :
  Calls Tryz.prog 150 #[.slice a L.length cap,.int .i64 L.length,.slice (some ⟨vb,0,none⟩) 1 1] w (InsQStr base (.slice a L.length cap) (L++[x]) w):=by
 have hrd:Rd 1 encStr1 w (some ⟨vb,0,none⟩) [x]:=rd_lit [x] encStr1_len hv (by simp);obtain⟨a',cap',h1,hlc,_,hsh⟩:=view_owns encStr1_len hown;simp only[Value.slice.injEq,true_and]at h1;obtain⟨rfl,rfl⟩:=h1;have Hsh:=hd0 hsh;clear hsh
 rcases Nat.lt_or_eq_of_le hlc with hlt|rfl
 ·(have hlc2:(L.length:Int) < (cap:Int):=by omega)
  go_enter Tryz.func150,Tryz.ntmps150
  go_wp2_with (at_builtin;refine Hid.out (?_:Hid _))
  unfold Hid;refine wpList_append_b rfl _ _ 39 rfl base 9 _ 1 _ Tryz.underlying39 infoStr1 rfl (by decide) encStr1_len encStr1_one _ L.length L rfl hown rfl (some ⟨vb,0,none⟩) 1 1 [x] rfl rfl hrd (by omega) (by omega) hb ?_;intro v' w' ho hgr hblk;go_wp2;go_ret;exact⟨v',rfl,ho,hgr,hblk⟩
 ·go_enter Tryz.func150,Tryz.ntmps150
  go_wp2_with (at_builtin;refine Hid.out (?_:Hid _))
  unfold Hid;refine wpList_append_b rfl _ _ 39 rfl base 9 _ 1 _ Tryz.underlying39 infoStr1 rfl (by decide) encStr1_len encStr1_one _ L.length L rfl hown rfl (some ⟨vb,0,none⟩) 1 1 [x] rfl rfl hrd (by omega) (by omega) hb ?_;intro v' w' ho hgr hblk;go_wp2;go_ret;exact⟨v',rfl,ho,hgr,hblk⟩
theorem insStr_room (base g cap i vb:Nat) (L:List ByteArray) (x:ByteArray) (w:World) (hi:i < L.length) (hroom:L.length+1≤cap) (hL:L.length≤1000000) (hb:base≤w.heap.size)
  (hown:w.ownsRow base 9 1 (.slice (some ⟨g,0,none⟩) L.length cap) L.length (L.flatMap encStr1)) (hv:w.heap[vb]?=some (.cells (encStr1 x).toArray 9)) (hne:vb≠g) :
  Calls Tryz.prog 150 #[.slice (some ⟨g,0,none⟩) L.length cap,.int .i64 i,.slice (some ⟨vb,0,none⟩) 1 1] w (InsQStr base (.slice (some ⟨g,0,none⟩) L.length cap) (L.take i++x :: L.drop i) w):=by
 obtain⟨i0,hi0,hz0,hzs,hzb⟩:=info_parts infoStr1
 have hsz:(Tryz.prog.info? 9).map (·.size)=some 1:=by rw[hi0];simp[hzs]
 have mixed:Tryz.prog.follows .mixedOrders=true:=rfl;obtain⟨hlc,hcm,hbg⟩:=owns_bound hown;obtain⟨junk,hjl,hmore⟩:=owns_moreStr hown hroom
 obtain⟨cur,hcur,hcs⟩:∃cur,w.heap[g]?=some (.cells cur 9 (0,0))∧cur.size=cap*1:=by
  rcases hown.2 with⟨h1,_⟩|⟨g',cap',cur,h1,_,hg,_,_,hs,_⟩
  ·cases h1
  ·simp only[Value.slice.injEq,Option.some.injEq,Addr.mk.injEq,and_true,true_and]at h1;obtain⟨rfl,rfl⟩:=h1;exact⟨cur,hg,hs⟩
 have hsome:∀k,k < (L.length+1)*1→(w.cell? ⟨g,k,none⟩).isSome=true:=fun k hk=>by
  have:k < cur.size:=by omega
  simp[World.cell?,hcur,this]
 have hfz:∀k,w.frozen? ⟨g,k,none⟩=false:=fun k=>by simp[World.frozen?,hcur]
 obtain⟨cs,hcsd⟩:∃cs,cs=(L.drop i).flatMap encStr1:=⟨_,rfl⟩
 have hcl:cs.length=(L.length - i)*1:=by rw[hcsd,flatMap_length encStr1_len,List.length_drop]
 have h1c:∀v∈cs,v.oneCell'=true:=fun v hv=>by
  rw[hcsd]at hv;obtain⟨y,_,hy⟩:=List.mem_flatMap.1 hv;exact encStr1_one y v hy
 have hsrc:∀j v,cs[j]?=some v→w.cell? ⟨g,i*1+j,none⟩=some v:=fun j v hj=>by
  have hjl2:=(List.getElem?_eq_some_iff.1 hj).1;rw[hown.cellAt _ (by omega)];rw[hcsd,←flatMap_drop encStr1_len,List.getElem?_drop]at hj;exact hj
 obtain⟨vs,hvs⟩:∃vs,vs=encStr1 x:=⟨_,rfl⟩
 have hvl:vs.length=1:=by rw[hvs];exact encStr1_len x
 have h1v:∀v∈vs,v.oneCell'=true:=fun v hv=>by rw[hvs]at hv;exact encStr1_one x v hv
 have hvc:∀j v,vs[j]?=some v→w.cell? ⟨vb,0+j,none⟩=some v:=fun j v hj=>by
  rw[hvs]at hj;simp[World.cell?,hv,hj]
 have hov:∀lb cb,(callFunc 172 #[.slice (some ⟨vb,0,none⟩) 1 1,.slice (some ⟨g,(i+1)*1,none⟩) lb cb]).run Tryz.prog w=.ok (.value (.bool false)) w:=fun lb cb=>by
  rw[run_callFunc_extern Tryz.func172 (by kernel_rfl) (by kernel_rfl) (by kernel_rfl) (e:=Extern.SlicesOverlaps.overlaps #[39,39] #[4]) (by kernel_rfl),
   Lib.run_overlaps_apart w 39 4 9 Tryz.underlying39 1 (fun w=>by simp[sizeOf,typeInfo,hi0,hzs]) ⟨vb,0,none⟩ ⟨g,(i+1)*1,none⟩ 1 1 lb cb hne 9 9 1 (cap*1) (by simp[World.shape?,hv,encStr1_len]) (by simp[World.shape?,hcur,hcs]) (by omega) (by simp[World.frozen?,hv]) (by simp[World.frozen?,hv])]
  rfl
 have hw1:IntKind.i64.wrap ((i:Int)+1)=(i:Int)+1:=IntWalk.i64_in _ (by omega);have hwn:IntKind.i64.wrap ((L.length:Int)+1)=(L.length:Int)+1:=IntWalk.i64_in _ (by omega)
 have htn:((i:Int)+1).toNat=i+1:=by omega
 have htn2:((L.length:Int)+1).toNat=L.length+1:=by omega
 have hz2:¬((i:Int)=(L.length:Int)):=by omega
 have hz2b:((i:Int) == (L.length:Int))=false:=by simp;omega
 have hin:(i:Int)≤(L.length:Int):=by omega
 have hrm:¬((cap:Int) < (L.length:Int)+1):=by omega
 have hrm2:(L.length:Int)+1≤(cap:Int):=by omega
 have hb1:(0:Int)≤(i:Int)+1:=by omega
 have hb3:(i:Int)≤(L.length:Int)+1:=by omega
 have hb5:(i:Int)+1≤(L.length:Int)+1:=by omega
 have hb2:¬(cap=i+1):=by omega
 have hb4:¬(cap=i):=by omega
 have hcp1:∀ty dc sc,(Builtin.copy_ #[39,39] ty #[.slice (some ⟨g,(i+1)*1,none⟩) (L.length - i) dc,.slice (some ⟨g,i*1,none⟩) (L.length+1 - i) sc]).run Tryz.prog w.drew=.ok (goInt ((L.length - i:Nat):Int)) (w.drew.setCells g ((i+1)*1) cs):=fun ty dc sc =>
  run_copy_kStr w.drew _ _ ty 9 g ((i+1)*1) (L.length - i) dc ⟨g,i*1,none⟩ (L.length+1 - i) sc (L.length - i) 1 cs Tryz.underlying39 hsz (by simp only[Nat.min_def];split<;>omega) hcl
   (fun j v hj=>by rw[Addr.add_lit];exact hsrc j v hj)
   (fun j hj=>hsome _ (by omega)) (fun j hj=>hfz _) h1c
 obtain⟨W1,hW1⟩:∃W1,W1=w.drew.setCells g ((i+1)*1) cs:=⟨_,rfl⟩
 have hsp1:∀k,k < (L.length+1)*1→(W1.cell? ⟨g,k,none⟩).isSome=true:=fun k hk=>by
  rw[hW1];exact isSome_setCells g cs ((i+1)*1) w.drew (fun j hj=>hsome ((i+1)*1+j) (by omega)) k (hsome k hk)
 have hcp2:∀(W:World),(∀x,W.cell? x=W1.cell? x)→(∀x,W.frozen? x=W1.frozen? x)→∀ty dc,(Builtin.copy_ #[39,39] ty #[.slice (some ⟨g,i*1,none⟩) (L.length+1 - i) dc,.slice (some ⟨vb,0,none⟩) 1 1]).run Tryz.prog W=.ok (goInt ((1:Nat):Int)) (W.setCells g (i*1) vs):=fun W hWc hWf ty dc =>
  run_copy_kStr W _ _ ty 9 g (i*1) (L.length+1 - i) dc ⟨vb,0,none⟩ 1 1 1 1 vs Tryz.underlying39 hsz (by simp only[Nat.min_def];split<;>omega) (by rw[hvl])
   (fun j v hj=>by
    rw[Addr.add_lit,hWc,hW1,World.cell?_setCells_out g _ _ _ _ (fun h _=>absurd h hne)]
    exact hvc j v hj)
   (fun j hj=>by rw[hWc];exact hsp1 _ (by omega)) (fun j hj=>by rw[hWf,hW1,World.frozen?_setCells];exact hfz _) h1v
 rw[←hW1]at hcp1
 have HF:Hid (InsQStr base (.slice (some ⟨g,0,none⟩) L.length cap) (L.take i++x :: L.drop i) w (.returned (.slice (some ⟨g,0,none⟩) (L.length+1) cap)) ((w.drew.setCells g ((i+1)*1) cs).setCells g (i*1) vs)):=hd0 (by
  have hlen:(L.take i++x :: L.drop i).length=L.length+1:=by simp;omega
  refine⟨_,rfl,?_,?_,fun b h=>.inl h⟩
  ·rw[hlen,setCells_sameStr,setCells_sameStr];have h1:=owns_setCells vs (i*1) (owns_setCells cs ((i+1)*1) (ownsRow_ext hmore (Ext.refl w).drew));rw[hvs,hcsd,ins_cellsStr L x i (by omega) junk hjl]at h1;rw[hvs,hcsd];exact h1
  ·rw[setCells_sameStr,setCells_sameStr]
   exact grown_setCells vs _ (grown_setCells cs _ (grown_of_ext (Ext.refl w).drew _)))
 clear hown hmore hcur hsome hfz hsrc hcl hvl hvc hsp1 h1c h1v hcsd hvs hlc hjl;simp only[Nat.mul_one]at hov hcp1 hcp2 HF
 go_enter Tryz.func150,Tryz.ntmps150
 go_wp2_with (simp only[hov])
 go_region_law (refine step_copy_runI rfl _ _ 39 39 rfl _ _ (by simp[Act.eval,Act.put]) (by simp[Act.eval,Act.put]) (hcp1 _ _ _) ?_)
 go_wp2_with (at_builtin;refine wpList_copy_runI _ rfl _ _ 39 39 rfl _ _ rfl rfl (hcp2 _ (fun _=>rfl) (fun _=>rfl) _ _) ?_)
 go_ret
 first|exact HF.out|(subst hW1;exact HF.out)
theorem insStr_grow (base g cap i vb:Nat) (L:List ByteArray) (x:ByteArray) (w:World) (hi:i < L.length) (hroom:cap < L.length+1) (hL:L.length≤1000000) (hb:base≤w.heap.size)
  (hown:w.ownsRow base 9 1 (.slice (some ⟨g,0,none⟩) L.length cap) L.length (L.flatMap encStr1)) (hv:w.heap[vb]?=some (.cells (encStr1 x).toArray 9)) :
  Calls Tryz.prog 150 #[.slice (some ⟨g,0,none⟩) L.length cap,.int .i64 i,.slice (some ⟨vb,0,none⟩) 1 1] w (InsQStr base (.slice (some ⟨g,0,none⟩) L.length cap) (L.take i++x :: L.drop i) w):=by
 obtain⟨i0,hi0,hz0,hzs,hzb⟩:=info_parts infoStr1
 have hsz:(Tryz.prog.info? 9).map (·.size)=some 1:=by rw[hi0];simp[hzs]
 have mixed:Tryz.prog.follows .mixedOrders=true:=rfl;obtain⟨hlc,hcm,hbg⟩:=owns_bound hown;have hgw:g < w.heap.size:=(World.ownsRow.lt hown g rfl).2;have hvw:vb < w.heap.size:=(Array.getElem?_eq_some_iff.1 hv).1;obtain⟨cs,hcsd⟩:∃cs,cs=(L.drop i).flatMap encStr1:=⟨_,rfl⟩
 have hcl:cs.length=(L.length - i)*1:=by rw[hcsd,flatMap_length encStr1_len,List.length_drop]
 have h1c:∀v∈cs,v.oneCell'=true:=fun v hv=>by
  rw[hcsd]at hv;obtain⟨y,_,hy⟩:=List.mem_flatMap.1 hv;exact encStr1_one y v hy
 have hall:∀j v,(L.flatMap encStr1)[j]?=some v→w.cell? ⟨g,j,none⟩=some v:=fun j v hj=>by
  have hjl2:=(List.getElem?_eq_some_iff.1 hj).1;rw[flatMap_length encStr1_len]at hjl2;rw[hown.cellAt _ hjl2];exact hj
 have hsrc:∀j v,cs[j]?=some v→w.cell? ⟨g,i*1+j,none⟩=some v:=fun j v hj=>by
  rw[hcsd,←flatMap_drop encStr1_len,List.getElem?_drop]at hj;exact hall _ v hj
 obtain⟨vs,hvs⟩:∃vs,vs=encStr1 x:=⟨_,rfl⟩
 have hvl:vs.length=1:=by rw[hvs];exact encStr1_len x
 have h1v:∀v∈vs,v.oneCell'=true:=fun v hv=>by rw[hvs]at hv;exact encStr1_one x v hv
 have hvc:∀j v,vs[j]?=some v→w.cell? ⟨vb,0+j,none⟩=some v:=fun j v hj=>by
  rw[hvs]at hj;simp[World.cell?,hv,hj]
 obtain⟨os,hos⟩:∃os,os=(L.take i).flatMap encStr1:=⟨_,rfl⟩
 have hol:os.length=i*1:=by rw[hos,flatMap_length encStr1_len,List.length_take,Nat.min_eq_left (by omega)]
 have hosc:∀j v,os[j]?=some v→w.cell? ⟨g,0+j,none⟩=some v:=fun j v hj=>by
  rw[Nat.zero_add];apply hall;have hjl:=(List.getElem?_eq_some_iff.1 hj).1
  have e:L.flatMap encStr1=os++(L.drop i).flatMap encStr1:=by rw[hos,←List.flatMap_append,List.take_append_drop]
  rw[e,List.getElem?_append_left hjl];exact hj
 have hold:(Builtin.firstCells i0.size i (.slice (some ⟨g,0,none⟩) i cap)).run Tryz.prog w.drew=.ok os.toArray w.drew:=by
  rw[hzs]
  exact run_firstCells_some w.drew 1 i ⟨g,0,none⟩ i cap os (by rw[hol]) (fun j v hj=>by
   rw[Addr.add_lit]
   exact hosc j v hj)
 obtain⟨z,hz⟩:∃z,i0.zero=some z:=⟨_,hz0⟩
 have hzc:z.cells.size=1:=by rw[hz0]at hz;cases hz;rfl
 have hkk:(L.length:Int)+1 - (i:Int)=((L.length+1 - i:Nat):Int):=by omega
 have hik:i+(L.length+1 - i)=L.length+1:=by omega
 have hrz:∀ty,(Builtin.append_ #[39,3] ty #[.slice (some ⟨g,0,none⟩) i cap,.int .i64 ((L.length:Int)+1 - (i:Int))]).run Tryz.prog w =
   .ok (.slice (some ⟨w.heap.size,0,none⟩) (L.length+1) (grownCap w (L.length+1) cap 9)) (w.drew.alloc (.cells (os.toArray++Builtin.zeroCells z.cells (L.length+1 - i)++Builtin.zeroCells z.cells (grownCap w (L.length+1) cap 9 - (L.length+1))) 9)):=fun ty=>by
  have h:=Lib.run_append_grow_zeros w 39 3 ty 9 i0 z .i64 .i64 Tryz.underlying39 Tryz.underlying3 hi0 hz (some ⟨g,0,none⟩) i cap os hold (L.length+1 - i) (by omega) (by omega) (by omega) (by omega) (by rw[hzb];omega) (by rw[hzb,hik];exact growslice_fits hroom (by omega));rw[hik]at h;rw[hkk];exact h
 obtain⟨G,hG⟩:∃G,G=grownCap w (L.length+1) cap 9:=⟨_,rfl⟩;obtain⟨ROW,hROW⟩:∃ROW:Array Value,ROW=os.toArray++Builtin.zeroCells z.cells (L.length+1 - i)++Builtin.zeroCells z.cells (G - (L.length+1)):=⟨_,rfl⟩;rw[←hG]at hrz;rw[←hROW]at hrz
 have hGn:L.length+1≤G:=by rw[hG];exact grownCap_ge w _ _ _
 have hGm:G≤maxLen:=by rw[hG];exact grownCap_le_maxLen w (L.length+1) cap 9 (by unfold maxLen;omega)
 have hG63:G≤9223372036854775807:=by unfold maxLen at hGm;omega
 have hRl:ROW.size=G*1:=by
  rw[hROW];simp[Builtin.zeroCells,hzc,hol];omega
 have hRt:ROW.toList.take (i*1)=os:=by
  rw[hROW,←hol];simp
 have hRn:ROW.toList.length=G*1:=by rw[Array.length_toList (xs:=ROW)];exact hRl
 obtain⟨W1,hW1⟩:∃W1,W1=w.drew.alloc (.cells ROW 9):=⟨_,rfl⟩;rw[←hW1]at hrz
 have hN:∀j,j < (L.length+1)*1→(W1.cell? ⟨w.heap.size,j,none⟩).isSome=true:=fun j hj=>by
  rw[hW1,World.cell?_alloc_at (w:=w.drew) ROW _ w.heap.size j rfl,Array.getElem?_eq_getElem (by omega)];rfl
 have hNf:∀j,W1.frozen? ⟨w.heap.size,j,none⟩=false:=fun j=>by rw[hW1];exact World.frozen?_alloc_at (w:=w.drew) ROW _ w.heap.size j rfl
 have hOb:∀j v,w.cell? ⟨g,j,none⟩=some v→W1.cell? ⟨g,j,none⟩=some v:=fun j v h=>by rw[hW1,World.cell?_alloc_past (w:=w.drew) _ g j hgw];exact h
 have hOv:∀j v,w.cell? ⟨vb,j,none⟩=some v→W1.cell? ⟨vb,j,none⟩=some v:=fun j v h=>by rw[hW1,World.cell?_alloc_past (w:=w.drew) _ vb j hvw];exact h
 have hcpA:∀(W:World),(∀x,W.cell? x=W1.cell? x)→(∀x,W.frozen? x=W1.frozen? x)→∀ty dc,(Builtin.copy_ #[39,39] ty #[.slice (some ⟨w.heap.size,i*1,none⟩) (L.length+1 - i) dc,.slice (some ⟨vb,0,none⟩) 1 1]).run Tryz.prog W=.ok (goInt ((1:Nat):Int)) (W.setCells w.heap.size (i*1) vs):=fun W hWc hWf ty dc =>
  run_copy_kStr W _ _ ty 9 w.heap.size (i*1) (L.length+1 - i) dc ⟨vb,0,none⟩ 1 1 1 1 vs Tryz.underlying39 hsz (by simp only[Nat.min_def];split<;>omega) (by rw[hvl])
   (fun j v hj=>by rw[Addr.add_lit,hWc];exact hOv _ v (hvc j v hj))
   (fun j hj=>by rw[hWc];exact hN _ (by omega)) (fun j hj=>by rw[hWf];exact hNf _) h1v
 have hgN:g≠w.heap.size:=by omega
 have hcpB:∀(W:World),(∀x,W.cell? x=(W1.setCells w.heap.size (i*1) vs).cell? x)→(∀x,W.frozen? x=(W1.setCells w.heap.size (i*1) vs).frozen? x)→∀ty dc sc,(Builtin.copy_ #[39,39] ty #[.slice (some ⟨w.heap.size,(i+1)*1,none⟩) (L.length - i) dc,.slice (some ⟨g,i*1,none⟩) (L.length - i) sc]).run Tryz.prog W=.ok (goInt ((L.length - i:Nat):Int)) (W.setCells w.heap.size ((i+1)*1) cs):=fun W hWc hWf ty dc sc =>
  run_copy_kStr W _ _ ty 9 w.heap.size ((i+1)*1) (L.length - i) dc ⟨g,i*1,none⟩ (L.length - i) sc (L.length - i) 1 cs Tryz.underlying39 hsz (by simp only[Nat.min_def];split<;>omega) hcl
   (fun j v hj=>by
    rw[Addr.add_lit,hWc,World.cell?_setCells_out _ _ _ _ _ (fun h _=>absurd h hgN)]
    exact hOb _ v (hsrc j v hj))
   (fun j hj=>by rw[hWc];exact isSome_setCells w.heap.size vs (i*1) W1 (fun t ht=>hN _ (by omega)) _ (hN _ (by omega)))
   (fun j hj=>by rw[hWf,World.frozen?_setCells];exact hNf _) h1c
 have HF:Hid (InsQStr base (.slice (some ⟨g,0,none⟩) L.length cap) (L.take i++x :: L.drop i) w (.returned (.slice (some ⟨w.heap.size,0,none⟩) (L.length+1) G)) ((((w.alloc (.cells ROW 9)).drew.setCells w.heap.size (i*1) vs).drew).setCells w.heap.size ((i+1)*1) cs)):=hd0 (by
  have hlen:(L.take i++x :: L.drop i).length=L.length+1:=by simp;omega
  have h0:(w.alloc (.cells ROW 9)).ownsRow base 9 1 (.slice (some ⟨w.heap.size,0,none⟩) (L.length+1) G) (L.length+1) (ROW.toList.take ((L.length+1)*1)) :=
   ⟨by rw[List.length_take,hRn];omega,.inr ⟨w.heap.size,G,ROW,rfl,hb,heap_alloc_new w _,hGn,hGm,hRl,rfl⟩⟩
  have hE:=((Ext.setCells (a:=w) (Nat.le_refl _) cs ((i+1)*1) ((Ext.setCells (a:=w) (Nat.le_refl _) vs (i*1) (((Ext.refl w).alloc (.cells ROW 9)).drew)).drew)));refine⟨_,rfl,?_,?_,fun b h=>.inr (by have h9:w.heap.size=b:=Option.some.inj h;omega)⟩
  ·rw[hlen,setCells_sameStr,setCells_sameStr];have h1:=owns_setCells cs ((i+1)*1) (ownsRow_ext (owns_setCells vs (i*1) (ownsRow_ext h0 (Ext.refl _).drew)) (Ext.refl _).drew);rw[hvs,hcsd,ins_cells2Str L x i (by omega) _ (by rw[List.length_take,hRn];omega) (by rw[List.take_take,Nat.min_eq_left (by omega),hRt,hos])]at h1;rw[hvs,hcsd];exact h1
  ·rw[setCells_sameStr,setCells_sameStr]
   exact grown_of_ext hE _)
 have hE1:∀x,((w.alloc (.cells ROW 9)).drew).cell? x=(w.drew.alloc (.cells ROW 9)).cell? x:=fun x=>rfl
 have hE2:∀x,((w.alloc (.cells ROW 9)).drew).frozen? x=(w.drew.alloc (.cells ROW 9)).frozen? x:=fun x=>rfl
 have hF1:∀x,(((w.alloc (.cells ROW 9)).drew.setCells w.heap.size (i*1) vs).drew).cell? x=((w.drew.alloc (.cells ROW 9)).setCells w.heap.size (i*1) vs).cell? x:=fun x=>rfl
 have hF2:∀x,(((w.alloc (.cells ROW 9)).drew.setCells w.heap.size (i*1) vs).drew).frozen? x=((w.drew.alloc (.cells ROW 9)).setCells w.heap.size (i*1) vs).frozen? x:=fun x=>rfl
 subst hW1;have hw1:IntKind.i64.wrap ((i:Int)+1)=(i:Int)+1:=IntWalk.i64_in _ (by omega);have hwn:IntKind.i64.wrap ((L.length:Int)+1)=(L.length:Int)+1:=IntWalk.i64_in _ (by omega);have hwk:IntKind.i64.wrap ((L.length:Int)+1 - (i:Int))=(L.length:Int)+1 - (i:Int):=IntWalk.i64_in _ (by omega)
 have htn:((i:Int)+1).toNat=i+1:=by omega
 have hz2:¬((i:Int)=(L.length:Int)):=by omega
 have hz2b:((i:Int) == (L.length:Int))=false:=by simp;omega
 have hin:(i:Int)≤(L.length:Int):=by omega
 have hrm:(cap:Int) < (L.length:Int)+1:=by omega
 have hb1:(0:Int)≤(i:Int)+1:=by omega
 have hb3:(i:Int)≤(L.length:Int)+1:=by omega
 have hb5:(i:Int)+1≤(L.length:Int)+1:=by omega
 have hb6:(i:Int)≤(cap:Int):=by omega
 have hGi:¬(G=i):=by omega
 have hGim:¬(G=i+1):=by omega
 have hb4:¬(cap=i):=by omega
 clear hown hv hcl h1c h1v hall hsrc hvl hvc hol hosc hold hz hz0 hzc hkk hik hROW hG hRl hRn hRt hN hNf hOb hOv hcsd hvs hos;simp only[Nat.mul_one]at hcpA hcpB HF hF1 hF2
 go_enter Tryz.func150,Tryz.ntmps150
 go_wp2_with (first
  | (at_builtin;refine Lib.wpList_append_run _ rfl _ _ _ _ rfl _ _ rfl rfl _ _ (hrz _) ?_)
  | (at_builtin;refine wpList_copy_runI _ rfl _ _ 39 39 rfl _ _ rfl rfl (hcpA _ hE1 hE2 _ _) ?_)
  | (at_builtin;refine wpList_copy_runI _ rfl _ _ 39 39 rfl _ _ rfl rfl (hcpB _ (fun _=>rfl) (fun _=>rfl) _ _ _) ?_))
 go_region_law (refine step_copy_runI rfl _ _ 39 39 rfl (.slice (some ⟨w.heap.size,(i+1),none⟩) (L.length - i) (G - (i+1))) (.slice (some ⟨g,i,none⟩) (L.length - i) (cap - i)) (by simp[Act.eval,Act.put]) (by simp[Act.eval,Act.put]) (hcpB _ hF1 hF2 3 (G - (i+1)) (cap - i)) ?_)
 go_wp2;go_ret;exact HF.out
theorem insStr_any (base:Nat) (a:Option Addr) (cap i vb:Nat) (L:List ByteArray) (x:ByteArray) (w:World) (hi:i≤L.length) (hL:L.length≤1000000) (hb:base≤w.heap.size)
  (hown:w.ownsRow base 9 1 (.slice a L.length cap) L.length (L.flatMap encStr1)) (hv:w.heap[vb]?=some (.cells (encStr1 x).toArray 9)) :
  Calls Tryz.prog 150 #[.slice a L.length cap,.int .i64 i,.slice (some ⟨vb,0,none⟩) 1 1] w (InsQStr base (.slice a L.length cap) (L.take i++x :: L.drop i) w):=by
 rcases Nat.lt_or_eq_of_le hi with hlt|rfl
 ·obtain⟨a',cap',h1,hlc,_,hsh⟩:=view_owns encStr1_len hown;simp only[Value.slice.injEq,true_and]at h1;obtain⟨rfl,rfl⟩:=h1
  rcases hsh with⟨_,h0,_⟩|⟨g,rfl,_⟩
  ·rw[h0]at hlt;simp at hlt
  rcases Nat.lt_or_ge cap (L.length+1)with hr|hr
  ·exact insStr_grow base g cap i vb L x w hlt hr hL hb hown hv
  ·refine insStr_room base g cap i vb L x w hlt hr hL hb hown hv (fun e=>?_);subst e
   rcases hown.2 with⟨h1,_⟩|⟨g',cap',cur,h1,_,hg,_,_,hs,_⟩
   ·cases h1
   ·simp only[Value.slice.injEq,Option.some.injEq,Addr.mk.injEq,and_true,true_and]at h1;obtain⟨rfl,rfl⟩:=h1;rw[hv]at hg;simp only[Option.some.injEq,Obj.cells.injEq]at hg;have h2:=congrArg Array.size hg.1;rw[hs,List.size_toArray,encStr1_len]at h2;omega
 ·have:=insStr_end base a cap vb L x w hL hb hown hv
  rwa [List.take_length,List.drop_length]
theorem run_copy_kNum {P:Program} (w:World) (dT sT ty elem:TypeId) (b o dLen dCap:Nat) (a:Addr) (sLen sCap n nf:Nat) (cs:List Value)
  (hu:P.underlying dT=some (.slice elem)) (hs:(P.info? elem).map (·.size)=some nf) (hn:n=Nat.min sLen dLen) (hcl:cs.length=n*nf)
  (hsrc:∀j v,cs[j]?=some v→w.cell? (a.add j)=some v) (hc:∀j,j < cs.length→(w.cell? ⟨b,o+j,none⟩).isSome=true) (hf:∀j,j < cs.length→w.frozen? ⟨b,o+j,none⟩=false) (h1:∀v∈cs,v.oneCell'=true) :
  (Builtin.copy_ #[dT,sT] ty #[.slice (some ⟨b,o,none⟩) dLen dCap,.slice (some a) sLen sCap]).run P w=.ok (goInt n) (w.setCells b o cs):=by
 have hl:=run_loadCells_list (P:=P) w a cs hsrc;have hst:=run_storeCells_cells (P:=P) b o cs 0 w (by simpa using hc) (by simpa using hf) h1
 cases hq:P.info? elem with
 | none=>simp[hq]at hs
 | some i =>
  have hi:i.size=nf:=by simpa [hq]using hs
  simp[Builtin.copy_,run_underlying hu,Builtin.lenOf,Builtin.firstCells,sizeOf,typeInfo,hq,hi,←hn,←hcl,hl,hst]
theorem setCells_sameNum (g:Nat):∀(us:List Value) (o:Nat) (w:World),w.setCells g o us=setCells w g o us
 | [],_,_=>rfl
 | u :: us,o,w=>setCells_sameNum g us (o+1) (w.setCell ⟨g,o,none⟩ u)
theorem owns_moreNum {w:World} {base e nf g n cap:Nat} {xs:List Value} (h:w.ownsRow base e nf (.slice (some ⟨g,0,none⟩) n cap) n xs) (hc:n+1≤cap):∃ys:List Value,ys.length=nf∧w.ownsRow base e nf (.slice (some ⟨g,0,none⟩) (n+1) cap) (n+1) (xs++ys):=by
 rcases h.2 with⟨h1,_⟩|⟨g',cap',cur,h1,hb,hg,_,hm,hs,ht⟩
 ·cases h1
 ·simp only[Value.slice.injEq,Option.some.injEq,Addr.mk.injEq,and_true,true_and]at h1;obtain⟨rfl,rfl⟩:=h1;have hle:(n+1)*nf≤cap*nf:=Nat.mul_le_mul_right _ hc
  have hcl:cur.toList.length=cap*nf:=by rw[Array.length_toList];exact hs
  have e1:(n+1)*nf=n*nf+nf:=by rw[Nat.add_mul,Nat.one_mul]
  have e2:cur.toList.take ((n+1)*nf)=xs++(cur.toList.drop (n*nf)).take nf:=by rw[←ht,e1,List.take_add]
  refine⟨(cur.toList.drop (n*nf)).take nf,by rw[List.length_take,List.length_drop];omega,?_,.inr ⟨g,cap,cur,rfl,hb,hg,hc,hm,hs,e2⟩⟩;rw[←e2,List.length_take];omega
theorem setAll_lenNum (us:List Value):∀(xs:List Value) (p:Nat),(setAll xs p us).length=xs.length:=by
 induction us with
 | nil=>intro xs p;rfl
 | cons u us ih=>intro xs p;rw[setAll,ih,List.length_set]
theorem ins_cellsNum (L:List Int) (x:Int) (i:Nat) (hi:i≤L.length) (junk:List Value) (hj:junk.length=1) :
  setAll (setAll (L.flatMap encInt1++junk) ((i+1)*1) ((L.drop i).flatMap encInt1)) (i*1) (encInt1 x)=(L.take i++x :: L.drop i).flatMap encInt1:=by
 have h1:(L.flatMap encInt1++junk).length=(L.length+1)*1:=by rw[List.length_append,flatMap_length encInt1_len,hj];omega
 have h2:((L.drop i).flatMap encInt1).length=(L.length - i)*1:=by rw[flatMap_length encInt1_len,List.length_drop]
 have h3:((L.take i).flatMap encInt1).length=i*1:=by rw[flatMap_length encInt1_len,List.length_take,Nat.min_eq_left hi]
 have hl:L.flatMap encInt1=(L.take i).flatMap encInt1++(L.drop i).flatMap encInt1:=by rw[←List.flatMap_append,List.take_append_drop]
 apply List.ext_getElem?;intro j;rw[setAll_at _ _ _ _ (by rw[setAll_lenNum,h1,encInt1_len];omega),encInt1_len,setAll_at _ _ _ _ (by rw[h1,h2];omega),h2,List.flatMap_append,List.flatMap_cons,hl]
 by_cases c1:j < i*1
 ·rw[if_neg (by omega),if_neg (by omega),List.append_assoc,List.getElem?_append_left (by rw[h3];exact c1),List.getElem?_append_left (by rw[h3];exact c1)]
 ·by_cases c2:j < i*1+1
  ·rw[if_pos (by omega),List.getElem?_append_right (by rw[h3];omega),h3,List.getElem?_append_left (by rw[encInt1_len];omega)]
  ·by_cases c3:j < (L.length+1)*1
   ·rw[if_neg (by omega),if_pos (by omega),List.getElem?_append_right (by rw[h3];omega),h3,List.getElem?_append_right (by rw[encInt1_len];omega),encInt1_len]
    congr 1
    all_goals omega
   ·rw[if_neg (by omega),if_neg (by omega),List.getElem?_eq_none (by simp only[List.length_append,h2,h3,hj];omega),List.getElem?_eq_none (by simp only[List.length_append,h2,h3,encInt1_len];omega)]
theorem ins_cells2Num (L:List Int) (x:Int) (i:Nat) (hi:i≤L.length) (R:List Value) (hR:R.length=(L.length+1)*1) (ht:R.take (i*1)=(L.take i).flatMap encInt1) :
  setAll (setAll R (i*1) (encInt1 x)) ((i+1)*1) ((L.drop i).flatMap encInt1)=(L.take i++x :: L.drop i).flatMap encInt1:=by
 have h2:((L.drop i).flatMap encInt1).length=(L.length - i)*1:=by rw[flatMap_length encInt1_len,List.length_drop]
 have h3:((L.take i).flatMap encInt1).length=i*1:=by rw[flatMap_length encInt1_len,List.length_take,Nat.min_eq_left hi]
 apply List.ext_getElem?;intro j;rw[setAll_at _ _ _ _ (by rw[setAll_lenNum,hR,h2];omega),h2,setAll_at _ _ _ _ (by rw[hR,encInt1_len];omega),encInt1_len,List.flatMap_append,List.flatMap_cons]
 by_cases c1:j < i*1
 ·rw[if_neg (by omega),if_neg (by omega),List.getElem?_append_left (by rw[h3];exact c1),←ht,List.getElem?_take,if_pos c1]
 ·by_cases c2:j < i*1+1
  ·rw[if_neg (by omega),if_pos (by omega),List.getElem?_append_right (by rw[h3];omega),h3,List.getElem?_append_left (by rw[encInt1_len];omega)]
  ·by_cases c3:j < (L.length+1)*1
   ·rw[if_pos (by omega),List.getElem?_append_right (by rw[h3];omega),h3,List.getElem?_append_right (by rw[encInt1_len];omega),encInt1_len]
    congr 1
    all_goals omega
   ·rw[if_neg (by omega),if_neg (by omega),List.getElem?_eq_none (by omega),List.getElem?_eq_none (by simp only[List.length_append,h2,h3,encInt1_len];omega)]
def InsQNum (base:Nat) (u:Value) (L:List Int) (w:World) (e:Ending) (w':World):Prop:=∃v',e=.returned v'∧w'.ownsRow base 3 1 v' L.length (L.flatMap encInt1)∧w.grownBy w' u.ownBlock∧(∀b,v'.ownBlock=some b→u.ownBlock=some b∨w.heap.size≤b)
theorem insNum_end (base:Nat) (a:Option Addr) (cap vb:Nat) (L:List Int) (x:Int) (w:World) (hL:L.length≤1000000) (hb:base≤w.heap.size)
  (hown:w.ownsRow base 3 1 (.slice a L.length cap) L.length (L.flatMap encInt1)) (hv:w.heap[vb]?=some (.cells (encInt1 x).toArray 3)) :
  Calls Tryz.prog 151 #[.slice a L.length cap,.int .i64 L.length,.slice (some ⟨vb,0,none⟩) 1 1] w (InsQNum base (.slice a L.length cap) (L++[x]) w):=by
 have hrd:Rd 1 encInt1 w (some ⟨vb,0,none⟩) [x]:=rd_lit [x] encInt1_len hv (by simp);obtain⟨a',cap',h1,hlc,_,hsh⟩:=view_owns encInt1_len hown;simp only[Value.slice.injEq,true_and]at h1;obtain⟨rfl,rfl⟩:=h1;have Hsh:=hd0 hsh;clear hsh
 rcases Nat.lt_or_eq_of_le hlc with hlt|rfl
 ·(have hlc2:(L.length:Int) < (cap:Int):=by omega)
  go_enter Tryz.func151,Tryz.ntmps151
  go_wp2_with (at_builtin;refine Hid.out (?_:Hid _))
  unfold Hid;refine wpList_append_b rfl _ _ 86 rfl base 3 _ 1 _ Tryz.underlying86 infoInt rfl (by decide) encInt1_len encInt1_one _ L.length L rfl hown rfl (some ⟨vb,0,none⟩) 1 1 [x] rfl rfl hrd (by omega) (by omega) hb ?_;intro v' w' ho hgr hblk;go_wp2;go_ret;exact⟨v',rfl,ho,hgr,hblk⟩
 ·go_enter Tryz.func151,Tryz.ntmps151
  go_wp2_with (at_builtin;refine Hid.out (?_:Hid _))
  unfold Hid;refine wpList_append_b rfl _ _ 86 rfl base 3 _ 1 _ Tryz.underlying86 infoInt rfl (by decide) encInt1_len encInt1_one _ L.length L rfl hown rfl (some ⟨vb,0,none⟩) 1 1 [x] rfl rfl hrd (by omega) (by omega) hb ?_;intro v' w' ho hgr hblk;go_wp2;go_ret;exact⟨v',rfl,ho,hgr,hblk⟩
theorem insNum_room (base g cap i vb:Nat) (L:List Int) (x:Int) (w:World) (hi:i < L.length) (hroom:L.length+1≤cap) (hL:L.length≤1000000) (hb:base≤w.heap.size)
  (hown:w.ownsRow base 3 1 (.slice (some ⟨g,0,none⟩) L.length cap) L.length (L.flatMap encInt1)) (hv:w.heap[vb]?=some (.cells (encInt1 x).toArray 3)) (hne:vb≠g) :
  Calls Tryz.prog 151 #[.slice (some ⟨g,0,none⟩) L.length cap,.int .i64 i,.slice (some ⟨vb,0,none⟩) 1 1] w (InsQNum base (.slice (some ⟨g,0,none⟩) L.length cap) (L.take i++x :: L.drop i) w):=by
 obtain⟨i0,hi0,hz0,hzs,hzb⟩:=info_parts infoInt
 have hsz:(Tryz.prog.info? 3).map (·.size)=some 1:=by rw[hi0];simp[hzs]
 have mixed:Tryz.prog.follows .mixedOrders=true:=rfl;obtain⟨hlc,hcm,hbg⟩:=owns_bound hown;obtain⟨junk,hjl,hmore⟩:=owns_moreNum hown hroom
 obtain⟨cur,hcur,hcs⟩:∃cur,w.heap[g]?=some (.cells cur 3 (0,0))∧cur.size=cap*1:=by
  rcases hown.2 with⟨h1,_⟩|⟨g',cap',cur,h1,_,hg,_,_,hs,_⟩
  ·cases h1
  ·simp only[Value.slice.injEq,Option.some.injEq,Addr.mk.injEq,and_true,true_and]at h1;obtain⟨rfl,rfl⟩:=h1;exact⟨cur,hg,hs⟩
 have hsome:∀k,k < (L.length+1)*1→(w.cell? ⟨g,k,none⟩).isSome=true:=fun k hk=>by
  have:k < cur.size:=by omega
  simp[World.cell?,hcur,this]
 have hfz:∀k,w.frozen? ⟨g,k,none⟩=false:=fun k=>by simp[World.frozen?,hcur]
 obtain⟨cs,hcsd⟩:∃cs,cs=(L.drop i).flatMap encInt1:=⟨_,rfl⟩
 have hcl:cs.length=(L.length - i)*1:=by rw[hcsd,flatMap_length encInt1_len,List.length_drop]
 have h1c:∀v∈cs,v.oneCell'=true:=fun v hv=>by
  rw[hcsd]at hv;obtain⟨y,_,hy⟩:=List.mem_flatMap.1 hv;exact encInt1_one y v hy
 have hsrc:∀j v,cs[j]?=some v→w.cell? ⟨g,i*1+j,none⟩=some v:=fun j v hj=>by
  have hjl2:=(List.getElem?_eq_some_iff.1 hj).1;rw[hown.cellAt _ (by omega)];rw[hcsd,←flatMap_drop encInt1_len,List.getElem?_drop]at hj;exact hj
 obtain⟨vs,hvs⟩:∃vs,vs=encInt1 x:=⟨_,rfl⟩
 have hvl:vs.length=1:=by rw[hvs];exact encInt1_len x
 have h1v:∀v∈vs,v.oneCell'=true:=fun v hv=>by rw[hvs]at hv;exact encInt1_one x v hv
 have hvc:∀j v,vs[j]?=some v→w.cell? ⟨vb,0+j,none⟩=some v:=fun j v hj=>by
  rw[hvs]at hj;simp[World.cell?,hv,hj]
 have hov:∀lb cb,(callFunc 174 #[.slice (some ⟨vb,0,none⟩) 1 1,.slice (some ⟨g,(i+1)*1,none⟩) lb cb]).run Tryz.prog w=.ok (.value (.bool false)) w:=fun lb cb=>by
  rw[run_callFunc_extern Tryz.func174 (by kernel_rfl) (by kernel_rfl) (by kernel_rfl) (e:=Extern.SlicesOverlaps.overlaps #[86,86] #[4]) (by kernel_rfl),
   Lib.run_overlaps_apart w 86 4 3 Tryz.underlying86 1 (fun w=>by simp[sizeOf,typeInfo,hi0,hzs]) ⟨vb,0,none⟩ ⟨g,(i+1)*1,none⟩ 1 1 lb cb hne 3 3 1 (cap*1) (by simp[World.shape?,hv,encInt1_len]) (by simp[World.shape?,hcur,hcs]) (by omega) (by simp[World.frozen?,hv]) (by simp[World.frozen?,hv])]
  rfl
 have hw1:IntKind.i64.wrap ((i:Int)+1)=(i:Int)+1:=IntWalk.i64_in _ (by omega);have hwn:IntKind.i64.wrap ((L.length:Int)+1)=(L.length:Int)+1:=IntWalk.i64_in _ (by omega)
 have htn:((i:Int)+1).toNat=i+1:=by omega
 have htn2:((L.length:Int)+1).toNat=L.length+1:=by omega
 have hz2:¬((i:Int)=(L.length:Int)):=by omega
 have hz2b:((i:Int) == (L.length:Int))=false:=by simp;omega
 have hin:(i:Int)≤(L.length:Int):=by omega
 have hrm:¬((cap:Int) < (L.length:Int)+1):=by omega
 have hrm2:(L.length:Int)+1≤(cap:Int):=by omega
 have hb1:(0:Int)≤(i:Int)+1:=by omega
 have hb3:(i:Int)≤(L.length:Int)+1:=by omega
 have hb5:(i:Int)+1≤(L.length:Int)+1:=by omega
 have hb2:¬(cap=i+1):=by omega
 have hb4:¬(cap=i):=by omega
 have hcp1:∀ty dc sc,(Builtin.copy_ #[86,86] ty #[.slice (some ⟨g,(i+1)*1,none⟩) (L.length - i) dc,.slice (some ⟨g,i*1,none⟩) (L.length+1 - i) sc]).run Tryz.prog w.drew=.ok (goInt ((L.length - i:Nat):Int)) (w.drew.setCells g ((i+1)*1) cs):=fun ty dc sc =>
  run_copy_kNum w.drew _ _ ty 3 g ((i+1)*1) (L.length - i) dc ⟨g,i*1,none⟩ (L.length+1 - i) sc (L.length - i) 1 cs Tryz.underlying86 hsz (by simp only[Nat.min_def];split<;>omega) hcl
   (fun j v hj=>by rw[Addr.add_lit];exact hsrc j v hj)
   (fun j hj=>hsome _ (by omega)) (fun j hj=>hfz _) h1c
 obtain⟨W1,hW1⟩:∃W1,W1=w.drew.setCells g ((i+1)*1) cs:=⟨_,rfl⟩
 have hsp1:∀k,k < (L.length+1)*1→(W1.cell? ⟨g,k,none⟩).isSome=true:=fun k hk=>by
  rw[hW1];exact isSome_setCells g cs ((i+1)*1) w.drew (fun j hj=>hsome ((i+1)*1+j) (by omega)) k (hsome k hk)
 have hcp2:∀(W:World),(∀x,W.cell? x=W1.cell? x)→(∀x,W.frozen? x=W1.frozen? x)→∀ty dc,(Builtin.copy_ #[86,86] ty #[.slice (some ⟨g,i*1,none⟩) (L.length+1 - i) dc,.slice (some ⟨vb,0,none⟩) 1 1]).run Tryz.prog W=.ok (goInt ((1:Nat):Int)) (W.setCells g (i*1) vs):=fun W hWc hWf ty dc =>
  run_copy_kNum W _ _ ty 3 g (i*1) (L.length+1 - i) dc ⟨vb,0,none⟩ 1 1 1 1 vs Tryz.underlying86 hsz (by simp only[Nat.min_def];split<;>omega) (by rw[hvl])
   (fun j v hj=>by
    rw[Addr.add_lit,hWc,hW1,World.cell?_setCells_out g _ _ _ _ (fun h _=>absurd h hne)]
    exact hvc j v hj)
   (fun j hj=>by rw[hWc];exact hsp1 _ (by omega)) (fun j hj=>by rw[hWf,hW1,World.frozen?_setCells];exact hfz _) h1v
 rw[←hW1]at hcp1
 have HF:Hid (InsQNum base (.slice (some ⟨g,0,none⟩) L.length cap) (L.take i++x :: L.drop i) w (.returned (.slice (some ⟨g,0,none⟩) (L.length+1) cap)) ((w.drew.setCells g ((i+1)*1) cs).setCells g (i*1) vs)):=hd0 (by
  have hlen:(L.take i++x :: L.drop i).length=L.length+1:=by simp;omega
  refine⟨_,rfl,?_,?_,fun b h=>.inl h⟩
  ·rw[hlen,setCells_sameNum,setCells_sameNum];have h1:=owns_setCells vs (i*1) (owns_setCells cs ((i+1)*1) (ownsRow_ext hmore (Ext.refl w).drew));rw[hvs,hcsd,ins_cellsNum L x i (by omega) junk hjl]at h1;rw[hvs,hcsd];exact h1
  ·rw[setCells_sameNum,setCells_sameNum]
   exact grown_setCells vs _ (grown_setCells cs _ (grown_of_ext (Ext.refl w).drew _)))
 clear hown hmore hcur hsome hfz hsrc hcl hvl hvc hsp1 h1c h1v hcsd hvs hlc hjl;simp only[Nat.mul_one]at hov hcp1 hcp2 HF
 go_enter Tryz.func151,Tryz.ntmps151
 go_wp2_with (simp only[hov])
 go_region_law (refine step_copy_runI rfl _ _ 86 86 rfl _ _ (by simp[Act.eval,Act.put]) (by simp[Act.eval,Act.put]) (hcp1 _ _ _) ?_)
 go_wp2_with (at_builtin;refine wpList_copy_runI _ rfl _ _ 86 86 rfl _ _ rfl rfl (hcp2 _ (fun _=>rfl) (fun _=>rfl) _ _) ?_)
 go_ret
 first|exact HF.out|(subst hW1;exact HF.out)
theorem insNum_grow (base g cap i vb:Nat) (L:List Int) (x:Int) (w:World) (hi:i < L.length) (hroom:cap < L.length+1) (hL:L.length≤1000000) (hb:base≤w.heap.size)
  (hown:w.ownsRow base 3 1 (.slice (some ⟨g,0,none⟩) L.length cap) L.length (L.flatMap encInt1)) (hv:w.heap[vb]?=some (.cells (encInt1 x).toArray 3)) :
  Calls Tryz.prog 151 #[.slice (some ⟨g,0,none⟩) L.length cap,.int .i64 i,.slice (some ⟨vb,0,none⟩) 1 1] w (InsQNum base (.slice (some ⟨g,0,none⟩) L.length cap) (L.take i++x :: L.drop i) w):=by
 obtain⟨i0,hi0,hz0,hzs,hzb⟩:=info_parts infoInt
 have hsz:(Tryz.prog.info? 3).map (·.size)=some 1:=by rw[hi0];simp[hzs]
 have mixed:Tryz.prog.follows .mixedOrders=true:=rfl;obtain⟨hlc,hcm,hbg⟩:=owns_bound hown;have hgw:g < w.heap.size:=(World.ownsRow.lt hown g rfl).2;have hvw:vb < w.heap.size:=(Array.getElem?_eq_some_iff.1 hv).1;obtain⟨cs,hcsd⟩:∃cs,cs=(L.drop i).flatMap encInt1:=⟨_,rfl⟩
 have hcl:cs.length=(L.length - i)*1:=by rw[hcsd,flatMap_length encInt1_len,List.length_drop]
 have h1c:∀v∈cs,v.oneCell'=true:=fun v hv=>by
  rw[hcsd]at hv;obtain⟨y,_,hy⟩:=List.mem_flatMap.1 hv;exact encInt1_one y v hy
 have hall:∀j v,(L.flatMap encInt1)[j]?=some v→w.cell? ⟨g,j,none⟩=some v:=fun j v hj=>by
  have hjl2:=(List.getElem?_eq_some_iff.1 hj).1;rw[flatMap_length encInt1_len]at hjl2;rw[hown.cellAt _ hjl2];exact hj
 have hsrc:∀j v,cs[j]?=some v→w.cell? ⟨g,i*1+j,none⟩=some v:=fun j v hj=>by
  rw[hcsd,←flatMap_drop encInt1_len,List.getElem?_drop]at hj;exact hall _ v hj
 obtain⟨vs,hvs⟩:∃vs,vs=encInt1 x:=⟨_,rfl⟩
 have hvl:vs.length=1:=by rw[hvs];exact encInt1_len x
 have h1v:∀v∈vs,v.oneCell'=true:=fun v hv=>by rw[hvs]at hv;exact encInt1_one x v hv
 have hvc:∀j v,vs[j]?=some v→w.cell? ⟨vb,0+j,none⟩=some v:=fun j v hj=>by
  rw[hvs]at hj;simp[World.cell?,hv,hj]
 obtain⟨os,hos⟩:∃os,os=(L.take i).flatMap encInt1:=⟨_,rfl⟩
 have hol:os.length=i*1:=by rw[hos,flatMap_length encInt1_len,List.length_take,Nat.min_eq_left (by omega)]
 have hosc:∀j v,os[j]?=some v→w.cell? ⟨g,0+j,none⟩=some v:=fun j v hj=>by
  rw[Nat.zero_add];apply hall;have hjl:=(List.getElem?_eq_some_iff.1 hj).1
  have e:L.flatMap encInt1=os++(L.drop i).flatMap encInt1:=by rw[hos,←List.flatMap_append,List.take_append_drop]
  rw[e,List.getElem?_append_left hjl];exact hj
 have hold:(Builtin.firstCells i0.size i (.slice (some ⟨g,0,none⟩) i cap)).run Tryz.prog w.drew=.ok os.toArray w.drew:=by
  rw[hzs]
  exact run_firstCells_some w.drew 1 i ⟨g,0,none⟩ i cap os (by rw[hol]) (fun j v hj=>by
   rw[Addr.add_lit]
   exact hosc j v hj)
 obtain⟨z,hz⟩:∃z,i0.zero=some z:=⟨_,hz0⟩
 have hzc:z.cells.size=1:=by rw[hz0]at hz;cases hz;rfl
 have hkk:(L.length:Int)+1 - (i:Int)=((L.length+1 - i:Nat):Int):=by omega
 have hik:i+(L.length+1 - i)=L.length+1:=by omega
 have hrz:∀ty,(Builtin.append_ #[86,3] ty #[.slice (some ⟨g,0,none⟩) i cap,.int .i64 ((L.length:Int)+1 - (i:Int))]).run Tryz.prog w =
   .ok (.slice (some ⟨w.heap.size,0,none⟩) (L.length+1) (grownCap w (L.length+1) cap 3)) (w.drew.alloc (.cells (os.toArray++Builtin.zeroCells z.cells (L.length+1 - i)++Builtin.zeroCells z.cells (grownCap w (L.length+1) cap 3 - (L.length+1))) 3)):=fun ty=>by
  have h:=Lib.run_append_grow_zeros w 86 3 ty 3 i0 z .i64 .i64 Tryz.underlying86 Tryz.underlying3 hi0 hz (some ⟨g,0,none⟩) i cap os hold (L.length+1 - i) (by omega) (by omega) (by omega) (by omega) (by rw[hzb];omega) (by rw[hzb,hik];exact growslice_fits hroom (by omega));rw[hik]at h;rw[hkk];exact h
 obtain⟨G,hG⟩:∃G,G=grownCap w (L.length+1) cap 3:=⟨_,rfl⟩;obtain⟨ROW,hROW⟩:∃ROW:Array Value,ROW=os.toArray++Builtin.zeroCells z.cells (L.length+1 - i)++Builtin.zeroCells z.cells (G - (L.length+1)):=⟨_,rfl⟩;rw[←hG]at hrz;rw[←hROW]at hrz
 have hGn:L.length+1≤G:=by rw[hG];exact grownCap_ge w _ _ _
 have hGm:G≤maxLen:=by rw[hG];exact grownCap_le_maxLen w (L.length+1) cap 3 (by unfold maxLen;omega)
 have hG63:G≤9223372036854775807:=by unfold maxLen at hGm;omega
 have hRl:ROW.size=G*1:=by
  rw[hROW];simp[Builtin.zeroCells,hzc,hol];omega
 have hRt:ROW.toList.take (i*1)=os:=by
  rw[hROW,←hol];simp
 have hRn:ROW.toList.length=G*1:=by rw[Array.length_toList (xs:=ROW)];exact hRl
 obtain⟨W1,hW1⟩:∃W1,W1=w.drew.alloc (.cells ROW 3):=⟨_,rfl⟩;rw[←hW1]at hrz
 have hN:∀j,j < (L.length+1)*1→(W1.cell? ⟨w.heap.size,j,none⟩).isSome=true:=fun j hj=>by
  rw[hW1,World.cell?_alloc_at (w:=w.drew) ROW _ w.heap.size j rfl,Array.getElem?_eq_getElem (by omega)];rfl
 have hNf:∀j,W1.frozen? ⟨w.heap.size,j,none⟩=false:=fun j=>by rw[hW1];exact World.frozen?_alloc_at (w:=w.drew) ROW _ w.heap.size j rfl
 have hOb:∀j v,w.cell? ⟨g,j,none⟩=some v→W1.cell? ⟨g,j,none⟩=some v:=fun j v h=>by rw[hW1,World.cell?_alloc_past (w:=w.drew) _ g j hgw];exact h
 have hOv:∀j v,w.cell? ⟨vb,j,none⟩=some v→W1.cell? ⟨vb,j,none⟩=some v:=fun j v h=>by rw[hW1,World.cell?_alloc_past (w:=w.drew) _ vb j hvw];exact h
 have hcpA:∀(W:World),(∀x,W.cell? x=W1.cell? x)→(∀x,W.frozen? x=W1.frozen? x)→∀ty dc,(Builtin.copy_ #[86,86] ty #[.slice (some ⟨w.heap.size,i*1,none⟩) (L.length+1 - i) dc,.slice (some ⟨vb,0,none⟩) 1 1]).run Tryz.prog W=.ok (goInt ((1:Nat):Int)) (W.setCells w.heap.size (i*1) vs):=fun W hWc hWf ty dc =>
  run_copy_kNum W _ _ ty 3 w.heap.size (i*1) (L.length+1 - i) dc ⟨vb,0,none⟩ 1 1 1 1 vs Tryz.underlying86 hsz (by simp only[Nat.min_def];split<;>omega) (by rw[hvl])
   (fun j v hj=>by rw[Addr.add_lit,hWc];exact hOv _ v (hvc j v hj))
   (fun j hj=>by rw[hWc];exact hN _ (by omega)) (fun j hj=>by rw[hWf];exact hNf _) h1v
 have hgN:g≠w.heap.size:=by omega
 have hcpB:∀(W:World),(∀x,W.cell? x=(W1.setCells w.heap.size (i*1) vs).cell? x)→(∀x,W.frozen? x=(W1.setCells w.heap.size (i*1) vs).frozen? x)→∀ty dc sc,(Builtin.copy_ #[86,86] ty #[.slice (some ⟨w.heap.size,(i+1)*1,none⟩) (L.length - i) dc,.slice (some ⟨g,i*1,none⟩) (L.length - i) sc]).run Tryz.prog W=.ok (goInt ((L.length - i:Nat):Int)) (W.setCells w.heap.size ((i+1)*1) cs):=fun W hWc hWf ty dc sc =>
  run_copy_kNum W _ _ ty 3 w.heap.size ((i+1)*1) (L.length - i) dc ⟨g,i*1,none⟩ (L.length - i) sc (L.length - i) 1 cs Tryz.underlying86 hsz (by simp only[Nat.min_def];split<;>omega) hcl
   (fun j v hj=>by
    rw[Addr.add_lit,hWc,World.cell?_setCells_out _ _ _ _ _ (fun h _=>absurd h hgN)]
    exact hOb _ v (hsrc j v hj))
   (fun j hj=>by rw[hWc];exact isSome_setCells w.heap.size vs (i*1) W1 (fun t ht=>hN _ (by omega)) _ (hN _ (by omega)))
   (fun j hj=>by rw[hWf,World.frozen?_setCells];exact hNf _) h1c
 have HF:Hid (InsQNum base (.slice (some ⟨g,0,none⟩) L.length cap) (L.take i++x :: L.drop i) w (.returned (.slice (some ⟨w.heap.size,0,none⟩) (L.length+1) G)) ((((w.alloc (.cells ROW 3)).drew.setCells w.heap.size (i*1) vs).drew).setCells w.heap.size ((i+1)*1) cs)):=hd0 (by
  have hlen:(L.take i++x :: L.drop i).length=L.length+1:=by simp;omega
  have h0:(w.alloc (.cells ROW 3)).ownsRow base 3 1 (.slice (some ⟨w.heap.size,0,none⟩) (L.length+1) G) (L.length+1) (ROW.toList.take ((L.length+1)*1)) :=
   ⟨by rw[List.length_take,hRn];omega,.inr ⟨w.heap.size,G,ROW,rfl,hb,heap_alloc_new w _,hGn,hGm,hRl,rfl⟩⟩
  have hE:=((Ext.setCells (a:=w) (Nat.le_refl _) cs ((i+1)*1) ((Ext.setCells (a:=w) (Nat.le_refl _) vs (i*1) (((Ext.refl w).alloc (.cells ROW 3)).drew)).drew)));refine⟨_,rfl,?_,?_,fun b h=>.inr (by have h9:w.heap.size=b:=Option.some.inj h;omega)⟩
  ·rw[hlen,setCells_sameNum,setCells_sameNum];have h1:=owns_setCells cs ((i+1)*1) (ownsRow_ext (owns_setCells vs (i*1) (ownsRow_ext h0 (Ext.refl _).drew)) (Ext.refl _).drew);rw[hvs,hcsd,ins_cells2Num L x i (by omega) _ (by rw[List.length_take,hRn];omega) (by rw[List.take_take,Nat.min_eq_left (by omega),hRt,hos])]at h1;rw[hvs,hcsd];exact h1
  ·rw[setCells_sameNum,setCells_sameNum]
   exact grown_of_ext hE _)
 have hE1:∀x,((w.alloc (.cells ROW 3)).drew).cell? x=(w.drew.alloc (.cells ROW 3)).cell? x:=fun x=>rfl
 have hE2:∀x,((w.alloc (.cells ROW 3)).drew).frozen? x=(w.drew.alloc (.cells ROW 3)).frozen? x:=fun x=>rfl
 have hF1:∀x,(((w.alloc (.cells ROW 3)).drew.setCells w.heap.size (i*1) vs).drew).cell? x=((w.drew.alloc (.cells ROW 3)).setCells w.heap.size (i*1) vs).cell? x:=fun x=>rfl
 have hF2:∀x,(((w.alloc (.cells ROW 3)).drew.setCells w.heap.size (i*1) vs).drew).frozen? x=((w.drew.alloc (.cells ROW 3)).setCells w.heap.size (i*1) vs).frozen? x:=fun x=>rfl
 subst hW1;have hw1:IntKind.i64.wrap ((i:Int)+1)=(i:Int)+1:=IntWalk.i64_in _ (by omega);have hwn:IntKind.i64.wrap ((L.length:Int)+1)=(L.length:Int)+1:=IntWalk.i64_in _ (by omega);have hwk:IntKind.i64.wrap ((L.length:Int)+1 - (i:Int))=(L.length:Int)+1 - (i:Int):=IntWalk.i64_in _ (by omega)
 have htn:((i:Int)+1).toNat=i+1:=by omega
 have hz2:¬((i:Int)=(L.length:Int)):=by omega
 have hz2b:((i:Int) == (L.length:Int))=false:=by simp;omega
 have hin:(i:Int)≤(L.length:Int):=by omega
 have hrm:(cap:Int) < (L.length:Int)+1:=by omega
 have hb1:(0:Int)≤(i:Int)+1:=by omega
 have hb3:(i:Int)≤(L.length:Int)+1:=by omega
 have hb5:(i:Int)+1≤(L.length:Int)+1:=by omega
 have hb6:(i:Int)≤(cap:Int):=by omega
 have hGi:¬(G=i):=by omega
 have hGim:¬(G=i+1):=by omega
 have hb4:¬(cap=i):=by omega
 clear hown hv hcl h1c h1v hall hsrc hvl hvc hol hosc hold hz hz0 hzc hkk hik hROW hG hRl hRn hRt hN hNf hOb hOv hcsd hvs hos;simp only[Nat.mul_one]at hcpA hcpB HF hF1 hF2
 go_enter Tryz.func151,Tryz.ntmps151
 go_wp2_with (first
  | (at_builtin;refine Lib.wpList_append_run _ rfl _ _ _ _ rfl _ _ rfl rfl _ _ (hrz _) ?_)
  | (at_builtin;refine wpList_copy_runI _ rfl _ _ 86 86 rfl _ _ rfl rfl (hcpA _ hE1 hE2 _ _) ?_)
  | (at_builtin;refine wpList_copy_runI _ rfl _ _ 86 86 rfl _ _ rfl rfl (hcpB _ (fun _=>rfl) (fun _=>rfl) _ _ _) ?_))
 go_region_law (refine step_copy_runI rfl _ _ 86 86 rfl (.slice (some ⟨w.heap.size,(i+1),none⟩) (L.length - i) (G - (i+1))) (.slice (some ⟨g,i,none⟩) (L.length - i) (cap - i)) (by simp[Act.eval,Act.put]) (by simp[Act.eval,Act.put]) (hcpB _ hF1 hF2 3 (G - (i+1)) (cap - i)) ?_)
 go_wp2;go_ret;exact HF.out
theorem insNum_any (base:Nat) (a:Option Addr) (cap i vb:Nat) (L:List Int) (x:Int) (w:World) (hi:i≤L.length) (hL:L.length≤1000000) (hb:base≤w.heap.size)
  (hown:w.ownsRow base 3 1 (.slice a L.length cap) L.length (L.flatMap encInt1)) (hv:w.heap[vb]?=some (.cells (encInt1 x).toArray 3)) :
  Calls Tryz.prog 151 #[.slice a L.length cap,.int .i64 i,.slice (some ⟨vb,0,none⟩) 1 1] w (InsQNum base (.slice a L.length cap) (L.take i++x :: L.drop i) w):=by
 rcases Nat.lt_or_eq_of_le hi with hlt|rfl
 ·obtain⟨a',cap',h1,hlc,_,hsh⟩:=view_owns encInt1_len hown;simp only[Value.slice.injEq,true_and]at h1;obtain⟨rfl,rfl⟩:=h1
  rcases hsh with⟨_,h0,_⟩|⟨g,rfl,_⟩
  ·rw[h0]at hlt;simp at hlt
  rcases Nat.lt_or_ge cap (L.length+1)with hr|hr
  ·exact insNum_grow base g cap i vb L x w hlt hr hL hb hown hv
  ·refine insNum_room base g cap i vb L x w hlt hr hL hb hown hv (fun e=>?_);subst e
   rcases hown.2 with⟨h1,_⟩|⟨g',cap',cur,h1,_,hg,_,_,hs,_⟩
   ·cases h1
   ·simp only[Value.slice.injEq,Option.some.injEq,Addr.mk.injEq,and_true,true_and]at h1;obtain⟨rfl,rfl⟩:=h1;rw[hv]at hg;simp only[Option.some.injEq,Obj.cells.injEq]at hg;have h2:=congrArg Array.size hg.1;rw[hs,List.size_toArray,encInt1_len]at h2;omega
 ·have:=insNum_end base a cap vb L x w hL hb hown hv
  rwa [List.take_length,List.drop_length]
end Go.Proofs.YtnibbldfohbfkaaGreatDoor
