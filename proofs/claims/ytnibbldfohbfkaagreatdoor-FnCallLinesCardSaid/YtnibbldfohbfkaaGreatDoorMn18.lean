/- Parts of one proof: what each theorem proves, and its conditions, stand in its own statement. -/
import Derived.Test.YtnibbldfohbfkaaGreatDoorMn17
set_option linter.all false
set_option maxRecDepth 100000
set_option maxHeartbeats 32000000
namespace Go.Proofs.YtnibbldfohbfkaaGreatDoor
open Go.RowKit
theorem ch_folder (T:List Nd) (c:Cr) (x:ByteArray):changeF T c [⟨#[102,111,108,100,101,114]⟩,x]=some (makeNode T c x true 493):=by
 unfold changeF;dsimp only;rw[if_pos rfl]
theorem ch_file (T:List Nd) (c:Cr) (x:ByteArray):changeF T c [⟨#[102,105,108,101]⟩,x]=some (makeNode T c x false 420):=by
 unfold changeF;dsimp only;rw[if_neg (by decide),if_pos rfl]
theorem ch_drop (T:List Nd) (c:Cr) (x:ByteArray):changeF T c [⟨#[100,114,111,112]⟩,x]=some (dropName T c x):=by
 unfold changeF;dsimp only;rw[if_neg (by decide),if_neg (by decide),if_pos rfl]
theorem ch_write (T:List Nd) (c:Cr) (x y:ByteArray):changeF T c [⟨#[119,114,105,116,101]⟩,x,y]=some (writeFile T c x y):=by
 unfold changeF;dsimp only;rw[if_pos rfl]
theorem ch_mode (T:List Nd) (c:Cr) (x y:ByteArray):changeF T c [⟨#[109,111,100,101]⟩,x,y]=if (readMode y).2=true then some (changeMode T c x (readMode y).1)else some ([],1):=by
 unfold changeF;dsimp only;rw[if_neg (by decide),if_pos rfl]
theorem ch_link (T:List Nd) (c:Cr) (x y:ByteArray):changeF T c [⟨#[108,105,110,107]⟩,x,y]=some (linkName T c x y):=by
 unfold changeF;dsimp only;rw[if_neg (by decide),if_neg (by decide),if_pos rfl]
theorem ch_move (T:List Nd) (c:Cr) (x y:ByteArray):changeF T c [⟨#[109,111,118,101]⟩,x,y]=some (moveName T c x y):=by
 unfold changeF;dsimp only;rw[if_neg (by decide),if_neg (by decide),if_neg (by decide),if_pos rfl]
theorem ch_two (T:List Nd) (c:Cr) {a:ByteArray} (x:ByteArray) (h0:a≠⟨#[102,111,108,100,101,114]⟩) (h1:a≠⟨#[102,105,108,101]⟩) (h2:a≠⟨#[100,114,111,112]⟩):changeF T c [a,x]=none:=by
 unfold changeF;dsimp only;rw[if_neg h0,if_neg h1,if_neg h2]
theorem ch_three (T:List Nd) (c:Cr) {a:ByteArray} (x y:ByteArray) (h0:a≠⟨#[119,114,105,116,101]⟩) (h1:a≠⟨#[109,111,100,101]⟩) (h2:a≠⟨#[108,105,110,107]⟩) (h3:a≠⟨#[109,111,118,101]⟩):changeF T c [a,x,y]=none:=by
 unfold changeF;dsimp only;rw[if_neg h0,if_neg h1,if_neg h2,if_neg h3]
theorem ch_len (T:List Nd) (c:Cr) {W:List ByteArray} (h2:W.length≠2) (h3:W.length≠3):changeF T c W=none:=by
 match W,h2,h3 with
 | [],_,_=>rfl
 | [_],_,_=>rfl
 | [_,_],h,_=>exact absurd rfl h
 | [_,_,_],_,h=>exact absurd rfl h
 | _ :: _ :: _ :: _ :: _,_,_=>rfl
theorem te_read (T:List Nd) (c:Cr) (x:ByteArray):tellF T c [⟨#[114,101,97,100]⟩,x]=if (readFile T c x).2=0 then⟨#[61]⟩++(readFile T c x).1 else faultText (readFile T c x).2:=by
 unfold tellF;dsimp only;rw[if_pos rfl]
theorem te_list (T:List Nd) (c:Cr) (x:ByteArray):tellF T c [⟨#[108,105,115,116]⟩,x]=if (listNames T c x).2=0 then⟨#[61]⟩++joinW (listNames T c x).1 else faultText (listNames T c x).2:=by
 unfold tellF;dsimp only;rw[if_neg (by decide),if_pos rfl]
theorem te_two (T:List Nd) (c:Cr) {a:ByteArray} (x:ByteArray) (h0:a≠⟨#[114,101,97,100]⟩) (h1:a≠⟨#[108,105,115,116]⟩):tellF T c [a,x]=faultText 1:=by
 unfold tellF;dsimp only;rw[if_neg h0,if_neg h1]
theorem te_len (T:List Nd) (c:Cr) {W:List ByteArray} (h2:W.length≠2):tellF T c W=faultText 1:=by
 match W,h2 with
 | [],_=>rfl
 | [_],_=>rfl
 | [_,_],h=>exact absurd rfl h
 | _ :: _ :: _ :: _,_=>rfl
noncomputable def runL (c:Cr) (q:List Nd×List ByteArray) (L:List ByteArray):List Nd×List ByteArray:=L.foldl (fun q l=>((callF q.1 c (wordsB l)).1,q.2++[(callF q.1 c (wordsB l)).2])) q
theorem runL_step (c:Cr) (q:List Nd×List ByteArray) {L:List ByteArray} {k:Nat} {l:ByteArray} (h:L[k]?=some l):runL c q (L.take (k+1))=((callF (runL c q (L.take k)).1 c (wordsB l)).1,(runL c q (L.take k)).2++[(callF (runL c q (L.take k)).1 c (wordsB l)).2]):=by
 obtain⟨hk,rfl⟩:=List.getElem?_eq_some_iff.1 h;unfold runL;rw[List.take_succ_eq_append_getElem hk,List.foldl_append];rfl
theorem runL_ok (c:Cr):∀(L:List ByteArray) (q:List Nd×List ByteArray) (b:Nat),TreeOk q.1→NB b q.1→TreeOk (runL c q L).1∧NB (b+L.length) (runL c q L).1∧(runL c q L).2.length=q.2.length+L.length
 | [],q,b,h,hb=>⟨h,hb,rfl⟩
 | l :: L,q,b,h,hb=>by
  have h1:=callF_ok h hb c (wordsB l);have h2:=runL_ok c L ((callF q.1 c (wordsB l)).1,q.2++[(callF q.1 c (wordsB l)).2]) (b+1) h1.1 h1.2;refine⟨h2.1,?_,?_⟩
  ·rw[List.length_cons,show b+(L.length+1)=b+1+L.length by omega];exact h2.2.1
  ·have:=h2.2.2;rw[List.length_append]at this;rw[List.length_cons]
   show(runL c _ L).2.length=_
   rw[this];simp;omega
theorem runL_app (c:Cr) (q:List Nd×List ByteArray) (A B:List ByteArray):runL c q (A++B)=runL c (runL c q A) B:=by
 unfold runL;rw[List.foldl_append]
open Classical in
noncomputable def callLines (T:List Nd) (c:Cr) (L:List ByteArray):List Nd×List ByteArray:=if TreeOk T∧c.ok∧L.length≤30 then runL c (T,[]) L else([],[])
open Classical in
noncomputable def linesCr (T:List Nd) (c:Cr) (L:List ByteArray):Cr:=if TreeOk T∧c.ok∧L.length≤30 then c else⟨0,0,0,0⟩
theorem callLine_ok {T:List Nd} {c:Cr} (h:TreeOk T∧c.ok) (s:ByteArray):callLine T c s=callF T c (wordsB s):=by unfold callLine;rw[if_pos h]
def plOut (u:Value) (A:List ByteArray):Pl where
 own b:=A≠[]∧u.ownBlock=some b
 ok w:=(A=[]→∃a,u=.slice a 0 0)∧(A≠[]→w.ownsRow 0 9 1 u A.length (A.flatMap encStr1))
 frame w w' h hf:=⟨h.1,fun hA=>(plRow 9 1 encStr1 u A).frame w w' (h.2 hA) (fun b hb=>hf b ⟨hA,hb⟩)⟩
 lt w b h hb:=(plRow 9 1 encStr1 u A).lt w b (h.2 hb.1) hb.2
theorem out_nil (a:Option Addr) (w:World):(plOut (.slice a 0 0) []).ok w:=⟨fun _=>⟨a,rfl⟩,fun h=>absurd rfl h⟩
theorem out_view {w:World} {u:Value} {A:List ByteArray} (h:(plOut u A).ok w):∃a c,u=.slice a A.length c∧Rd 1 encStr1 w a A:=by
 by_cases hA:A=[]
 ·subst hA;obtain⟨a,rfl⟩:=h.1 rfl;exact⟨a,0,rfl,fun i hi=>absurd hi (Nat.not_lt_zero _)⟩
 ·obtain⟨a,c,hu,_,hr,_⟩:=view_owns encStr1_len (h.2 hA);exact⟨a,c,hu,hr⟩
theorem SepM.toOut {M:Nat→Prop} {w0 w:World} {H:List Pl} (S:SepM M w0 w H) (i:Nat) {u:Value} {A:List ByteArray} (h:H[i]?=some (plRow 9 1 encStr1 u A)) (h0:A=[]→∃a,u=.slice a 0 0):SepM M w0 w (H.set i (plOut u A)) :=
 S.put i h (Chg.refl _ _) ⟨h0,fun _=>S.at_ i h⟩ (fun b hb=>.inl hb.2)
theorem SepM.nilOut {M:Nat→Prop} {w0 w:World} {H:List Pl} (S:SepM M w0 w H) (a:Option Addr):SepM M w0 w (plOut (.slice a 0 0) [] :: H) :=
 S.cons (Ext.refl w) (out_nil a w) (fun b hb=>absurd rfl hb.1)
theorem run_append_first (w:World) (ty:TypeId) (ad a:Addr) (c:Nat) (x:ByteArray) (hx:w.cell? a=some (.string x)):∃v' w',(Builtin.append_ #[39,39] ty #[.slice (some ad) 0 0,.slice (some a) 1 c]).run Tryz.prog w=.ok v' w'∧w'.ownsRow w.heap.size 9 1 v' 1 [.string x]∧Ext w w':=by
 obtain⟨i,hi,hz,hsize,hby⟩:=info_parts infoStr1
 have hr:=run_append_grow (P:=Tryz.prog) w 39 ty 9 i (.string ByteArray.empty) Tryz.underlying39 hi hz ad 0 0 [] (by rw[hsize];rfl) (by simp) a 1 c [.string x] (by rw[hsize];rfl) (fun j u hu=>by
  cases j with
  | zero=>simp at hu;subst hu;rw[show a.add 0=a from by cases a;rfl];exact hx
  | succ j=>simp at hu) (by omega) (by omega) (growslice_fits (by omega) (by rw[hby];omega))
 simp only[Nat.zero_add]at hr;have hge:=grownCap_ge w 1 0 9;have hcm:grownCap w 1 0 9≤maxLen:=grownCap_le_maxLen w 1 0 9 (by unfold maxLen;omega);refine⟨_,_,hr,⟨rfl,.inr ⟨w.heap.size,_,_,rfl,Nat.le_refl _,heap_alloc_new w.drew _,by omega,hcm,?_,?_⟩⟩,⟨rfl,rfl,rfl,by simp,fun k hk=>Below.heap_alloc w.drew _ k hk⟩⟩
 ·simp only[Array.size_append,List.size_toArray,size_zeroCells,List.length_nil,Nat.zero_add,hsize];simp[Value.cells];omega
 ·simp
theorem wpList_append_out {w:World} {ops:Array Oper} {rest:List Oper} {o:Oper} {a:Act} {Q:Exit→Act→World→Prop} (hgd:o.guard=none) (s x:Operand)
  (ho:o.op=.call { callee:=.builtin .append,args:=#[s,x],argTypes:=#[39,39] })
  (v:Value) (A:List ByteArray) (hs:a.eval s=v) (hok:(plOut v A).ok w) (ad:Addr) (c:Nat) (y:ByteArray) (hx:a.eval x=.slice (some ad) 1 c) (hy:Rd 1 encStr1 w (some ad) [y]) (hl:A.length≤1000000)
  (h:∀v' w',(plOut v' (A++[y])).ok w'→Chg (plOut v A).own w w'→(∀b,(plOut v' (A++[y])).own b→(plOut v A).own b∨w.heap.size≤b)→wpList Tryz.prog ops Q rest (a.put o.dst v') w'):wpList Tryz.prog ops Q (o :: rest) a w:=by
 by_cases hA:A=[]
 ·subst hA;obtain⟨au,rfl⟩:=hok.1 rfl
  cases au with
  | none =>
   refine wpList_append_b hgd s x 39 ho w.heap.size 9 _ 1 _ Tryz.underlying39 infoStr1 rfl (by decide) encStr1_len encStr1_one _ 0 ([]:List ByteArray) hs (World.ownsRow_nil _ _ _ _) rfl (some ad) 1 c [y] hx rfl hy (by decide) (by decide) (Nat.le_refl _) ?_;intro v' w' h1 h2 h3;exact h v' w' ⟨fun e=>(by simp at e),fun _=>ownsRow_base h1 (Nat.zero_le _)⟩ ((Chg.of_row h2).mono (fun b hb=>by cases hb)) (fun b hb=>(h3 b hb.2).elim (fun e=>by cases e) .inr)
  | some au =>
   obtain⟨y',b,off,hy',hb,hc⟩:=atStr hy (show 0 < [y].length by simp)
   obtain rfl:y=y':=by simpa using hy'
   obtain rfl:=Option.some.inj hb;obtain⟨v',w',hr,h2,h3⟩:=run_append_first w o.type au ⟨b,off,none⟩ c y (by simpa using hc)
   refine wpList_plain hgd fun K hK=>?_
   unfold Oper.wp execOp;simp only[ho,resolve,invoke,builtin,Sem.run_bind,Sem.run_pure,Result.andThen_ok,List.map_toArray,List.map_cons,List.map_nil,hs,hx,hr];refine hK _ _ (h v' w' ⟨fun e=>(by simp at e),fun _=>ownsRow_base h2 (Nat.zero_le _)⟩ (Chg.of_ext h3) (fun b' hb'=>.inr ?_))
   rcases h2.2 with⟨rfl,_⟩|⟨g,cap,cur,rfl,hg,_⟩
   ·have:=hb'.2;cases this
   ·have e:g=b':=Option.some.inj hb'.2;omega
 ·refine wpList_append_b hgd s x 39 ho 0 9 _ 1 _ Tryz.underlying39 infoStr1 rfl (by decide) encStr1_len encStr1_one v A.length A hs (hok.2 hA) rfl (some ad) 1 c [y] hx rfl hy (by omega) (by decide) (Nat.zero_le _) ?_;intro v' w' h1 h2 h3;exact h v' w' ⟨fun e=>(by simp at e),fun _=>h1⟩ ((Chg.of_row h2).mono (fun b hb _=>⟨hA,hb⟩)) (fun b hb=>(h3 b hb.2).elim (fun e=>.inl ⟨hA,e⟩) .inr)
def RetKs (R:List Nd×List ByteArray) (c:Cr) (w:World) (e:Ending) (w':World):Prop:=∃u vs u2,e=.returned (.tuple #[.agg #[u,.int .i64 c.r,.int .i64 c.a,.int .i64 c.s,.int .i64 c.g],u2])∧Sep w w' [plNd u vs R.1,plOut u2 R.2]
theorem nil_tree2 {M:Nat→Prop} {w w1:World} {H:List Pl} (S:SepM M w w1 H):SepM M w w1 (plNd (.slice none 0 0) [] [] :: H) :=
 (S.nil 89 7 encNc).gPure (P:=pinNd) (T:=([]:List Nd)) 0 rfl rfl (fun k s t hs=>by simp at hs) (fun s hs=>by simp at hs)
theorem store5 {M:Nat→Prop} {w0 w:World} {u:Value} {vs:List Nc} {R:List Nd} {B:Nat} {C:Array Value} (S:SepM M w0 w [plNd u vs R]) (hb:w.heap[B]?=some (.cells C 31)) (hC:C=#[.slice none 0 0,.int .i64 0,.int .i64 0,.int .i64 0,.int .i64 0]) (hB:w0.heap.size≤B) (v0 v1 v2 v3 v4:Value) :
  SepM M w0 (((((w.setCell ⟨B,0,none⟩ v0).setCell ⟨B,1,none⟩ v1).setCell ⟨B,2,none⟩ v2).setCell ⟨B,3,none⟩ v3).setCell ⟨B,4,none⟩ v4) [plBox B #[v0,v1,v2,v3,v4] 31,plNd u vs R]:=by
 subst hC;exact(((((S.addBox hb (by decide) hB (fun p hp=>by cases hp)).set 0 rfl 0 v0).set 0 rfl 1 v1).set 0 rfl 2 v2).set 0 rfl 3 v3).set 0 rfl 4 v4
def Cells5 (B:Nat) (v0 v1 v2 v3 v4:Value) (w:World):Prop:=w.cell? ⟨B,0,none⟩=some v0∧w.cell? ⟨B,1,none⟩=some v1∧w.cell? ⟨B,2,none⟩=some v2∧w.cell? ⟨B,3,none⟩=some v3∧w.cell? ⟨B,4,none⟩=some v4
theorem Cells5.ext {B:Nat} {v0 v1 v2 v3 v4:Value} {w w':World} (h:Cells5 B v0 v1 v2 v3 v4 w) (hE:Ext w w'):Cells5 B v0 v1 v2 v3 v4 w':=⟨cell_ext hE h.1,cell_ext hE h.2.1,cell_ext hE h.2.2.1,cell_ext hE h.2.2.2.1,cell_ext hE h.2.2.2.2⟩
theorem SepM.cells5 {M:Nat→Prop} {w0 w:World} {H:List Pl} (S:SepM M w0 w H) (i:Nat) {B t:Nat} {v0 v1 v2 v3 v4:Value} (h:H[i]?=some (plBox B #[v0,v1,v2,v3,v4] t)):Cells5 B v0 v1 v2 v3 v4 w:=⟨(bx (S.box i h) 0 rfl).1,(bx (S.box i h) 1 rfl).1,(bx (S.box i h) 2 rfl).1,(bx (S.box i h) 3 rfl).1,(bx (S.box i h) 4 rfl).1⟩
def VCs (wR:World) (bl fl nL capl k:Nat) (kv:Value) (cr ca cs cg:Int) (l tx:ByteArray) (R:List Nd):Nat→Value→List Value→World→Prop:=fun i v us wv=>match i with
 | 0=>v=kv
 | 1=>v=.slice (some ⟨bl,fl,none⟩) nL capl
 | 2=>v=.int .i64 k
 | 3=>v=.pointer (some ⟨bl,fl+k,none⟩)
 | 4=>v=.string l
 | 5=>∃u vs,v=.tuple #[.agg #[u,.int .i64 cr,.int .i64 ca,.int .i64 cs,.int .i64 cg],.string tx]∧Sep wR wv [plNd u vs R]
 | 6=>∃u vs,v=.tuple #[.agg #[u,.int .i64 cr,.int .i64 ca,.int .i64 cs,.int .i64 cg],.string tx]∧Sep wR wv [plNd u vs R]
 | 7=>∃u vs,v=.agg #[u,.int .i64 cr,.int .i64 ca,.int .i64 cs,.int .i64 cg]∧Sep wR wv [plNd u vs R]
 | 8=>v=.string tx
 | 9=>∃B,v=.pointer (some ⟨B,0,none⟩)∧wR.heap.size≤B∧wv.heap[B]?=some (.cells #[.slice none 0 0,.int .i64 0,.int .i64 0,.int .i64 0,.int .i64 0] 31)
 | 10=>∃B u vs,us=[.pointer (some ⟨B,0,none⟩)]∧Sep wR wv [plBox B #[u,.int .i64 cr,.int .i64 ca,.int .i64 cs,.int .i64 cg] 31,plNd u vs R]
 | _=>True
theorem VCs.ext {wR:World} {bl fl nL capl k:Nat} {kv:Value} {cr ca cs cg:Int} {l tx:ByteArray} {R:List Nd} (i:Nat) (v:Value) (us:List Value) (w1 w2:World) (h:VCs wR bl fl nL capl k kv cr ca cs cg l tx R i v us w1) (hE:Ext w1 w2):VCs wR bl fl nL capl k kv cr ca cs cg l tx R i v us w2:=by
 match i with
 | 0|1|2|3|4|8=>exact h
 | 5=>obtain⟨u,vs,h0,h1⟩:=h;exact⟨u,vs,h0,h1.step hE⟩
 | 6=>obtain⟨u,vs,h0,h1⟩:=h;exact⟨u,vs,h0,h1.step hE⟩
 | 7=>obtain⟨u,vs,h0,h1⟩:=h;exact⟨u,vs,h0,h1.step hE⟩
 | 9=>obtain⟨B,h0,h1,h2⟩:=h;exact⟨B,h0,h1,heapx hE h2⟩
 | 10=>obtain⟨B,u,vs,h0,h1⟩:=h;exact⟨B,u,vs,h0,h1.step hE⟩
 | (n+11)=>trivial
theorem specCallLines (at_:Option Addr) (cap:Nat) (T:List Nd) (cr ca cs cg:Int) (al:Option Addr) (capl:Nat) (L:List ByteArray) (w:World) (hl:T.length≤1048576) (hT:∀x∈T,SmN 1048576 x) (hNB:TreeOk T→NB 600000 T) (hc:RdN w at_ T) (hlL:L.length≤1048576) (hsL:∀x∈L,x.size≤1048576) (hrl:Rd 1 encStr1 w al L) :
  Calls Tryz.prog 16 #[.agg #[.slice at_ T.length cap,.int .i64 cr,.int .i64 ca,.int .i64 cs,.int .i64 cg],.slice al L.length capl] w (RetKs (callLines T ⟨cr,ca,cs,cg⟩ L) (linesCr T ⟨cr,ca,cs,cg⟩ L) w):=by
 have HT:=hd0 hT;have HNB:=hd0 hNB;have HSL:=hd0 hsL;clear hT hNB hsL
 go_enter Tryz.func16,Tryz.ntmps16
 have S:=Sep.start w;replace S:=S.alloc_at (n:=w.heap.size) (by simp) #[.slice at_ T.length cap,.int .i64 cr,.int .i64 ca,.int .i64 cs,.int .i64 cg] 31;replace S:=S.alloc_at (n:=(w.heap.size+1)) (by simp) #[.slice none 0 0,.int .i64 0,.int .i64 0,.int .i64 0,.int .i64 0] 31
 go_upto_region 1 with fail
 generalize ((w.alloc (.cells #[.slice at_ T.length cap,.int .i64 cr,.int .i64 ca,.int .i64 cs,.int .i64 cg] 31)).alloc (.cells #[.slice none 0 0,.int .i64 0,.int .i64 0,.int .i64 0,.int .i64 0] 31))=w1 at *;generalize w.heap.size+1=B4 at *;generalize w.heap.size=B3 at *;replace S:Sep w (w1.alloc (.cells #[] 9)) [plRow 9 1 encStr1 (.slice (some ⟨w1.heap.size,0,none⟩) 0 0) [],plBox B4 #[.slice none 0 0,.int .i64 0,.int .i64 0,.int .i64 0,.int .i64 0] 31,plBox B3 #[.slice at_ T.length cap,.int .i64 cr,.int .i64 ca,.int .i64 cs,.int .i64 cg] 31]:=S.lit0 (by simp) _ _ _;obtain⟨⟨b3c0,b3f0⟩,⟨b3c1,b3f1⟩,⟨b3c2,b3f2⟩,⟨b3c3,b3f3⟩,⟨b3c4,b3f4⟩⟩:=bx5 (S.box 2 rfl)
 go_wp2_with fail
 clear b3c0 b3f0 b3c1 b3f1 b3c2 b3f2 b3c3 b3f3 b3c4 b3f4;generalize (w1.alloc (.cells #[] 9))=w1b at *;generalize w1.heap.size=Bo at *;refine(specKernelValid at_ cap T cr ca cs cg w1b hl HT.out (hc.ext S.ext)).mono ?_;rintro e w2 ⟨v,rfl,hv,hE⟩;have Hv:=hd0 hv;clear hv;replace S:=S.step hE;clear hE
 cases v with
 | false =>
  have hno:¬(TreeOk T∧Cr.ok ⟨cr,ca,cs,cg⟩∧L.length≤30):=fun h=>Bool.noConfusion (Hv.out.2 ⟨h.1,h.2.1⟩)
  have HX:Hid (callLines T ⟨cr,ca,cs,cg⟩ L=([],[])∧linesCr T ⟨cr,ca,cs,cg⟩ L=⟨0,0,0,0⟩):=hd0 ⟨by unfold callLines;rw[if_neg hno],by unfold linesCr;rw[if_neg hno]⟩;clear hno;obtain⟨⟨b4c0,b4f0⟩,⟨b4c1,b4f1⟩,⟨b4c2,b4f2⟩,⟨b4c3,b4f3⟩,⟨b4c4,b4f4⟩⟩:=bx5 (S.box 1 rfl);go_wp2;clear b4c0 b4f0 b4c1 b4f1 b4c2 b4f2 b4c3 b4f3 b4c4 b4f4;replace S:Sep w (((((w2.setCell ⟨B4,0,none⟩ (.slice none 0 0)).setCell ⟨B4,1,none⟩ (.int .i64 0)).setCell ⟨B4,2,none⟩ (.int .i64 0)).setCell ⟨B4,3,none⟩ (.int .i64 0)).setCell ⟨B4,4,none⟩ (.int .i64 0)) [plRow 9 1 encStr1 (.slice (some ⟨Bo,0,none⟩) 0 0) [],plBox B4 #[.slice none 0 0,.int .i64 0,.int .i64 0,.int .i64 0,.int .i64 0] 31,plBox B3 #[.slice at_ T.length cap,.int .i64 cr,.int .i64 ca,.int .i64 cs,.int .i64 cg] 31]:=((((S.set 1 rfl 0 _).set 1 rfl 1 _).set 1 rfl 2 _).set 1 rfl 3 _).set 1 rfl 4 _;generalize (((((w2.setCell ⟨B4,0,none⟩ (.slice none 0 0)).setCell ⟨B4,1,none⟩ (.int .i64 0)).setCell ⟨B4,2,none⟩ (.int .i64 0)).setCell ⟨B4,3,none⟩ (.int .i64 0)).setCell ⟨B4,4,none⟩ (.int .i64 0))=wD at *;obtain⟨⟨b4c0,b4f0⟩,⟨b4c1,b4f1⟩,⟨b4c2,b4f2⟩,⟨b4c3,b4f3⟩,⟨b4c4,b4f4⟩⟩:=bx5 (S.box 1 rfl);refine bodyPost_ret (v:=.tuple #[.agg #[.slice none 0 0,.int .i64 0,.int .i64 0,.int .i64 0,.int .i64 0],.slice (some ⟨Bo,0,none⟩) 0 0]) (by simp[results,Tryz.results16,go_sem,b4c0,b4c1,b4c2,b4c3,b4c4]) rfl ?_;rw[HX.out.1,HX.out.2];replace S:Sep w wD [plRow 9 1 encStr1 (.slice (some ⟨Bo,0,none⟩) 0 0) []]:=(S.drop 1).drop 1;exact⟨_,[],_,rfl,nil_tree2 (S.toOut 0 rfl (fun _=>⟨_,rfl⟩))⟩
 | true =>
  have hyes:TreeOk T∧Cr.ok ⟨cr,ca,cs,cg⟩:=Hv.out.1 rfl;clear Hv
  by_cases hlen:30 < L.length
  ·have hno:¬(TreeOk T∧Cr.ok ⟨cr,ca,cs,cg⟩∧L.length≤30):=fun h=>by omega
   have HX:Hid (callLines T ⟨cr,ca,cs,cg⟩ L=([],[])∧linesCr T ⟨cr,ca,cs,cg⟩ L=⟨0,0,0,0⟩):=hd0 ⟨by unfold callLines;rw[if_neg hno],by unfold linesCr;rw[if_neg hno]⟩
   have hgt:(30:Int) < (L.length:Int):=by omega
   clear hno hlen hyes;obtain⟨⟨b4c0,b4f0⟩,⟨b4c1,b4f1⟩,⟨b4c2,b4f2⟩,⟨b4c3,b4f3⟩,⟨b4c4,b4f4⟩⟩:=bx5 (S.box 1 rfl);go_wp2;clear b4c0 b4f0 b4c1 b4f1 b4c2 b4f2 b4c3 b4f3 b4c4 b4f4;replace S:Sep w (((((w2.setCell ⟨B4,0,none⟩ (.slice none 0 0)).setCell ⟨B4,1,none⟩ (.int .i64 0)).setCell ⟨B4,2,none⟩ (.int .i64 0)).setCell ⟨B4,3,none⟩ (.int .i64 0)).setCell ⟨B4,4,none⟩ (.int .i64 0)) [plRow 9 1 encStr1 (.slice (some ⟨Bo,0,none⟩) 0 0) [],plBox B4 #[.slice none 0 0,.int .i64 0,.int .i64 0,.int .i64 0,.int .i64 0] 31,plBox B3 #[.slice at_ T.length cap,.int .i64 cr,.int .i64 ca,.int .i64 cs,.int .i64 cg] 31]:=((((S.set 1 rfl 0 _).set 1 rfl 1 _).set 1 rfl 2 _).set 1 rfl 3 _).set 1 rfl 4 _;generalize (((((w2.setCell ⟨B4,0,none⟩ (.slice none 0 0)).setCell ⟨B4,1,none⟩ (.int .i64 0)).setCell ⟨B4,2,none⟩ (.int .i64 0)).setCell ⟨B4,3,none⟩ (.int .i64 0)).setCell ⟨B4,4,none⟩ (.int .i64 0))=wD at *;obtain⟨⟨b4c0,b4f0⟩,⟨b4c1,b4f1⟩,⟨b4c2,b4f2⟩,⟨b4c3,b4f3⟩,⟨b4c4,b4f4⟩⟩:=bx5 (S.box 1 rfl);refine bodyPost_ret (v:=.tuple #[.agg #[.slice none 0 0,.int .i64 0,.int .i64 0,.int .i64 0,.int .i64 0],.slice (some ⟨Bo,0,none⟩) 0 0]) (by simp[results,Tryz.results16,go_sem,b4c0,b4c1,b4c2,b4c3,b4c4]) rfl ?_;rw[HX.out.1,HX.out.2];replace S:Sep w wD [plRow 9 1 encStr1 (.slice (some ⟨Bo,0,none⟩) 0 0) []]:=(S.drop 1).drop 1;exact⟨_,[],_,rfl,nil_tree2 (S.toOut 0 rfl (fun _=>⟨_,rfl⟩))⟩
  have hall:TreeOk T∧Cr.ok ⟨cr,ca,cs,cg⟩∧L.length≤30:=⟨hyes.1,hyes.2,by omega⟩;have HX:Hid (callLines T ⟨cr,ca,cs,cg⟩ L=runL ⟨cr,ca,cs,cg⟩ (T,[]) L∧linesCr T ⟨cr,ca,cs,cg⟩ L=⟨cr,ca,cs,cg⟩):=hd0 ⟨by unfold callLines;rw[if_pos hall],by unfold linesCr;rw[if_pos hall]⟩
  have hgt:¬(30:Int) < (L.length:Int):=by omega
  have hl30:L.length≤30:=by omega
  have HOK:Hid (∀k,k≤L.length→TreeOk (runL ⟨cr,ca,cs,cg⟩ (T,[]) (L.take k)).1∧NB 1000000 (runL ⟨cr,ca,cs,cg⟩ (T,[]) (L.take k)).1∧(runL ⟨cr,ca,cs,cg⟩ (T,[]) (L.take k)).2.length≤30):=hd0 (fun k hk=>by
   have h:=runL_ok ⟨cr,ca,cs,cg⟩ (L.take k) (T,[]) 600000 hyes.1 (HNB.out hyes.1);rw[List.length_take]at h
   exact⟨h.1,nb_more h.2.1 (by omega),by rw[h.2.2];simp only[List.length_nil];omega⟩)
  have HC:=hd0 hyes.2;clear hall hyes hlen HNB
  go_upto_region 4 with fail
  replace S:=S.drew;obtain⟨b3c0,_⟩:=bx (S.box 2 rfl) 0 rfl;obtain⟨b3c1,_⟩:=bx (S.box 2 rfl) 1 rfl;obtain⟨b3c2,_⟩:=bx (S.box 2 rfl) 2 rfl;obtain⟨b3c3,_⟩:=bx (S.box 2 rfl) 3 rfl;obtain⟨b3c4,_⟩:=bx (S.box 2 rfl) 4 rfl;have hcd:RdN (World.drew w2) at_ T:=hc.ext S.ext;have HSd:=hd0 S
  repeat clear S
  refine wp_region_c (V:=VSm (World.drew w2) B3 at_ cap T cr ca cs cg) (fun wv=>Ext (World.drew w2) wv) (fun i=>if i=2 then some 5 else none) [] 7 0 rfl (by decide) (by kernel_rfl) (by kernel_rfl) (by kernel_rfl) (by kernel_rfl) (Ext.refl _) (fun r hr=>by omega) ?_ ?_
  ·intro i o hi ho vz w4 hvl hE hd hrest
   match vz,hvl with
   | [y0,y1,y2,y3,y4,y5,y6],_ =>
   rcases lc7 hi with rfl|rfl|rfl|rfl|rfl|rfl|rfl
   all_goals
    obtain rfl:=Option.some.inj ho
   ·clear hd hrest;simp[putAll,Act.put];go_wp2;exact OneC.mk (VSm.ext) rfl rfl hE (Ext.refl _)
   ·have q0:y0=.pointer (some ⟨B3,0,none⟩):=hd ⟨0,.data⟩ (by simp) rfl (.inl rfl);have c0:=cell_ext hE b3c0;subst q0;clear hd hrest;simp[putAll,Act.put];go_wp2;exact OneC.mk (VSm.ext) rfl rfl hE (Ext.refl _)
   ·have q1:y1=.slice at_ T.length cap:=hd ⟨1,.data⟩ (by simp) rfl (.inl rfl);have HC:=hd0 (specCopy at_ cap T w4 hl HT.out (hcd.ext hE));subst q1;clear hd hrest;simp[putAll,Act.put]
    go_wp2_with fail
    refine HC.out.mono ?_;rintro e w5 ⟨u5,vs5,rfl,S5⟩;have S6:=S5.since hE;have hE5:=S5.ext;clear HC S5;go_wp2;exact OneC.mk (VSm.ext) rfl ⟨_,S6⟩ (hE.trans hE5) hE5
   ·clear hd hrest;simp[putAll,Act.put];go_wp2;exact OneC.mk (VSm.ext) rfl rfl hE (Ext.refl _)
   ·have q3:y3=.pointer (some ⟨B3,1,none⟩):=hd ⟨3,.data⟩ (by simp) rfl (.inl rfl);have c1:=cell_ext hE b3c1;have c2:=cell_ext hE b3c2;have c3:=cell_ext hE b3c3;have c4:=cell_ext hE b3c4;subst q3;clear hd hrest;simp[putAll,Act.put];go_wp2;exact OneC.mk (VSm.ext) rfl rfl hE (Ext.refl _)
   ·obtain⟨vs2,S2⟩:∃vs,Sep (World.drew w2) w4 [plNd y2 vs T]:=hd ⟨2,.data⟩ (by simp) rfl (.inr rfl);have q4:y4=.agg #[.int .i64 cr,.int .i64 ca,.int .i64 cs,.int .i64 cg]:=hd ⟨4,.data⟩ (by simp) rfl (.inl rfl);obtain⟨ua2,uc2,rfl,_,_⟩:=nd_view (S2.at_ 0 rfl);have HS2:=hd0 S2;subst q4;clear hd hrest S2;simp[putAll,Act.put];go_wp2;refine⟨rfl,_,rfl,⟨_,vs2,rfl,HS2.out⟩,hE,fun j u hj hne hcon hnd hnc hv=>hv⟩
   ·clear hd hrest;have hsz:=hE.size;simp[putAll,Act.put];go_wp2;exact OneC.mk (VSm.ext) rfl ⟨_,rfl,hsz,heap_alloc_new w4 _⟩ (hE.alloc _) ((Ext.refl _).alloc _)
  intro vz wE hvl hE hV _
  match vz,hvl with
  | [y0,y1,y2,y3,y4,y5,y6],_ =>
  obtain⟨u5,vs5,q5,S5⟩:∃u vs,y5=.agg #[u,.int .i64 cr,.int .i64 ca,.int .i64 cs,.int .i64 cg]∧Sep (World.drew w2) wE [plNd u vs T]:=hV 5 (by omega) rfl;obtain⟨B6,q6,hB6,hb6⟩:∃B,y6=.pointer (some ⟨B,0,none⟩)∧(World.drew w2).heap.size≤B∧wE.heap[B]?=some (.cells #[.slice none 0 0,.int .i64 0,.int .i64 0,.int .i64 0,.int .i64 0] 31):=hV 6 (by omega) rfl;obtain⟨ua5,uc5,rfl,_,_⟩:=nd_view (S5.at_ 0 rfl);have S:=HSd.out.call (S5.addBox hb6 (by decide) hB6 (fun p hp=>by cases hp));have S:Sep w wE [plBox B6 #[.slice none 0 0,.int .i64 0,.int .i64 0,.int .i64 0,.int .i64 0] 31,plNd (.slice ua5 T.length uc5) vs5 T,plRow 9 1 encStr1 (.slice (some ⟨Bo,0,none⟩) 0 0) [],plBox B4 #[.slice none 0 0,.int .i64 0,.int .i64 0,.int .i64 0,.int .i64 0] 31,plBox B3 #[.slice at_ T.length cap,.int .i64 cr,.int .i64 ca,.int .i64 cs,.int .i64 cg] 31]:=S;subst q5 q6;clear hV hE S5 HSd hcd b3c0 b3c1 b3c2 b3c3 b3c4 hB6 hb6;have SM:=S.toOut 2 rfl (fun _=>⟨_,rfl⟩);replace S:Sep w wE [plBox B6 #[.slice none 0 0,.int .i64 0,.int .i64 0,.int .i64 0,.int .i64 0] 31,plNd (.slice ua5 T.length uc5) vs5 T,plOut (.slice (some ⟨Bo,0,none⟩) 0 0) [],plBox B4 #[.slice none 0 0,.int .i64 0,.int .i64 0,.int .i64 0,.int .i64 0] 31,plBox B3 #[.slice at_ T.length cap,.int .i64 cr,.int .i64 ca,.int .i64 cs,.int .i64 cg] 31]:=SM;clear SM;replace S:Sep w wE [plBox B6 #[.slice none 0 0,.int .i64 0,.int .i64 0,.int .i64 0,.int .i64 0] 31,plNd (.slice ua5 T.length uc5) vs5 T,plOut (.slice (some ⟨Bo,0,none⟩) 0 0) [],plBox B4 #[.slice none 0 0,.int .i64 0,.int .i64 0,.int .i64 0,.int .i64 0] 31]:=S.drop 4;simp only[putAll,Act.put,List.take_succ_cons,List.take_zero,List.drop_succ_cons,List.drop_zero];simp;obtain⟨⟨b6c0,b6f0⟩,⟨b6c1,b6f1⟩,⟨b6c2,b6f2⟩,⟨b6c3,b6f3⟩,⟨b6c4,b6f4⟩⟩:=bx5 (S.box 0 rfl);go_wp2;clear b6c0 b6f0 b6c1 b6f1 b6c2 b6f2 b6c3 b6f3 b6c4 b6f4;replace S:Sep w (((((wE.setCell ⟨B6,0,none⟩ (.slice ua5 T.length uc5)).setCell ⟨B6,1,none⟩ (.int .i64 cr)).setCell ⟨B6,2,none⟩ (.int .i64 ca)).setCell ⟨B6,3,none⟩ (.int .i64 cs)).setCell ⟨B6,4,none⟩ (.int .i64 cg)) [plBox B6 #[.slice ua5 T.length uc5,.int .i64 cr,.int .i64 ca,.int .i64 cs,.int .i64 cg] 31,plNd (.slice ua5 T.length uc5) vs5 T,plOut (.slice (some ⟨Bo,0,none⟩) 0 0) [],plBox B4 #[.slice none 0 0,.int .i64 0,.int .i64 0,.int .i64 0,.int .i64 0] 31]:=((((S.set 0 rfl 0 _).set 0 rfl 1 _).set 0 rfl 2 _).set 0 rfl 3 _).set 0 rfl 4 _;generalize (((((wE.setCell ⟨B6,0,none⟩ (.slice ua5 T.length uc5)).setCell ⟨B6,1,none⟩ (.int .i64 cr)).setCell ⟨B6,2,none⟩ (.int .i64 ca)).setCell ⟨B6,3,none⟩ (.int .i64 cs)).setCell ⟨B6,4,none⟩ (.int .i64 cg))=w5 at *;have S1:=hd0 (S.perm (List.Perm.swap _ _ _))
  repeat clear S
  go_loopw [6,8] (fun o j wr=>∃(k:Nat) (R:List Nd) (A:List ByteArray) (ax:Option Addr) (cx:Nat) (vx:List Nc) (ao:Option Addr) (co:Nat),k≤L.length∧j=.int .i64 k∧o=.slice ao A.length co∧runL ⟨cr,ca,cs,cg⟩ (T,[]) (L.take k)=(R,A)∧Sep w wr [plNd (.slice ax R.length cx) vx R,plBox B6 #[.slice ax R.length cx,.int .i64 cr,.int .i64 ca,.int .i64 cs,.int .i64 cg] 31,plOut (.slice ao A.length co) A,plBox B4 #[.slice none 0 0,.int .i64 0,.int .i64 0,.int .i64 0,.int .i64 0] 31]) (fun _ j _=>L.length - (intOf j).toNat)
  case atStart=>exact⟨0,T,[],_,_,_,_,_,Nat.zero_le _,rfl,rfl,by rw[List.take_zero];rfl,S1.out⟩
  case round =>
   clear S1;obtain⟨k,R,A,ax,cx,vx,ao,co,hk,rfl,rfl,hR,S⟩:=hrel;have HR:=hd0 hR;have hok:=HOK.out k hk;rw[hR]at hok;dsimp only at hok;clear hR;have hA:A.length≤30:=hok.2.2
   have hRl:R.length≤1048576:=by have:=hok.1.max;omega
   have HRT:=hd0 (tree_sm20 hok.1 hok.2.1 (by omega));have HRO:=hd0 hok.1;have HRN:=hd0 hok.2.1;clear hok;have hrd:Rd 1 encStr1 wr al L:=hrl.ext S.ext
   by_cases hlt:k < L.length
   rotate_left
   ·obtain rfl:k=L.length:=by omega
    have HE:Hid (runL ⟨cr,ca,cs,cg⟩ (T,[]) L=(R,A)):=hd0 (by have:=HR.out;rw[List.take_length]at this;exact this)
    have hni:¬(L.length:Int) < (L.length:Int):=by omega
    clear hrd;obtain⟨⟨b6c0,b6f0⟩,⟨b6c1,b6f1⟩,⟨b6c2,b6f2⟩,⟨b6c3,b6f3⟩,⟨b6c4,b6f4⟩⟩:=bx5 (S.box 1 rfl);obtain⟨⟨b4c0,b4f0⟩,⟨b4c1,b4f1⟩,⟨b4c2,b4f2⟩,⟨b4c3,b4f3⟩,⟨b4c4,b4f4⟩⟩:=bx5 (S.box 3 rfl);go_wp2;clear b6c0 b6f0 b6c1 b6f1 b6c2 b6f2 b6c3 b6f3 b6c4 b6f4 b4c0 b4f0 b4c1 b4f1 b4c2 b4f2 b4c3 b4f3 b4c4 b4f4;replace S:Sep w (((((wr.setCell ⟨B4,0,none⟩ (.slice ax R.length cx)).setCell ⟨B4,1,none⟩ (.int .i64 cr)).setCell ⟨B4,2,none⟩ (.int .i64 ca)).setCell ⟨B4,3,none⟩ (.int .i64 cs)).setCell ⟨B4,4,none⟩ (.int .i64 cg)) [plNd (.slice ax R.length cx) vx R,plBox B6 #[.slice ax R.length cx,.int .i64 cr,.int .i64 ca,.int .i64 cs,.int .i64 cg] 31,plOut (.slice ao A.length co) A,plBox B4 #[.slice ax R.length cx,.int .i64 cr,.int .i64 ca,.int .i64 cs,.int .i64 cg] 31]:=((((S.set 3 rfl 0 _).set 3 rfl 1 _).set 3 rfl 2 _).set 3 rfl 3 _).set 3 rfl 4 _;generalize (((((wr.setCell ⟨B4,0,none⟩ (.slice ax R.length cx)).setCell ⟨B4,1,none⟩ (.int .i64 cr)).setCell ⟨B4,2,none⟩ (.int .i64 ca)).setCell ⟨B4,3,none⟩ (.int .i64 cs)).setCell ⟨B4,4,none⟩ (.int .i64 cg))=wD at *;obtain⟨⟨b4c0,b4f0⟩,⟨b4c1,b4f1⟩,⟨b4c2,b4f2⟩,⟨b4c3,b4f3⟩,⟨b4c4,b4f4⟩⟩:=bx5 (S.box 3 rfl);refine bodyPost_ret (v:=.tuple #[.agg #[.slice ax R.length cx,.int .i64 cr,.int .i64 ca,.int .i64 cs,.int .i64 cg],.slice ao A.length co]) (by simp[results,Tryz.results16,go_sem,b4c0,b4c1,b4c2,b4c3,b4c4]) rfl ?_;rw[HX.out.1,HX.out.2,HE.out];replace S:Sep w wD [plNd (.slice ax R.length cx) vx R,plOut (.slice ao A.length co) A]:=(S.drop 1).drop 2;exact⟨_,vx,_,rfl,S⟩
   ·obtain⟨l,bl,fl,hl9,rfl,e0⟩:=atStr hrd hlt;have hls:=HSL.out l (List.mem_of_getElem? hl9);obtain⟨R',tx,hq⟩:∃R' tx,callF R ⟨cr,ca,cs,cg⟩ (wordsB l)=(R',tx):=⟨_,_,rfl⟩;have HStep:Hid (runL ⟨cr,ca,cs,cg⟩ (T,[]) (L.take (k+1))=(R',A++[tx])):=hd0 (by rw[runL_step _ _ hl9,HR.out];dsimp only;rw[hq])
    have HF:Hid (∀(a1:Option Addr) (c1:Nat) (w':World),RdN w' a1 R→True→Calls Tryz.prog 8 #[.agg #[.slice a1 R.length c1,.int .i64 cr,.int .i64 ca,.int .i64 cs,.int .i64 cg],.string l] w' (fun e w''=>∃u vs,e=.returned (.tuple #[.agg #[u,.int .i64 cr,.int .i64 ca,.int .i64 cs,.int .i64 cg],.string tx])∧Sep w' w'' [plNd u vs R'])):=hd0 (fun a1 c1 w' h1 hm'=>by
     have h:=specCallLine a1 c1 R cr ca cs cg l w' hls hRl HRT.out (fun _=>HRN.out) h1;rw[callLine_ok ⟨HRO.out,HC.out⟩,hq,show callCr R ⟨cr,ca,cs,cg⟩=⟨cr,ca,cs,cg⟩by unfold callCr;rw[if_pos ⟨HRO.out,HC.out⟩]]at h
     exact h)
    have i0:(k:Int) < (L.length:Int):=by omega
    clear hl9 hq hrd HRT HRO HRN hls;generalize hLl:L.length=nL at *;have HLl:=hd0 hLl;clear hLl
    go_upto_region 8 with fail
    replace S:=S.drew;obtain⟨b6d0,_⟩:=bx (S.box 1 rfl) 0 rfl;obtain⟨b6d1,_⟩:=bx (S.box 1 rfl) 1 rfl;obtain⟨b6d2,_⟩:=bx (S.box 1 rfl) 2 rfl;obtain⟨b6d3,_⟩:=bx (S.box 1 rfl) 3 rfl;obtain⟨b6d4,_⟩:=bx (S.box 1 rfl) 4 rfl;have e0d:=cell_ext (Ext.refl wr).drew e0;have HSR:Hid (RdN (World.drew wr) ax R):=hd0 (S.rdN 0 rfl);have HSd:=hd0 S
    repeat clear S
    refine wp_region_d (V:=VCs (World.drew wr) bl fl nL capl k (.agg #[.slice ax R.length cx,.int .i64 cr,.int .i64 ca,.int .i64 cs,.int .i64 cg]) cr ca cs cg l tx R') (fun i=>if i=10 then[9]else[]) (fun _ wv=>Ext (World.drew wr) wv) (fun i=>if i=9 then some 10 else none) [] 11 0 rfl (by decide) (by kernel_rfl) (by kernel_rfl) (by kernel_rfl) (by kernel_rfl) (by kernel_rfl) (Ext.refl _) (fun r hr=>by omega) ?_ ?_
    ·intro i o hi ho kk hkk vz w4 hvl hE hd hrest
     match vz,hvl with
     | [y0,y1,y2,y3,y4,y5,y6,y7,y8,y9,y10],_ =>
     rcases lc11 hi with rfl|rfl|rfl|rfl|rfl|rfl|rfl|rfl|rfl|rfl|rfl
     all_goals
      obtain rfl:=Option.some.inj ho
     ·have c0:=cell_ext hE b6d0;have c1:=cell_ext hE b6d1;have c2:=cell_ext hE b6d2;have c3:=cell_ext hE b6d3;have c4:=cell_ext hE b6d4;clear hd hrest;simp[putAll,Act.put];go_wp2;exact OneD.mk (VCs.ext) rfl rfl hE (Ext.refl _)
     ·clear hd hrest;simp[putAll,Act.put];go_wp2;exact OneD.mk (VCs.ext) rfl rfl hE (Ext.refl _)
     ·clear hd hrest;simp[putAll,Act.put];go_wp2;exact OneD.mk (VCs.ext) rfl rfl hE (Ext.refl _)
     ·have q1:y1=.slice (some ⟨bl,fl,none⟩) nL capl:=hd ⟨1,.data⟩ (by simp) rfl (.inl rfl);have q2:y2=.int .i64 k:=hd ⟨2,.data⟩ (by simp) rfl (.inl rfl);subst q1 q2;clear hd hrest;simp[putAll,Act.put];go_wp2;exact OneD.mk (VCs.ext) rfl rfl hE (Ext.refl _)
     ·have q3:y3=.pointer (some ⟨bl,fl+k,none⟩):=hd ⟨3,.data⟩ (by simp) rfl (.inl rfl);have c0:=cell_ext hE e0d;subst q3;clear hd hrest;simp[putAll,Act.put];go_wp2;exact OneD.mk (VCs.ext) rfl rfl hE (Ext.refl _)
     ·have q0:y0=.agg #[.slice ax R.length cx,.int .i64 cr,.int .i64 ca,.int .i64 cs,.int .i64 cg]:=hd ⟨0,.data⟩ (by simp) rfl (.inl rfl);have q4:y4=.string l:=hd ⟨4,.data⟩ (by simp) rfl (.inl rfl);have HC9:=hd0 (HF.out ax cx w4 (HSR.out.ext hE) trivial);subst q0 q4;clear hd hrest;simp[putAll,Act.put]
      go_wp2_with fail
      refine HC9.out.mono ?_;rintro e w5 ⟨u5,v5,rfl,S5⟩;have S6:=S5.since hE;have hE5:=S5.ext;clear HC9 S5;go_wp2;exact OneD.mk (VCs.ext) rfl ⟨_,_,rfl,S6⟩ (hE.trans hE5) hE5
     ·obtain⟨u5,v5,q5,S5⟩:∃u vs,y5=.tuple #[.agg #[u,.int .i64 cr,.int .i64 ca,.int .i64 cs,.int .i64 cg],.string tx]∧Sep (World.drew wr) w4 [plNd u vs R']:=hd ⟨5,.data⟩ (by simp) rfl (.inl rfl);have HS5:=hd0 S5;subst q5;clear hd hrest S5;simp[putAll,Act.put];go_wp2;exact OneD.mk (VCs.ext) rfl ⟨_,_,rfl,HS5.out⟩ hE (Ext.refl _)
     ·obtain⟨u5,v5,q6,S5⟩:∃u vs,y6=.tuple #[.agg #[u,.int .i64 cr,.int .i64 ca,.int .i64 cs,.int .i64 cg],.string tx]∧Sep (World.drew wr) w4 [plNd u vs R']:=hd ⟨6,.data⟩ (by simp) rfl (.inl rfl);have HS5:=hd0 S5;subst q6;clear hd hrest S5;simp[putAll,Act.put];go_wp2;exact OneD.mk (VCs.ext) rfl ⟨_,_,rfl,HS5.out⟩ hE (Ext.refl _)
     ·obtain⟨u5,v5,q6,S5⟩:∃u vs,y6=.tuple #[.agg #[u,.int .i64 cr,.int .i64 ca,.int .i64 cs,.int .i64 cg],.string tx]∧Sep (World.drew wr) w4 [plNd u vs R']:=hd ⟨6,.data⟩ (by simp) rfl (.inl rfl);have HS5:=hd0 S5;subst q6;clear hd hrest S5;simp[putAll,Act.put];go_wp2;exact OneD.mk (VCs.ext) rfl rfl hE (Ext.refl _)
     ·clear hd hrest;have hsz:=hE.size;simp[putAll,Act.put];go_wp2;exact OneD.mk (VCs.ext) rfl ⟨_,rfl,hsz,heap_alloc_new w4 _⟩ (hE.alloc _) ((Ext.refl _).alloc _)
     ·obtain⟨B9,q9,hB9,hb9⟩:∃B,y9=.pointer (some ⟨B,0,none⟩)∧(World.drew wr).heap.size≤B∧w4.heap[B]?=some (.cells #[.slice none 0 0,.int .i64 0,.int .i64 0,.int .i64 0,.int .i64 0] 31):=hd ⟨9,.data⟩ (by simp) rfl (.inr rfl);obtain⟨u7,v7,q7,S7⟩:∃u vs,y7=.agg #[u,.int .i64 cr,.int .i64 ca,.int .i64 cs,.int .i64 cg]∧Sep (World.drew wr) w4 [plNd u vs R']:=hd ⟨7,.data⟩ (by simp) rfl (.inl rfl);obtain⟨au,cu,rfl,_,_⟩:=nd_view (S7.at_ 0 rfl);obtain⟨d0,f0⟩:=bx hb9 0 rfl;obtain⟨d1,f1⟩:=bx hb9 1 rfl;obtain⟨d2,f2⟩:=bx hb9 2 rfl;obtain⟨d3,f3⟩:=bx hb9 3 rfl;obtain⟨d4,f4⟩:=bx hb9 4 rfl;have HS7:=hd0 S7;have HB:=hd0 hb9;subst q9 q7;clear hd hrest S7 hb9;simp at d0 d1 d2 d3 d4;simp[putAll,Act.put];go_wp2;have hb9:=HB.out;have S9:=store5 HS7.out hb9 rfl hB9 (.slice au R'.length cu) (.int .i64 cr) (.int .i64 ca) (.int .i64 cs) (.int .i64 cg);refine⟨rfl,undef,rfl,⟨B9,_,v7,rfl,S9⟩,S9.ext,fun j u us hj hne hcon hnd hnc hv=>?_⟩
      match j,hv with
      | 0,hv=>exact hv
      | 1,hv=>exact hv
      | 2,hv=>exact hv
      | 3,hv=>exact hv
      | 4,hv=>exact hv
      | 5,hv=>obtain⟨u5,v5,h0,h1⟩:=hv;exact⟨u5,v5,h0,(store5 h1 hb9 rfl hB9 (.slice au R'.length cu) (.int .i64 cr) (.int .i64 ca) (.int .i64 cs) (.int .i64 cg)).drop 0⟩
      | 6,hv=>obtain⟨u5,v5,h0,h1⟩:=hv;exact⟨u5,v5,h0,(store5 h1 hb9 rfl hB9 (.slice au R'.length cu) (.int .i64 cr) (.int .i64 ca) (.int .i64 cs) (.int .i64 cg)).drop 0⟩
      | 7,hv=>obtain⟨u5,v5,h0,h1⟩:=hv;exact⟨u5,v5,h0,(store5 h1 hb9 rfl hB9 (.slice au R'.length cu) (.int .i64 cr) (.int .i64 ca) (.int .i64 cs) (.int .i64 cg)).drop 0⟩
      | 8,hv=>exact hv
      | 9,hv=>exact absurd rfl hcon
      | 10,hv=>exact absurd rfl hne
      | (q+11),_=>trivial
    intro vz w8 hvl hE hV _
    match vz,hvl with
    | [y0,y1,y2,y3,y4,y5,y6,y7,y8,y9,y10],_ =>
    have q8:y8=.string tx:=hV 8 (by omega) rfl;obtain⟨B9,u9,v9,q9,S9⟩:∃B u vs,[y9]=[.pointer (some ⟨B,0,none⟩)]∧Sep (World.drew wr) w8 [plBox B #[u,.int .i64 cr,.int .i64 ca,.int .i64 cs,.int .i64 cg] 31,plNd u vs R']:=hV 10 (by omega) rfl
    obtain rfl:y9=.pointer (some ⟨B9,0,none⟩):=by simpa using q9
    obtain⟨a9,c9,rfl,_,_⟩:=nd_view (S9.at_ 1 rfl);subst q8;have S:=HSd.out.call S9;clear hV hvl S9 HSd hE q9 b6d0 b6d1 b6d2 b6d3 b6d4 e0 e0d HSR HF;have S:Sep w w8 [plBox B9 #[.slice a9 R'.length c9,.int .i64 cr,.int .i64 ca,.int .i64 cs,.int .i64 cg] 31,plNd (.slice a9 R'.length c9) v9 R',plNd (.slice ax R.length cx) vx R,plBox B6 #[.slice ax R.length cx,.int .i64 cr,.int .i64 ca,.int .i64 cs,.int .i64 cg] 31,plOut (.slice ao A.length co) A,plBox B4 #[.slice none 0 0,.int .i64 0,.int .i64 0,.int .i64 0,.int .i64 0] 31]:=S;simp only[putAll,Act.put,List.take_succ_cons,List.take_zero,List.drop_succ_cons,List.drop_zero];simp;obtain⟨⟨b9c0,b9f0⟩,⟨b9c1,b9f1⟩,⟨b9c2,b9f2⟩,⟨b9c3,b9f3⟩,⟨b9c4,b9f4⟩⟩:=bx5 (S.box 0 rfl);obtain⟨⟨b6c0,b6f0⟩,⟨b6c1,b6f1⟩,⟨b6c2,b6f2⟩,⟨b6c3,b6f3⟩,⟨b6c4,b6f4⟩⟩:=bx5 (S.box 3 rfl)
    go_upto_region 10 with fail
    clear b9c0 b9f0 b9c1 b9f1 b9c2 b9f2 b9c3 b9f3 b9c4 b9f4 b6c0 b6f0 b6c1 b6f1 b6c2 b6f2 b6c3 b6f3 b6c4 b6f4;replace S:Sep w (((((w8.setCell ⟨B6,0,none⟩ (.slice a9 R'.length c9)).setCell ⟨B6,1,none⟩ (.int .i64 cr)).setCell ⟨B6,2,none⟩ (.int .i64 ca)).setCell ⟨B6,3,none⟩ (.int .i64 cs)).setCell ⟨B6,4,none⟩ (.int .i64 cg)) [plBox B9 #[.slice a9 R'.length c9,.int .i64 cr,.int .i64 ca,.int .i64 cs,.int .i64 cg] 31,plNd (.slice a9 R'.length c9) v9 R',plNd (.slice ax R.length cx) vx R,plBox B6 #[.slice a9 R'.length c9,.int .i64 cr,.int .i64 ca,.int .i64 cs,.int .i64 cg] 31,plOut (.slice ao A.length co) A,plBox B4 #[.slice none 0 0,.int .i64 0,.int .i64 0,.int .i64 0,.int .i64 0] 31]:=((((S.set 3 rfl 0 _).set 3 rfl 1 _).set 3 rfl 2 _).set 3 rfl 3 _).set 3 rfl 4 _;generalize (((((w8.setCell ⟨B6,0,none⟩ (.slice a9 R'.length c9)).setCell ⟨B6,1,none⟩ (.int .i64 cr)).setCell ⟨B6,2,none⟩ (.int .i64 ca)).setCell ⟨B6,3,none⟩ (.int .i64 cs)).setCell ⟨B6,4,none⟩ (.int .i64 cg))=w9 at *;have SA:=S.alloc #[.string tx] 9;have rd1:Rd 1 encStr1 (w9.alloc (.cells #[.string tx] 9)) (some ⟨w9.heap.size,0,none⟩) [tx]:=rd_lit_new [tx] encStr1_len rfl
    go_wp2_with (at_builtin;refine Hid.out (?_:Hid _))
    unfold Hid;refine wpList_append_out rfl _ _ rfl _ A rfl (SA.at_ (4+1) rfl) ⟨w9.heap.size,0,none⟩ 1 tx rfl rd1 (by omega) ?_;intro v7 w7 hok hch hown;have SM:=(SA.put (4+1) rfl hch hok hown).drop 0;clear hok hch hown SA rd1;replace S:Sep w w7 [plBox B9 #[.slice a9 R'.length c9,.int .i64 cr,.int .i64 ca,.int .i64 cs,.int .i64 cg] 31,plNd (.slice a9 R'.length c9) v9 R',plNd (.slice ax R.length cx) vx R,plBox B6 #[.slice a9 R'.length c9,.int .i64 cr,.int .i64 ca,.int .i64 cs,.int .i64 cg] 31,plOut v7 (A++[tx]),plBox B4 #[.slice none 0 0,.int .i64 0,.int .i64 0,.int .i64 0,.int .i64 0] 31]:=SM;clear SM;obtain⟨a7,c7,rfl,_⟩:=out_view (S.at_ 4 rfl);replace S:Sep w w7 [plNd (.slice a9 R'.length c9) v9 R',plBox B6 #[.slice a9 R'.length c9,.int .i64 cr,.int .i64 ca,.int .i64 cs,.int .i64 cg] 31,plOut (.slice a7 (A++[tx]).length c7) (A++[tx]),plBox B4 #[.slice none 0 0,.int .i64 0,.int .i64 0,.int .i64 0,.int .i64 0] 31]:=(S.drop 2).drop 0;have HS:=hd0 S;obtain⟨G,hG⟩:∃G,G=A++[tx]:=⟨_,rfl⟩;rw[←hG]at HS HStep ⊢
    have hk1:k+1≤nL:=by omega
    have hL:=HLl.out;clear S hG;go_wp2;go_roundw
    case rel=>exact⟨k+1,R',G,a9,c9,v9,a7,c7,by omega,by go_num,rfl,HStep.out,HS.out⟩
    case measure=>simp[intOf];omega
theorem implFileAt (a:Option Addr) (cap:Nat) (T:List Nd) (c:Cr) (s:ByteArray) (want:Int) (w:World) (hs:s.size≤1048576) (hl:T.length≤1048576) (hT:∀x∈T,SmN 1048576 x) (hc:RdN w a T) (hwant:1≤want∧want≤4) (hm:MaxG w) :
  Calls Tryz.prog 120 #[.slice a T.length cap,.agg #[.int .i64 c.r,.int .i64 c.a,.int .i64 c.s,.int .i64 c.g],.string s,.int .i64 want] w fun e w'=>e=.returned (.tuple #[.int .i64 (gateAt T c s false want).1,.int .i64 (gateAt T c s false want).2])∧Ext w w':=by
 obtain⟨cr,ca,cs,cg⟩:=c;have HT:=hd0 hT;clear hT;have HM:=hd0 hm;clear hm;dsimp only
 go_enter Tryz.func120,Tryz.ntmps120
 have S:=Sep.start w;replace S:=S.alloc_at (n:=w.heap.size) (by simp) #[.int .i64 cr,.int .i64 ca,.int .i64 cs,.int .i64 cg] 29
 go_wp2_with fail
 generalize (w.alloc (.cells #[.int .i64 cr,.int .i64 ca,.int .i64 cs,.int .i64 cg] 29))=w1 at *;refine(implFindNode a cap T ⟨cr,ca,cs,cg⟩ s w1 hs hl HT.out (hc.ext S.ext) (HM.out.ext S.ext)).mono ?_;rintro e w2 ⟨rfl,hE⟩;replace S:=S.step hE;clear hE
 rcases find_cases T ⟨cr,ca,cs,cg⟩ s with⟨m,hF,hm_,hTr,hCo⟩|⟨f,hf,hF⟩
 rotate_left
 ·have HG:=hd0 (ga_fault (dir:=false) (want:=want) hf hF);have HX:=hd0 (HG.out);rw[hF]
  have tf:(f == 0)=false:=by simpa using hf
  clear hF hf HG;dsimp only;go_wp2;go_ret2;exact⟨by rw[HX.out];rfl,S.ext⟩
 ·obtain⟨x,b',off,an,cn,ak,ck,hx,rfl,c0,c1,c2,c3,c4,c5,c6,hcn,hck,hrn,hrk⟩:=atNd hc hm_;have Hx:=hd0 hx;have HN:=hd0 (hTr.nodes m x hx);have HCo:=hd0 hCo;have HF:=hd0 hF;rw[hF]
  have i1:(m:Int) < (T.length:Int):=by omega
  have hE:=S.ext;have d0:=cell_ext hE c0;have d1:=cell_ext hE c1;have d2:=cell_ext hE c2;have d3:=cell_ext hE c3;have d4:=cell_ext hE c4;have d5:=cell_ext hE c5;have d6:=cell_ext hE c6;have Hrn:=hd0 hrn;have hNl:x.N.length≤1048576:=(HT.out x (List.mem_of_getElem? hx)).2.1;have HNl:=hd0 hNl;clear hx c0 c1 c2 c3 c4 c5 c6 hcn hck hrn hrk hE hF hTr hCo hNl;dsimp only
  cases hfo:x.fold with
  | true =>
   have HG:=hd0 (ga_kind (dir:=false) (want:=want) HF.out Hx.out (by simp[hfo]));have HX:=hd0 (HG.out);rw[hfo]at d0;clear hfo HG;go_wp2;go_ret2;exact⟨by rw[HX.out];rfl,S.ext⟩
  | false =>
   have Hfo:=hd0 hfo;obtain⟨⟨bc0,bf0⟩,⟨bc1,bf1⟩,⟨bc2,bf2⟩,⟨bc3,bf3⟩⟩:=bx4 (S.box 0 rfl)
   have HMy:Hid (∀s:ExtW w2,Calls Tryz.prog 128 #[.agg #[.bool false,.int .i64 x.own,.int .i64 x.grp,.int .i64 x.mode,.string x.text,.slice an x.N.length cn,.slice ak x.K.length ck],.agg #[.int .i64 cr,.int .i64 ca,.int .i64 cs,.int .i64 cg],.int .i64 want] s.x fun e w''=>e=.returned (.bool (Cr.may ⟨cr,ca,cs,cg⟩ x want))∧∃s':ExtW w2,w''=s'.x):=hd0 (fun s=>by
    have hC:=implAllows ⟨cr,ca,cs,cg⟩ want x T.length an ak cn ck s.x HN.out HCo.out hwant;rw[hfo]at hC
    exact Calls.at_e hC)
   rw[hfo]at d0;clear hfo
   go_wp2_with fail
   have q0:=ExtW.cell d0;have q1:=ExtW.cell d1;have q2:=ExtW.cell d2;have q3:=ExtW.cell d3;have q4:=ExtW.cell d4;have q5:=ExtW.cell d5;have q6:=ExtW.cell d6;have bl:=ExtW.lt d0;have r0:=ExtW.cell bc0;have r1:=ExtW.cell bc1;have r2:=ExtW.cell bc2;have r3:=ExtW.cell bc3;have br:=ExtW.lt bc0;have S9:=hd0 S;clear d0 d1 d2 d3 d4 d5 d6 bc0 bc1 bc2 bc3 bf0 bf1 bf2 bf3 S
   cases hmay:Cr.may ⟨cr,ca,cs,cg⟩ x want with
   | false =>
    have HG:=hd0 (ga_may (dir:=false) (want:=want) HF.out Hx.out Hfo.out hmay);have HX:=hd0 (HG.out);rw[hmay]at HMy;clear hmay HG
    (refine wp_region_quiet_ext (by kernel_rfl) (by kernel_rfl) ?_;(repeat (go_big_quiet_step ((go_at_call 128;exact HMy.out _))));refine wpQuiet_nil ?_;intro _ hw';obtain⟨sq,hw''⟩:=hw';subst hw'')
    obtain⟨w5,hw5⟩:=sq;have HS5:=hd0 (S9.out.step hw5);clear q0 q1 q2 q3 q4 q5 q6 bl r0 r1 r2 r3 br S9 HMy;go_wp2;go_ret2;exact⟨by rw[HX.out];rfl,HS5.out.ext⟩
   | true =>
    have HG:=hd0 (ga_ok (dir:=false) (want:=want) HF.out Hx.out Hfo.out hmay);rw[hmay]at HMy;clear hmay
    (refine wp_region_quiet_ext (by kernel_rfl) (by kernel_rfl) ?_;(repeat (go_big_quiet_step ((go_at_call 128;exact HMy.out _))));refine wpQuiet_nil ?_;intro _ hw';obtain⟨sq,hw''⟩:=hw';subst hw'')
    obtain⟨w5,hw5⟩:=sq;have p0:=q0 ⟨w5,hw5⟩;have p1:=q1 ⟨w5,hw5⟩;have p2:=q2 ⟨w5,hw5⟩;have p3:=q3 ⟨w5,hw5⟩;have p4:=q4 ⟨w5,hw5⟩;have p5:=q5 ⟨w5,hw5⟩;have p6:=q6 ⟨w5,hw5⟩;have HS5:=hd0 (S9.out.step hw5);clear q0 q1 q2 q3 q4 q5 q6 bl r0 r1 r2 r3 br S9 HMy;have HX:=HG;go_wp2;go_ret2;exact⟨by rw[HX.out];rfl,HS5.out.ext⟩
theorem implReadFile (a:Option Addr) (cap:Nat) (T:List Nd) (c:Cr) (s:ByteArray) (w:World) (hs:s.size≤1048576) (hl:T.length≤1048576) (hT:∀x∈T,SmN 1048576 x) (hc:RdN w a T) (hm:MaxG w) :
  Calls Tryz.prog 88 #[.slice a T.length cap,.agg #[.int .i64 c.r,.int .i64 c.a,.int .i64 c.s,.int .i64 c.g],.string s] w fun e w'=>e=.returned (.tuple #[.string (readFile T c s).1,.int .i64 (readFile T c s).2])∧Ext w w':=by
 obtain⟨cr,ca,cs,cg⟩:=c;have HT:=hd0 hT;have HM:=hd0 hm;clear hT hm;dsimp only
 go_enter Tryz.func88,Tryz.ntmps88
 have S:=Sep.start w;replace S:=S.alloc_at (n:=w.heap.size) (by simp) #[.int .i64 cr,.int .i64 ca,.int .i64 cs,.int .i64 cg] 29
 go_wp2_with fail
 generalize (w.alloc (.cells #[.int .i64 cr,.int .i64 ca,.int .i64 cs,.int .i64 cg] 29))=w1 at *;refine(implFileAt a cap T ⟨cr,ca,cs,cg⟩ s 4 w1 hs hl HT.out (hc.ext S.ext) (by omega) (HM.out.ext S.ext)).mono ?_;rintro e w2 ⟨rfl,hE⟩;replace S:=S.step hE;clear hE
 rcases gate_cases T ⟨cr,ca,cs,cg⟩ s false 4 with⟨n,x,hG,hx,_,_⟩|⟨f,hf,hG⟩
 rotate_left
 ·have HX:=hd0 (rf_bad hf hG);rw[hG]
  have tf:(f == 0)=false:=by simpa using hf
  clear hG hf;dsimp only;go_wp2;go_ret2;exact⟨by rw[HX.out];rfl,S.ext⟩
 ·have HX:=hd0 (rf_ok hG hx);obtain⟨x',b',off,an,cn,ak,ck,hx',rfl,_,_,_,_,c4,_⟩:=atNd hc (List.getElem?_eq_some_iff.1 hx).1;obtain rfl:x=x':=Option.some.inj (hx.symm.trans hx');have d4:=cell_ext S.ext c4
  have i1:(n:Int) < (T.length:Int):=by have:=(List.getElem?_eq_some_iff.1 hx).1;omega
  rw[hG];clear hG hx hx' c4;dsimp only;go_wp2;go_ret2;exact⟨by rw[HX.out];rfl,S.ext⟩
theorem implWriteFile (a:Option Addr) (cap:Nat) (T:List Nd) (c:Cr) (s:ByteArray) (t:ByteArray) (w:World) (hs:s.size≤1048576) (hl:T.length≤1048576) (hT:∀x∈T,SmN 1048576 x) (hc:RdN w a T) (hm:MaxG w) :
  Calls Tryz.prog 81 #[.slice a T.length cap,.agg #[.int .i64 c.r,.int .i64 c.a,.int .i64 c.s,.int .i64 c.g],.string s,.string t] w (RetMk (writeFile T c s t) w):=by
 obtain⟨cr,ca,cs,cg⟩:=c;have HT:=hd0 hT;have HM:=hd0 hm;clear hT hm;dsimp only
 go_enter Tryz.func81,Tryz.ntmps81
 have S:=Sep.start w;replace S:=S.alloc_at (n:=w.heap.size) (by simp) #[.int .i64 cr,.int .i64 ca,.int .i64 cs,.int .i64 cg] 29
 go_wp2_with fail
 generalize (w.alloc (.cells #[.int .i64 cr,.int .i64 ca,.int .i64 cs,.int .i64 cg] 29))=w1 at *;refine(implFileAt a cap T ⟨cr,ca,cs,cg⟩ s 2 w1 hs hl HT.out (hc.ext S.ext) (by omega) (HM.out.ext S.ext)).mono ?_;rintro e w2 ⟨rfl,hE⟩;replace S:=S.step hE;clear hE
 rcases gate_cases T ⟨cr,ca,cs,cg⟩ s false 2 with⟨n,x,hG,hx,_,_⟩|⟨f,hf,hG⟩
 rotate_left
 ·have HX:=hd0 (wf_bad (t:=t) hf hG);rw[hG]
  have tf:(f == 0)=false:=by simpa using hf
  clear hG hf;dsimp only;go_wp2;go_ret2;exact RetMk.nil S.ext HX.out
 ·have Hx:=hd0 hx
  have i1:(n:Int) < (T.length:Int):=by have:=(List.getElem?_eq_some_iff.1 hx).1;omega
  by_cases ht:40 < t.size
  ·have HX:=hd0 (wf_full hG ht)
   have ti:(40:Int) < (t.size:Int):=by omega
   rw[hG];clear ht hG hx;dsimp only;go_wp2;go_ret2;exact RetMk.nil S.ext HX.out
  ·have HX:=hd0 (wf_ok hG ht hx)
   have ti:¬(40:Int) < (t.size:Int):=by omega
   rw[hG];clear ht hG hx;dsimp only
   go_wp2_with fail
   have HS:=hd0 S;clear S;refine(implCopy a cap T w2 hl HT.out (hc.ext HS.out.ext)).mono ?_;rintro e w7 ⟨u,vs,rfl,S7⟩;have S8:=S7.since HS.out.ext;clear S7;obtain⟨xc,g,cap2,rfl,hcap2,hxc,hxn,hcell,hfz,_⟩:=S8.ndAt 0 rfl Hx.out;obtain⟨x',an',cn',ak',ck'⟩:=xc;dsimp only at hxn;subst hxn;have e4:=hcell 4 _ rfl;have SA:=S8.ndSet 0 rfl hxc Hx.out (x':=textNd x' t) 4 (.string t) (by decide) rfl rfl rfl;have SB:Sep w (w7.setCell ⟨g,n*7+4,none⟩ (.string t)) [plNd (.slice (some ⟨g,0,none⟩) T.length cap2) (vs.set n ⟨textNd x' t,an',cn',ak',ck'⟩) (T.set n (textNd x' t))]:=SA;have HSB:=hd0 SB;clear SA SB S8 hcell hxc hcap2;go_wp2;go_ret2;exact⟨_,_,by rw[HX.out];rfl,by rw[HX.out];exact HSB.out⟩
theorem implListNames (a:Option Addr) (cap:Nat) (T:List Nd) (c:Cr) (s:ByteArray) (w:World) (hs:s.size≤1048576) (hl:T.length≤1048576) (hT:∀x∈T,SmN 1048576 x) (hc:RdN w a T) (hm:MaxG w) :
  Calls Tryz.prog 89 #[.slice a T.length cap,.agg #[.int .i64 c.r,.int .i64 c.a,.int .i64 c.s,.int .i64 c.g],.string s] w (RetNs (listNames T c s) w):=by
 obtain⟨cr,ca,cs,cg⟩:=c;have HT:=hd0 hT;clear hT;have HM:=hd0 hm;clear hm;dsimp only
 go_enter Tryz.func89,Tryz.ntmps89
 have S:=Sep.start w;replace S:=S.alloc_at (n:=w.heap.size) (by simp) #[.int .i64 cr,.int .i64 ca,.int .i64 cs,.int .i64 cg] 29
 go_wp2_with fail
 generalize (w.alloc (.cells #[.int .i64 cr,.int .i64 ca,.int .i64 cs,.int .i64 cg] 29))=w1 at *;refine(implFindNode a cap T ⟨cr,ca,cs,cg⟩ s w1 hs hl HT.out (hc.ext S.ext) (HM.out.ext S.ext)).mono ?_;rintro e w2 ⟨rfl,hE⟩;replace S:=S.step hE;clear hE
 rcases find_cases T ⟨cr,ca,cs,cg⟩ s with⟨m,hF,hm_,hTr,hCo⟩|⟨f,hf,hF⟩
 rotate_left
 ·have HG:=hd0 (ga_fault (dir:=true) (want:=4) hf hF);have HX:=hd0 (li_bad hf HG.out);rw[hF]
  have tf:(f == 0)=false:=by simpa using hf
  clear hF hf HG;dsimp only;go_wp2;go_ret2;exact RetNs.nil S.ext HX.out
 ·obtain⟨x,b',off,an,cn,ak,ck,hx,rfl,c0,c1,c2,c3,c4,c5,c6,hcn,hck,hrn,hrk⟩:=atNd hc hm_;have Hx:=hd0 hx;have HN:=hd0 (hTr.nodes m x hx);have HCo:=hd0 hCo;have HF:=hd0 hF;rw[hF]
  have i1:(m:Int) < (T.length:Int):=by omega
  have hE:=S.ext;have d0:=cell_ext hE c0;have d1:=cell_ext hE c1;have d2:=cell_ext hE c2;have d3:=cell_ext hE c3;have d4:=cell_ext hE c4;have d5:=cell_ext hE c5;have d6:=cell_ext hE c6;have Hrn:=hd0 hrn;have hNl:x.N.length≤1048576:=(HT.out x (List.mem_of_getElem? hx)).2.1;have HNl:=hd0 hNl;clear hx c0 c1 c2 c3 c4 c5 c6 hcn hck hrn hrk hE hF hTr hCo hNl;dsimp only
  cases hfo:x.fold with
  | false =>
   have HG:=hd0 (ga_kind (dir:=true) (want:=4) HF.out Hx.out (by simp[hfo]));have HX:=hd0 (li_bad (by decide) HG.out);rw[hfo]at d0;clear hfo HG;go_wp2;go_ret2;exact RetNs.nil S.ext HX.out
  | true =>
   have Hfo:=hd0 hfo;obtain⟨⟨bc0,bf0⟩,⟨bc1,bf1⟩,⟨bc2,bf2⟩,⟨bc3,bf3⟩⟩:=bx4 (S.box 0 rfl)
   have HMy:Hid (∀s:ExtW w2,Calls Tryz.prog 128 #[.agg #[.bool true,.int .i64 x.own,.int .i64 x.grp,.int .i64 x.mode,.string x.text,.slice an x.N.length cn,.slice ak x.K.length ck],.agg #[.int .i64 cr,.int .i64 ca,.int .i64 cs,.int .i64 cg],.int .i64 4] s.x fun e w''=>e=.returned (.bool (Cr.may ⟨cr,ca,cs,cg⟩ x 4))∧∃s':ExtW w2,w''=s'.x):=hd0 (fun s=>by
    have hC:=implAllows ⟨cr,ca,cs,cg⟩ 4 x T.length an ak cn ck s.x HN.out HCo.out (by omega);rw[hfo]at hC
    exact Calls.at_e hC)
   rw[hfo]at d0;clear hfo
   go_wp2_with fail
   have q0:=ExtW.cell d0;have q1:=ExtW.cell d1;have q2:=ExtW.cell d2;have q3:=ExtW.cell d3;have q4:=ExtW.cell d4;have q5:=ExtW.cell d5;have q6:=ExtW.cell d6;have bl:=ExtW.lt d0;have r0:=ExtW.cell bc0;have r1:=ExtW.cell bc1;have r2:=ExtW.cell bc2;have r3:=ExtW.cell bc3;have br:=ExtW.lt bc0;have S9:=hd0 S;clear d0 d1 d2 d3 d4 d5 d6 bc0 bc1 bc2 bc3 bf0 bf1 bf2 bf3 S
   cases hmay:Cr.may ⟨cr,ca,cs,cg⟩ x 4 with
   | false =>
    have HG:=hd0 (ga_may (dir:=true) (want:=4) HF.out Hx.out Hfo.out hmay);have HX:=hd0 (li_bad (by decide) HG.out);rw[hmay]at HMy;clear hmay HG
    (refine wp_region_quiet_ext (by kernel_rfl) (by kernel_rfl) ?_;(repeat (go_big_quiet_step ((go_at_call 128;exact HMy.out _))));refine wpQuiet_nil ?_;intro _ hw';obtain⟨sq,hw''⟩:=hw';subst hw'')
    obtain⟨w5,hw5⟩:=sq;have HS5:=hd0 (S9.out.step hw5);clear q0 q1 q2 q3 q4 q5 q6 bl r0 r1 r2 r3 br S9 HMy;go_wp2;go_ret2;exact RetNs.nil HS5.out.ext HX.out
   | true =>
    have HG:=hd0 (ga_ok (dir:=true) (want:=4) HF.out Hx.out Hfo.out hmay);rw[hmay]at HMy;clear hmay
    (refine wp_region_quiet_ext (by kernel_rfl) (by kernel_rfl) ?_;(repeat (go_big_quiet_step ((go_at_call 128;exact HMy.out _))));refine wpQuiet_nil ?_;intro _ hw';obtain⟨sq,hw''⟩:=hw';subst hw'')
    obtain⟨w5,hw5⟩:=sq;have p0:=q0 ⟨w5,hw5⟩;have p1:=q1 ⟨w5,hw5⟩;have p2:=q2 ⟨w5,hw5⟩;have p3:=q3 ⟨w5,hw5⟩;have p4:=q4 ⟨w5,hw5⟩;have p5:=q5 ⟨w5,hw5⟩;have p6:=q6 ⟨w5,hw5⟩;have HS5:=hd0 (S9.out.step hw5);clear q0 q1 q2 q3 q4 q5 q6 bl r0 r1 r2 r3 br S9 HMy;have HX:=hd0 (li_ok HG.out Hx.out)
    go_wp2_with fail
    refine(cloneStr_any an cn x.N.length x.N w5 rfl HNl.out (Hrn.out.ext HS5.out.ext)).mono ?_;rintro e w6 ⟨v6,rfl,ho6,hE6⟩;have HSB:=hd0 (((Sep.start w).step HS5.out.ext).owned hE6 (Nat.le_refl _) ho6);clear ho6 hE6 p0 p1 p2 p3 p4 p5 p6;go_wp2;go_ret2;exact⟨_,by rw[HX.out];rfl,by rw[HX.out];exact HSB.out⟩
theorem implChangeMode (a:Option Addr) (cap:Nat) (T:List Nd) (c:Cr) (s:ByteArray) (md:Int) (w:World) (hs:s.size≤1048576) (hl:T.length≤1048576) (hT:∀x∈T,SmN 1048576 x) (hc:RdN w a T) (hm:MaxG w) :
  Calls Tryz.prog 83 #[.slice a T.length cap,.agg #[.int .i64 c.r,.int .i64 c.a,.int .i64 c.s,.int .i64 c.g],.string s,.int .i64 md] w (RetMk (changeMode T c s md) w):=by
 obtain⟨cr,ca,cs,cg⟩:=c;have HT:=hd0 hT;clear hT;have HM:=hd0 hm;clear hm;dsimp only
 go_enter Tryz.func83,Tryz.ntmps83
 have S:=Sep.start w;replace S:=S.alloc_at (n:=w.heap.size) (by simp) #[.int .i64 cr,.int .i64 ca,.int .i64 cs,.int .i64 cg] 29
 go_wp2_with fail
 generalize (w.alloc (.cells #[.int .i64 cr,.int .i64 ca,.int .i64 cs,.int .i64 cg] 29))=w1 at *;refine(implFindNode a cap T ⟨cr,ca,cs,cg⟩ s w1 hs hl HT.out (hc.ext S.ext) (HM.out.ext S.ext)).mono ?_;rintro e w2 ⟨rfl,hE⟩;replace S:=S.step hE;clear hE
 cases hMo:inB md 0 1023 with
 | false =>
  have HMo:=hd0 hMo;have HX:=hd0 (cm_mode (T:=T) (c:=⟨cr,ca,cs,cg⟩) (s:=s) hMo);clear hMo
  go_wp2_with (go_at_call 114;refine(isMode_is HMo.out _).mono ?_;rintro e w' ⟨rfl,rfl⟩)
  go_ret2;exact RetMk.nil S.ext HX.out
 | true =>
  have HMo:=hd0 hMo;clear hMo
  rcases find_cases T ⟨cr,ca,cs,cg⟩ s with⟨m,hF,hm_,hTr,hCo⟩|⟨f,hf,hF⟩
  rotate_left
  ·have HX:=hd0 (cm_fault HMo.out hf hF);rw[hF]
   have tf:(f == 0)=false:=by simpa using hf
   clear hF hf;dsimp only
   go_wp2_with (go_at_call 114;refine(isMode_is HMo.out _).mono ?_;rintro e w' ⟨rfl,rfl⟩)
   go_ret2;exact RetMk.nil S.ext HX.out
  ·obtain⟨x,b',off,an,cn,ak,ck,hx,rfl,_,c1,_⟩:=atNd hc hm_;have Hx:=hd0 hx;have HP:=hd0 (cm_at HMo.out hF hx);rw[hF]
   have i1:(m:Int) < (T.length:Int):=by omega
   have d1:=cell_ext S.ext c1;clear hx c1 hF hTr hCo;dsimp only;obtain⟨⟨bc0,bf0⟩,⟨bc1,bf1⟩,⟨bc2,bf2⟩,⟨bc3,bf3⟩⟩:=bx4 (S.box 0 rfl)
   go_wp2_with (first|(go_at_call 114;refine(isMode_is HMo.out _).mono ?_;rintro e w' ⟨rfl,rfl⟩)|fail)
   have q1:=ExtW.cell d1;have bl:=ExtW.lt d1;have r1:=ExtW.cell bc1;have br:=ExtW.lt bc1;have S9:=hd0 S;clear d1 bc0 bc1 bc2 bc3 bf0 bf1 bf2 bf3 S
   rcases(show ca=0∨(ca≠0∧ca=x.own)∨(ca≠0∧ca≠x.own)by omega)with hcase|hcase|hcase
   ·have HX:=hd0 (HP.out.trans (if_neg (fun h=>h.1 hcase)));have ta:ca=0:=hcase;clear hcase HP;subst ta
    (refine wp_region_quiet_ext (by kernel_rfl) (by kernel_rfl) ?_;(repeat (go_big_quiet_step ((fail))));refine wpQuiet_nil ?_;intro _ hw';obtain⟨sq,hw''⟩:=hw';subst hw'')
    obtain⟨w5,hw5⟩:=sq;have HS5:=hd0 (S9.out.step hw5);clear q1 bl r1 br S9
    go_wp2_with fail
    refine(implCopy (some ⟨b',off,none⟩) cap T w5 hl HT.out (hc.ext HS5.out.ext)).mono ?_;rintro e w7 ⟨u,vs,rfl,S7⟩;have S8:=S7.since HS5.out.ext;clear S7;obtain⟨xc,g,cap2,rfl,hcap2,hxc,hxn,hcell,hfz,_⟩:=S8.ndAt 0 rfl Hx.out;obtain⟨x',an',cn',ak',ck'⟩:=xc;dsimp only at hxn;subst hxn;have e3:=hcell 3 _ rfl;have SA:=S8.ndSet 0 rfl hxc Hx.out (x':=modeNd x' md) 3 (.int .i64 md) (by decide) rfl rfl rfl;have SB:Sep w (w7.setCell ⟨g,m*7+3,none⟩ (.int .i64 md)) [plNd (.slice (some ⟨g,0,none⟩) T.length cap2) (vs.set m ⟨modeNd x' md,an',cn',ak',ck'⟩) (T.set m (modeNd x' md))]:=SA;have HSB:=hd0 SB;clear SA SB S8 hcell hxc hcap2;go_wp2;go_ret2;exact⟨_,_,by rw[HX.out];rfl,by rw[HX.out];exact HSB.out⟩
   ·have HX:=hd0 (HP.out.trans (if_neg (fun h=>h.2 hcase.2)))
    have ta:(ca != 0)=true:=by simpa using hcase.1
    have to_:(ca != x.own)=false:=by simpa using hcase.2
    clear hcase HP
    (refine wp_region_quiet_ext (by kernel_rfl) (by kernel_rfl) ?_;(repeat (go_big_quiet_step ((fail))));refine wpQuiet_nil ?_;intro _ hw';obtain⟨sq,hw''⟩:=hw';subst hw'')
    obtain⟨w5,hw5⟩:=sq;have HS5:=hd0 (S9.out.step hw5);clear q1 bl r1 br S9
    go_wp2_with fail
    refine(implCopy (some ⟨b',off,none⟩) cap T w5 hl HT.out (hc.ext HS5.out.ext)).mono ?_;rintro e w7 ⟨u,vs,rfl,S7⟩;have S8:=S7.since HS5.out.ext;clear S7;obtain⟨xc,g,cap2,rfl,hcap2,hxc,hxn,hcell,hfz,_⟩:=S8.ndAt 0 rfl Hx.out;obtain⟨x',an',cn',ak',ck'⟩:=xc;dsimp only at hxn;subst hxn;have e3:=hcell 3 _ rfl;have SA:=S8.ndSet 0 rfl hxc Hx.out (x':=modeNd x' md) 3 (.int .i64 md) (by decide) rfl rfl rfl;have SB:Sep w (w7.setCell ⟨g,m*7+3,none⟩ (.int .i64 md)) [plNd (.slice (some ⟨g,0,none⟩) T.length cap2) (vs.set m ⟨modeNd x' md,an',cn',ak',ck'⟩) (T.set m (modeNd x' md))]:=SA;have HSB:=hd0 SB;clear SA SB S8 hcell hxc hcap2;go_wp2;go_ret2;exact⟨_,_,by rw[HX.out];rfl,by rw[HX.out];exact HSB.out⟩
   ·have HX:=hd0 (HP.out.trans (if_pos hcase))
    have ta:(ca != 0)=true:=by simpa using hcase.1
    have to_:(ca != x.own)=true:=by simpa using hcase.2
    clear hcase HP
    (refine wp_region_quiet_ext (by kernel_rfl) (by kernel_rfl) ?_;(repeat (go_big_quiet_step ((fail))));refine wpQuiet_nil ?_;intro _ hw';obtain⟨sq,hw''⟩:=hw';subst hw'')
    obtain⟨w5,hw5⟩:=sq;have HS5:=hd0 (S9.out.step hw5);clear q1 bl r1 br S9;go_wp2;go_ret2;exact RetMk.nil HS5.out.ext HX.out
end Go.Proofs.YtnibbldfohbfkaaGreatDoor
