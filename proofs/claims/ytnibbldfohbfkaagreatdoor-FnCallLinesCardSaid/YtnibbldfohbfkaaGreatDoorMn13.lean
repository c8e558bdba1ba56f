/- Parts of one proof: what each theorem proves, and its conditions, stand in its own statement. -/
import Derived.Test.YtnibbldfohbfkaaGreatDoorMn12
set_option linter.all false
set_option maxRecDepth 100000
set_option maxHeartbeats 32000000
namespace Go.Proofs.YtnibbldfohbfkaaGreatDoor
open Go.RowKit
theorem era_push {α:Type} {l:List α} {p k:Nat} {y:α} (hy:l[k]?=some y) (h:k≠p):(l.take k).eraseIdx p++[y]=(l.take (k+1)).eraseIdx p:=by
 have hk:=(List.getElem?_eq_some_iff.1 hy).1
 have hl:(l.take k).length=k:=by rw[List.length_take];omega
 have e:l.take (k+1)=l.take k++[y]:=by rw[List.take_add_one,hy];rfl
 by_cases h1:p < k
 ·rw[e,List.eraseIdx_append_of_lt_length (by omega)]
 ·rw[List.eraseIdx_of_length_le (by omega),List.eraseIdx_of_length_le (by rw[List.length_take];omega),e]
theorem era_skipT {α:Type} {l:List α} {k:Nat} {y:α} (hy:l[k]?=some y):(l.take k).eraseIdx k=(l.take (k+1)).eraseIdx k:=by
 have hk:=(List.getElem?_eq_some_iff.1 hy).1
 have hl:(l.take k).length=k:=by rw[List.length_take];omega
 have e:l.take (k+1)=l.take k++[y]:=by rw[List.take_add_one,hy];rfl
 rw[List.eraseIdx_of_length_le (by omega),e,List.eraseIdx_append_of_length_le (by omega),hl,Nat.sub_self];simp
theorem era_lenT {α:Type} {l:List α} {p k:Nat}:((l.take k).eraseIdx p).length≤l.length:=Nat.le_trans (List.eraseIdx_sublist ..).length_le (by rw[List.length_take];omega)
def VTkN (w:World) (B5 B2:Nat) (u:Value) (b1 off nn cn k:Nat) (y:ByteArray) (L:List ByteArray) (RL:List Pl) (base:Nat):Nat→Value→World→Prop:=fun i v wv=>match i with
 | 0=>v=.pointer (some ⟨B5,5,none⟩)
 | 1=>v=u
 | 2=>v=.pointer (some ⟨B2,5,none⟩)
 | 3=>v=.slice (some ⟨b1,off,none⟩) nn cn
 | 4=>v=.int .i64 k
 | 5=>v=.pointer (some ⟨b1,off+k,none⟩)
 | 6=>v=.string y
 | 7=>∃g,v=.slice (some ⟨g,0,none⟩) 1 1∧base≤g∧wv.heap[g]?=some (.cells #[.string y] 9)
 | 8=>Sep w wv (plRow 9 1 encStr1 v (L++[y]) :: RL)
 | 9=>v=.pointer (some ⟨B5,5,none⟩)
 | 10=>Sep w wv (plRow 9 1 encStr1 u L :: RL)
 | _=>True
theorem VTkN.ext {w:World} {B5 B2:Nat} {u:Value} {b1 off nn cn k:Nat} {y:ByteArray} {L:List ByteArray} {RL:List Pl} {base:Nat} (i:Nat) (v:Value) (w1 w2:World) (h:VTkN w B5 B2 u b1 off nn cn k y L RL base i v w1) (hE:Ext w1 w2):VTkN w B5 B2 u b1 off nn cn k y L RL base i v w2:=by
 match i with
 | 0|1|2|3|4|5|6|9=>exact h
 | 7=>obtain⟨g,h1,h2,h3⟩:=h;exact⟨g,h1,h2,heapx hE h3⟩
 | 8=>exact SepM.step (show Sep w w1 _ from h) hE
 | 10=>exact SepM.step (show Sep w w1 _ from h) hE
 | (n+11)=>trivial
def VTkK (w:World) (B5 B2:Nat) (u:Value) (b1 off nn cn k:Nat) (y:Int) (L:List Int) (RL:List Pl) (base:Nat):Nat→Value→World→Prop:=fun i v wv=>match i with
 | 0=>v=.pointer (some ⟨B5,6,none⟩)
 | 1=>v=u
 | 2=>v=.pointer (some ⟨B2,6,none⟩)
 | 3=>v=.slice (some ⟨b1,off,none⟩) nn cn
 | 4=>v=.int .i64 k
 | 5=>v=.pointer (some ⟨b1,off+k,none⟩)
 | 6=>v=.int .i64 y
 | 7=>∃g,v=.slice (some ⟨g,0,none⟩) 1 1∧base≤g∧wv.heap[g]?=some (.cells #[.int .i64 y] 3)
 | 8=>Sep w wv (plRow 3 1 encInt1 v (L++[y]) :: RL)
 | 9=>v=.pointer (some ⟨B5,6,none⟩)
 | 10=>Sep w wv (plRow 3 1 encInt1 u L :: RL)
 | _=>True
theorem VTkK.ext {w:World} {B5 B2:Nat} {u:Value} {b1 off nn cn k:Nat} {y:Int} {L:List Int} {RL:List Pl} {base:Nat} (i:Nat) (v:Value) (w1 w2:World) (h:VTkK w B5 B2 u b1 off nn cn k y L RL base i v w1) (hE:Ext w1 w2):VTkK w B5 B2 u b1 off nn cn k y L RL base i v w2:=by
 match i with
 | 0|1|2|3|4|5|6|9=>exact h
 | 7=>obtain⟨g,h1,h2,h3⟩:=h;exact⟨g,h1,h2,heapx hE h3⟩
 | 8=>exact SepM.step (show Sep w w1 _ from h) hE
 | 10=>exact SepM.step (show Sep w w1 _ from h) hE
 | (n+11)=>trivial
theorem specTake (x:Nd) (an ak:Option Addr) (cn ck:Nat) (s:ByteArray) (w:World) (hA:Asc x.N) (hp:x.N[posOf x.N s]?=some s) (hN:x.N.length≤1048576) (hlen:x.N.length=x.K.length) (hn:Rd 1 encStr1 w an x.N) (hk:Rd 1 encInt1 w ak x.K) :
  Calls Tryz.prog 72 #[ndV x an cn ak ck,.string s] w (RetNd (takeNd x s) w):=by
 obtain⟨f,o,g,m,t,N,K⟩:=x;dsimp only at hA hp hN hlen hn hk ⊢;have HTk:Hid (takeNd ⟨f,o,g,m,t,N,K⟩ s=⟨f,o,g,m,t,N.eraseIdx (posOf N s),K.eraseIdx (posOf N s)⟩):=hd0 rfl;have HA:=hd0 hA;have HP:=hd0 hp;have Hlen:=hd0 hlen;have Hn:=hd0 hn;have Hk:=hd0 hk;obtain⟨p,hpp⟩:∃p,p=posOf N s:=⟨_,rfl⟩;rw[←hpp]at HP HTk;clear hA hp hlen hpp
 go_enter Tryz.func72,Tryz.ntmps72
 have S:=Sep.start w;replace S:=S.alloc_at (n:=w.heap.size) (by simp) #[.bool f,.int .i64 o,.int .i64 g,.int .i64 m,.string t,.slice an N.length cn,.slice ak K.length ck] 89;replace S:=S.alloc_at (n:=(w.heap.size+1)) (by simp) #[.bool false,.int .i64 0,.int .i64 0,.int .i64 0,.string ⟨#[]⟩,.slice none 0 0,.slice none 0 0] 89;replace S:=S.alloc_at (n:=(w.heap.size+2)) (by simp) #[.bool f,.int .i64 o,.int .i64 g,.int .i64 m,.string t,.slice an N.length cn,.slice ak K.length ck] 89
 go_upto_region 2 with fail
 generalize (((w.alloc (.cells #[.bool f,.int .i64 o,.int .i64 g,.int .i64 m,.string t,.slice an N.length cn,.slice ak K.length ck] 89)).alloc (.cells #[.bool false,.int .i64 0,.int .i64 0,.int .i64 0,.string ⟨#[]⟩,.slice none 0 0,.slice none 0 0] 89)).alloc (.cells #[.bool f,.int .i64 o,.int .i64 g,.int .i64 m,.string t,.slice an N.length cn,.slice ak K.length ck] 89))=w1 at *;generalize w.heap.size+2=B5 at *;generalize w.heap.size+1=B4 at *;generalize w.heap.size=B2 at *;replace S:Sep w (w1.alloc (.cells #[] 9)) [plRow 9 1 encStr1 (.slice (some ⟨w1.heap.size,0,none⟩) 0 0) [],plBox B5 #[.bool f,.int .i64 o,.int .i64 g,.int .i64 m,.string t,.slice an N.length cn,.slice ak K.length ck] 89,plBox B4 #[.bool false,.int .i64 0,.int .i64 0,.int .i64 0,.string ⟨#[]⟩,.slice none 0 0,.slice none 0 0] 89,plBox B2 #[.bool f,.int .i64 o,.int .i64 g,.int .i64 m,.string t,.slice an N.length cn,.slice ak K.length ck] 89]:=S.lit0 (by simp) _ _ _;obtain⟨⟨b5c0,b5f0⟩,⟨b5c1,b5f1⟩,⟨b5c2,b5f2⟩,⟨b5c3,b5f3⟩,⟨b5c4,b5f4⟩,⟨b5c5,b5f5⟩,⟨b5c6,b5f6⟩⟩:=bx7 (S.box 1 rfl)
 go_upto_region 3 with fail
 clear b5c0 b5f0 b5c1 b5f1 b5c2 b5f2 b5c3 b5f3 b5c4 b5f4 b5c5 b5f5 b5c6 b5f6;replace S:Sep w ((w1.alloc (.cells #[] 9)).setCell ⟨B5,5,none⟩ (.slice (some ⟨w1.heap.size,0,none⟩) 0 0)) [plRow 9 1 encStr1 (.slice (some ⟨w1.heap.size,0,none⟩) 0 0) [],plBox B5 #[.bool f,.int .i64 o,.int .i64 g,.int .i64 m,.string t,.slice (some ⟨w1.heap.size,0,none⟩) 0 0,.slice ak K.length ck] 89,plBox B4 #[.bool false,.int .i64 0,.int .i64 0,.int .i64 0,.string ⟨#[]⟩,.slice none 0 0,.slice none 0 0] 89,plBox B2 #[.bool f,.int .i64 o,.int .i64 g,.int .i64 m,.string t,.slice an N.length cn,.slice ak K.length ck] 89]:=S.set 1 rfl 5 _;obtain⟨w2,hw2⟩:∃w2,w2=((w1.alloc (.cells #[] 9)).setCell ⟨B5,5,none⟩ (.slice (some ⟨w1.heap.size,0,none⟩) 0 0)):=⟨_,rfl⟩;rw[←hw2]at S ⊢;clear hw2;generalize w1.heap.size=gN at *;have S:Sep w w2 [plRow 9 1 encStr1 (.slice (some ⟨gN,0,none⟩) 0 0) [],plBox B5 #[.bool f,.int .i64 o,.int .i64 g,.int .i64 m,.string t,.slice (some ⟨gN,0,none⟩) 0 0,.slice ak K.length ck] 89,plBox B4 #[.bool false,.int .i64 0,.int .i64 0,.int .i64 0,.string ⟨#[]⟩,.slice none 0 0,.slice none 0 0] 89,plBox B2 #[.bool f,.int .i64 o,.int .i64 g,.int .i64 m,.string t,.slice an N.length cn,.slice ak K.length ck] 89]:=S;replace S:Sep w (w2.alloc (.cells #[] 3)) [plRow 3 1 encInt1 (.slice (some ⟨w2.heap.size,0,none⟩) 0 0) [],plRow 9 1 encStr1 (.slice (some ⟨gN,0,none⟩) 0 0) [],plBox B5 #[.bool f,.int .i64 o,.int .i64 g,.int .i64 m,.string t,.slice (some ⟨gN,0,none⟩) 0 0,.slice ak K.length ck] 89,plBox B4 #[.bool false,.int .i64 0,.int .i64 0,.int .i64 0,.string ⟨#[]⟩,.slice none 0 0,.slice none 0 0] 89,plBox B2 #[.bool f,.int .i64 o,.int .i64 g,.int .i64 m,.string t,.slice an N.length cn,.slice ak K.length ck] 89]:=S.lit0 (by simp) _ _ _;obtain⟨⟨b5c0,b5f0⟩,⟨b5c1,b5f1⟩,⟨b5c2,b5f2⟩,⟨b5c3,b5f3⟩,⟨b5c4,b5f4⟩,⟨b5c5,b5f5⟩,⟨b5c6,b5f6⟩⟩:=bx7 (S.box 2 rfl)
 go_upto_region 4 with fail
 clear b5c0 b5f0 b5c1 b5f1 b5c2 b5f2 b5c3 b5f3 b5c4 b5f4 b5c5 b5f5 b5c6 b5f6;replace S:Sep w ((w2.alloc (.cells #[] 3)).setCell ⟨B5,6,none⟩ (.slice (some ⟨w2.heap.size,0,none⟩) 0 0)) [plRow 3 1 encInt1 (.slice (some ⟨w2.heap.size,0,none⟩) 0 0) [],plRow 9 1 encStr1 (.slice (some ⟨gN,0,none⟩) 0 0) [],plBox B5 #[.bool f,.int .i64 o,.int .i64 g,.int .i64 m,.string t,.slice (some ⟨gN,0,none⟩) 0 0,.slice (some ⟨w2.heap.size,0,none⟩) 0 0] 89,plBox B4 #[.bool false,.int .i64 0,.int .i64 0,.int .i64 0,.string ⟨#[]⟩,.slice none 0 0,.slice none 0 0] 89,plBox B2 #[.bool f,.int .i64 o,.int .i64 g,.int .i64 m,.string t,.slice an N.length cn,.slice ak K.length ck] 89]:=S.set 2 rfl 6 _;generalize ((w2.alloc (.cells #[] 3)).setCell ⟨B5,6,none⟩ (.slice (some ⟨w2.heap.size,0,none⟩) 0 0))=w3 at *;generalize w2.heap.size=gK at *;go_wp2
 go_loopw [6] (fun i wr=>∃(k:Nat) (uN uK:Value) (LN:List ByteArray) (LK:List Int),k≤N.length∧i=.int .i64 k∧LN=(N.take k).eraseIdx p∧LK=(K.take k).eraseIdx p∧Sep w wr [plRow 3 1 encInt1 uK LK,plRow 9 1 encStr1 uN LN,plBox B5 #[.bool f,.int .i64 o,.int .i64 g,.int .i64 m,.string t,uN,uK] 89,plBox B4 #[.bool false,.int .i64 0,.int .i64 0,.int .i64 0,.string ⟨#[]⟩,.slice none 0 0,.slice none 0 0] 89,plBox B2 #[.bool f,.int .i64 o,.int .i64 g,.int .i64 m,.string t,.slice an N.length cn,.slice ak K.length ck] 89]) (fun i _=>N.length - (intOf i).toNat)
 case atStart=>exact⟨0,_,_,[],[],Nat.zero_le _,rfl,by simp,by simp,S⟩
 case round =>
  clear S;obtain⟨k,uN,uK,LN,LK,hkl,rfl,hLN,hLK,S⟩:=hrel;have HLN:=hd0 hLN;have HLK:=hd0 hLK;clear hLN hLK
  by_cases hlt:k < N.length
  rotate_left
  ·obtain rfl:k=N.length:=by omega
   have hni:¬(N.length:Int) < (N.length:Int):=by omega
   have eN:LN=N.eraseIdx p:=by rw[HLN.out,List.take_length]
   have eK:LK=K.eraseIdx p:=by rw[HLK.out,Hlen.out,List.take_length]
   have rowN:=S.row 1 rfl;have rowK:=S.row 0 rfl;obtain⟨aN,cN,rfl,_,_,_⟩:=view_owns encStr1_len rowN;obtain⟨aK,cK,rfl,_,_,_⟩:=view_owns encInt1_len rowK;have SR:Sep w wr [plRow 3 1 encInt1 (.slice aK LK.length cK) LK,plRow 9 1 encStr1 (.slice aN LN.length cN) LN,plBox B5 #[.bool f,.int .i64 o,.int .i64 g,.int .i64 m,.string t,.slice aN LN.length cN,.slice aK LK.length cK] 89,plBox B4 #[.bool false,.int .i64 0,.int .i64 0,.int .i64 0,.string ⟨#[]⟩,.slice none 0 0,.slice none 0 0] 89,plBox B2 #[.bool f,.int .i64 o,.int .i64 g,.int .i64 m,.string t,.slice an N.length cn,.slice ak K.length ck] 89]:=S;have HeN:=hd0 eN;have HeK:=hd0 eK;clear rowN rowK eN eK;have S:=SR;clear SR;obtain⟨⟨b5c0,b5f0⟩,⟨b5c1,b5f1⟩,⟨b5c2,b5f2⟩,⟨b5c3,b5f3⟩,⟨b5c4,b5f4⟩,⟨b5c5,b5f5⟩,⟨b5c6,b5f6⟩⟩:=bx7 (S.box 2 rfl);obtain⟨⟨b4c0,b4f0⟩,⟨b4c1,b4f1⟩,⟨b4c2,b4f2⟩,⟨b4c3,b4f3⟩,⟨b4c4,b4f4⟩,⟨b4c5,b4f5⟩,⟨b4c6,b4f6⟩⟩:=bx7 (S.box 3 rfl);obtain⟨⟨b2c0,b2f0⟩,⟨b2c1,b2f1⟩,⟨b2c2,b2f2⟩,⟨b2c3,b2f3⟩,⟨b2c4,b2f4⟩,⟨b2c5,b2f5⟩,⟨b2c6,b2f6⟩⟩:=bx7 (S.box 4 rfl);go_wp2;clear b5c0 b5f0 b5c1 b5f1 b5c2 b5f2 b5c3 b5f3 b5c4 b5f4 b5c5 b5f5 b5c6 b5f6 b4c0 b4f0 b4c1 b4f1 b4c2 b4f2 b4c3 b4f3 b4c4 b4f4 b4c5 b4f5 b4c6 b4f6 b2c0 b2f0 b2c1 b2f1 b2c2 b2f2 b2c3 b2f3 b2c4 b2f4 b2c5 b2f5 b2c6 b2f6;replace S:Sep w (((((((wr.setCell ⟨B4,0,none⟩ (.bool f)).setCell ⟨B4,1,none⟩ (.int .i64 o)).setCell ⟨B4,2,none⟩ (.int .i64 g)).setCell ⟨B4,3,none⟩ (.int .i64 m)).setCell ⟨B4,4,none⟩ (.string t)).setCell ⟨B4,5,none⟩ (.slice aN LN.length cN)).setCell ⟨B4,6,none⟩ (.slice aK LK.length cK)) [plRow 3 1 encInt1 (.slice aK LK.length cK) LK,plRow 9 1 encStr1 (.slice aN LN.length cN) LN,plBox B5 #[.bool f,.int .i64 o,.int .i64 g,.int .i64 m,.string t,.slice aN LN.length cN,.slice aK LK.length cK] 89,plBox B4 #[.bool f,.int .i64 o,.int .i64 g,.int .i64 m,.string t,.slice aN LN.length cN,.slice aK LK.length cK] 89,plBox B2 #[.bool f,.int .i64 o,.int .i64 g,.int .i64 m,.string t,.slice an N.length cn,.slice ak K.length ck] 89]:=((((((S.set 3 rfl 0 _).set 3 rfl 1 _).set 3 rfl 2 _).set 3 rfl 3 _).set 3 rfl 4 _).set 3 rfl 5 _).set 3 rfl 6 _;generalize (((((((wr.setCell ⟨B4,0,none⟩ (.bool f)).setCell ⟨B4,1,none⟩ (.int .i64 o)).setCell ⟨B4,2,none⟩ (.int .i64 g)).setCell ⟨B4,3,none⟩ (.int .i64 m)).setCell ⟨B4,4,none⟩ (.string t)).setCell ⟨B4,5,none⟩ (.slice aN LN.length cN)).setCell ⟨B4,6,none⟩ (.slice aK LK.length cK))=wD at *;obtain⟨⟨b4c0,b4f0⟩,⟨b4c1,b4f1⟩,⟨b4c2,b4f2⟩,⟨b4c3,b4f3⟩,⟨b4c4,b4f4⟩,⟨b4c5,b4f5⟩,⟨b4c6,b4f6⟩⟩:=bx7 (S.box 3 rfl);refine bodyPost_ret (v:=ndV ⟨f,o,g,m,t,LN,LK⟩ aN cN aK cK) (by simp[results,Tryz.results72,go_sem,b4c0,b4c1,b4c2,b4c3,b4c4,b4c5,b4c6]) rfl ?_;rw[HTk.out,←HeN.out,←HeK.out]
   replace S:Sep w wD [plRow 3 1 encInt1 (.slice aK LK.length cK) LK,plRow 9 1 encStr1 (.slice aN LN.length cN) LN]:=((S.drop 2).drop 2).drop 2;exact⟨aN,cN,aK,cK,rfl,S⟩
  ·have hltk:k < K.length:=by have:=Hlen.out;omega
   obtain⟨y,b1,off,hy,rfl,c0⟩:=atStr hn hlt;have d0:=cell_ext S.ext c0;have Hy:=hd0 hy
   have i0:(k:Int) < (N.length:Int):=by omega
   clear hy;obtain⟨⟨b5c0,b5f0⟩,⟨b5c1,b5f1⟩,⟨b5c2,b5f2⟩,⟨b5c3,b5f3⟩,⟨b5c4,b5f4⟩,⟨b5c5,b5f5⟩,⟨b5c6,b5f6⟩⟩:=bx7 (S.box 2 rfl);obtain⟨⟨b4c0,b4f0⟩,⟨b4c1,b4f1⟩,⟨b4c2,b4f2⟩,⟨b4c3,b4f3⟩,⟨b4c4,b4f4⟩,⟨b4c5,b4f5⟩,⟨b4c6,b4f6⟩⟩:=bx7 (S.box 3 rfl);obtain⟨⟨b2c0,b2f0⟩,⟨b2c1,b2f1⟩,⟨b2c2,b2f2⟩,⟨b2c3,b2f3⟩,⟨b2c4,b2f4⟩,⟨b2c5,b2f5⟩,⟨b2c6,b2f6⟩⟩:=bx7 (S.box 4 rfl)
   by_cases hkp:k=p
   ·subst hkp;obtain rfl:y=s:=Option.some.inj (Hy.out.symm.trans HP.out);have hltk2:=hltk;obtain⟨yk,hyk⟩:∃yk,K[k]?=some yk:=⟨_,List.getElem?_eq_getElem hltk⟩;have HNn:Hid (LN=(N.take (k+1)).eraseIdx k):=hd0 (HLN.out.trans (era_skipT Hy.out));have HNk:Hid (LK=(K.take (k+1)).eraseIdx k):=hd0 (HLK.out.trans (era_skipT hyk));clear hyk;go_wp2;clear b5c0 b5f0 b5c1 b5f1 b5c2 b5f2 b5c3 b5f3 b5c4 b5f4 b5c5 b5f5 b5c6 b5f6 b4c0 b4f0 b4c1 b4f1 b4c2 b4f2 b4c3 b4f3 b4c4 b4f4 b4c5 b4f5 b4c6 b4f6 b2c0 b2f0 b2c1 b2f1 b2c2 b2f2 b2c3 b2f3 b2c4 b2f4 b2c5 b2f5 b2c6 b2f6;go_roundw
    case rel=>exact⟨k+1,uN,uK,LN,LK,by omega,by go_num,HNn.out,HNk.out,S⟩
    case measure=>simp[intOf];omega
   ·have hys:y≠s:=fun e=>hkp (asc_ne HA.out (by rw[←e];exact Hy.out) HP.out)
    have tys:(y.toList == s.toList)=false:=by simpa [bytes_eq]using hys
    have HNn:Hid (LN++[y]=(N.take (k+1)).eraseIdx p):=hd0 (by rw[HLN.out];exact era_push Hy.out hkp)
    have hLl:LN.length≤1048576:=by rw[HLN.out];exact Nat.le_trans era_lenT hN
    have hLl2:LK.length≤1048576:=by rw[HLK.out];exact Nat.le_trans era_lenT (by have:=Hlen.out;omega)
    clear hys
    go_upto_region 8 with fail
    clear d0;clear b5c0 b5f0 b5c1 b5f1 b5c2 b5f2 b5c3 b5f3 b5c4 b5f4 b5c5 b5f5 b5c6 b5f6 b4c0 b4f0 b4c1 b4f1 b4c2 b4f2 b4c3 b4f3 b4c4 b4f4 b4c5 b4f5 b4c6 b4f6 b2c0 b2f0 b2c1 b2f1 b2c2 b2f2 b2c3 b2f3 b2c4 b2f4 b2c5 b2f5 b2c6 b2f6;have hy0:=c0;replace S:Sep w wr [plRow 9 1 encStr1 uN LN,plRow 3 1 encInt1 uK LK,plBox B5 #[.bool f,.int .i64 o,.int .i64 g,.int .i64 m,.string t,uN,uK] 89,plBox B4 #[.bool false,.int .i64 0,.int .i64 0,.int .i64 0,.string ⟨#[]⟩,.slice none 0 0,.slice none 0 0] 89,plBox B2 #[.bool f,.int .i64 o,.int .i64 g,.int .i64 m,.string t,.slice (some ⟨b1,off,none⟩) N.length cn,.slice ak K.length ck] 89]:=S.perm (List.Perm.swap ..);obtain⟨RLx,hRLx⟩:∃RLx,RLx=[plRow 3 1 encInt1 uK LK,plBox B5 #[.bool f,.int .i64 o,.int .i64 g,.int .i64 m,.string t,uN,uK] 89,plBox B4 #[.bool false,.int .i64 0,.int .i64 0,.int .i64 0,.string ⟨#[]⟩,.slice none 0 0,.slice none 0 0] 89,plBox B2 #[.bool f,.int .i64 o,.int .i64 g,.int .i64 m,.string t,.slice (some ⟨b1,off,none⟩) N.length cn,.slice ak K.length ck] 89]:=⟨_,rfl⟩;have Sd:Sep w (World.drew wr) (plRow 9 1 encStr1 uN LN :: [plRow 3 1 encInt1 uK LK,plBox B5 #[.bool f,.int .i64 o,.int .i64 g,.int .i64 m,.string t,uN,uK] 89,plBox B4 #[.bool false,.int .i64 0,.int .i64 0,.int .i64 0,.string ⟨#[]⟩,.slice none 0 0,.slice none 0 0] 89,plBox B2 #[.bool f,.int .i64 o,.int .i64 g,.int .i64 m,.string t,.slice (some ⟨b1,off,none⟩) N.length cn,.slice ak K.length ck] 89]):=S.drew
    have hI0:∀wv,(Chg (fun b=>(uN:Value).ownBlock=some b) (World.drew wr)) wv→Ext w wv:=fun wv hI=>Chg.ext (S.ext.drew) hI (fun b hb=>(S.lt (List.mem_cons_self ..) (show(plRow 9 1 encStr1 uN LN).own b from hb)).1)
    have hb5:∀wv,(Chg (fun b=>(uN:Value).ownBlock=some b) (World.drew wr)) wv→wv.cell? ⟨B5,5,none⟩=some uN:=fun wv hI=>cell_chg (bx (Sd.box 2 rfl) 5 rfl).1 hI (fun hb=>Sd.ne (i:=0) (j:=2) rfl rfl (by decide) (show(plRow 9 1 encStr1 uN LN).own B5 from hb) rfl)
    have hb2:∀wv,(Chg (fun b=>(uN:Value).ownBlock=some b) (World.drew wr)) wv→wv.cell? ⟨B2,5,none⟩=some (.slice (some ⟨b1,off,none⟩) N.length cn):=fun wv hI=>cell_chg (bx (Sd.box 4 rfl) 5 rfl).1 hI (fun hb=>Sd.ne (i:=0) (j:=4) rfl rfl (by decide) (show(plRow 9 1 encStr1 uN LN).own B2 from hb) rfl)
    have hel:∀wv,(Chg (fun b=>(uN:Value).ownBlock=some b) (World.drew wr)) wv→wv.cell? ⟨b1,off+k,none⟩=some (.string y):=fun wv hI=>cell_ext (hI0 wv hI) hy0
    rw[←hRLx]at Sd;have HRL:=hd0 hRLx;clear S hRLx;refine wp_region_t (V:=VTkN w B5 B2 uN b1 off N.length cn k y LN RLx wr.heap.size) (Chg (fun b=>(uN:Value).ownBlock=some b) (World.drew wr)) (fun i=>if i=7 then some 8 else if i=10 then some 8 else none) [] 10 1 rfl (by decide) (by kernel_rfl) (by kernel_rfl) (by kernel_rfl) (by kernel_rfl) (Chg.refl _ _) (fun r hr=>match r,hr with|0,_=>Sd) ?_ ?_
    ·intro i o hi ho vz w4 hvl hE hd hrest;have hsz:wr.heap.size≤w4.heap.size:=hE.size;have hE4:=hI0 w4 hE
     match vz,hvl with
     | [y0,y1,y2,y3,y4,y5,y6,y7,y8,y9],_ =>
     rcases lc10 hi with rfl|rfl|rfl|rfl|rfl|rfl|rfl|rfl|rfl|rfl
     all_goals
      obtain rfl:=Option.some.inj ho
     ·clear hd hrest;simp[putAll,Act.put];go_wp2;exact OneC.mk (VTkN.ext) rfl rfl hE (Ext.refl _)
     ·have q0:y0=.pointer (some ⟨B5,5,none⟩):=hd ⟨0,.data⟩ (by simp) rfl (by decide);have c0:=hb5 w4 hE;subst q0;clear hd hrest;simp[putAll,Act.put];go_wp2;exact OneC.mk (VTkN.ext) rfl rfl hE (Ext.refl _)
     ·clear hd hrest;simp[putAll,Act.put];go_wp2;exact OneC.mk (VTkN.ext) rfl rfl hE (Ext.refl _)
     ·have q2:y2=.pointer (some ⟨B2,5,none⟩):=hd ⟨2,.data⟩ (by simp) rfl (by decide);have c0:=hb2 w4 hE;subst q2;clear hd hrest;simp[putAll,Act.put];go_wp2;exact OneC.mk (VTkN.ext) rfl rfl hE (Ext.refl _)
     ·clear hd hrest;simp[putAll,Act.put];go_wp2;exact OneC.mk (VTkN.ext) rfl rfl hE (Ext.refl _)
     ·have q3:y3=.slice (some ⟨b1,off,none⟩) N.length cn:=hd ⟨3,.data⟩ (by simp) rfl (by decide);have q4:y4=.int .i64 k:=hd ⟨4,.data⟩ (by simp) rfl (by decide);subst q3 q4;clear hd hrest;simp[putAll,Act.put];go_wp2;exact OneC.mk (VTkN.ext) rfl rfl hE (Ext.refl _)
     ·have q5:y5=.pointer (some ⟨b1,off+k,none⟩):=hd ⟨5,.data⟩ (by simp) rfl (by decide);have c0:=hel w4 hE;subst q5;clear hd hrest;simp[putAll,Act.put];go_wp2;exact OneC.mk (VTkN.ext) rfl rfl hE (Ext.refl _)
     ·have q6:y6=.string y:=hd ⟨6,.data⟩ (by simp) rfl (by decide);subst q6;clear hd hrest;simp[putAll,Act.put];go_wp2;exact OneC.mk (VTkN.ext) rfl ⟨_,rfl,hsz,heap_alloc_new w4 _⟩ (hE.trans (Chg.of_ext ((Ext.refl w4).alloc _))) ((Ext.refl _).alloc _)
     ·have q1:y1=uN:=hd ⟨1,.data⟩ (by simp) rfl (by decide);obtain⟨g7,q7,hb7,hg7⟩:∃g,y7=.slice (some ⟨g,0,none⟩) 1 1∧wr.heap.size≤g∧w4.heap[g]?=some (.cells #[.string y] 9):=hd ⟨7,.data⟩ (by simp) rfl (by decide);have S4:Sep w w4 (plRow 9 1 encStr1 uN LN :: RLx):=hrest 0 (by omega) (.inr rfl);have hrow:=S4.row 0 rfl;have hrd1:Rd 1 encStr1 w4 (some ⟨g7,0,none⟩) [y]:=rd_lit [y] encStr1_len hg7 rfl;subst q1 q7;clear hd hrest;simp[putAll,Act.put];refine wpList_append_b rfl _ _ 39 rfl w.heap.size 9 _ 1 _ Tryz.underlying39 infoStr1 rfl (by decide) encStr1_len encStr1_one _ (LN).length LN rfl hrow rfl (some ⟨g7,0,none⟩) 1 1 [y] rfl rfl hrd1 (by omega) (by omega) hE4.size ?_;intro v9 w9 ho9 hgr hblk;have S6:Sep w w9 (plRow 9 1 encStr1 v9 (LN++[y]) :: RLx):=S4.grow 0 rfl hgr ho9 hblk;have hch:=Chg.of_grown hgr;clear ho9 hblk hrow hrd1 S4 hgr;go_wp2;refine⟨rfl,_,rfl,S6,hE.trans hch,fun j u hj hne hcon hnd hnc hv=>?_⟩
      match j with
      | 0|1|2|3|4|5|6|9=>exact hv
      | 7=>exact absurd rfl hcon
      | 8=>exact absurd rfl hne
      | 10=>exact absurd rfl hcon
      | (zz+11)=>trivial
     ·clear hd hrest;simp[putAll,Act.put];go_wp2;exact OneC.mk (VTkN.ext) rfl rfl hE (Ext.refl _)
    ·intro vz wE hvl hE hV _
     match vz,hvl with
     | [y0,y1,y2,y3,y4,y5,y6,y7,y8,y9],_ =>
     have q9:y9=.pointer (some ⟨B5,5,none⟩):=hV 9 (by omega) rfl;have S11:Sep w wE (plRow 9 1 encStr1 y8 (LN++[y]) :: RLx):=hV 8 (by omega) rfl;rw[HRL.out]at S11;have S:=S11;clear hV hI0 hb5 hb2 hel Sd hE S11 HRL hy0;subst q9;simp only[putAll,Act.put,List.take_succ_cons,List.take_zero,List.drop_succ_cons,List.drop_zero];simp;have rowN:=S.row 0 rfl;obtain⟨aN,cN,hv,_,_,_⟩:=view_owns encStr1_len rowN;clear rowN;subst hv;obtain⟨LN2,hLN2⟩:∃LN2,LN2=LN++[y]:=⟨_,rfl⟩;rw[←hLN2]at S HNn ⊢;clear hLN2;obtain⟨⟨b5c0,b5f0⟩,⟨b5c1,b5f1⟩,⟨b5c2,b5f2⟩,⟨b5c3,b5f3⟩,⟨b5c4,b5f4⟩,⟨b5c5,b5f5⟩,⟨b5c6,b5f6⟩⟩:=bx7 (S.box 2 rfl)
     go_upto_region 9 with fail
     clear b5c0 b5f0 b5c1 b5f1 b5c2 b5f2 b5c3 b5f3 b5c4 b5f4 b5c5 b5f5 b5c6 b5f6;replace S:Sep w (wE.setCell ⟨B5,5,none⟩ (.slice aN LN2.length cN)) [plRow 9 1 encStr1 (.slice aN LN2.length cN) LN2,plRow 3 1 encInt1 uK LK,plBox B5 #[.bool f,.int .i64 o,.int .i64 g,.int .i64 m,.string t,.slice aN LN2.length cN,uK] 89,plBox B4 #[.bool false,.int .i64 0,.int .i64 0,.int .i64 0,.string ⟨#[]⟩,.slice none 0 0,.slice none 0 0] 89,plBox B2 #[.bool f,.int .i64 o,.int .i64 g,.int .i64 m,.string t,.slice (some ⟨b1,off,none⟩) N.length cn,.slice ak K.length ck] 89]:=S.set 2 rfl 5 _;generalize (wE.setCell ⟨B5,5,none⟩ (.slice aN LN2.length cN))=wF at *;obtain⟨uN2,huN2⟩:∃v:Value,v=.slice aN LN2.length cN:=⟨_,rfl⟩;rw[←huN2]at S ⊢;clear huN2;obtain⟨y,b3,off3,hy,rfl,c3⟩:=atInt hk hltk;have HNk:Hid (LK++[y]=(K.take (k+1)).eraseIdx p):=hd0 (by rw[HLK.out];exact era_push hy hkp);have hy0:=c3
     have i3:(k:Int) < (K.length:Int):=by omega
     clear hy;replace S:Sep w wF [plRow 3 1 encInt1 uK LK,plRow 9 1 encStr1 uN2 LN2,plBox B5 #[.bool f,.int .i64 o,.int .i64 g,.int .i64 m,.string t,uN2,uK] 89,plBox B4 #[.bool false,.int .i64 0,.int .i64 0,.int .i64 0,.string ⟨#[]⟩,.slice none 0 0,.slice none 0 0] 89,plBox B2 #[.bool f,.int .i64 o,.int .i64 g,.int .i64 m,.string t,.slice (some ⟨b1,off,none⟩) N.length cn,.slice (some ⟨b3,off3,none⟩) K.length ck] 89]:=S.perm (List.Perm.swap ..);obtain⟨RLx,hRLx⟩:∃RLx,RLx=[plRow 9 1 encStr1 uN2 LN2,plBox B5 #[.bool f,.int .i64 o,.int .i64 g,.int .i64 m,.string t,uN2,uK] 89,plBox B4 #[.bool false,.int .i64 0,.int .i64 0,.int .i64 0,.string ⟨#[]⟩,.slice none 0 0,.slice none 0 0] 89,plBox B2 #[.bool f,.int .i64 o,.int .i64 g,.int .i64 m,.string t,.slice (some ⟨b1,off,none⟩) N.length cn,.slice (some ⟨b3,off3,none⟩) K.length ck] 89]:=⟨_,rfl⟩;have Sd:Sep w (World.drew wF) (plRow 3 1 encInt1 uK LK :: [plRow 9 1 encStr1 uN2 LN2,plBox B5 #[.bool f,.int .i64 o,.int .i64 g,.int .i64 m,.string t,uN2,uK] 89,plBox B4 #[.bool false,.int .i64 0,.int .i64 0,.int .i64 0,.string ⟨#[]⟩,.slice none 0 0,.slice none 0 0] 89,plBox B2 #[.bool f,.int .i64 o,.int .i64 g,.int .i64 m,.string t,.slice (some ⟨b1,off,none⟩) N.length cn,.slice (some ⟨b3,off3,none⟩) K.length ck] 89]):=S.drew
     have hI0:∀wv,(Chg (fun b=>(uK:Value).ownBlock=some b) (World.drew wF)) wv→Ext w wv:=fun wv hI=>Chg.ext (S.ext.drew) hI (fun b hb=>(S.lt (List.mem_cons_self ..) (show(plRow 3 1 encInt1 uK LK).own b from hb)).1)
     have hb5:∀wv,(Chg (fun b=>(uK:Value).ownBlock=some b) (World.drew wF)) wv→wv.cell? ⟨B5,6,none⟩=some uK:=fun wv hI=>cell_chg (bx (Sd.box 2 rfl) 6 rfl).1 hI (fun hb=>Sd.ne (i:=0) (j:=2) rfl rfl (by decide) (show(plRow 3 1 encInt1 uK LK).own B5 from hb) rfl)
     have hb2:∀wv,(Chg (fun b=>(uK:Value).ownBlock=some b) (World.drew wF)) wv→wv.cell? ⟨B2,6,none⟩=some (.slice (some ⟨b3,off3,none⟩) K.length ck):=fun wv hI=>cell_chg (bx (Sd.box 4 rfl) 6 rfl).1 hI (fun hb=>Sd.ne (i:=0) (j:=4) rfl rfl (by decide) (show(plRow 3 1 encInt1 uK LK).own B2 from hb) rfl)
     have hel:∀wv,(Chg (fun b=>(uK:Value).ownBlock=some b) (World.drew wF)) wv→wv.cell? ⟨b3,off3+k,none⟩=some (.int .i64 y):=fun wv hI=>cell_ext (hI0 wv hI) hy0
     rw[←hRLx]at Sd;have HRL:=hd0 hRLx;clear S hRLx;refine wp_region_t (V:=VTkK w B5 B2 uK b3 off3 K.length ck k y LK RLx wF.heap.size) (Chg (fun b=>(uK:Value).ownBlock=some b) (World.drew wF)) (fun i=>if i=7 then some 8 else if i=10 then some 8 else none) [] 10 1 rfl (by decide) (by kernel_rfl) (by kernel_rfl) (by kernel_rfl) (by kernel_rfl) (Chg.refl _ _) (fun r hr=>match r,hr with|0,_=>Sd) ?_ ?_
     ·intro i o hi ho vz w4 hvl hE hd hrest;have hsz:wF.heap.size≤w4.heap.size:=hE.size;have hE4:=hI0 w4 hE
      match vz,hvl with
      | [y0,y1,y2,y3,y4,y5,y6,y7,y8,y9],_ =>
      rcases lc10 hi with rfl|rfl|rfl|rfl|rfl|rfl|rfl|rfl|rfl|rfl
      all_goals
       obtain rfl:=Option.some.inj ho
      ·clear hd hrest;simp[putAll,Act.put];go_wp2;exact OneC.mk (VTkK.ext) rfl rfl hE (Ext.refl _)
      ·have q0:y0=.pointer (some ⟨B5,6,none⟩):=hd ⟨0,.data⟩ (by simp) rfl (by decide);have c0:=hb5 w4 hE;subst q0;clear hd hrest;simp[putAll,Act.put];go_wp2;exact OneC.mk (VTkK.ext) rfl rfl hE (Ext.refl _)
      ·clear hd hrest;simp[putAll,Act.put];go_wp2;exact OneC.mk (VTkK.ext) rfl rfl hE (Ext.refl _)
      ·have q2:y2=.pointer (some ⟨B2,6,none⟩):=hd ⟨2,.data⟩ (by simp) rfl (by decide);have c0:=hb2 w4 hE;subst q2;clear hd hrest;simp[putAll,Act.put];go_wp2;exact OneC.mk (VTkK.ext) rfl rfl hE (Ext.refl _)
      ·clear hd hrest;simp[putAll,Act.put];go_wp2;exact OneC.mk (VTkK.ext) rfl rfl hE (Ext.refl _)
      ·have q3:y3=.slice (some ⟨b3,off3,none⟩) K.length ck:=hd ⟨3,.data⟩ (by simp) rfl (by decide);have q4:y4=.int .i64 k:=hd ⟨4,.data⟩ (by simp) rfl (by decide);subst q3 q4;clear hd hrest;simp[putAll,Act.put];go_wp2;exact OneC.mk (VTkK.ext) rfl rfl hE (Ext.refl _)
      ·have q5:y5=.pointer (some ⟨b3,off3+k,none⟩):=hd ⟨5,.data⟩ (by simp) rfl (by decide);have c0:=hel w4 hE;subst q5;clear hd hrest;simp[putAll,Act.put];go_wp2;exact OneC.mk (VTkK.ext) rfl rfl hE (Ext.refl _)
      ·have q6:y6=.int .i64 y:=hd ⟨6,.data⟩ (by simp) rfl (by decide);subst q6;clear hd hrest;simp[putAll,Act.put];go_wp2;exact OneC.mk (VTkK.ext) rfl ⟨_,rfl,hsz,heap_alloc_new w4 _⟩ (hE.trans (Chg.of_ext ((Ext.refl w4).alloc _))) ((Ext.refl _).alloc _)
      ·have q1:y1=uK:=hd ⟨1,.data⟩ (by simp) rfl (by decide);obtain⟨g7,q7,hb7,hg7⟩:∃g,y7=.slice (some ⟨g,0,none⟩) 1 1∧wF.heap.size≤g∧w4.heap[g]?=some (.cells #[.int .i64 y] 3):=hd ⟨7,.data⟩ (by simp) rfl (by decide);have S4:Sep w w4 (plRow 3 1 encInt1 uK LK :: RLx):=hrest 0 (by omega) (.inr rfl);have hrow:=S4.row 0 rfl;have hrd1:Rd 1 encInt1 w4 (some ⟨g7,0,none⟩) [y]:=rd_lit [y] encInt1_len hg7 rfl;subst q1 q7;clear hd hrest;simp[putAll,Act.put];refine wpList_append_b rfl _ _ 86 rfl w.heap.size 3 _ 1 _ Tryz.underlying86 infoInt rfl (by decide) encInt1_len encInt1_one _ (LK).length LK rfl hrow rfl (some ⟨g7,0,none⟩) 1 1 [y] rfl rfl hrd1 (by omega) (by omega) hE4.size ?_;intro v9 w9 ho9 hgr hblk;have S6:Sep w w9 (plRow 3 1 encInt1 v9 (LK++[y]) :: RLx):=S4.grow 0 rfl hgr ho9 hblk;have hch:=Chg.of_grown hgr;clear ho9 hblk hrow hrd1 S4 hgr;go_wp2;refine⟨rfl,_,rfl,S6,hE.trans hch,fun j u hj hne hcon hnd hnc hv=>?_⟩
       match j with
       | 0|1|2|3|4|5|6|9=>exact hv
       | 7=>exact absurd rfl hcon
       | 8=>exact absurd rfl hne
       | 10=>exact absurd rfl hcon
       | (zz+11)=>trivial
      ·clear hd hrest;simp[putAll,Act.put];go_wp2;exact OneC.mk (VTkK.ext) rfl rfl hE (Ext.refl _)
     ·intro vz wE hvl hE hV _
      match vz,hvl with
      | [y0,y1,y2,y3,y4,y5,y6,y7,y8,y9],_ =>
      have q9:y9=.pointer (some ⟨B5,6,none⟩):=hV 9 (by omega) rfl;have S11:Sep w wE (plRow 3 1 encInt1 y8 (LK++[y]) :: RLx):=hV 8 (by omega) rfl;rw[HRL.out]at S11;have S:=S11;clear hV hI0 hb5 hb2 hel Sd hE S11 HRL hy0;subst q9;simp only[putAll,Act.put,List.take_succ_cons,List.take_zero,List.drop_succ_cons,List.drop_zero];simp;have rowK:=S.row 0 rfl;obtain⟨aK,cK,hv,_,_,_⟩:=view_owns encInt1_len rowK;clear rowK;subst hv;obtain⟨LK2,hLK2⟩:∃LK2,LK2=LK++[y]:=⟨_,rfl⟩;rw[←hLK2]at S HNk ⊢;clear hLK2;obtain⟨⟨b5c0,b5f0⟩,⟨b5c1,b5f1⟩,⟨b5c2,b5f2⟩,⟨b5c3,b5f3⟩,⟨b5c4,b5f4⟩,⟨b5c5,b5f5⟩,⟨b5c6,b5f6⟩⟩:=bx7 (S.box 2 rfl);go_wp2;clear b5c0 b5f0 b5c1 b5f1 b5c2 b5f2 b5c3 b5f3 b5c4 b5f4 b5c5 b5f5 b5c6 b5f6;replace S:Sep w (wE.setCell ⟨B5,6,none⟩ (.slice aK LK2.length cK)) [plRow 3 1 encInt1 (.slice aK LK2.length cK) LK2,plRow 9 1 encStr1 uN2 LN2,plBox B5 #[.bool f,.int .i64 o,.int .i64 g,.int .i64 m,.string t,uN2,.slice aK LK2.length cK] 89,plBox B4 #[.bool false,.int .i64 0,.int .i64 0,.int .i64 0,.string ⟨#[]⟩,.slice none 0 0,.slice none 0 0] 89,plBox B2 #[.bool f,.int .i64 o,.int .i64 g,.int .i64 m,.string t,.slice (some ⟨b1,off,none⟩) N.length cn,.slice (some ⟨b3,off3,none⟩) K.length ck] 89]:=S.set 2 rfl 6 _;go_roundw
      case rel=>exact⟨k+1,_,_,LN2,LK2,by omega,by go_num,HNn.out,HNk.out,S⟩
      case measure=>simp[intOf];omega
theorem zeroStr:∀w,(zeroValue 9).run Tryz.prog w=.ok (.string ⟨#[]⟩) w:=by intro w;go_simp
theorem delStr_any (base g cap i j:Nat) (l:List ByteArray) (w:World) (hij:i < j) (hj:j≤l.length)
  (hown:w.ownsRow base 9 1 (.slice (some ⟨g,0,none⟩) l.length cap) l.length (l.flatMap encStr1)) :
  Calls Tryz.prog 126 #[.slice (some ⟨g,0,none⟩) l.length cap,.int .i64 i,.int .i64 j] w fun e w'=>e=.returned (.slice (some ⟨g,0,none⟩) (l.length - (j - i)) cap) ∧
   w'.ownsRow base 9 1 (.slice (some ⟨g,0,none⟩) (l.length - (j - i)) cap) (l.length - (j - i)) ((l.take i++l.drop j).flatMap encStr1)∧w.grownBy w' (some g):=by
 obtain⟨hlc,hcm,hbg⟩:=owns_bound hown;obtain⟨i0,hi0,hz0,hz1,hz2⟩:=info_parts infoStr1;have hv:=zeroStr;have mixed:Tryz.prog.follows .mixedOrders=true:=rfl;obtain⟨news,hnews⟩:∃news,news=(l.drop j).flatMap encStr1:=⟨_,rfl⟩
 have hlen:news.length=(l.length - j)*1:=by rw[hnews,flatMap_length encStr1_len,List.length_drop]
 have hget:∀t,t < news.length→∀u,news[t]?=some u→w.cell? ⟨g,j*1+t,none⟩=some u:=by
  intro t ht u hu
  have hlt:j*1+t < l.length*1:=by omega
  rw[hown.cellAt _ hlt];rw[hnews,←flatMap_drop encStr1_len,List.getElem?_drop]at hu;exact hu
 obtain⟨A,hA,hsrc⟩:∃A:Addr,(if cap=j then some (⟨g,0,none⟩:Addr)else some ⟨g,j,none⟩)=some A∧Hid (∀t u,news[t]?=some u→w.drew.cell? (A.add t)=some u):=by
  by_cases h:cap=j
  ·refine⟨⟨g,0,none⟩,by simp[h],fun t u hu=>?_⟩
   have h0:news.length=0:=by rw[hlen];omega
   rw[List.length_eq_zero_iff.1 h0]at hu;simp at hu
  ·refine⟨⟨g,j,none⟩,by simp[h],fun t u hu=>?_⟩;rw[Addr.add_lit];have:=hget t (List.getElem?_eq_some_iff.1 hu).1 u hu
   simpa using this
 have s1:Hid (news.length=(l.length - j)*1):=hlen
 have s2:Hid (∀u∈news,u.oneCell'=true):=by
  intro u hu;rw[hnews]at hu;obtain⟨x,_,hx⟩:=List.mem_flatMap.1 hu;exact encStr1_one x u hx
 have s3:Hid (∀t,t < news.length→(w.drew.cell? ⟨g,0+i*1+t,none⟩).isSome=true∧w.drew.frozen? ⟨g,0+i*1+t,none⟩=false):=by
  intro t ht;rw[hlen]at ht;have:=owns_there hown (i*1+t) (by omega);rw[Nat.zero_add];exact this
 obtain⟨W1,hW1⟩:∃W1,W1=w.drew.setCells g (0+i*1) news:=⟨_,rfl⟩
 have hg1:w.grownBy W1 (some g):=by
  rw[hW1,kit_setCells];exact grown_setCells _ _ (grown_of_ext (Ext.refl w).drew _)
 have ho1:W1.ownsRow base 9 1 (.slice (some ⟨g,0,none⟩) l.length cap) l.length (setAll (l.flatMap encStr1) (i*1) news):=by
  rw[hW1,kit_setCells,Nat.zero_add];exact owns_setCells _ _ hown.drew
 have hcl:∀ty,(Builtin.clear_ #[39] ty #[.slice (some ⟨g,(i+(l.length - j)),none⟩) (l.length - (i+(l.length - j))) (cap - (i+(l.length - j)))]).run Tryz.prog W1=.ok (.tuple #[]) (W1.setCells g ((i+(l.length - j))) (Builtin.zeroCells (.string ⟨#[]⟩:Value).cells (l.length - (i+(l.length - j)))).toList) :=
  fun ty=>run_clear_cells W1 _ _ ty _ 1 Tryz.underlying39 hv rfl (by decide) g ((i+(l.length - j))) (l.length - (i+(l.length - j))) (cap - (i+(l.length - j))) (by omega) (fun t ht=>(owns_there ho1 ((i+(l.length - j))+t) (by omega)).1) (fun t ht=>(owns_there ho1 ((i+(l.length - j))+t) (by omega)).2)
 obtain⟨W2,hW2⟩:∃W2,W2=W1.setCells g ((i+(l.length - j))) (Builtin.zeroCells (.string ⟨#[]⟩:Value).cells (l.length - (i+(l.length - j)))).toList:=⟨_,rfl⟩;rw[←hW2]at hcl
 have hg2:Hid (w.grownBy W2 (some g)):=by
  rw[hW2,kit_setCells];exact grown_setCells _ _ hg1
 have ho2:Hid (W2.ownsRow base 9 1 (.slice (some ⟨g,0,none⟩) (l.length - (j - i)) cap) (l.length - (j - i)) ((l.take i++l.drop j).flatMap encStr1)):=by
  have h:=owns_shrink (m:=l.length - (j - i)) (owns_setCells (Builtin.zeroCells (.string ⟨#[]⟩:Value).cells (l.length - (i+(l.length - j)))).toList ((i+(l.length - j))*1) ho1) (by omega);rw[hnews,del_list encStr1_len l i j (by omega) hj _ (by simp[Builtin.zeroCells,Value.cells];omega)]at h;rw[hW2,kit_setCells];exact hd0 (by simpa using h)
 have hW:Hid (W1=w.drew.setCells g (0+i*1) news):=hW1
 have hic:i≤cap:=by omega
 have hjc:j≤cap:=by omega
 clear hW1 hW2 hg1 ho1 hown hget hnews hlen hbg
 go_enter Tryz.func126,Tryz.ntmps126
 go_wp2_with fail
 go_region_law_o (refine step_append_room rfl (.tmp 22) (.tmp 25) 39 rfl 9 i0 1 Tryz.underlying39 hi0 hz1 g 0 i cap (by simp[Act.eval,Act.put]) A (l.length - j) (cap - j) news (by simp[Act.eval,Act.put]) s1.out hsrc.out s2.out (by omega) s3.out ?_;rw[←hW.out])
 go_wp2;go_ret;refine⟨by rw[show l.length - (j - i)=i+(l.length - j)by omega];rfl,ho2.out,hg2.out⟩
theorem zeroInt:∀w,(zeroValue 3).run Tryz.prog w=.ok (.int .i64 0) w:=by intro w;go_simp
theorem delInt_any (base g cap i j:Nat) (l:List Int) (w:World) (hij:i < j) (hj:j≤l.length)
  (hown:w.ownsRow base 3 1 (.slice (some ⟨g,0,none⟩) l.length cap) l.length (l.flatMap encInt1)) :
  Calls Tryz.prog 127 #[.slice (some ⟨g,0,none⟩) l.length cap,.int .i64 i,.int .i64 j] w fun e w'=>e=.returned (.slice (some ⟨g,0,none⟩) (l.length - (j - i)) cap) ∧
   w'.ownsRow base 3 1 (.slice (some ⟨g,0,none⟩) (l.length - (j - i)) cap) (l.length - (j - i)) ((l.take i++l.drop j).flatMap encInt1)∧w.grownBy w' (some g):=by
 obtain⟨hlc,hcm,hbg⟩:=owns_bound hown;obtain⟨i0,hi0,hz0,hz1,hz2⟩:=info_parts infoInt;have hv:=zeroInt;have mixed:Tryz.prog.follows .mixedOrders=true:=rfl;obtain⟨news,hnews⟩:∃news,news=(l.drop j).flatMap encInt1:=⟨_,rfl⟩
 have hlen:news.length=(l.length - j)*1:=by rw[hnews,flatMap_length encInt1_len,List.length_drop]
 have hget:∀t,t < news.length→∀u,news[t]?=some u→w.cell? ⟨g,j*1+t,none⟩=some u:=by
  intro t ht u hu
  have hlt:j*1+t < l.length*1:=by omega
  rw[hown.cellAt _ hlt];rw[hnews,←flatMap_drop encInt1_len,List.getElem?_drop]at hu;exact hu
 obtain⟨A,hA,hsrc⟩:∃A:Addr,(if cap=j then some (⟨g,0,none⟩:Addr)else some ⟨g,j,none⟩)=some A∧Hid (∀t u,news[t]?=some u→w.drew.cell? (A.add t)=some u):=by
  by_cases h:cap=j
  ·refine⟨⟨g,0,none⟩,by simp[h],fun t u hu=>?_⟩
   have h0:news.length=0:=by rw[hlen];omega
   rw[List.length_eq_zero_iff.1 h0]at hu;simp at hu
  ·refine⟨⟨g,j,none⟩,by simp[h],fun t u hu=>?_⟩;rw[Addr.add_lit];have:=hget t (List.getElem?_eq_some_iff.1 hu).1 u hu
   simpa using this
 have s1:Hid (news.length=(l.length - j)*1):=hlen
 have s2:Hid (∀u∈news,u.oneCell'=true):=by
  intro u hu;rw[hnews]at hu;obtain⟨x,_,hx⟩:=List.mem_flatMap.1 hu;exact encInt1_one x u hx
 have s3:Hid (∀t,t < news.length→(w.drew.cell? ⟨g,0+i*1+t,none⟩).isSome=true∧w.drew.frozen? ⟨g,0+i*1+t,none⟩=false):=by
  intro t ht;rw[hlen]at ht;have:=owns_there hown (i*1+t) (by omega);rw[Nat.zero_add];exact this
 obtain⟨W1,hW1⟩:∃W1,W1=w.drew.setCells g (0+i*1) news:=⟨_,rfl⟩
 have hg1:w.grownBy W1 (some g):=by
  rw[hW1,kit_setCells];exact grown_setCells _ _ (grown_of_ext (Ext.refl w).drew _)
 have ho1:W1.ownsRow base 3 1 (.slice (some ⟨g,0,none⟩) l.length cap) l.length (setAll (l.flatMap encInt1) (i*1) news):=by
  rw[hW1,kit_setCells,Nat.zero_add];exact owns_setCells _ _ hown.drew
 have hcl:∀ty,(Builtin.clear_ #[86] ty #[.slice (some ⟨g,(i+(l.length - j)),none⟩) (l.length - (i+(l.length - j))) (cap - (i+(l.length - j)))]).run Tryz.prog W1=.ok (.tuple #[]) (W1.setCells g ((i+(l.length - j))) (Builtin.zeroCells (.int .i64 0:Value).cells (l.length - (i+(l.length - j)))).toList) :=
  fun ty=>run_clear_cells W1 _ _ ty _ 1 Tryz.underlying86 hv rfl (by decide) g ((i+(l.length - j))) (l.length - (i+(l.length - j))) (cap - (i+(l.length - j))) (by omega) (fun t ht=>(owns_there ho1 ((i+(l.length - j))+t) (by omega)).1) (fun t ht=>(owns_there ho1 ((i+(l.length - j))+t) (by omega)).2)
 obtain⟨W2,hW2⟩:∃W2,W2=W1.setCells g ((i+(l.length - j))) (Builtin.zeroCells (.int .i64 0:Value).cells (l.length - (i+(l.length - j)))).toList:=⟨_,rfl⟩;rw[←hW2]at hcl
 have hg2:Hid (w.grownBy W2 (some g)):=by
  rw[hW2,kit_setCells];exact grown_setCells _ _ hg1
 have ho2:Hid (W2.ownsRow base 3 1 (.slice (some ⟨g,0,none⟩) (l.length - (j - i)) cap) (l.length - (j - i)) ((l.take i++l.drop j).flatMap encInt1)):=by
  have h:=owns_shrink (m:=l.length - (j - i)) (owns_setCells (Builtin.zeroCells (.int .i64 0:Value).cells (l.length - (i+(l.length - j)))).toList ((i+(l.length - j))*1) ho1) (by omega);rw[hnews,del_list encInt1_len l i j (by omega) hj _ (by simp[Builtin.zeroCells,Value.cells];omega)]at h;rw[hW2,kit_setCells];exact hd0 (by simpa using h)
 have hW:Hid (W1=w.drew.setCells g (0+i*1) news):=hW1
 have hic:i≤cap:=by omega
 have hjc:j≤cap:=by omega
 clear hW1 hW2 hg1 ho1 hown hget hnews hlen hbg
 go_enter Tryz.func127,Tryz.ntmps127
 go_wp2_with fail
 go_region_law_o (refine step_append_room rfl (.tmp 22) (.tmp 25) 86 rfl 3 i0 1 Tryz.underlying86 hi0 hz1 g 0 i cap (by simp[Act.eval,Act.put]) A (l.length - j) (cap - j) news (by simp[Act.eval,Act.put]) s1.out hsrc.out s2.out (by omega) s3.out ?_;rw[←hW.out])
 go_wp2;go_ret;refine⟨by rw[show l.length - (j - i)=i+(l.length - j)by omega];rfl,ho2.out,hg2.out⟩
def eraNd (x:Nd) (p:Nat):Nd:=⟨x.fold,x.own,x.grp,x.mode,x.text,x.N.eraseIdx p,x.K.eraseIdx p⟩
theorem era_take {α:Type} (l:List α) (p:Nat):l.take p++l.drop (p+1)=l.eraseIdx p:=(List.eraseIdx_eq_take_drop_succ l p).symm
def VTk (W0:World) (H:List Pl) (g nT cap:Nat) (vs:List Nc) (k:Nat) (x:Nd) (gn cn gk ck p:Nat):Nat→Value→List Value→World→Prop:=fun i v us wv=>match i with
 | 0=>v=.slice (some ⟨g,0,none⟩) nT cap
 | 1=>v=.int .i64 (k:Nat)
 | 2=>v=.slice (some ⟨g,0,none⟩) nT cap
 | 3=>v=.int .i64 (k:Nat)
 | 4=>v=.slice (some ⟨g,0,none⟩) nT cap
 | 5=>v=.int .i64 (k:Nat)
 | 6=>v=.pointer (some ⟨g,k*7,none⟩)
 | 7=>v=.pointer (some ⟨g,k*7+5,none⟩)
 | 8=>v=.slice (some ⟨gn,0,none⟩) x.N.length cn
 | 9=>v=.int .i64 (p:Nat)
 | 10=>v=.int .i64 (p:Nat)
 | 11=>v=.int .i64 ((p:Int)+1)
 | 12=>v=.slice (some ⟨gn,0,none⟩) (eraNd x p).N.length cn∧∃w5,Sep W0 w5 H∧Chg (fun b=>b=gn) w5 wv∧wv.ownsRow 0 9 1 v (eraNd x p).N.length ((eraNd x p).N.flatMap encStr1)
 | 13=>v=.slice (some ⟨g,0,none⟩) nT cap
 | 14=>v=.int .i64 (k:Nat)
 | 15=>v=.pointer (some ⟨g,k*7,none⟩)
 | 16=>v=.pointer (some ⟨g,k*7+6,none⟩)
 | 17=>v=.slice (some ⟨gk,0,none⟩) x.K.length ck
 | 18=>v=.int .i64 (p:Nat)
 | 19=>v=.int .i64 (p:Nat)
 | 20=>v=.int .i64 ((p:Int)+1)
 | 21=>v=.slice (some ⟨gk,0,none⟩) (eraNd x p).K.length ck∧us.getD 0 undef=.slice (some ⟨gn,0,none⟩) (eraNd x p).N.length cn∧AdOk W0 H g (⟨x,some ⟨gn,0,none⟩,cn,some ⟨gk,0,none⟩,ck⟩:Nc) (eraNd x p).N (eraNd x p).K (.slice (some ⟨gn,0,none⟩) (eraNd x p).N.length cn) v wv∧wv.ownsRow 0 89 7 (.slice (some ⟨g,0,none⟩) nT cap) nT (vs.flatMap encNc)
 | 22=>v=.pointer (some ⟨g,k*7,none⟩)
 | 23=>v=.pointer (some ⟨g,k*7+5,none⟩)
 | 24=>us.getD 0 undef=.slice (some ⟨gk,0,none⟩) (eraNd x p).K.length ck∧AdOk W0 H g (⟨x,some ⟨gn,0,none⟩,cn,some ⟨gk,0,none⟩,ck⟩:Nc) (eraNd x p).N (eraNd x p).K (.slice (some ⟨gn,0,none⟩) (eraNd x p).N.length cn) (.slice (some ⟨gk,0,none⟩) (eraNd x p).K.length ck) wv∧wv.ownsRow 0 89 7 (.slice (some ⟨g,0,none⟩) nT cap) nT ((vs.set k (⟨⟨x.fold,x.own,x.grp,x.mode,x.text,(eraNd x p).N,x.K⟩,some ⟨gn,0,none⟩,cn,some ⟨gk,0,none⟩,ck⟩:Nc)).flatMap encNc)
 | 25=>Sep W0 wv H
 | 26=>wv.cell? ⟨g,k*7+5,none⟩=some (.slice (some ⟨gn,0,none⟩) x.N.length cn)
 | 27=>wv.cell? ⟨g,k*7+6,none⟩=some (.slice (some ⟨gk,0,none⟩) x.K.length ck)
 | _=>True
theorem VTk.ext {W0:World} {H:List Pl} {g nT cap:Nat} {vs:List Nc} {k:Nat} {x:Nd} {gn cn gk ck p:Nat} (i:Nat) (v:Value) (us:List Value) (w1 w2:World) (h:VTk W0 H g nT cap vs k x gn cn gk ck p i v us w1) (hE:Ext w1 w2):VTk W0 H g nT cap vs k x gn cn gk ck p i v us w2:=by
 match i with
 | 0|1|2|3|4|5|6|7|8|9|10|11|13|14|15|16|17|18|19|20|22|23=>exact h
 | 12=>obtain⟨h1,w5,h2,h3,h4⟩:=h;exact⟨h1,w5,h2,h3.trans (Chg.of_ext hE),ownsRow_ext h4 hE⟩
 | 21=>exact⟨h.1,h.2.1,h.2.2.1.ext hE,ownsRow_ext h.2.2.2 hE⟩
 | 24=>exact⟨h.1,h.2.1.ext hE,ownsRow_ext h.2.2 hE⟩
 | 25=>exact SepM.step (show Sep W0 w1 H from h) hE
 | 26=>exact cell_ext hE h
 | 27=>exact cell_ext hE h
 | (n+28)=>trivial
theorem zeroNd:∀w,(zeroValue 89).run Tryz.prog w=.ok (.agg #[.bool false,.int .i64 0,.int .i64 0,.int .i64 0,.string ⟨#[]⟩,.slice none 0 0,.slice none 0 0]) w:=by intro w;go_simp
theorem delNd_any (base g cap i j:Nat) (l:List Nc) (w:World) (hij:i < j) (hj:j≤l.length)
  (hown:w.ownsRow base 89 7 (.slice (some ⟨g,0,none⟩) l.length cap) l.length (l.flatMap encNc)) :
  Calls Tryz.prog 152 #[.slice (some ⟨g,0,none⟩) l.length cap,.int .i64 i,.int .i64 j] w fun e w'=>e=.returned (.slice (some ⟨g,0,none⟩) (l.length - (j - i)) cap) ∧
   w'.ownsRow base 89 7 (.slice (some ⟨g,0,none⟩) (l.length - (j - i)) cap) (l.length - (j - i)) ((l.take i++l.drop j).flatMap encNc)∧w.grownBy w' (some g):=by
 obtain⟨hlc,hcm,hbg⟩:=owns_bound hown;obtain⟨i0,hi0,hz0,hz1,hz2⟩:=info_parts infoNd;have hv:=zeroNd;have mixed:Tryz.prog.follows .mixedOrders=true:=rfl;obtain⟨news,hnews⟩:∃news,news=(l.drop j).flatMap encNc:=⟨_,rfl⟩
 have hlen:news.length=(l.length - j)*7:=by rw[hnews,flatMap_length encNc_len,List.length_drop]
 have hget:∀t,t < news.length→∀u,news[t]?=some u→w.cell? ⟨g,j*7+t,none⟩=some u:=by
  intro t ht u hu
  have hlt:j*7+t < l.length*7:=by omega
  rw[hown.cellAt _ hlt];rw[hnews,←flatMap_drop encNc_len,List.getElem?_drop]at hu;exact hu
 obtain⟨A,hA,hsrc⟩:∃A:Addr,(if cap=j then some (⟨g,0,none⟩:Addr)else some ⟨g,j*7,none⟩)=some A∧Hid (∀t u,news[t]?=some u→w.drew.cell? (A.add t)=some u):=by
  by_cases h:cap=j
  ·refine⟨⟨g,0,none⟩,by simp[h],fun t u hu=>?_⟩
   have h0:news.length=0:=by rw[hlen];omega
   rw[List.length_eq_zero_iff.1 h0]at hu;simp at hu
  ·refine⟨⟨g,j*7,none⟩,by simp[h],fun t u hu=>?_⟩;rw[Addr.add_lit];have:=hget t (List.getElem?_eq_some_iff.1 hu).1 u hu
   simpa using this
 have s1:Hid (news.length=(l.length - j)*7):=hlen
 have s2:Hid (∀u∈news,u.oneCell'=true):=by
  intro u hu;rw[hnews]at hu;obtain⟨x,_,hx⟩:=List.mem_flatMap.1 hu;exact encNc_one x u hx
 have s3:Hid (∀t,t < news.length→(w.drew.cell? ⟨g,0+i*7+t,none⟩).isSome=true∧w.drew.frozen? ⟨g,0+i*7+t,none⟩=false):=by
  intro t ht;rw[hlen]at ht;have:=owns_there hown (i*7+t) (by omega);rw[Nat.zero_add];exact this
 obtain⟨W1,hW1⟩:∃W1,W1=w.drew.setCells g (0+i*7) news:=⟨_,rfl⟩
 have hg1:w.grownBy W1 (some g):=by
  rw[hW1,kit_setCells];exact grown_setCells _ _ (grown_of_ext (Ext.refl w).drew _)
 have ho1:W1.ownsRow base 89 7 (.slice (some ⟨g,0,none⟩) l.length cap) l.length (setAll (l.flatMap encNc) (i*7) news):=by
  rw[hW1,kit_setCells,Nat.zero_add];exact owns_setCells _ _ hown.drew
 have hcl:∀ty,(Builtin.clear_ #[28] ty #[.slice (some ⟨g,(i+(l.length - j))*7,none⟩) (l.length - (i+(l.length - j))) (cap - (i+(l.length - j)))]).run Tryz.prog W1=.ok (.tuple #[]) (W1.setCells g ((i+(l.length - j))*7) (Builtin.zeroCells (.agg #[.bool false,.int .i64 0,.int .i64 0,.int .i64 0,.string ⟨#[]⟩,.slice none 0 0,.slice none 0 0]:Value).cells (l.length - (i+(l.length - j)))).toList) :=
  fun ty=>run_clear_cells W1 _ _ ty _ 7 Tryz.underlying28 hv rfl (by decide) g ((i+(l.length - j))*7) (l.length - (i+(l.length - j))) (cap - (i+(l.length - j))) (by omega) (fun t ht=>(owns_there ho1 ((i+(l.length - j))*7+t) (by omega)).1) (fun t ht=>(owns_there ho1 ((i+(l.length - j))*7+t) (by omega)).2)
 obtain⟨W2,hW2⟩:∃W2,W2=W1.setCells g ((i+(l.length - j))*7) (Builtin.zeroCells (.agg #[.bool false,.int .i64 0,.int .i64 0,.int .i64 0,.string ⟨#[]⟩,.slice none 0 0,.slice none 0 0]:Value).cells (l.length - (i+(l.length - j)))).toList:=⟨_,rfl⟩;rw[←hW2]at hcl
 have hg2:Hid (w.grownBy W2 (some g)):=by
  rw[hW2,kit_setCells];exact grown_setCells _ _ hg1
 have ho2:Hid (W2.ownsRow base 89 7 (.slice (some ⟨g,0,none⟩) (l.length - (j - i)) cap) (l.length - (j - i)) ((l.take i++l.drop j).flatMap encNc)):=by
  have h:=owns_shrink (m:=l.length - (j - i)) (owns_setCells (Builtin.zeroCells (.agg #[.bool false,.int .i64 0,.int .i64 0,.int .i64 0,.string ⟨#[]⟩,.slice none 0 0,.slice none 0 0]:Value).cells (l.length - (i+(l.length - j)))).toList ((i+(l.length - j))*7) ho1) (by omega);rw[hnews,del_list encNc_len l i j (by omega) hj _ (by simp[Builtin.zeroCells,Value.cells];omega)]at h;rw[hW2,kit_setCells];exact hd0 (by simpa using h)
 have hW:Hid (W1=w.drew.setCells g (0+i*7) news):=hW1
 have hic:i≤cap:=by omega
 have hjc:j≤cap:=by omega
 clear hW1 hW2 hg1 ho1 hown hget hnews hlen hbg
 go_enter Tryz.func152,Tryz.ntmps152
 go_wp2_with fail
 go_region_law_o (refine step_append_room rfl (.tmp 22) (.tmp 25) 28 rfl 89 i0 7 Tryz.underlying28 hi0 hz1 g 0 i cap (by simp[Act.eval,Act.put]) A (l.length - j) (cap - j) news (by simp[Act.eval,Act.put]) s1.out hsrc.out s2.out (by omega) s3.out ?_;rw[←hW.out])
 go_wp2;go_ret;refine⟨by rw[show l.length - (j - i)=i+(l.length - j)by omega];rfl,ho2.out,hg2.out⟩
section
variable {β α:Type} {e nf:Nat} {enc:β→List Value} {P:Pin β α} {M:Nat→Prop} {w0 w w':World} {H:List Pl}
theorem SepM.gCut (S:SepM M w0 w H) (i:Nat) {g n n' cap:Nat} {vs:List β} {T:List α} (hi:H[i]?=some (plG e nf enc P (.slice (some ⟨g,0,none⟩) n cap) vs T)) (kid:Nat)
  (hg:w.grownBy w' (some g)) (ho:w'.ownsRow 0 e nf (.slice (some ⟨g,0,none⟩) n' cap) (vs.eraseIdx kid).length ((vs.eraseIdx kid).flatMap enc)) :
  SepM M w0 w' (H.set i (plG e nf enc P (.slice (some ⟨g,0,none⟩) n' cap) (vs.eraseIdx kid) (T.eraseIdx kid))):=by
 obtain⟨h1,h2,h3,h4,h5⟩:=S.at_ i hi;have hch:Chg (fun b=>b=g) w w':=(Chg.of_row hg).mono (fun b hb _=>(Option.some.inj hb).symm);have him:=List.mem_of_getElem? hi
 have hat:∀(l:Nat) (s:β),(vs.eraseIdx kid)[l]?=some s→vs[if l < kid then l else l+1]?=some s:=fun l s hs=>by
  rw[era_at]at hs
  split<;>rename_i h
  ·rwa [if_pos h]at hs
  ·rwa [if_neg h]at hs
 have hlt:∀s∈vs,∀b,P.own s b→b < w.heap.size:=fun s hs b hb=>(S.lt him (show(plG e nf enc P (.slice (some ⟨g,0,none⟩) n cap) vs T).own b from .inr ⟨s,hs,hb⟩)).2
 refine S.put i hi (hch.mono (fun b hb _=>.inl (by rw[hb];rfl))) ⟨ho,?_,fun l s t hs ht=>?_,fun s hs b hb hb2=>?_,fun l m s s' hlm hs hs' b hb hb'=>?_⟩ (fun b hb=>?_)
 ·rw[List.length_eraseIdx,List.length_eraseIdx,h2]
 ·have hs2:=hat l s hs
  have ht2:T[if l < kid then l else l+1]?=some t:=by
   rw[era_at]at ht
   split<;>rename_i h
   ·rwa [if_pos h]at ht
   ·rwa [if_neg h]at ht
  have h6:=h3 _ s t hs2 ht2;exact P.frame s t w w' h6 (fun b hb=>hch.block b (hlt s (List.mem_of_getElem? hs2) b hb) (fun e=>h4 s (List.mem_of_getElem? hs2) b hb (by rw[e];rfl)))
 ·obtain⟨l,hl⟩:=List.getElem?_of_mem hs;exact h4 s (List.mem_of_getElem? (hat l s hl)) b hb hb2
 ·exact h5 _ _ s s' (fun e=>hlm (by split at e<;>split at e<;>omega)) (hat l s hs) (hat m s' hs') b hb hb'
 ·rcases hb with hb|⟨s,hs,hb⟩
  ·exact .inl (.inl hb)
  ·obtain⟨l,hl⟩:=List.getElem?_of_mem hs;exact .inl (.inr ⟨s,List.mem_of_getElem? (hat l s hl),hb⟩)
end
section
variable {M:Nat→Prop} {w0 w:World} {H:List Pl} {g n cap:Nat} {vs:List Nc} {T:List Nd} {k gk:Nat} {c:Nc} {x:Nd}
def kidNd (x:Nd) (K:List Int):Nd:=⟨x.fold,x.own,x.grp,x.mode,x.text,x.N,K⟩
theorem SepM.ndKid (S:SepM M w0 w H) (i:Nat) (hi:H[i]?=some (plNd (.slice (some ⟨g,0,none⟩) n cap) vs T)) (hc:vs[k]?=some c) (hx:T[k]?=some x) (hak:c.ak=some ⟨gk,0,none⟩) (j:Nat) (y:Int) (hj:j < x.K.length) :
  SepM M w0 (w.setCell ⟨gk,j,none⟩ (.int .i64 y)) (H.set i (plNd (.slice (some ⟨g,0,none⟩) n cap) (vs.set k ⟨kidNd x (x.K.set j y),c.an,c.cn,c.ak,c.ck⟩) (T.set k (kidNd x (x.K.set j y))))):=by
 obtain⟨h1,h2,h3,h4,h5⟩:=S.at_ i hi;obtain⟨pN,pK,pO,pA⟩:=S.nd_pin' i hi hc hx;obtain⟨hk,hck⟩:=List.getElem?_eq_some_iff.1 hc;have e1:=(h3 k c x hc hx).1;obtain⟨cn',an,cn,ak,ck⟩:=c;dsimp only at hak e1 pN pK pO pA;subst hak e1;have hch:=Chg.setCell w gk j (.int .i64 y);have hgg:gk≠g:=(pO gk (.inr rfl)).1;have hlen:(cn'.K.set j y).length=cn'.K.length:=List.length_set;have hK:=owns_set encInt1_len pK j 0 (.int .i64 y) y hj (by omega) rfl;rw[Nat.mul_one,Nat.add_zero]at hK
 have hcells:(vs.set k (⟨kidNd cn' (cn'.K.set j y),an,cn,some ⟨gk,0,none⟩,ck⟩:Nc)).flatMap encNc=vs.flatMap encNc:=by
  have e:(vs.set k (⟨kidNd cn' (cn'.K.set j y),an,cn,some ⟨gk,0,none⟩,ck⟩:Nc)).map encNc=vs.map encNc:=by
   rw[List.map_set]
   have e2:encNc (⟨kidNd cn' (cn'.K.set j y),an,cn,some ⟨gk,0,none⟩,ck⟩:Nc)=encNc vs[k]:=by
    rw[hck]
    show[Value.bool cn'.fold,.int .i64 cn'.own,.int .i64 cn'.grp,.int .i64 cn'.mode,.string cn'.text,.slice an cn'.N.length cn,.slice (some ⟨gk,0,none⟩) (cn'.K.set j y).length ck]=_
    rw[hlen];rfl
   rw[e2];apply List.ext_getElem?;intro l
   by_cases hl:k=l
   ·subst hl;rw[List.getElem?_set_self (by simpa using hk),List.getElem?_map,hc,hck];rfl
   ·rw[List.getElem?_set_ne hl]
  rw[List.flatMap_def,List.flatMap_def,e]
 refine S.ndPut i hi hc (c':=⟨kidNd cn' (cn'.K.set j y),an,cn,some ⟨gk,0,none⟩,ck⟩) (x':=kidNd cn' (cn'.K.set j y)) (hch.mono (fun b hb _=>.inr (.inr (.inr (by rw[hb];rfl))))) ?_ ⟨rfl,?_,?_,?_⟩ (fun b hb=>?_)
 ·rw[hcells]
  exact(plRow 89 7 encNc (.slice (some ⟨g,0,none⟩) n cap) vs).frame w _ h1 (fun b hb=>by
   have hb':g=b:=Option.some.inj hb;subst hb'
   exact hch.block g (S.lt (List.mem_of_getElem? hi) (show(plNd (.slice (some ⟨g,0,none⟩) n cap) vs T).own g from .inl rfl)).2 (fun e=>hgg e.symm))
 ·exact(plRow 9 1 encStr1 (.slice an cn'.N.length cn) cn'.N).frame w _ pN (fun b hb=>hch.block b (pO b (.inl hb)).2.2 (fun e=>pA b hb (by rw[e];rfl)))
 ·show World.ownsRow _ _ _ _ (.slice (some ⟨gk,0,none⟩) (cn'.K.set j y).length ck) (cn'.K.set j y).length ((cn'.K.set j y).flatMap encInt1)
  rw[hlen];exact hK
 ·intro b hb hb2;have hb2':(Value.slice (some ⟨gk,0,none⟩) (cn'.K.set j y).length ck).ownBlock=some b:=hb2;exact pA b hb hb2'
 ·exact .inl hb
end
def mapMix {α:Type} (f:α→α) (l:List α) (q:Nat):List α:=(l.take q).map f++l.drop q
section
variable {α:Type} {f:α→α} {l:List α} {q:Nat} {x:α}
theorem mm_len (hq:q≤l.length):(mapMix f l q).length=l.length:=by simp[mapMix];omega
theorem mm_zero:mapMix f l 0=l:=by simp[mapMix]
theorem mm_full:mapMix f l l.length=l.map f:=by simp[mapMix]
theorem mm_at (hq:q≤l.length):(mapMix f l q)[q]?=l[q]?:=by
 unfold mapMix;rw[List.getElem?_append_right (by simp;omega),List.length_map,List.length_take,Nat.min_eq_left hq,Nat.sub_self,List.getElem?_drop,Nat.add_zero]
theorem mm_set (hx:l[q]?=some x):(mapMix f l q).set q (f x)=mapMix f l (q+1):=by
 obtain⟨hq,rfl⟩:=List.getElem?_eq_some_iff.1 hx;unfold mapMix
 have hl:((l.take q).map f).length=q:=by simp;omega
 rw[List.set_append,if_neg (by omega),hl,Nat.sub_self,List.drop_eq_getElem_cons hq,List.set_cons_zero,List.take_succ_eq_append_getElem hq,List.map_append,List.append_assoc];rfl
theorem mm_same (hx:l[q]?=some x) (h:f x=x):mapMix f l q=mapMix f l (q+1):=by
 rw[←mm_set hx,h];apply List.ext_getElem?;intro j
 by_cases hj:q=j
 ·subst hj;have hq:=(List.getElem?_eq_some_iff.1 hx).1;rw[List.getElem?_set_self (by rw[mm_len (by omega)];exact hq),mm_at (by omega),hx]
 ·rw[List.getElem?_set_ne hj]
end
end Go.Proofs.YtnibbldfohbfkaaGreatDoor
