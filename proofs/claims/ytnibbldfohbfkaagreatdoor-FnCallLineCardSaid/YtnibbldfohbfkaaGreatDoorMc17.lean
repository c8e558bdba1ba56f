/- Parts of one proof: what each theorem proves, and its conditions, stand in its own statement. -/
import Derived.Test.YtnibbldfohbfkaaGreatDoorMc13
set_option linter.all false
set_option maxRecDepth 100000
set_option maxHeartbeats 32000000
namespace Go.Proofs.YtnibbldfohbfkaaGreatDoor
open Go.RowKit
theorem era_push {α:Type} {l:List α} {p k:Nat} {y:α} (hy:l[k]?=some y) (h:k≠p):(l.take k).eraseIdx p++[y]=(l.take (k+1)).eraseIdx p:=by
 have hk:=(List.getElem?_eq_some_iff.1 hy).1
 have hl:(l.take k).length=k:=by rw[List.length_take];omega
 have e:l.take (k+1)=l.take k++[y]:=by rw[List.take_add_one,hy];rfl
 by_cases h1:p < k
 ·rw[e,List.eraseIdx_append_of_lt_length (by omega)]
 ·rw[List.eraseIdx_of_length_le (by omega),List.eraseIdx_of_length_le (by rw[List.length_take];omega),e]
theorem era_skipT {α:Type} {l:List α} {k:Nat} {y:α} (hy:l[k]?=some y):(l.take k).eraseIdx k=(l.take (k+1)).eraseIdx k:=by
 have hk:=(List.getElem?_eq_some_iff.1 hy).1
 have hl:(l.take k).length=k:=by rw[List.length_take];omega
 have e:l.take (k+1)=l.take k++[y]:=by rw[List.take_add_one,hy];rfl
 rw[List.eraseIdx_of_length_le (by omega),e,List.eraseIdx_append_of_length_le (by omega),hl,Nat.sub_self];simp
theorem era_lenT {α:Type} {l:List α} {p k:Nat}:((l.take k).eraseIdx p).length≤l.length:=Nat.le_trans (List.eraseIdx_sublist ..).length_le (by rw[List.length_take];omega)
def VTkN (w:World) (B5 B2:Nat) (u:Value) (b1 off nn cn k:Nat) (y:ByteArray) (L:List ByteArray) (RL:List Pl) (base:Nat):Nat→Value→World→Prop:=fun i v wv=>match i with
 | 0=>v=.pointer (some ⟨B5,5,none⟩)
 | 1=>v=u
 | 2=>v=.pointer (some ⟨B2,5,none⟩)
 | 3=>v=.slice (some ⟨b1,off,none⟩) nn cn
 | 4=>v=.int .i64 k
 | 5=>v=.pointer (some ⟨b1,off+k,none⟩)
 | 6=>v=.string y
 | 7=>∃g,v=.slice (some ⟨g,0,none⟩) 1 1∧base≤g∧wv.heap[g]?=some (.cells #[.string y] 9)
 | 8=>Sep w wv (plRow 9 1 encStr1 v (L++[y]) :: RL)
 | 9=>v=.pointer (some ⟨B5,5,none⟩)
 | 10=>Sep w wv (plRow 9 1 encStr1 u L :: RL)
 | _=>True
theorem VTkN.ext {w:World} {B5 B2:Nat} {u:Value} {b1 off nn cn k:Nat} {y:ByteArray} {L:List ByteArray} {RL:List Pl} {base:Nat} (i:Nat) (v:Value) (w1 w2:World) (h:VTkN w B5 B2 u b1 off nn cn k y L RL base i v w1) (hE:Ext w1 w2):VTkN w B5 B2 u b1 off nn cn k y L RL base i v w2:=by
 match i with
 | 0|1|2|3|4|5|6|9=>exact h
 | 7=>obtain⟨g,h1,h2,h3⟩:=h;exact⟨g,h1,h2,heapx hE h3⟩
 | 8=>exact SepM.step (show Sep w w1 _ from h) hE
 | 10=>exact SepM.step (show Sep w w1 _ from h) hE
 | (n+11)=>trivial
def VTkK (w:World) (B5 B2:Nat) (u:Value) (b1 off nn cn k:Nat) (y:Int) (L:List Int) (RL:List Pl) (base:Nat):Nat→Value→World→Prop:=fun i v wv=>match i with
 | 0=>v=.pointer (some ⟨B5,6,none⟩)
 | 1=>v=u
 | 2=>v=.pointer (some ⟨B2,6,none⟩)
 | 3=>v=.slice (some ⟨b1,off,none⟩) nn cn
 | 4=>v=.int .i64 k
 | 5=>v=.pointer (some ⟨b1,off+k,none⟩)
 | 6=>v=.int .i64 y
 | 7=>∃g,v=.slice (some ⟨g,0,none⟩) 1 1∧base≤g∧wv.heap[g]?=some (.cells #[.int .i64 y] 3)
 | 8=>Sep w wv (plRow 3 1 encInt1 v (L++[y]) :: RL)
 | 9=>v=.pointer (some ⟨B5,6,none⟩)
 | 10=>Sep w wv (plRow 3 1 encInt1 u L :: RL)
 | _=>True
theorem VTkK.ext {w:World} {B5 B2:Nat} {u:Value} {b1 off nn cn k:Nat} {y:Int} {L:List Int} {RL:List Pl} {base:Nat} (i:Nat) (v:Value) (w1 w2:World) (h:VTkK w B5 B2 u b1 off nn cn k y L RL base i v w1) (hE:Ext w1 w2):VTkK w B5 B2 u b1 off nn cn k y L RL base i v w2:=by
 match i with
 | 0|1|2|3|4|5|6|9=>exact h
 | 7=>obtain⟨g,h1,h2,h3⟩:=h;exact⟨g,h1,h2,heapx hE h3⟩
 | 8=>exact SepM.step (show Sep w w1 _ from h) hE
 | 10=>exact SepM.step (show Sep w w1 _ from h) hE
 | (n+11)=>trivial
theorem specTake (x:Nd) (an ak:Option Addr) (cn ck:Nat) (s:ByteArray) (w:World) (hA:Asc x.N) (hp:x.N[posOf x.N s]?=some s) (hN:x.N.length≤1048576) (hlen:x.N.length=x.K.length) (hn:Rd 1 encStr1 w an x.N) (hk:Rd 1 encInt1 w ak x.K) :
  Calls Tryz.prog 72 #[ndV x an cn ak ck,.string s] w (RetNd (takeNd x s) w):=by
 obtain⟨f,o,g,m,t,N,K⟩:=x;dsimp only at hA hp hN hlen hn hk ⊢;have HTk:Hid (takeNd ⟨f,o,g,m,t,N,K⟩ s=⟨f,o,g,m,t,N.eraseIdx (posOf N s),K.eraseIdx (posOf N s)⟩):=hd0 rfl;have HA:=hd0 hA;have HP:=hd0 hp;have Hlen:=hd0 hlen;have Hn:=hd0 hn;have Hk:=hd0 hk;obtain⟨p,hpp⟩:∃p,p=posOf N s:=⟨_,rfl⟩;rw[←hpp]at HP HTk;clear hA hp hlen hpp
 go_enter Tryz.func72,Tryz.ntmps72
 have S:=Sep.start w;replace S:=S.alloc_at (n:=w.heap.size) (by simp) #[.bool f,.int .i64 o,.int .i64 g,.int .i64 m,.string t,.slice an N.length cn,.slice ak K.length ck] 89;replace S:=S.alloc_at (n:=(w.heap.size+1)) (by simp) #[.bool false,.int .i64 0,.int .i64 0,.int .i64 0,.string ⟨#[]⟩,.slice none 0 0,.slice none 0 0] 89;replace S:=S.alloc_at (n:=(w.heap.size+2)) (by simp) #[.bool f,.int .i64 o,.int .i64 g,.int .i64 m,.string t,.slice an N.length cn,.slice ak K.length ck] 89
 go_upto_region 2 with fail
 generalize (((w.alloc (.cells #[.bool f,.int .i64 o,.int .i64 g,.int .i64 m,.string t,.slice an N.length cn,.slice ak K.length ck] 89)).alloc (.cells #[.bool false,.int .i64 0,.int .i64 0,.int .i64 0,.string ⟨#[]⟩,.slice none 0 0,.slice none 0 0] 89)).alloc (.cells #[.bool f,.int .i64 o,.int .i64 g,.int .i64 m,.string t,.slice an N.length cn,.slice ak K.length ck] 89))=w1 at *;generalize w.heap.size+2=B5 at *;generalize w.heap.size+1=B4 at *;generalize w.heap.size=B2 at *;replace S:Sep w (w1.alloc (.cells #[] 9)) [plRow 9 1 encStr1 (.slice (some ⟨w1.heap.size,0,none⟩) 0 0) [],plBox B5 #[.bool f,.int .i64 o,.int .i64 g,.int .i64 m,.string t,.slice an N.length cn,.slice ak K.length ck] 89,plBox B4 #[.bool false,.int .i64 0,.int .i64 0,.int .i64 0,.string ⟨#[]⟩,.slice none 0 0,.slice none 0 0] 89,plBox B2 #[.bool f,.int .i64 o,.int .i64 g,.int .i64 m,.string t,.slice an N.length cn,.slice ak K.length ck] 89]:=S.lit0 (by simp) _ _ _;obtain⟨⟨b5c0,b5f0⟩,⟨b5c1,b5f1⟩,⟨b5c2,b5f2⟩,⟨b5c3,b5f3⟩,⟨b5c4,b5f4⟩,⟨b5c5,b5f5⟩,⟨b5c6,b5f6⟩⟩:=bx7 (S.box 1 rfl)
 go_upto_region 3 with fail
 clear b5c0 b5f0 b5c1 b5f1 b5c2 b5f2 b5c3 b5f3 b5c4 b5f4 b5c5 b5f5 b5c6 b5f6;replace S:Sep w ((w1.alloc (.cells #[] 9)).setCell ⟨B5,5,none⟩ (.slice (some ⟨w1.heap.size,0,none⟩) 0 0)) [plRow 9 1 encStr1 (.slice (some ⟨w1.heap.size,0,none⟩) 0 0) [],plBox B5 #[.bool f,.int .i64 o,.int .i64 g,.int .i64 m,.string t,.slice (some ⟨w1.heap.size,0,none⟩) 0 0,.slice ak K.length ck] 89,plBox B4 #[.bool false,.int .i64 0,.int .i64 0,.int .i64 0,.string ⟨#[]⟩,.slice none 0 0,.slice none 0 0] 89,plBox B2 #[.bool f,.int .i64 o,.int .i64 g,.int .i64 m,.string t,.slice an N.length cn,.slice ak K.length ck] 89]:=S.set 1 rfl 5 _;obtain⟨w2,hw2⟩:∃w2,w2=((w1.alloc (.cells #[] 9)).setCell ⟨B5,5,none⟩ (.slice (some ⟨w1.heap.size,0,none⟩) 0 0)):=⟨_,rfl⟩;rw[←hw2]at S ⊢;clear hw2;generalize w1.heap.size=gN at *;have S:Sep w w2 [plRow 9 1 encStr1 (.slice (some ⟨gN,0,none⟩) 0 0) [],plBox B5 #[.bool f,.int .i64 o,.int .i64 g,.int .i64 m,.string t,.slice (some ⟨gN,0,none⟩) 0 0,.slice ak K.length ck] 89,plBox B4 #[.bool false,.int .i64 0,.int .i64 0,.int .i64 0,.string ⟨#[]⟩,.slice none 0 0,.slice none 0 0] 89,plBox B2 #[.bool f,.int .i64 o,.int .i64 g,.int .i64 m,.string t,.slice an N.length cn,.slice ak K.length ck] 89]:=S;replace S:Sep w (w2.alloc (.cells #[] 3)) [plRow 3 1 encInt1 (.slice (some ⟨w2.heap.size,0,none⟩) 0 0) [],plRow 9 1 encStr1 (.slice (some ⟨gN,0,none⟩) 0 0) [],plBox B5 #[.bool f,.int .i64 o,.int .i64 g,.int .i64 m,.string t,.slice (some ⟨gN,0,none⟩) 0 0,.slice ak K.length ck] 89,plBox B4 #[.bool false,.int .i64 0,.int .i64 0,.int .i64 0,.string ⟨#[]⟩,.slice none 0 0,.slice none 0 0] 89,plBox B2 #[.bool f,.int .i64 o,.int .i64 g,.int .i64 m,.string t,.slice an N.length cn,.slice ak K.length ck] 89]:=S.lit0 (by simp) _ _ _;obtain⟨⟨b5c0,b5f0⟩,⟨b5c1,b5f1⟩,⟨b5c2,b5f2⟩,⟨b5c3,b5f3⟩,⟨b5c4,b5f4⟩,⟨b5c5,b5f5⟩,⟨b5c6,b5f6⟩⟩:=bx7 (S.box 2 rfl)
 go_upto_region 4 with fail
 clear b5c0 b5f0 b5c1 b5f1 b5c2 b5f2 b5c3 b5f3 b5c4 b5f4 b5c5 b5f5 b5c6 b5f6;replace S:Sep w ((w2.alloc (.cells #[] 3)).setCell ⟨B5,6,none⟩ (.slice (some ⟨w2.heap.size,0,none⟩) 0 0)) [plRow 3 1 encInt1 (.slice (some ⟨w2.heap.size,0,none⟩) 0 0) [],plRow 9 1 encStr1 (.slice (some ⟨gN,0,none⟩) 0 0) [],plBox B5 #[.bool f,.int .i64 o,.int .i64 g,.int .i64 m,.string t,.slice (some ⟨gN,0,none⟩) 0 0,.slice (some ⟨w2.heap.size,0,none⟩) 0 0] 89,plBox B4 #[.bool false,.int .i64 0,.int .i64 0,.int .i64 0,.string ⟨#[]⟩,.slice none 0 0,.slice none 0 0] 89,plBox B2 #[.bool f,.int .i64 o,.int .i64 g,.int .i64 m,.string t,.slice an N.length cn,.slice ak K.length ck] 89]:=S.set 2 rfl 6 _;generalize ((w2.alloc (.cells #[] 3)).setCell ⟨B5,6,none⟩ (.slice (some ⟨w2.heap.size,0,none⟩) 0 0))=w3 at *;generalize w2.heap.size=gK at *;go_wp2
 go_loopw [6] (fun i wr=>∃(k:Nat) (uN uK:Value) (LN:List ByteArray) (LK:List Int),k≤N.length∧i=.int .i64 k∧LN=(N.take k).eraseIdx p∧LK=(K.take k).eraseIdx p∧Sep w wr [plRow 3 1 encInt1 uK LK,plRow 9 1 encStr1 uN LN,plBox B5 #[.bool f,.int .i64 o,.int .i64 g,.int .i64 m,.string t,uN,uK] 89,plBox B4 #[.bool false,.int .i64 0,.int .i64 0,.int .i64 0,.string ⟨#[]⟩,.slice none 0 0,.slice none 0 0] 89,plBox B2 #[.bool f,.int .i64 o,.int .i64 g,.int .i64 m,.string t,.slice an N.length cn,.slice ak K.length ck] 89]) (fun i _=>N.length - (intOf i).toNat)
 case atStart=>exact⟨0,_,_,[],[],Nat.zero_le _,rfl,by simp,by simp,S⟩
 case round =>
  clear S;obtain⟨k,uN,uK,LN,LK,hkl,rfl,hLN,hLK,S⟩:=hrel;have HLN:=hd0 hLN;have HLK:=hd0 hLK;clear hLN hLK
  by_cases hlt:k < N.length
  rotate_left
  ·obtain rfl:k=N.length:=by omega
   have hni:¬(N.length:Int) < (N.length:Int):=by omega
   have eN:LN=N.eraseIdx p:=by rw[HLN.out,List.take_length]
   have eK:LK=K.eraseIdx p:=by rw[HLK.out,Hlen.out,List.take_length]
   have rowN:=S.row 1 rfl;have rowK:=S.row 0 rfl;obtain⟨aN,cN,rfl,_,_,_⟩:=view_owns encStr1_len rowN;obtain⟨aK,cK,rfl,_,_,_⟩:=view_owns encInt1_len rowK;have SR:Sep w wr [plRow 3 1 encInt1 (.slice aK LK.length cK) LK,plRow 9 1 encStr1 (.slice aN LN.length cN) LN,plBox B5 #[.bool f,.int .i64 o,.int .i64 g,.int .i64 m,.string t,.slice aN LN.length cN,.slice aK LK.length cK] 89,plBox B4 #[.bool false,.int .i64 0,.int .i64 0,.int .i64 0,.string ⟨#[]⟩,.slice none 0 0,.slice none 0 0] 89,plBox B2 #[.bool f,.int .i64 o,.int .i64 g,.int .i64 m,.string t,.slice an N.length cn,.slice ak K.length ck] 89]:=S;have HeN:=hd0 eN;have HeK:=hd0 eK;clear rowN rowK eN eK;have S:=SR;clear SR;obtain⟨⟨b5c0,b5f0⟩,⟨b5c1,b5f1⟩,⟨b5c2,b5f2⟩,⟨b5c3,b5f3⟩,⟨b5c4,b5f4⟩,⟨b5c5,b5f5⟩,⟨b5c6,b5f6⟩⟩:=bx7 (S.box 2 rfl);obtain⟨⟨b4c0,b4f0⟩,⟨b4c1,b4f1⟩,⟨b4c2,b4f2⟩,⟨b4c3,b4f3⟩,⟨b4c4,b4f4⟩,⟨b4c5,b4f5⟩,⟨b4c6,b4f6⟩⟩:=bx7 (S.box 3 rfl);obtain⟨⟨b2c0,b2f0⟩,⟨b2c1,b2f1⟩,⟨b2c2,b2f2⟩,⟨b2c3,b2f3⟩,⟨b2c4,b2f4⟩,⟨b2c5,b2f5⟩,⟨b2c6,b2f6⟩⟩:=bx7 (S.box 4 rfl);go_wp2;clear b5c0 b5f0 b5c1 b5f1 b5c2 b5f2 b5c3 b5f3 b5c4 b5f4 b5c5 b5f5 b5c6 b5f6 b4c0 b4f0 b4c1 b4f1 b4c2 b4f2 b4c3 b4f3 b4c4 b4f4 b4c5 b4f5 b4c6 b4f6 b2c0 b2f0 b2c1 b2f1 b2c2 b2f2 b2c3 b2f3 b2c4 b2f4 b2c5 b2f5 b2c6 b2f6;replace S:Sep w (((((((wr.setCell ⟨B4,0,none⟩ (.bool f)).setCell ⟨B4,1,none⟩ (.int .i64 o)).setCell ⟨B4,2,none⟩ (.int .i64 g)).setCell ⟨B4,3,none⟩ (.int .i64 m)).setCell ⟨B4,4,none⟩ (.string t)).setCell ⟨B4,5,none⟩ (.slice aN LN.length cN)).setCell ⟨B4,6,none⟩ (.slice aK LK.length cK)) [plRow 3 1 encInt1 (.slice aK LK.length cK) LK,plRow 9 1 encStr1 (.slice aN LN.length cN) LN,plBox B5 #[.bool f,.int .i64 o,.int .i64 g,.int .i64 m,.string t,.slice aN LN.length cN,.slice aK LK.length cK] 89,plBox B4 #[.bool f,.int .i64 o,.int .i64 g,.int .i64 m,.string t,.slice aN LN.length cN,.slice aK LK.length cK] 89,plBox B2 #[.bool f,.int .i64 o,.int .i64 g,.int .i64 m,.string t,.slice an N.length cn,.slice ak K.length ck] 89]:=((((((S.set 3 rfl 0 _).set 3 rfl 1 _).set 3 rfl 2 _).set 3 rfl 3 _).set 3 rfl 4 _).set 3 rfl 5 _).set 3 rfl 6 _;generalize (((((((wr.setCell ⟨B4,0,none⟩ (.bool f)).setCell ⟨B4,1,none⟩ (.int .i64 o)).setCell ⟨B4,2,none⟩ (.int .i64 g)).setCell ⟨B4,3,none⟩ (.int .i64 m)).setCell ⟨B4,4,none⟩ (.string t)).setCell ⟨B4,5,none⟩ (.slice aN LN.length cN)).setCell ⟨B4,6,none⟩ (.slice aK LK.length cK))=wD at *;obtain⟨⟨b4c0,b4f0⟩,⟨b4c1,b4f1⟩,⟨b4c2,b4f2⟩,⟨b4c3,b4f3⟩,⟨b4c4,b4f4⟩,⟨b4c5,b4f5⟩,⟨b4c6,b4f6⟩⟩:=bx7 (S.box 3 rfl);refine bodyPost_ret (v:=ndV ⟨f,o,g,m,t,LN,LK⟩ aN cN aK cK) (by simp[results,Tryz.results72,go_sem,b4c0,b4c1,b4c2,b4c3,b4c4,b4c5,b4c6]) rfl ?_;rw[HTk.out,←HeN.out,←HeK.out]
   replace S:Sep w wD [plRow 3 1 encInt1 (.slice aK LK.length cK) LK,plRow 9 1 encStr1 (.slice aN LN.length cN) LN]:=((S.drop 2).drop 2).drop 2;exact⟨aN,cN,aK,cK,rfl,S⟩
  ·have hltk:k < K.length:=by have:=Hlen.out;omega
   obtain⟨y,b1,off,hy,rfl,c0⟩:=atStr hn hlt;have d0:=cell_ext S.ext c0;have Hy:=hd0 hy
   have i0:(k:Int) < (N.length:Int):=by omega
   clear hy;obtain⟨⟨b5c0,b5f0⟩,⟨b5c1,b5f1⟩,⟨b5c2,b5f2⟩,⟨b5c3,b5f3⟩,⟨b5c4,b5f4⟩,⟨b5c5,b5f5⟩,⟨b5c6,b5f6⟩⟩:=bx7 (S.box 2 rfl);obtain⟨⟨b4c0,b4f0⟩,⟨b4c1,b4f1⟩,⟨b4c2,b4f2⟩,⟨b4c3,b4f3⟩,⟨b4c4,b4f4⟩,⟨b4c5,b4f5⟩,⟨b4c6,b4f6⟩⟩:=bx7 (S.box 3 rfl);obtain⟨⟨b2c0,b2f0⟩,⟨b2c1,b2f1⟩,⟨b2c2,b2f2⟩,⟨b2c3,b2f3⟩,⟨b2c4,b2f4⟩,⟨b2c5,b2f5⟩,⟨b2c6,b2f6⟩⟩:=bx7 (S.box 4 rfl)
   by_cases hkp:k=p
   ·subst hkp;obtain rfl:y=s:=Option.some.inj (Hy.out.symm.trans HP.out);have hltk2:=hltk;obtain⟨yk,hyk⟩:∃yk,K[k]?=some yk:=⟨_,List.getElem?_eq_getElem hltk⟩;have HNn:Hid (LN=(N.take (k+1)).eraseIdx k):=hd0 (HLN.out.trans (era_skipT Hy.out));have HNk:Hid (LK=(K.take (k+1)).eraseIdx k):=hd0 (HLK.out.trans (era_skipT hyk));clear hyk;go_wp2;clear b5c0 b5f0 b5c1 b5f1 b5c2 b5f2 b5c3 b5f3 b5c4 b5f4 b5c5 b5f5 b5c6 b5f6 b4c0 b4f0 b4c1 b4f1 b4c2 b4f2 b4c3 b4f3 b4c4 b4f4 b4c5 b4f5 b4c6 b4f6 b2c0 b2f0 b2c1 b2f1 b2c2 b2f2 b2c3 b2f3 b2c4 b2f4 b2c5 b2f5 b2c6 b2f6;go_roundw
    case rel=>exact⟨k+1,uN,uK,LN,LK,by omega,by go_num,HNn.out,HNk.out,S⟩
    case measure=>simp[intOf];omega
   ·have hys:y≠s:=fun e=>hkp (asc_ne HA.out (by rw[←e];exact Hy.out) HP.out)
    have tys:(y.toList == s.toList)=false:=by simpa [bytes_eq]using hys
    have HNn:Hid (LN++[y]=(N.take (k+1)).eraseIdx p):=hd0 (by rw[HLN.out];exact era_push Hy.out hkp)
    have hLl:LN.length≤1048576:=by rw[HLN.out];exact Nat.le_trans era_lenT hN
    have hLl2:LK.length≤1048576:=by rw[HLK.out];exact Nat.le_trans era_lenT (by have:=Hlen.out;omega)
    clear hys
    go_upto_region 8 with fail
    clear d0;clear b5c0 b5f0 b5c1 b5f1 b5c2 b5f2 b5c3 b5f3 b5c4 b5f4 b5c5 b5f5 b5c6 b5f6 b4c0 b4f0 b4c1 b4f1 b4c2 b4f2 b4c3 b4f3 b4c4 b4f4 b4c5 b4f5 b4c6 b4f6 b2c0 b2f0 b2c1 b2f1 b2c2 b2f2 b2c3 b2f3 b2c4 b2f4 b2c5 b2f5 b2c6 b2f6;have hy0:=c0;replace S:Sep w wr [plRow 9 1 encStr1 uN LN,plRow 3 1 encInt1 uK LK,plBox B5 #[.bool f,.int .i64 o,.int .i64 g,.int .i64 m,.string t,uN,uK] 89,plBox B4 #[.bool false,.int .i64 0,.int .i64 0,.int .i64 0,.string ⟨#[]⟩,.slice none 0 0,.slice none 0 0] 89,plBox B2 #[.bool f,.int .i64 o,.int .i64 g,.int .i64 m,.string t,.slice (some ⟨b1,off,none⟩) N.length cn,.slice ak K.length ck] 89]:=S.perm (List.Perm.swap ..);obtain⟨RLx,hRLx⟩:∃RLx,RLx=[plRow 3 1 encInt1 uK LK,plBox B5 #[.bool f,.int .i64 o,.int .i64 g,.int .i64 m,.string t,uN,uK] 89,plBox B4 #[.bool false,.int .i64 0,.int .i64 0,.int .i64 0,.string ⟨#[]⟩,.slice none 0 0,.slice none 0 0] 89,plBox B2 #[.bool f,.int .i64 o,.int .i64 g,.int .i64 m,.string t,.slice (some ⟨b1,off,none⟩) N.length cn,.slice ak K.length ck] 89]:=⟨_,rfl⟩;have Sd:Sep w (World.drew wr) (plRow 9 1 encStr1 uN LN :: [plRow 3 1 encInt1 uK LK,plBox B5 #[.bool f,.int .i64 o,.int .i64 g,.int .i64 m,.string t,uN,uK] 89,plBox B4 #[.bool false,.int .i64 0,.int .i64 0,.int .i64 0,.string ⟨#[]⟩,.slice none 0 0,.slice none 0 0] 89,plBox B2 #[.bool f,.int .i64 o,.int .i64 g,.int .i64 m,.string t,.slice (some ⟨b1,off,none⟩) N.length cn,.slice ak K.length ck] 89]):=S.drew
    have hI0:∀wv,(Chg (fun b=>(uN:Value).ownBlock=some b) (World.drew wr)) wv→Ext w wv:=fun wv hI=>Chg.ext (S.ext.drew) hI (fun b hb=>(S.lt (List.mem_cons_self ..) (show(plRow 9 1 encStr1 uN LN).own b from hb)).1)
    have hb5:∀wv,(Chg (fun b=>(uN:Value).ownBlock=some b) (World.drew wr)) wv→wv.cell? ⟨B5,5,none⟩=some uN:=fun wv hI=>cell_chg (bx (Sd.box 2 rfl) 5 rfl).1 hI (fun hb=>Sd.ne (i:=0) (j:=2) rfl rfl (by decide) (show(plRow 9 1 encStr1 uN LN).own B5 from hb) rfl)
    have hb2:∀wv,(Chg (fun b=>(uN:Value).ownBlock=some b) (World.drew wr)) wv→wv.cell? ⟨B2,5,none⟩=some (.slice (some ⟨b1,off,none⟩) N.length cn):=fun wv hI=>cell_chg (bx (Sd.box 4 rfl) 5 rfl).1 hI (fun hb=>Sd.ne (i:=0) (j:=4) rfl rfl (by decide) (show(plRow 9 1 encStr1 uN LN).own B2 from hb) rfl)
    have hel:∀wv,(Chg (fun b=>(uN:Value).ownBlock=some b) (World.drew wr)) wv→wv.cell? ⟨b1,off+k,none⟩=some (.string y):=fun wv hI=>cell_ext (hI0 wv hI) hy0
    rw[←hRLx]at Sd;have HRL:=hd0 hRLx;clear S hRLx;refine wp_region_t (V:=VTkN w B5 B2 uN b1 off N.length cn k y LN RLx wr.heap.size) (Chg (fun b=>(uN:Value).ownBlock=some b) (World.drew wr)) (fun i=>if i=7 then some 8 else if i=10 then some 8 else none) [] 10 1 rfl (by decide) (by kernel_rfl) (by kernel_rfl) (by kernel_rfl) (by kernel_rfl) (Chg.refl _ _) (fun r hr=>match r,hr with|0,_=>Sd) ?_ ?_
    ·intro i o hi ho vz w4 hvl hE hd hrest;have hsz:wr.heap.size≤w4.heap.size:=hE.size;have hE4:=hI0 w4 hE
     match vz,hvl with
     | [y0,y1,y2,y3,y4,y5,y6,y7,y8,y9],_ =>
     rcases lc10 hi with rfl|rfl|rfl|rfl|rfl|rfl|rfl|rfl|rfl|rfl
     all_goals
      obtain rfl:=Option.some.inj ho
     ·clear hd hrest;simp[putAll,Act.put];go_wp2;exact OneC.mk (VTkN.ext) rfl rfl hE (Ext.refl _)
     ·have q0:y0=.pointer (some ⟨B5,5,none⟩):=hd ⟨0,.data⟩ (by simp) rfl (by decide);have c0:=hb5 w4 hE;subst q0;clear hd hrest;simp[putAll,Act.put];go_wp2;exact OneC.mk (VTkN.ext) rfl rfl hE (Ext.refl _)
     ·clear hd hrest;simp[putAll,Act.put];go_wp2;exact OneC.mk (VTkN.ext) rfl rfl hE (Ext.refl _)
     ·have q2:y2=.pointer (some ⟨B2,5,none⟩):=hd ⟨2,.data⟩ (by simp) rfl (by decide);have c0:=hb2 w4 hE;subst q2;clear hd hrest;simp[putAll,Act.put];go_wp2;exact OneC.mk (VTkN.ext) rfl rfl hE (Ext.refl _)
     ·clear hd hrest;simp[putAll,Act.put];go_wp2;exact OneC.mk (VTkN.ext) rfl rfl hE (Ext.refl _)
     ·have q3:y3=.slice (some ⟨b1,off,none⟩) N.length cn:=hd ⟨3,.data⟩ (by simp) rfl (by decide);have q4:y4=.int .i64 k:=hd ⟨4,.data⟩ (by simp) rfl (by decide);subst q3 q4;clear hd hrest;simp[putAll,Act.put];go_wp2;exact OneC.mk (VTkN.ext) rfl rfl hE (Ext.refl _)
     ·have q5:y5=.pointer (some ⟨b1,off+k,none⟩):=hd ⟨5,.data⟩ (by simp) rfl (by decide);have c0:=hel w4 hE;subst q5;clear hd hrest;simp[putAll,Act.put];go_wp2;exact OneC.mk (VTkN.ext) rfl rfl hE (Ext.refl _)
     ·have q6:y6=.string y:=hd ⟨6,.data⟩ (by simp) rfl (by decide);subst q6;clear hd hrest;simp[putAll,Act.put];go_wp2;exact OneC.mk (VTkN.ext) rfl ⟨_,rfl,hsz,heap_alloc_new w4 _⟩ (hE.trans (Chg.of_ext ((Ext.refl w4).alloc _))) ((Ext.refl _).alloc _)
     ·have q1:y1=uN:=hd ⟨1,.data⟩ (by simp) rfl (by decide);obtain⟨g7,q7,hb7,hg7⟩:∃g,y7=.slice (some ⟨g,0,none⟩) 1 1∧wr.heap.size≤g∧w4.heap[g]?=some (.cells #[.string y] 9):=hd ⟨7,.data⟩ (by simp) rfl (by decide);have S4:Sep w w4 (plRow 9 1 encStr1 uN LN :: RLx):=hrest 0 (by omega) (.inr rfl);have hrow:=S4.row 0 rfl;have hrd1:Rd 1 encStr1 w4 (some ⟨g7,0,none⟩) [y]:=rd_lit [y] encStr1_len hg7 rfl;subst q1 q7;clear hd hrest;simp[putAll,Act.put];refine wpList_append_b rfl _ _ 39 rfl w.heap.size 9 _ 1 _ Tryz.underlying39 infoStr1 rfl (by decide) encStr1_len encStr1_one _ (LN).length LN rfl hrow rfl (some ⟨g7,0,none⟩) 1 1 [y] rfl rfl hrd1 (by omega) (by omega) hE4.size ?_;intro v9 w9 ho9 hgr hblk;have S6:Sep w w9 (plRow 9 1 encStr1 v9 (LN++[y]) :: RLx):=S4.grow 0 rfl hgr ho9 hblk;have hch:=Chg.of_grown hgr;clear ho9 hblk hrow hrd1 S4 hgr;go_wp2;refine⟨rfl,_,rfl,S6,hE.trans hch,fun j u hj hne hcon hnd hnc hv=>?_⟩
      match j with
      | 0|1|2|3|4|5|6|9=>exact hv
      | 7=>exact absurd rfl hcon
      | 8=>exact absurd rfl hne
      | 10=>exact absurd rfl hcon
      | (zz+11)=>trivial
     ·clear hd hrest;simp[putAll,Act.put];go_wp2;exact OneC.mk (VTkN.ext) rfl rfl hE (Ext.refl _)
    ·intro vz wE hvl hE hV _
     match vz,hvl with
     | [y0,y1,y2,y3,y4,y5,y6,y7,y8,y9],_ =>
     have q9:y9=.pointer (some ⟨B5,5,none⟩):=hV 9 (by omega) rfl;have S11:Sep w wE (plRow 9 1 encStr1 y8 (LN++[y]) :: RLx):=hV 8 (by omega) rfl;rw[HRL.out]at S11;have S:=S11;clear hV hI0 hb5 hb2 hel Sd hE S11 HRL hy0;subst q9;simp only[putAll,Act.put,List.take_succ_cons,List.take_zero,List.drop_succ_cons,List.drop_zero];simp;have rowN:=S.row 0 rfl;obtain⟨aN,cN,hv,_,_,_⟩:=view_owns encStr1_len rowN;clear rowN;subst hv;obtain⟨LN2,hLN2⟩:∃LN2,LN2=LN++[y]:=⟨_,rfl⟩;rw[←hLN2]at S HNn ⊢;clear hLN2;obtain⟨⟨b5c0,b5f0⟩,⟨b5c1,b5f1⟩,⟨b5c2,b5f2⟩,⟨b5c3,b5f3⟩,⟨b5c4,b5f4⟩,⟨b5c5,b5f5⟩,⟨b5c6,b5f6⟩⟩:=bx7 (S.box 2 rfl)
     go_upto_region 9 with fail
     clear b5c0 b5f0 b5c1 b5f1 b5c2 b5f2 b5c3 b5f3 b5c4 b5f4 b5c5 b5f5 b5c6 b5f6;replace S:Sep w (wE.setCell ⟨B5,5,none⟩ (.slice aN LN2.length cN)) [plRow 9 1 encStr1 (.slice aN LN2.length cN) LN2,plRow 3 1 encInt1 uK LK,plBox B5 #[.bool f,.int .i64 o,.int .i64 g,.int .i64 m,.string t,.slice aN LN2.length cN,uK] 89,plBox B4 #[.bool false,.int .i64 0,.int .i64 0,.int .i64 0,.string ⟨#[]⟩,.slice none 0 0,.slice none 0 0] 89,plBox B2 #[.bool f,.int .i64 o,.int .i64 g,.int .i64 m,.string t,.slice (some ⟨b1,off,none⟩) N.length cn,.slice ak K.length ck] 89]:=S.set 2 rfl 5 _;generalize (wE.setCell ⟨B5,5,none⟩ (.slice aN LN2.length cN))=wF at *;obtain⟨uN2,huN2⟩:∃v:Value,v=.slice aN LN2.length cN:=⟨_,rfl⟩;rw[←huN2]at S ⊢;clear huN2;obtain⟨y,b3,off3,hy,rfl,c3⟩:=atInt hk hltk;have HNk:Hid (LK++[y]=(K.take (k+1)).eraseIdx p):=hd0 (by rw[HLK.out];exact era_push hy hkp);have hy0:=c3
     have i3:(k:Int) < (K.length:Int):=by omega
     clear hy;replace S:Sep w wF [plRow 3 1 encInt1 uK LK,plRow 9 1 encStr1 uN2 LN2,plBox B5 #[.bool f,.int .i64 o,.int .i64 g,.int .i64 m,.string t,uN2,uK] 89,plBox B4 #[.bool false,.int .i64 0,.int .i64 0,.int .i64 0,.string ⟨#[]⟩,.slice none 0 0,.slice none 0 0] 89,plBox B2 #[.bool f,.int .i64 o,.int .i64 g,.int .i64 m,.string t,.slice (some ⟨b1,off,none⟩) N.length cn,.slice (some ⟨b3,off3,none⟩) K.length ck] 89]:=S.perm (List.Perm.swap ..);obtain⟨RLx,hRLx⟩:∃RLx,RLx=[plRow 9 1 encStr1 uN2 LN2,plBox B5 #[.bool f,.int .i64 o,.int .i64 g,.int .i64 m,.string t,uN2,uK] 89,plBox B4 #[.bool false,.int .i64 0,.int .i64 0,.int .i64 0,.string ⟨#[]⟩,.slice none 0 0,.slice none 0 0] 89,plBox B2 #[.bool f,.int .i64 o,.int .i64 g,.int .i64 m,.string t,.slice (some ⟨b1,off,none⟩) N.length cn,.slice (some ⟨b3,off3,none⟩) K.length ck] 89]:=⟨_,rfl⟩;have Sd:Sep w (World.drew wF) (plRow 3 1 encInt1 uK LK :: [plRow 9 1 encStr1 uN2 LN2,plBox B5 #[.bool f,.int .i64 o,.int .i64 g,.int .i64 m,.string t,uN2,uK] 89,plBox B4 #[.bool false,.int .i64 0,.int .i64 0,.int .i64 0,.string ⟨#[]⟩,.slice none 0 0,.slice none 0 0] 89,plBox B2 #[.bool f,.int .i64 o,.int .i64 g,.int .i64 m,.string t,.slice (some ⟨b1,off,none⟩) N.length cn,.slice (some ⟨b3,off3,none⟩) K.length ck] 89]):=S.drew
     have hI0:∀wv,(Chg (fun b=>(uK:Value).ownBlock=some b) (World.drew wF)) wv→Ext w wv:=fun wv hI=>Chg.ext (S.ext.drew) hI (fun b hb=>(S.lt (List.mem_cons_self ..) (show(plRow 3 1 encInt1 uK LK).own b from hb)).1)
     have hb5:∀wv,(Chg (fun b=>(uK:Value).ownBlock=some b) (World.drew wF)) wv→wv.cell? ⟨B5,6,none⟩=some uK:=fun wv hI=>cell_chg (bx (Sd.box 2 rfl) 6 rfl).1 hI (fun hb=>Sd.ne (i:=0) (j:=2) rfl rfl (by decide) (show(plRow 3 1 encInt1 uK LK).own B5 from hb) rfl)
     have hb2:∀wv,(Chg (fun b=>(uK:Value).ownBlock=some b) (World.drew wF)) wv→wv.cell? ⟨B2,6,none⟩=some (.slice (some ⟨b3,off3,none⟩) K.length ck):=fun wv hI=>cell_chg (bx (Sd.box 4 rfl) 6 rfl).1 hI (fun hb=>Sd.ne (i:=0) (j:=4) rfl rfl (by decide) (show(plRow 3 1 encInt1 uK LK).own B2 from hb) rfl)
     have hel:∀wv,(Chg (fun b=>(uK:Value).ownBlock=some b) (World.drew wF)) wv→wv.cell? ⟨b3,off3+k,none⟩=some (.int .i64 y):=fun wv hI=>cell_ext (hI0 wv hI) hy0
     rw[←hRLx]at Sd;have HRL:=hd0 hRLx;clear S hRLx;refine wp_region_t (V:=VTkK w B5 B2 uK b3 off3 K.length ck k y LK RLx wF.heap.size) (Chg (fun b=>(uK:Value).ownBlock=some b) (World.drew wF)) (fun i=>if i=7 then some 8 else if i=10 then some 8 else none) [] 10 1 rfl (by decide) (by kernel_rfl) (by kernel_rfl) (by kernel_rfl) (by kernel_rfl) (Chg.refl _ _) (fun r hr=>match r,hr with|0,_=>Sd) ?_ ?_
     ·intro i o hi ho vz w4 hvl hE hd hrest;have hsz:wF.heap.size≤w4.heap.size:=hE.size;have hE4:=hI0 w4 hE
      match vz,hvl with
      | [y0,y1,y2,y3,y4,y5,y6,y7,y8,y9],_ =>
      rcases lc10 hi with rfl|rfl|rfl|rfl|rfl|rfl|rfl|rfl|rfl|rfl
      all_goals
       obtain rfl:=Option.some.inj ho
      ·clear hd hrest;simp[putAll,Act.put];go_wp2;exact OneC.mk (VTkK.ext) rfl rfl hE (Ext.refl _)
      ·have q0:y0=.pointer (some ⟨B5,6,none⟩):=hd ⟨0,.data⟩ (by simp) rfl (by decide);have c0:=hb5 w4 hE;subst q0;clear hd hrest;simp[putAll,Act.put];go_wp2;exact OneC.mk (VTkK.ext) rfl rfl hE (Ext.refl _)
      ·clear hd hrest;simp[putAll,Act.put];go_wp2;exact OneC.mk (VTkK.ext) rfl rfl hE (Ext.refl _)
      ·have q2:y2=.pointer (some ⟨B2,6,none⟩):=hd ⟨2,.data⟩ (by simp) rfl (by decide);have c0:=hb2 w4 hE;subst q2;clear hd hrest;simp[putAll,Act.put];go_wp2;exact OneC.mk (VTkK.ext) rfl rfl hE (Ext.refl _)
      ·clear hd hrest;simp[putAll,Act.put];go_wp2;exact OneC.mk (VTkK.ext) rfl rfl hE (Ext.refl _)
      ·have q3:y3=.slice (some ⟨b3,off3,none⟩) K.length ck:=hd ⟨3,.data⟩ (by simp) rfl (by decide);have q4:y4=.int .i64 k:=hd ⟨4,.data⟩ (by simp) rfl (by decide);subst q3 q4;clear hd hrest;simp[putAll,Act.put];go_wp2;exact OneC.mk (VTkK.ext) rfl rfl hE (Ext.refl _)
      ·have q5:y5=.pointer (some ⟨b3,off3+k,none⟩):=hd ⟨5,.data⟩ (by simp) rfl (by decide);have c0:=hel w4 hE;subst q5;clear hd hrest;simp[putAll,Act.put];go_wp2;exact OneC.mk (VTkK.ext) rfl rfl hE (Ext.refl _)
      ·have q6:y6=.int .i64 y:=hd ⟨6,.data⟩ (by simp) rfl (by decide);subst q6;clear hd hrest;simp[putAll,Act.put];go_wp2;exact OneC.mk (VTkK.ext) rfl ⟨_,rfl,hsz,heap_alloc_new w4 _⟩ (hE.trans (Chg.of_ext ((Ext.refl w4).alloc _))) ((Ext.refl _).alloc _)
      ·have q1:y1=uK:=hd ⟨1,.data⟩ (by simp) rfl (by decide);obtain⟨g7,q7,hb7,hg7⟩:∃g,y7=.slice (some ⟨g,0,none⟩) 1 1∧wF.heap.size≤g∧w4.heap[g]?=some (.cells #[.int .i64 y] 3):=hd ⟨7,.data⟩ (by simp) rfl (by decide);have S4:Sep w w4 (plRow 3 1 encInt1 uK LK :: RLx):=hrest 0 (by omega) (.inr rfl);have hrow:=S4.row 0 rfl;have hrd1:Rd 1 encInt1 w4 (some ⟨g7,0,none⟩) [y]:=rd_lit [y] encInt1_len hg7 rfl;subst q1 q7;clear hd hrest;simp[putAll,Act.put];refine wpList_append_b rfl _ _ 86 rfl w.heap.size 3 _ 1 _ Tryz.underlying86 infoInt rfl (by decide) encInt1_len encInt1_one _ (LK).length LK rfl hrow rfl (some ⟨g7,0,none⟩) 1 1 [y] rfl rfl hrd1 (by omega) (by omega) hE4.size ?_;intro v9 w9 ho9 hgr hblk;have S6:Sep w w9 (plRow 3 1 encInt1 v9 (LK++[y]) :: RLx):=S4.grow 0 rfl hgr ho9 hblk;have hch:=Chg.of_grown hgr;clear ho9 hblk hrow hrd1 S4 hgr;go_wp2;refine⟨rfl,_,rfl,S6,hE.trans hch,fun j u hj hne hcon hnd hnc hv=>?_⟩
       match j with
       | 0|1|2|3|4|5|6|9=>exact hv
       | 7=>exact absurd rfl hcon
       | 8=>exact absurd rfl hne
       | 10=>exact absurd rfl hcon
       | (zz+11)=>trivial
      ·clear hd hrest;simp[putAll,Act.put];go_wp2;exact OneC.mk (VTkK.ext) rfl rfl hE (Ext.refl _)
     ·intro vz wE hvl hE hV _
      match vz,hvl with
      | [y0,y1,y2,y3,y4,y5,y6,y7,y8,y9],_ =>
      have q9:y9=.pointer (some ⟨B5,6,none⟩):=hV 9 (by omega) rfl;have S11:Sep w wE (plRow 3 1 encInt1 y8 (LK++[y]) :: RLx):=hV 8 (by omega) rfl;rw[HRL.out]at S11;have S:=S11;clear hV hI0 hb5 hb2 hel Sd hE S11 HRL hy0;subst q9;simp only[putAll,Act.put,List.take_succ_cons,List.take_zero,List.drop_succ_cons,List.drop_zero];simp;have rowK:=S.row 0 rfl;obtain⟨aK,cK,hv,_,_,_⟩:=view_owns encInt1_len rowK;clear rowK;subst hv;obtain⟨LK2,hLK2⟩:∃LK2,LK2=LK++[y]:=⟨_,rfl⟩;rw[←hLK2]at S HNk ⊢;clear hLK2;obtain⟨⟨b5c0,b5f0⟩,⟨b5c1,b5f1⟩,⟨b5c2,b5f2⟩,⟨b5c3,b5f3⟩,⟨b5c4,b5f4⟩,⟨b5c5,b5f5⟩,⟨b5c6,b5f6⟩⟩:=bx7 (S.box 2 rfl);go_wp2;clear b5c0 b5f0 b5c1 b5f1 b5c2 b5f2 b5c3 b5f3 b5c4 b5f4 b5c5 b5f5 b5c6 b5f6;replace S:Sep w (wE.setCell ⟨B5,6,none⟩ (.slice aK LK2.length cK)) [plRow 3 1 encInt1 (.slice aK LK2.length cK) LK2,plRow 9 1 encStr1 uN2 LN2,plBox B5 #[.bool f,.int .i64 o,.int .i64 g,.int .i64 m,.string t,uN2,.slice aK LK2.length cK] 89,plBox B4 #[.bool false,.int .i64 0,.int .i64 0,.int .i64 0,.string ⟨#[]⟩,.slice none 0 0,.slice none 0 0] 89,plBox B2 #[.bool f,.int .i64 o,.int .i64 g,.int .i64 m,.string t,.slice (some ⟨b1,off,none⟩) N.length cn,.slice (some ⟨b3,off3,none⟩) K.length ck] 89]:=S.set 2 rfl 6 _;go_roundw
      case rel=>exact⟨k+1,_,_,LN2,LK2,by omega,by go_num,HNn.out,HNk.out,S⟩
      case measure=>simp[intOf];omega
section
variable {β α:Type} {e nf:Nat} {enc:β→List Value} {P:Pin β α} {M:Nat→Prop} {w0 w:World} {R:List Pl}
theorem SepM.gMove {u u':Value} {vs:List β} {T:List α} {p:Nat} (S:SepM M w0 w (plRow e nf enc u' (vs.eraseIdx p) :: plG e nf enc P u vs T :: R)) :
  SepM M w0 w (plG e nf enc P u' (vs.eraseIdx p) (T.eraseIdx p) :: R):=by
 obtain⟨h1,h2,h3,h4,h5⟩:=S.at_ 1 rfl;have hrow:=S.at_ 0 rfl
 have hat:∀(l:Nat) (s:β),(vs.eraseIdx p)[l]?=some s→vs[if l < p then l else l+1]?=some s:=fun l s hs=>by
  rw[era_at]at hs
  split<;>rename_i h
  ·rwa [if_pos h]at hs
  ·rwa [if_neg h]at hs
 have hatT:∀(l:Nat) (s:α),(T.eraseIdx p)[l]?=some s→T[if l < p then l else l+1]?=some s:=fun l s hs=>by
  rw[era_at]at hs
  split<;>rename_i h
  ·rwa [if_pos h]at hs
  ·rwa [if_neg h]at hs
 have hsub:∀b,(plG e nf enc P u' (vs.eraseIdx p) (T.eraseIdx p)).own b→(plRow e nf enc u' (vs.eraseIdx p)).own b∨(plG e nf enc P u vs T).own b:=fun b hb=>by
  rcases hb with hb|⟨s,hs,hb⟩
  ·exact .inl hb
  ·exact .inr (.inr ⟨s,(List.eraseIdx_sublist ..).subset hs,hb⟩)
 have hap:=S.apart;rw[List.pairwise_cons,List.pairwise_cons]at hap;obtain⟨a1,a2,a3⟩:=hap;refine⟨S.chg,S.small,fun q hq=>?_,fun q hq b hb=>?_,List.pairwise_cons.2 ⟨fun r hr b hb=>?_,a3⟩⟩
 ·rcases List.mem_cons.1 hq with rfl|hq
  ·refine⟨hrow,by rw[List.length_eraseIdx,List.length_eraseIdx,h2],fun l s t hs ht=>?_,fun s hs b hb hb2=>?_,fun l m s s' hlm hs hs' b hb hb'=>?_⟩
   ·exact h3 _ s t (hat l s hs) (hatT l t ht)
   ·exact a1 _ (List.mem_cons_self ..) b (show(plRow e nf enc u' (vs.eraseIdx p)).own b from hb2) (.inr ⟨s,(List.eraseIdx_sublist ..).subset hs,hb⟩)
   ·exact h5 _ _ s s' (fun e=>hlm (by split at e<;>split at e<;>omega)) (hat l s hs) (hat m s' hs') b hb hb'
  ·exact S.ok q (List.mem_cons_of_mem _ (List.mem_cons_of_mem _ hq))
 ·rcases List.mem_cons.1 hq with rfl|hq
  ·rcases hsub b hb with h|h
   ·exact S.base _ (List.mem_cons_self ..) b h
   ·exact S.base _ (List.mem_cons_of_mem _ (List.mem_cons_self ..)) b h
  ·exact S.base q (List.mem_cons_of_mem _ (List.mem_cons_of_mem _ hq)) b hb
 ·rcases hsub b hb with h|h
  ·exact a1 r (List.mem_cons_of_mem _ hr) b h
  ·exact a2 r hr b h
end
def numL (p k n:Nat):List Int:=(List.range n).map (fun j=>if j < k then renum p (j:Int)else 0)
theorem numL_len (p k n:Nat):(numL p k n).length=n:=by simp[numL]
theorem numL_zero (p n:Nat):numL p 0 n=List.replicate n (0:Int):=by
 apply List.ext_getElem?;intro j;simp only[numL,List.getElem?_map,List.getElem?_replicate]
 by_cases hj:j < n
 ·rw[List.getElem?_range hj,if_pos hj];simp
 ·rw[if_neg hj,List.getElem?_eq_none (by simpa using hj)];rfl
theorem numL_set {p k n:Nat}:(numL p k n).set k (renum p (k:Int))=numL p (k+1) n:=by
 apply List.ext_getElem?;intro j
 by_cases hj:j < n
 ·by_cases e:k=j
  ·subst e;rw[List.getElem?_set_self (by rw[numL_len];exact hj)];simp only[numL,List.getElem?_map,List.getElem?_range hj];simp
  ·rw[List.getElem?_set_ne e];simp only[numL,List.getElem?_map,List.getElem?_range hj,Option.map_some]
   by_cases h1:j < k
   ·rw[if_pos h1,if_pos (by omega)]
   ·rw[if_neg h1,if_neg (by omega)]
 ·rw[List.getElem?_eq_none (by rw[List.length_set,numL_len];omega),List.getElem?_eq_none (by rw[numL_len];omega)]
theorem numL_get {p n j:Nat} (hj:j < n):(numL p n n)[j]?=some (renum p (j:Int)):=by
 simp only[numL,List.getElem?_map,List.getElem?_range hj,Option.map_some];rw[if_pos hj]
theorem era_num {α:Type} {l:List α} {p k:Nat} (hk:k≤l.length):(((l.take k).eraseIdx p).length:Int)=renum p (k:Int):=by
 rw[List.length_eraseIdx,List.length_take,Nat.min_eq_left hk];unfold renum
 split
 ·rw[if_pos (by omega)];omega
 ·rw[if_neg (by omega)]
theorem renNd_same {p:Nat} {x:Nd} (h:∀y∈x.K,y≤(p:Int)):renNd p x=x:=by
 have:x.K.map (renum p)=x.K:=by
  conv=>rhs;rw[←List.map_id x.K]
  exact List.map_congr_left (fun y hy=>by unfold renum;rw[if_neg (by have:=h y hy;omega)];rfl)
 unfold renNd;rw[this]
theorem specClean {W0 w:World} {H:List Pl} {g cap:Nat} {vs:List Nc} {T:List Nd} (S:Sep W0 w (plNd (.slice (some ⟨g,0,none⟩) T.length cap) vs T :: H)) {kid:Nat} (hA:AlmostOk T kid) (hk1:1≤kid) (hkT:kid < T.length) (hT:∀x∈T,SmN 1048576 x) :
  Calls Tryz.prog 73 #[.slice (some ⟨g,0,none⟩) T.length cap] w (fun e w'=>∃u' vs',e=.returned u'∧Sep W0 w' (plNd u' vs' (if 0 < (kids T).count (kid:Int)then T else(T.eraseIdx kid).map (renNd kid)) :: H)):=by
 obtain⟨i0,hinfo,hz0,hz1,hz2⟩:=info_parts infoInt;have HA:=hd0 hA;have HT:=hd0 hT;have hmax:=hA.max;have hpos:=hA.pos;obtain⟨p,hp⟩:∃p,p=if 0 < (kids T).count (kid:Int)then T.length else kid:=⟨_,rfl⟩
 have hp1:1≤p:=by rw[hp];split<;>omega
 have HSel:Hid (∀k,k < T.length→((k=0∨0 < (kids T).count (k:Int))↔k≠p)):=hd0 (fun k hk=>by
  by_cases hc:0 < (kids T).count (kid:Int)
  ·rw[if_pos hc]at hp;refine⟨fun _=>by omega,fun _=>?_⟩
   by_cases h0:k=0
   ·exact .inl h0
   ·by_cases hkk:k=kid
    ·rw[hkk];exact .inr hc
    ·exact .inr (hA.links k T[k] (List.getElem?_eq_getElem hk) (by omega) hkk).1
  ·rw[if_neg hc]at hp;refine⟨fun h=>?_,fun h=>?_⟩
   ·rcases h with h|h
    ·omega
    ·intro e;rw[e,hp]at h;exact hc h
   ·by_cases h0:k=0
    ·exact .inl h0
    ·exact .inr (hA.links k T[k] (List.getElem?_eq_getElem hk) (by omega) (by omega)).1)
 have HR:Hid ((if 0 < (kids T).count (kid:Int)then T else(T.eraseIdx kid).map (renNd kid))=(T.eraseIdx p).map (renNd p)):=hd0 (by
  by_cases hc:0 < (kids T).count (kid:Int)
  ·rw[if_pos hc]at hp ⊢;rw[List.eraseIdx_of_length_le (by omega)]
   conv=>lhs;rw[←List.map_id T]
   refine List.map_congr_left (fun x hx=>?_);obtain⟨j,hj⟩:=List.getElem?_of_mem hx;refine(renNd_same (fun y hy=>?_)).symm;have:=inB_iff.1 (nodeOk_kid (hA.nodes j x hj) hy);omega
  ·rw[if_neg hc]at hp ⊢
   rw[hp])
 rw[HR.out]
 have HKd:Hid (∀(k:Nat) x,T[k]?=some x→∀y∈x.K,1≤y∧y < T.length):=hd0 (fun k x hx y hy=>by
  have:=inB_iff.1 (nodeOk_kid (hA.nodes k x hx) hy)
  omega)
 clear HR hp hA hT;have hvl:=plG_len (S.at_ 0 rfl);have HLk:=hd0 (fun h=>(specLinksOf (some ⟨g,0,none⟩) cap T w (by omega) HT.out h));have hrd:=S.rdN 0 rfl
 go_enter Tryz.func73,Tryz.ntmps73
 go_wp2_with fail
 refine(HLk.out hrd).mono ?_;rintro e w1 ⟨v,rfl,⟨L,hoL,hLR⟩,hE1⟩;obtain rfl:=links_almost HA.out hLR;have S1:=(S.step hE1);have S2:Sep W0 w1 (plRow 3 1 encInt1 v (cntL T.length (kids T)) :: plNd (.slice (some ⟨g,0,none⟩) T.length cap) vs T :: H):=S.owned hE1 (Nat.le_refl _) hoL;obtain⟨la,lc,rfl,_,_,_⟩:=view_owns encInt1_len hoL;have hll:(cntL T.length (kids T)).length=T.length:=cntL_len _ _;have HLL:=hd0 hll;have HS2:=hd0 S2;clear S S1 S2 hoL hLR hE1 HLk hrd hll
 go_wp2_with (at_make;refine wpList_make_full _ rfl _ _ 86 rfl w1.heap.size 3 i0 _ 1 Tryz.underlying86 hinfo hz0 hz1 _ _ _ _ T.length rfl rfl rfl rfl ?b1 ?b2 ?b3 ?_)
 case b1=>rw[hz2];omega
 case b2=>unfold maxLen;omega
 case b3=>exact Nat.le_refl _
 intro w2 hown2 hgr2;have hEm:=ext_of_grown hgr2
 have ho2:w2.ownsRow w1.heap.size 3 1 (.slice (some ⟨w1.heap.size,0,none⟩) T.length T.length) (numL p 0 T.length).length ((numL p 0 T.length).flatMap encInt1):=by rw[numL_len,numL_zero,←madeInt];exact hown2
 have S3:=(HS2.out.owned hEm (Nat.le_refl _) ho2).lit0 (n:=w2.heap.size) rfl 89 7 encNc;have HS3:=hd0 S3;clear hown2 hgr2 hEm ho2 S3 HS2;generalize w1.heap.size=gn at *
 go_upto_region 4 with fail
 have HS4:Hid (∃(ao:Option Addr) (co:Nat) (G:List Nc),(.slice (some ⟨w2.heap.size,0,none⟩) 0 0:Value)=.slice ao G.length co∧G=(vs.take 0).eraseIdx p∧Sep W0 (w2.alloc (.cells #[] 89)) (plRow 89 7 encNc (.slice ao G.length co) G :: plRow 3 1 encInt1 (.slice (some ⟨gn,0,none⟩) T.length T.length) (numL p 0 T.length) :: plRow 3 1 encInt1 (.slice la (cntL T.length (kids T)).length lc) (cntL T.length (kids T)) :: plNd (.slice (some ⟨g,0,none⟩) T.length cap) vs T :: H)):=hd0 ⟨_,0,[],rfl,by simp,HS3.out⟩;clear HS3;generalize w2.alloc (.cells #[] 89)=w3 at *;generalize w2.heap.size=B0 at *;go_wp2
 go_loopw [5,6] (fun o i wr=>∃(k:Nat) (ao:Option Addr) (co:Nat) (G:List Nc),k≤T.length∧i=.int .i64 k∧o=.slice ao G.length co∧G=(vs.take k).eraseIdx p∧Sep W0 wr (plRow 89 7 encNc (.slice ao G.length co) G :: plRow 3 1 encInt1 (.slice (some ⟨gn,0,none⟩) T.length T.length) (numL p k T.length) :: plRow 3 1 encInt1 (.slice la (cntL T.length (kids T)).length lc) (cntL T.length (kids T)) :: plNd (.slice (some ⟨g,0,none⟩) T.length cap) vs T :: H)) (fun _ i _=>T.length - (intOf i).toNat)
 case atStart =>
  obtain⟨ao,co,G,h1,h2,h3⟩:=HS4.out;exact⟨0,ao,co,G,Nat.zero_le _,rfl,h1,h2,h3⟩
 case round =>
  clear HS4;obtain⟨k,ao,co,G,hk,rfl,rfl,hG,S⟩:=hrel;have HG:=hd0 hG;clear hG
  by_cases hlt:k < T.length
  ·have i0:(k:Int) < (T.length:Int):=by omega
   have hsl:=HSel.out k hlt
   have e1:(numL p k T.length).set k (G.length:Int)=numL p (k+1) T.length:=by rw[HG.out,era_num (by omega),numL_set]
   have SM:=S.rowSet 1 encInt1_len rfl (numL_len ..).symm k 0 (.int .i64 (G.length:Int)) (G.length:Int) (by rw[numL_len];omega) (by omega) rfl;rw[Nat.mul_one,Nat.add_zero]at SM
   have SM2:Sep W0 (wr.setCell ⟨gn,k,none⟩ (.int .i64 (G.length:Int))) (plRow 89 7 encNc (.slice ao G.length co) G :: plRow 3 1 encInt1 (.slice (some ⟨gn,0,none⟩) T.length T.length) (numL p (k+1) T.length) :: plRow 3 1 encInt1 (.slice la (cntL T.length (kids T)).length lc) (cntL T.length (kids T)) :: plNd (.slice (some ⟨g,0,none⟩) T.length cap) vs T :: H):=by rw[←e1];exact SM
   have f0:=S.row 1 rfl;rw[numL_len]at f0;obtain⟨hs1,f1⟩:=owns_there f0 k (by omega);obtain⟨v0,hv0⟩:=Option.isSome_iff_exists.1 hs1;clear f0 hs1;have HSM:=hd0 SM2;clear SM SM2 S e1
   go_upto_region 8 with fail
   clear f1 hv0;have S:=HSM.out;clear HSM;generalize wr.setCell ⟨gn,k,none⟩ (.int .i64 (G.length:Int))=wA at *;obtain⟨y,bl,ol,hyl,rfl,dl⟩:=atInt (S.rd 2 encInt1_len rfl rfl) (show k < (cntL T.length (kids T)).length by have:=HLL.out;omega);obtain rfl:y=((kids T).count (k:Int):Int):=Option.some.inj (hyl.symm.trans (cntL_get hlt))
   have il:(k:Int) < ((cntL T.length (kids T)).length:Int):=by have:=HLL.out;omega
   clear hyl
   by_cases h0:k=0
   ·have hsel:k≠p:=hsl.1 (.inl h0)
    have t0:((k:Int) == 0)=true:=by simp;omega
    clear hsl h0;have hxk:T[k]?=some T[k]:=List.getElem?_eq_getElem hlt;obtain⟨c,g',cap',hu,_,hck0,hcn0,hcell,_,_,_,_,_,_,_⟩:=S.ndAt 3 rfl hxk
    obtain⟨rfl,rfl⟩:g=g'∧cap=cap':=by simp only[Value.slice.injEq,Option.some.injEq,Addr.mk.injEq,and_true,true_and]at hu;exact⟨hu.1,hu.2⟩
    obtain⟨x,an,cn,ak,ck⟩:=c;have c0:wA.cell? ⟨g,k*7,none⟩=some (.bool x.fold):=hcell 0 _ rfl;have c1:wA.cell? ⟨g,k*7+1,none⟩=some (.int .i64 x.own):=hcell 1 _ rfl;have c2:wA.cell? ⟨g,k*7+2,none⟩=some (.int .i64 x.grp):=hcell 2 _ rfl;have c3:wA.cell? ⟨g,k*7+3,none⟩=some (.int .i64 x.mode):=hcell 3 _ rfl;have c4:wA.cell? ⟨g,k*7+4,none⟩=some (.string x.text):=hcell 4 _ rfl;have c5:wA.cell? ⟨g,k*7+5,none⟩=some (.slice an x.N.length cn):=hcell 5 _ rfl;have c6:wA.cell? ⟨g,k*7+6,none⟩=some (.slice ak x.K.length ck):=hcell 6 _ rfl;have HGn:Hid (G++[(⟨x,an,cn,ak,ck⟩:Nc)]=(vs.take (k+1)).eraseIdx p):=hd0 (by rw[HG.out];exact era_push hck0 hsel)
    have hGl:G.length≤16:=by rw[HG.out];exact Nat.le_trans era_lenT (by omega)
    clear hcell hu hcn0 hck0 hxk;have SA:=S.alloc #[.bool x.fold,.int .i64 x.own,.int .i64 x.grp,.int .i64 x.mode,.string x.text,.slice an x.N.length cn,.slice ak x.K.length ck] 89;have rd1:Rd 7 encNc (wA.alloc (.cells #[.bool x.fold,.int .i64 x.own,.int .i64 x.grp,.int .i64 x.mode,.string x.text,.slice an x.N.length cn,.slice ak x.K.length ck] 89)) (some ⟨wA.heap.size,0,none⟩) [(⟨x,an,cn,ak,ck⟩:Nc)]:=rd_lit_new [(⟨x,an,cn,ak,ck⟩:Nc)] encNc_len rfl;have HSA:=hd0 SA;clear SA S
    go_wp2_with (at_builtin;refine Hid.out (?_:Hid _))
    unfold Hid;refine wpList_append_b rfl _ _ 28 rfl W0.heap.size 89 _ 7 _ Tryz.underlying28 infoNd rfl (by decide) encNc_len encNc_one _ G.length G rfl (HSA.out.row 1 rfl) rfl (some ⟨wA.heap.size,0,none⟩) 1 1 [(⟨x,an,cn,ak,ck⟩:Nc)] rfl rfl rd1 (by omega) (by omega) HSA.out.chg.size ?_;intro v7 w7 ho hgr hblk;obtain⟨a7,c7,hv7,_,_,_⟩:=view_owns encNc_len ho;subst hv7;have SM:=(HSA.out.grow 1 rfl hgr ho hblk).drop 0;have SM2:Sep W0 w7 (plRow 89 7 encNc (.slice a7 (G++[(⟨x,an,cn,ak,ck⟩:Nc)]).length c7) (G++[(⟨x,an,cn,ak,ck⟩:Nc)]) :: plRow 3 1 encInt1 (.slice (some ⟨gn,0,none⟩) T.length T.length) (numL p (k+1) T.length) :: plRow 3 1 encInt1 (.slice (some ⟨bl,ol,none⟩) (cntL T.length (kids T)).length lc) (cntL T.length (kids T)) :: plNd (.slice (some ⟨g,0,none⟩) T.length cap) vs T :: H):=SM;have HSM:=hd0 SM2;clear ho hgr hblk rd1 SM SM2 HSA c0 c1 c2 c3 c4 c5 c6 dl;obtain⟨G2,hG2⟩:∃G2,G2=G++[(⟨x,an,cn,ak,ck⟩:Nc)]:=⟨_,rfl⟩;rw[←hG2]at HSM HGn ⊢;clear hG2;go_wp2;go_roundw
    case rel=>exact⟨k+1,a7,c7,G2,by omega,by go_num,rfl,HGn.out,HSM.out⟩
    case measure=>simp[intOf];omega
   ·by_cases hc:0 < (kids T).count (k:Int)
    ·have hsel:k≠p:=hsl.1 (.inr hc)
     have t0:((k:Int) == 0)=false:=by simp;omega
     have hci:(0:Int) < ((kids T).count (k:Int):Int):=by omega
     clear hsl hc h0;generalize (kids T).count (k:Int)=cnt at *;have hxk:T[k]?=some T[k]:=List.getElem?_eq_getElem hlt;obtain⟨c,g',cap',hu,_,hck0,hcn0,hcell,_,_,_,_,_,_,_⟩:=S.ndAt 3 rfl hxk
     obtain⟨rfl,rfl⟩:g=g'∧cap=cap':=by simp only[Value.slice.injEq,Option.some.injEq,Addr.mk.injEq,and_true,true_and]at hu;exact⟨hu.1,hu.2⟩
     obtain⟨x,an,cn,ak,ck⟩:=c;have c0:wA.cell? ⟨g,k*7,none⟩=some (.bool x.fold):=hcell 0 _ rfl;have c1:wA.cell? ⟨g,k*7+1,none⟩=some (.int .i64 x.own):=hcell 1 _ rfl;have c2:wA.cell? ⟨g,k*7+2,none⟩=some (.int .i64 x.grp):=hcell 2 _ rfl;have c3:wA.cell? ⟨g,k*7+3,none⟩=some (.int .i64 x.mode):=hcell 3 _ rfl;have c4:wA.cell? ⟨g,k*7+4,none⟩=some (.string x.text):=hcell 4 _ rfl;have c5:wA.cell? ⟨g,k*7+5,none⟩=some (.slice an x.N.length cn):=hcell 5 _ rfl;have c6:wA.cell? ⟨g,k*7+6,none⟩=some (.slice ak x.K.length ck):=hcell 6 _ rfl;have HGn:Hid (G++[(⟨x,an,cn,ak,ck⟩:Nc)]=(vs.take (k+1)).eraseIdx p):=hd0 (by rw[HG.out];exact era_push hck0 hsel)
     have hGl:G.length≤16:=by rw[HG.out];exact Nat.le_trans era_lenT (by omega)
     clear hcell hu hcn0 hck0 hxk;have SA:=S.alloc #[.bool x.fold,.int .i64 x.own,.int .i64 x.grp,.int .i64 x.mode,.string x.text,.slice an x.N.length cn,.slice ak x.K.length ck] 89;have rd1:Rd 7 encNc (wA.alloc (.cells #[.bool x.fold,.int .i64 x.own,.int .i64 x.grp,.int .i64 x.mode,.string x.text,.slice an x.N.length cn,.slice ak x.K.length ck] 89)) (some ⟨wA.heap.size,0,none⟩) [(⟨x,an,cn,ak,ck⟩:Nc)]:=rd_lit_new [(⟨x,an,cn,ak,ck⟩:Nc)] encNc_len rfl;have HSA:=hd0 SA;clear SA S
     go_wp2_with (at_builtin;refine Hid.out (?_:Hid _))
     unfold Hid;refine wpList_append_b rfl _ _ 28 rfl W0.heap.size 89 _ 7 _ Tryz.underlying28 infoNd rfl (by decide) encNc_len encNc_one _ G.length G rfl (HSA.out.row 1 rfl) rfl (some ⟨wA.heap.size,0,none⟩) 1 1 [(⟨x,an,cn,ak,ck⟩:Nc)] rfl rfl rd1 (by omega) (by omega) HSA.out.chg.size ?_;intro v7 w7 ho hgr hblk;obtain⟨a7,c7,hv7,_,_,_⟩:=view_owns encNc_len ho;subst hv7;have SM:=(HSA.out.grow 1 rfl hgr ho hblk).drop 0;have SM2:Sep W0 w7 (plRow 89 7 encNc (.slice a7 (G++[(⟨x,an,cn,ak,ck⟩:Nc)]).length c7) (G++[(⟨x,an,cn,ak,ck⟩:Nc)]) :: plRow 3 1 encInt1 (.slice (some ⟨gn,0,none⟩) T.length T.length) (numL p (k+1) T.length) :: plRow 3 1 encInt1 (.slice (some ⟨bl,ol,none⟩) (cntL T.length (kids T)).length lc) (cntL T.length (kids T)) :: plNd (.slice (some ⟨g,0,none⟩) T.length cap) vs T :: H):=SM;have HSM:=hd0 SM2;clear ho hgr hblk rd1 SM SM2 HSA c0 c1 c2 c3 c4 c5 c6 dl;obtain⟨G2,hG2⟩:∃G2,G2=G++[(⟨x,an,cn,ak,ck⟩:Nc)]:=⟨_,rfl⟩;rw[←hG2]at HSM HGn ⊢;clear hG2;go_wp2;go_roundw
     case rel=>exact⟨k+1,a7,c7,G2,by omega,by go_num,rfl,HGn.out,HSM.out⟩
     case measure=>simp[intOf];omega
    ·have hsel:k=p:=Classical.byContradiction (fun h=>(hsl.2 h).elim h0 hc)
     have t0:((k:Int) == 0)=false:=by simp;omega
     have hci:¬(0:Int) < ((kids T).count (k:Int):Int):=by omega
     have hkv:vs[k]?=some vs[k]:=List.getElem?_eq_getElem (by omega);have HGn:Hid (G=(vs.take (k+1)).eraseIdx p):=hd0 (by rw[HG.out,←hsel];exact era_skipT hkv);have HS:=hd0 S;clear hsl hc h0 hsel hkv S;generalize (kids T).count (k:Int)=cnt at *;go_wp2;go_roundw
     case rel=>exact⟨k+1,ao,co,G,by omega,by go_num,rfl,HGn.out,HS.out⟩
     case measure=>simp[intOf];omega
  ·obtain rfl:k=T.length:=by omega
   have hni:¬(T.length:Int) < (T.length:Int):=by omega
   have eG:G=vs.eraseIdx p:=by rw[HG.out,←hvl,List.take_length]
   subst eG;have S5:Sep W0 wr (plNd (.slice ao (vs.eraseIdx p).length co) (vs.eraseIdx p) (T.eraseIdx p) :: plRow 3 1 encInt1 (.slice (some ⟨gn,0,none⟩) T.length T.length) (numL p T.length T.length) :: plRow 3 1 encInt1 (.slice la (cntL T.length (kids T)).length lc) (cntL T.length (kids T)) :: H):=(S.perm (List.Perm.cons _ ((List.Perm.cons _ (List.Perm.swap ..)).trans (List.Perm.swap ..)))).gMove
   have hle:(vs.eraseIdx p).length=(T.eraseIdx p).length:=by rw[List.length_eraseIdx,List.length_eraseIdx,hvl]
   have h2p:0 < (T.eraseIdx p).length:=by rw[List.length_eraseIdx];split<;>omega
   have h2m:(T.eraseIdx p).length≤16:=Nat.le_trans (List.eraseIdx_sublist ..).length_le hmax
   have HT2:Hid (∀y∈T.eraseIdx p,SmN 1048576 y∧∀q∈y.K,1≤q∧q < T.length):=hd0 (fun y hy=>by
    have hy':=(List.eraseIdx_sublist ..).subset hy;obtain⟨l,hl⟩:=List.getElem?_of_mem hy'
    exact⟨HT.out y hy',HKd.out l y hl⟩)
   rw[hle]at S5 ⊢
   obtain⟨g2,rfl⟩:∃g2,ao=some ⟨g2,0,none⟩:=by
    have h:=S5.gRow 0 rfl;rw[hle]at h;obtain⟨g2,h2⟩:=row_blk encNc_len (by rw[hle];exact h) (by omega);exact⟨g2,h2⟩
   have HS5:=hd0 S5;clear S S5 HG HSel hle hvl;generalize vs.eraseIdx p=v2 at *;generalize hT2e:T.eraseIdx p=T2 at *;have HT2e:=hd0 hT2e;clear hT2e;go_wp2;obtain⟨RL,hRL⟩:∃RL,RL=plRow 3 1 encInt1 (.slice (some ⟨gn,0,none⟩) T.length T.length) (numL p T.length T.length) :: plRow 3 1 encInt1 (.slice la (cntL T.length (kids T)).length lc) (cntL T.length (kids T)) :: H:=⟨_,rfl⟩
   have hR0:RL[0]?=some (plRow 3 1 encInt1 (.slice (some ⟨gn,0,none⟩) T.length T.length) (numL p T.length T.length)):=by rw[hRL];rfl
   have HRL:=hd0 hRL;rw[←hRL]at HS5;clear hRL
   go_loopw [7,8] (fun ix _ wz=>∃(q:Nat) (v3:List Nc),q≤T2.length∧ix=.int .i64 q∧Sep W0 wz (plNd (.slice (some ⟨g2,0,none⟩) T2.length co) v3 (mapMix (renNd p) T2 q) :: RL)) (fun ix _ _=>T2.length - (intOf ix).toNat)
   case atStart=>exact⟨0,v2,Nat.zero_le _,rfl,by rw[mm_zero];exact HS5.out⟩
   case round =>
    clear HS5;obtain⟨q,v3,hq,rfl,S⟩:=hrel
    by_cases hlt2:q < T2.length
    rotate_left
    ·obtain rfl:q=T2.length:=by omega
     have hni2:¬(T2.length:Int) < (T2.length:Int):=by omega
     rw[mm_full,HRL.out]at S;have HS:=hd0 (S.keep (plNd (.slice (some ⟨g2,0,none⟩) T2.length co) v3 (T2.map (renNd p)) :: H) (List.Sublist.cons_cons _ (List.Sublist.cons _ (List.Sublist.cons _ (List.Sublist.refl _)))));clear S;go_wp2;go_ret
     first|exact⟨_,v3,rfl,by rw[HT2e.out];exact HS.out⟩|exact⟨_,rfl,v3,by rw[HT2e.out];exact HS.out⟩
    ·obtain⟨x2,hx2⟩:∃x2,T2[q]?=some x2:=⟨_,List.getElem?_eq_getElem hlt2⟩;have Hx2:=hd0 hx2
     have hxm:(mapMix (renNd p) T2 q)[q]?=some x2:=by rw[mm_at (by omega)];exact hx2
     obtain⟨c,g',cap',hu,_,hck,hcn,hcell,_,_,hsk,_,hckl,hrN,hrK⟩:=S.ndAt 0 (u:=.slice (some ⟨g2,0,none⟩) T2.length co) rfl hxm
     obtain⟨rfl,rfl⟩:g2=g'∧co=cap':=by simp only[Value.slice.injEq,Option.some.injEq,Addr.mk.injEq,and_true,true_and]at hu;exact⟨hu.1,hu.2.2⟩
     obtain⟨x2',an2,cn2,ak2,ck2⟩:=c;dsimp only at hcn hckl hsk hrK;subst hcn;obtain⟨x2,hxx⟩:∃z,z=x2':=⟨_,rfl⟩;subst hxx;have HK16:=hd0 (HT2.out x2 (List.mem_of_getElem? hx2)).2;have hKl:x2.K.length≤1048576:=(HT2.out x2 (List.mem_of_getElem? hx2)).1.2.2.2
     have iq:(q:Int) < (T2.length:Int):=by omega
     have HSk:=hd0 hsk;have Hm:=hd0 hxm;have Hcl:=hd0 hckl
     have HSB:Hid (∃v4:List Nc,v4[q]?=some ⟨kidNd x2 (mapMix (renum p) x2.K 0),an2,cn2,ak2,ck2⟩∧Sep W0 wr (plNd (.slice (some ⟨g2,0,none⟩) T2.length co) v4 ((mapMix (renNd p) T2 q).set q (kidNd x2 (mapMix (renum p) x2.K 0))) :: RL)):=hd0 ⟨v3,by rw[mm_zero];exact hck,by
      rw[mm_zero]
      have e:(mapMix (renNd p) T2 q).set q (kidNd x2 x2.K)=mapMix (renNd p) T2 q:=by
       apply List.ext_getElem?;intro j
       by_cases hj:q=j
       ·subst hj;rw[List.getElem?_set_self (List.getElem?_eq_some_iff.1 Hm.out).1,Hm.out];rfl
       ·rw[List.getElem?_set_ne hj]
      rw[e];exact S⟩
     clear hcell hu hck hrN hrK hx2 hxm S hsk hckl;go_wp2
     go_loopw [8] (fun jx wz=>∃(j:Nat) (v4:List Nc),j≤x2.K.length∧jx=.int .i64 j∧v4[q]?=some ⟨kidNd x2 (mapMix (renum p) x2.K j),an2,cn2,ak2,ck2⟩∧Sep W0 wz (plNd (.slice (some ⟨g2,0,none⟩) T2.length co) v4 ((mapMix (renNd p) T2 q).set q (kidNd x2 (mapMix (renum p) x2.K j))) :: RL)) (fun jx _=>x2.K.length - (intOf jx).toNat)
     case atStart =>
      obtain⟨v4,h1,h2⟩:=HSB.out;exact⟨0,v4,Nat.zero_le _,rfl,h1,h2⟩
     case round =>
      clear HSB;obtain⟨j,v4,hj,rfl,hc4,S⟩:=hrel;have hqm:q < (mapMix (renNd p) T2 q).length:=(List.getElem?_eq_some_iff.1 Hm.out).1;have hx4:((mapMix (renNd p) T2 q).set q (kidNd x2 (mapMix (renum p) x2.K j)))[q]?=some (kidNd x2 (mapMix (renum p) x2.K j)):=List.getElem?_set_self hqm;have hml:(mapMix (renum p) x2.K j).length=x2.K.length:=mm_len (by omega);obtain⟨c5,g5,cap5,hu5,_,hck5,_,hcell5,_,_,_,_,_,_,hrK5⟩:=S.ndAt 0 (u:=.slice (some ⟨g2,0,none⟩) T2.length co) rfl hx4
      obtain⟨rfl,rfl⟩:g2=g5∧co=cap5:=by simp only[Value.slice.injEq,Option.some.injEq,Addr.mk.injEq,and_true,true_and]at hu5;exact⟨hu5.1,hu5.2.2⟩
      obtain rfl:c5=⟨kidNd x2 (mapMix (renum p) x2.K j),an2,cn2,ak2,ck2⟩:=Option.some.inj (hck5.symm.trans hc4)
      have c6:wr.cell? ⟨g2,q*7+6,none⟩=some (.slice ak2 x2.K.length ck2):=by
       have h:=hcell5 6 (.slice ak2 (mapMix (renum p) x2.K j).length ck2) rfl;rw[hml]at h;exact h
      clear hcell5 hu5
      by_cases hjl:j < x2.K.length
      rotate_left
      ·obtain rfl:j=x2.K.length:=by omega
       have hni3:¬(x2.K.length:Int) < (x2.K.length:Int):=by omega
       have S5:Sep W0 wr (plNd (.slice (some ⟨g2,0,none⟩) T2.length co) v4 (mapMix (renNd p) T2 (q+1)) :: RL):=by
        have h:=S;rw[mm_full]at h;have e:=mm_set (f:=renNd p) Hx2.out;rw[←e];exact h
       have HS5:=hd0 S5;clear S S5 hx4 hc4 hck5 hrK5 hml;go_wp2;go_roundw
       case rel=>exact⟨q+1,v4,by omega,by go_num,HS5.out⟩
       case measure=>simp[intOf];omega
      ·obtain⟨y,hy⟩:∃y,x2.K[j]?=some y:=⟨_,List.getElem?_eq_getElem hjl⟩
       have hym:(mapMix (renum p) x2.K j)[j]?=some y:=by rw[mm_at (by omega)];exact hy
       obtain⟨y',bk2,ok2,hy',hbk2,dk2⟩:=atInt hrK5 (show j < (kidNd x2 (mapMix (renum p) x2.K j)).K.length by show j < (mapMix (renum p) x2.K j).length;omega);obtain rfl:y=y':=Option.some.inj (hym.symm.trans hy')
       have hak:∃gk2,ak2=some ⟨gk2,0,none⟩:=by
        rcases HSk.out with⟨h1,h2,h3⟩|⟨g2,h2⟩
        ·have:=Hcl.out;omega
        ·exact⟨g2,h2⟩
       obtain⟨gk2,rfl⟩:=hak
       obtain⟨rfl,rfl⟩:gk2=bk2∧0=ok2:=by simpa using hbk2
       rw[Nat.zero_add]at dk2
       have iji:(j:Int) < (x2.K.length:Int):=by omega
       have hy16:=HK16.out y (List.mem_of_getElem? hy);obtain⟨m,rfl⟩:∃m:Nat,y=(m:Int):=⟨y.toNat,by omega⟩;obtain⟨ym,bm,om,hym2,hbm,dm⟩:=atInt (S.rd 1 encInt1_len (a:=some ⟨gn,0,none⟩) (cap:=T.length) (n:=T.length) (l:=numL p T.length T.length) (by rw[List.getElem?_cons_succ];exact hR0) (numL_len ..).symm) (show m < (numL p T.length T.length).length by rw[numL_len];omega)
       obtain⟨rfl,rfl⟩:gn=bm∧0=om:=by simpa using hbm
       rw[Nat.zero_add]at dm;obtain rfl:ym=renum p (m:Int):=Option.some.inj (hym2.symm.trans (numL_get (by omega)))
       have im:(m:Int) < (T.length:Int):=by omega
       have HSp:=hd0 S;have Hx4:=hd0 hx4;have Hc4:=hd0 hc4;have Hy:=hd0 hy;clear S hx4 hc4 hy hck5 hrK5 hy' hym hym2 hml
       go_wp2_with fail
       go_still_tail 17,(by kernel_rfl)
       change wpList _ _ _ _ _ wr.drew
       generalize hw2:wr.drew=wD
       have he2:Ext wr wD:=by rw[←hw2];exact(Ext.refl wr).drew
       have S:=HSp.out.step he2;have hx4:=Hx4.out;have hc4:=Hc4.out;have hy:=Hy.out;replace dk2:=cell_ext he2 dk2;clear c6 dm hw2 he2 HSp Hx4 Hc4 Hy;have S6:=S.ndKid 0 (g:=g2) (n:=T2.length) (cap:=co) rfl hc4 hx4 rfl j (renum p (m:Int)) (by show j < (mapMix (renum p) x2.K j).length;rw[mm_len (by omega)];exact hjl);have pKj:=(S.nd_pin' 0 rfl hc4 hx4).2.1;obtain⟨_,fk⟩:=owns_there pKj j (by rw[Nat.mul_one];show j < (mapMix (renum p) x2.K j).length;rw[mm_len (by omega)];exact hjl);have e1:(mapMix (renum p) x2.K j).set j (renum p (m:Int))=mapMix (renum p) x2.K (j+1):=mm_set (f:=renum p) hy
       have HS6:Hid (∃v5:List Nc,v5[q]?=some ⟨kidNd x2 (mapMix (renum p) x2.K (j+1)),an2,cn2,some ⟨gk2,0,none⟩,ck2⟩∧Sep W0 (wD.setCell ⟨gk2,j,none⟩ (.int .i64 (renum p (m:Int)))) (plNd (.slice (some ⟨g2,0,none⟩) T2.length co) v5 ((mapMix (renNd p) T2 q).set q (kidNd x2 (mapMix (renum p) x2.K (j+1)))) :: RL)):=hd0 ⟨_,List.getElem?_set_self (List.getElem?_eq_some_iff.1 hc4).1 |>.trans (by rw[←e1]),by
        rw[List.set_cons_zero,List.set_set]at S6;rw[←e1]
        exact S6⟩
       generalize renum p (m:Int)=rm at *;clear S S6 hx4 hc4 hy e1 pKj;go_wp2;go_roundw
       case rel =>
        obtain⟨v5,h1,h2⟩:=HS6.out;exact⟨j+1,v5,by omega,by go_num,h1,h2⟩
       case measure=>simp[intOf];omega
theorem specMayDrop (a:Option Addr) (cap:Nat) (T:List Nd) (c:Cr) (s:ByteArray) (w:World) (hs:s.size≤1048576) (hl:T.length≤1048576) (hT:∀x∈T,SmN 1048576 x) (hc:RdN w a T) :
  Calls Tryz.prog 70 #[.slice a T.length cap,.agg #[.int .i64 c.r,.int .i64 c.a,.int .i64 c.s,.int .i64 c.g],.string s] w (RetI (mayDropF T c s false) w):=by
 obtain⟨cr,ca,cs,cg⟩:=c;have HT:=hd0 hT;clear hT;dsimp only
 go_enter Tryz.func70,Tryz.ntmps70
 have S:=Sep.start w;replace S:=S.alloc_at (n:=w.heap.size) (by simp) #[.int .i64 cr,.int .i64 ca,.int .i64 cs,.int .i64 cg] 29
 go_wp2_with fail
 generalize (w.alloc (.cells #[.int .i64 cr,.int .i64 ca,.int .i64 cs,.int .i64 cg] 29))=w1 at *;refine(specAboveOf s w1 hs).mono ?_;rintro e w2 ⟨rfl,hE⟩;replace S:=S.step hE;clear hE;obtain⟨⟨bc0,bf0⟩,⟨bc1,bf1⟩,⟨bc2,bf2⟩,⟨bc3,bf3⟩⟩:=bx4 (S.box 0 rfl);have hab:=abOf_size s
 go_wp2_with fail
 refine(specFindNode a cap T ⟨cr,ca,cs,cg⟩ (abOf s) w2 (by omega) hl HT.out (hc.ext S.ext)).mono ?_;rintro e w3 ⟨rfl,hE⟩;clear bc0 bf0 bc1 bf1 bc2 bf2 bc3 bf3;replace S:=S.step hE;clear hE
 cases hso:(aboveOf s).isSome with
 | false =>
  have HX:=hd0 (md_fault (T:=T) (c:=⟨cr,ca,cs,cg⟩) (full:=false) (by decide) (fa_no hso));clear hso;go_wp2;go_ret;exact⟨by rw[HX.out];rfl,S.ext⟩
 | true =>
  rcases find_cases T ⟨cr,ca,cs,cg⟩ (abOf s)with⟨m,hF,hm,hTr,hCo⟩|⟨f,hf,hF⟩
  rotate_left
  ·have HX:=hd0 (md_fault (full:=false) hf ((fa_fault (T:=T) (c:=⟨cr,ca,cs,cg⟩) hso (by rw[hF];exact hf)).trans (by rw[hF])));rw[hF]
   have tf:(f == 0)=false:=by simpa using hf
   clear hso hF hf;dsimp only;go_wp2;go_ret;exact⟨by rw[HX.out];rfl,S.ext⟩
  ·obtain⟨x,b',off,an,cn,ak,ck,hx,rfl,c0,c1,c2,c3,c4,c5,c6,hcn,hck,hrn,hrk⟩:=atNd hc hm;have Hx:=hd0 hx;have hN:=hTr.nodes m x hx;have HNl:=hd0 hN.len;have hsx:=HT.out x (List.mem_of_getElem? hx);have hNl:x.N.length≤1048576:=hsx.2.1;have HP:=hd0 (fa_at (T:=T) (c:=⟨cr,ca,cs,cg⟩) hso hF hx);have HKp:=hd0 (fun h=>kid_place hN (s:=lastOf s) h);rw[hF]
   have i1:(m:Int) < (T.length:Int):=by omega
   have hE:=S.ext;have d0:=cell_ext hE c0;have d1:=cell_ext hE c1;have d2:=cell_ext hE c2;have d3:=cell_ext hE c3;have d4:=cell_ext hE c4;have d5:=cell_ext hE c5;have d6:=cell_ext hE c6;have Hrn:=hd0 (hrn.ext hE);have Hrk:=hd0 (hrk.ext hE);have HT9:=hd0 (And.intro hTr hCo);have Hso:=hd0 (And.intro hso hF);clear hx hN hsx c0 c1 c2 c3 c4 c5 c6 hcn hck hrn hrk hE hF hTr hso hCo;dsimp only
   cases hf:x.fold with
   | false =>
    have HX:=hd0 (md_fault (full:=false) (by decide) (HP.out.trans (if_pos hf)));rw[hf]at d0;clear hf;go_wp2;go_ret;exact⟨by rw[HX.out];rfl,S.ext⟩
   | true =>
    have Hf:=hd0 hf;have HQ:=hd0 (HP.out.trans (if_neg (by simp[hf])));clear HP;obtain⟨⟨bc0,bf0⟩,⟨bc1,bf1⟩,⟨bc2,bf2⟩,⟨bc3,bf3⟩⟩:=bx4 (S.box 0 rfl)
    have HM:Hid (∀s:ExtW w3,Calls Tryz.prog 74 #[.agg #[.int .i64 cr,.int .i64 ca,.int .i64 cs,.int .i64 cg],.agg #[.bool true,.int .i64 x.own,.int .i64 x.grp,.int .i64 x.mode,.string x.text,.slice an x.N.length cn,.slice ak x.K.length ck],.int .i64 3] s.x fun e w''=>e=.returned (.bool (Cr.may ⟨cr,ca,cs,cg⟩ x 3))∧∃s':ExtW w3,w''=s'.x):=hd0 (fun s=>by
     have hC:=specMay cr ca cs cg 3 x an ak cn ck s.x;rw[hf]at hC
     exact Calls.at_e hC)
    rw[hf]at d0;clear hf
    go_wp2_with fail
    have q0:=ExtW.cell d0;have q1:=ExtW.cell d1;have q2:=ExtW.cell d2;have q3:=ExtW.cell d3;have q4:=ExtW.cell d4;have q5:=ExtW.cell d5;have q6:=ExtW.cell d6;have bl:=ExtW.lt d0;have r0:=ExtW.cell bc0;have r1:=ExtW.cell bc1;have r2:=ExtW.cell bc2;have r3:=ExtW.cell bc3;have br:=ExtW.lt bc0;have S9:=hd0 S;clear d0 d1 d2 d3 d4 d5 d6 bc0 bc1 bc2 bc3 bf0 bf1 bf2 bf3 S
    cases hmay:Cr.may ⟨cr,ca,cs,cg⟩ x 3 with
    | false =>
     have HX:=hd0 (md_fault (full:=false) (by decide) (HQ.out.trans (if_pos hmay)));rw[hmay]at HM;clear hmay
     (refine wp_region_quiet_ext (by kernel_rfl) (by kernel_rfl) ?_;(repeat (go_big_quiet_step ((go_at_call 74;exact HM.out _))));refine wpQuiet_nil ?_;intro _ hw';obtain⟨sq,hw''⟩:=hw';subst hw'')
     obtain⟨w5,hw5⟩:=sq;go_wp2;go_ret;exact⟨by rw[HX.out];rfl,S9.out.ext.trans hw5⟩
    | true =>
     have HQ2:=hd0 (HQ.out.trans (if_neg (by simp[hmay])))
     have hnm:NameOk (lastOf s):=by
      rcases fa_cases T ⟨cr,ca,cs,cg⟩ s with⟨n2,x2,h2⟩|⟨f2,hf2,h2⟩
      ·exact h2.name
      ·have h3:=HQ2.out.symm.trans h2;simp at h3
     have HF:Hid (FaOk T ⟨cr,ca,cs,cg⟩ s m x):=hd0 ⟨HQ2.out,Hx.out,Hf.out,hmay,Hso.out.1,Hso.out.2,HT9.out.1,HT9.out.2,hnm⟩;clear HQ hnm;rw[hmay]at HM;clear hmay
     (refine wp_region_quiet_ext (by kernel_rfl) (by kernel_rfl) ?_;(repeat (go_big_quiet_step ((go_at_call 74;exact HM.out _))));refine wpQuiet_nil ?_;intro _ hw';obtain⟨sq,hw''⟩:=hw';subst hw'')
     obtain⟨w5,hw5⟩:=sq;have p0:=q0 ⟨w5,hw5⟩;have p1:=q1 ⟨w5,hw5⟩;have p2:=q2 ⟨w5,hw5⟩;have p3:=q3 ⟨w5,hw5⟩;have p4:=q4 ⟨w5,hw5⟩;have p5:=q5 ⟨w5,hw5⟩;have p6:=q6 ⟨w5,hw5⟩;have S:=S9.out.step hw5;have hC:=specKid x an ak cn ck (lastOf s) w5 hNl HNl.out (Hrn.out.ext hw5) (Hrk.out.ext hw5);rw[Hf.out]at hC;have HC:=hd0 hC;clear q0 q1 q2 q3 q4 q5 q6 bl r0 r1 r2 r3 br S9 HM hC
     go_wp2_with fail
     refine HC.out.mono ?_;rintro e w6 ⟨rfl,hw6⟩;have d0:=cell_ext hw6 p0;have d1:=cell_ext hw6 p1;have d3:=cell_ext hw6 p3;clear p0 p1 p2 p3 p4 p5 p6 HC;replace S:=S.step hw6
     by_cases hkid:kidOf x.N x.K (lastOf s) < 0
     ·have HX:=hd0 (md_miss (full:=false) HF.out hkid);clear d0 d1 d3;go_wp2;go_ret;exact⟨by rw[HX.out];rfl,S.ext⟩
     ·obtain⟨_,_,_,k4,k5,_⟩:=HKp.out (by omega);obtain⟨kid,hkd⟩:∃kid:Nat,kidOf x.N x.K (lastOf s)=(kid:Int):=⟨_,(Int.toNat_of_nonneg (by omega)).symm⟩;obtain⟨z,b2,off2,zan,zcn,zak,zck,hz,hzb,_,y1,_,_,_,y5,_⟩:=atNd (hc.ext S.ext) (show kid < T.length by omega)
      obtain⟨rfl,rfl⟩:b'=b2∧off=off2:=by simpa using hzb
      have HK:=hd0 (md_kid (full:=false) HF.out hkd hz)
      have i2:(kid:Int) < (T.length:Int):=by omega
      rw[hkd]at hkid ⊢;have z1:=y1;have z5:=y5;clear y1 y5 k4 k5 hkd hz hzb HKp HF HQ2;obtain⟨⟨bc0,bf0⟩,⟨bc1,bf1⟩,⟨bc2,bf2⟩,⟨bc3,bf3⟩⟩:=bx4 (S.box 0 rfl)
      rcases stuck_cases ⟨cr,ca,cs,cg⟩ x z with⟨h1,hst⟩|⟨h1,h2,hst⟩|⟨h1,h2,h3,hst⟩|⟨h1,h2,h3,h4,hst⟩|⟨h1,h2,h3,h4,hst⟩
      ·have Hst:=hd0 hst;have tm:(decide ((512:Int)≤x.mode))=false:=decide_eq_false h1
       have tm2:x.mode < 512:=by omega
       clear h1 hst
       go_wp2_with fail
       have q0:=ExtW.cell d0;have q1:=ExtW.cell d1;have q3:=ExtW.cell d3;have qz1:=ExtW.cell z1;have qz5:=ExtW.cell z5;have bl:=ExtW.lt d0;have r0:=ExtW.cell bc0;have r1:=ExtW.cell bc1;have br:=ExtW.lt bc0;have HSx:=hd0 S;clear d0 d1 d3 z1 z5 bc0 bc1 bc2 bc3 bf0 bf1 bf2 bf3 S
       (refine wp_region_quiet_ext (by kernel_rfl) (by kernel_rfl) ?_;(repeat (go_big_quiet_step ((fail))));refine wpQuiet_nil ?_;intro _ hw';obtain⟨sq,hw''⟩:=hw';subst hw'')
       obtain⟨w9,hw9⟩:=sq;have pz5:=qz5 ⟨w9,hw9⟩;clear q0 q1 q3 qz1 qz5 bl r0 r1 br
       by_cases hz0:0 < z.N.length
       ·have HX:=hd0 (HK.out.trans (by rw[if_neg (by rw[Hst.out];decide),if_pos (by first|exact⟨rfl,hz0⟩|exact⟨trivial,hz0⟩)]))
        have hzi:(0:Int) < (z.N.length:Int):=by omega
        go_wp2;go_ret;exact⟨by rw[HX.out];rfl,HSx.out.ext.trans hw9⟩
       ·have HX:=hd0 (HK.out.trans (by rw[if_neg (by rw[Hst.out];decide),if_neg (fun h=>hz0 h.2)]))
        have hzi:¬(0:Int) < (z.N.length:Int):=by omega
        go_wp2;go_ret;exact⟨by rw[HX.out];rfl,HSx.out.ext.trans hw9⟩
      ·have Hst:=hd0 hst;have tm:(512:Int)≤x.mode:=h1;have ta:ca=0:=h2;subst ta;clear h1 hst
       go_wp2_with fail
       have q0:=ExtW.cell d0;have q1:=ExtW.cell d1;have q3:=ExtW.cell d3;have qz1:=ExtW.cell z1;have qz5:=ExtW.cell z5;have bl:=ExtW.lt d0;have r0:=ExtW.cell bc0;have r1:=ExtW.cell bc1;have br:=ExtW.lt bc0;have HSx:=hd0 S;clear d0 d1 d3 z1 z5 bc0 bc1 bc2 bc3 bf0 bf1 bf2 bf3 S
       (refine wp_region_quiet_ext (by kernel_rfl) (by kernel_rfl) ?_;(repeat (go_big_quiet_step ((fail))));refine wpQuiet_nil ?_;intro _ hw';obtain⟨sq,hw''⟩:=hw';subst hw'')
       obtain⟨w9,hw9⟩:=sq;have pz5:=qz5 ⟨w9,hw9⟩;clear q0 q1 q3 qz1 qz5 bl r0 r1 br
       by_cases hz0:0 < z.N.length
       ·have HX:=hd0 (HK.out.trans (by rw[if_neg (by rw[Hst.out];decide),if_pos (by first|exact⟨rfl,hz0⟩|exact⟨trivial,hz0⟩)]))
        have hzi:(0:Int) < (z.N.length:Int):=by omega
        go_wp2;go_ret;exact⟨by rw[HX.out];rfl,HSx.out.ext.trans hw9⟩
       ·have HX:=hd0 (HK.out.trans (by rw[if_neg (by rw[Hst.out];decide),if_neg (fun h=>hz0 h.2)]))
        have hzi:¬(0:Int) < (z.N.length:Int):=by omega
        go_wp2;go_ret;exact⟨by rw[HX.out];rfl,HSx.out.ext.trans hw9⟩
      ·have Hst:=hd0 hst;have tm:(512:Int)≤x.mode:=h1
       have ta:(ca != 0)=true:=by simpa using h2
       have to_:(ca != x.own)=false:=by simpa using h3
       clear h1 h2 h3 hst
       go_wp2_with fail
       have q0:=ExtW.cell d0;have q1:=ExtW.cell d1;have q3:=ExtW.cell d3;have qz1:=ExtW.cell z1;have qz5:=ExtW.cell z5;have bl:=ExtW.lt d0;have r0:=ExtW.cell bc0;have r1:=ExtW.cell bc1;have br:=ExtW.lt bc0;have HSx:=hd0 S;clear d0 d1 d3 z1 z5 bc0 bc1 bc2 bc3 bf0 bf1 bf2 bf3 S
       (refine wp_region_quiet_ext (by kernel_rfl) (by kernel_rfl) ?_;(repeat (go_big_quiet_step ((fail))));refine wpQuiet_nil ?_;intro _ hw';obtain⟨sq,hw''⟩:=hw';subst hw'')
       obtain⟨w9,hw9⟩:=sq;have pz5:=qz5 ⟨w9,hw9⟩;clear q0 q1 q3 qz1 qz5 bl r0 r1 br
       by_cases hz0:0 < z.N.length
       ·have HX:=hd0 (HK.out.trans (by rw[if_neg (by rw[Hst.out];decide),if_pos (by first|exact⟨rfl,hz0⟩|exact⟨trivial,hz0⟩)]))
        have hzi:(0:Int) < (z.N.length:Int):=by omega
        go_wp2;go_ret;exact⟨by rw[HX.out];rfl,HSx.out.ext.trans hw9⟩
       ·have HX:=hd0 (HK.out.trans (by rw[if_neg (by rw[Hst.out];decide),if_neg (fun h=>hz0 h.2)]))
        have hzi:¬(0:Int) < (z.N.length:Int):=by omega
        go_wp2;go_ret;exact⟨by rw[HX.out];rfl,HSx.out.ext.trans hw9⟩
      ·have Hst:=hd0 hst;have tm:(512:Int)≤x.mode:=h1
       have ta:(ca != 0)=true:=by simpa using h2
       have to_:(ca != x.own)=true:=by simpa using h3
       have tz:(ca != z.own)=false:=by simpa using h4
       clear h1 h2 h3 h4 hst
       go_wp2_with fail
       have q0:=ExtW.cell d0;have q1:=ExtW.cell d1;have q3:=ExtW.cell d3;have qz1:=ExtW.cell z1;have qz5:=ExtW.cell z5;have bl:=ExtW.lt d0;have r0:=ExtW.cell bc0;have r1:=ExtW.cell bc1;have br:=ExtW.lt bc0;have HSx:=hd0 S;clear d0 d1 d3 z1 z5 bc0 bc1 bc2 bc3 bf0 bf1 bf2 bf3 S
       (refine wp_region_quiet_ext (by kernel_rfl) (by kernel_rfl) ?_;(repeat (go_big_quiet_step ((fail))));refine wpQuiet_nil ?_;intro _ hw';obtain⟨sq,hw''⟩:=hw';subst hw'')
       obtain⟨w9,hw9⟩:=sq;have pz5:=qz5 ⟨w9,hw9⟩;clear q0 q1 q3 qz1 qz5 bl r0 r1 br
       by_cases hz0:0 < z.N.length
       ·have HX:=hd0 (HK.out.trans (by rw[if_neg (by rw[Hst.out];decide),if_pos (by first|exact⟨rfl,hz0⟩|exact⟨trivial,hz0⟩)]))
        have hzi:(0:Int) < (z.N.length:Int):=by omega
        go_wp2;go_ret;exact⟨by rw[HX.out];rfl,HSx.out.ext.trans hw9⟩
       ·have HX:=hd0 (HK.out.trans (by rw[if_neg (by rw[Hst.out];decide),if_neg (fun h=>hz0 h.2)]))
        have hzi:¬(0:Int) < (z.N.length:Int):=by omega
        go_wp2;go_ret;exact⟨by rw[HX.out];rfl,HSx.out.ext.trans hw9⟩
      ·have Hst:=hd0 hst;have tm:(512:Int)≤x.mode:=h1
       have ta:(ca != 0)=true:=by simpa using h2
       have to_:(ca != x.own)=true:=by simpa using h3
       have tz:(ca != z.own)=true:=by simpa using h4
       clear h1 h2 h3 h4 hst
       go_wp2_with fail
       have q0:=ExtW.cell d0;have q1:=ExtW.cell d1;have q3:=ExtW.cell d3;have qz1:=ExtW.cell z1;have qz5:=ExtW.cell z5;have bl:=ExtW.lt d0;have r0:=ExtW.cell bc0;have r1:=ExtW.cell bc1;have br:=ExtW.lt bc0;have HSx:=hd0 S;clear d0 d1 d3 z1 z5 bc0 bc1 bc2 bc3 bf0 bf1 bf2 bf3 S
       (refine wp_region_quiet_ext (by kernel_rfl) (by kernel_rfl) ?_;(repeat (go_big_quiet_step ((fail))));refine wpQuiet_nil ?_;intro _ hw';obtain⟨sq,hw''⟩:=hw';subst hw'')
       obtain⟨w9,hw9⟩:=sq;have pz5:=qz5 ⟨w9,hw9⟩;clear q0 q1 q3 qz1 qz5 bl r0 r1 br;have HX:=hd0 (HK.out.trans (by rw[if_pos Hst.out]));go_wp2;go_ret;exact⟨by rw[HX.out];rfl,HSx.out.ext.trans hw9⟩
end Go.Proofs.YtnibbldfohbfkaaGreatDoor
