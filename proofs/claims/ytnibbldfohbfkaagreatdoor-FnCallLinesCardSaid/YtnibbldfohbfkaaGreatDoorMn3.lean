/- Parts of one proof: what each theorem proves, and its conditions, stand in its own statement. -/
import Derived.Test.YtnibbldfohbfkaaGreatDoorMn2
set_option linter.all false
set_option maxRecDepth 100000
set_option maxHeartbeats 32000000
namespace Go.Proofs.YtnibbldfohbfkaaGreatDoor
open Go.RowKit
def NAt (n:Nd) (many k:Nat):Prop:=(∀s,n.N[k]?=some s→NameOk s∧∀m p,k=m+1→n.N[m]?=some p→Op.bytesLess p.toList s.toList=true)∧∀x,n.K[k]?=some x→inB x 1 ((many:Int) - 1)=true
structure NodeOk (n:Nd) (many:Nat):Prop where
 own:inB n.own 0 99=true
 grp:inB n.grp 0 7=true
 mode:inB n.mode 0 1023=true
 len:n.N.length=n.K.length
 file:n.fold=false→n.N.length=0
 dir:n.fold=true→n.text.toList.isEmpty=true
 short:n.text.size≤40
 at_:∀k,k < n.N.length→NAt n many k
theorem isEmpty_size {s:ByteArray}:s.toList.isEmpty=true↔s.size=0:=by
 rw[ByteArray.toList_eq];obtain⟨⟨x⟩⟩:=s
 cases x<;>simp[ByteArray.size]
theorem head_cases (f:Bool) (o g m:Int) (s:ByteArray) (n k:Nat):inB o 0 99=false∨(inB o 0 99=true∧inB g 0 7=false)∨(inB o 0 99=true∧inB g 0 7=true∧inB m 0 1023=false) ∨
  (inB o 0 99=true∧inB g 0 7=true∧inB m 0 1023=true∧n≠k) ∨
  (inB o 0 99=true∧inB g 0 7=true∧inB m 0 1023=true∧n=k∧f=false∧0 < n) ∨
  (inB o 0 99=true∧inB g 0 7=true∧inB m 0 1023=true∧n=k∧f=true∧s.toList.isEmpty=false) ∨
  (inB o 0 99=true∧inB g 0 7=true∧inB m 0 1023=true∧n=k∧f=false∧n=0∧40 < s.size) ∨
  (inB o 0 99=true∧inB g 0 7=true∧inB m 0 1023=true∧n=k∧f=false∧n=0∧s.size≤40) ∨
  (inB o 0 99=true∧inB g 0 7=true∧inB m 0 1023=true∧n=k∧f=true∧s.toList.isEmpty=true):=by
 cases inB o 0 99<;>cases inB g 0 7<;>cases inB m 0 1023<;>cases f<;>cases s.toList.isEmpty<;>simp<;>omega
theorem nat_next {n:Nd} {many k:Nat} (h:∀j,j < k→NAt n many j) (hk:NAt n many k):∀j,j < k+1→NAt n many j:=fun j hj=>by
 rcases Nat.lt_succ_iff_lt_or_eq.1 hj with h'|rfl
 ·exact h j h'
 ·exact hk
theorem nat_zero {n:Nd} {many:Nat} {s:ByteArray} {x:Int} (hs:n.N[0]?=some s) (hx:n.K[0]?=some x) (h1:NameOk s) (h2:inB x 1 ((many:Int) - 1)=true):NAt n many 0 :=
 ⟨fun t ht=>by rw[hs]at ht;cases ht;exact⟨h1,fun m p hm=>by omega⟩,fun y hy=>by rw[hx]at hy;cases hy;exact h2⟩
theorem nat_succ {n:Nd} {many m:Nat} {s p:ByteArray} {x:Int} (hs:n.N[m+1]?=some s) (hp:n.N[m]?=some p) (hx:n.K[m+1]?=some x) (h1:NameOk s) (h2:inB x 1 ((many:Int) - 1)=true) (h3:Op.bytesLess p.toList s.toList=true):NAt n many (m+1) :=
 ⟨fun t ht=>by
  rw[hs]at ht;cases ht;refine⟨h1,fun m' q hm hq=>?_⟩
  obtain rfl:m=m':=by omega
  rw[hp]at hq;cases hq
  exact h3,fun y hy=>by rw[hx]at hy;cases hy;exact h2⟩
theorem nat_bad1 {n:Nd} {many k:Nat} {s:ByteArray} (hs:n.N[k]?=some s) (h:¬NameOk s):¬NodeOk n many:=fun hn=>h ((hn.at_ k (List.getElem?_eq_some_iff.1 hs).1).1 s hs).1
theorem nat_bad2 {n:Nd} {many k:Nat} {s:ByteArray} {x:Int} (hs:n.N[k]?=some s) (hx:n.K[k]?=some x) (h:inB x 1 ((many:Int) - 1)=false):¬NodeOk n many:=fun hn=>by
 have:=(hn.at_ k (List.getElem?_eq_some_iff.1 hs).1).2 x hx;rw[h]at this;cases this
theorem nat_bad3 {n:Nd} {many m:Nat} {s p:ByteArray} (hs:n.N[m+1]?=some s) (hp:n.N[m]?=some p) (h:Op.bytesLess p.toList s.toList=false):¬NodeOk n many:=fun hn=>by
 have:=((hn.at_ (m+1) (List.getElem?_eq_some_iff.1 hs).1).1 s hs).2 m p rfl hp;rw[h]at this;cases this
theorem specNode (x:Nd) (an ak:Option Addr) (cn ck many:Nat) (w:World) (hmany:many≤1048576) (hs:SmN 1048576 x) (hn:Rd 1 encStr1 w an x.N) (hk:Rd 1 encInt1 w ak x.K) :
  Calls Tryz.prog 104 #[.agg #[.bool x.fold,.int .i64 x.own,.int .i64 x.grp,.int .i64 x.mode,.string x.text,.slice an x.N.length cn,.slice ak x.K.length ck],.int .i64 many] w (RetB (NodeOk x many) w):=by
 obtain⟨f,o,g,m,s,N,K⟩:=x;obtain⟨hs1,hs2,hs3,hs4⟩:=hs;dsimp only at hs1 hs2 hs3 hs4 hn hk ⊢;have HS:=hd0 hs3;clear hs3
 rcases head_cases f o g m s N.length K.length with h1|⟨h1,h2⟩|⟨h1,h2,h3⟩|⟨h1,h2,h3,h4⟩|⟨h1,h2,h3,h4,rfl,h6⟩|⟨h1,h2,h3,h4,rfl,h6⟩|⟨h1,h2,h3,h4,rfl,h6,h7⟩|⟨h1,h2,h3,h4,rfl,h6,h7⟩|⟨h1,h2,h3,h4,rfl,h6⟩
 ·have HB:Hid (¬NodeOk ⟨f,o,g,m,s,N,K⟩ many):=hd0 (fun h=>Bool.noConfusion (h1.symm.trans h.own))
  go_enter Tryz.func104,Tryz.ntmps104
  go_wp2_with (go_at_call 68;refine(l1In_is (by assumption) _).mono ?_;rintro e w' ⟨rfl,rfl⟩)
  go_ret;exact RetB.mk false rfl (by simp[HB.out]) ((Ext.refl _).alloc _)
 ·have HB:Hid (¬NodeOk ⟨f,o,g,m,s,N,K⟩ many):=hd0 (fun h=>Bool.noConfusion (h2.symm.trans h.grp))
  go_enter Tryz.func104,Tryz.ntmps104
  go_wp2_with (go_at_call 68;refine(l1In_is (by assumption) _).mono ?_;rintro e w' ⟨rfl,rfl⟩)
  go_ret;exact RetB.mk false rfl (by simp[HB.out]) ((Ext.refl _).alloc _)
 ·have HB:Hid (¬NodeOk ⟨f,o,g,m,s,N,K⟩ many):=hd0 (fun h=>Bool.noConfusion (h3.symm.trans h.mode))
  go_enter Tryz.func104,Tryz.ntmps104
  go_wp2_with (go_at_call 68;refine(l1In_is (by assumption) _).mono ?_;rintro e w' ⟨rfl,rfl⟩)
  go_ret;exact RetB.mk false rfl (by simp[HB.out]) ((Ext.refl _).alloc _)
 ·have HB:Hid (¬NodeOk ⟨f,o,g,m,s,N,K⟩ many):=hd0 (fun h=>h4 h.len)
  have t4:((N.length:Int) != (K.length:Int))=true:=by simp;omega
  clear h4
  go_enter Tryz.func104,Tryz.ntmps104
  go_wp2_with (go_at_call 68;refine(l1In_is (by assumption) _).mono ?_;rintro e w' ⟨rfl,rfl⟩)
  go_ret;exact RetB.mk false rfl (by simp[HB.out]) ((Ext.refl _).alloc _)
 ·have HB:Hid (¬NodeOk ⟨false,o,g,m,s,N,K⟩ many):=hd0 (fun h=>by have:=h.file rfl;simp only at this;omega)
  have t4:((N.length:Int) != (K.length:Int))=false:=by simp;omega
  have hne:¬N=[]:=fun h=>by rw[h]at h6;exact absurd h6 (Nat.lt_irrefl _)
  have t6:(0:Int) < (N.length:Int):=by omega
  clear h4 h6
  go_enter Tryz.func104,Tryz.ntmps104
  go_wp2_with (go_at_call 68;refine(l1In_is (by assumption) _).mono ?_;rintro e w' ⟨rfl,rfl⟩)
  go_ret;exact RetB.mk false rfl (by simp[HB.out]) ((Ext.refl _).alloc _)
 ·have HB:Hid (¬NodeOk ⟨true,o,g,m,s,N,K⟩ many):=hd0 (fun h=>by have:=h.dir rfl;simp only at this;rw[h6]at this;cases this)
  have t4:((N.length:Int) != (K.length:Int))=false:=by simp;omega
  clear h4
  go_enter Tryz.func104,Tryz.ntmps104
  go_wp2_with (go_at_call 68;refine(l1In_is (by assumption) _).mono ?_;rintro e w' ⟨rfl,rfl⟩)
  go_ret;exact RetB.mk false rfl (by simp[HB.out]) ((Ext.refl _).alloc _)
 ·have HB:Hid (¬NodeOk ⟨false,o,g,m,s,N,K⟩ many):=hd0 (fun h=>by have:=h.short;simp only at this;omega);obtain rfl:N=[]:=List.eq_nil_of_length_eq_zero h6;obtain rfl:K=[]:=List.eq_nil_of_length_eq_zero (by rw[←h4];rfl)
  have t7:(40:Int) < (s.size:Int):=by omega
  clear h4 h6 h7;simp only[List.length_nil]
  go_enter Tryz.func104,Tryz.ntmps104
  go_wp2_with (go_at_call 68;refine(l1In_is (by assumption) _).mono ?_;rintro e w' ⟨rfl,rfl⟩)
  go_ret;exact RetB.mk false rfl (by simp[HB.out]) ((Ext.refl _).alloc _)
 ·obtain rfl:N=[]:=List.eq_nil_of_length_eq_zero h6;obtain rfl:K=[]:=List.eq_nil_of_length_eq_zero (by rw[←h4];rfl);have HG:Hid (NodeOk ⟨false,o,g,m,s,[],[]⟩ many):=hd0 ⟨h1,h2,h3,rfl,fun _=>rfl,fun h=>Bool.noConfusion h,h7,fun k hk=>by simp at hk⟩
  have t7:(s.size:Int)≤40:=by omega
  clear h4 h6 h7;simp only[List.length_nil]
  go_enter Tryz.func104,Tryz.ntmps104
  have S:=Sep.start w;replace S:=S.alloc_at (n:=w.heap.size) (by simp) #[.bool false,.int .i64 o,.int .i64 g,.int .i64 m,.string s,.slice an 0 cn,.slice ak 0 ck] 89
  go_upto_region 3 with(go_at_call 68;refine(l1In_is (by assumption) _).mono ?_;rintro e w' ⟨rfl,rfl⟩)
  generalize (w.alloc (.cells #[.bool false,.int .i64 o,.int .i64 g,.int .i64 m,.string s,.slice an 0 cn,.slice ak 0 ck] 89))=w1 at *;obtain⟨⟨bc0,bf0⟩,⟨bc1,bf1⟩,⟨bc2,bf2⟩,⟨bc3,bf3⟩,⟨bc4,bf4⟩,⟨bc5,bf5⟩,⟨bc6,bf6⟩⟩:=bx7 (S.box 0 rfl);go_wp2
  go_loopw [5] (fun i wr=>i=.int .i64 0∧wr=w1) (fun i _=>0)
  case atStart=>exact⟨rfl,rfl⟩
  case round =>
   obtain⟨rfl,rfl⟩:=hrel;go_wp2;go_ret;exact RetB.mk true rfl (by simp[HG.out]) S.ext
 ·have HG:Hid ((∀k,k < N.length→NAt ⟨true,o,g,m,s,N,K⟩ many k)→NodeOk ⟨true,o,g,m,s,N,K⟩ many):=hd0 (fun h=>⟨h1,h2,h3,h4,fun h=>Bool.noConfusion h,fun _=>h6,(by have:=isEmpty_size.1 h6;show s.size≤40;omega),h⟩)
  have t4:((N.length:Int) != (K.length:Int))=false:=by simp;omega
  have t7:(s.size:Int)=0:=by have:=isEmpty_size.1 h6;omega
  have Hlen:=hd0 h4;clear h4
  go_enter Tryz.func104,Tryz.ntmps104
  have S:=Sep.start w;replace S:=S.alloc_at (n:=w.heap.size) (by simp) #[.bool true,.int .i64 o,.int .i64 g,.int .i64 m,.string s,.slice an N.length cn,.slice ak K.length ck] 89
  go_upto_region 3 with(go_at_call 68;refine(l1In_is (by assumption) _).mono ?_;rintro e w' ⟨rfl,rfl⟩)
  generalize (w.alloc (.cells #[.bool true,.int .i64 o,.int .i64 g,.int .i64 m,.string s,.slice an N.length cn,.slice ak K.length ck] 89))=w1 at *;clear t4 t7 h6;go_wp2
  go_loopw [5] (fun i wr=>∃k:Nat,k≤N.length∧i=.int .i64 k∧(∀j,j < k→NAt ⟨true,o,g,m,s,N,K⟩ many j)∧Sep w wr [plBox w.heap.size #[.bool true,.int .i64 o,.int .i64 g,.int .i64 m,.string s,.slice an N.length cn,.slice ak K.length ck] 89]) (fun i _=>N.length - (intOf i).toNat)
  case atStart=>exact⟨0,Nat.zero_le _,rfl,fun _ h=>absurd h (Nat.not_lt_zero _),S⟩
  case round =>
   clear S;obtain⟨k,hkl,rfl,hpre,S⟩:=hrel;have Hpre:=hd0 hpre;clear hpre;obtain⟨⟨bc0,bf0⟩,⟨bc1,bf1⟩,⟨bc2,bf2⟩,⟨bc3,bf3⟩,⟨bc4,bf4⟩,⟨bc5,bf5⟩,⟨bc6,bf6⟩⟩:=bx7 (S.box 0 rfl)
   by_cases hlt:k < N.length
   rotate_left
   ·obtain rfl:k=N.length:=by omega
    have hni:¬(N.length:Int) < (N.length:Int):=by omega
    go_wp2;go_ret;exact RetB.mk true rfl (by simp[HG.out Hpre.out]) S.ext
   ·have hltk:k < K.length:=by have:=Hlen.out;omega
    obtain⟨x,b1,off,hx,rfl,c0⟩:=atStr (hn.ext S.ext) hlt;obtain⟨y,b2,off2,hy,rfl,d0⟩:=atInt (hk.ext S.ext) hltk;have Hx:=hd0 hx;have Hy:=hd0 hy;have Z0:=hd0 (HS.out x (List.mem_of_getElem? hx))
    have i0:(k:Int) < (N.length:Int):=by omega
    have i1:(k:Int) < (K.length:Int):=by omega
    have q0:=ExtW.cell c0;have q1:=ExtW.cell d0;have q5:=ExtW.cell bc5;have q6:=ExtW.cell bc6;have l0:=ExtW.lt c0;have l1:=ExtW.lt d0;have l5:=ExtW.lt bc5;have s2:IntKind.i64.wrap ((many:Int) - 1)=(many:Int) - 1:=IntWalk.i64_in _ (by omega);clear hx hy c0 d0
    go_upto_region 6 with fail
    by_cases hN:NameOk x
    rotate_left
    ·have HN:=hd0 hN;have Hbad:=hd0 (nat_bad1 (n:=⟨true,o,g,m,s,N,K⟩) (many:=many) Hx.out hN);clear hN
     (refine wp_region_quiet_ext (by kernel_rfl) (by kernel_rfl) ?_;(repeat (go_big_quiet_step ((go_at_call 140;exact Calls.at_b (T:=NameOk x) false (by simp[HN.out]) (specNameValid _ _ (Nat.le_trans Z0.out (by omega)))))));refine wpQuiet_nil ?_;intro _ hw';obtain⟨sq,hw''⟩:=hw';subst hw'')
     obtain⟨w3,hw3⟩:=sq;go_wp2;go_ret;exact RetB.mk false rfl (by simp[Hbad.out]) (S.ext.trans hw3)
    ·have HN:=hd0 hN;clear hN
     cases hI:inB y 1 ((many:Int) - 1)with
     | false =>
      have HI:=hd0 hI;have Hbad:=hd0 (nat_bad2 (n:=⟨true,o,g,m,s,N,K⟩) (many:=many) Hx.out Hy.out hI);clear hI
      (refine wp_region_quiet_ext (by kernel_rfl) (by kernel_rfl) ?_;(repeat (go_big_quiet_step ((first|(go_at_call 140;exact Calls.at_b (T:=NameOk x) true (by simp[HN.out]) (specNameValid _ _ (Nat.le_trans Z0.out (by omega))))|(go_at_call 68;exact Calls.at_same (l1In_is HI.out _))))));refine wpQuiet_nil ?_;intro _ hw';obtain⟨sq,hw''⟩:=hw';subst hw'')
      obtain⟨w3,hw3⟩:=sq;go_wp2;go_ret;exact RetB.mk false rfl (by simp[Hbad.out]) (S.ext.trans hw3)
     | true =>
      have HI:=hd0 hI;clear hI
      rcases k with _|j
      ·have Hnext:=hd0 (nat_next Hpre.out (nat_zero (n:=⟨true,o,g,m,s,N,K⟩) (many:=many) Hx.out Hy.out HN.out HI.out));simp only[Nat.add_zero]at q0 q1
       (refine wp_region_quiet_ext (by kernel_rfl) (by kernel_rfl) ?_;(repeat (go_big_quiet_step ((first|(go_at_call 140;exact Calls.at_b (T:=NameOk x) true (by simp[HN.out]) (specNameValid _ _ (Nat.le_trans Z0.out (by omega))))|(go_at_call 68;exact Calls.at_same (l1In_is HI.out _))))));refine wpQuiet_nil ?_;intro _ hw';obtain⟨sq,hw''⟩:=hw';subst hw'')
       obtain⟨w3,hw3⟩:=sq;have S3:=S.step hw3;go_wp2;go_roundw
       case rel=>exact⟨0+1,by omega,by first|rfl|go_num,Hnext.out,S3⟩
       case measure=>first|omega|(simp[intOf];omega)|simp[intOf]
      ·obtain⟨p,b',off',hp,ha,e0⟩:=atStr (hn.ext S.ext) (show j < N.length by omega)
       obtain⟨rfl,rfl⟩:b1=b'∧off=off':=by simpa using ha
       have Hp:=hd0 hp;have p0:=ExtW.cell e0;have bl:=ExtW.lt e0;have s1:IntKind.i64.wrap (j:Int)=(j:Int):=IntWalk.i64_in _ (by omega)
       have j0:(0:Int)≤(j:Int):=by omega
       have j1:(j:Int) < (N.length:Int):=by omega
       have tk:(0:Int) < ((j:Int)+1):=by omega
       clear e0 hp ha
       rcases less_cases p.toList x.toList with⟨e1,e2,e3⟩|⟨e1,e2⟩|⟨e1,e2,e3⟩
       ·have Hnext:=hd0 (nat_next Hpre.out (nat_succ (n:=⟨true,o,g,m,s,N,K⟩) (many:=many) Hx.out Hp.out Hy.out HN.out HI.out e1));clear e1
        (refine wp_region_quiet_ext (by kernel_rfl) (by kernel_rfl) ?_;(repeat (go_big_quiet_step ((first|(go_at_call 140;exact Calls.at_b (T:=NameOk x) true (by simp[HN.out]) (specNameValid _ _ (Nat.le_trans Z0.out (by omega))))|(go_at_call 68;exact Calls.at_same (l1In_is HI.out _))))));refine wpQuiet_nil ?_;intro _ hw';obtain⟨sq,hw''⟩:=hw';subst hw'')
        obtain⟨w3,hw3⟩:=sq;have S3:=S.step hw3;go_wp2;go_roundw
        case rel=>exact⟨j+1+1,by omega,by first|rfl|go_num,Hnext.out,S3⟩
        case measure=>first|omega|(simp[intOf];omega)|simp[intOf]
       ·have Hbad:=hd0 (nat_bad3 (n:=⟨true,o,g,m,s,N,K⟩) (many:=many) Hx.out Hp.out e1);clear e1
        (refine wp_region_quiet_ext (by kernel_rfl) (by kernel_rfl) ?_;(repeat (go_big_quiet_step ((first|(go_at_call 140;exact Calls.at_b (T:=NameOk x) true (by simp[HN.out]) (specNameValid _ _ (Nat.le_trans Z0.out (by omega))))|(go_at_call 68;exact Calls.at_same (l1In_is HI.out _))))));refine wpQuiet_nil ?_;intro _ hw';obtain⟨sq,hw''⟩:=hw';subst hw'')
        obtain⟨w3,hw3⟩:=sq;go_wp2;go_ret;exact RetB.mk false rfl (by simp[Hbad.out]) (S.ext.trans hw3)
       ·have Hbad:=hd0 (nat_bad3 (n:=⟨true,o,g,m,s,N,K⟩) (many:=many) Hx.out Hp.out e1);clear e1
        (refine wp_region_quiet_ext (by kernel_rfl) (by kernel_rfl) ?_;(repeat (go_big_quiet_step ((first|(go_at_call 140;exact Calls.at_b (T:=NameOk x) true (by simp[HN.out]) (specNameValid _ _ (Nat.le_trans Z0.out (by omega))))|(go_at_call 68;exact Calls.at_same (l1In_is HI.out _))))));refine wpQuiet_nil ?_;intro _ hw';obtain⟨sq,hw''⟩:=hw';subst hw'')
        obtain⟨w3,hw3⟩:=sq;go_wp2;go_ret;exact RetB.mk false rfl (by simp[Hbad.out]) (S.ext.trans hw3)
def NmAt (N:List ByteArray) (k:Nat):Prop:=∀s,N[k]?=some s→NameOk s∧∀m p,k=m+1→N[m]?=some p→Op.bytesLess p.toList s.toList=true
structure NodeI (n:Nd):Prop where
 own:inB n.own 0 99=true
 grp:inB n.grp 0 7=true
 mode:inB n.mode 0 1023=true
 file:n.fold=false→n.text.size≤40∧n.N=[]∧n.K=[]
 dir:n.fold=true→n.text.toList.isEmpty=true∧n.N.length=n.K.length∧∀k,k < n.N.length→NmAt n.N k
theorem nodeOk_iff {n:Nd} {many:Nat}:NodeOk n many↔NodeI n∧∀x∈n.K,inB x 1 ((many:Int) - 1)=true:=by
 constructor
 ·intro h;refine⟨⟨h.own,h.grp,h.mode,fun hf=>?_,fun hf=>⟨h.dir hf,h.len,fun k hk=>(h.at_ k hk).1⟩⟩,fun x hx=>?_⟩
  ·have h1:=h.file hf;exact⟨h.short,List.eq_nil_of_length_eq_zero h1,List.eq_nil_of_length_eq_zero (by rw[←h.len];exact h1)⟩
  ·obtain⟨k,hk⟩:=List.getElem?_of_mem hx;exact(h.at_ k (by rw[h.len];exact(List.getElem?_eq_some_iff.1 hk).1)).2 x hk
 ·rintro⟨h,hk⟩
  cases hf:n.fold with
  | false =>
   obtain⟨h1,h2,h3⟩:=h.file hf;exact⟨h.own,h.grp,h.mode,(by rw[h2,h3];rfl),fun _=>(by rw[h2];rfl),fun h=>Bool.noConfusion (hf.symm.trans h),h1,fun k hk=>by rw[h2]at hk;simp at hk⟩
  | true =>
   obtain⟨h1,h2,h3⟩:=h.dir hf;exact⟨h.own,h.grp,h.mode,h2,fun h=>Bool.noConfusion (hf.symm.trans h),fun _=>h1,(by have:=isEmpty_size.1 h1;omega),fun k hk'=>⟨h3 k hk',fun x hx=>hk x (List.mem_of_getElem? hx)⟩⟩
theorem nm_next {N:List ByteArray} {k:Nat} (h:∀j,j < k→NmAt N j) (hk:NmAt N k):∀j,j < k+1→NmAt N j:=fun j hj=>by
 rcases Nat.lt_succ_iff_lt_or_eq.1 hj with h'|rfl
 ·exact h j h'
 ·exact hk
theorem nm_zero {N:List ByteArray} {s:ByteArray} (hs:N[0]?=some s) (h1:NameOk s):NmAt N 0:=fun t ht=>by
 rw[hs]at ht;cases ht;exact⟨h1,fun m p hm=>by omega⟩
theorem nm_succ {N:List ByteArray} {m:Nat} {s p:ByteArray} (hs:N[m+1]?=some s) (hp:N[m]?=some p) (h1:NameOk s) (h3:Op.bytesLess p.toList s.toList=true):NmAt N (m+1):=fun t ht=>by
 rw[hs]at ht;cases ht;refine⟨h1,fun m' q hm hq=>?_⟩
 obtain rfl:m=m':=by omega
 rw[hp]at hq;cases hq;exact h3
theorem nm_bad1 {o g m:Int} {t:ByteArray} {N:List ByteArray} {K:List Int} {k:Nat} {s:ByteArray} (hs:N[k]?=some s) (h:¬NameOk s):¬NodeI ⟨true,o,g,m,t,N,K⟩:=fun hn=>h ((((hn.dir rfl).2.2 k (List.getElem?_eq_some_iff.1 hs).1)) s hs).1
theorem nm_bad3 {o g m:Int} {t:ByteArray} {N:List ByteArray} {K:List Int} {j:Nat} {s p:ByteArray} (hs:N[j+1]?=some s) (hp:N[j]?=some p) (h:Op.bytesLess p.toList s.toList=false):¬NodeI ⟨true,o,g,m,t,N,K⟩:=fun hn=>by
 have:=((((hn.dir rfl).2.2 (j+1) (List.getElem?_eq_some_iff.1 hs).1)) s hs).2 j p rfl hp;rw[h]at this;cases this
theorem isGroup_is {n:Int} {b:Bool} (h:inB n 0 7=b) (w:World):Calls Tryz.prog 139 #[.int .i64 n] w fun e w'=>e=.returned (.bool b)∧w=w':=by
 go_enter Tryz.func139,Tryz.ntmps139
 go_wp2_with (go_at_call 91;refine(within_is h _).mono ?_;rintro e w' ⟨rfl,rfl⟩)
 go_ret;exact⟨rfl,rfl⟩
theorem isMode_is {n:Int} {b:Bool} (h:inB n 0 1023=b) (w:World):Calls Tryz.prog 114 #[.int .i64 n] w fun e w'=>e=.returned (.bool b)∧w=w':=by
 go_enter Tryz.func114,Tryz.ntmps114
 go_wp2_with (go_at_call 91;refine(within_is h _).mono ?_;rintro e w' ⟨rfl,rfl⟩)
 go_ret;exact⟨rfl,rfl⟩
theorem headI_cases (f:Bool) (o g m:Int) (s:ByteArray) (N:List ByteArray) (K:List Int):inB o 0 99=false∨(inB o 0 99=true∧inB g 0 7=false)∨(inB o 0 99=true∧inB g 0 7=true∧inB m 0 1023=false) ∨
  (inB o 0 99=true∧inB g 0 7=true∧inB m 0 1023=true∧f=false∧40 < s.size) ∨
  (inB o 0 99=true∧inB g 0 7=true∧inB m 0 1023=true∧f=false∧s.size≤40∧¬N=[]) ∨
  (inB o 0 99=true∧inB g 0 7=true∧inB m 0 1023=true∧f=false∧s.size≤40∧N=[]∧¬K=[]) ∨
  (inB o 0 99=true∧inB g 0 7=true∧inB m 0 1023=true∧f=false∧s.size≤40∧N=[]∧K=[]) ∨
  (inB o 0 99=true∧inB g 0 7=true∧inB m 0 1023=true∧f=true):=by
 cases inB o 0 99<;>cases inB g 0 7<;>cases inB m 0 1023<;>cases f<;>by_cases h:N=[]<;>by_cases k:K=[]<;>simp[h,k]<;>omega
theorem implNode (x:Nd) (an ak:Option Addr) (cn ck:Nat) (w:World) (hs:SmN 1048576 x) (hn:Rd 1 encStr1 w an x.N) :
  Calls Tryz.prog 101 #[.agg #[.bool x.fold,.int .i64 x.own,.int .i64 x.grp,.int .i64 x.mode,.string x.text,.slice an x.N.length cn,.slice ak x.K.length ck]] w (RetB (NodeI x) w):=by
 obtain⟨f,o,g,m,s,N,K⟩:=x;obtain⟨hs1,hs2,hs3,hs4⟩:=hs;dsimp only at hs1 hs2 hs3 hs4 hn ⊢;have HS:=hd0 hs3;clear hs3
 rcases headI_cases f o g m s N K with h1|⟨h1,h2⟩|⟨h1,h2,h3⟩|⟨h1,h2,h3,rfl,h4⟩|⟨h1,h2,h3,rfl,h4,h5⟩|⟨h1,h2,h3,rfl,h4,rfl,h6⟩|⟨h1,h2,h3,rfl,h4,rfl,rfl⟩|⟨h1,h2,h3,rfl⟩
 ·have HB:Hid (¬NodeI ⟨f,o,g,m,s,N,K⟩):=hd0 (fun h=>Bool.noConfusion (h1.symm.trans h.own))
  go_enter Tryz.func101,Tryz.ntmps101
  go_wp2_with (first|(go_at_call 102;refine(isUser_is (by assumption) _).mono ?_;rintro e w' ⟨rfl,rfl⟩)|(go_at_call 139;refine(isGroup_is (by assumption) _).mono ?_;rintro e w' ⟨rfl,rfl⟩)|(go_at_call 114;refine(isMode_is (by assumption) _).mono ?_;rintro e w' ⟨rfl,rfl⟩))
  go_ret;exact RetB.mk false rfl (by simp[HB.out]) ((Ext.refl _).alloc _)
 ·have HB:Hid (¬NodeI ⟨f,o,g,m,s,N,K⟩):=hd0 (fun h=>Bool.noConfusion (h2.symm.trans h.grp))
  go_enter Tryz.func101,Tryz.ntmps101
  go_wp2_with (first|(go_at_call 102;refine(isUser_is (by assumption) _).mono ?_;rintro e w' ⟨rfl,rfl⟩)|(go_at_call 139;refine(isGroup_is (by assumption) _).mono ?_;rintro e w' ⟨rfl,rfl⟩)|(go_at_call 114;refine(isMode_is (by assumption) _).mono ?_;rintro e w' ⟨rfl,rfl⟩))
  go_ret;exact RetB.mk false rfl (by simp[HB.out]) ((Ext.refl _).alloc _)
 ·have HB:Hid (¬NodeI ⟨f,o,g,m,s,N,K⟩):=hd0 (fun h=>Bool.noConfusion (h3.symm.trans h.mode))
  go_enter Tryz.func101,Tryz.ntmps101
  go_wp2_with (first|(go_at_call 102;refine(isUser_is (by assumption) _).mono ?_;rintro e w' ⟨rfl,rfl⟩)|(go_at_call 139;refine(isGroup_is (by assumption) _).mono ?_;rintro e w' ⟨rfl,rfl⟩)|(go_at_call 114;refine(isMode_is (by assumption) _).mono ?_;rintro e w' ⟨rfl,rfl⟩))
  go_ret;exact RetB.mk false rfl (by simp[HB.out]) ((Ext.refl _).alloc _)
 ·have HB:Hid (¬NodeI ⟨false,o,g,m,s,N,K⟩):=hd0 (fun h=>by have:=(h.file rfl).1;simp only at this;omega)
  have t4:(40:Int) < (s.size:Int):=by omega
  clear h4
  go_enter Tryz.func101,Tryz.ntmps101
  go_wp2_with (first|(go_at_call 102;refine(isUser_is (by assumption) _).mono ?_;rintro e w' ⟨rfl,rfl⟩)|(go_at_call 139;refine(isGroup_is (by assumption) _).mono ?_;rintro e w' ⟨rfl,rfl⟩)|(go_at_call 114;refine(isMode_is (by assumption) _).mono ?_;rintro e w' ⟨rfl,rfl⟩))
  all_goals go_ret
  all_goals exact RetB.mk false (by first|rfl|(simp;done)|(simp;omega)) (by simp[HB.out]) ((Ext.refl _).alloc _)
 ·have HB:Hid (¬NodeI ⟨false,o,g,m,s,N,K⟩):=hd0 (fun h=>h5 (h.file rfl).2.1)
  have t4:(s.size:Int)≤40:=by omega
  have t5:((N.length:Int) == 0)=false:=by
   have:N.length≠0:=fun h=>h5 (List.eq_nil_of_length_eq_zero h)
   simp;exact h5
  clear h4
  go_enter Tryz.func101,Tryz.ntmps101
  go_wp2_with (first|(go_at_call 102;refine(isUser_is (by assumption) _).mono ?_;rintro e w' ⟨rfl,rfl⟩)|(go_at_call 139;refine(isGroup_is (by assumption) _).mono ?_;rintro e w' ⟨rfl,rfl⟩)|(go_at_call 114;refine(isMode_is (by assumption) _).mono ?_;rintro e w' ⟨rfl,rfl⟩))
  all_goals go_ret
  all_goals exact RetB.mk false (by first|rfl|(simp;done)|(simp[h5];done)|(simp;omega)) (by simp[HB.out]) ((Ext.refl _).alloc _)
 ·have HB:Hid (¬NodeI ⟨false,o,g,m,s,[],K⟩):=hd0 (fun h=>h6 (h.file rfl).2.2)
  have t4:(s.size:Int)≤40:=by omega
  have t5:((K.length:Int) == 0)=false:=by
   have:K.length≠0:=fun h=>h6 (List.eq_nil_of_length_eq_zero h)
   simp;exact h6
  clear h4;simp only[List.length_nil]
  go_enter Tryz.func101,Tryz.ntmps101
  go_wp2_with (first|(go_at_call 102;refine(isUser_is (by assumption) _).mono ?_;rintro e w' ⟨rfl,rfl⟩)|(go_at_call 139;refine(isGroup_is (by assumption) _).mono ?_;rintro e w' ⟨rfl,rfl⟩)|(go_at_call 114;refine(isMode_is (by assumption) _).mono ?_;rintro e w' ⟨rfl,rfl⟩))
  all_goals go_ret
  all_goals exact RetB.mk false (by first|rfl|(simp;done)|(simp[h6];done)|(simp;omega)) (by simp[HB.out]) ((Ext.refl _).alloc _)
 ·have HG:Hid (NodeI ⟨false,o,g,m,s,[],[]⟩):=hd0 ⟨h1,h2,h3,fun _=>⟨h4,rfl,rfl⟩,fun h=>Bool.noConfusion h⟩
  have t4:(s.size:Int)≤40:=by omega
  clear h4;simp only[List.length_nil]
  go_enter Tryz.func101,Tryz.ntmps101
  go_wp2_with (first|(go_at_call 102;refine(isUser_is (by assumption) _).mono ?_;rintro e w' ⟨rfl,rfl⟩)|(go_at_call 139;refine(isGroup_is (by assumption) _).mono ?_;rintro e w' ⟨rfl,rfl⟩)|(go_at_call 114;refine(isMode_is (by assumption) _).mono ?_;rintro e w' ⟨rfl,rfl⟩))
  all_goals go_ret
  all_goals exact RetB.mk true (by first|rfl|(simp;done)|(simp;omega)) (by simp[HG.out]) ((Ext.refl _).alloc _)
 ·have HG:Hid (s.toList.isEmpty=true→N.length=K.length→(∀k,k < N.length→NmAt N k)→NodeI ⟨true,o,g,m,s,N,K⟩):=hd0 (fun a b c=>⟨h1,h2,h3,fun h=>Bool.noConfusion h,fun _=>⟨a,b,c⟩⟩)
  go_enter Tryz.func101,Tryz.ntmps101
  have S:=Sep.start w;replace S:=S.alloc_at (n:=w.heap.size) (by simp) #[.bool true,.int .i64 o,.int .i64 g,.int .i64 m,.string s,.slice an N.length cn,.slice ak K.length ck] 89
  go_upto_region 3 with(first|(go_at_call 102;refine(isUser_is (by assumption) _).mono ?_;rintro e w' ⟨rfl,rfl⟩)|(go_at_call 139;refine(isGroup_is (by assumption) _).mono ?_;rintro e w' ⟨rfl,rfl⟩)|(go_at_call 114;refine(isMode_is (by assumption) _).mono ?_;rintro e w' ⟨rfl,rfl⟩))
  generalize (w.alloc (.cells #[.bool true,.int .i64 o,.int .i64 g,.int .i64 m,.string s,.slice an N.length cn,.slice ak K.length ck] 89))=w1 at *;obtain⟨⟨bc0,bf0⟩,⟨bc1,bf1⟩,⟨bc2,bf2⟩,⟨bc3,bf3⟩,⟨bc4,bf4⟩,⟨bc5,bf5⟩,⟨bc6,bf6⟩⟩:=bx7 (S.box 0 rfl);go_wp2;clear bc0 bf0 bc1 bf1 bc2 bf2 bc3 bf3 bc4 bf4 bc5 bf5 bc6 bf6
  go_loopw [3,4,43] (fun _ _ i wr=>∃k:Nat,k≤N.length∧i=.int .i64 k∧(∀j,j < k→NmAt N j)∧Sep w wr [plBox w.heap.size #[.bool true,.int .i64 o,.int .i64 g,.int .i64 m,.string s,.slice an N.length cn,.slice ak K.length ck] 89]) (fun _ _ i _=>N.length - (intOf i).toNat)
  case atStart=>exact⟨0,Nat.zero_le _,rfl,fun _ h=>absurd h (Nat.not_lt_zero _),S⟩
  case round =>
   clear S;obtain⟨k,hkl,rfl,hpre,S⟩:=hrel;have Hpre:=hd0 hpre;clear hpre;obtain⟨⟨bc0,bf0⟩,⟨bc1,bf1⟩,⟨bc2,bf2⟩,⟨bc3,bf3⟩,⟨bc4,bf4⟩,⟨bc5,bf5⟩,⟨bc6,bf6⟩⟩:=bx7 (S.box 0 rfl)
   by_cases hlt:k < N.length
   rotate_left
   ·obtain rfl:k=N.length:=by omega
    have hni:¬(N.length:Int) < (N.length:Int):=by omega
    cases he:s.toList.isEmpty with
    | false =>
     have HB:Hid (¬NodeI ⟨true,o,g,m,s,N,K⟩):=hd0 (fun h=>by have:=(h.dir rfl).1;simp only at this;rw[he]at this;cases this);go_wp2;go_ret;exact RetB.mk false rfl (by simp[HB.out]) S.ext
    | true =>
     by_cases hl:N.length=K.length
     ·have HO:=hd0 (HG.out he hl Hpre.out)
      have tl:((N.length:Int) == (K.length:Int))=true:=by simp;omega
      clear hl;go_wp2;go_ret;exact RetB.mk true (by first|rfl|(simp;omega)) (by simp[HO.out]) S.ext
     ·have HB:Hid (¬NodeI ⟨true,o,g,m,s,N,K⟩):=hd0 (fun h=>hl (h.dir rfl).2.1)
      have tl:((N.length:Int) == (K.length:Int))=false:=by simp;omega
      clear hl;go_wp2;go_ret;exact RetB.mk false (by first|rfl|(simp;omega)) (by simp[HB.out]) S.ext
   ·obtain⟨x,b1,off,hx,rfl,c0⟩:=atStr (hn.ext S.ext) hlt;have Hx:=hd0 hx;have Z0:=hd0 (HS.out x (List.mem_of_getElem? hx))
    have i0:(k:Int) < (N.length:Int):=by omega
    clear hx
    go_wp2_with fail
    clear bc0 bf0 bc1 bf1 bc2 bf2 bc3 bf3 bc4 bf4 bc5 bf5 bc6 bf6;refine(implNameValid x _ (Nat.le_trans Z0.out (by omega))).mono ?_;rintro e w3 ⟨v,rfl,hv,hE⟩;have Hv:=hd0 hv;have E3:=hE;clear hv;replace S:=S.step hE;clear hE;obtain⟨⟨bc0,bf0⟩,⟨bc1,bf1⟩,⟨bc2,bf2⟩,⟨bc3,bf3⟩,⟨bc4,bf4⟩,⟨bc5,bf5⟩,⟨bc6,bf6⟩⟩:=bx7 (S.box 0 rfl)
    cases v with
    | false =>
     have HB:Hid (¬NodeI ⟨true,o,g,m,s,N,K⟩):=hd0 (nm_bad1 Hx.out (fun h=>Bool.noConfusion (Hv.out.2 h)));go_wp2;go_ret;exact RetB.mk false rfl (by simp[HB.out]) S.ext
    | true =>
     have HN:=hd0 (Hv.out.1 rfl);clear Hv
     rcases k with _|j
     ·have Hnext:=hd0 (nm_next Hpre.out (nm_zero Hx.out HN.out));go_wp2;clear bc0 bf0 bc1 bf1 bc2 bf2 bc3 bf3 bc4 bf4 bc5 bf5 bc6 bf6;go_roundw
      case rel=>exact⟨0+1,by omega,by first|rfl|go_num,Hnext.out,S⟩
      case measure=>first|omega|(simp[intOf];omega)|simp[intOf]
     ·obtain⟨p,b',off',hp,ha,e0⟩:=atStr (hn.ext S.ext) (show j < N.length by omega)
      obtain⟨rfl,rfl⟩:b1=b'∧off=off':=by simpa using ha
      have Hp:=hd0 hp
      have j0:(0:Int)≤(j:Int):=by omega
      have j1:(j:Int) < (N.length:Int):=by omega
      have tk:(0:Int) < ((j:Int)+1):=by omega
      clear hp ha
      cases hlt2:Op.bytesLess p.toList x.toList with
      | true =>
       have Hnext:=hd0 (nm_next Hpre.out (nm_succ Hx.out Hp.out HN.out hlt2));go_wp2;clear bc0 bf0 bc1 bf1 bc2 bf2 bc3 bf3 bc4 bf4 bc5 bf5 bc6 bf6;go_roundw
       case rel=>exact⟨j+1+1,by omega,by first|rfl|go_num,Hnext.out,S⟩
       case measure=>first|omega|(simp[intOf];omega)|simp[intOf]
      | false =>
       have HB:Hid (¬NodeI ⟨true,o,g,m,s,N,K⟩):=hd0 (nm_bad3 Hx.out Hp.out hlt2);go_wp2;go_ret;exact RetB.mk false rfl (by simp[HB.out]) S.ext
def kids (T:List Nd):List Int:=T.flatMap (·.K)
def cntL (M:Nat) (P:List Int):List Int:=(List.range M).map (fun i:Nat=>(P.count (i:Int):Int))
def LinkOk (T:List Nd):Prop:=T.length≤16∧∀x∈kids T,inB x 0 ((T.length:Int) - 1)=true
def LinksR (T:List Nd) (L:List Int):Prop:=(LinkOk T∧L=cntL T.length (kids T))∨(¬LinkOk T∧L=[])
theorem cntL_len (M:Nat) (P:List Int):(cntL M P).length=M:=by simp[cntL]
theorem cntL_zero (M:Nat):cntL M []=List.replicate M (0:Int):=by
 apply List.ext_getElem
 ·simp[cntL]
 ·intro i h1 h2;simp[cntL]
theorem cntL_get {M:Nat} {P:List Int} {i:Nat} (h:i < M):(cntL M P)[i]?=some (P.count (i:Int):Int):=by simp[cntL,h]
theorem cntL_at {M:Nat} {P:List Int} {i:Nat} (h:i < (cntL M P).length):(cntL M P)[i]=(P.count (i:Int):Int):=by simp[cntL]
theorem cntL_step {M:Nat} {P:List Int} {i:Nat}:(cntL M P).set i ((P.count (i:Int):Int)+1)=cntL M (P++[(i:Int)]):=by
 apply List.ext_getElem
 ·simp[cntL]
 ·intro j h1 h2;rw[List.getElem_set]
  split
  ·rename_i e;subst e;simp[cntL,List.count_append]
  ·rename_i e
   have e2:¬((i:Int)=(j:Int)):=by omega
   simp[cntL,List.count_append,List.count_singleton,e2]
theorem kids_mem {T:List Nd} {k:Nat} {n:Nd} {x:Int} (hn:T[k]?=some n) (hx:x∈n.K):x∈kids T:=List.mem_flatMap.2 ⟨n,List.mem_of_getElem? hn,hx⟩
theorem kids_step {T:List Nd} {k:Nat} {n:Nd} (hn:T[k]?=some n):kids (T.take k)++n.K=kids (T.take (k+1)):=by
 rw[List.take_add_one,hn];simp[kids]
theorem kids_len {T:List Nd} (hs:∀x∈T,SmN 1048576 x):(kids T).length≤T.length*1048576:=by
 induction T with
 | nil=>simp[kids]
 | cons n T ih =>
  have h1:=(hs n (List.mem_cons_self ..)).2.2.2;have h2:=ih (fun x hx=>hs x (List.mem_cons_of_mem _ hx));simp only[kids,List.flatMap_cons,List.length_append,List.length_cons,Nat.add_mul]at h2 ⊢;omega
theorem pre_len {T:List Nd} (hs:∀x∈T,SmN 1048576 x) {k:Nat} {n:Nd} (hn:T[k]?=some n) (m:Nat) (hM:T.length≤16):(kids (T.take k)++n.K.take m).length≤100000000:=by
 have h1:=kids_len (T:=T.take k) (fun x hx=>hs x (List.mem_of_mem_take hx));have h2:=(hs n (List.mem_of_getElem? hn)).2.2.2
 have h3:(T.take k).length≤16:=by rw[List.length_take];omega
 have h4:(T.take k).length*1048576≤16*1048576:=Nat.mul_le_mul_right _ h3;rw[List.length_append,List.length_take];omega
theorem owns_lit0 {w0 w:World} (hE:Ext w0 w):(w.alloc (.cells #[] 3)).ownsRow w0.heap.size 3 1 (.slice (some ⟨w.heap.size,0,none⟩) 0 0) ([]:List Int).length (([]:List Int).flatMap encInt1) :=
 ⟨by simp,.inr ⟨w.heap.size,0,#[],rfl,hE.size,heap_alloc_new w _,Nat.le_refl _,Nat.zero_le _,by simp,by simp⟩⟩
theorem take_next {l:List Int} {m:Nat} {y:Int} (h:l[m]?=some y) (P:List Int):P++l.take (m+1)=(P++l.take m)++[y]:=by
 rw[List.take_add_one,h,List.append_assoc];rfl
theorem in_cast {x:Int} {M:Nat} (h:inB x 0 ((M:Int) - 1)=true):∃i:Nat,x=(i:Int)∧i < M:=by
 have:=inB_iff.1 h;exact⟨x.toNat,by omega,by omega⟩
theorem implLinksOf (a:Option Addr) (cap:Nat) (T:List Nd) (w:World) (hl:T.length≤1048576) (hs:∀x∈T,SmN 1048576 x) (hc:RdN w a T) :
  Calls Tryz.prog 100 #[.slice a T.length cap] w (RetV (fun v w'=>∃L,w'.ownsRow w.heap.size 3 1 v L.length (L.flatMap encInt1)∧LinksR T L) w):=by
 obtain⟨i0,hi,hz0,hz1,hz2⟩:=info_parts infoInt;have HS:=hd0 hs;clear hs
 by_cases h16:T.length≤16
 rotate_left
 ·have h16i:(16:Int) < (T.length:Int):=by omega
  have HR:Hid (LinksR T []):=hd0 (.inr ⟨fun h=>h16 h.1,rfl⟩)
  go_enter Tryz.func100,Tryz.ntmps100
  go_wp2;go_ret;exact RetV.mk ⟨[],World.ownsRow_nil _ _ _ _,HR.out⟩ (Ext.refl _)
 ·have h16i:(T.length:Int)≤16:=by omega
  go_enter Tryz.func100,Tryz.ntmps100
  go_wp2_with (at_make;refine wpList_make_full _ rfl _ _ 86 rfl w.heap.size 3 i0 _ 1 Tryz.underlying86 hi hz0 hz1 _ _ _ _ T.length rfl rfl rfl rfl ?b1 ?b2 ?b3 ?_)
  case b1=>rw[hz2];omega
  case b2=>unfold maxLen;omega
  case b3=>exact Nat.le_refl _
  intro w1 hown1 hgr1;have hE:=ext_of_grown hgr1;clear hgr1;go_wp2
  go_loopw [5,7,16] (fun _ _ i wr=>∃k:Nat,k≤T.length∧i=.int .i64 k∧wr.ownsRow w.heap.size 3 1 (.slice (some ⟨w.heap.size,0,none⟩) T.length T.length) T.length ((cntL T.length (kids (T.take k))).flatMap encInt1)∧(∀x∈kids (T.take k),inB x 0 ((T.length:Int) - 1)=true)∧Ext w wr) (fun _ _ i _=>T.length - (intOf i).toNat)
  case atStart =>
   refine⟨0,Nat.zero_le _,rfl,?_,fun x hx=>by simp[kids]at hx,hE⟩;rw[List.take_zero,show kids []=[]from rfl,cntL_zero,←madeInt];exact hown1
  case round =>
   clear hown1 hE;obtain⟨k,hk,rfl,hown,hpre,hb⟩:=hrel;have Hpre:=hd0 hpre;clear hpre
   by_cases hlt:k < T.length
   rotate_left
   ·obtain rfl:k=T.length:=by omega
    have hni:¬(T.length:Int) < (T.length:Int):=by omega
    rw[List.take_length]at hown Hpre
    have hown2:wr.ownsRow w.heap.size 3 1 (.slice (some ⟨w.heap.size,0,none⟩) T.length T.length) (cntL T.length (kids T)).length ((cntL T.length (kids T)).flatMap encInt1):=by rw[cntL_len];exact hown
    have HO:=hd0 hown2;have HR:Hid (LinksR T (cntL T.length (kids T))):=hd0 (.inl ⟨⟨h16,Hpre.out⟩,rfl⟩);clear hown hown2;go_wp2;go_ret;exact RetV.mk ⟨_,HO.out,HR.out⟩ hb
   ·obtain⟨x,b,off,an,cn,ak,ck,hx,rfl,c0,c1,c2,c3,c4,c5,c6,hcn,hck,hrn,hrk⟩:=atNd hc hlt;have Hx:=hd0 hx;have hkl:=(HS.out x (List.mem_of_getElem? hx)).2.2.2
    have i0:(k:Int) < (T.length:Int):=by omega
    have d0:=cell_ext hb c0;have d1:=cell_ext hb c1;have d2:=cell_ext hb c2;have d3:=cell_ext hb c3;have d4:=cell_ext hb c4;have d5:=cell_ext hb c5;have d6:=cell_ext hb c6;clear hx c0 c1 c2 c3 c4 c5 c6 hcn hck hrn
    have hownA:=fun C t=>ownsRow_ext hown ((Ext.refl wr).alloc (.cells C t))
    have hbA:=fun C t=>hb.alloc (.cells C t)
    have HA:=hd0 hownA;have HB:=hd0 hbA;clear hownA hbA hown hb;go_wp2
    go_loopw [7,23] (fun _ i wr=>∃m:Nat,m≤x.K.length∧i=.int .i64 m∧wr.ownsRow w.heap.size 3 1 (.slice (some ⟨w.heap.size,0,none⟩) T.length T.length) T.length ((cntL T.length (kids (T.take k)++x.K.take m)).flatMap encInt1)∧(∀y∈kids (T.take k)++x.K.take m,inB y 0 ((T.length:Int) - 1)=true)∧Ext w wr) (fun _ i _=>x.K.length - (intOf i).toNat)
    case atStart =>
     refine⟨0,Nat.zero_le _,rfl,?_,?_,HB.out _ _⟩
     ·rw[List.take_zero,List.append_nil];exact HA.out _ _
     ·rw[List.take_zero,List.append_nil];exact Hpre.out
    case round =>
     clear d0 d1 d2 d3 d4 d5 d6 HA HB;obtain⟨m,hm,rfl,hown,hpre2,hb⟩:=hrel;have Hpre2:=hd0 hpre2;clear hpre2
     by_cases hlm:m < x.K.length
     rotate_left
     ·obtain rfl:m=x.K.length:=by omega
      have hni:¬(x.K.length:Int) < (x.K.length:Int):=by omega
      rw[List.take_length,kids_step Hx.out]at hown Hpre2;have HO:=hd0 hown;clear hown;go_wp2;go_roundw
      case rel=>exact⟨k+1,by omega,by go_num,HO.out,Hpre2.out,hb⟩
      case measure=>simp[intOf];omega
     ·obtain⟨y,b2,off2,hy,rfl,e0⟩:=atInt (hrk.ext hb) hlm;have Hy:=hd0 hy
      have j0:(m:Int) < (x.K.length:Int):=by omega
      have s1:IntKind.i64.wrap ((T.length:Int) - 1)=(T.length:Int) - 1:=IntWalk.i64_in _ (by omega);clear hy
      cases hI:inB y 0 ((T.length:Int) - 1)with
      | false =>
       have HI:=hd0 hI;have HR:Hid (LinksR T []):=hd0 (.inr ⟨fun h=>Bool.noConfusion (hI.symm.trans (h.2 y (kids_mem Hx.out (List.mem_of_getElem? Hy.out)))),rfl⟩);clear hI hown
       go_wp2_with (go_at_call 91;refine(within_is HI.out _).mono ?_;rintro e w' ⟨rfl,rfl⟩)
       go_ret;exact RetV.mk ⟨[],World.ownsRow_nil _ _ _ _,HR.out⟩ hb
      | true =>
       have HI:=hd0 hI;obtain⟨i,rfl,hiM⟩:=in_cast hI;clear hI
       have hkm:i < (cntL T.length (kids (T.take k)++x.K.take m)).length:=by rw[cntL_len];exact hiM
       have g0:wr.cell? ⟨w.heap.size,i,none⟩=some (.int .i64 (cntL T.length (kids (T.take k)++x.K.take m))[i]):=by simpa using owns_at encInt1_len hown i hkm 0 _ rfl
       rw[cntL_at hkm]at g0;have f0:=hown.frozenAt;have h3:=owns_put encInt1_len hown i (((kids (T.take k)++x.K.take m).count (i:Int):Int)+1) hkm;rw[cntL_step,←take_next Hy.out]at h3;have H3:=hd0 h3;have HE:=hd0 (Ext.setCells (Nat.le_refl _) (encInt1 (((kids (T.take k)++x.K.take m).count (i:Int):Int)+1)) (i*1) hb);have hcl:(kids (T.take k)++x.K.take m).count (i:Int)≤100000000:=Nat.le_trans List.count_le_length (pre_len HS.out Hx.out m h16)
       have Hin:Hid (∀y∈kids (T.take k)++x.K.take (m+1),inB y 0 ((T.length:Int) - 1)=true):=hd0 (fun z hz=>by
        rw[take_next Hy.out]at hz
        rcases List.mem_append.1 hz with hz|hz
        ·exact Hpre2.out z hz
        ·rw[List.mem_singleton.1 hz];exact HI.out)
       have k0:(i:Int) < (T.length:Int):=by omega
       generalize (kids (T.take k)++x.K.take m).count (i:Int)=c at *;clear h3 hown hkm hb
       go_wp2_with (go_at_call 91;refine(within_is HI.out _).mono ?_;rintro e w' ⟨rfl,rfl⟩)
       go_roundw
       case rel=>exact⟨m+1,by omega,by go_num,by simpa [setCells,encInt1]using H3.out,Hin.out,by simpa [setCells,encInt1]using HE.out⟩
       case measure=>simp[intOf];omega
def DownOk (T:List Nd) (k:Nat) (x:Int):Prop:=∀m,T[x.toNat]?=some m→m.fold=true→(k:Int) < x
def LkOk (T:List Nd) (k:Nat) (n:Nd):Prop:=1≤(kids T).count (k:Int)∧(n.fold=true→(kids T).count (k:Int)≤1)
structure TreeOk (T:List Nd):Prop where
 pos:1≤T.length
 max:T.length≤16
 root:∀n,T[0]?=some n→n.fold=true
 nodes:∀(k:Nat) n,T[k]?=some n→NodeOk n T.length
 down:∀(k:Nat) n,T[k]?=some n→∀x∈n.K,DownOk T k x
 links:∀(k:Nat) n,T[k]?=some n→0 < k→LkOk T k n
theorem all_next {α:Type} {T:List α} {Q:Nat→α→Prop} {k:Nat} {x:α} (h:∀(j:Nat) n,j < k→T[j]?=some n→Q j n) (hx:T[k]?=some x) (hk:Q k x):∀(j:Nat) n,j < k+1→T[j]?=some n→Q j n:=fun j n hj hn=>by
 rcases Nat.lt_succ_iff_lt_or_eq.1 hj with h'|rfl
 ·exact h j n h' hn
 ·rw[hx]at hn;cases hn;exact hk
theorem all_mem {l:List Int} {Q:Int→Prop} (h:∀(j:Nat) x,j < l.length→l[j]?=some x→Q x):∀x∈l,Q x:=fun x hx=>by
 obtain⟨j,hj⟩:=List.getElem?_of_mem hx;exact h j x (List.getElem?_eq_some_iff.1 hj).1 hj
theorem mem_kids {T:List Nd} {x:Int} (h:x∈kids T):∃(k:Nat) (n:Nd),T[k]?=some n∧x∈n.K:=by
 obtain⟨n,hn,hx⟩:=List.mem_flatMap.1 h;obtain⟨k,hk⟩:=List.getElem?_of_mem hn;exact⟨k,n,hk,hx⟩
theorem nodeOk_kid {n:Nd} {many:Nat} (h:NodeOk n many) {x:Int} (hx:x∈n.K):inB x 1 ((many:Int) - 1)=true:=(nodeOk_iff.1 h).2 x hx
theorem linkOk_of {T:List Nd} (h16:T.length≤16) (h:∀(k:Nat) n,T[k]?=some n→NodeOk n T.length):LinkOk T:=⟨h16,fun x hx=>by
 obtain⟨k,n,hn,hx⟩:=mem_kids hx;have:=inB_iff.1 (nodeOk_kid (h k n hn) hx)
 exact inB_iff.2 ⟨by omega,this.2⟩⟩
theorem tree_link {T:List Nd} (h:TreeOk T):LinkOk T:=linkOk_of h.max h.nodes
theorem tree_zero {T:List Nd} (h:TreeOk T):(kids T).count (0:Int)=0:=List.count_eq_zero.2 (fun hm=>by
 obtain⟨k,n,hn,hx⟩:=mem_kids hm;have:=inB_iff.1 (nodeOk_kid (h.nodes k n hn) hx)
 omega)
theorem tree_of {T:List Nd} (hL:LinkOk T) (h1:1≤T.length) (hr:∀n,T[0]?=some n→n.fold=true) (h0:(kids T).count (0:Int)=0) (h:∀(k:Nat) n,k < T.length→T[k]?=some n→NodeI n∧(0 < k→LkOk T k n)∧∀x∈n.K,DownOk T k x):TreeOk T where
 pos:=h1
 max:=hL.1
 root:=hr
 nodes k n hn:=nodeOk_iff.2 ⟨(h k n (List.getElem?_eq_some_iff.1 hn).1 hn).1,fun x hx=>by
  have hm:=kids_mem hn hx;have h2:=inB_iff.1 (hL.2 x hm)
  have h3:x≠0:=fun e=>by
   subst e;exact List.count_eq_zero.1 h0 hm
  exact inB_iff.2 ⟨by omega,h2.2⟩⟩
 down k n hn:=(h k n (List.getElem?_eq_some_iff.1 hn).1 hn).2.2
 links k n hn hk:=(h k n (List.getElem?_eq_some_iff.1 hn).1 hn).2.1 hk
theorem tree_spec {T:List Nd} (h1:1≤T.length) (h16:T.length≤16) (hr:∀n,T[0]?=some n→n.fold=true) (h:∀(k:Nat) n,k < T.length→T[k]?=some n→NodeOk n T.length∧∀x∈n.K,DownOk T k x) (hl:∀(k:Nat) n,k < T.length→T[k]?=some n→0 < k→LkOk T k n):TreeOk T where
 pos:=h1
 max:=h16
 root:=hr
 nodes k n hn:=(h k n (List.getElem?_eq_some_iff.1 hn).1 hn).1
 down k n hn:=(h k n (List.getElem?_eq_some_iff.1 hn).1 hn).2
 links k n hn hk:=hl k n (List.getElem?_eq_some_iff.1 hn).1 hn hk
theorem in_cast1 {x:Int} {M:Nat} (h:inB x 1 ((M:Int) - 1)=true):∃i:Nat,x=(i:Int)∧i < M:=by
 have:=inB_iff.1 h;exact⟨x.toNat,by omega,by omega⟩
theorem down_file {T:List Nd} {k i:Nat} {z:Nd} (hz:T[i]?=some z) (hf:z.fold=false):DownOk T k (i:Int):=fun m hm h=>by
 rw[Int.toNat_natCast,hz]at hm;cases hm;exact Bool.noConfusion (hf.symm.trans h)
theorem down_bad {T:List Nd} {k i:Nat} {z:Nd} (hz:T[i]?=some z) (hf:z.fold=true) (h:i≤k):¬DownOk T k (i:Int):=fun hd=>by
 have:=hd z (by rw[Int.toNat_natCast];exact hz) hf;omega
theorem down_good {T:List Nd} {k i:Nat} (h:k < i):DownOk T k (i:Int):=fun m hm hf=>by omega
theorem specMay (r a s gs want:Int) (x:Nd) (an ak:Option Addr) (cn ck:Nat) (w:World):Calls Tryz.prog 74 #[.agg #[.int .i64 r,.int .i64 a,.int .i64 s,.int .i64 gs],.agg #[.bool x.fold,.int .i64 x.own,.int .i64 x.grp,.int .i64 x.mode,.string x.text,.slice an x.N.length cn,.slice ak x.K.length ck],.int .i64 want] w (fun e w'=>e=.returned (.bool (mayDo r a s gs x.own x.grp x.mode want))∧Ext w w'):=by
 go_enter Tryz.func74,Tryz.ntmps74
 have S:=Sep.start w;replace S:=S.alloc_at (n:=w.heap.size) (by simp) #[.int .i64 r,.int .i64 a,.int .i64 s,.int .i64 gs] 29;replace S:=S.alloc_at (n:=(w.heap.size+1)) (by simp) #[.bool x.fold,.int .i64 x.own,.int .i64 x.grp,.int .i64 x.mode,.string x.text,.slice an x.N.length cn,.slice ak x.K.length ck] 89
 go_wp2_with fail
 generalize ((w.alloc (.cells #[.int .i64 r,.int .i64 a,.int .i64 s,.int .i64 gs] 29)).alloc (.cells #[.bool x.fold,.int .i64 x.own,.int .i64 x.grp,.int .i64 x.mode,.string x.text,.slice an x.N.length cn,.slice ak x.K.length ck] 89))=w1 at *;refine(specMayDo r a s gs x.own x.grp x.mode want w1).mono ?_;rintro e w2 ⟨rfl,hE⟩;replace S:=S.step hE;clear hE;go_wp2;go_ret;exact⟨rfl,S.ext⟩
noncomputable def kidOf:List ByteArray→List Int→ByteArray→Int
 | n :: N,k :: K,s=>open Classical in if n=s then k else kidOf N K s
 | _,_,_ => -1
theorem kidOf_hit {N:List ByteArray} {K:List Int} {k:Nat} {s:ByteArray} {y:Int} (hn:N[k]?=some s) (hk:K[k]?=some y):kidOf (N.drop k) (K.drop k) s=y:=by
 obtain⟨h1,h2⟩:=List.getElem?_eq_some_iff.1 hn;obtain⟨h3,h4⟩:=List.getElem?_eq_some_iff.1 hk;rw[List.drop_eq_getElem_cons h1,List.drop_eq_getElem_cons h3,h2,h4,kidOf,if_pos rfl]
theorem kidOf_miss {N:List ByteArray} {K:List Int} {k:Nat} {s n:ByteArray} (hn:N[k]?=some n) (hk:k < K.length) (h:n≠s):kidOf (N.drop k) (K.drop k) s=kidOf (N.drop (k+1)) (K.drop (k+1)) s:=by
 obtain⟨h1,h2⟩:=List.getElem?_eq_some_iff.1 hn;rw[List.drop_eq_getElem_cons h1,List.drop_eq_getElem_cons hk,h2,kidOf,if_neg h]
theorem kidOf_end {N:List ByteArray} {K:List Int} {s:ByteArray}:kidOf (N.drop N.length) K s = -1:=by
 rw[List.drop_length]
 cases K<;>rfl
theorem specKid (x:Nd) (an ak:Option Addr) (cn ck:Nat) (s:ByteArray) (w:World) (hl:x.N.length≤1048576) (hlen:x.N.length=x.K.length) (hn:Rd 1 encStr1 w an x.N) (hk:Rd 1 encInt1 w ak x.K) :
  Calls Tryz.prog 76 #[.agg #[.bool x.fold,.int .i64 x.own,.int .i64 x.grp,.int .i64 x.mode,.string x.text,.slice an x.N.length cn,.slice ak x.K.length ck],.string s] w (RetI (kidOf x.N x.K s) w):=by
 obtain⟨f,o,g,m,t,N,K⟩:=x;dsimp only at hl hlen hn hk ⊢;have Hlen:=hd0 hlen;clear hlen
 go_enter Tryz.func76,Tryz.ntmps76
 have S:=Sep.start w;replace S:=S.alloc_at (n:=w.heap.size) (by simp) #[.bool f,.int .i64 o,.int .i64 g,.int .i64 m,.string t,.slice an N.length cn,.slice ak K.length ck] 89
 go_upto_region 1 with fail
 generalize (w.alloc (.cells #[.bool f,.int .i64 o,.int .i64 g,.int .i64 m,.string t,.slice an N.length cn,.slice ak K.length ck] 89))=w1 at *;go_wp2
 go_loopw [5] (fun i wr=>∃k:Nat,k≤N.length∧i=.int .i64 k∧kidOf N K s=kidOf (N.drop k) (K.drop k) s∧Sep w wr [plBox w.heap.size #[.bool f,.int .i64 o,.int .i64 g,.int .i64 m,.string t,.slice an N.length cn,.slice ak K.length ck] 89]) (fun i _=>N.length - (intOf i).toNat)
 case atStart=>exact⟨0,Nat.zero_le _,rfl,by rw[List.drop_zero,List.drop_zero],S⟩
 case round =>
  clear S;obtain⟨k,hkl,rfl,hpre,S⟩:=hrel;have Hpre:=hd0 hpre;clear hpre;obtain⟨⟨bc0,bf0⟩,⟨bc1,bf1⟩,⟨bc2,bf2⟩,⟨bc3,bf3⟩,⟨bc4,bf4⟩,⟨bc5,bf5⟩,⟨bc6,bf6⟩⟩:=bx7 (S.box 0 rfl)
  by_cases hlt:k < N.length
  rotate_left
  ·obtain rfl:k=N.length:=by omega
   have hni:¬(N.length:Int) < (N.length:Int):=by omega
   have HR:=hd0 (Hpre.out.trans kidOf_end);go_wp2;go_ret;exact⟨by rw[HR.out];rfl,S.ext⟩
  ·have hltk:k < K.length:=by have:=Hlen.out;omega
   obtain⟨x,b1,off,hx,rfl,c0⟩:=atStr (hn.ext S.ext) hlt;obtain⟨y,b2,off2,hy,rfl,d0⟩:=atInt (hk.ext S.ext) hltk;have Hx:=hd0 hx;have Hy:=hd0 hy
   have i0:(k:Int) < (N.length:Int):=by omega
   have i1:(k:Int) < (K.length:Int):=by omega
   clear hx hy
   by_cases hxs:x=s
   ·subst hxs;have HR:=hd0 (Hpre.out.trans (kidOf_hit Hx.out Hy.out));go_wp2;go_ret;exact⟨by rw[HR.out];rfl,S.ext⟩
   ·have txs:(x.toList == s.toList)=false:=by simpa [bytes_eq]using hxs
    have HN:=hd0 (Hpre.out.trans (kidOf_miss (K:=K) Hx.out hltk hxs));clear hxs;go_wp2;clear bc0 bf0 bc1 bf1 bc2 bf2 bc3 bf3 bc4 bf4 bc5 bf5 bc6 bf6;go_roundw
    case rel=>exact⟨k+1,by omega,by go_num,HN.out,S⟩
    case measure=>simp[intOf];omega
def posOf:List ByteArray→ByteArray→Nat
 | [],_=>0
 | n :: N,s=>if Op.bytesLess n.toList s.toList=true then posOf N s+1 else 0
theorem posOf_le:∀(N:List ByteArray) (s:ByteArray),posOf N s≤N.length
 | [],_=>Nat.le_refl _
 | n :: N,s=>by
  rw[posOf]
  split
  ·have:=posOf_le N s;simp only[List.length_cons];omega
  ·omega
theorem posOf_lt:∀(N:List ByteArray) (s:ByteArray) (j:Nat) n,j < posOf N s→N[j]?=some n→Op.bytesLess n.toList s.toList=true
 | [],_,j,n,h,_=>absurd h (Nat.not_lt_zero _)
 | m :: N,s,j,n,h,hn=>by
  rw[posOf]at h
  split at h
  ·rename_i hm
   cases j with
   | zero=>simp only[List.getElem?_cons_zero,Option.some.injEq]at hn;subst hn;exact hm
   | succ j=>rw[List.getElem?_cons_succ]at hn;exact posOf_lt N s j n (by omega) hn
  ·omega
theorem posOf_at:∀(N:List ByteArray) (s:ByteArray) n,N[posOf N s]?=some n→Op.bytesLess n.toList s.toList=false
 | [],_,n,h=>by simp at h
 | m :: N,s,n,h=>by
  rw[posOf]at h
  split at h
  ·rw[List.getElem?_cons_succ]at h;exact posOf_at N s n h
  ·rename_i hm;simp only[List.getElem?_cons_zero,Option.some.injEq]at h;subst h
   simpa using hm
theorem posOf_drop {N:List ByteArray} {s:ByteArray} {k:Nat} (h:posOf N s=k+posOf (N.drop k) s) {n:ByteArray} (hn:N[k]?=some n) (hl:Op.bytesLess n.toList s.toList=true):posOf N s=(k+1)+posOf (N.drop (k+1)) s:=by
 obtain⟨h1,h2⟩:=List.getElem?_eq_some_iff.1 hn;rw[List.drop_eq_getElem_cons h1,h2,posOf,if_pos hl]at h;omega
theorem posOf_stop {N:List ByteArray} {s:ByteArray} {k:Nat} (h:posOf N s=k+posOf (N.drop k) s) {n:ByteArray} (hn:N[k]?=some n) (hl:Op.bytesLess n.toList s.toList=false):posOf N s=k:=by
 obtain⟨h1,h2⟩:=List.getElem?_eq_some_iff.1 hn;rw[List.drop_eq_getElem_cons h1,h2,posOf,if_neg (by simp[hl])]at h;omega
theorem posOf_end {N:List ByteArray} {s:ByteArray} (h:posOf N s=N.length+posOf (N.drop N.length) s):posOf N s=N.length:=by
 rw[List.drop_length]at h;exact h
def putNd (x:Nd) (s:ByteArray) (y:Int):Nd:=⟨x.fold,x.own,x.grp,x.mode,x.text,x.N.take (posOf x.N s)++s :: x.N.drop (posOf x.N s),x.K.take (posOf x.N s)++y :: x.K.drop (posOf x.N s)⟩
theorem kidOf_none:∀(N:List ByteArray) (K:List Int) (s:ByteArray),N.length=K.length→(∀y∈K,0≤y)→kidOf N K s < 0→s∉N
 | [],_,_,_,_,_,hm=>by cases hm
 | n :: N,[],_,hl,_,_,_=>by simp at hl
 | n :: N,k :: K,s,hl,hK,h,hm=>by
  rw[kidOf]at h
  split at h
  ·have:=hK k (List.mem_cons_self ..);omega
  ·rename_i hns
   rcases List.mem_cons.1 hm with e|hm
   ·exact hns e.symm
   ·exact kidOf_none N K s (by simpa using hl) (fun y hy=>hK y (List.mem_cons_of_mem _ hy)) h hm
theorem kidOf_mem:∀(N:List ByteArray) (K:List Int) (s:ByteArray),0≤kidOf N K s→kidOf N K s∈K
 | [],[],_,h=>by rw[kidOf]at h;omega;all_goals simp
 | [],k :: K,_,h=>by rw[kidOf]at h;omega;all_goals simp
 | n :: N,[],_,h=>by rw[kidOf]at h;omega;all_goals simp
 | n :: N,k :: K,s,h=>by
  rw[kidOf]at h ⊢
  split
  ·exact List.mem_cons_self ..
  ·rename_i hns;rw[if_neg hns]at h;exact List.mem_cons_of_mem _ (kidOf_mem N K s h)
theorem ins_at {α:Type} (l:List α) (s:α) (p k:Nat) (hp:p≤l.length):(l.take p++s :: l.drop p)[k]?=if k < p then l[k]? else if k=p then some s else l[k - 1]?:=by
 split
 ·rename_i h;rw[List.getElem?_append_left (by rw[List.length_take];omega),List.getElem?_take_of_lt h]
 ·rename_i h;rw[List.getElem?_append_right (by rw[List.length_take];omega),List.length_take,Nat.min_eq_left hp]
  split
  ·rename_i e;subst e;simp
  ·rename_i e;obtain⟨m,hm⟩:∃m,k - p=m+1:=⟨k - p - 1,by omega⟩;rw[hm,List.getElem?_cons_succ,List.getElem?_drop]
   congr 1
   omega
theorem ins_nm {N:List ByteArray} {s:ByteArray} (h:∀k,k < N.length→NmAt N k) (hs:NameOk s) (hm:s∉N):∀k,NmAt (N.take (posOf N s)++s :: N.drop (posOf N s)) k:=by
 have hp:=posOf_le N s;intro k t ht;rw[ins_at _ _ _ _ hp]at ht
 have hN:∀j t,N[j]?=some t→NameOk t∧∀m p,j=m+1→N[m]?=some p→Op.bytesLess p.toList t.toList=true:=fun j t h1=>h j (List.getElem?_eq_some_iff.1 h1).1 t h1
 split at ht
 ·rename_i h1;refine⟨(hN k t ht).1,fun m p hk hp'=>?_⟩;rw[ins_at _ _ _ _ hp,if_pos (by omega)]at hp';exact(hN k t ht).2 m p hk hp'
 ·rename_i h1
  split at ht
  ·rename_i h2
   cases ht
   refine⟨hs,fun m p hk hp'=>?_⟩;rw[ins_at _ _ _ _ hp,if_pos (by omega)]at hp';exact posOf_lt N s m p (by omega) hp'
  ·rename_i h2;refine⟨(hN _ t ht).1,fun m p hk hp'=>?_⟩;rw[ins_at _ _ _ _ hp,if_neg (by omega)]at hp'
   split at hp'
   ·rename_i h3
    cases hp'
    have h4:N[posOf N s]?=some t:=by rw[←ht];congr 1;omega
    have h5:=posOf_at N s t h4
    rcases less_cases t.toList s.toList with h|h|h
    ·rw[h5]at h;cases h.1
    ·exact h.2
    ·exfalso
     have h6:s=t:=by simpa [bytes_eq]using h.2.2
     exact hm (h6 ▸ List.mem_of_getElem? h4)
   ·rename_i h3;exact(hN (k - 1) t ht).2 (m - 1) p (by omega) hp'
theorem nodeOk_more {n:Nd} {many more:Nat} (h:NodeOk n many) (hm:many≤more):NodeOk n more:=nodeOk_iff.2 ⟨(nodeOk_iff.1 h).1,fun x hx=>by
 have:=inB_iff.1 ((nodeOk_iff.1 h).2 x hx)
 exact inB_iff.2 ⟨this.1,by omega⟩⟩
theorem putNd_ok {x:Nd} {s:ByteArray} {y:Int} {many more:Nat} (h:NodeOk x many) (hmm:many≤more) (hf:x.fold=true) (hs:NameOk s) (hm:s∉x.N) (hy:inB y 1 ((more:Int) - 1)=true):NodeOk (putNd x s y) more:=by
 have hi:=(nodeOk_iff.1 h).1;have hk:=(nodeOk_iff.1 h).2;have hd:=hi.dir hf;have hp:=posOf_le x.N s;refine nodeOk_iff.2 ⟨⟨hi.own,hi.grp,hi.mode,fun h0=>Bool.noConfusion (hf.symm.trans h0),fun _=>⟨hd.1,?_,fun k _=>ins_nm hd.2.2 hs hm k⟩⟩,fun z hz=>?_⟩
 ·show(x.N.take _++s :: x.N.drop _).length=(x.K.take _++y :: x.K.drop _).length
  simp only[List.length_append,List.length_take,List.length_cons,List.length_drop];have:=hd.2.1;omega
 ·have hz':z∈x.K.take (posOf x.N s)++y :: x.K.drop (posOf x.N s):=hz
  rcases List.mem_append.1 hz' with h1|h1
  ·have:=inB_iff.1 (hk z (List.mem_of_mem_take h1));exact inB_iff.2 ⟨this.1,by omega⟩
  ·rcases List.mem_cons.1 h1 with rfl|h1
   ·exact hy
   ·have:=inB_iff.1 (hk z (List.mem_of_mem_drop h1));exact inB_iff.2 ⟨this.1,by omega⟩
theorem putNd_kid {x:Nd} {s:ByteArray} {y z:Int}:z∈(putNd x s y).K↔z=y∨z∈x.K:=by
 show z∈x.K.take (posOf x.N s)++y :: x.K.drop (posOf x.N s)↔_
 rw[List.mem_append,List.mem_cons]
 have h:z∈x.K↔z∈x.K.take (posOf x.N s)∨z∈x.K.drop (posOf x.N s):=by
  rw[←List.mem_append,List.take_append_drop]
 rw[h]
 constructor
 ·rintro(h|h|h)
  ·exact .inr (.inl h)
  ·exact .inl h
  ·exact .inr (.inr h)
 ·rintro(h|h|h)
  ·exact .inr (.inl h)
  ·exact .inl h
  ·exact .inr (.inr h)
theorem putNd_count {x:Nd} {s:ByteArray} {y c:Int}:(putNd x s y).K.count c=x.K.count c+(if y=c then 1 else 0):=by
 show(x.K.take (posOf x.N s)++y :: x.K.drop (posOf x.N s)).count c=_
 have h:x.K.count c=(x.K.take (posOf x.N s)).count c+(x.K.drop (posOf x.N s)).count c:=by
  rw[←List.count_append,List.take_append_drop]
 rw[h,List.count_append,List.count_cons]
 by_cases e:y=c
 ·simp[e];omega
 ·simp[e]
theorem kids_set:∀{T:List Nd} {i:Nat} {x x':Nd} {c:Int} {d:Nat},T[i]?=some x→x'.K.count c=x.K.count c+d→(kids (T.set i x')).count c=(kids T).count c+d
 | [],i,x,x',c,d,h,_=>by simp at h
 | n :: T,0,x,x',c,d,h,he=>by
  simp only[List.getElem?_cons_zero,Option.some.injEq]at h;subst h;simp only[kids,List.set_cons_zero,List.flatMap_cons,List.count_append,he];omega
 | n :: T,i+1,x,x',c,d,h,he=>by
  rw[List.getElem?_cons_succ]at h;have:=kids_set h he;simp only[kids,List.set_cons_succ,List.flatMap_cons,List.count_append]at this ⊢;omega
theorem kids_snoc {T:List Nd} {z:Nd} (h:z.K=[]):kids (T++[z])=kids T:=by simp[kids,List.flatMap_append,h]
theorem tree_make {T:List Nd} (h:TreeOk T) {i:Nat} {x z:Nd} {s:ByteArray} (hx:T[i]?=some x) (hf:x.fold=true) (hs:NameOk s) (hm:s∉x.N) (hlt:T.length < 16) (hz:NodeOk z (T.length+1)) (hzK:z.K=[]):TreeOk (T.set i (putNd x s (T.length:Int))++[z]):=by
 have hi:=(List.getElem?_eq_some_iff.1 hx).1;have hpos:=h.pos
 have hlen:(T.set i (putNd x s (T.length:Int))++[z]).length=T.length+1:=by simp
 have hget:∀k n,(T.set i (putNd x s (T.length:Int))++[z])[k]?=some n→(k=T.length∧n=z)∨(k=i∧n=putNd x s (T.length:Int))∨(k≠i∧k < T.length∧T[k]?=some n):=fun k n hn=>by
  by_cases hk:k < T.length
  ·rw[List.getElem?_append_left (by simpa using hk)]at hn
   by_cases hik:i=k
   ·subst hik;rw[List.getElem?_set_self hi]at hn;exact .inr (.inl ⟨rfl,(Option.some.inj hn).symm⟩)
   ·rw[List.getElem?_set_ne hik]at hn;exact .inr (.inr ⟨fun e=>hik e.symm,hk,hn⟩)
  ·have hk2:=(List.getElem?_eq_some_iff.1 hn).1;rw[hlen]at hk2
   have e:k=T.length:=by omega
   subst e;rw[List.getElem?_append_right (by simp),List.length_set,Nat.sub_self]at hn;exact .inl ⟨rfl,(Option.some.inj hn).symm⟩
 have hcnt:∀c,(kids (T.set i (putNd x s (T.length:Int))++[z])).count c=(kids T).count c+(if (T.length:Int)=c then 1 else 0):=fun c=>by
  rw[kids_snoc hzK];exact kids_set hx putNd_count
 have hbig:(kids T).count (T.length:Int)=0:=List.count_eq_zero.2 (fun hmem=>by
  obtain⟨k,n,hn,hx⟩:=mem_kids hmem;have:=inB_iff.1 (nodeOk_kid (h.nodes k n hn) hx)
  omega)
 have hdown:∀(k:Nat) (c:Int),0≤c→c < T.length→DownOk T k c→DownOk (T.set i (putNd x s (T.length:Int))++[z]) k c:=fun k c c0 c1 hd m hm2 hmf=>by
  rcases hget c.toNat m hm2 with⟨e,_⟩|⟨e,rfl⟩|⟨_,_,e⟩
  ·omega
  ·exact hd x (by rw[e];exact hx) hmf
  ·exact hd m e hmf
 refine⟨by omega,by omega,fun n hn=>?_,fun k n hn=>?_,fun k n hn c hc=>?_,fun k n hn hk=>?_⟩
 ·rcases hget 0 n hn with⟨e,_⟩|⟨_,rfl⟩|⟨_,_,e⟩
  ·omega
  ·exact hf
  ·exact h.root n e
 ·rw[hlen]
  rcases hget k n hn with⟨_,rfl⟩|⟨_,rfl⟩|⟨_,_,e⟩
  ·exact hz
  ·exact putNd_ok (h.nodes i x hx) (by omega) hf hs hm (inB_iff.2 ⟨by omega,by omega⟩)
  ·exact nodeOk_more (h.nodes k n e) (by omega)
 ·rcases hget k n hn with⟨_,rfl⟩|⟨rfl,rfl⟩|⟨_,_,e⟩
  ·rw[hzK]at hc;cases hc
  ·rcases putNd_kid.1 hc with rfl|hc
   ·exact down_good hi
   ·have:=inB_iff.1 (nodeOk_kid (h.nodes k x hx) hc);exact hdown k c (by omega) (by omega) (h.down k x hx c hc)
  ·have:=inB_iff.1 (nodeOk_kid (h.nodes k n e) hc);exact hdown k c (by omega) (by omega) (h.down k n e c hc)
 ·unfold LkOk;rw[hcnt]
  rcases hget k n hn with⟨rfl,rfl⟩|⟨rfl,rfl⟩|⟨_,hkl,e⟩
  ·rw[hbig,if_pos rfl];exact⟨by omega,fun _=>by omega⟩
  ·rw[if_neg (by omega)];exact h.links k x hx hk
  ·rw[if_neg (by omega)];exact h.links k n e hk
theorem tree_link_ok {T:List Nd} (h:TreeOk T) {i kid:Nat} {x z:Nd} {s:ByteArray} (hx:T[i]?=some x) (hf:x.fold=true) (hs:NameOk s) (hm:s∉x.N) (hz:T[kid]?=some z) (hzf:z.fold=false):TreeOk (T.set i (putNd x s (kid:Int))):=by
 have hi:=(List.getElem?_eq_some_iff.1 hx).1;have hkl:=(List.getElem?_eq_some_iff.1 hz).1
 have hk0:kid≠0:=fun e=>by subst e;exact Bool.noConfusion (hzf.symm.trans (h.root z hz))
 have hpos:=h.pos;have hmax:=h.max
 have hlen:(T.set i (putNd x s (kid:Int))).length=T.length:=by simp
 have hget:∀k n,(T.set i (putNd x s (kid:Int)))[k]?=some n→(k=i∧n=putNd x s (kid:Int))∨(k≠i∧T[k]?=some n):=fun k n hn=>by
  by_cases hik:i=k
  ·subst hik;rw[List.getElem?_set_self hi]at hn;exact .inl ⟨rfl,(Option.some.inj hn).symm⟩
  ·rw[List.getElem?_set_ne hik]at hn;exact .inr ⟨fun e=>hik e.symm,hn⟩
 have hcnt:∀c,(kids (T.set i (putNd x s (kid:Int)))).count c=(kids T).count c+(if (kid:Int)=c then 1 else 0):=fun c=>kids_set hx putNd_count
 have hdown:∀(k:Nat) (c:Int),DownOk T k c→DownOk (T.set i (putNd x s (kid:Int))) k c:=fun k c hd m hm2 hmf=>by
  rcases hget c.toNat m hm2 with⟨e,rfl⟩|⟨_,e⟩
  ·exact hd x (by rw[e];exact hx) hmf
  ·exact hd m e hmf
 refine⟨by omega,by omega,fun n hn=>?_,fun k n hn=>?_,fun k n hn c hc=>?_,fun k n hn hk=>?_⟩
 ·rcases hget 0 n hn with⟨_,rfl⟩|⟨_,e⟩
  ·exact hf
  ·exact h.root n e
 ·rw[hlen]
  rcases hget k n hn with⟨_,rfl⟩|⟨_,e⟩
  ·exact putNd_ok (h.nodes i x hx) (Nat.le_refl _) hf hs hm (inB_iff.2 ⟨by omega,by omega⟩)
  ·exact h.nodes k n e
 ·rcases hget k n hn with⟨rfl,rfl⟩|⟨_,e⟩
  ·rcases putNd_kid.1 hc with rfl|hc
   ·exact hdown k _ (down_file hz hzf)
   ·exact hdown k c (h.down k x hx c hc)
  ·exact hdown k c (h.down k n e c hc)
 ·unfold LkOk;rw[hcnt]
  have key:∀n,T[k]?=some n→1≤(kids T).count (k:Int)+(if (kid:Int)=(k:Int)then 1 else 0)∧(n.fold=true→(kids T).count (k:Int)+(if (kid:Int)=(k:Int)then 1 else 0)≤1):=fun n hn=>by
   have h1:=h.links k n hn hk;refine⟨by have:=h1.1;omega,fun hnf=>?_⟩
   rw[if_neg (fun e=>by
    have e':kid=k:=by omega
    subst e';rw[hz]at hn;cases hn
    exact Bool.noConfusion (hzf.symm.trans hnf))]
   exact h1.2 hnf
  rcases hget k n hn with⟨rfl,rfl⟩|⟨_,e⟩
  ·exact key x hx
  ·exact key n e
theorem tree_same {T:List Nd} (h:TreeOk T) {i:Nat} {x z:Nd} (hx:T[i]?=some x) (hf:z.fold=x.fold) (hK:z.K=x.K) (hz:NodeOk z T.length):TreeOk (T.set i z):=by
 have hi:=(List.getElem?_eq_some_iff.1 hx).1
 have hget:∀k n,(T.set i z)[k]?=some n→(k=i∧n=z)∨(k≠i∧T[k]?=some n):=fun k n hn=>by
  by_cases hik:i=k
  ·subst hik;rw[List.getElem?_set_self hi]at hn;exact .inl ⟨rfl,(Option.some.inj hn).symm⟩
  ·rw[List.getElem?_set_ne hik]at hn;exact .inr ⟨fun e=>hik e.symm,hn⟩
 have hcnt:∀c,(kids (T.set i z)).count c=(kids T).count c:=fun c=>kids_set (d:=0) hx (by rw[hK];rfl)
 have hdown:∀(k:Nat) (c:Int),DownOk T k c→DownOk (T.set i z) k c:=fun k c hd m hm2 hmf=>by
  rcases hget c.toNat m hm2 with⟨e,rfl⟩|⟨_,e⟩
  ·exact hd x (by rw[e];exact hx) (hf ▸ hmf)
  ·exact hd m e hmf
 refine⟨by rw[List.length_set];exact h.pos,by rw[List.length_set];exact h.max,fun n hn=>?_,fun k n hn=>?_,fun k n hn c hc=>?_,fun k n hn hk=>?_⟩
 ·rcases hget 0 n hn with⟨e,rfl⟩|⟨_,e⟩
  ·rw[hf];exact h.root x (by rw[e];exact hx)
  ·exact h.root n e
 ·rw[List.length_set]
  rcases hget k n hn with⟨_,rfl⟩|⟨_,e⟩
  ·exact hz
  ·exact h.nodes k n e
 ·rcases hget k n hn with⟨rfl,rfl⟩|⟨_,e⟩
  ·rw[hK]at hc;exact hdown k c (h.down k x hx c hc)
  ·exact hdown k c (h.down k n e c hc)
 ·unfold LkOk;rw[hcnt]
  rcases hget k n hn with⟨rfl,rfl⟩|⟨_,e⟩
  ·rw[hf];exact h.links k x hx hk
  ·exact h.links k n e hk
def joinB (P:List ByteArray):ByteArray:=P.foldl (fun o p=>o++⟨#[47]⟩++p) ⟨#[]⟩
def PartsOk (P:List ByteArray):Prop:=(∀p∈P,NameOk p)∧P.length≤6
noncomputable def joinPath (P:List ByteArray):ByteArray:=open Classical in if P=[]then⟨#[47]⟩else if PartsOk P then joinB P else⟨#[]⟩
theorem joinB_step {P:List ByteArray} {k:Nat} {p:ByteArray} (h:P[k]?=some p):joinB (P.take (k+1))=joinB (P.take k)++⟨#[47]⟩++p:=by
 rw[List.take_add_one,h];simp[joinB,List.foldl_append]
theorem joinB_size_pos {P:List ByteArray} (h:P≠[]):0 < (joinB P).size:=by
 obtain⟨Q,p,rfl⟩:∃Q p,P=Q++[p]:=⟨P.dropLast,P.getLast h,(List.dropLast_concat_getLast h).symm⟩;simp only[joinB,List.foldl_append,List.foldl_cons,List.foldl_nil,ByteArray.size_append]
 show 0 < _+1+_
 omega
theorem isEmpty_pos {s:ByteArray} (h:0 < s.size):s.toList.isEmpty=false:=by
 rw[ByteArray.toList_eq];obtain⟨⟨x⟩⟩:=s
 cases x
 ·simp[ByteArray.size]at h
 ·simp
theorem specJoinPath (a:Option Addr) (cap:Nat) (P:List ByteArray) (w:World) (hl:P.length≤9223372036854775807) (hs:∀p∈P,p.size≤9223372036854775807) (hc:Rd 1 encStr1 w a P) :
  Calls Tryz.prog 107 #[.slice a P.length cap] w (RetV (fun v _=>v=.string (joinPath P)) w):=by
 have HS:=hd0 hs;clear hs
 go_enter Tryz.func107,Tryz.ntmps107
 go_wp2
 go_loopw [3,4] (fun o i wr=>∃k:Nat,k≤P.length∧i=.int .i64 k∧o=.string (joinB (P.take k))∧(joinB (P.take k)).size≤9*k∧(∀(j:Nat) p,j < k→P[j]?=some p→NameOk p)∧(k=0∨P.length≤6)∧Ext w wr) (fun _ i _=>P.length - (intOf i).toNat)
 case atStart=>exact⟨0,Nat.zero_le _,rfl,rfl,by simp[joinB,ByteArray.size],fun _ _ h=>absurd h (Nat.not_lt_zero _),.inl rfl,Ext.refl _⟩
 case round =>
  obtain⟨k,hk,rfl,rfl,hz,hpre,h6,hb⟩:=hrel;have Hpre:=hd0 hpre;have H6:=hd0 h6;clear hpre h6
  by_cases hlt:k < P.length
  rotate_left
  ·obtain rfl:k=P.length:=by omega
   have hni:¬(P.length:Int) < (P.length:Int):=by omega
   rw[List.take_length]at hz ⊢
   by_cases hP:P=[]
   ·subst hP;have HR:Hid (joinPath []=⟨#[47]⟩):=hd0 (by simp[joinPath])
    have te:(joinB []).toList.isEmpty=true:=by simp[joinB,ByteArray.toList_eq]
    simp only[List.length_nil]at hni ⊢;go_wp2;go_ret;exact RetV.mk (by rw[HR.out];rfl) hb
   ·have HR:Hid (joinPath P=joinB P):=hd0 (by
     rw[joinPath,if_neg hP,if_pos];refine⟨fun p hp=>?_,H6.out.elim (fun h=>absurd (List.eq_nil_of_length_eq_zero h) hP) (fun h=>h)⟩;obtain⟨j,hj⟩:=List.getElem?_of_mem hp
     exact Hpre.out j p (List.getElem?_eq_some_iff.1 hj).1 hj)
    have te:=isEmpty_pos (joinB_size_pos hP);clear hP;generalize joinB P=o at *;go_wp2;go_ret;exact RetV.mk (by rw[HR.out];rfl) hb
  ·obtain⟨x,b,off,hx,rfl,c0⟩:=atStr (hc.ext hb) hlt;have Hx:=hd0 hx;have hsx:=HS.out x (List.mem_of_getElem? hx)
   have i0:(k:Int) < (P.length:Int):=by omega
   have Hst:=hd0 (joinB_step hx);have HP:Hid (¬PartsOk P→joinPath P=⟨#[]⟩):=hd0 (fun h=>by rw[joinPath,if_neg (fun e=>by subst e;simp at hlt),if_neg h]);clear hx;generalize joinB (P.take k)=o at *
   go_wp2_with fail
   refine(specNameValid x wr hsx).mono ?_;rintro e w2 ⟨v,rfl,hv,hE⟩;have Hv:=hd0 hv;have hb2:=hb.trans hE;have d0:=cell_ext hE c0;clear hv c0
   cases v with
   | false =>
    have HR:=hd0 (HP.out (fun h=>Bool.noConfusion (Hv.out.2 (h.1 x (List.mem_of_getElem? Hx.out)))));go_wp2;go_ret;exact RetV.mk (by rw[HR.out];rfl) hb2
   | true =>
    have HN:=hd0 (Hv.out.1 rfl);clear Hv
    by_cases hl6:P.length≤6
    rotate_left
    ·have t6:(6:Int) < (P.length:Int):=by omega
     have HR:=hd0 (HP.out (fun h=>hl6 h.2));go_wp2;go_ret;exact RetV.mk (by rw[HR.out];rfl) hb2
    ·have t6:¬(6:Int) < (P.length:Int):=by omega
     have h8:x.size≤8:=HN.out.2.2
     have hsz:o.size+(⟨#[47]⟩:ByteArray).size≤9223372036854775807:=by
      show o.size+1≤_
      omega
     have hsz2:(o++⟨#[47]⟩:ByteArray).size+x.size≤9223372036854775807:=by
      rw[ByteArray.size_append]
      show o.size+1+_≤_
      omega
     have HZ:Hid ((o++⟨#[47]⟩++x:ByteArray).size≤9*(k+1)):=hd0 (by
      rw[ByteArray.size_append,ByteArray.size_append]
      show o.size+1+_≤_
      omega)
     have Hnext:Hid (∀(j:Nat) p,j < k+1→P[j]?=some p→NameOk p):=hd0 (fun j p hj hp=>by
      rcases Nat.lt_succ_iff_lt_or_eq.1 hj with h'|rfl
      ·exact Hpre.out j p h' hp
      ·rw[Hx.out]at hp;cases hp;exact HN.out)
     go_wp2;go_roundw
     case rel=>exact⟨k+1,by omega,by go_num,by rw[Hst.out],by rw[Hst.out];exact HZ.out,Hnext.out,.inr hl6,hb2⟩
     case measure=>simp[intOf];omega
def stepP (out:List ByteArray) (c:UInt8):List ByteArray:=if c=47 then out++[⟨#[]⟩]else match out.getLast? with
 | none=>[]
 | some l=>out.dropLast++[l++⟨#[c]⟩]
def cutP (s:List UInt8):List ByteArray:=s.foldl stepP []
theorem stepP_slash (Q:List ByteArray):stepP Q 47=Q++[⟨#[]⟩]:=by simp[stepP]
theorem stepP_char (Q:List ByteArray) (p:ByteArray) {c:UInt8} (h:c≠47):stepP (Q++[p]) c=Q++[p++⟨#[c]⟩]:=by simp[stepP,h]
theorem step_name (Q:List ByteArray):∀(l:List UInt8) (p0:ByteArray),(∀c∈l,c≠47)→l.foldl stepP (Q++[p0])=Q++[p0++⟨l.toArray⟩]
 | [],p0,_=>by
  have:p0++(⟨#[]⟩:ByteArray)=p0:=by apply ByteArray.ext;simp[ByteArray.data_append]
  simp[this]
 | c :: l,p0,h=>by
  rw[List.foldl_cons,stepP_char Q p0 (h c (List.mem_cons_self ..)),step_name Q l _ (fun d hd=>h d (List.mem_cons_of_mem _ hd))]
  congr 2
  apply ByteArray.ext;simp[ByteArray.data_append]
theorem name_noslash {p:ByteArray} (h:NameOk p):∀c∈p.data.toList,c≠47:=fun c hc e=>by
 obtain⟨i,hi,he⟩:=List.getElem_of_mem hc
 have hi':i < p.size:=by rw[Array.length_toList]at hi;exact hi
 have h1:=h.1 i hi'
 have h2:p[i]=c:=by rw[←he];rfl
 rw[h2,e]at h1;unfold NameChar at h1;have:(47:UInt8).toNat=47:=rfl;omega
theorem cut_join_take {P:List ByteArray} (h:∀p∈P,NameOk p):∀k,k≤P.length→cutP (joinB (P.take k)).data.toList=P.take k
 | 0,_=>by simp[joinB,cutP]
 | k+1,hk=>by
  have hx:P[k]?=some P[k]:=List.getElem?_eq_getElem (by omega);have ih:=cut_join_take h k (by omega);rw[joinB_step hx,List.take_add_one,hx];unfold cutP at ih ⊢
  have e:(joinB (P.take k)++⟨#[47]⟩++P[k]:ByteArray).data.toList=(joinB (P.take k)).data.toList++([47]++P[k].data.toList):=by simp[ByteArray.data_append]
  rw[e,List.foldl_append,ih,List.foldl_append,List.foldl_cons,List.foldl_nil,stepP_slash,step_name _ _ _ (name_noslash (h _ (List.getElem_mem _)))]
  congr 2
theorem cut_join {P:List ByteArray} (h:∀p∈P,NameOk p):cutP (joinB P).data.toList=P:=by
 have:=cut_join_take h P.length (Nat.le_refl _)
 rwa [List.take_length]at this
def PartsR (s:ByteArray) (P:List ByteArray) (ok:Bool):Prop:=(ok=true∧PartsOk P∧joinPath P=s)∨(ok=false∧P=[]∧∀Q,PartsOk Q→joinPath Q≠s)
theorem joinPath_ok {P:List ByteArray} (h:PartsOk P) (hn:P≠[]):joinPath P=joinB P:=by rw[joinPath,if_neg hn,if_pos h]
theorem joinPath_inj {P Q:List ByteArray} (h:PartsOk P) (k:PartsOk Q) (e:joinPath P=joinPath Q):P=Q:=by
 have one:∀R:List ByteArray,PartsOk R→R≠[]→joinB R≠⟨#[47]⟩:=fun R hR hn he=>by
  have h1:=cut_join hR.1;rw[he]at h1
  have h2:R=[⟨#[]⟩]:=by rw[←h1];simp[cutP,stepP]
  have h3:=(hR.1 ⟨#[]⟩ (by rw[h2];simp)).2.1;exact absurd h3 (by decide)
 by_cases hP:P=[]
 ·by_cases hQ:Q=[]
  ·rw[hP,hQ]
  ·rw[joinPath_ok k hQ,hP]at e;exact absurd e.symm (by simpa [joinPath]using one Q k hQ)
 ·by_cases hQ:Q=[]
  ·rw[joinPath_ok h hP,hQ]at e;exact absurd e (by simpa [joinPath]using one P h hP)
  ·rw[joinPath_ok h hP,joinPath_ok k hQ]at e;rw[←cut_join h.1,←cut_join k.1,e]
end Go.Proofs.YtnibbldfohbfkaaGreatDoor
