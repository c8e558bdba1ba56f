/- Parts of one proof: what each theorem proves, and its conditions, stand in its own statement. -/
import Derived.Test.YtnibbldfohbfkaaGreatDoorMn7
set_option linter.all false
set_option maxRecDepth 100000
set_option maxHeartbeats 32000000
namespace Go.Proofs.YtnibbldfohbfkaaGreatDoor
open Go.RowKit
def RetWs (L:List ByteArray) (w:World) (e:Ending) (w':World):Prop:=∃u,e=.returned u∧Sep w w' [plRow 9 1 encStr1 u L]
theorem specWords (s:ByteArray) (w:World) (hs:s.size≤1048576) :
  Calls Tryz.prog 30 #[.string s] w (RetWs (wordsB s) w):=by
 go_enter Tryz.func30,Tryz.ntmps30
 have S:=Sep.start w;replace S:Sep w (w.alloc (.cells #[.string ⟨#[]⟩] 9)) [plRow 9 1 encStr1 (.slice (some ⟨w.heap.size,0,none⟩) 1 1) [⟨#[]⟩]]:=S.lit (by simp) _ _ encStr1_len [⟨#[]⟩] rfl rfl (by omega);go_wp2;generalize (w.alloc (.cells #[.string ⟨#[]⟩] 9))=w1 at *
 go_loopw [3,4] (fun o i wr=>∃(k:Nat) (a:Option Addr) (c:Nat) (X:List ByteArray),k≤s.size∧i=.int .i64 k∧o=.slice a X.length c∧X=wordsL (s.data.toList.take k)∧(∀x∈X,x.size≤k)∧Sep w wr [plRow 9 1 encStr1 (.slice a X.length c) X]) (fun _ i _=>s.size - (intOf i).toNat)
 case atStart=>exact⟨0,some ⟨w.heap.size,0,none⟩,1,[⟨#[]⟩],Nat.zero_le _,rfl,rfl,by simp[wordsL],fun x hx=>by rw[List.mem_singleton.1 hx];exact Nat.le_refl _,S⟩
 case round =>
  clear S;obtain⟨k,a,c,X,hk,rfl,rfl,hX,hF,S⟩:=hrel;have hwi:=winv (s.data.toList.take k);rw[←hX]at hwi
  have hXl:X.length≤k+1:=by
   have h1:=hwi.len;rw[List.length_take]at h1;omega
  have HXp:Hid (0 < X.length):=hd0 (List.length_pos_iff.2 hwi.ne);have HX:=hd0 hX;have HF:=hd0 hF;clear hX hF hwi
  by_cases hlt:k < s.size
  rotate_left
  ·obtain rfl:k=s.size:=by omega
   have hni:¬(s.size:Int) < (s.size:Int):=by omega
   have hXe:Hid (X=wordsB s):=hd0 (by rw[HX.out,List.take_of_length_le (by rw[Array.length_toList];exact Nat.le_refl _)];rfl);go_wp2;go_ret;exact⟨_,rfl,by rw[←hXe.out];exact S⟩
  ·have i0:(k:Int) < (s.size:Int):=by omega
   have i00:(0:Int)≤(k:Int):=by omega
   have HS1:=hd0 (words_step hlt)
   by_cases hc:s[k].toNat=32
   ·have hc8:s[k]=32:=UInt8.toNat_inj.1 hc
    have tc:(s[k].toNat:Int)=32:=by omega
    have HN:Hid (X++[⟨#[]⟩]=wordsL (s.data.toList.take (k+1))):=hd0 (by rw[HS1.out,hc8,stepW_sp,←HX.out])
    have HFN:Hid (∀x∈X++[(⟨#[]⟩:ByteArray)],x.size≤k+1):=hd0 (fun x hx=>by
     rcases List.mem_append.1 hx with hx|hx
     ·have:=HF.out x hx;omega
     ·rw[List.mem_singleton.1 hx];exact Nat.zero_le _)
    clear hc8 hc HS1;have SA:=S.alloc #[.string ⟨#[]⟩] 9;have rd1:Rd 1 encStr1 (wr.alloc (.cells #[.string ⟨#[]⟩] 9)) (some ⟨wr.heap.size,0,none⟩) [(⟨#[]⟩:ByteArray)]:=rd_lit_new [(⟨#[]⟩:ByteArray)] encStr1_len rfl
    go_wp2_with (at_builtin;refine Hid.out (?_:Hid _))
    unfold Hid;refine wpList_append_b rfl _ _ 39 rfl w.heap.size 9 _ 1 _ Tryz.underlying39 infoStr1 rfl (by decide) encStr1_len encStr1_one _ X.length X rfl (SA.row (0+1) rfl) rfl (some ⟨wr.heap.size,0,none⟩) 1 1 [(⟨#[]⟩:ByteArray)] rfl rfl rd1 (by omega) (by omega) SA.chg.size ?_;intro v7 w7 ho hgr hblk;obtain⟨G,hG⟩:∃G,G=X++[(⟨#[]⟩:ByteArray)]:=⟨_,rfl⟩;rw[←hG]at ho HN HFN;obtain⟨a7,c7,hv7,hk7,_,_⟩:=view_owns encStr1_len ho;subst hv7;have SM:=(SA.grow (0+1) rfl hgr ho hblk).drop 0;clear ho hgr hblk SA rd1 S hG;go_wp2;go_roundw
    case rel=>exact⟨k+1,a7,c7,G,by omega,by go_num,rfl,HN.out,HFN.out,SM⟩
    case measure=>simp[intOf];omega
   ·have hc8:s[k]≠32:=fun h=>hc (by rw[h];rfl)
    have tc:((s[k].toNat:Int) == 32)=false:=by simp;omega
    obtain⟨m,hm⟩:∃m,X.length=m+1:=⟨X.length - 1,by have:=HXp.out;omega⟩;have hx:X[m]?=some X[m]:=List.getElem?_eq_getElem (by omega);obtain⟨l,hl⟩:∃l,l=X[m]:=⟨_,rfl⟩;rw[←hl]at hx;have hrow:=S.row 0 rfl;obtain⟨g,rfl⟩:=row_blk encStr1_len hrow (by omega)
    have g0:wr.cell? ⟨g,m,none⟩=some (.string l):=by
     have:=owns_at encStr1_len hrow m (by omega) 0 (.string l) (by rw[←hl];rfl)
     simpa using this
    have hls:=HF.out l (List.mem_of_getElem? hx);have HN:Hid (X.set m (l++s.extract k (k+1))=wordsL (s.data.toList.take (k+1))):=hd0 (by rw[HS1.out,←HX.out,stepW_last hc8 hm hx,ext_one hlt])
    have hE1:(s.extract k (k+1)).size=1:=by rw[ext_one hlt];rfl
    have HFN:Hid (∀x∈X.set m (l++s.extract k (k+1)),x.size≤k+1):=hd0 (fun x hx=>by
     rcases List.mem_or_eq_of_mem_set hx with hx|rfl
     ·have:=HF.out x hx;omega
     ·rw[ByteArray.size_append];omega)
    have hml:m < X.length:=by omega
    have t0:(0:Int) < (X.length:Int):=by omega
    have HXm:=hd0 hm
    have hw1:IntKind.i64.wrap ((X.length:Int) - 1)=(m:Int):=by rw[show(X.length:Int) - 1=m by omega];exact IntWalk.i64_in _ (by omega)
    have hmi:(m:Int) < (X.length:Int):=by omega
    have hwk:IntKind.i64.wrap ((k:Int)+1)=(k:Int)+1:=IntWalk.i64_in _ (by omega)
    have hsz:¬9223372036854775807 < l.size+1:=by omega
    have hkt:((k:Int)+1).toNat=k+1:=by omega
    have hk1:(k:Int)+1≤(s.size:Int):=by omega
    have hk2:(k:Int)≤(k:Int)+1:=by omega
    have hk3:(0:Int)≤(k:Int)+1:=by omega
    clear hc8 hc HS1 hl hx hm
    go_wp2_with fail
    go_still_tail 16,(by kernel_rfl)
    change wpList _ _ _ _ _ wr.drew
    generalize hw2:wr.drew=w2
    have he2:Ext wr w2:=by rw[←hw2];exact(Ext.refl wr).drew
    have SM:=(S.step he2).rowSet 0 encStr1_len rfl rfl m 0 (.string (l++s.extract k (k+1))) (l++s.extract k (k+1)) hml (by omega) rfl
    have f0:=(S.step he2).row 0 rfl |>.frozenAt
    have g2:=cell_ext he2 g0;have HSM:=hd0 SM;clear SM S g0 hw2 hrow;go_wp2;go_roundw
    case rel=>exact⟨k+1,some ⟨g,0,none⟩,c,X.set m (l++s.extract k (k+1)),by omega,by go_num,by rw[List.length_set],HN.out,HFN.out,by simpa using HSM.out⟩
    case measure=>simp[intOf];omega
theorem specReadMode (s:ByteArray) (w:World) (hs:s.size≤1048576):Calls Tryz.prog 38 #[.string s] w fun e w'=>e=.returned (.tuple #[.int .i64 (readMode s).1,.bool (readMode s).2])∧w=w':=by
 go_enter Tryz.func38,Tryz.ntmps38
 go_wp2
 go_loopw [4,5] (fun md i wr=>∃k:Nat,k≤9∧k≤s.size∧md=.int .i64 (rdPre s.data.toList k)∧i=.int .i64 k∧w=wr) (fun _ i _=>9 - (intOf i).toNat)
 case atStart=>exact⟨0,by omega,by omega,rfl,rfl,rfl⟩
 case round =>
  obtain⟨k,hk9,hks,rfl,rfl,rfl⟩:=hrel;obtain⟨b0,b1⟩:=rdPre_bd s.data.toList k
  have b2:rdPre s.data.toList k < 512:=Int.lt_of_lt_of_le b1 (by
   rcases(show k=0∨k=1∨k=2∨k=3∨k=4∨k=5∨k=6∨k=7∨k=8∨k=9 by omega)with rfl|rfl|rfl|rfl|rfl|rfl|rfl|rfl|rfl|rfl<;>decide)
  clear b1
  by_cases hgo:k < s.size∧k < 9
  ·obtain⟨hlt,hl9⟩:=hgo
   have i0:(k:Int) < (s.size:Int):=by omega
   have i9:(k:Int) < 9:=by omega
   have i00:(0:Int)≤(k:Int):=by omega
   have HS1:=hd0 (rdPre_step hlt)
   by_cases hc:s[k].toNat=45
   ·have hc8:s[k]=45:=UInt8.toNat_inj.1 hc
    have tc:((s[k].toNat:Int) != 45)=false:=by simp;omega
    have HN:Hid (2*rdPre s.data.toList k=rdPre s.data.toList (k+1)):=hd0 (by rw[HS1.out,if_pos hc8];omega);clear hc hc8 HS1;generalize rdPre s.data.toList k=md at *;go_wp2;go_roundw
    case rel=>exact⟨k+1,by omega,by omega,by rw[←HN.out],by go_num,by first|rfl|trivial⟩
    case measure=>simp[intOf];omega
   ·have hc8:s[k]≠45:=fun h=>hc (by rw[h];rfl)
    have tc:((s[k].toNat:Int) != 45)=true:=by simp;omega
    have HN:Hid (2*rdPre s.data.toList k+1=rdPre s.data.toList (k+1)):=hd0 (by rw[HS1.out,if_neg hc8]);clear hc hc8 HS1;generalize rdPre s.data.toList k=md at *;go_wp2;go_roundw
    case rel=>exact⟨k+1,by omega,by omega,by rw[←HN.out],by go_num,by first|rfl|trivial⟩
    case measure=>simp[intOf];omega
  ·have hkm:k=min s.data.toList.length 9:=by rw[Array.length_toList];show k=min s.size 9;omega
   have HRl:Hid (rdL s.data.toList=rdPre s.data.toList k+if s.size=10 then 512 else 0):=hd0 (by
    unfold rdL
    rw[←hkm,Array.length_toList];rfl)
   clear hkm;generalize rdPre s.data.toList k=md at *;have HMd:Hid (∀m,Calls Tryz.prog 75 #[.int .i64 m] w fun e w'=>e=.returned (.string (modeText m))∧w=w'):=hd0 (fun m=>specModeText m w)
   have g9:((k:Int) < (s.size:Int)∧¬(k:Int) < 9)∨¬(k:Int) < (s.size:Int):=by omega
   clear hgo
   rcases g9 with⟨g1,g2⟩|g1
   ·by_cases h10:s.size=10
    ·have HL:Hid (inB (10:Int) 9 10=true):=hd0 rfl;have HR2:Hid (rdL s.data.toList=md+512):=hd0 (by rw[HRl.out,if_pos h10])
     by_cases he:modeText (md+512)=s
     ·have HX:Hid (readMode s=(md+512,true)):=hd0 (by unfold readMode;rw[HR2.out,if_pos ⟨.inr h10,he⟩])
      have te:((modeText (md+512)).toList != s.toList)=false:=by rw[he];simp
      have te2:((modeText (md+512)).toList == s.toList)=true:=by rw[he];simp
      have HMc:=hd0 (HMd.out (md+512));clear he HRl HR2 HMd;generalize modeText (md+512)=tx at *
      go_wp2_with (first|(go_at_call 68;refine(l1In_is HL.out _).mono ?_;rintro e w' ⟨rfl,rfl⟩)|(go_at_call 75;refine HMc.out.mono ?_;rintro e w' ⟨rfl,rfl⟩)|fail)
      first|done|(go_ret2;exact⟨by rw[HX.out];rfl,by first|rfl|trivial⟩)
     ·have HX:Hid (readMode s=(0,false)):=hd0 (by unfold readMode;rw[HR2.out,if_neg (fun h=>he h.2)])
      have te2:((modeText (md+512)).toList == s.toList)=false:=by simpa [bytes_eq]using he
      have te:((modeText (md+512)).toList != s.toList)=true:=by rw[bne,te2];rfl
      have HMc:=hd0 (HMd.out (md+512));clear he HRl HR2 HMd;generalize modeText (md+512)=tx at *
      go_wp2_with (first|(go_at_call 68;refine(l1In_is HL.out _).mono ?_;rintro e w' ⟨rfl,rfl⟩)|(go_at_call 75;refine HMc.out.mono ?_;rintro e w' ⟨rfl,rfl⟩)|fail)
      first|done|(go_ret2;exact⟨by rw[HX.out];rfl,by first|rfl|trivial⟩)
    ·by_cases h9:s.size=9
     ·have HL:Hid (inB (9:Int) 9 10=true):=hd0 rfl;have HR2:Hid (rdL s.data.toList=md):=hd0 (by rw[HRl.out,if_neg h10];omega)
      by_cases he:modeText (md)=s
      ·have HX:Hid (readMode s=(md,true)):=hd0 (by unfold readMode;rw[HR2.out,if_pos ⟨.inl h9,he⟩])
       have te:((modeText (md)).toList != s.toList)=false:=by rw[he];simp
       have te2:((modeText (md)).toList == s.toList)=true:=by rw[he];simp
       have HMc:=hd0 (HMd.out (md));clear he HRl HR2 HMd;generalize modeText (md)=tx at *
       go_wp2_with (first|(go_at_call 68;refine(l1In_is HL.out _).mono ?_;rintro e w' ⟨rfl,rfl⟩)|(go_at_call 75;refine HMc.out.mono ?_;rintro e w' ⟨rfl,rfl⟩)|fail)
       first|done|(go_ret2;exact⟨by rw[HX.out];rfl,by first|rfl|trivial⟩)
      ·have HX:Hid (readMode s=(0,false)):=hd0 (by unfold readMode;rw[HR2.out,if_neg (fun h=>he h.2)])
       have te2:((modeText (md)).toList == s.toList)=false:=by simpa [bytes_eq]using he
       have te:((modeText (md)).toList != s.toList)=true:=by rw[bne,te2];rfl
       have HMc:=hd0 (HMd.out (md));clear he HRl HR2 HMd;generalize modeText (md)=tx at *
       go_wp2_with (first|(go_at_call 68;refine(l1In_is HL.out _).mono ?_;rintro e w' ⟨rfl,rfl⟩)|(go_at_call 75;refine HMc.out.mono ?_;rintro e w' ⟨rfl,rfl⟩)|fail)
       first|done|(go_ret2;exact⟨by rw[HX.out];rfl,by first|rfl|trivial⟩)
     ·have t10:((s.size:Int) == 10)=false:=by simp;omega
      have HL:Hid (inB (s.size:Int) 9 10=false):=hd0 (by simp[inB];omega);have HX:Hid (readMode s=(0,false)):=hd0 (by unfold readMode;rw[if_neg (fun h=>h.1.elim h9 h10)]);clear HRl
      go_wp2_with (first|(go_at_call 68;refine(l1In_is HL.out _).mono ?_;rintro e w' ⟨rfl,rfl⟩)|(go_at_call 75;refine HMc.out.mono ?_;rintro e w' ⟨rfl,rfl⟩)|fail)
      first|done|(go_ret2;exact⟨by rw[HX.out];rfl,by first|rfl|trivial⟩)
   ·by_cases h10:s.size=10
    ·have HL:Hid (inB (10:Int) 9 10=true):=hd0 rfl;have HR2:Hid (rdL s.data.toList=md+512):=hd0 (by rw[HRl.out,if_pos h10])
     by_cases he:modeText (md+512)=s
     ·have HX:Hid (readMode s=(md+512,true)):=hd0 (by unfold readMode;rw[HR2.out,if_pos ⟨.inr h10,he⟩])
      have te:((modeText (md+512)).toList != s.toList)=false:=by rw[he];simp
      have te2:((modeText (md+512)).toList == s.toList)=true:=by rw[he];simp
      have HMc:=hd0 (HMd.out (md+512));clear he HRl HR2 HMd;generalize modeText (md+512)=tx at *
      go_wp2_with (first|(go_at_call 68;refine(l1In_is HL.out _).mono ?_;rintro e w' ⟨rfl,rfl⟩)|(go_at_call 75;refine HMc.out.mono ?_;rintro e w' ⟨rfl,rfl⟩)|fail)
      first|done|(go_ret2;exact⟨by rw[HX.out];rfl,by first|rfl|trivial⟩)
     ·have HX:Hid (readMode s=(0,false)):=hd0 (by unfold readMode;rw[HR2.out,if_neg (fun h=>he h.2)])
      have te2:((modeText (md+512)).toList == s.toList)=false:=by simpa [bytes_eq]using he
      have te:((modeText (md+512)).toList != s.toList)=true:=by rw[bne,te2];rfl
      have HMc:=hd0 (HMd.out (md+512));clear he HRl HR2 HMd;generalize modeText (md+512)=tx at *
      go_wp2_with (first|(go_at_call 68;refine(l1In_is HL.out _).mono ?_;rintro e w' ⟨rfl,rfl⟩)|(go_at_call 75;refine HMc.out.mono ?_;rintro e w' ⟨rfl,rfl⟩)|fail)
      first|done|(go_ret2;exact⟨by rw[HX.out];rfl,by first|rfl|trivial⟩)
    ·by_cases h9:s.size=9
     ·have HL:Hid (inB (9:Int) 9 10=true):=hd0 rfl;have HR2:Hid (rdL s.data.toList=md):=hd0 (by rw[HRl.out,if_neg h10];omega)
      by_cases he:modeText (md)=s
      ·have HX:Hid (readMode s=(md,true)):=hd0 (by unfold readMode;rw[HR2.out,if_pos ⟨.inl h9,he⟩])
       have te:((modeText (md)).toList != s.toList)=false:=by rw[he];simp
       have te2:((modeText (md)).toList == s.toList)=true:=by rw[he];simp
       have HMc:=hd0 (HMd.out (md));clear he HRl HR2 HMd;generalize modeText (md)=tx at *
       go_wp2_with (first|(go_at_call 68;refine(l1In_is HL.out _).mono ?_;rintro e w' ⟨rfl,rfl⟩)|(go_at_call 75;refine HMc.out.mono ?_;rintro e w' ⟨rfl,rfl⟩)|fail)
       first|done|(go_ret2;exact⟨by rw[HX.out];rfl,by first|rfl|trivial⟩)
      ·have HX:Hid (readMode s=(0,false)):=hd0 (by unfold readMode;rw[HR2.out,if_neg (fun h=>he h.2)])
       have te2:((modeText (md)).toList == s.toList)=false:=by simpa [bytes_eq]using he
       have te:((modeText (md)).toList != s.toList)=true:=by rw[bne,te2];rfl
       have HMc:=hd0 (HMd.out (md));clear he HRl HR2 HMd;generalize modeText (md)=tx at *
       go_wp2_with (first|(go_at_call 68;refine(l1In_is HL.out _).mono ?_;rintro e w' ⟨rfl,rfl⟩)|(go_at_call 75;refine HMc.out.mono ?_;rintro e w' ⟨rfl,rfl⟩)|fail)
       first|done|(go_ret2;exact⟨by rw[HX.out];rfl,by first|rfl|trivial⟩)
     ·have t10:((s.size:Int) == 10)=false:=by simp;omega
      have HL:Hid (inB (s.size:Int) 9 10=false):=hd0 (by simp[inB];omega);have HX:Hid (readMode s=(0,false)):=hd0 (by unfold readMode;rw[if_neg (fun h=>h.1.elim h9 h10)]);clear HRl
      go_wp2_with (first|(go_at_call 68;refine(l1In_is HL.out _).mono ?_;rintro e w' ⟨rfl,rfl⟩)|(go_at_call 75;refine HMc.out.mono ?_;rintro e w' ⟨rfl,rfl⟩)|fail)
      first|done|(go_ret2;exact⟨by rw[HX.out];rfl,by first|rfl|trivial⟩)
end Go.Proofs.YtnibbldfohbfkaaGreatDoor
