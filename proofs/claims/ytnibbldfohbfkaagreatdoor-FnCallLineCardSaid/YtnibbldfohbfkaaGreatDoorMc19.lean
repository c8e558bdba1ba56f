/- Parts of one proof: what each theorem proves, and its conditions, stand in its own statement. -/
import Derived.Test.YtnibbldfohbfkaaGreatDoorMc7
set_option linter.all false
set_option maxRecDepth 100000
set_option maxHeartbeats 32000000
namespace Go.Proofs.YtnibbldfohbfkaaGreatDoor
open Go.RowKit
theorem specReadMode (s:ByteArray) (w:World) (hs:s.size≤1048576):Calls Tryz.prog 38 #[.string s] w fun e w'=>e=.returned (.tuple #[.int .i64 (readMode s).1,.bool (readMode s).2])∧w=w':=by
 go_enter Tryz.func38,Tryz.ntmps38
 go_wp2
 go_loopw [4,5] (fun md i wr=>∃k:Nat,k≤9∧k≤s.size∧md=.int .i64 (rdPre s.data.toList k)∧i=.int .i64 k∧w=wr) (fun _ i _=>9 - (intOf i).toNat)
 case atStart=>exact⟨0,by omega,by omega,rfl,rfl,rfl⟩
 case round =>
  obtain⟨k,hk9,hks,rfl,rfl,rfl⟩:=hrel;obtain⟨b0,b1⟩:=rdPre_bd s.data.toList k
  have b2:rdPre s.data.toList k < 512:=Int.lt_of_lt_of_le b1 (by
   rcases(show k=0∨k=1∨k=2∨k=3∨k=4∨k=5∨k=6∨k=7∨k=8∨k=9 by omega)with rfl|rfl|rfl|rfl|rfl|rfl|rfl|rfl|rfl|rfl<;>decide)
  clear b1
  by_cases hgo:k < s.size∧k < 9
  ·obtain⟨hlt,hl9⟩:=hgo
   have i0:(k:Int) < (s.size:Int):=by omega
   have i9:(k:Int) < 9:=by omega
   have i00:(0:Int)≤(k:Int):=by omega
   have HS1:=hd0 (rdPre_step hlt)
   by_cases hc:s[k].toNat=45
   ·have hc8:s[k]=45:=UInt8.toNat_inj.1 hc
    have tc:((s[k].toNat:Int) != 45)=false:=by simp;omega
    have HN:Hid (2*rdPre s.data.toList k=rdPre s.data.toList (k+1)):=hd0 (by rw[HS1.out,if_pos hc8];omega);clear hc hc8 HS1;generalize rdPre s.data.toList k=md at *;go_wp2;go_roundw
    case rel=>exact⟨k+1,by omega,by omega,by rw[←HN.out],by go_num,by first|rfl|trivial⟩
    case measure=>simp[intOf];omega
   ·have hc8:s[k]≠45:=fun h=>hc (by rw[h];rfl)
    have tc:((s[k].toNat:Int) != 45)=true:=by simp;omega
    have HN:Hid (2*rdPre s.data.toList k+1=rdPre s.data.toList (k+1)):=hd0 (by rw[HS1.out,if_neg hc8]);clear hc hc8 HS1;generalize rdPre s.data.toList k=md at *;go_wp2;go_roundw
    case rel=>exact⟨k+1,by omega,by omega,by rw[←HN.out],by go_num,by first|rfl|trivial⟩
    case measure=>simp[intOf];omega
  ·have hkm:k=min s.data.toList.length 9:=by rw[Array.length_toList];show k=min s.size 9;omega
   have HRl:Hid (rdL s.data.toList=rdPre s.data.toList k+if s.size=10 then 512 else 0):=hd0 (by
    unfold rdL
    rw[←hkm,Array.length_toList];rfl)
   clear hkm;generalize rdPre s.data.toList k=md at *;have HMd:Hid (∀m,Calls Tryz.prog 75 #[.int .i64 m] w fun e w'=>e=.returned (.string (modeText m))∧w=w'):=hd0 (fun m=>specModeText m w)
   have g9:((k:Int) < (s.size:Int)∧¬(k:Int) < 9)∨¬(k:Int) < (s.size:Int):=by omega
   clear hgo
   rcases g9 with⟨g1,g2⟩|g1
   ·by_cases h10:s.size=10
    ·have HL:Hid (inB (10:Int) 9 10=true):=hd0 rfl;have HR2:Hid (rdL s.data.toList=md+512):=hd0 (by rw[HRl.out,if_pos h10])
     by_cases he:modeText (md+512)=s
     ·have HX:Hid (readMode s=(md+512,true)):=hd0 (by unfold readMode;rw[HR2.out,if_pos ⟨.inr h10,he⟩])
      have te:((modeText (md+512)).toList != s.toList)=false:=by rw[he];simp
      have te2:((modeText (md+512)).toList == s.toList)=true:=by rw[he];simp
      have HMc:=hd0 (HMd.out (md+512));clear he HRl HR2 HMd;generalize modeText (md+512)=tx at *
      go_wp2_with (first|(go_at_call 68;refine(l1In_is HL.out _).mono ?_;rintro e w' ⟨rfl,rfl⟩)|(go_at_call 75;refine HMc.out.mono ?_;rintro e w' ⟨rfl,rfl⟩)|fail)
      first|done|(go_ret2;exact⟨by rw[HX.out];rfl,by first|rfl|trivial⟩)
     ·have HX:Hid (readMode s=(0,false)):=hd0 (by unfold readMode;rw[HR2.out,if_neg (fun h=>he h.2)])
      have te2:((modeText (md+512)).toList == s.toList)=false:=by simpa [bytes_eq]using he
      have te:((modeText (md+512)).toList != s.toList)=true:=by rw[bne,te2];rfl
      have HMc:=hd0 (HMd.out (md+512));clear he HRl HR2 HMd;generalize modeText (md+512)=tx at *
      go_wp2_with (first|(go_at_call 68;refine(l1In_is HL.out _).mono ?_;rintro e w' ⟨rfl,rfl⟩)|(go_at_call 75;refine HMc.out.mono ?_;rintro e w' ⟨rfl,rfl⟩)|fail)
      first|done|(go_ret2;exact⟨by rw[HX.out];rfl,by first|rfl|trivial⟩)
    ·by_cases h9:s.size=9
     ·have HL:Hid (inB (9:Int) 9 10=true):=hd0 rfl;have HR2:Hid (rdL s.data.toList=md):=hd0 (by rw[HRl.out,if_neg h10];omega)
      by_cases he:modeText (md)=s
      ·have HX:Hid (readMode s=(md,true)):=hd0 (by unfold readMode;rw[HR2.out,if_pos ⟨.inl h9,he⟩])
       have te:((modeText (md)).toList != s.toList)=false:=by rw[he];simp
       have te2:((modeText (md)).toList == s.toList)=true:=by rw[he];simp
       have HMc:=hd0 (HMd.out (md));clear he HRl HR2 HMd;generalize modeText (md)=tx at *
       go_wp2_with (first|(go_at_call 68;refine(l1In_is HL.out _).mono ?_;rintro e w' ⟨rfl,rfl⟩)|(go_at_call 75;refine HMc.out.mono ?_;rintro e w' ⟨rfl,rfl⟩)|fail)
       first|done|(go_ret2;exact⟨by rw[HX.out];rfl,by first|rfl|trivial⟩)
      ·have HX:Hid (readMode s=(0,false)):=hd0 (by unfold readMode;rw[HR2.out,if_neg (fun h=>he h.2)])
       have te2:((modeText (md)).toList == s.toList)=false:=by simpa [bytes_eq]using he
       have te:((modeText (md)).toList != s.toList)=true:=by rw[bne,te2];rfl
       have HMc:=hd0 (HMd.out (md));clear he HRl HR2 HMd;generalize modeText (md)=tx at *
       go_wp2_with (first|(go_at_call 68;refine(l1In_is HL.out _).mono ?_;rintro e w' ⟨rfl,rfl⟩)|(go_at_call 75;refine HMc.out.mono ?_;rintro e w' ⟨rfl,rfl⟩)|fail)
       first|done|(go_ret2;exact⟨by rw[HX.out];rfl,by first|rfl|trivial⟩)
     ·have t10:((s.size:Int) == 10)=false:=by simp;omega
      have HL:Hid (inB (s.size:Int) 9 10=false):=hd0 (by simp[inB];omega);have HX:Hid (readMode s=(0,false)):=hd0 (by unfold readMode;rw[if_neg (fun h=>h.1.elim h9 h10)]);clear HRl
      go_wp2_with (first|(go_at_call 68;refine(l1In_is HL.out _).mono ?_;rintro e w' ⟨rfl,rfl⟩)|(go_at_call 75;refine HMc.out.mono ?_;rintro e w' ⟨rfl,rfl⟩)|fail)
      first|done|(go_ret2;exact⟨by rw[HX.out];rfl,by first|rfl|trivial⟩)
   ·by_cases h10:s.size=10
    ·have HL:Hid (inB (10:Int) 9 10=true):=hd0 rfl;have HR2:Hid (rdL s.data.toList=md+512):=hd0 (by rw[HRl.out,if_pos h10])
     by_cases he:modeText (md+512)=s
     ·have HX:Hid (readMode s=(md+512,true)):=hd0 (by unfold readMode;rw[HR2.out,if_pos ⟨.inr h10,he⟩])
      have te:((modeText (md+512)).toList != s.toList)=false:=by rw[he];simp
      have te2:((modeText (md+512)).toList == s.toList)=true:=by rw[he];simp
      have HMc:=hd0 (HMd.out (md+512));clear he HRl HR2 HMd;generalize modeText (md+512)=tx at *
      go_wp2_with (first|(go_at_call 68;refine(l1In_is HL.out _).mono ?_;rintro e w' ⟨rfl,rfl⟩)|(go_at_call 75;refine HMc.out.mono ?_;rintro e w' ⟨rfl,rfl⟩)|fail)
      first|done|(go_ret2;exact⟨by rw[HX.out];rfl,by first|rfl|trivial⟩)
     ·have HX:Hid (readMode s=(0,false)):=hd0 (by unfold readMode;rw[HR2.out,if_neg (fun h=>he h.2)])
      have te2:((modeText (md+512)).toList == s.toList)=false:=by simpa [bytes_eq]using he
      have te:((modeText (md+512)).toList != s.toList)=true:=by rw[bne,te2];rfl
      have HMc:=hd0 (HMd.out (md+512));clear he HRl HR2 HMd;generalize modeText (md+512)=tx at *
      go_wp2_with (first|(go_at_call 68;refine(l1In_is HL.out _).mono ?_;rintro e w' ⟨rfl,rfl⟩)|(go_at_call 75;refine HMc.out.mono ?_;rintro e w' ⟨rfl,rfl⟩)|fail)
      first|done|(go_ret2;exact⟨by rw[HX.out];rfl,by first|rfl|trivial⟩)
    ·by_cases h9:s.size=9
     ·have HL:Hid (inB (9:Int) 9 10=true):=hd0 rfl;have HR2:Hid (rdL s.data.toList=md):=hd0 (by rw[HRl.out,if_neg h10];omega)
      by_cases he:modeText (md)=s
      ·have HX:Hid (readMode s=(md,true)):=hd0 (by unfold readMode;rw[HR2.out,if_pos ⟨.inl h9,he⟩])
       have te:((modeText (md)).toList != s.toList)=false:=by rw[he];simp
       have te2:((modeText (md)).toList == s.toList)=true:=by rw[he];simp
       have HMc:=hd0 (HMd.out (md));clear he HRl HR2 HMd;generalize modeText (md)=tx at *
       go_wp2_with (first|(go_at_call 68;refine(l1In_is HL.out _).mono ?_;rintro e w' ⟨rfl,rfl⟩)|(go_at_call 75;refine HMc.out.mono ?_;rintro e w' ⟨rfl,rfl⟩)|fail)
       first|done|(go_ret2;exact⟨by rw[HX.out];rfl,by first|rfl|trivial⟩)
      ·have HX:Hid (readMode s=(0,false)):=hd0 (by unfold readMode;rw[HR2.out,if_neg (fun h=>he h.2)])
       have te2:((modeText (md)).toList == s.toList)=false:=by simpa [bytes_eq]using he
       have te:((modeText (md)).toList != s.toList)=true:=by rw[bne,te2];rfl
       have HMc:=hd0 (HMd.out (md));clear he HRl HR2 HMd;generalize modeText (md)=tx at *
       go_wp2_with (first|(go_at_call 68;refine(l1In_is HL.out _).mono ?_;rintro e w' ⟨rfl,rfl⟩)|(go_at_call 75;refine HMc.out.mono ?_;rintro e w' ⟨rfl,rfl⟩)|fail)
       first|done|(go_ret2;exact⟨by rw[HX.out];rfl,by first|rfl|trivial⟩)
     ·have t10:((s.size:Int) == 10)=false:=by simp;omega
      have HL:Hid (inB (s.size:Int) 9 10=false):=hd0 (by simp[inB];omega);have HX:Hid (readMode s=(0,false)):=hd0 (by unfold readMode;rw[if_neg (fun h=>h.1.elim h9 h10)]);clear HRl
      go_wp2_with (first|(go_at_call 68;refine(l1In_is HL.out _).mono ?_;rintro e w' ⟨rfl,rfl⟩)|(go_at_call 75;refine HMc.out.mono ?_;rintro e w' ⟨rfl,rfl⟩)|fail)
      first|done|(go_ret2;exact⟨by rw[HX.out];rfl,by first|rfl|trivial⟩)
end Go.Proofs.YtnibbldfohbfkaaGreatDoor
