/- Parts of one proof: what each theorem proves, and its conditions, stand in its own statement. -/
import Derived.Laws.IdiomStrings
import Derived.Test.YtnibbldfohbfkaaGreatDoorMn19
set_option linter.all false
set_option maxRecDepth 100000
set_option maxHeartbeats 32000000
namespace Go.Proofs.YtnibbldfohbfkaaGreatDoor
open Go.RowKit
def encB (b:UInt8):List Value:=[.int .u8 (b.toNat:Int)]
theorem encB_len (b:UInt8):(encB b).length=1:=rfl
theorem encB_one (b:UInt8):∀u∈encB b,u.oneCell'=true:=by simp[encB,Value.oneCell']
theorem infoB:(Tryz.prog.info? 5).map (fun i=>(i.zero,i.size,i.bytes))=some (some (.int .u8 0),1,1):=by kernel_rfl
theorem and1_all:∀q:Fin 1024,bits BinOp.and IntKind.i64 (q.val:Int) 1=(q.val:Int) % 2:=by decide +kernel
theorem and1K {q:Int} (h0:0≤q) (h1:q≤1023):bits BinOp.and IntKind.i64 q 1=q % 2:=by
 have:=and1_all ⟨q.toNat,by omega⟩
 rwa [show((q.toNat:Nat):Int)=q by omega]at this
theorem implModeText (m:Int) (w:World):Calls Tryz.prog 121 #[.int .i64 m] w fun e w'=>e=.returned (.string (modeText m))∧Ext w w':=by
 cases hM:inB m 0 1023 with
 | false =>
  have HX:Hid (modeText m=⟨#[]⟩):=hd0 (by unfold modeText;rw[if_neg (by simp[hM])]);have HMo:=hd0 hM;clear hM
  go_enter Tryz.func121,Tryz.ntmps121
  go_wp2_with (go_at_call 114;refine(isMode_is HMo.out _).mono ?_;rintro e w' ⟨rfl,rfl⟩)
  go_ret;exact⟨by rw[HX.out];rfl,Ext.refl _⟩
 | true =>
  have HX:Hid (modeText m=⟨(modeL m).toArray⟩):=hd0 (by unfold modeText;rw[if_pos hM]);have HMo:=hd0 hM;obtain⟨hm0,hm1⟩:=inB_iff.1 hM;clear hM
  go_enter Tryz.func121,Tryz.ntmps121
  have S:=Sep.start w;replace S:Sep w (w.alloc (.cells #[] 5)) [plRow 5 1 encB (.slice (some ⟨w.heap.size,0,none⟩) 0 0) []]:=S.lit0 (by simp) _ _ _
  go_wp2_with (go_at_call 114;refine(isMode_is HMo.out _).mono ?_;rintro e w' ⟨rfl,rfl⟩)
  generalize (w.alloc (.cells #[] 5))=w1 at *
  go_loopw [3,4] (fun o i wr=>∃(j:Nat) (ao:Option Addr) (co:Nat),j≤9∧o=.slice ao (mdPre m j).length co∧i=.int .i64 (8 - (j:Int))∧Sep w wr [plRow 5 1 encB (.slice ao (mdPre m j).length co) (mdPre m j)]) (fun _ i _=>(intOf i+1).toNat)
  case atStart=>exact⟨0,some ⟨w.heap.size,0,none⟩,0,by omega,rfl,rfl,S⟩
  case round =>
   clear S;obtain⟨j,ao,co,hj,rfl,rfl,S⟩:=hrel
   by_cases h9:j=9
   ·subst h9
    by_cases hs:512≤m
    ·have HN:Hid (mdPre m 9++[43]=modeL m):=hd0 (by unfold modeL;rw[if_pos hs])
     have tm:(bits BinOp.and IntKind.i64 m 512 != 0)=true:=by rw[and512 HMo.out];simpa using hs
     clear hs
     have hrow:=S.alloc #[.int .u8 43] 5 |>.row 1 rfl
     have hbs:=(S.alloc #[.int .u8 43] 5).chg.size;have rd1:Rd 1 encB (wr.alloc (.cells #[.int .u8 43] 5)) (some ⟨wr.heap.size,0,none⟩) [(43:UInt8)]:=rd_lit_new [(43:UInt8)] encB_len rfl;have HSA:=hd0 (S.alloc #[.int .u8 43] 5);clear S
     go_wp2_with (at_builtin;refine Hid.out (?_:Hid _))
     unfold Hid;refine wpList_append_b rfl _ _ 38 rfl w.heap.size 5 _ 1 _ Tryz.underlying38 infoB rfl (by decide) encB_len encB_one _ (mdPre m 9).length (mdPre m 9) rfl hrow rfl (some ⟨wr.heap.size,0,none⟩) 1 1 [(43:UInt8)] rfl rfl rd1 (by rw[mdPre_len];omega) (by omega) hbs ?_;intro v7 w7 ho hgr hblk;obtain⟨a7,c7,hv7,_,_,_⟩:=view_owns encB_len ho;subst hv7;have SM:=(HSA.out.grow 1 rfl hgr ho hblk).drop 0;clear ho hgr hblk hrow rd1 HSA hbs;rw[HN.out]at SM ⊢
     have hml:0 < (modeL m).length:=by rw[←HN.out];simp
     have S:=SM;have hrow:=S.row 0 rfl;obtain⟨g,rfl⟩:=row_blk encB_len hrow hml
     have HCv:∀w':World,w'=w7→(Go.convert 38 9 (.slice (some ⟨g,0,none⟩) (modeL m).length c7)).run Tryz.prog w'=.ok (.string ⟨(modeL m).toArray⟩) w':=fun w' e=>by
      subst e
      exact run_convert_bytes_back _ _ _ 5 ⟨g,0,none⟩ c7 (modeL m) Tryz.underlying38 Tryz.underlying5 Tryz.underlying9 (fun j hj=>by
       have h:=owns_at encB_len hrow j hj 0 _ rfl;rw[Nat.mul_one,Nat.add_zero]at h
       have e2:(Addr.mk g 0 none).add j=⟨g,j,none⟩:=by unfold Addr.add;split<;>simp_all
       rw[e2];exact h)
     have HC2:=HCv w7 rfl;clear HCv hrow SM;go_wp2;go_ret;exact⟨by rw[HX.out];rfl,S.ext⟩
    ·have HN:Hid (mdPre m 9=modeL m):=hd0 (by unfold modeL;rw[if_neg hs,List.append_nil])
     have tm:bits BinOp.and IntKind.i64 m 512=0:=by have h:=and512 HMo.out;rw[decide_eq_false hs]at h;simpa using h
     rw[HN.out]at S ⊢
     have hml:0 < (modeL m).length:=by rw[←HN.out,mdPre_len];omega
     clear hs;have hrow:=S.row 0 rfl;obtain⟨g,rfl⟩:=row_blk encB_len hrow hml
     have HC2:(Go.convert 38 9 (.slice (some ⟨g,0,none⟩) (modeL m).length co)).run Tryz.prog wr=.ok (.string ⟨(modeL m).toArray⟩) wr:=run_convert_bytes_back _ _ _ 5 ⟨g,0,none⟩ co (modeL m) Tryz.underlying38 Tryz.underlying5 Tryz.underlying9 (fun j hj=>by
      have h:=owns_at encB_len hrow j hj 0 _ rfl;rw[Nat.mul_one,Nat.add_zero]at h
      have e2:(Addr.mk g 0 none).add j=⟨g,j,none⟩:=by unfold Addr.add;split<;>simp_all
      rw[e2];exact h)
     clear hrow;go_wp2;go_ret;exact⟨by rw[HX.out];rfl,S.ext⟩
   ·rcases(show j=0∨j=1∨j=2∨j=3∨j=4∨j=5∨j=6∨j=7∨j=8 by omega)with rfl|rfl|rfl|rfl|rfl|rfl|rfl|rfl|rfl
    ·by_cases hb:m / 256 % 2=1
     ·have tb:(bits BinOp.and IntKind.i64 (m / 256) 1 == 1)=true:=by rw[and1K (by omega) (by omega)];simpa using hb
      have HN:Hid (mdPre m 0++[114]=mdPre m 1):=hd0 (by
       rw[mdPre_step m 0,show mdCh m (8 - 0)=114 from(by unfold mdCh;rw[if_pos (show(m / 2 ^ (8 - 0) % 2=1)from by simpa using hb)];try rfl)])
      clear hb
      have hrow:=S.alloc #[.int .u8 114] 5 |>.row 1 rfl
      have hbs:=(S.alloc #[.int .u8 114] 5).chg.size;have rd1:Rd 1 encB (wr.alloc (.cells #[.int .u8 114] 5)) (some ⟨wr.heap.size,0,none⟩) [(114:UInt8)]:=rd_lit_new [(114:UInt8)] encB_len rfl;have HSA:=hd0 (S.alloc #[.int .u8 114] 5);clear S
      go_wp2_with (at_builtin;refine Hid.out (?_:Hid _))
      unfold Hid;refine wpList_append_b rfl _ _ 38 rfl w.heap.size 5 _ 1 _ Tryz.underlying38 infoB rfl (by decide) encB_len encB_one _ (mdPre m 0).length (mdPre m 0) rfl hrow rfl (some ⟨wr.heap.size,0,none⟩) 1 1 [(114:UInt8)] rfl rfl rd1 (by rw[mdPre_len];omega) (by omega) hbs ?_;intro v7 w7 ho hgr hblk;obtain⟨a7,c7,hv7,_,_,_⟩:=view_owns encB_len ho;subst hv7;have SM:=(HSA.out.grow 1 rfl hgr ho hblk).drop 0;clear ho hgr hblk hrow rd1 HSA hbs;rw[HN.out]at SM ⊢;go_wp2;go_roundw
      case rel=>exact⟨1,a7,c7,by omega,rfl,by first|rfl|(go_num;done)|(simp;done),SM⟩
      case measure=>simp[intOf]
     ·have tb:(bits BinOp.and IntKind.i64 (m / 256) 1 == 1)=false:=by rw[and1K (by omega) (by omega)];simpa using hb
      have HN:Hid (mdPre m 0++[45]=mdPre m 1):=hd0 (by
       rw[mdPre_step m 0,show mdCh m (8 - 0)=45 from(by unfold mdCh;rw[if_neg (show ¬(m / 2 ^ (8 - 0) % 2=1)from by simpa using hb)];try rfl)])
      clear hb
      have hrow:=S.alloc #[.int .u8 45] 5 |>.row 1 rfl
      have hbs:=(S.alloc #[.int .u8 45] 5).chg.size;have rd1:Rd 1 encB (wr.alloc (.cells #[.int .u8 45] 5)) (some ⟨wr.heap.size,0,none⟩) [(45:UInt8)]:=rd_lit_new [(45:UInt8)] encB_len rfl;have HSA:=hd0 (S.alloc #[.int .u8 45] 5);clear S
      go_wp2_with (at_builtin;refine Hid.out (?_:Hid _))
      unfold Hid;refine wpList_append_b rfl _ _ 38 rfl w.heap.size 5 _ 1 _ Tryz.underlying38 infoB rfl (by decide) encB_len encB_one _ (mdPre m 0).length (mdPre m 0) rfl hrow rfl (some ⟨wr.heap.size,0,none⟩) 1 1 [(45:UInt8)] rfl rfl rd1 (by rw[mdPre_len];omega) (by omega) hbs ?_;intro v7 w7 ho hgr hblk;obtain⟨a7,c7,hv7,_,_,_⟩:=view_owns encB_len ho;subst hv7;have SM:=(HSA.out.grow 1 rfl hgr ho hblk).drop 0;clear ho hgr hblk hrow rd1 HSA hbs;rw[HN.out]at SM ⊢;go_wp2;go_roundw
      case rel=>exact⟨1,a7,c7,by omega,rfl,by first|rfl|(go_num;done)|(simp;done),SM⟩
      case measure=>simp[intOf]
    ·by_cases hb:m / 128 % 2=1
     ·have tb:(bits BinOp.and IntKind.i64 (m / 128) 1 == 1)=true:=by rw[and1K (by omega) (by omega)];simpa using hb
      have HN:Hid (mdPre m 1++[119]=mdPre m 2):=hd0 (by
       rw[mdPre_step m 1,show mdCh m (8 - 1)=119 from(by unfold mdCh;rw[if_pos (show(m / 2 ^ (8 - 1) % 2=1)from by simpa using hb)];try rfl)])
      clear hb
      have hrow:=S.alloc #[.int .u8 119] 5 |>.row 1 rfl
      have hbs:=(S.alloc #[.int .u8 119] 5).chg.size;have rd1:Rd 1 encB (wr.alloc (.cells #[.int .u8 119] 5)) (some ⟨wr.heap.size,0,none⟩) [(119:UInt8)]:=rd_lit_new [(119:UInt8)] encB_len rfl;have HSA:=hd0 (S.alloc #[.int .u8 119] 5);clear S
      go_wp2_with (at_builtin;refine Hid.out (?_:Hid _))
      unfold Hid;refine wpList_append_b rfl _ _ 38 rfl w.heap.size 5 _ 1 _ Tryz.underlying38 infoB rfl (by decide) encB_len encB_one _ (mdPre m 1).length (mdPre m 1) rfl hrow rfl (some ⟨wr.heap.size,0,none⟩) 1 1 [(119:UInt8)] rfl rfl rd1 (by rw[mdPre_len];omega) (by omega) hbs ?_;intro v7 w7 ho hgr hblk;obtain⟨a7,c7,hv7,_,_,_⟩:=view_owns encB_len ho;subst hv7;have SM:=(HSA.out.grow 1 rfl hgr ho hblk).drop 0;clear ho hgr hblk hrow rd1 HSA hbs;rw[HN.out]at SM ⊢;go_wp2;go_roundw
      case rel=>exact⟨2,a7,c7,by omega,rfl,by first|rfl|(go_num;done)|(simp;done),SM⟩
      case measure=>simp[intOf]
     ·have tb:(bits BinOp.and IntKind.i64 (m / 128) 1 == 1)=false:=by rw[and1K (by omega) (by omega)];simpa using hb
      have HN:Hid (mdPre m 1++[45]=mdPre m 2):=hd0 (by
       rw[mdPre_step m 1,show mdCh m (8 - 1)=45 from(by unfold mdCh;rw[if_neg (show ¬(m / 2 ^ (8 - 1) % 2=1)from by simpa using hb)];try rfl)])
      clear hb
      have hrow:=S.alloc #[.int .u8 45] 5 |>.row 1 rfl
      have hbs:=(S.alloc #[.int .u8 45] 5).chg.size;have rd1:Rd 1 encB (wr.alloc (.cells #[.int .u8 45] 5)) (some ⟨wr.heap.size,0,none⟩) [(45:UInt8)]:=rd_lit_new [(45:UInt8)] encB_len rfl;have HSA:=hd0 (S.alloc #[.int .u8 45] 5);clear S
      go_wp2_with (at_builtin;refine Hid.out (?_:Hid _))
      unfold Hid;refine wpList_append_b rfl _ _ 38 rfl w.heap.size 5 _ 1 _ Tryz.underlying38 infoB rfl (by decide) encB_len encB_one _ (mdPre m 1).length (mdPre m 1) rfl hrow rfl (some ⟨wr.heap.size,0,none⟩) 1 1 [(45:UInt8)] rfl rfl rd1 (by rw[mdPre_len];omega) (by omega) hbs ?_;intro v7 w7 ho hgr hblk;obtain⟨a7,c7,hv7,_,_,_⟩:=view_owns encB_len ho;subst hv7;have SM:=(HSA.out.grow 1 rfl hgr ho hblk).drop 0;clear ho hgr hblk hrow rd1 HSA hbs;rw[HN.out]at SM ⊢;go_wp2;go_roundw
      case rel=>exact⟨2,a7,c7,by omega,rfl,by first|rfl|(go_num;done)|(simp;done),SM⟩
      case measure=>simp[intOf]
    ·by_cases hb:m / 64 % 2=1
     ·have tb:(bits BinOp.and IntKind.i64 (m / 64) 1 == 1)=true:=by rw[and1K (by omega) (by omega)];simpa using hb
      have HN:Hid (mdPre m 2++[120]=mdPre m 3):=hd0 (by
       rw[mdPre_step m 2,show mdCh m (8 - 2)=120 from(by unfold mdCh;rw[if_pos (show(m / 2 ^ (8 - 2) % 2=1)from by simpa using hb)];try rfl)])
      clear hb
      have hrow:=S.alloc #[.int .u8 120] 5 |>.row 1 rfl
      have hbs:=(S.alloc #[.int .u8 120] 5).chg.size;have rd1:Rd 1 encB (wr.alloc (.cells #[.int .u8 120] 5)) (some ⟨wr.heap.size,0,none⟩) [(120:UInt8)]:=rd_lit_new [(120:UInt8)] encB_len rfl;have HSA:=hd0 (S.alloc #[.int .u8 120] 5);clear S
      go_wp2_with (at_builtin;refine Hid.out (?_:Hid _))
      unfold Hid;refine wpList_append_b rfl _ _ 38 rfl w.heap.size 5 _ 1 _ Tryz.underlying38 infoB rfl (by decide) encB_len encB_one _ (mdPre m 2).length (mdPre m 2) rfl hrow rfl (some ⟨wr.heap.size,0,none⟩) 1 1 [(120:UInt8)] rfl rfl rd1 (by rw[mdPre_len];omega) (by omega) hbs ?_;intro v7 w7 ho hgr hblk;obtain⟨a7,c7,hv7,_,_,_⟩:=view_owns encB_len ho;subst hv7;have SM:=(HSA.out.grow 1 rfl hgr ho hblk).drop 0;clear ho hgr hblk hrow rd1 HSA hbs;rw[HN.out]at SM ⊢;go_wp2;go_roundw
      case rel=>exact⟨3,a7,c7,by omega,rfl,by first|rfl|(go_num;done)|(simp;done),SM⟩
      case measure=>simp[intOf]
     ·have tb:(bits BinOp.and IntKind.i64 (m / 64) 1 == 1)=false:=by rw[and1K (by omega) (by omega)];simpa using hb
      have HN:Hid (mdPre m 2++[45]=mdPre m 3):=hd0 (by
       rw[mdPre_step m 2,show mdCh m (8 - 2)=45 from(by unfold mdCh;rw[if_neg (show ¬(m / 2 ^ (8 - 2) % 2=1)from by simpa using hb)];try rfl)])
      clear hb
      have hrow:=S.alloc #[.int .u8 45] 5 |>.row 1 rfl
      have hbs:=(S.alloc #[.int .u8 45] 5).chg.size;have rd1:Rd 1 encB (wr.alloc (.cells #[.int .u8 45] 5)) (some ⟨wr.heap.size,0,none⟩) [(45:UInt8)]:=rd_lit_new [(45:UInt8)] encB_len rfl;have HSA:=hd0 (S.alloc #[.int .u8 45] 5);clear S
      go_wp2_with (at_builtin;refine Hid.out (?_:Hid _))
      unfold Hid;refine wpList_append_b rfl _ _ 38 rfl w.heap.size 5 _ 1 _ Tryz.underlying38 infoB rfl (by decide) encB_len encB_one _ (mdPre m 2).length (mdPre m 2) rfl hrow rfl (some ⟨wr.heap.size,0,none⟩) 1 1 [(45:UInt8)] rfl rfl rd1 (by rw[mdPre_len];omega) (by omega) hbs ?_;intro v7 w7 ho hgr hblk;obtain⟨a7,c7,hv7,_,_,_⟩:=view_owns encB_len ho;subst hv7;have SM:=(HSA.out.grow 1 rfl hgr ho hblk).drop 0;clear ho hgr hblk hrow rd1 HSA hbs;rw[HN.out]at SM ⊢;go_wp2;go_roundw
      case rel=>exact⟨3,a7,c7,by omega,rfl,by first|rfl|(go_num;done)|(simp;done),SM⟩
      case measure=>simp[intOf]
    ·by_cases hb:m / 32 % 2=1
     ·have tb:(bits BinOp.and IntKind.i64 (m / 32) 1 == 1)=true:=by rw[and1K (by omega) (by omega)];simpa using hb
      have HN:Hid (mdPre m 3++[114]=mdPre m 4):=hd0 (by
       rw[mdPre_step m 3,show mdCh m (8 - 3)=114 from(by unfold mdCh;rw[if_pos (show(m / 2 ^ (8 - 3) % 2=1)from by simpa using hb)];try rfl)])
      clear hb
      have hrow:=S.alloc #[.int .u8 114] 5 |>.row 1 rfl
      have hbs:=(S.alloc #[.int .u8 114] 5).chg.size;have rd1:Rd 1 encB (wr.alloc (.cells #[.int .u8 114] 5)) (some ⟨wr.heap.size,0,none⟩) [(114:UInt8)]:=rd_lit_new [(114:UInt8)] encB_len rfl;have HSA:=hd0 (S.alloc #[.int .u8 114] 5);clear S
      go_wp2_with (at_builtin;refine Hid.out (?_:Hid _))
      unfold Hid;refine wpList_append_b rfl _ _ 38 rfl w.heap.size 5 _ 1 _ Tryz.underlying38 infoB rfl (by decide) encB_len encB_one _ (mdPre m 3).length (mdPre m 3) rfl hrow rfl (some ⟨wr.heap.size,0,none⟩) 1 1 [(114:UInt8)] rfl rfl rd1 (by rw[mdPre_len];omega) (by omega) hbs ?_;intro v7 w7 ho hgr hblk;obtain⟨a7,c7,hv7,_,_,_⟩:=view_owns encB_len ho;subst hv7;have SM:=(HSA.out.grow 1 rfl hgr ho hblk).drop 0;clear ho hgr hblk hrow rd1 HSA hbs;rw[HN.out]at SM ⊢;go_wp2;go_roundw
      case rel=>exact⟨4,a7,c7,by omega,rfl,by first|rfl|(go_num;done)|(simp;done),SM⟩
      case measure=>simp[intOf]
     ·have tb:(bits BinOp.and IntKind.i64 (m / 32) 1 == 1)=false:=by rw[and1K (by omega) (by omega)];simpa using hb
      have HN:Hid (mdPre m 3++[45]=mdPre m 4):=hd0 (by
       rw[mdPre_step m 3,show mdCh m (8 - 3)=45 from(by unfold mdCh;rw[if_neg (show ¬(m / 2 ^ (8 - 3) % 2=1)from by simpa using hb)];try rfl)])
      clear hb
      have hrow:=S.alloc #[.int .u8 45] 5 |>.row 1 rfl
      have hbs:=(S.alloc #[.int .u8 45] 5).chg.size;have rd1:Rd 1 encB (wr.alloc (.cells #[.int .u8 45] 5)) (some ⟨wr.heap.size,0,none⟩) [(45:UInt8)]:=rd_lit_new [(45:UInt8)] encB_len rfl;have HSA:=hd0 (S.alloc #[.int .u8 45] 5);clear S
      go_wp2_with (at_builtin;refine Hid.out (?_:Hid _))
      unfold Hid;refine wpList_append_b rfl _ _ 38 rfl w.heap.size 5 _ 1 _ Tryz.underlying38 infoB rfl (by decide) encB_len encB_one _ (mdPre m 3).length (mdPre m 3) rfl hrow rfl (some ⟨wr.heap.size,0,none⟩) 1 1 [(45:UInt8)] rfl rfl rd1 (by rw[mdPre_len];omega) (by omega) hbs ?_;intro v7 w7 ho hgr hblk;obtain⟨a7,c7,hv7,_,_,_⟩:=view_owns encB_len ho;subst hv7;have SM:=(HSA.out.grow 1 rfl hgr ho hblk).drop 0;clear ho hgr hblk hrow rd1 HSA hbs;rw[HN.out]at SM ⊢;go_wp2;go_roundw
      case rel=>exact⟨4,a7,c7,by omega,rfl,by first|rfl|(go_num;done)|(simp;done),SM⟩
      case measure=>simp[intOf]
    ·by_cases hb:m / 16 % 2=1
     ·have tb:(bits BinOp.and IntKind.i64 (m / 16) 1 == 1)=true:=by rw[and1K (by omega) (by omega)];simpa using hb
      have HN:Hid (mdPre m 4++[119]=mdPre m 5):=hd0 (by
       rw[mdPre_step m 4,show mdCh m (8 - 4)=119 from(by unfold mdCh;rw[if_pos (show(m / 2 ^ (8 - 4) % 2=1)from by simpa using hb)];try rfl)])
      clear hb
      have hrow:=S.alloc #[.int .u8 119] 5 |>.row 1 rfl
      have hbs:=(S.alloc #[.int .u8 119] 5).chg.size;have rd1:Rd 1 encB (wr.alloc (.cells #[.int .u8 119] 5)) (some ⟨wr.heap.size,0,none⟩) [(119:UInt8)]:=rd_lit_new [(119:UInt8)] encB_len rfl;have HSA:=hd0 (S.alloc #[.int .u8 119] 5);clear S
      go_wp2_with (at_builtin;refine Hid.out (?_:Hid _))
      unfold Hid;refine wpList_append_b rfl _ _ 38 rfl w.heap.size 5 _ 1 _ Tryz.underlying38 infoB rfl (by decide) encB_len encB_one _ (mdPre m 4).length (mdPre m 4) rfl hrow rfl (some ⟨wr.heap.size,0,none⟩) 1 1 [(119:UInt8)] rfl rfl rd1 (by rw[mdPre_len];omega) (by omega) hbs ?_;intro v7 w7 ho hgr hblk;obtain⟨a7,c7,hv7,_,_,_⟩:=view_owns encB_len ho;subst hv7;have SM:=(HSA.out.grow 1 rfl hgr ho hblk).drop 0;clear ho hgr hblk hrow rd1 HSA hbs;rw[HN.out]at SM ⊢;go_wp2;go_roundw
      case rel=>exact⟨5,a7,c7,by omega,rfl,by first|rfl|(go_num;done)|(simp;done),SM⟩
      case measure=>simp[intOf]
     ·have tb:(bits BinOp.and IntKind.i64 (m / 16) 1 == 1)=false:=by rw[and1K (by omega) (by omega)];simpa using hb
      have HN:Hid (mdPre m 4++[45]=mdPre m 5):=hd0 (by
       rw[mdPre_step m 4,show mdCh m (8 - 4)=45 from(by unfold mdCh;rw[if_neg (show ¬(m / 2 ^ (8 - 4) % 2=1)from by simpa using hb)];try rfl)])
      clear hb
      have hrow:=S.alloc #[.int .u8 45] 5 |>.row 1 rfl
      have hbs:=(S.alloc #[.int .u8 45] 5).chg.size;have rd1:Rd 1 encB (wr.alloc (.cells #[.int .u8 45] 5)) (some ⟨wr.heap.size,0,none⟩) [(45:UInt8)]:=rd_lit_new [(45:UInt8)] encB_len rfl;have HSA:=hd0 (S.alloc #[.int .u8 45] 5);clear S
      go_wp2_with (at_builtin;refine Hid.out (?_:Hid _))
      unfold Hid;refine wpList_append_b rfl _ _ 38 rfl w.heap.size 5 _ 1 _ Tryz.underlying38 infoB rfl (by decide) encB_len encB_one _ (mdPre m 4).length (mdPre m 4) rfl hrow rfl (some ⟨wr.heap.size,0,none⟩) 1 1 [(45:UInt8)] rfl rfl rd1 (by rw[mdPre_len];omega) (by omega) hbs ?_;intro v7 w7 ho hgr hblk;obtain⟨a7,c7,hv7,_,_,_⟩:=view_owns encB_len ho;subst hv7;have SM:=(HSA.out.grow 1 rfl hgr ho hblk).drop 0;clear ho hgr hblk hrow rd1 HSA hbs;rw[HN.out]at SM ⊢;go_wp2;go_roundw
      case rel=>exact⟨5,a7,c7,by omega,rfl,by first|rfl|(go_num;done)|(simp;done),SM⟩
      case measure=>simp[intOf]
    ·by_cases hb:m / 8 % 2=1
     ·have tb:(bits BinOp.and IntKind.i64 (m / 8) 1 == 1)=true:=by rw[and1K (by omega) (by omega)];simpa using hb
      have HN:Hid (mdPre m 5++[120]=mdPre m 6):=hd0 (by
       rw[mdPre_step m 5,show mdCh m (8 - 5)=120 from(by unfold mdCh;rw[if_pos (show(m / 2 ^ (8 - 5) % 2=1)from by simpa using hb)];try rfl)])
      clear hb
      have hrow:=S.alloc #[.int .u8 120] 5 |>.row 1 rfl
      have hbs:=(S.alloc #[.int .u8 120] 5).chg.size;have rd1:Rd 1 encB (wr.alloc (.cells #[.int .u8 120] 5)) (some ⟨wr.heap.size,0,none⟩) [(120:UInt8)]:=rd_lit_new [(120:UInt8)] encB_len rfl;have HSA:=hd0 (S.alloc #[.int .u8 120] 5);clear S
      go_wp2_with (at_builtin;refine Hid.out (?_:Hid _))
      unfold Hid;refine wpList_append_b rfl _ _ 38 rfl w.heap.size 5 _ 1 _ Tryz.underlying38 infoB rfl (by decide) encB_len encB_one _ (mdPre m 5).length (mdPre m 5) rfl hrow rfl (some ⟨wr.heap.size,0,none⟩) 1 1 [(120:UInt8)] rfl rfl rd1 (by rw[mdPre_len];omega) (by omega) hbs ?_;intro v7 w7 ho hgr hblk;obtain⟨a7,c7,hv7,_,_,_⟩:=view_owns encB_len ho;subst hv7;have SM:=(HSA.out.grow 1 rfl hgr ho hblk).drop 0;clear ho hgr hblk hrow rd1 HSA hbs;rw[HN.out]at SM ⊢;go_wp2;go_roundw
      case rel=>exact⟨6,a7,c7,by omega,rfl,by first|rfl|(go_num;done)|(simp;done),SM⟩
      case measure=>simp[intOf]
     ·have tb:(bits BinOp.and IntKind.i64 (m / 8) 1 == 1)=false:=by rw[and1K (by omega) (by omega)];simpa using hb
      have HN:Hid (mdPre m 5++[45]=mdPre m 6):=hd0 (by
       rw[mdPre_step m 5,show mdCh m (8 - 5)=45 from(by unfold mdCh;rw[if_neg (show ¬(m / 2 ^ (8 - 5) % 2=1)from by simpa using hb)];try rfl)])
      clear hb
      have hrow:=S.alloc #[.int .u8 45] 5 |>.row 1 rfl
      have hbs:=(S.alloc #[.int .u8 45] 5).chg.size;have rd1:Rd 1 encB (wr.alloc (.cells #[.int .u8 45] 5)) (some ⟨wr.heap.size,0,none⟩) [(45:UInt8)]:=rd_lit_new [(45:UInt8)] encB_len rfl;have HSA:=hd0 (S.alloc #[.int .u8 45] 5);clear S
      go_wp2_with (at_builtin;refine Hid.out (?_:Hid _))
      unfold Hid;refine wpList_append_b rfl _ _ 38 rfl w.heap.size 5 _ 1 _ Tryz.underlying38 infoB rfl (by decide) encB_len encB_one _ (mdPre m 5).length (mdPre m 5) rfl hrow rfl (some ⟨wr.heap.size,0,none⟩) 1 1 [(45:UInt8)] rfl rfl rd1 (by rw[mdPre_len];omega) (by omega) hbs ?_;intro v7 w7 ho hgr hblk;obtain⟨a7,c7,hv7,_,_,_⟩:=view_owns encB_len ho;subst hv7;have SM:=(HSA.out.grow 1 rfl hgr ho hblk).drop 0;clear ho hgr hblk hrow rd1 HSA hbs;rw[HN.out]at SM ⊢;go_wp2;go_roundw
      case rel=>exact⟨6,a7,c7,by omega,rfl,by first|rfl|(go_num;done)|(simp;done),SM⟩
      case measure=>simp[intOf]
    ·by_cases hb:m / 4 % 2=1
     ·have tb:(bits BinOp.and IntKind.i64 (m / 4) 1 == 1)=true:=by rw[and1K (by omega) (by omega)];simpa using hb
      have HN:Hid (mdPre m 6++[114]=mdPre m 7):=hd0 (by
       rw[mdPre_step m 6,show mdCh m (8 - 6)=114 from(by unfold mdCh;rw[if_pos (show(m / 2 ^ (8 - 6) % 2=1)from by simpa using hb)];try rfl)])
      clear hb
      have hrow:=S.alloc #[.int .u8 114] 5 |>.row 1 rfl
      have hbs:=(S.alloc #[.int .u8 114] 5).chg.size;have rd1:Rd 1 encB (wr.alloc (.cells #[.int .u8 114] 5)) (some ⟨wr.heap.size,0,none⟩) [(114:UInt8)]:=rd_lit_new [(114:UInt8)] encB_len rfl;have HSA:=hd0 (S.alloc #[.int .u8 114] 5);clear S
      go_wp2_with (at_builtin;refine Hid.out (?_:Hid _))
      unfold Hid;refine wpList_append_b rfl _ _ 38 rfl w.heap.size 5 _ 1 _ Tryz.underlying38 infoB rfl (by decide) encB_len encB_one _ (mdPre m 6).length (mdPre m 6) rfl hrow rfl (some ⟨wr.heap.size,0,none⟩) 1 1 [(114:UInt8)] rfl rfl rd1 (by rw[mdPre_len];omega) (by omega) hbs ?_;intro v7 w7 ho hgr hblk;obtain⟨a7,c7,hv7,_,_,_⟩:=view_owns encB_len ho;subst hv7;have SM:=(HSA.out.grow 1 rfl hgr ho hblk).drop 0;clear ho hgr hblk hrow rd1 HSA hbs;rw[HN.out]at SM ⊢;go_wp2;go_roundw
      case rel=>exact⟨7,a7,c7,by omega,rfl,by first|rfl|(go_num;done)|(simp;done),SM⟩
      case measure=>simp[intOf]
     ·have tb:(bits BinOp.and IntKind.i64 (m / 4) 1 == 1)=false:=by rw[and1K (by omega) (by omega)];simpa using hb
      have HN:Hid (mdPre m 6++[45]=mdPre m 7):=hd0 (by
       rw[mdPre_step m 6,show mdCh m (8 - 6)=45 from(by unfold mdCh;rw[if_neg (show ¬(m / 2 ^ (8 - 6) % 2=1)from by simpa using hb)];try rfl)])
      clear hb
      have hrow:=S.alloc #[.int .u8 45] 5 |>.row 1 rfl
      have hbs:=(S.alloc #[.int .u8 45] 5).chg.size;have rd1:Rd 1 encB (wr.alloc (.cells #[.int .u8 45] 5)) (some ⟨wr.heap.size,0,none⟩) [(45:UInt8)]:=rd_lit_new [(45:UInt8)] encB_len rfl;have HSA:=hd0 (S.alloc #[.int .u8 45] 5);clear S
      go_wp2_with (at_builtin;refine Hid.out (?_:Hid _))
      unfold Hid;refine wpList_append_b rfl _ _ 38 rfl w.heap.size 5 _ 1 _ Tryz.underlying38 infoB rfl (by decide) encB_len encB_one _ (mdPre m 6).length (mdPre m 6) rfl hrow rfl (some ⟨wr.heap.size,0,none⟩) 1 1 [(45:UInt8)] rfl rfl rd1 (by rw[mdPre_len];omega) (by omega) hbs ?_;intro v7 w7 ho hgr hblk;obtain⟨a7,c7,hv7,_,_,_⟩:=view_owns encB_len ho;subst hv7;have SM:=(HSA.out.grow 1 rfl hgr ho hblk).drop 0;clear ho hgr hblk hrow rd1 HSA hbs;rw[HN.out]at SM ⊢;go_wp2;go_roundw
      case rel=>exact⟨7,a7,c7,by omega,rfl,by first|rfl|(go_num;done)|(simp;done),SM⟩
      case measure=>simp[intOf]
    ·by_cases hb:m / 2 % 2=1
     ·have tb:(bits BinOp.and IntKind.i64 (m / 2) 1 == 1)=true:=by rw[and1K (by omega) (by omega)];simpa using hb
      have HN:Hid (mdPre m 7++[119]=mdPre m 8):=hd0 (by
       rw[mdPre_step m 7,show mdCh m (8 - 7)=119 from(by unfold mdCh;rw[if_pos (show(m / 2 ^ (8 - 7) % 2=1)from by simpa using hb)];try rfl)])
      clear hb
      have hrow:=S.alloc #[.int .u8 119] 5 |>.row 1 rfl
      have hbs:=(S.alloc #[.int .u8 119] 5).chg.size;have rd1:Rd 1 encB (wr.alloc (.cells #[.int .u8 119] 5)) (some ⟨wr.heap.size,0,none⟩) [(119:UInt8)]:=rd_lit_new [(119:UInt8)] encB_len rfl;have HSA:=hd0 (S.alloc #[.int .u8 119] 5);clear S
      go_wp2_with (at_builtin;refine Hid.out (?_:Hid _))
      unfold Hid;refine wpList_append_b rfl _ _ 38 rfl w.heap.size 5 _ 1 _ Tryz.underlying38 infoB rfl (by decide) encB_len encB_one _ (mdPre m 7).length (mdPre m 7) rfl hrow rfl (some ⟨wr.heap.size,0,none⟩) 1 1 [(119:UInt8)] rfl rfl rd1 (by rw[mdPre_len];omega) (by omega) hbs ?_;intro v7 w7 ho hgr hblk;obtain⟨a7,c7,hv7,_,_,_⟩:=view_owns encB_len ho;subst hv7;have SM:=(HSA.out.grow 1 rfl hgr ho hblk).drop 0;clear ho hgr hblk hrow rd1 HSA hbs;rw[HN.out]at SM ⊢;go_wp2;go_roundw
      case rel=>exact⟨8,a7,c7,by omega,rfl,by first|rfl|(go_num;done)|(simp;done),SM⟩
      case measure=>simp[intOf]
     ·have tb:(bits BinOp.and IntKind.i64 (m / 2) 1 == 1)=false:=by rw[and1K (by omega) (by omega)];simpa using hb
      have HN:Hid (mdPre m 7++[45]=mdPre m 8):=hd0 (by
       rw[mdPre_step m 7,show mdCh m (8 - 7)=45 from(by unfold mdCh;rw[if_neg (show ¬(m / 2 ^ (8 - 7) % 2=1)from by simpa using hb)];try rfl)])
      clear hb
      have hrow:=S.alloc #[.int .u8 45] 5 |>.row 1 rfl
      have hbs:=(S.alloc #[.int .u8 45] 5).chg.size;have rd1:Rd 1 encB (wr.alloc (.cells #[.int .u8 45] 5)) (some ⟨wr.heap.size,0,none⟩) [(45:UInt8)]:=rd_lit_new [(45:UInt8)] encB_len rfl;have HSA:=hd0 (S.alloc #[.int .u8 45] 5);clear S
      go_wp2_with (at_builtin;refine Hid.out (?_:Hid _))
      unfold Hid;refine wpList_append_b rfl _ _ 38 rfl w.heap.size 5 _ 1 _ Tryz.underlying38 infoB rfl (by decide) encB_len encB_one _ (mdPre m 7).length (mdPre m 7) rfl hrow rfl (some ⟨wr.heap.size,0,none⟩) 1 1 [(45:UInt8)] rfl rfl rd1 (by rw[mdPre_len];omega) (by omega) hbs ?_;intro v7 w7 ho hgr hblk;obtain⟨a7,c7,hv7,_,_,_⟩:=view_owns encB_len ho;subst hv7;have SM:=(HSA.out.grow 1 rfl hgr ho hblk).drop 0;clear ho hgr hblk hrow rd1 HSA hbs;rw[HN.out]at SM ⊢;go_wp2;go_roundw
      case rel=>exact⟨8,a7,c7,by omega,rfl,by first|rfl|(go_num;done)|(simp;done),SM⟩
      case measure=>simp[intOf]
    ·by_cases hb:m % 2=1
     ·have tb:(bits BinOp.and IntKind.i64 (m) 1 == 1)=true:=by rw[and1K (by omega) (by omega)];simpa using hb
      have HN:Hid (mdPre m 8++[120]=mdPre m 9):=hd0 (by
       rw[mdPre_step m 8,show mdCh m (8 - 8)=120 from(by unfold mdCh;rw[if_pos (show(m / 2 ^ (8 - 8) % 2=1)from by simpa using hb)];try rfl)])
      clear hb
      have hrow:=S.alloc #[.int .u8 120] 5 |>.row 1 rfl
      have hbs:=(S.alloc #[.int .u8 120] 5).chg.size;have rd1:Rd 1 encB (wr.alloc (.cells #[.int .u8 120] 5)) (some ⟨wr.heap.size,0,none⟩) [(120:UInt8)]:=rd_lit_new [(120:UInt8)] encB_len rfl;have HSA:=hd0 (S.alloc #[.int .u8 120] 5);clear S
      go_wp2_with (at_builtin;refine Hid.out (?_:Hid _))
      unfold Hid;refine wpList_append_b rfl _ _ 38 rfl w.heap.size 5 _ 1 _ Tryz.underlying38 infoB rfl (by decide) encB_len encB_one _ (mdPre m 8).length (mdPre m 8) rfl hrow rfl (some ⟨wr.heap.size,0,none⟩) 1 1 [(120:UInt8)] rfl rfl rd1 (by rw[mdPre_len];omega) (by omega) hbs ?_;intro v7 w7 ho hgr hblk;obtain⟨a7,c7,hv7,_,_,_⟩:=view_owns encB_len ho;subst hv7;have SM:=(HSA.out.grow 1 rfl hgr ho hblk).drop 0;clear ho hgr hblk hrow rd1 HSA hbs;rw[HN.out]at SM ⊢;go_wp2;go_roundw
      case rel=>exact⟨9,a7,c7,by omega,rfl,by first|rfl|(go_num;done)|(simp;done),SM⟩
      case measure=>simp[intOf]
     ·have tb:(bits BinOp.and IntKind.i64 (m) 1 == 1)=false:=by rw[and1K (by omega) (by omega)];simpa using hb
      have HN:Hid (mdPre m 8++[45]=mdPre m 9):=hd0 (by
       rw[mdPre_step m 8,show mdCh m (8 - 8)=45 from(by unfold mdCh;rw[if_neg (show ¬(m / 2 ^ (8 - 8) % 2=1)from by simpa using hb)];try rfl)])
      clear hb
      have hrow:=S.alloc #[.int .u8 45] 5 |>.row 1 rfl
      have hbs:=(S.alloc #[.int .u8 45] 5).chg.size;have rd1:Rd 1 encB (wr.alloc (.cells #[.int .u8 45] 5)) (some ⟨wr.heap.size,0,none⟩) [(45:UInt8)]:=rd_lit_new [(45:UInt8)] encB_len rfl;have HSA:=hd0 (S.alloc #[.int .u8 45] 5);clear S
      go_wp2_with (at_builtin;refine Hid.out (?_:Hid _))
      unfold Hid;refine wpList_append_b rfl _ _ 38 rfl w.heap.size 5 _ 1 _ Tryz.underlying38 infoB rfl (by decide) encB_len encB_one _ (mdPre m 8).length (mdPre m 8) rfl hrow rfl (some ⟨wr.heap.size,0,none⟩) 1 1 [(45:UInt8)] rfl rfl rd1 (by rw[mdPre_len];omega) (by omega) hbs ?_;intro v7 w7 ho hgr hblk;obtain⟨a7,c7,hv7,_,_,_⟩:=view_owns encB_len ho;subst hv7;have SM:=(HSA.out.grow 1 rfl hgr ho hblk).drop 0;clear ho hgr hblk hrow rd1 HSA hbs;rw[HN.out]at SM ⊢;go_wp2;go_roundw
      case rel=>exact⟨9,a7,c7,by omega,rfl,by first|rfl|(go_num;done)|(simp;done),SM⟩
      case measure=>simp[intOf]
theorem implReadMode (s:ByteArray) (w:World):Calls Tryz.prog 82 #[.string s] w fun e w'=>e=.returned (.tuple #[.int .i64 (readMode s).1,.bool (readMode s).2])∧Ext w w':=by
 go_enter Tryz.func82,Tryz.ntmps82
 go_wp2
 go_loopw [4,5] (fun _ i wr=>∃k:Nat,k≤1024∧i=.int .i64 k∧(∀m:Int,0≤m→m < (k:Int)→modeText m≠s)∧Ext w wr) (fun _ i _=>1024 - (intOf i).toNat)
 case atStart=>exact⟨0,by omega,rfl,fun m h1 h2=>by omega,Ext.refl _⟩
 case round =>
  obtain⟨k,hk,rfl,hno,hE⟩:=hrel;have HNo:=hd0 hno;have HE:=hd0 hE;clear hno hE
  by_cases hlt:k < 1024
  rotate_left
  ·obtain rfl:k=1024:=by omega
   have HX:Hid (readMode s=(0,false)):=hd0 (mode_none (fun m hm=>by
    obtain⟨h0,h1⟩:=inB_iff.1 hm
    exact HNo.out m h0 (by omega)))
   go_wp2;go_ret2;exact⟨by rw[HX.out];rfl,HE.out⟩
  ·have i0:(k:Int) < 1024:=by omega
   have HC:=hd0 (implModeText (k:Int) wr)
   go_wp2_with fail
   refine HC.out.mono ?_;rintro e w2 ⟨rfl,hE2⟩;have HE2:=hd0 (HE.out.trans hE2);clear hE2 HC HE
   by_cases he:modeText (k:Int)=s
   ·have HX:Hid (readMode s=((k:Int),true)):=hd0 (by rw[←he];exact mode_back (inB_iff.2 ⟨by omega,by omega⟩));rw[he];clear he;go_wp2;go_ret2;exact⟨by rw[HX.out];rfl,HE2.out⟩
   ·have HN:Hid (∀m:Int,0≤m→m < ((k+1:Nat):Int)→modeText m≠s):=hd0 (fun m h0 h1=>by
     by_cases e:m=(k:Int)
     ·rw[e];exact he
     ·exact HNo.out m h0 (by omega))
    have te:((modeText (k:Int)).toList == s.toList)=false:=by simpa [bytes_eq]using he
    clear he;generalize modeText (k:Int)=tx at *;go_wp2;go_roundw
    case rel=>exact⟨k+1,by omega,by go_num,HN.out,HE2.out⟩
    case measure=>simp[intOf];omega
end Go.Proofs.YtnibbldfohbfkaaGreatDoor
