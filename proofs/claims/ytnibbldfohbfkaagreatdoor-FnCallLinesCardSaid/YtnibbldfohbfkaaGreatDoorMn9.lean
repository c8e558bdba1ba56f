/- Parts of one proof: what each theorem proves, and its conditions, stand in its own statement. -/
import Derived.Shelf.Strings.Split
import Derived.Shelf.Strings.OnBuilder
import Derived.Shelf.Spec.SearchS
import Derived.Shelf.Slices.Turned
import Derived.Test.YtnibbldfohbfkaaGreatDoorMn8
set_option linter.all false
set_option maxRecDepth 100000
set_option maxHeartbeats 32000000
namespace Go.Proofs.YtnibbldfohbfkaaGreatDoor
open Go.RowKit
def lays147_ren:Go.Shelf.Ren:=⟨fun|147=>167|221=>78|268=>110|138=>111|143=>112|195=>143|197=>144|218=>145|219=>146|260=>161|217=>162|225=>163|224=>164|267=>165|266=>181|314=>182|n=>n,fun|9=>9|3=>3|31=>39|4=>4|0=>0|105=>149|21=>21|5=>5|46=>157|119=>172|139=>175|138=>174|146=>177|51=>176|n=>n,fun|1=>0|3=>1|4=>2|n=>n⟩
theorem lays147:Go.Proofs.Lays.n147 Tryz.prog lays147_ren where
 mixed:=by kernel_rfl
 f138:=Tryz.func111.trans (congrArg some (by kernel_rfl))
 f143:=Tryz.func112.trans (congrArg some (by kernel_rfl))
 f147:=Tryz.func167.trans (congrArg some (by kernel_rfl))
 f195:=Tryz.func143.trans (congrArg some (by kernel_rfl))
 f197:=Tryz.func144.trans (congrArg some (by kernel_rfl))
 f217:=Tryz.func162.trans (congrArg some (by kernel_rfl))
 f218:=Tryz.func145.trans (congrArg some (by kernel_rfl))
 f219:=Tryz.func146.trans (congrArg some (by kernel_rfl))
 f221:=Tryz.func78.trans (congrArg some (by kernel_rfl))
 f224:=Tryz.func164.trans (congrArg some (by kernel_rfl))
 f225:=Tryz.func163.trans (congrArg some (by kernel_rfl))
 f260:=Tryz.func161.trans (congrArg some (by kernel_rfl))
 f266:=Tryz.func181.trans (congrArg some (by kernel_rfl))
 f267:=Tryz.func165.trans (congrArg some (by kernel_rfl))
 f268:=Tryz.func110.trans (congrArg some (by kernel_rfl))
 f314:=Tryz.func182.trans (congrArg some (by kernel_rfl))
 t0:=Tryz.underlying0
 a0:=Tryz.isAgg0
 z0:=Tryz.sizeOf0
 v0:=Tryz.zeroValue0
 t3:=Tryz.underlying3
 a3:=Tryz.isAgg3
 z3:=Tryz.sizeOf3
 v3:=Tryz.zeroValue3
 t4:=Tryz.underlying4
 a4:=Tryz.isAgg4
 z4:=Tryz.sizeOf4
 v4:=Tryz.zeroValue4
 t5:=Tryz.underlying5
 a5:=Tryz.isAgg5
 z5:=Tryz.sizeOf5
 v5:=Tryz.zeroValue5
 t9:=Tryz.underlying9
 a9:=Tryz.isAgg9
 z9:=Tryz.sizeOf9
 v9:=Tryz.zeroValue9
 t21:=Tryz.underlying21
 a21:=Tryz.isAgg21
 z21:=Tryz.sizeOf21
 v21:=Tryz.zeroValue21
 t31:=Tryz.underlying39
 a31:=Tryz.isAgg39
 z31:=Tryz.sizeOf39
 v31:=Tryz.zeroValue39
 t46:=Tryz.underlying157
 a46:=Tryz.isAgg157
 z46:=Tryz.sizeOf157
 v46:=Tryz.zeroValue157
 t51:=Tryz.underlying176
 a51:=Tryz.isAgg176
 z51:=Tryz.sizeOf176
 v51:=Tryz.zeroValue176
 t105:=Tryz.underlying149
 a105:=Tryz.isAgg149
 z105:=Tryz.sizeOf149
 v105:=Tryz.zeroValue149
 t119:=Tryz.underlying172
 a119:=Tryz.isAgg172
 z119:=Tryz.sizeOf172
 t138:=Tryz.underlying174
 a138:=Tryz.isAgg174
 z138:=Tryz.sizeOf174
 v138:=Tryz.zeroValue174
 t139:=Tryz.underlying175
 a139:=Tryz.isAgg175
 z139:=Tryz.sizeOf175
 v139:=Tryz.zeroValue175
 t146:=Tryz.underlying177
 a146:=Tryz.isAgg177
 z146:=Tryz.sizeOf177
 v146:=Tryz.zeroValue177
 g1:=by kernel_rfl
 g3:=by kernel_rfl
 g4:=by kernel_rfl
def lays146_ren:Go.Shelf.Ren:=⟨fun|146=>44|221=>78|268=>110|138=>111|143=>112|195=>143|197=>144|218=>145|219=>146|260=>161|217=>162|225=>163|224=>164|267=>165|266=>181|314=>182|n=>n,fun|9=>9|31=>39|3=>3|4=>4|0=>0|105=>149|21=>21|5=>5|46=>157|119=>172|139=>175|138=>174|146=>177|51=>176|n=>n,fun|1=>0|3=>1|4=>2|n=>n⟩
theorem lays146:Go.Proofs.Lays.n146 Tryz.prog lays146_ren where
 mixed:=by kernel_rfl
 f138:=Tryz.func111.trans (congrArg some (by kernel_rfl))
 f143:=Tryz.func112.trans (congrArg some (by kernel_rfl))
 f146:=Tryz.func44.trans (congrArg some (by kernel_rfl))
 f195:=Tryz.func143.trans (congrArg some (by kernel_rfl))
 f197:=Tryz.func144.trans (congrArg some (by kernel_rfl))
 f217:=Tryz.func162.trans (congrArg some (by kernel_rfl))
 f218:=Tryz.func145.trans (congrArg some (by kernel_rfl))
 f219:=Tryz.func146.trans (congrArg some (by kernel_rfl))
 f221:=Tryz.func78.trans (congrArg some (by kernel_rfl))
 f224:=Tryz.func164.trans (congrArg some (by kernel_rfl))
 f225:=Tryz.func163.trans (congrArg some (by kernel_rfl))
 f260:=Tryz.func161.trans (congrArg some (by kernel_rfl))
 f266:=Tryz.func181.trans (congrArg some (by kernel_rfl))
 f267:=Tryz.func165.trans (congrArg some (by kernel_rfl))
 f268:=Tryz.func110.trans (congrArg some (by kernel_rfl))
 f314:=Tryz.func182.trans (congrArg some (by kernel_rfl))
 t0:=Tryz.underlying0
 a0:=Tryz.isAgg0
 z0:=Tryz.sizeOf0
 v0:=Tryz.zeroValue0
 t3:=Tryz.underlying3
 a3:=Tryz.isAgg3
 z3:=Tryz.sizeOf3
 v3:=Tryz.zeroValue3
 t4:=Tryz.underlying4
 a4:=Tryz.isAgg4
 z4:=Tryz.sizeOf4
 v4:=Tryz.zeroValue4
 t5:=Tryz.underlying5
 a5:=Tryz.isAgg5
 z5:=Tryz.sizeOf5
 v5:=Tryz.zeroValue5
 t9:=Tryz.underlying9
 a9:=Tryz.isAgg9
 z9:=Tryz.sizeOf9
 v9:=Tryz.zeroValue9
 t21:=Tryz.underlying21
 a21:=Tryz.isAgg21
 z21:=Tryz.sizeOf21
 v21:=Tryz.zeroValue21
 t31:=Tryz.underlying39
 a31:=Tryz.isAgg39
 z31:=Tryz.sizeOf39
 v31:=Tryz.zeroValue39
 t46:=Tryz.underlying157
 a46:=Tryz.isAgg157
 z46:=Tryz.sizeOf157
 v46:=Tryz.zeroValue157
 t51:=Tryz.underlying176
 a51:=Tryz.isAgg176
 z51:=Tryz.sizeOf176
 v51:=Tryz.zeroValue176
 t105:=Tryz.underlying149
 a105:=Tryz.isAgg149
 z105:=Tryz.sizeOf149
 v105:=Tryz.zeroValue149
 t119:=Tryz.underlying172
 a119:=Tryz.isAgg172
 z119:=Tryz.sizeOf172
 t138:=Tryz.underlying174
 a138:=Tryz.isAgg174
 z138:=Tryz.sizeOf174
 v138:=Tryz.zeroValue174
 t139:=Tryz.underlying175
 a139:=Tryz.isAgg175
 z139:=Tryz.sizeOf175
 v139:=Tryz.zeroValue175
 t146:=Tryz.underlying177
 a146:=Tryz.isAgg177
 z146:=Tryz.sizeOf177
 v146:=Tryz.zeroValue177
 g1:=by kernel_rfl
 g3:=by kernel_rfl
 g4:=by kernel_rfl
def lays156_ren:Go.Shelf.Ren:=⟨fun|156=>90|165=>129|166=>130|169=>131|240=>154|241=>155|276=>178|277=>179|n=>n,fun|31=>39|9=>9|3=>3|4=>4|0=>0|20=>20|72=>133|76=>137|70=>131|37=>38|75=>136|127=>158|164=>169|5=>5|80=>139|n=>n,fun|n=>n⟩
theorem lays156:Go.Proofs.Lays.n156 Tryz.prog lays156_ren where
 mixed:=by kernel_rfl
 f156:=Tryz.func90.trans (congrArg some (by kernel_rfl))
 f165:=Tryz.func129.trans (congrArg some (by kernel_rfl))
 f166:=Tryz.func130.trans (congrArg some (by kernel_rfl))
 f169:=Tryz.func131.trans (congrArg some (by kernel_rfl))
 f240:=Tryz.func154.trans (congrArg some (by kernel_rfl))
 f241:=Tryz.func155.trans (congrArg some (by kernel_rfl))
 f276:=Tryz.func178.trans (congrArg some (by kernel_rfl))
 f277:=Tryz.func179.trans (congrArg some (by kernel_rfl))
 t0:=Tryz.underlying0
 a0:=Tryz.isAgg0
 z0:=Tryz.sizeOf0
 v0:=Tryz.zeroValue0
 t3:=Tryz.underlying3
 a3:=Tryz.isAgg3
 z3:=Tryz.sizeOf3
 v3:=Tryz.zeroValue3
 t4:=Tryz.underlying4
 a4:=Tryz.isAgg4
 z4:=Tryz.sizeOf4
 v4:=Tryz.zeroValue4
 t9:=Tryz.underlying9
 a9:=Tryz.isAgg9
 z9:=Tryz.sizeOf9
 v9:=Tryz.zeroValue9
 t20:=Tryz.underlying20
 a20:=Tryz.isAgg20
 z20:=Tryz.sizeOf20
 v20:=Tryz.zeroValue20
 t31:=Tryz.underlying39
 a31:=Tryz.isAgg39
 z31:=Tryz.sizeOf39
 v31:=Tryz.zeroValue39
 t37:=Tryz.underlying38
 a37:=Tryz.isAgg38
 z37:=Tryz.sizeOf38
 v37:=Tryz.zeroValue38
 t70:=Tryz.underlying131
 a70:=Tryz.isAgg131
 z70:=Tryz.sizeOf131
 v70:=Tryz.zeroValue131
 t72:=Tryz.underlying133
 a72:=Tryz.isAgg133
 z72:=Tryz.sizeOf133
 v72:=Tryz.zeroValue133
 t75:=Tryz.underlying136
 a75:=Tryz.isAgg136
 z75:=Tryz.sizeOf136
 v75:=Tryz.zeroValue136
 t76:=Tryz.underlying137
 a76:=Tryz.isAgg137
 z76:=Tryz.sizeOf137
 v76:=Tryz.zeroValue137
 t127:=Tryz.underlying158
 a127:=Tryz.isAgg158
 z127:=Tryz.sizeOf158
 v127:=Tryz.zeroValue158
 t164:=Tryz.underlying169
 a164:=Tryz.isAgg169
 z164:=Tryz.sizeOf169
 v164:=Tryz.zeroValue169
def lays26_ren:Go.Shelf.Ren:=⟨fun|26=>149|33=>170|34=>171|38=>185|n=>n,fun|24=>39|9=>9|3=>3|4=>4|40=>157|0=>0|n=>n,fun|n=>n⟩
theorem lays26:Go.Proofs.Lays2.n26 Tryz.prog lays26_ren where
 mixed:=by kernel_rfl
 f26:=Tryz.func149.trans (congrArg some (by kernel_rfl))
 f33:=Tryz.func170.trans (congrArg some (by kernel_rfl))
 f34:=Tryz.func171.trans (congrArg some (by kernel_rfl))
 f38:=Tryz.func185.trans (congrArg some (by kernel_rfl))
 t0:=Tryz.underlying0
 a0:=Tryz.isAgg0
 z0:=Tryz.sizeOf0
 v0:=Tryz.zeroValue0
 t3:=Tryz.underlying3
 a3:=Tryz.isAgg3
 z3:=Tryz.sizeOf3
 v3:=Tryz.zeroValue3
 t4:=Tryz.underlying4
 a4:=Tryz.isAgg4
 z4:=Tryz.sizeOf4
 v4:=Tryz.zeroValue4
 t9:=Tryz.underlying9
 a9:=Tryz.isAgg9
 z9:=Tryz.sizeOf9
 v9:=Tryz.zeroValue9
 t24:=Tryz.underlying39
 a24:=Tryz.isAgg39
 z24:=Tryz.sizeOf39
 v24:=Tryz.zeroValue39
 t40:=Tryz.underlying157
 a40:=Tryz.isAgg157
 z40:=Tryz.sizeOf157
 v40:=Tryz.zeroValue157
def lays109_ren:Go.Shelf.Ren:=⟨fun|109=>125|n=>n,fun|31=>39|9=>9|3=>3|0=>0|4=>4|n=>n,fun|n=>n⟩
theorem lays109:Go.Proofs.Lays.n109 Tryz.prog lays109_ren where
 mixed:=by kernel_rfl
 f109:=Tryz.func125.trans (congrArg some (by kernel_rfl))
 t0:=Tryz.underlying0
 a0:=Tryz.isAgg0
 z0:=Tryz.sizeOf0
 v0:=Tryz.zeroValue0
 t3:=Tryz.underlying3
 a3:=Tryz.isAgg3
 z3:=Tryz.sizeOf3
 v3:=Tryz.zeroValue3
 t4:=Tryz.underlying4
 a4:=Tryz.isAgg4
 z4:=Tryz.sizeOf4
 v4:=Tryz.zeroValue4
 t9:=Tryz.underlying9
 a9:=Tryz.isAgg9
 z9:=Tryz.sizeOf9
 v9:=Tryz.zeroValue9
 t31:=Tryz.underlying39
 a31:=Tryz.isAgg39
 z31:=Tryz.sizeOf39
 v31:=Tryz.zeroValue39
def maxLenG:Nat:=0
def MaxG (w:World):Prop:=∃m:Int,w.cell? ⟨maxLenG,0,none⟩=some (.int .i64 m)
theorem MaxG.ext {w w':World} (h:MaxG w) (hE:Ext w w'):MaxG w':=h.elim fun m hm=>⟨m,cell_ext hE hm⟩
theorem splitN_any (s:ByteArray) (w:World) (hs:s.size < 4294967281) (hm:MaxG w) :
  Calls Tryz.prog 167 #[.string s,.string ⟨#[47]⟩,.int .i64 7] w fun e w'=>e=.returned (.slice (some ⟨w.heap.size,0,none⟩) (Lib.splitB ⟨#[47]⟩ 0 (min 7 (s.size+1) - 1) s).length (min 7 (s.size+1)))∧w'=w.alloc (.cells (Lib.cellsOf (Lib.splitB ⟨#[47]⟩ 0 (min 7 (s.size+1) - 1) s) (min 7 (s.size+1))) 9):=by
 obtain⟨m,hm⟩:=hm;exact Any.strings_SplitN lays147 (by kernel_rfl) s ⟨#[47]⟩ 7 m w hs hm (by decide) (by decide) (by decide)
theorem split_any (s:ByteArray) (w:World) (hs:s.size < 4294967281) (hm:MaxG w) :
  Calls Tryz.prog 44 #[.string s,.string ⟨#[32]⟩] w fun e w'=>e=.returned (.slice (some ⟨w.heap.size,0,none⟩) (Lib.countB s ⟨#[32]⟩+1) (Lib.countB s ⟨#[32]⟩+1))∧w'=w.alloc (.cells ((Lib.splitB ⟨#[32]⟩ 0 (Lib.countB s ⟨#[32]⟩) s).map Value.string).toArray 9):=by
 obtain⟨m,hm⟩:=hm;exact Any.strings_Split lays146 (by kernel_rfl) s ⟨#[32]⟩ m w hs hm (by decide)
theorem extra156:Builder.Extra Tryz.prog lays156_ren where
 sizeBuilder:=by kernel_rfl
 liesBuilder:=by kernel_rfl
 t5:=Tryz.underlying5
 a5:=Tryz.isAgg5
 z5:=Tryz.sizeOf5
 v5:=Tryz.zeroValue5
 infoByte:=by kernel_rfl
 cellsByte:=by kernel_rfl
 sizeByte:=by kernel_rfl
 neB5:=by decide
def joinS (xs:List ByteArray) (sep:ByteArray):ByteArray:=⟨(Lib.join (xs.map (·.data.toList)) sep.data.toList).toArray⟩
theorem join_any (bk o c:Nat) (xs:List ByteArray) (sep:ByteArray) (w:World) (hcells:∀(j:Nat) x,xs[j]?=some x→w.cell? ⟨bk,o+j,none⟩=some (.string x)) (h1:0 < xs.length) (hN:xs.length≤140737488355328) (hcap:xs.length≤c)
  (hlen:(Lib.join (xs.map (·.data.toList)) sep.data.toList).length≤140737488355328) :
  Calls Tryz.prog 90 #[.slice (some ⟨bk,o,none⟩) xs.length c,.string sep] w fun e w'=>e=.returned (.string (joinS xs sep))∧Ext w w':=by
 have hbk:bk < w.heap.size:=World.block_lt_of_cell? _ _ (hcells 0 _ (List.getElem?_eq_getElem h1))
 by_cases h2:2≤xs.length
 ·exact Any.strings_Join_many lays156 extra156 bk o c xs sep w hcells hbk h2 hN hcap hlen
 ·match xs,h1,h2,hcells with
  | [x],_,_,hcells =>
   refine(Any.strings_Join_one lays156 extra156 bk o c x sep w (hcells 0 x rfl)).mono ?_;rintro e w' ⟨rfl,rfl⟩;exact⟨by simp[joinS,Lib.join],Ext.refl _⟩
  | _ :: _ :: _,_,h2,_=>simp at h2
theorem join_none (a:Option Addr) (c:Nat) (sep:ByteArray) (w:World):Calls Tryz.prog 90 #[.slice a 0 c,.string sep] w fun e w'=>e=.returned (.string ⟨#[]⟩)∧w'=w:=Any.strings_Join_none lays156 extra156 a c sep w
theorem search_raw (b off n c:Nat) (Sx:Nat→ByteArray) (x:ByteArray) (w:World) (hbig:n < 4611686018427387904) (hc:∀j,j < n→w.cell? ⟨b,off+j,none⟩=some (.string (Sx j))) :
  Calls Tryz.prog 149 #[.slice (some ⟨b,off,none⟩) n c,.string x] w fun e w' =>
   e=.returned (.tuple #[.int .i64 (Lib.bsGo (fun t=>Op.bytesLess (Sx t).toList x.toList) n 0 n:Nat),.bool (decide (Lib.bsGo (fun t=>Op.bytesLess (Sx t).toList x.toList) n 0 n < n∧Sx (Lib.bsGo (fun t=>Op.bytesLess (Sx t).toList x.toList) n 0 n)=x))])∧∃q,w'=w.drewN q :=
 Any2.slices_BinarySearch_string lays26 b off n c Sx x w hbig hc
theorem search_none (a:Option Addr) (c:Nat) (x:ByteArray) (w:World):Calls Tryz.prog 149 #[.slice a 0 c,.string x] w fun e w'=>e=.returned (.tuple #[.int .i64 0,.bool false])∧w'=w:=Any2.slices_BinarySearch_string_empty lays26 a c x w
theorem index_raw (b off n c:Nat) (zs:List ByteArray) (x:ByteArray) (w:World) (hz:n≤zs.length) (hbig:n≤9223372036854775807) (hc:∀j,j < zs.length→w.cell? ⟨b,off+j,none⟩=some (.string (zs.getD j ByteArray.empty))) :
  Calls Tryz.prog 125 #[.slice (some ⟨b,off,none⟩) n c,.string x] w fun e w'=>e=.returned (.int .i64 (Lib.idxOfS (zs.take n) x))∧w'=w:=Any.slices_Index_string lays109 b off n c zs x w hz hbig hc
theorem search_asc {N:List ByteArray} (h:Asc N) (x:ByteArray):Lib.bsGo (fun t=>Op.bytesLess ((fun t:Nat=>(N[t]?).getD x) t).toList x.toList) N.length 0 N.length=posOf N x:=by
 refine Lib.bsGo_spec _ (posOf N x) (fun t ht=>?_) (fun t ht=>?_) _ _ _ (by omega) (Nat.zero_le _) (posOf_le N x)
 ·have hl:t < N.length:=by have:=posOf_le N x;omega
  have h1:N[t]?=some N[t]:=List.getElem?_eq_getElem hl;dsimp only;rw[h1];exact posOf_lt N x t N[t] ht h1
 ·dsimp only
  cases hx:N[t]? with
  | none=>exact bl_irr _
  | some y =>
   have hl:=(List.getElem?_eq_some_iff.1 hx).1;have h0:N[posOf N x]?=some N[posOf N x]:=List.getElem?_eq_getElem (by omega);have h1:=posOf_at N x _ h0
   show Op.bytesLess y.toList x.toList=false
   rcases Nat.lt_or_eq_of_le ht with h2|h2
   ·cases hb:Op.bytesLess y.toList x.toList with
    | false=>rfl
    | true=>rw[bl_tr _ _ _ (h _ _ _ _ h2 h0 hx) hb]at h1;cases h1
   ·rw[←h2,h0]at hx
    cases hx
    exact h1
theorem search_any (a:Option Addr) (c n:Nat) (N:List ByteArray) (x:ByteArray) (w:World) (hn:n=N.length) (h:Asc N) (hl:N.length≤1048576) (hc:Rd 1 encStr1 w a N) :
  Calls Tryz.prog 149 #[.slice a n c,.string x] w fun e w'=>∃b:Bool,e=.returned (.tuple #[.int .i64 (posOf N x:Nat),.bool b])∧(b=true↔x∈N)∧Ext w w':=by
 subst hn
 by_cases h0:N=[]
 ·subst h0;refine(search_none a c x w).mono ?_;rintro e w' ⟨rfl,rfl⟩;exact⟨false,rfl,by simp,Ext.refl _⟩
 ·obtain⟨_,b,off,_,rfl,_⟩:=atStr hc (List.length_pos_iff.2 h0);refine(search_raw b off N.length c (fun t=>(N[t]?).getD x) x w (by omega) (fun j hj=>?_)).mono ?_
  ·obtain⟨y,b',off',hy,hb,hcell⟩:=atStr hc hj
   cases hb
   rw[hy];exact hcell
  ·rintro e w' ⟨rfl,q,rfl⟩;rw[search_asc h];refine⟨_,rfl,?_,(Ext.refl w).drewN q⟩;rw[decide_eq_true_eq]
   constructor
   ·rintro⟨h1,h2⟩;have h3:N[posOf N x]?=some N[posOf N x]:=List.getElem?_eq_getElem h1;rw[h3]at h2;have h4:N[posOf N x]=x:=h2;rw[←h4];exact List.getElem_mem h1
   ·intro hm;obtain⟨k,hk⟩:=List.getElem?_of_mem hm;have e:=posOf_mem h hk;rw[e,hk];exact⟨(List.getElem?_eq_some_iff.1 hk).1,rfl⟩
theorem node_asc {x:Nd} {many:Nat} (h:NodeOk x many):Asc x.N:=by
 cases hf:x.fold with
 | true=>exact asc_of ((nodeOk_iff.1 h).1.dir hf).2.2
 | false =>
  have h0:x.N=[]:=List.eq_nil_of_length_eq_zero (h.file hf);rw[h0];intro i j p q _ hp;simp at hp
theorem kidOf_found {x:Nd} {many:Nat} {s:ByteArray} (h:NodeOk x many) (hm:s∈x.N):posOf x.N s < x.K.length∧x.K[posOf x.N s]?=some (kidOf x.N x.K s):=by
 obtain⟨k,hk⟩:=List.getElem?_of_mem hm;have hA:=node_asc h;have e:=posOf_mem hA hk;have hkl:=(List.getElem?_eq_some_iff.1 hk).1;have hlen:=h.len;have hK:x.K[k]?=some x.K[k]:=List.getElem?_eq_getElem (by omega);rw[e,kidOf_at x.N x.K s k _ hk hK (fun j hj hj2=>by have:=asc_ne hA hj2 hk;omega)];exact⟨by omega,hK⟩
theorem implKid (x:Nd) (many:Nat) (an ak:Option Addr) (cn ck:Nat) (s:ByteArray) (w:World) (hN:NodeOk x many) (hl:x.N.length≤1048576) (hn:Rd 1 encStr1 w an x.N) (hk:Rd 1 encInt1 w ak x.K) :
  Calls Tryz.prog 124 #[.agg #[.bool x.fold,.int .i64 x.own,.int .i64 x.grp,.int .i64 x.mode,.string x.text,.slice an x.N.length cn,.slice ak x.K.length ck],.string s] w (RetI (kidOf x.N x.K s) w):=by
 have HA:=hd0 (node_asc hN);have HF:=hd0 (fun hm=>kidOf_found (s:=s) hN hm);have HNo:Hid (s∉x.N→kidOf x.N x.K s = -1):=hd0 kidOf_not;clear hN;obtain⟨f,o,g,m,t,N,K⟩:=x;dsimp only at hl hn hk HA HF HNo ⊢
 go_enter Tryz.func124,Tryz.ntmps124
 have S:=Sep.start w;replace S:=S.alloc_at (n:=w.heap.size) (by simp) #[.bool f,.int .i64 o,.int .i64 g,.int .i64 m,.string t,.slice an N.length cn,.slice ak K.length ck] 89
 go_upto_region 1 with fail
 generalize (w.alloc (.cells #[.bool f,.int .i64 o,.int .i64 g,.int .i64 m,.string t,.slice an N.length cn,.slice ak K.length ck] 89))=w1 at *;obtain⟨⟨bc0,bf0⟩,⟨bc1,bf1⟩,⟨bc2,bf2⟩,⟨bc3,bf3⟩,⟨bc4,bf4⟩,⟨bc5,bf5⟩,⟨bc6,bf6⟩⟩:=bx7 (S.box 0 rfl)
 go_wp2_with fail
 refine(search_any an cn _ N s w1 rfl HA.out hl (hn.ext S.ext)).mono ?_;rintro e w2 ⟨fd,rfl,hfd,hE⟩;have Hfd:=hd0 hfd;clear hfd;clear bc0 bf0 bc1 bf1 bc2 bf2 bc3 bf3 bc4 bf4 bc5 bf5 bc6 bf6;replace S:=S.step hE;clear hE
 cases fd with
 | false =>
  have HX:=hd0 (HNo.out (fun hm=>Bool.noConfusion (Hfd.out.2 hm)));go_wp2;go_ret;exact⟨by rw[HX.out];rfl,S.ext⟩
 | true =>
  obtain⟨h1,h2⟩:=HF.out (Hfd.out.1 rfl);obtain⟨y,b2,off2,hy,rfl,d0⟩:=atInt (hk.ext S.ext) h1;rw[hy]at h2;have HX:=hd0 (Option.some.inj h2)
  have hp:((posOf N s:Nat):Int) < (K.length:Int):=by omega
  clear h1 h2 hy;generalize posOf N s=p at *;obtain⟨⟨bc0,bf0⟩,⟨bc1,bf1⟩,⟨bc2,bf2⟩,⟨bc3,bf3⟩,⟨bc4,bf4⟩,⟨bc5,bf5⟩,⟨bc6,bf6⟩⟩:=bx7 (S.box 0 rfl);go_wp2;go_ret;exact⟨by rw[←HX.out];rfl,S.ext⟩
theorem implAllows (c:Cr) (want:Int) (x:Nd) (many:Nat) (an ak:Option Addr) (cn ck:Nat) (w:World) (hN:NodeOk x many) (hc:c.ok) (hw:1≤want∧want≤4) :
  Calls Tryz.prog 128 #[.agg #[.bool x.fold,.int .i64 x.own,.int .i64 x.grp,.int .i64 x.mode,.string x.text,.slice an x.N.length cn,.slice ak x.K.length ck],.agg #[.int .i64 c.r,.int .i64 c.a,.int .i64 c.s,.int .i64 c.g],.int .i64 want] w (fun e w'=>e=.returned (.bool (c.may x want))∧Ext w w'):=by
 obtain⟨r,a,s,gs⟩:=c;have HM:=hd0 (fun(w:World)=>implMayDo r a s gs x.own x.grp x.mode want w hc hN.own hN.grp hN.mode hw);clear hN hc hw;dsimp only
 go_enter Tryz.func128,Tryz.ntmps128
 have S:=Sep.start w;replace S:=S.alloc_at (n:=w.heap.size) (by simp) #[.bool x.fold,.int .i64 x.own,.int .i64 x.grp,.int .i64 x.mode,.string x.text,.slice an x.N.length cn,.slice ak x.K.length ck] 89;replace S:=S.alloc_at (n:=(w.heap.size+1)) (by simp) #[.int .i64 r,.int .i64 a,.int .i64 s,.int .i64 gs] 29
 go_upto_region 1 with fail
 generalize ((w.alloc (.cells #[.bool x.fold,.int .i64 x.own,.int .i64 x.grp,.int .i64 x.mode,.string x.text,.slice an x.N.length cn,.slice ak x.K.length ck] 89)).alloc (.cells #[.int .i64 r,.int .i64 a,.int .i64 s,.int .i64 gs] 29))=w1 at *;obtain⟨⟨cc0,cf0⟩,⟨cc1,cf1⟩,⟨cc2,cf2⟩,⟨cc3,cf3⟩⟩:=bx4 (S.box 0 rfl);obtain⟨⟨nc0,nf0⟩,⟨nc1,nf1⟩,⟨nc2,nf2⟩,⟨nc3,nf3⟩,⟨nc4,nf4⟩,⟨nc5,nf5⟩,⟨nc6,nf6⟩⟩:=bx7 (S.box 1 rfl)
 go_wp2_with fail
 refine(HM.out w1).mono ?_;rintro e w2 ⟨rfl,hE⟩;clear cc0 cf0 cc1 cf1 cc2 cf2 cc3 cf3 nc0 nf0 nc1 nf1 nc2 nf2 nc3 nf3 nc4 nf4 nc5 nf5 nc6 nf6;replace S:=S.step hE;clear hE;go_wp2;go_ret;exact⟨rfl,S.ext⟩
theorem idxStr_fn (a:Option Addr) (cap n:Nat) (l:List ByteArray) (w:World) (fn:FuncId) (caps:Array Value) (T:ByteArray→Prop) (hn:n=l.length) (hl:l.length≤9223372036854775807) (hc:Rd 1 encStr1 w a l)
  (hcf:∀args w,(callFunc fn args).run Tryz.prog w=.ok (.enter fn args) w) (hfn:∀x∈l,∀w',Ext w w'→Calls Tryz.prog fn (#[.string x]++caps) w' (RetB (T x) w')) :
  Calls Tryz.prog 184 #[.slice a n cap,.func (.func fn) #[] caps] w (RetV (fun v _=>∃r:Int,v=.int .i64 r ∧ -1≤r∧r < n∧(∀(j:Nat) x,(j:Int) < r→l[j]?=some x→¬T x)∧(0≤r→∃x,l[r.toNat]?=some x∧T x)∧(r < 0→∀(j:Nat) x,l[j]?=some x→¬T x)) w):=by
 subst hn
 go_enter Tryz.func184,Tryz.ntmps184
 go_wp2
 go_loopw [5,8] (fun _ i wr=>∃k:Nat,k≤l.length∧i=.int .i64 k∧(∀(j:Nat) x,j < k→l[j]?=some x→¬T x)∧Ext w wr) (fun _ i _=>l.length - (intOf i).toNat)
 case atStart=>exact⟨0,Nat.zero_le _,rfl,fun _ _ h=>absurd h (Nat.not_lt_zero _),Ext.refl _⟩
 case round =>
  obtain⟨k,hk,rfl,hpre,hb⟩:=hrel;have Hpre:=hd0 hpre;clear hpre
  by_cases hlt:k < l.length
  ·obtain⟨x,b,off,hx,rfl,c0⟩:=atStr (hc.ext hb) hlt;have Hx:=hd0 hx;clear hx
   go_wp2_with (refine(hfn x (List.mem_of_getElem? Hx.out) _ hb).mono ?_;rintro e w2 ⟨b0,rfl,he,hb2⟩;have He:=hd0 he;clear he)
   ·have hb0:b0=true:=by assumption
    go_ret;exact RetV.mk ⟨_,rfl,by omega,by omega,fun j y hj hy=>Hpre.out j y (by omega) hy,fun _=>⟨x,Hx.out,He.out.1 hb0⟩,fun h=>absurd h (by omega)⟩ (hb.trans hb2)
   ·have hb0:b0=false:=by assumption
    go_roundw
    case rel =>
     refine⟨k+1,by omega,by go_num,fun j y hj hy hT=>?_,hb.trans hb2⟩
     rcases Nat.lt_succ_iff_lt_or_eq.1 hj with h'|rfl
     ·exact Hpre.out j y h' hy hT
     ·have h1:=Hx.out;rw[hy]at h1;cases h1;rw[He.out.2 hT]at hb0;cases hb0
    case measure=>simp[intOf];omega
  ·go_wp2;go_ret
   have hlen:∀j y,l[j]?=some y→j < k:=fun j y hy=>by have:=(List.getElem?_eq_some_iff.1 hy).1;omega
   exact RetV.mk ⟨_,rfl,by omega,by omega,fun j y hj hy=>absurd hj (by omega),fun h=>absurd h (by omega),fun _ j y hy=>Hpre.out j y (hlen j y hy) hy⟩ hb
theorem hasStr_fn (a:Option Addr) (cap n:Nat) (l:List ByteArray) (w:World) (fn:FuncId) (caps:Array Value) (T:ByteArray→Prop) (hn:n=l.length) (hl:l.length≤9223372036854775807) (hc:Rd 1 encStr1 w a l)
  (hcf:∀args w,(callFunc fn args).run Tryz.prog w=.ok (.enter fn args) w) (hfn:∀x∈l,∀w',Ext w w'→Calls Tryz.prog fn (#[.string x]++caps) w' (RetB (T x) w')) :
  Calls Tryz.prog 168 #[.slice a n cap,.func (.func fn) #[] caps] w (RetB (∃(j:Nat) (x:ByteArray),l[j]?=some x∧T x) w):=by
 subst hn
 go_enter Tryz.func168,Tryz.ntmps168
 go_wp2_with (go_at_call 184;refine(idxStr_fn a cap _ l _ fn caps T rfl hl hc hcf hfn).mono ?_;rintro e w2 ⟨v,rfl,⟨r,rfl,hr⟩,hb2⟩;have Hr:=hd0 hr;clear hr)
 go_ret;refine RetB.mk (decide (0≤r)) rfl ?_ hb2;obtain⟨h1,h2,h3,h4,h5⟩:=Hr.out;rw[decide_eq_true_eq]
 constructor
 ·intro h;obtain⟨x,hx,ht⟩:=h4 h;exact⟨_,x,hx,ht⟩
 ·rintro⟨j,x,hx,ht⟩
  rcases Int.lt_or_le r 0 with h|h
  ·exact absurd ht (h5 h j x hx)
  ·exact h
def IsPre (s:ByteArray):Prop:=∃h:0 < s.size,s[0]=47
theorem hasPre_any (s:ByteArray) (b:Bool) (hb:b=true↔IsPre s) (w:World) (hs:s.size≤9223372036854775807):Calls Tryz.prog 189 #[.string s,.string ⟨#[47]⟩] w fun e w'=>e=.returned (.bool b)∧w=w':=by
 have h1:(⟨#[47]⟩:ByteArray).size=1:=rfl
 by_cases h0:0 < s.size
 ·have hi:(1:Int)≤(s.size:Int):=by omega
  by_cases hc:s[0]=47
  ·obtain rfl:b=true:=hb.2 ⟨h0,hc⟩
   have e:s.extract 0 1=⟨#[47]⟩:=by rw[ext_one h0,hc]
   clear hc hb
   go_enter Tryz.func189,Tryz.ntmps189
   go_wp2;go_ret;exact⟨by simp[e,h0],rfl⟩
  ·obtain rfl:b=false:=by
    cases b with
    | false=>rfl
    | true=>exact absurd (hb.1 rfl).2 hc
   have e:s.extract 0 1=⟨#[s[0]]⟩:=ext_one h0
   have e2:((⟨#[s[0]]⟩:ByteArray).toList == [47])=false:=by
    rw[ByteArray.toList_eq]
    simpa using hc
   have HC:=hd0 hc;clear hc hb
   go_enter Tryz.func189,Tryz.ntmps189
   go_wp2;go_ret;refine⟨?_,rfl⟩;have hc:=HC.out;simp[e,e2,hc]
 ·obtain rfl:b=false:=by
   cases b with
   | false=>rfl
   | true=>exact absurd (hb.1 rfl).1 h0
  have hi:¬(1:Int)≤(s.size:Int):=by omega
  clear hb
  go_enter Tryz.func189,Tryz.ntmps189
  go_wp2;go_ret;exact⟨rfl,rfl⟩
theorem cutPre_yes {s:ByteArray} (h0:0 < s.size) (hc:s[0]=47):s=⟨#[47]⟩++s.extract 1 s.size:=by
 apply ByteArray.ext;have:s.data.size=s.size:=rfl;rw[ByteArray.data_append,ByteArray.data_extract];apply Array.ext
 ·simp;omega
 ·intro i h1 h2
  by_cases hi:i=0
  ·subst hi;have hc':s.data[0]=47:=hc
   simpa using hc'
  ·rw[Array.getElem_append_right (by simp;omega)];simp only[Array.getElem_extract,List.size_toArray,List.length_cons,List.length_nil]
   congr 1
   omega
theorem cutPre_any (s:ByteArray) (w:World) (hs:s.size≤9223372036854775807):Calls Tryz.prog 166 #[.string s,.string ⟨#[47]⟩] w fun e w'=>((∃t,s=⟨#[47]⟩++t∧e=.returned (.tuple #[.string t,.bool true]))∨((∀t,s≠⟨#[47]⟩++t)∧e=.returned (.tuple #[.string s,.bool false])))∧w=w':=by
 have h1:(⟨#[47]⟩:ByteArray).size=1:=rfl
 have key:Calls Tryz.prog 183 #[.string s,.string ⟨#[47]⟩] w fun e w'=>((∃t,s=⟨#[47]⟩++t∧e=.returned (.tuple #[.string t,.bool true]))∨((∀t,s≠⟨#[47]⟩++t)∧e=.returned (.tuple #[.string s,.bool false])))∧w=w':=by
  by_cases hp:IsPre s
  ·have HX:Hid (true=true↔IsPre s):=hd0 ⟨fun _=>hp,fun _=>rfl⟩;obtain⟨h0,hc⟩:=hp;have HE:=hd0 (cutPre_yes h0 hc)
   have hi:(1:Int)≤(s.size:Int):=by omega
   clear hc
   go_enter Tryz.func183,Tryz.ntmps183
   go_wp2_with (go_at_call 189;refine(hasPre_any s _ HX.out _ hs).mono ?_;rintro e w' ⟨rfl,rfl⟩)
   try simp only[Exit.inBlock,Exit.then]
   refine bodyPost_ret (v:=.tuple #[.string (s.extract 1 s.size),.bool true]) (by simp[results,Tryz.results183,go_sem]) rfl ?_;exact⟨.inl ⟨_,HE.out,rfl⟩,rfl⟩
  ·have HX:Hid (false=true↔IsPre s):=hd0 ⟨fun h=>(by cases h),fun h=>absurd h hp⟩
   have HN:Hid (∀t,s≠⟨#[47]⟩++t):=hd0 (fun t e=>hp (by
    subst e;refine⟨by rw[ByteArray.size_append];omega,?_⟩;rw[ByteArray.getElem_append_left (by omega)]
    rfl))
   clear hp
   go_enter Tryz.func183,Tryz.ntmps183
   go_wp2_with (go_at_call 189;refine(hasPre_any s _ HX.out _ hs).mono ?_;rintro e w' ⟨rfl,rfl⟩)
   try simp only[Exit.inBlock,Exit.then]
   refine bodyPost_ret (v:=.tuple #[.string s,.bool false]) (by simp[results,Tryz.results183,go_sem]) rfl ?_;exact⟨.inr ⟨HN.out,rfl⟩,rfl⟩
 have Key:=hd0 key;clear key
 go_enter Tryz.func166,Tryz.ntmps166
 go_wp2_with fail
 refine Key.out.mono ?_;rintro e w' ⟨(⟨t,ht,rfl⟩|⟨hn,rfl⟩),rfl⟩
 ·have HT:=hd0 ht;clear ht;go_wp2
  try simp only[Exit.inBlock,Exit.then]
  refine bodyPost_ret (v:=.tuple #[.string t,.bool true]) (by simp[results,Tryz.results166,go_sem]) rfl ?_;exact⟨.inl ⟨t,HT.out,rfl⟩,rfl⟩
 ·have HN:=hd0 hn;clear hn;go_wp2
  try simp only[Exit.inBlock,Exit.then]
  refine bodyPost_ret (v:=.tuple #[.string s,.bool false]) (by simp[results,Tryz.results166,go_sem]) rfl ?_;exact⟨.inr ⟨HN.out,rfl⟩,rfl⟩
theorem join1_call (args:Array Value) (w:World):(callFunc 169 args).run Tryz.prog w=.ok (.enter 169 args) w:=by simp[go_sem]
theorem join1_any (s:ByteArray) (w:World) (hs:s.size≤9223372036854775807):Calls Tryz.prog 169 (#[.string s]++#[]) w (RetB (¬NameOk s) w):=by
 go_enter Tryz.func169,Tryz.ntmps169
 go_wp2_with (go_at_call 61;refine(implNameValid s _ hs).mono ?_;rintro e w' ⟨b,rfl,hb,hE⟩;have Hb:=hd0 hb;have HE:=hd0 hE;clear hb hE)
 go_ret;refine RetB.mk (!b) rfl ?_ HE.out;have:=Hb.out
 cases b<;>simp_all
theorem implJoinPath (a:Option Addr) (cap:Nat) (P:List ByteArray) (w:World) (hl:P.length≤1048576) (hcap:P.length≤cap) (hs:∀p∈P,p.size≤1048576) (hc:Rd 1 encStr1 w a P) :
  Calls Tryz.prog 148 #[.slice a P.length cap] w (RetV (fun v _=>v=.string (joinPath P)) w):=by
 have HS:=hd0 hs;clear hs
 go_enter Tryz.func148,Tryz.ntmps148
 by_cases h6:6 < P.length
 ·have HX:Hid (joinPath P=⟨#[]⟩):=hd0 (by rw[joinPath,if_neg (fun e=>by rw[e]at h6;simp at h6),if_neg (fun h=>by have:=h.2;omega)])
  have h6i:(6:Int) < (P.length:Int):=by omega
  go_wp2;go_ret;exact⟨_,rfl,by rw[HX.out];rfl,Ext.refl _⟩
 have h6i:¬(6:Int) < (P.length:Int):=by omega
 go_wp2_with (go_at_call 168;refine(hasStr_fn a cap _ P _ 169 #[] (fun s=>¬NameOk s) rfl (by omega) hc join1_call (fun x hx w' _=>join1_any x w' (by have:=HS.out x hx;omega))).mono ?_;rintro e w1 ⟨b,rfl,hb,hE⟩;have Hb:=hd0 hb;have HE:=hd0 hE;clear hb hE)
 ·have hbt:b=true:=by assumption
  have HX:Hid (joinPath P=⟨#[]⟩):=hd0 (by
   obtain⟨j,x,hx,hn⟩:=Hb.out.1 hbt
   rw[joinPath,if_neg (fun e=>by rw[e]at hx;simp at hx),if_neg (fun h=>hn (h.1 x (List.mem_of_getElem? hx)))])
  go_ret;exact⟨_,rfl,by rw[HX.out];rfl,HE.out⟩
 ·have hbf:b=false:=by assumption
  have hok:PartsOk P:=by
   refine⟨fun p hp=>?_,by omega⟩;obtain⟨j,hj⟩:=List.getElem?_of_mem hp
   by_cases hn:NameOk p
   ·exact hn
   ·have:=Hb.out.2 ⟨j,p,hj,hn⟩;rw[hbf]at this;cases this
  by_cases hP:P=[]
  ·subst hP;have HX:Hid (joinPath []=⟨#[47]⟩):=hd0 (by simp[joinPath]);refine(join_none a cap ⟨#[47]⟩ w1).mono ?_;rintro e w2 ⟨rfl,rfl⟩;go_wp2;go_ret;exact⟨_,rfl,by rw[HX.out];rfl,HE.out⟩
  ·have hpos:0 < P.length:=List.length_pos_iff.2 hP;obtain⟨_,bk,o,_,rfl,_⟩:=atStr hc hpos;have HX:Hid (joinPath P=⟨#[47]⟩++joinS P ⟨#[47]⟩):=hd0 (by rw[joinPath_ok hok hP,joinB_lib hP];rfl)
   have hlen:(Lib.join (P.map (·.data.toList)) [47]).length≤6*9:=by
    have h1:(joinPath P).size=(⟨#[47]⟩++joinS P ⟨#[47]⟩:ByteArray).size:=by rw[HX.out]
    have h2:=joinPath_size P;rw[h1,ByteArray.size_append]at h2
    have h3:(joinS P ⟨#[47]⟩).size=(Lib.join (P.map (·.data.toList)) [47]).length:=by unfold joinS;rw[ByteArray.size];simp
    have h4:(⟨#[47]⟩:ByteArray).size=1:=rfl;omega
   have hjs:(joinS P ⟨#[47]⟩).size≤54:=by
    have h3:(joinS P ⟨#[47]⟩).size=(Lib.join (P.map (·.data.toList)) [47]).length:=by unfold joinS;rw[ByteArray.size];simp
    omega
   have HJ:=hd0 (join_any bk o cap P ⟨#[47]⟩ w1 (fun j x hx=>by
    obtain⟨y,b',off',hy,hb',hcy⟩:=atStr (hc.ext HE.out) (List.getElem?_eq_some_iff.1 hx).1;rw[hx]at hy;cases hy
    cases hb'
    exact hcy) hpos (by omega) hcap (show(Lib.join (P.map (·.data.toList)) [47]).length≤_ by omega))
   clear hlen hok hP hpos;refine HJ.out.mono ?_;rintro e w2 ⟨rfl,hE2⟩;generalize joinS P ⟨#[47]⟩=J at *
   have hj1:¬9223372036854775807 < 1+J.size:=by omega
   go_wp2;go_ret;exact⟨_,rfl,by rw[HX.out];rfl,HE.out.trans hE2⟩
theorem owns_cells {w:World} {D:List ByteArray} {N:Nat} (hN:D.length≤N) (h63:N≤1000000000):(w.alloc (.cells (Lib.cellsOf D N) 9)).ownsRow w.heap.size 9 1 (.slice (some ⟨w.heap.size,0,none⟩) D.length N) D.length (D.flatMap encStr1):=by
 refine⟨by rw[flatMap_length encStr1_len,Nat.mul_one],.inr ⟨w.heap.size,N,Lib.cellsOf D N,rfl,Nat.le_refl _,heap_alloc_new w _,hN,by unfold maxLen;omega,by rw[Lib.cellsOf_size hN,Nat.mul_one],?_⟩⟩
 have e:D.flatMap encStr1=D.map Value.string:=by
  induction D with
  | nil=>rfl
  | cons d D ih=>rw[List.flatMap_cons,ih (by simp only[List.length_cons]at hN;omega)];rfl
 rw[e,Nat.mul_one];unfold Lib.cellsOf
 have hl:D.length=(D.map Value.string).length:=by rw[List.length_map]
 rw[List.take_append_of_le_length (by rw[←hl];exact Nat.le_refl _),hl,List.take_length]
theorem sep_cells {w0 w:World} {D:List ByteArray} {N:Nat} (hE:Ext w0 w) (hN:D.length≤N) (h63:N≤1000000000):Sep w0 (w.alloc (.cells (Lib.cellsOf D N) 9)) [plRow 9 1 encStr1 (.slice (some ⟨w.heap.size,0,none⟩) D.length N) D] :=
 (Sep.of_ext hE).cons ((Ext.refl w).alloc _) (ownsRow_base (owns_cells hN h63) (Nat.zero_le _)) (fun b hb=>by
  have h:(Value.slice (some ⟨w.heap.size,0,none⟩) D.length N).ownBlock=some b:=hb;have:w.heap.size=b:=Option.some.inj h
  omega)
theorem RetParts.nil {s:ByteArray} {w w':World} (h:PartsR s [] false) (hE:Ext w w'):RetParts s w (.returned (.tuple #[.slice none 0 0,.bool false])) w':=RetParts.mk false h ((Sep.of_ext hE).nil _ _ _)
theorem implPathParts (s:ByteArray) (w:World) (hs:s.size≤1048576) (hm:MaxG w) :
  Calls Tryz.prog 147 #[.string s] w (RetParts s w):=by
 have HM:=hd0 hm;clear hm
 go_enter Tryz.func147,Tryz.ntmps147
 go_wp2_with fail
 refine(cutPre_any s w (by omega)).mono ?_;rintro e w1 ⟨(⟨t,ht,rfl⟩|⟨hn,rfl⟩),rfl⟩
 ·have hsz:s.size=1+t.size:=by rw[ht,ByteArray.size_append];rfl
  by_cases h0:t.size=0
  ·have te:t.toList.isEmpty=true:=isEmpty_size.2 h0
   have e47:s=⟨#[47]⟩:=by
    rw[ht];apply ByteArray.ext
    have:t.data=#[]:=by
     have:t.data.size=0:=h0;exact Array.eq_empty_of_size_eq_zero this
    rw[ByteArray.data_append,this];rfl
   subst e47
   have hrd:Rd 1 encStr1 (w.alloc (.cells #[] 9)) (some ⟨w.heap.size,0,none⟩) []:=fun i hi=>absurd hi (Nat.not_lt_zero _)
   have S:=(Sep.start w).lit0 (n:=w.heap.size) rfl 9 1 encStr1;have HJ:Hid (joinPath []=⟨#[47]⟩):=hd0 (by simp[joinPath]);clear ht hsz h0
   go_wp2_with fail
   refine(implJoinPath (some ⟨w.heap.size,0,none⟩) 0 [] _ (Nat.zero_le _) (Nat.le_refl _) (fun p hp=>by cases hp) hrd).mono ?_;rintro e w2 ⟨v,rfl,rfl,hE⟩;rw[HJ.out];have HS2:=hd0 (S.step hE);clear S hE hrd;go_wp2;go_ret2;exact RetParts.mk true (parts_root rfl) HS2.out
  ·have hp:0 < t.size:=by omega
   have te:t.toList.isEmpty=false:=isEmpty_pos hp;have HT:=hd0 ht;have HR:=hd0 hp;obtain⟨D,hD⟩:∃D,D=Lib.splitB ⟨#[47]⟩ 0 (min 7 (t.size+1) - 1) t:=⟨_,rfl⟩;obtain⟨N,hN⟩:∃N,N=min 7 (t.size+1):=⟨_,rfl⟩
   have hDN:D.length≤N:=by
    have:=Lib.splitB_length_le ⟨#[47]⟩ 0 (min 7 (t.size+1) - 1) t;rw[←hD]at this;omega
   have hN7:N≤7:=by omega
   have HDs:Hid (∀p∈D,p.size≤1048576):=hd0 (fun p hp=>by
    rw[hD]at hp;have:=split_small t _ p hp
    omega)
   have E1:=(Ext.refl w).alloc (.cells #[] 9);have HSp:=hd0 (splitN_any t (w.alloc (.cells #[] 9)) (by omega) (HM.out.ext E1));rw[←hD,←hN]at HSp;have HD:=hd0 hD;have HE1:=hd0 E1;clear ht hsz h0 hp hD hN E1
   go_wp2_with fail
   refine HSp.out.mono ?_;rintro e w2 ⟨rfl,rfl⟩;have S:=sep_cells (D:=D) (N:=N) HE1.out hDN (by omega);generalize (w.alloc (.cells #[] 9))=w1 at *;generalize (w1.alloc (.cells (Lib.cellsOf D N) 9))=w2 at *;generalize w1.heap.size=B at *;clear HSp HE1
   go_wp2_with fail
   refine(implJoinPath (some ⟨B,0,none⟩) N D _ (by omega) hDN HDs.out (S.rd 0 encStr1_len rfl rfl)).mono ?_;rintro e w3 ⟨v,rfl,rfl,hE⟩;have HS3:=hd0 (S.step hE);clear S hE
   by_cases hj:joinPath D=s
   ·have HY:Hid (PartsR s D true):=hd0 (by
     rw[HT.out]at hj ⊢
     exact parts_split_yes HR.out hj)
    rw[hj];clear hj;go_wp2;go_ret2;exact RetParts.mk true HY.out HS3.out
   ·have HY:Hid (PartsR s [] false):=hd0 (by
     rw[HT.out]at hj ⊢;rw[HD.out]at hj
     exact parts_split_no HR.out hj)
    have tj:((joinPath D).toList == s.toList)=false:=by simpa [bytes_eq]using hj
    clear hj;generalize joinPath D=J at *;go_wp2;go_ret2;exact RetParts.nil HY.out HS3.out.ext
 ·have HY:=hd0 (parts_head hn);clear hn
  by_cases h0:s.size=0
  ·have te:s.toList.isEmpty=true:=isEmpty_size.2 h0;go_wp2;go_ret2;exact RetParts.nil HY.out ((Ext.refl w).alloc _)
  ·have te:s.toList.isEmpty=false:=isEmpty_pos (by omega);have E1:=(Ext.refl w).alloc (.cells #[] 9);have HSp:=hd0 (splitN_any s (w.alloc (.cells #[] 9)) (by omega) (HM.out.ext E1));have HE1:=hd0 E1;clear E1 h0
   go_wp2_with fail
   refine HSp.out.mono ?_;rintro e w2 ⟨rfl,rfl⟩;go_wp2;go_ret2;exact RetParts.nil HY.out (HE1.out.alloc _)
theorem implAboveOf (s:ByteArray) (w:World) (hs:s.size≤1048576) (hm:MaxG w) :
  Calls Tryz.prog 115 #[.string s] w fun e w'=>e=.returned (.tuple #[.string (abOf s),.string (lastOf s),.bool (aboveOf s).isSome])∧Ext w w':=by
 have HM:=hd0 hm;clear hm
 go_enter Tryz.func115,Tryz.ntmps115
 go_wp2_with fail
 refine(implPathParts s w hs HM.out).mono ?_;rintro e w1 ⟨u,P,ok,rfl,hR,S⟩;have HR:=hd0 hR;obtain⟨hP6,hP8⟩:=parts_len hR;have hrow:=S.row 0 rfl;obtain⟨a,c,rfl,hPc,hrd,_⟩:=view_owns encStr1_len hrow;clear hrow
 cases ok with
 | false =>
  obtain rfl:=parts_false hR;obtain⟨e1,e2,e3⟩:=above_no hR;have HE:=hd0 (And.intro e1 (And.intro e2 e3));clear hR e1 e2 e3;go_wp2
  try simp only[Exit.inBlock,Exit.then]
  refine bodyPost_ret (v:=.tuple #[.string ⟨#[]⟩,.string ⟨#[]⟩,.bool false]) (by simp[results,Tryz.results115,go_sem]) rfl ?_;exact⟨by rw[HE.out.1,HE.out.2.1,HE.out.2.2],S.ext⟩
 | true =>
  by_cases hP:P=[]
  ·subst hP;obtain⟨e1,e2,e3⟩:=above_nil hR;have HE:=hd0 (And.intro e1 (And.intro e2 e3));clear hR e1 e2 e3;go_wp2
   try simp only[Exit.inBlock,Exit.then]
   refine bodyPost_ret (v:=.tuple #[.string ⟨#[]⟩,.string ⟨#[]⟩,.bool false]) (by simp[results,Tryz.results115,go_sem]) rfl ?_;exact⟨by rw[HE.out.1,HE.out.2.1,HE.out.2.2],S.ext⟩
  ·obtain⟨m,hm⟩:∃m,P.length=m+1:=⟨P.length - 1,by have:=List.length_pos_iff.2 hP;omega⟩;obtain⟨l,b,off,hl,rfl,c0⟩:=atStr hrd (show m < P.length by omega);obtain⟨e1,e2,e3⟩:=above_some hR hm hl;have HE:=hd0 (And.intro e1 (And.intro e2 e3))
   have hwm:IntKind.i64.wrap ((P.length:Int) - 1)=(m:Int):=by rw[show(P.length:Int) - 1=m by omega];exact IntWalk.i64_in _ (by omega)
   have hmi:(m:Int) < (P.length:Int):=by omega
   have hmc:(m:Int)≤(c:Int):=by omega
   have hmn:¬(m:Int) < 0:=by omega
   have hml:(P.take m).length=m:=by rw[List.length_take];omega
   have Hml:=hd0 hml;have hrt:=hrd.take m;have Hrt:=hd0 hrt;have HX:=hd0 S.ext;clear hR e1 e2 e3 hl hm hml hrt hrd S hP;have HP8:=hd0 hP8;clear hP8
   go_wp2_with fail
   have q0:=ExtW.cell c0;have bl:=ExtW.lt c0
   have HJ:Hid (∀s:ExtW w1,Calls Tryz.prog 148 #[.slice (some ⟨b,off,none⟩) m c] s.x fun e w''=>e=.returned (.string (joinPath (P.take m)))∧∃s':ExtW w1,w''=s'.x):=hd0 (fun s=>by
    have hC:=implJoinPath (some ⟨b,off,none⟩) c (P.take m) s.x (by have:=Hml.out;omega) (by have:=Hml.out;omega) (fun x hx=>by have:=HP8.out x (List.mem_of_mem_take hx);omega) (Hrt.out.ext s.h);rw[Hml.out]at hC
    exact Calls.at_v hC)
   clear c0
   (refine wp_region_quiet_ext (by kernel_rfl) (by kernel_rfl) ?_;(repeat (go_big_quiet_step ((go_at_call 148;exact HJ.out _))));refine wpQuiet_nil ?_;intro _ hw';obtain⟨sq,hw''⟩:=hw';subst hw'')
   obtain⟨w3,hw3⟩:=sq;go_wp2
   try simp only[Exit.inBlock,Exit.then]
   refine bodyPost_ret (v:=.tuple #[.string (joinPath (P.take m)),.string l,.bool true]) (by simp[results,Tryz.results115,go_sem]) rfl ?_;exact⟨by rw[HE.out.1,HE.out.2.1,HE.out.2.2],HX.out.trans hw3⟩
theorem implTreeValid (a:Option Addr) (cap:Nat) (T:List Nd) (w:World) (hl:T.length≤1048576) (hs:∀x∈T,SmN 1048576 x) (hc:RdN w a T) :
  Calls Tryz.prog 59 #[.slice a T.length cap] w (RetB (TreeOk T) w):=by
 have HS:=hd0 hs;clear hs
 go_enter Tryz.func59,Tryz.ntmps59
 go_wp2_with fail
 refine(implLinksOf a cap T w hl HS.out hc).mono ?_;rintro e w1 ⟨v,rfl,⟨L,ho,hR⟩,hE⟩;obtain⟨al,cl,hv,_,hrl,_⟩:=view_owns encInt1_len ho;subst hv;clear ho
 by_cases hM:T.length=0
 ·obtain rfl:T=[]:=List.eq_nil_of_length_eq_zero hM;have HB:Hid (¬TreeOk []):=hd0 (fun h=>by have:=h.pos;simp at this);clear hM hR hrl;simp only[List.length_nil];go_wp2;go_ret;exact RetB.mk false rfl (by simp[HB.out]) hE
 have h1:1≤T.length:=by omega
 have tM:((T.length:Int) == 0)=false:=by simp;exact fun h=>hM (by rw[h];rfl)
 have hne:¬T=[]:=fun h=>hM (by rw[h];rfl)
 clear hM
 rcases hR with⟨hL,rfl⟩|⟨hL,rfl⟩
 rotate_left
 ·have HB:Hid (¬TreeOk T):=hd0 (fun h=>hL (tree_link h))
  have t2:(0:Int) < (T.length:Int):=by omega
  clear hL hrl;simp only[List.length_nil];go_wp2;go_ret;exact RetB.mk false rfl (by simp[HB.out]) hE
 have h16:T.length≤16:=hL.1;have HL:=hd0 hL;have HRL:=hd0 hrl;have HE:=hd0 hE
 have hni0:¬(T.length:Int) < (T.length:Int):=by omega
 have z0:(0:Int) < (T.length:Int):=by omega
 rw[cntL_len];obtain⟨r,b,off,rn,cn,rk,ck,hr,hpe,c0,_⟩:=atNd (hc.ext hE) (show 0 < T.length by omega);simp only[Nat.zero_mul,Nat.add_zero]at c0;subst hpe;obtain⟨y,b2,off2,hy,hpl,e0⟩:=atInt hrl (show 0 < (cntL T.length (kids T)).length by rw[cntL_len];omega);rw[cntL_get (show 0 < T.length by omega)]at hy;obtain rfl:=Option.some.inj hy;simp only[Nat.add_zero]at e0;subst hpl;clear hy hL hrl hE
 cases hf:r.fold with
 | false =>
  have HB:Hid (¬TreeOk T):=hd0 (fun h=>Bool.noConfusion (hf.symm.trans (h.root r hr)));rw[hf]at c0;clear hf hr;go_wp2;go_ret;exact RetB.mk false rfl (by simp[HB.out]) HE.out
 | true =>
  have HRT:Hid (∀n,T[0]?=some n→n.fold=true):=hd0 (fun n hn=>by rw[hr]at hn;cases hn;exact hf);rw[hf]at c0;clear hf hr;have HZ:=hd0 (show(kids T).count (0:Int)=(kids T).count ((0:Nat):Int)from rfl)
  by_cases hz:0 < (kids T).count ((0:Nat):Int)
  ·have HB:Hid (¬TreeOk T):=hd0 (fun h=>by have:=tree_zero h;rw[HZ.out]at this;omega);generalize (kids T).count ((0:Nat):Int)=c at *
   have t3:(0:Int) < (c:Int):=by omega
   clear hz;go_wp2;go_ret;exact RetB.mk false rfl (by simp[HB.out]) HE.out
  ·have HZ0:Hid ((kids T).count (0:Int)=0):=hd0 (by rw[HZ.out];omega)
   have hz2:((kids T).count ((0:Nat):Int):Int)=0:=by omega
   rw[hz2]at e0;clear hz hz2;go_wp2
   go_loopw [4,5,7,35] (fun _ _ _ i wr=>∃k:Nat,k≤T.length∧i=.int .i64 k∧(∀(j:Nat) n,j < k→T[j]?=some n→NodeI n∧(0 < j→LkOk T j n)∧∀x∈n.K,DownOk T j x)∧Ext w1 wr) (fun _ _ _ i _=>T.length - (intOf i).toNat)
   case atStart=>exact⟨0,Nat.zero_le _,rfl,fun _ _ h=>absurd h (Nat.not_lt_zero _),Ext.refl _⟩
   case round =>
    clear c0 e0;obtain⟨k,hk,rfl,hpre,hb1⟩:=hrel;have Hpre:=hd0 hpre;have hb:=HE.out.trans hb1;clear hpre
    by_cases hlt:k < T.length
    rotate_left
    ·obtain rfl:k=T.length:=by omega
     have HO:=hd0 (tree_of HL.out h1 HRT.out HZ0.out Hpre.out);go_wp2;go_ret;exact RetB.mk true rfl (by simp[HO.out]) hb
    ·obtain⟨x,b',off',an,cn,ak,ck,hx,hpe,c0,c1,c2,c3,c4,c5,c6,hcn,hck,hrn,hrk⟩:=atNd (hc.ext hb) hlt
     obtain⟨rfl,rfl⟩:b=b'∧off=off':=by simpa using hpe
     have Hx:=hd0 hx;have hsx:=hd0 (HS.out x (List.mem_of_getElem? hx))
     have i0:(k:Int) < (T.length:Int):=by omega
     have S:=Sep.start wr;clear hx hcn hck hpe;replace S:=S.alloc_at (n:=wr.heap.size) (by simp) #[.bool x.fold,.int .i64 x.own,.int .i64 x.grp,.int .i64 x.mode,.string x.text,.slice an x.N.length cn,.slice ak x.K.length ck] 89
     go_upto_region 7 with fail
     generalize (wr.alloc (.cells #[.bool x.fold,.int .i64 x.own,.int .i64 x.grp,.int .i64 x.mode,.string x.text,.slice an x.N.length cn,.slice ak x.K.length ck] 89))=wa at *;clear c0 c1 c2 c3 c4 c5 c6;obtain⟨⟨nbc0,nbf0⟩,⟨nbc1,nbf1⟩,⟨nbc2,nbf2⟩,⟨nbc3,nbf3⟩,⟨nbc4,nbf4⟩,⟨nbc5,nbf5⟩,⟨nbc6,nbf6⟩⟩:=bx7 (S.box 0 rfl)
     go_wp2_with fail
     clear nbc0 nbf0 nbc1 nbf1 nbc2 nbf2 nbc3 nbf3 nbc4 nbf4 nbc5 nbf5 nbc6 nbf6;refine(implNode x an ak cn ck wa hsx.out (hrn.ext S.ext)).mono ?_;rintro e w3 ⟨v,rfl,hv,hE⟩;have Hv:=hd0 hv;clear hv;replace S:=S.step hE;clear hE;obtain⟨⟨nbc0,nbf0⟩,⟨nbc1,nbf1⟩,⟨nbc2,nbf2⟩,⟨nbc3,nbf3⟩,⟨nbc4,nbf4⟩,⟨nbc5,nbf5⟩,⟨nbc6,nbf6⟩⟩:=bx7 (S.box 0 rfl)
     cases v with
     | false =>
      have HB:Hid (¬TreeOk T):=hd0 (fun h=>Bool.noConfusion (Hv.out.2 (nodeOk_iff.1 (h.nodes k x Hx.out)).1));go_wp2;go_ret;exact RetB.mk false rfl (by simp[HB.out]) (hb.trans S.ext)
     | true =>
      have HN:=hd0 (Hv.out.1 rfl);have HBL:Hid (0 < k→¬LkOk T k x→¬TreeOk T):=hd0 (fun h0 h ht=>h (ht.links k x Hx.out h0));have hkl:=hsx.out.2.2.2;clear Hv;have Hrk:Hid (∀wz,Ext wr wz→Rd 1 encInt1 wz ak x.K):=hd0 (fun wz h=>hrk.ext h);clear hrk hrn;obtain⟨y,b3,off3,hy,hpl,e0⟩:=atInt (HRL.out.ext (hb1.trans S.ext)) (show k < (cntL T.length (kids T)).length by rw[cntL_len];exact hlt);rw[cntL_get hlt]at hy;obtain rfl:=Option.some.inj hy
      obtain⟨rfl,rfl⟩:b2=b3∧off2=off3:=by simpa using hpl
      have HQ:=hd0 (show LkOk T k x↔1≤(kids T).count (k:Int)∧(x.fold=true→(kids T).count (k:Int)≤1)from Iff.rfl);generalize (kids T).count (k:Int)=c at *;clear hy hpl
      by_cases hk0:k=0
      ·have Hlk:Hid (0 < k→LkOk T k x):=hd0 (fun h0=>absurd h0 (by omega))
       have tk:¬(0:Int) < (k:Int):=by omega
       clear hk0;have HW:=hd0 S.ext;clear e0;go_wp2
       go_loopw [7,72] (fun _ i wz=>∃m:Nat,m≤x.K.length∧i=.int .i64 m∧(∀(j:Nat) y,j < m→x.K[j]?=some y→DownOk T k y)∧Ext w3 wz) (fun _ i _=>x.K.length - (intOf i).toNat)
       case atStart=>exact⟨0,Nat.zero_le _,rfl,fun _ _ h=>absurd h (Nat.not_lt_zero _),Ext.refl _⟩
       case round =>
        clear S tk;obtain⟨m,hm,rfl,hpre2,hb3⟩:=hrel;have Hpre2:=hd0 hpre2;have hbw:=hb.trans (HW.out.trans hb3);clear hpre2
        by_cases hlm:m < x.K.length
        rotate_left
        ·obtain rfl:m=x.K.length:=by omega
         have hni:¬(x.K.length:Int) < (x.K.length:Int):=by omega
         have Hnext:=hd0 (all_next (Q:=fun j n=>NodeI n∧(0 < j→LkOk T j n)∧∀x∈n.K,DownOk T j x) Hpre.out Hx.out ⟨HN.out,Hlk.out,all_mem Hpre2.out⟩);have HF:=hd0 (hb1.trans (HW.out.trans hb3));go_wp2;go_roundw
         case rel=>exact⟨k+1,by omega,by go_num,Hnext.out,HF.out⟩
         case measure=>simp[intOf];omega
        ·obtain⟨y,b4,off4,hy,rfl,e4⟩:=atInt (Hrk.out _ (HW.out.trans hb3)) hlm;have Hy:=hd0 hy
         have j0:(m:Int) < (x.K.length:Int):=by omega
         obtain⟨i,rfl,hiM⟩:=in_cast (HL.out.2 y (kids_mem Hx.out (List.mem_of_getElem? hy)))
         have k0:(i:Int) < (T.length:Int):=by omega
         obtain⟨z,b',off',an',cn',ak',ck',hz,hpe,f0,_⟩:=atNd (hc.ext hbw) hiM
         obtain⟨rfl,rfl⟩:b=b'∧off=off':=by simpa using hpe
         have Hz:=hd0 hz;clear hy hz hpe
         cases hzf:z.fold with
         | false =>
          have Hnext:=hd0 (all_next (Q:=fun _ y=>DownOk T k y) Hpre2.out Hy.out (down_file Hz.out hzf));rw[hzf]at f0;clear hzf;go_wp2;go_roundw
          case rel=>exact⟨m+1,by omega,by go_num,Hnext.out,hb3⟩
          case measure=>simp[intOf];omega
         | true =>
          by_cases hik:i≤k
          ·have HB:Hid (¬TreeOk T):=hd0 (fun h=>down_bad Hz.out hzf hik (h.down k x Hx.out _ (List.mem_of_getElem? Hy.out)))
           have t1:(i:Int)≤(k:Int):=by omega
           rw[hzf]at f0;clear hzf;go_wp2;go_ret;exact RetB.mk false rfl (by simp[HB.out]) hbw
          ·have Hnext:=hd0 (all_next (Q:=fun _ y=>DownOk T k y) Hpre2.out Hy.out (down_good (T:=T) (show k < i by omega)))
           have t1:¬(i:Int)≤(k:Int):=by omega
           rw[hzf]at f0;clear hzf;go_wp2;go_roundw
           case rel=>exact⟨m+1,by omega,by go_num,Hnext.out,hb3⟩
           case measure=>simp[intOf];omega
      ·have tk:(0:Int) < (k:Int):=by omega
       have hk1:0 < k:=by omega
       clear hk0
       by_cases hc0:c=0
       ·have HB:=hd0 (HBL.out hk1 (fun h=>by have:=(HQ.out.1 h).1;omega))
        have hz:(c:Int)=0:=by omega
        rw[hz]at e0;clear hz hc0;go_wp2;go_ret;exact RetB.mk false rfl (by simp[HB.out]) (hb.trans S.ext)
       ·have tc:((c:Int) == 0)=false:=by simp;omega
        cases hxf:x.fold with
        | false =>
         have Hlk:Hid (0 < k→LkOk T k x):=hd0 (fun _=>HQ.out.2 ⟨by omega,fun h=>Bool.noConfusion (hxf.symm.trans h)⟩);rw[hxf]at nbc0;clear hxf;have HW:=hd0 S.ext;go_wp2
         go_loopw [7,72] (fun _ i wz=>∃m:Nat,m≤x.K.length∧i=.int .i64 m∧(∀(j:Nat) y,j < m→x.K[j]?=some y→DownOk T k y)∧Ext w3 wz) (fun _ i _=>x.K.length - (intOf i).toNat)
         case atStart=>exact⟨0,Nat.zero_le _,rfl,fun _ _ h=>absurd h (Nat.not_lt_zero _),Ext.refl _⟩
         case round =>
          clear e0;clear S tk hk1 hc0 tc;obtain⟨m,hm,rfl,hpre2,hb3⟩:=hrel;have Hpre2:=hd0 hpre2;have hbw:=hb.trans (HW.out.trans hb3);clear hpre2
          by_cases hlm:m < x.K.length
          rotate_left
          ·obtain rfl:m=x.K.length:=by omega
           have hni:¬(x.K.length:Int) < (x.K.length:Int):=by omega
           have Hnext:=hd0 (all_next (Q:=fun j n=>NodeI n∧(0 < j→LkOk T j n)∧∀x∈n.K,DownOk T j x) Hpre.out Hx.out ⟨HN.out,Hlk.out,all_mem Hpre2.out⟩);have HF:=hd0 (hb1.trans (HW.out.trans hb3));go_wp2;go_roundw
           case rel=>exact⟨k+1,by omega,by go_num,Hnext.out,HF.out⟩
           case measure=>simp[intOf];omega
          ·obtain⟨y,b4,off4,hy,rfl,e4⟩:=atInt (Hrk.out _ (HW.out.trans hb3)) hlm;have Hy:=hd0 hy
           have j0:(m:Int) < (x.K.length:Int):=by omega
           obtain⟨i,rfl,hiM⟩:=in_cast (HL.out.2 y (kids_mem Hx.out (List.mem_of_getElem? hy)))
           have k0:(i:Int) < (T.length:Int):=by omega
           obtain⟨z,b',off',an',cn',ak',ck',hz,hpe,f0,_⟩:=atNd (hc.ext hbw) hiM
           obtain⟨rfl,rfl⟩:b=b'∧off=off':=by simpa using hpe
           have Hz:=hd0 hz;clear hy hz hpe
           cases hzf:z.fold with
           | false =>
            have Hnext:=hd0 (all_next (Q:=fun _ y=>DownOk T k y) Hpre2.out Hy.out (down_file Hz.out hzf));rw[hzf]at f0;clear hzf;go_wp2;go_roundw
            case rel=>exact⟨m+1,by omega,by go_num,Hnext.out,hb3⟩
            case measure=>simp[intOf];omega
           | true =>
            by_cases hik:i≤k
            ·have HB:Hid (¬TreeOk T):=hd0 (fun h=>down_bad Hz.out hzf hik (h.down k x Hx.out _ (List.mem_of_getElem? Hy.out)))
             have t1:(i:Int)≤(k:Int):=by omega
             rw[hzf]at f0;clear hzf;go_wp2;go_ret;exact RetB.mk false rfl (by simp[HB.out]) hbw
            ·have Hnext:=hd0 (all_next (Q:=fun _ y=>DownOk T k y) Hpre2.out Hy.out (down_good (T:=T) (show k < i by omega)))
             have t1:¬(i:Int)≤(k:Int):=by omega
             rw[hzf]at f0;clear hzf;go_wp2;go_roundw
             case rel=>exact⟨m+1,by omega,by go_num,Hnext.out,hb3⟩
             case measure=>simp[intOf];omega
        | true =>
         by_cases hc1:1 < c
         ·have HB:=hd0 (HBL.out hk1 (fun h=>by have:=(HQ.out.1 h).2 hxf;omega))
          have t2:(1:Int) < (c:Int):=by omega
          rw[hxf]at nbc0;clear hxf hc1;go_wp2;go_ret;exact RetB.mk false rfl (by simp[HB.out]) (hb.trans S.ext)
         ·have Hlk:Hid (0 < k→LkOk T k x):=hd0 (fun _=>HQ.out.2 ⟨by omega,fun _=>by omega⟩)
          have t2:¬(1:Int) < (c:Int):=by omega
          rw[hxf]at nbc0;clear hxf hc1;have HW:=hd0 S.ext;go_wp2
          go_loopw [7,72] (fun _ i wz=>∃m:Nat,m≤x.K.length∧i=.int .i64 m∧(∀(j:Nat) y,j < m→x.K[j]?=some y→DownOk T k y)∧Ext w3 wz) (fun _ i _=>x.K.length - (intOf i).toNat)
          case atStart=>exact⟨0,Nat.zero_le _,rfl,fun _ _ h=>absurd h (Nat.not_lt_zero _),Ext.refl _⟩
          case round =>
           clear e0;clear S tk hk1 hc0 tc t2;obtain⟨m,hm,rfl,hpre2,hb3⟩:=hrel;have Hpre2:=hd0 hpre2;have hbw:=hb.trans (HW.out.trans hb3);clear hpre2
           by_cases hlm:m < x.K.length
           rotate_left
           ·obtain rfl:m=x.K.length:=by omega
            have hni:¬(x.K.length:Int) < (x.K.length:Int):=by omega
            have Hnext:=hd0 (all_next (Q:=fun j n=>NodeI n∧(0 < j→LkOk T j n)∧∀x∈n.K,DownOk T j x) Hpre.out Hx.out ⟨HN.out,Hlk.out,all_mem Hpre2.out⟩);have HF:=hd0 (hb1.trans (HW.out.trans hb3));go_wp2;go_roundw
            case rel=>exact⟨k+1,by omega,by go_num,Hnext.out,HF.out⟩
            case measure=>simp[intOf];omega
           ·obtain⟨y,b4,off4,hy,rfl,e4⟩:=atInt (Hrk.out _ (HW.out.trans hb3)) hlm;have Hy:=hd0 hy
            have j0:(m:Int) < (x.K.length:Int):=by omega
            obtain⟨i,rfl,hiM⟩:=in_cast (HL.out.2 y (kids_mem Hx.out (List.mem_of_getElem? hy)))
            have k0:(i:Int) < (T.length:Int):=by omega
            obtain⟨z,b',off',an',cn',ak',ck',hz,hpe,f0,_⟩:=atNd (hc.ext hbw) hiM
            obtain⟨rfl,rfl⟩:b=b'∧off=off':=by simpa using hpe
            have Hz:=hd0 hz;clear hy hz hpe
            cases hzf:z.fold with
            | false =>
             have Hnext:=hd0 (all_next (Q:=fun _ y=>DownOk T k y) Hpre2.out Hy.out (down_file Hz.out hzf));rw[hzf]at f0;clear hzf;go_wp2;go_roundw
             case rel=>exact⟨m+1,by omega,by go_num,Hnext.out,hb3⟩
             case measure=>simp[intOf];omega
            | true =>
             by_cases hik:i≤k
             ·have HB:Hid (¬TreeOk T):=hd0 (fun h=>down_bad Hz.out hzf hik (h.down k x Hx.out _ (List.mem_of_getElem? Hy.out)))
              have t1:(i:Int)≤(k:Int):=by omega
              rw[hzf]at f0;clear hzf;go_wp2;go_ret;exact RetB.mk false rfl (by simp[HB.out]) hbw
             ·have Hnext:=hd0 (all_next (Q:=fun _ y=>DownOk T k y) Hpre2.out Hy.out (down_good (T:=T) (show k < i by omega)))
              have t1:¬(i:Int)≤(k:Int):=by omega
              rw[hzf]at f0;clear hzf;go_wp2;go_roundw
              case rel=>exact⟨m+1,by omega,by go_num,Hnext.out,hb3⟩
              case measure=>simp[intOf];omega
def KerOk (T:List Nd) (r a s g:Int):Prop:=TreeOk T∧CredOk r a s g
theorem specKernelValid (at_:Option Addr) (cap:Nat) (T:List Nd) (r a s g:Int) (w:World) (hl:T.length≤1048576) (hs:∀x∈T,SmN 1048576 x) (hc:RdN w at_ T) :
  Calls Tryz.prog 28 #[.agg #[.slice at_ T.length cap,.int .i64 r,.int .i64 a,.int .i64 s,.int .i64 g]] w (RetB (KerOk T r a s g) w):=by
 have HS:=hd0 hs;clear hs
 go_enter Tryz.func28,Tryz.ntmps28
 have S:=Sep.start w;replace S:=S.alloc_at (n:=w.heap.size) (by simp) #[.slice at_ T.length cap,.int .i64 r,.int .i64 a,.int .i64 s,.int .i64 g] 31
 go_wp2_with fail
 generalize (w.alloc (.cells #[.slice at_ T.length cap,.int .i64 r,.int .i64 a,.int .i64 s,.int .i64 g] 31))=w1 at *;refine(specTreeValid at_ cap T w1 hl HS.out (hc.ext S.ext)).mono ?_;rintro e w2 ⟨v1,rfl,hv1,hE⟩;have Hv1:=hd0 hv1;clear hv1;replace S:=S.step hE;clear hE
 cases v1 with
 | false =>
  go_wp2;go_ret;exact RetB.mk false rfl (by simp only[Bool.false_eq_true,false_iff];exact fun h=>Bool.noConfusion (Hv1.out.2 h.1)) S.ext
 | true =>
  obtain⟨⟨bc0,bf0⟩,⟨bc1,bf1⟩,⟨bc2,bf2⟩,⟨bc3,bf3⟩,⟨bc4,bf4⟩⟩:=bx5 (S.box 0 rfl)
  go_wp2_with fail
  refine(specCredValid r a s g w2).mono ?_;rintro e w3 ⟨v2,rfl,hv2,hE⟩;have Hv2:=hd0 hv2;clear hv2;clear bc0 bf0 bc1 bf1 bc2 bf2 bc3 bf3 bc4 bf4;replace S:=S.step hE;clear hE;go_wp2;go_ret;exact RetB.mk v2 rfl ⟨fun h=>⟨Hv1.out.1 trivial,Hv2.out.1 h⟩,fun h=>Hv2.out.2 h.2⟩ S.ext
theorem implKernelValid (at_:Option Addr) (cap:Nat) (T:List Nd) (r a s g:Int) (w:World) (hl:T.length≤1048576) (hs:∀x∈T,SmN 1048576 x) (hc:RdN w at_ T) :
  Calls Tryz.prog 19 #[.agg #[.slice at_ T.length cap,.int .i64 r,.int .i64 a,.int .i64 s,.int .i64 g]] w (RetB (KerOk T r a s g) w):=by
 have HS:=hd0 hs;clear hs
 go_enter Tryz.func19,Tryz.ntmps19
 have S:=Sep.start w;replace S:=S.alloc_at (n:=w.heap.size) (by simp) #[.slice at_ T.length cap,.int .i64 r,.int .i64 a,.int .i64 s,.int .i64 g] 31
 go_wp2_with fail
 generalize (w.alloc (.cells #[.slice at_ T.length cap,.int .i64 r,.int .i64 a,.int .i64 s,.int .i64 g] 31))=w1 at *;refine(implTreeValid at_ cap T w1 hl HS.out (hc.ext S.ext)).mono ?_;rintro e w2 ⟨v1,rfl,hv1,hE⟩;have Hv1:=hd0 hv1;clear hv1;replace S:=S.step hE;clear hE
 cases v1 with
 | false =>
  go_wp2;go_ret;exact RetB.mk false rfl (by simp only[Bool.false_eq_true,false_iff];exact fun h=>Bool.noConfusion (Hv1.out.2 h.1)) S.ext
 | true =>
  obtain⟨⟨bc0,bf0⟩,⟨bc1,bf1⟩,⟨bc2,bf2⟩,⟨bc3,bf3⟩,⟨bc4,bf4⟩⟩:=bx5 (S.box 0 rfl)
  go_wp2_with fail
  refine(implCredValid r a s g w2).mono ?_;rintro e w3 ⟨v2,rfl,hv2,hE⟩;have Hv2:=hd0 hv2;clear hv2;clear bc0 bf0 bc1 bf1 bc2 bf2 bc3 bf3 bc4 bf4;replace S:=S.step hE;clear hE;go_wp2;go_ret;exact RetB.mk v2 rfl ⟨fun h=>⟨Hv1.out.1 trivial,Hv2.out.1 h⟩,fun h=>Hv2.out.2 h.2⟩ S.ext
end Go.Proofs.YtnibbldfohbfkaaGreatDoor
