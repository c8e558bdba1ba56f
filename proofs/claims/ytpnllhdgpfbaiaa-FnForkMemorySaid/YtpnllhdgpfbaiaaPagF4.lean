/- FnForkMemory: the walk. Condition: the code is shorter than 2^63. -/
import Derived.Test.YtpnllhdgpfbaiaaDrawPg2
import Derived.Test.YtpnllhdgpfbaiaaPagP
import Derived.Test.YtpnllhdgpfbaiaaPagSm
import Derived.Test.YtpnllhdgpfbaiaaAlive
namespace Go.Proofs.Ytpnllhdgpfbaiaa
open Go.RowKit

/-- A number that is known, out of a call in a region that draws its order. -/
theorem Calls.at_read {f : FuncId} {args : Array Value} {w : World} {s : ExtW w} {R : Int → Prop} {m : Int} (hR : ∀ n, R n → n = m) (h : Calls Try.prog f args s.x fun e w' => ∃ n, e = .returned (.int .i64 n) ∧ R n ∧ Sep s.x w' []) : Calls Try.prog f args s.x fun e w'' => e = .returned (.int .i64 m) ∧ ∃ s' : ExtW w, w'' = s'.x :=
  h.mono fun e w2 ⟨n, he, hn, U⟩ => by
    obtain rfl := hR n hn
    exact ⟨he, ⟨w2, s.h.trans U.ext⟩, rfl⟩

set_option maxRecDepth 10000 in
set_option maxHeartbeats 8000000 in
theorem fnForkMemory_any (ac : Option Addr) (capc : Nat) (code : List Int) (w : World) (hlc : code.length ≤ 9223372036854775807) (hcap : code.length ≤ capc) (hu : ∀ x ∈ code, 0 ≤ x ∧ x ≤ 255) (hcc : Rd 1 encU8 w ac code) :
    Calls Try.prog 10 #[.slice ac code.length capc] w (RetB True w) := by
  go_enter Try.func10, Try.ntmps10
  by_cases hbig : 1048576 < code.length
  · have hb : (1048576 : Int) < (code.length : Int) := by omega
    go_wp2
    go_ret
    exact RetB.mk true rfl (by simp) (Ext.refl _)
  have hb : (code.length : Int) ≤ 1048576 := by omega
  have S := Sep.start w
  go_wp2_with fail
  refine (drawForkMemory ac capc code w hlc hcap hu hcc).mono ?_
  rintro e w1 ⟨v, who, rfl, af, cf, F, at0, ct, vT, T, rfl, hF14, hT6, hT4, hcf, hct, U⟩
  have HT4 : Hid (∀ t ∈ T, t.length ≤ 9223372036854775807) := Lib.hid (fun t ht => by have := hT4 t ht; omega)
  have HT44 := Lib.hid hT4
  clear hT4 hb hbig
  replace S : Sep w w1 [plTab (.slice at0 T.length ct) vT T, plRow 3 1 encInt1 (.slice af F.length cf) F] := S.call U
  clear U
  replace S : Sep w (w1.alloc (.cells #[.slice af F.length cf, .slice at0 T.length ct] 28)) [plBox w1.heap.size #[.slice af F.length cf, .slice at0 T.length ct] 28, plTab (.slice at0 T.length ct) vT T, plRow 3 1 encInt1 (.slice af F.length cf) F] := S.alloc_at (by simp) _ _
  obtain ⟨mbc0, mbf0⟩ : (w1.alloc (.cells #[.slice af F.length cf, .slice at0 T.length ct] 28)).cell? ⟨w1.heap.size, 0, none⟩ = some (.slice af F.length cf) ∧ (w1.alloc (.cells #[.slice af F.length cf, .slice at0 T.length ct] 28)).frozen? ⟨w1.heap.size, 0, none⟩ = false := bx (S.box 0 rfl) 0 rfl
  obtain ⟨mbc1, mbf1⟩ : (w1.alloc (.cells #[.slice af F.length cf, .slice at0 T.length ct] 28)).cell? ⟨w1.heap.size, 1, none⟩ = some (.slice at0 T.length ct) ∧ (w1.alloc (.cells #[.slice af F.length cf, .slice at0 T.length ct] 28)).frozen? ⟨w1.heap.size, 1, none⟩ = false := bx (S.box 0 rfl) 1 rfl
  go_wp2_with fail
  clear mbc0 mbf0 mbc1 mbf1
  generalize (w1.alloc (.cells #[.slice af F.length cf, .slice at0 T.length ct] 28)) = w2 at *
  refine (implForkMemory af cf F at0 ct T who _ (by omega) (by omega) (S.rd 2 encInt1_len rfl rfl) (S.rdt 1 rfl)).mono ?_
  rintro e w3 ⟨a1, c1, F2, a2, c2, vs2, T2, ok, rfl, hR, U⟩
  have HR := Lib.hid hR
  have hsm := forkR_small hR
  have hF13 : F2.length ≤ 13 := hsm.1
  have hT5 : T2.length ≤ 5 := hsm.2.1
  have HT2 : Hid (∀ t ∈ T2, t.length ≤ 9223372036854775807) := Lib.hid (fun t ht => by have := hsm.2.2 t ht; omega)
  clear hR hsm
  replace S : Sep w w3 [plTab (.slice a2 T2.length c2) vs2 T2, plRow 3 1 encInt1 (.slice a1 F2.length c1) F2, plBox w1.heap.size #[.slice af F.length cf, .slice at0 T.length ct] 28, plTab (.slice at0 T.length ct) vT T, plRow 3 1 encInt1 (.slice af F.length cf) F] := S.call U
  clear U
  replace S : Sep w (w3.alloc (.cells #[.slice a1 F2.length c1, .slice a2 T2.length c2] 28)) [plBox w3.heap.size #[.slice a1 F2.length c1, .slice a2 T2.length c2] 28, plTab (.slice a2 T2.length c2) vs2 T2, plRow 3 1 encInt1 (.slice a1 F2.length c1) F2, plBox w1.heap.size #[.slice af F.length cf, .slice at0 T.length ct] 28, plTab (.slice at0 T.length ct) vT T, plRow 3 1 encInt1 (.slice af F.length cf) F] := S.alloc_at (by simp) _ _
  obtain ⟨mbc0, mbf0⟩ : (w3.alloc (.cells #[.slice a1 F2.length c1, .slice a2 T2.length c2] 28)).cell? ⟨w1.heap.size, 0, none⟩ = some (.slice af F.length cf) ∧ (w3.alloc (.cells #[.slice a1 F2.length c1, .slice a2 T2.length c2] 28)).frozen? ⟨w1.heap.size, 0, none⟩ = false := bx (S.box 3 rfl) 0 rfl
  obtain ⟨mbc1, mbf1⟩ : (w3.alloc (.cells #[.slice a1 F2.length c1, .slice a2 T2.length c2] 28)).cell? ⟨w1.heap.size, 1, none⟩ = some (.slice at0 T.length ct) ∧ (w3.alloc (.cells #[.slice a1 F2.length c1, .slice a2 T2.length c2] 28)).frozen? ⟨w1.heap.size, 1, none⟩ = false := bx (S.box 3 rfl) 1 rfl
  go_wp2_with fail
  clear mbc0 mbf0 mbc1 mbf1
  generalize (w3.alloc (.cells #[.slice a1 F2.length c1, .slice a2 T2.length c2] 28)) = w4 at *
  refine (specForkMemory af cf F at0 ct T who _ (by omega) (by omega) (S.rd 5 encInt1_len rfl rfl) (S.rdt 4 rfl)).mono ?_
  rintro e w5 ⟨b1, d1, F3, b2, d2, vs3, T3, ok3, rfl, hR, U⟩
  obtain ⟨rfl, rfl, rfl⟩ : F2 = F3 ∧ T2 = T3 ∧ ok = ok3 := forkR_fun HR.out hR
  clear hR
  replace S : Sep w w5 [plTab (.slice b2 T2.length d2) vs3 T2, plRow 3 1 encInt1 (.slice b1 F2.length d1) F2, plBox w3.heap.size #[.slice a1 F2.length c1, .slice a2 T2.length c2] 28, plTab (.slice a2 T2.length c2) vs2 T2, plRow 3 1 encInt1 (.slice a1 F2.length c1) F2, plBox w1.heap.size #[.slice af F.length cf, .slice at0 T.length ct] 28, plTab (.slice at0 T.length ct) vT T, plRow 3 1 encInt1 (.slice af F.length cf) F] := S.call U
  clear U
  replace S : Sep w (w5.alloc (.cells #[.slice b1 F2.length d1, .slice b2 T2.length d2] 28)) [plBox w5.heap.size #[.slice b1 F2.length d1, .slice b2 T2.length d2] 28, plTab (.slice b2 T2.length d2) vs3 T2, plRow 3 1 encInt1 (.slice b1 F2.length d1) F2, plBox w3.heap.size #[.slice a1 F2.length c1, .slice a2 T2.length c2] 28, plTab (.slice a2 T2.length c2) vs2 T2, plRow 3 1 encInt1 (.slice a1 F2.length c1) F2, plBox w1.heap.size #[.slice af F.length cf, .slice at0 T.length ct] 28, plTab (.slice at0 T.length ct) vT T, plRow 3 1 encInt1 (.slice af F.length cf) F] := S.alloc_at (by simp) _ _
  have tok : (ok != ok) = false := by simp
  obtain ⟨xbc0, xbf0⟩ : (w5.alloc (.cells #[.slice b1 F2.length d1, .slice b2 T2.length d2] 28)).cell? ⟨w3.heap.size, 0, none⟩ = some (.slice a1 F2.length c1) ∧ (w5.alloc (.cells #[.slice b1 F2.length d1, .slice b2 T2.length d2] 28)).frozen? ⟨w3.heap.size, 0, none⟩ = false := bx (S.box 3 rfl) 0 rfl
  obtain ⟨xbc1, xbf1⟩ : (w5.alloc (.cells #[.slice b1 F2.length d1, .slice b2 T2.length d2] 28)).cell? ⟨w3.heap.size, 1, none⟩ = some (.slice a2 T2.length c2) ∧ (w5.alloc (.cells #[.slice b1 F2.length d1, .slice b2 T2.length d2] 28)).frozen? ⟨w3.heap.size, 1, none⟩ = false := bx (S.box 3 rfl) 1 rfl
  go_wp2_with fail
  clear xbc0 xbf0 xbc1 xbf1
  generalize (w5.alloc (.cells #[.slice b1 F2.length d1, .slice b2 T2.length d2] 28)) = w6 at *
  refine (sameMem_any _ _ _ _ _ _ _ _ F2 F2 T2 T2 _ (by omega) (by omega) (by omega) (by omega) HT2.out HT2.out (S.rd 5 encInt1_len rfl rfl) (S.rdt 4 rfl) (S.rd 2 encInt1_len rfl rfl) (S.rdt 1 rfl)).mono ?_
  rintro e w7 ⟨q7, rfl, hq, hE⟩
  obtain rfl : q7 = true := hq.2 ⟨rfl, rfl⟩
  clear hq
  replace S : Sep w w7 [plBox w5.heap.size #[.slice b1 F2.length d1, .slice b2 T2.length d2] 28, plTab (.slice b2 T2.length d2) vs3 T2, plRow 3 1 encInt1 (.slice b1 F2.length d1) F2, plBox w3.heap.size #[.slice a1 F2.length c1, .slice a2 T2.length c2] 28, plTab (.slice a2 T2.length c2) vs2 T2, plRow 3 1 encInt1 (.slice a1 F2.length c1) F2, plBox w1.heap.size #[.slice af F.length cf, .slice at0 T.length ct] 28, plTab (.slice at0 T.length ct) vT T, plRow 3 1 encInt1 (.slice af F.length cf) F] := S.step hE
  clear hE
  replace S : Sep w w7 [plTab (.slice b2 T2.length d2) vs3 T2, plRow 3 1 encInt1 (.slice b1 F2.length d1) F2, plBox w3.heap.size #[.slice a1 F2.length c1, .slice a2 T2.length c2] 28, plTab (.slice a2 T2.length c2) vs2 T2, plRow 3 1 encInt1 (.slice a1 F2.length c1) F2, plBox w1.heap.size #[.slice af F.length cf, .slice at0 T.length ct] 28, plTab (.slice at0 T.length ct) vT T, plRow 3 1 encInt1 (.slice af F.length cf) F] := S.drop 0
  replace S : Sep w w7 [plRow 3 1 encInt1 (.slice b1 F2.length d1) F2, plBox w3.heap.size #[.slice a1 F2.length c1, .slice a2 T2.length c2] 28, plTab (.slice a2 T2.length c2) vs2 T2, plRow 3 1 encInt1 (.slice a1 F2.length c1) F2, plBox w1.heap.size #[.slice af F.length cf, .slice at0 T.length ct] 28, plTab (.slice at0 T.length ct) vT T, plRow 3 1 encInt1 (.slice af F.length cf) F] := S.drop 0
  replace S : Sep w w7 [plBox w3.heap.size #[.slice a1 F2.length c1, .slice a2 T2.length c2] 28, plTab (.slice a2 T2.length c2) vs2 T2, plRow 3 1 encInt1 (.slice a1 F2.length c1) F2, plBox w1.heap.size #[.slice af F.length cf, .slice at0 T.length ct] 28, plTab (.slice at0 T.length ct) vT T, plRow 3 1 encInt1 (.slice af F.length cf) F] := S.drop 0
  cases ok with
  | false =>
    have Hno := Lib.hid (fork_none HR.out)
    clear HR tok
    obtain ⟨xbc0, xbf0⟩ : w7.cell? ⟨w3.heap.size, 0, none⟩ = some (.slice a1 F2.length c1) ∧ w7.frozen? ⟨w3.heap.size, 0, none⟩ = false := bx (S.box 0 rfl) 0 rfl
    obtain ⟨xbc1, xbf1⟩ : w7.cell? ⟨w3.heap.size, 1, none⟩ = some (.slice a2 T2.length c2) ∧ w7.frozen? ⟨w3.heap.size, 1, none⟩ = false := bx (S.box 0 rfl) 1 rfl
    obtain ⟨mbc0, mbf0⟩ : w7.cell? ⟨w1.heap.size, 0, none⟩ = some (.slice af F.length cf) ∧ w7.frozen? ⟨w1.heap.size, 0, none⟩ = false := bx (S.box 3 rfl) 0 rfl
    obtain ⟨mbc1, mbf1⟩ : w7.cell? ⟨w1.heap.size, 1, none⟩ = some (.slice at0 T.length ct) ∧ w7.frozen? ⟨w1.heap.size, 1, none⟩ = false := bx (S.box 3 rfl) 1 rfl
    go_wp2_with fail
    clear xbc0 xbf0 xbc1 xbf1 mbc0 mbf0 mbc1 mbf1
    refine (sameMem_any _ _ _ _ _ _ _ _ F2 F T2 T _ (by omega) (by omega) (by omega) (by omega) HT2.out HT4.out (S.rd 2 encInt1_len rfl rfl) (S.rdt 1 rfl) (S.rd 5 encInt1_len rfl rfl) (S.rdt 4 rfl)).mono ?_
    rintro e w8 ⟨q8, rfl, hq, hE⟩
    have Hq := Lib.hid hq
    clear hq
    replace S : Sep w w8 [plBox w3.heap.size #[.slice a1 F2.length c1, .slice a2 T2.length c2] 28, plTab (.slice a2 T2.length c2) vs2 T2, plRow 3 1 encInt1 (.slice a1 F2.length c1) F2, plBox w1.heap.size #[.slice af F.length cf, .slice at0 T.length ct] 28, plTab (.slice at0 T.length ct) vT T, plRow 3 1 encInt1 (.slice af F.length cf) F] := S.step hE
    clear hE
    cases q8 with
    | true =>
      go_wp2_with fail
      refine (alive_any _).mono ?_
      rintro e w9 ⟨b3, rfl, hb3, hE⟩
      obtain rfl : b3 = true := hb3.2 trivial
      clear hb3
      replace S : Sep w w9 [plBox w3.heap.size #[.slice a1 F2.length c1, .slice a2 T2.length c2] 28, plTab (.slice a2 T2.length c2) vs2 T2, plRow 3 1 encInt1 (.slice a1 F2.length c1) F2, plBox w1.heap.size #[.slice af F.length cf, .slice at0 T.length ct] 28, plTab (.slice at0 T.length ct) vT T, plRow 3 1 encInt1 (.slice af F.length cf) F] := S.step hE
      clear hE
      go_wp2
      go_ret
      exact RetB.mk true rfl (by simp) S.ext
    | false =>
      obtain ⟨rfl, rfl⟩ : F2 = [] ∧ T2 = [] := Hno.out.resolve_left (fun h => Bool.noConfusion (Hq.out.2 h))
      obtain ⟨xbc0, xbf0⟩ : w8.cell? ⟨w3.heap.size, 0, none⟩ = some (.slice a1 ([] : List Int).length c1) ∧ w8.frozen? ⟨w3.heap.size, 0, none⟩ = false := bx (S.box 0 rfl) 0 rfl
      obtain ⟨xbc1, xbf1⟩ : w8.cell? ⟨w3.heap.size, 1, none⟩ = some (.slice a2 ([] : List (List Int)).length c2) ∧ w8.frozen? ⟨w3.heap.size, 1, none⟩ = false := bx (S.box 0 rfl) 1 rfl
      go_wp2_with fail
      clear xbc0 xbf0 xbc1 xbf1
      refine (sameMem_any _ _ none none _ _ 0 0 [] [] [] [] _ (by simp) (by simp) (by simp) (by simp) (fun t ht => by simp at ht) (fun t ht => by simp at ht) Rd.nil RdT.nil Rd.nil RdT.nil).mono ?_
      rintro e w9 ⟨q9, rfl, hq, hE⟩
      obtain rfl : q9 = true := hq.2 ⟨rfl, rfl⟩
      clear hq
      replace S : Sep w w9 [plBox w3.heap.size #[.slice a1 ([] : List Int).length c1, .slice a2 ([] : List (List Int)).length c2] 28, plTab (.slice a2 ([] : List (List Int)).length c2) vs2 ([] : List (List Int)), plRow 3 1 encInt1 (.slice a1 ([] : List Int).length c1) ([] : List Int), plBox w1.heap.size #[.slice af F.length cf, .slice at0 T.length ct] 28, plTab (.slice at0 T.length ct) vT T, plRow 3 1 encInt1 (.slice af F.length cf) F] := S.step hE
      clear hE
      go_wp2_with fail
      refine (alive_any _).mono ?_
      rintro e w10 ⟨b3, rfl, hb3, hE⟩
      obtain rfl : b3 = true := hb3.2 trivial
      clear hb3
      replace S : Sep w w10 [plBox w3.heap.size #[.slice a1 ([] : List Int).length c1, .slice a2 ([] : List (List Int)).length c2] 28, plTab (.slice a2 ([] : List (List Int)).length c2) vs2 ([] : List (List Int)), plRow 3 1 encInt1 (.slice a1 ([] : List Int).length c1) ([] : List Int), plBox w1.heap.size #[.slice af F.length cf, .slice at0 T.length ct] 28, plTab (.slice at0 T.length ct) vT T, plRow 3 1 encInt1 (.slice af F.length cf) F] := S.step hE
      clear hE
      go_wp2
      go_ret
      exact RetB.mk true rfl (by simp) S.ext
  | true =>
    have HL := Lib.hid (fork_law HR.out)
    clear HR tok
    have hw : IntKind.i64.wrap ((T2.length : Int) - 1) = (T2.length : Int) - 1 := IntWalk.i64_in _ (by omega)
    have HV2 := Lib.hid HL.out.2.2.2.1
    have HCh : Hid (∀ page n m : Int, ReadR F2 T2 ((T2.length : Int) - 1) page n → ReadR F2 T2 who page m → n = m) := Lib.hid HL.out.2.2.2.2
    obtain ⟨xbc0, xbf0⟩ : w7.cell? ⟨w3.heap.size, 0, none⟩ = some (.slice a1 F2.length c1) ∧ w7.frozen? ⟨w3.heap.size, 0, none⟩ = false := bx (S.box 0 rfl) 0 rfl
    obtain ⟨xbc1, xbf1⟩ : w7.cell? ⟨w3.heap.size, 1, none⟩ = some (.slice a2 T2.length c2) ∧ w7.frozen? ⟨w3.heap.size, 1, none⟩ = false := bx (S.box 0 rfl) 1 rfl
    go_wp2
    clear xbc0 xbf0 xbc1 xbf1
    generalize (T2.length : Int) - 1 = ch at *
    go_loopw [10] (fun i wr => ∃ k : Nat, k ≤ 4 ∧ i = .int .i64 k ∧ Ext w7 wr) (fun i _ => 4 - (intOf i).toNat)
    case atStart => exact ⟨0, Nat.zero_le _, rfl, Ext.refl _⟩
    case round =>
      obtain ⟨k, hk, rfl, hb⟩ := hrel
      have hb0 := hb
      replace S : Sep w wr [plBox w3.heap.size #[.slice a1 F2.length c1, .slice a2 T2.length c2] 28, plTab (.slice a2 T2.length c2) vs2 T2, plRow 3 1 encInt1 (.slice a1 F2.length c1) F2, plBox w1.heap.size #[.slice af F.length cf, .slice at0 T.length ct] 28, plTab (.slice at0 T.length ct) vT T, plRow 3 1 encInt1 (.slice af F.length cf) F] := S.step hb
      clear hb
      by_cases hk4 : k < 4
      · have ik : (k : Int) < 4 := by omega
        obtain ⟨rn, hrn⟩ : ∃ rn, rn = readP F2 T2 who k := ⟨_, rfl⟩
        have Hr1 : Hid (∀ n, ReadR F2 T2 who k n → n = rn) := Lib.hid (fun n h => (h.1 HV2.out).trans hrn.symm)
        have Hr2 : Hid (∀ n, ReadR F2 T2 ch k n → n = rn) := Lib.hid (fun n h => (HCh.out k n _ h ⟨fun _ => hrn, fun h => absurd HV2.out h⟩))
        clear hrn
        have hfx := S.rd 2 encInt1_len rfl rfl
        have htx := S.rdt 1 rfl
        obtain ⟨xbc0, xbf0⟩ : wr.cell? ⟨w3.heap.size, 0, none⟩ = some (.slice a1 F2.length c1) ∧ wr.frozen? ⟨w3.heap.size, 0, none⟩ = false := bx (S.box 0 rfl) 0 rfl
        obtain ⟨xbc1, xbf1⟩ : wr.cell? ⟨w3.heap.size, 1, none⟩ = some (.slice a2 T2.length c2) ∧ wr.frozen? ⟨w3.heap.size, 1, none⟩ = false := bx (S.box 0 rfl) 1 rfl
        have q0 := ExtW.cell xbc0
        have q1 := ExtW.cell xbc1
        have bl := ExtW.lt xbc0
        have tnn : (rn != rn) = false := by simp
        go_wp2
        have HC : ∀ (s : ExtW wr) (z : Int), (∀ n, ReadR F2 T2 z k n → n = rn) → Calls Try.prog 19 #[.agg #[.slice a1 F2.length c1, .slice a2 T2.length c2], .int .i64 z, .int .i64 k] s.x (fun e w'' => e = .returned (.int .i64 rn) ∧ ∃ s' : ExtW wr, w'' = s'.x) := fun s z h => Calls.at_read h (implReadPage a1 c1 F2 a2 c2 T2 z k _ (by omega) (by omega) (hfx.ext s.h) (htx.ext s.h))
        (refine wp_region_quiet_ext (by kernel_rfl) (by kernel_rfl) ?_; (repeat (go_big_quiet_step ((go_at_call 19; refine HC _ _ ?_; first | exact Hr2.out | exact Hr1.out)))); refine wpQuiet_nil ?_; intro _ hw'; obtain ⟨sq, hw''⟩ := hw'; subst hw'')
        obtain ⟨wq, hq⟩ := sq
        clear q0 q1 hfx htx HC
        go_wp2
        go_roundw
        case rel => exact ⟨k + 1, by omega, by go_num, hb0.trans hq⟩
        case measure => simp [intOf]; omega
      · obtain rfl : k = 4 := by omega
        obtain ⟨xbc0, xbf0⟩ : wr.cell? ⟨w3.heap.size, 0, none⟩ = some (.slice a1 F2.length c1) ∧ wr.frozen? ⟨w3.heap.size, 0, none⟩ = false := bx (S.box 0 rfl) 0 rfl
        obtain ⟨xbc1, xbf1⟩ : wr.cell? ⟨w3.heap.size, 1, none⟩ = some (.slice a2 T2.length c2) ∧ wr.frozen? ⟨w3.heap.size, 1, none⟩ = false := bx (S.box 0 rfl) 1 rfl
        go_wp2_with fail
        clear xbc0 xbf0 xbc1 xbf1
        refine (implMemoryValid a1 c1 F2 a2 c2 T2 _ (by omega) (by omega) (S.rd 2 encInt1_len rfl rfl) (S.rdt 1 rfl)).mono ?_
        rintro e w8 ⟨v8, rfl, hv8, hE⟩
        obtain rfl : v8 = true := hv8.2 HV2.out
        clear hv8
        replace S : Sep w w8 [plBox w3.heap.size #[.slice a1 F2.length c1, .slice a2 T2.length c2] 28, plTab (.slice a2 T2.length c2) vs2 T2, plRow 3 1 encInt1 (.slice a1 F2.length c1) F2, plBox w1.heap.size #[.slice af F.length cf, .slice at0 T.length ct] 28, plTab (.slice at0 T.length ct) vT T, plRow 3 1 encInt1 (.slice af F.length cf) F] := S.step hE
        clear hE
        have hF2 := HL.out.1
        have HLen := Lib.hid HL.out.2.1
        subst hF2
        obtain ⟨xbc0, xbf0⟩ : w8.cell? ⟨w3.heap.size, 0, none⟩ = some (.slice a1 F2.length c1) ∧ w8.frozen? ⟨w3.heap.size, 0, none⟩ = false := bx (S.box 0 rfl) 0 rfl
        obtain ⟨xbc1, xbf1⟩ : w8.cell? ⟨w3.heap.size, 1, none⟩ = some (.slice a2 T2.length c2) ∧ w8.frozen? ⟨w3.heap.size, 1, none⟩ = false := bx (S.box 0 rfl) 1 rfl
        obtain ⟨mbc0, mbf0⟩ : w8.cell? ⟨w1.heap.size, 0, none⟩ = some (.slice af F2.length cf) ∧ w8.frozen? ⟨w1.heap.size, 0, none⟩ = false := bx (S.box 3 rfl) 0 rfl
        obtain ⟨mbc1, mbf1⟩ : w8.cell? ⟨w1.heap.size, 1, none⟩ = some (.slice at0 T.length ct) ∧ w8.frozen? ⟨w1.heap.size, 1, none⟩ = false := bx (S.box 3 rfl) 1 rfl
        go_wp2_with fail
        clear xbc0 xbf0 xbc1 xbf1 mbc0 mbf0 mbc1 mbf1
        refine (sameInts_any _ _ _ _ F2 F2 _ (by omega) (by omega) (S.rd 2 encInt1_len rfl rfl) (S.rd 5 encInt1_len rfl rfl)).mono ?_
        rintro e w9 ⟨q9, rfl, hq, hE⟩
        obtain rfl : q9 = true := hq.2 rfl
        clear hq
        replace S : Sep w w9 [plBox w3.heap.size #[.slice a1 F2.length c1, .slice a2 T2.length c2] 28, plTab (.slice a2 T2.length c2) vs2 T2, plRow 3 1 encInt1 (.slice a1 F2.length c1) F2, plBox w1.heap.size #[.slice af F2.length cf, .slice at0 T.length ct] 28, plTab (.slice at0 T.length ct) vT T, plRow 3 1 encInt1 (.slice af F2.length cf) F2] := S.step hE
        clear hE
        have te : ((T2.length : Int) == (T.length : Int) + 1) = true := by have := HLen.out; simp; omega
        have hw2 : IntKind.i64.wrap ((T.length : Int) + 1) = (T.length : Int) + 1 := IntWalk.i64_in _ (by omega)
        obtain ⟨xbc0, xbf0⟩ : w9.cell? ⟨w3.heap.size, 0, none⟩ = some (.slice a1 F2.length c1) ∧ w9.frozen? ⟨w3.heap.size, 0, none⟩ = false := bx (S.box 0 rfl) 0 rfl
        obtain ⟨xbc1, xbf1⟩ : w9.cell? ⟨w3.heap.size, 1, none⟩ = some (.slice a2 T2.length c2) ∧ w9.frozen? ⟨w3.heap.size, 1, none⟩ = false := bx (S.box 0 rfl) 1 rfl
        obtain ⟨mbc0, mbf0⟩ : w9.cell? ⟨w1.heap.size, 0, none⟩ = some (.slice af F2.length cf) ∧ w9.frozen? ⟨w1.heap.size, 0, none⟩ = false := bx (S.box 3 rfl) 0 rfl
        obtain ⟨mbc1, mbf1⟩ : w9.cell? ⟨w1.heap.size, 1, none⟩ = some (.slice at0 T.length ct) ∧ w9.frozen? ⟨w1.heap.size, 1, none⟩ = false := bx (S.box 3 rfl) 1 rfl
        go_wp2
        go_ret
        exact RetB.mk true rfl (by simp) S.ext
end Go.Proofs.Ytpnllhdgpfbaiaa
