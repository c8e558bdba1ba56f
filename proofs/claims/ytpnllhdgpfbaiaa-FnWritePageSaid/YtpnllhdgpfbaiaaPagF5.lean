/- FnWritePage: the walk. Condition: the code is shorter than 2^63. -/
import Derived.Test.YtpnllhdgpfbaiaaDrawPg2
import Derived.Test.YtpnllhdgpfbaiaaPagP
import Derived.Test.YtpnllhdgpfbaiaaPagSm
import Derived.Test.YtpnllhdgpfbaiaaAlive
namespace Go.Proofs.Ytpnllhdgpfbaiaa
open Go.RowKit

set_option maxRecDepth 10000 in
set_option maxHeartbeats 8000000 in
theorem fnWritePage_any (ac : Option Addr) (capc : Nat) (code : List Int) (w : World) (hlc : code.length ≤ 9223372036854775807) (hcap : code.length ≤ capc) (hu : ∀ x ∈ code, 0 ≤ x ∧ x ≤ 255) (hcc : Rd 1 encU8 w ac code) :
    Calls Try.prog 11 #[.slice ac code.length capc] w (RetB True w) := by
  go_enter Try.func11, Try.ntmps11
  by_cases hbig : 1048576 < code.length
  · have hb : (1048576 : Int) < (code.length : Int) := by omega
    go_wp2
    go_ret
    exact RetB.mk true rfl (by simp) (Ext.refl _)
  have hb : (code.length : Int) ≤ 1048576 := by omega
  have S := Sep.start w
  go_wp2_with fail
  refine (drawWritePage ac capc code w hlc hcap hu hcc).mono ?_
  rintro e w1 ⟨v, who, page, num, rfl, af, cf, F, at0, ct, vT, T, rfl, hF14, hT6, hT4, hcf, hct, U⟩
  have HT4 : Hid (∀ t ∈ T, t.length ≤ 9223372036854775807) := Lib.hid (fun t ht => by have := hT4 t ht; omega)
  have HT44 := Lib.hid hT4
  clear hT4 hb hbig
  replace S : Sep w w1 [plTab (.slice at0 T.length ct) vT T, plRow 3 1 encInt1 (.slice af F.length cf) F] := S.call U
  clear U
  replace S : Sep w (w1.alloc (.cells #[.slice af F.length cf, .slice at0 T.length ct] 28)) [plBox w1.heap.size #[.slice af F.length cf, .slice at0 T.length ct] 28, plTab (.slice at0 T.length ct) vT T, plRow 3 1 encInt1 (.slice af F.length cf) F] := S.alloc_at (by simp) _ _
  obtain ⟨mbc0, mbf0⟩ : (w1.alloc (.cells #[.slice af F.length cf, .slice at0 T.length ct] 28)).cell? ⟨w1.heap.size, 0, none⟩ = some (.slice af F.length cf) ∧ (w1.alloc (.cells #[.slice af F.length cf, .slice at0 T.length ct] 28)).frozen? ⟨w1.heap.size, 0, none⟩ = false := bx (S.box 0 rfl) 0 rfl
  obtain ⟨mbc1, mbf1⟩ : (w1.alloc (.cells #[.slice af F.length cf, .slice at0 T.length ct] 28)).cell? ⟨w1.heap.size, 1, none⟩ = some (.slice at0 T.length ct) ∧ (w1.alloc (.cells #[.slice af F.length cf, .slice at0 T.length ct] 28)).frozen? ⟨w1.heap.size, 1, none⟩ = false := bx (S.box 0 rfl) 1 rfl
  go_wp2_with fail
  clear mbc0 mbf0 mbc1 mbf1
  generalize (w1.alloc (.cells #[.slice af F.length cf, .slice at0 T.length ct] 28)) = w2 at *
  refine (implWritePage af cf F at0 ct T who page num _ (by omega) (by omega) (S.rd 2 encInt1_len rfl rfl) (S.rdt 1 rfl)).mono ?_
  rintro e w3 ⟨a1, c1, F2, a2, c2, vs2, T2, ok, rfl, hR, U⟩
  have HR := Lib.hid hR
  have hsm := writeR_small hR
  have hF13 : F2.length ≤ 13 := hsm.1
  have hT5 : T2.length ≤ 5 := hsm.2.1
  have HT2 : Hid (∀ t ∈ T2, t.length ≤ 9223372036854775807) := Lib.hid (fun t ht => by have := hsm.2.2 t ht; omega)
  clear hR hsm
  replace S : Sep w w3 [plTab (.slice a2 T2.length c2) vs2 T2, plRow 3 1 encInt1 (.slice a1 F2.length c1) F2, plBox w1.heap.size #[.slice af F.length cf, .slice at0 T.length ct] 28, plTab (.slice at0 T.length ct) vT T, plRow 3 1 encInt1 (.slice af F.length cf) F] := S.call U
  clear U
  replace S : Sep w (w3.alloc (.cells #[.slice a1 F2.length c1, .slice a2 T2.length c2] 28)) [plBox w3.heap.size #[.slice a1 F2.length c1, .slice a2 T2.length c2] 28, plTab (.slice a2 T2.length c2) vs2 T2, plRow 3 1 encInt1 (.slice a1 F2.length c1) F2, plBox w1.heap.size #[.slice af F.length cf, .slice at0 T.length ct] 28, plTab (.slice at0 T.length ct) vT T, plRow 3 1 encInt1 (.slice af F.length cf) F] := S.alloc_at (by simp) _ _
  obtain ⟨mbc0, mbf0⟩ : (w3.alloc (.cells #[.slice a1 F2.length c1, .slice a2 T2.length c2] 28)).cell? ⟨w1.heap.size, 0, none⟩ = some (.slice af F.length cf) ∧ (w3.alloc (.cells #[.slice a1 F2.length c1, .slice a2 T2.length c2] 28)).frozen? ⟨w1.heap.size, 0, none⟩ = false := bx (S.box 3 rfl) 0 rfl
  obtain ⟨mbc1, mbf1⟩ : (w3.alloc (.cells #[.slice a1 F2.length c1, .slice a2 T2.length c2] 28)).cell? ⟨w1.heap.size, 1, none⟩ = some (.slice at0 T.length ct) ∧ (w3.alloc (.cells #[.slice a1 F2.length c1, .slice a2 T2.length c2] 28)).frozen? ⟨w1.heap.size, 1, none⟩ = false := bx (S.box 3 rfl) 1 rfl
  go_wp2_with fail
  clear mbc0 mbf0 mbc1 mbf1
  generalize (w3.alloc (.cells #[.slice a1 F2.length c1, .slice a2 T2.length c2] 28)) = w4 at *
  refine (specWritePage af cf F at0 ct T who page num _ (by omega) (by omega) (S.rd 5 encInt1_len rfl rfl) (S.rdt 4 rfl)).mono ?_
  rintro e w5 ⟨b1, d1, F3, b2, d2, vs3, T3, ok3, rfl, hR, U⟩
  obtain ⟨rfl, rfl, rfl⟩ : F2 = F3 ∧ T2 = T3 ∧ ok = ok3 := writeR_fun HR.out hR
  clear hR
  replace S : Sep w w5 [plTab (.slice b2 T2.length d2) vs3 T2, plRow 3 1 encInt1 (.slice b1 F2.length d1) F2, plBox w3.heap.size #[.slice a1 F2.length c1, .slice a2 T2.length c2] 28, plTab (.slice a2 T2.length c2) vs2 T2, plRow 3 1 encInt1 (.slice a1 F2.length c1) F2, plBox w1.heap.size #[.slice af F.length cf, .slice at0 T.length ct] 28, plTab (.slice at0 T.length ct) vT T, plRow 3 1 encInt1 (.slice af F.length cf) F] := S.call U
  clear U
  replace S : Sep w (w5.alloc (.cells #[.slice b1 F2.length d1, .slice b2 T2.length d2] 28)) [plBox w5.heap.size #[.slice b1 F2.length d1, .slice b2 T2.length d2] 28, plTab (.slice b2 T2.length d2) vs3 T2, plRow 3 1 encInt1 (.slice b1 F2.length d1) F2, plBox w3.heap.size #[.slice a1 F2.length c1, .slice a2 T2.length c2] 28, plTab (.slice a2 T2.length c2) vs2 T2, plRow 3 1 encInt1 (.slice a1 F2.length c1) F2, plBox w1.heap.size #[.slice af F.length cf, .slice at0 T.length ct] 28, plTab (.slice at0 T.length ct) vT T, plRow 3 1 encInt1 (.slice af F.length cf) F] := S.alloc_at (by simp) _ _
  have tok : (ok != ok) = false := by simp
  obtain ⟨xbc0, xbf0⟩ : (w5.alloc (.cells #[.slice b1 F2.length d1, .slice b2 T2.length d2] 28)).cell? ⟨w3.heap.size, 0, none⟩ = some (.slice a1 F2.length c1) ∧ (w5.alloc (.cells #[.slice b1 F2.length d1, .slice b2 T2.length d2] 28)).frozen? ⟨w3.heap.size, 0, none⟩ = false := bx (S.box 3 rfl) 0 rfl
  obtain ⟨xbc1, xbf1⟩ : (w5.alloc (.cells #[.slice b1 F2.length d1, .slice b2 T2.length d2] 28)).cell? ⟨w3.heap.size, 1, none⟩ = some (.slice a2 T2.length c2) ∧ (w5.alloc (.cells #[.slice b1 F2.length d1, .slice b2 T2.length d2] 28)).frozen? ⟨w3.heap.size, 1, none⟩ = false := bx (S.box 3 rfl) 1 rfl
  go_wp2_with fail
  clear xbc0 xbf0 xbc1 xbf1
  generalize (w5.alloc (.cells #[.slice b1 F2.length d1, .slice b2 T2.length d2] 28)) = w6 at *
  refine (sameMem_any _ _ _ _ _ _ _ _ F2 F2 T2 T2 _ (by omega) (by omega) (by omega) (by omega) HT2.out HT2.out (S.rd 5 encInt1_len rfl rfl) (S.rdt 4 rfl) (S.rd 2 encInt1_len rfl rfl) (S.rdt 1 rfl)).mono ?_
  rintro e w7 ⟨q7, rfl, hq, hE⟩
  obtain rfl : q7 = true := hq.2 ⟨rfl, rfl⟩
  clear hq
  replace S : Sep w w7 [plBox w5.heap.size #[.slice b1 F2.length d1, .slice b2 T2.length d2] 28, plTab (.slice b2 T2.length d2) vs3 T2, plRow 3 1 encInt1 (.slice b1 F2.length d1) F2, plBox w3.heap.size #[.slice a1 F2.length c1, .slice a2 T2.length c2] 28, plTab (.slice a2 T2.length c2) vs2 T2, plRow 3 1 encInt1 (.slice a1 F2.length c1) F2, plBox w1.heap.size #[.slice af F.length cf, .slice at0 T.length ct] 28, plTab (.slice at0 T.length ct) vT T, plRow 3 1 encInt1 (.slice af F.length cf) F] := S.step hE
  clear hE
  replace S : Sep w w7 [plTab (.slice b2 T2.length d2) vs3 T2, plRow 3 1 encInt1 (.slice b1 F2.length d1) F2, plBox w3.heap.size #[.slice a1 F2.length c1, .slice a2 T2.length c2] 28, plTab (.slice a2 T2.length c2) vs2 T2, plRow 3 1 encInt1 (.slice a1 F2.length c1) F2, plBox w1.heap.size #[.slice af F.length cf, .slice at0 T.length ct] 28, plTab (.slice at0 T.length ct) vT T, plRow 3 1 encInt1 (.slice af F.length cf) F] := S.drop 0
  replace S : Sep w w7 [plRow 3 1 encInt1 (.slice b1 F2.length d1) F2, plBox w3.heap.size #[.slice a1 F2.length c1, .slice a2 T2.length c2] 28, plTab (.slice a2 T2.length c2) vs2 T2, plRow 3 1 encInt1 (.slice a1 F2.length c1) F2, plBox w1.heap.size #[.slice af F.length cf, .slice at0 T.length ct] 28, plTab (.slice at0 T.length ct) vT T, plRow 3 1 encInt1 (.slice af F.length cf) F] := S.drop 0
  replace S : Sep w w7 [plBox w3.heap.size #[.slice a1 F2.length c1, .slice a2 T2.length c2] 28, plTab (.slice a2 T2.length c2) vs2 T2, plRow 3 1 encInt1 (.slice a1 F2.length c1) F2, plBox w1.heap.size #[.slice af F.length cf, .slice at0 T.length ct] 28, plTab (.slice at0 T.length ct) vT T, plRow 3 1 encInt1 (.slice af F.length cf) F] := S.drop 0
  cases ok with
  | false =>
    have Hno := Lib.hid (write_none HR.out)
    clear HR tok
    obtain ⟨xbc0, xbf0⟩ : w7.cell? ⟨w3.heap.size, 0, none⟩ = some (.slice a1 F2.length c1) ∧ w7.frozen? ⟨w3.heap.size, 0, none⟩ = false := bx (S.box 0 rfl) 0 rfl
    obtain ⟨xbc1, xbf1⟩ : w7.cell? ⟨w3.heap.size, 1, none⟩ = some (.slice a2 T2.length c2) ∧ w7.frozen? ⟨w3.heap.size, 1, none⟩ = false := bx (S.box 0 rfl) 1 rfl
    obtain ⟨mbc0, mbf0⟩ : w7.cell? ⟨w1.heap.size, 0, none⟩ = some (.slice af F.length cf) ∧ w7.frozen? ⟨w1.heap.size, 0, none⟩ = false := bx (S.box 3 rfl) 0 rfl
    obtain ⟨mbc1, mbf1⟩ : w7.cell? ⟨w1.heap.size, 1, none⟩ = some (.slice at0 T.length ct) ∧ w7.frozen? ⟨w1.heap.size, 1, none⟩ = false := bx (S.box 3 rfl) 1 rfl
    go_wp2_with fail
    clear xbc0 xbf0 xbc1 xbf1 mbc0 mbf0 mbc1 mbf1
    refine (sameMem_any _ _ _ _ _ _ _ _ F2 F T2 T _ (by omega) (by omega) (by omega) (by omega) HT2.out HT4.out (S.rd 2 encInt1_len rfl rfl) (S.rdt 1 rfl) (S.rd 5 encInt1_len rfl rfl) (S.rdt 4 rfl)).mono ?_
    rintro e w8 ⟨q8, rfl, hq, hE⟩
    have Hq := Lib.hid hq
    clear hq
    replace S : Sep w w8 [plBox w3.heap.size #[.slice a1 F2.length c1, .slice a2 T2.length c2] 28, plTab (.slice a2 T2.length c2) vs2 T2, plRow 3 1 encInt1 (.slice a1 F2.length c1) F2, plBox w1.heap.size #[.slice af F.length cf, .slice at0 T.length ct] 28, plTab (.slice at0 T.length ct) vT T, plRow 3 1 encInt1 (.slice af F.length cf) F] := S.step hE
    clear hE
    cases q8 with
    | true =>
      go_wp2_with fail
      refine (alive_any _).mono ?_
      rintro e w9 ⟨b3, rfl, hb3, hE⟩
      obtain rfl : b3 = true := hb3.2 trivial
      clear hb3
      replace S : Sep w w9 [plBox w3.heap.size #[.slice a1 F2.length c1, .slice a2 T2.length c2] 28, plTab (.slice a2 T2.length c2) vs2 T2, plRow 3 1 encInt1 (.slice a1 F2.length c1) F2, plBox w1.heap.size #[.slice af F.length cf, .slice at0 T.length ct] 28, plTab (.slice at0 T.length ct) vT T, plRow 3 1 encInt1 (.slice af F.length cf) F] := S.step hE
      clear hE
      go_wp2
      go_ret
      exact RetB.mk true rfl (by simp) S.ext
    | false =>
      obtain ⟨rfl, rfl⟩ : F2 = [] ∧ T2 = [] := Hno.out.resolve_left (fun h => Bool.noConfusion (Hq.out.2 h))
      obtain ⟨xbc0, xbf0⟩ : w8.cell? ⟨w3.heap.size, 0, none⟩ = some (.slice a1 ([] : List Int).length c1) ∧ w8.frozen? ⟨w3.heap.size, 0, none⟩ = false := bx (S.box 0 rfl) 0 rfl
      obtain ⟨xbc1, xbf1⟩ : w8.cell? ⟨w3.heap.size, 1, none⟩ = some (.slice a2 ([] : List (List Int)).length c2) ∧ w8.frozen? ⟨w3.heap.size, 1, none⟩ = false := bx (S.box 0 rfl) 1 rfl
      go_wp2_with fail
      clear xbc0 xbf0 xbc1 xbf1
      refine (sameMem_any _ _ none none _ _ 0 0 [] [] [] [] _ (by simp) (by simp) (by simp) (by simp) (fun t ht => by simp at ht) (fun t ht => by simp at ht) Rd.nil RdT.nil Rd.nil RdT.nil).mono ?_
      rintro e w9 ⟨q9, rfl, hq, hE⟩
      obtain rfl : q9 = true := hq.2 ⟨rfl, rfl⟩
      clear hq
      replace S : Sep w w9 [plBox w3.heap.size #[.slice a1 ([] : List Int).length c1, .slice a2 ([] : List (List Int)).length c2] 28, plTab (.slice a2 ([] : List (List Int)).length c2) vs2 ([] : List (List Int)), plRow 3 1 encInt1 (.slice a1 ([] : List Int).length c1) ([] : List Int), plBox w1.heap.size #[.slice af F.length cf, .slice at0 T.length ct] 28, plTab (.slice at0 T.length ct) vT T, plRow 3 1 encInt1 (.slice af F.length cf) F] := S.step hE
      clear hE
      go_wp2_with fail
      refine (alive_any _).mono ?_
      rintro e w10 ⟨b3, rfl, hb3, hE⟩
      obtain rfl : b3 = true := hb3.2 trivial
      clear hb3
      replace S : Sep w w10 [plBox w3.heap.size #[.slice a1 ([] : List Int).length c1, .slice a2 ([] : List (List Int)).length c2] 28, plTab (.slice a2 ([] : List (List Int)).length c2) vs2 ([] : List (List Int)), plRow 3 1 encInt1 (.slice a1 ([] : List Int).length c1) ([] : List Int), plBox w1.heap.size #[.slice af F.length cf, .slice at0 T.length ct] 28, plTab (.slice at0 T.length ct) vT T, plRow 3 1 encInt1 (.slice af F.length cf) F] := S.step hE
      clear hE
      go_wp2
      go_ret
      exact RetB.mk true rfl (by simp) S.ext
  | true =>
    have HL := Lib.hid (write_law HR.out)
    have HV := Lib.hid HL.out.1
    have HV2 := Lib.hid HL.out.2.1
    have HP := Lib.hid HL.out.2.2
    clear HR tok HL
    go_wp2
    go_loopw [11, 12, 13] (fun i _ _ wr => ∃ k : Nat, k ≤ T.length ∧ i = .int .i64 k ∧ Ext w7 wr) (fun i _ _ _ => T.length - (intOf i).toNat)
    case atStart => exact ⟨0, Nat.zero_le _, rfl, Ext.refl _⟩
    case round =>
      obtain ⟨k, hk, rfl, hb⟩ := hrel
      have hb0 := hb
      replace S : Sep w wr [plBox w3.heap.size #[.slice a1 F2.length c1, .slice a2 T2.length c2] 28, plTab (.slice a2 T2.length c2) vs2 T2, plRow 3 1 encInt1 (.slice a1 F2.length c1) F2, plBox w1.heap.size #[.slice af F.length cf, .slice at0 T.length ct] 28, plTab (.slice at0 T.length ct) vT T, plRow 3 1 encInt1 (.slice af F.length cf) F] := S.step hb
      clear hb
      by_cases hlk : k < T.length
      rotate_left
      · obtain rfl : k = T.length := by omega
        have hni : ¬ (T.length : Int) < (T.length : Int) := by omega
        obtain ⟨xbc0, xbf0⟩ : wr.cell? ⟨w3.heap.size, 0, none⟩ = some (.slice a1 F2.length c1) ∧ wr.frozen? ⟨w3.heap.size, 0, none⟩ = false := bx (S.box 0 rfl) 0 rfl
        obtain ⟨xbc1, xbf1⟩ : wr.cell? ⟨w3.heap.size, 1, none⟩ = some (.slice a2 T2.length c2) ∧ wr.frozen? ⟨w3.heap.size, 1, none⟩ = false := bx (S.box 0 rfl) 1 rfl
        obtain ⟨mbc0, mbf0⟩ : wr.cell? ⟨w1.heap.size, 0, none⟩ = some (.slice af F.length cf) ∧ wr.frozen? ⟨w1.heap.size, 0, none⟩ = false := bx (S.box 3 rfl) 0 rfl
        obtain ⟨mbc1, mbf1⟩ : wr.cell? ⟨w1.heap.size, 1, none⟩ = some (.slice at0 T.length ct) ∧ wr.frozen? ⟨w1.heap.size, 1, none⟩ = false := bx (S.box 3 rfl) 1 rfl
        go_wp2_with fail
        clear xbc0 xbf0 xbc1 xbf1 mbc0 mbf0 mbc1 mbf1
        refine (implMemoryValid a1 c1 F2 a2 c2 T2 _ (by omega) (by omega) (S.rd 2 encInt1_len rfl rfl) (S.rdt 1 rfl)).mono ?_
        rintro e w8 ⟨v8, rfl, hv8, hE⟩
        obtain rfl : v8 = true := hv8.2 HV2.out
        clear hv8
        replace S : Sep w w8 [plBox w3.heap.size #[.slice a1 F2.length c1, .slice a2 T2.length c2] 28, plTab (.slice a2 T2.length c2) vs2 T2, plRow 3 1 encInt1 (.slice a1 F2.length c1) F2, plBox w1.heap.size #[.slice af F.length cf, .slice at0 T.length ct] 28, plTab (.slice at0 T.length ct) vT T, plRow 3 1 encInt1 (.slice af F.length cf) F] := S.step hE
        clear hE
        go_wp2
        go_ret
        exact RetB.mk true rfl (by simp) S.ext
      · obtain ⟨t, p, off, ai, ci, hx, hpe, c0, _, _⟩ := atTab (S.rdt 4 rfl) hlk
        subst hpe
        have Hx := Lib.hid hx
        have ht4 : t.length ≤ 4 := HT44.out t (List.mem_of_getElem? hx)
        clear hx
        have ik : (k : Int) < (T.length : Int) := by omega
        have ik0 : (0 : Int) ≤ (k : Int) := by omega
        obtain ⟨mbc0, mbf0⟩ : wr.cell? ⟨w1.heap.size, 0, none⟩ = some (.slice af F.length cf) ∧ wr.frozen? ⟨w1.heap.size, 0, none⟩ = false := bx (S.box 3 rfl) 0 rfl
        obtain ⟨mbc1, mbf1⟩ : wr.cell? ⟨w1.heap.size, 1, none⟩ = some (.slice (some ⟨p, off, none⟩) T.length ct) ∧ wr.frozen? ⟨w1.heap.size, 1, none⟩ = false := bx (S.box 3 rfl) 1 rfl
        go_wp2
        clear mbc0 mbf0 mbc1 mbf1
        go_loopw [12, 13] (fun j _ wx => ∃ i : Nat, i ≤ t.length ∧ j = .int .i64 i ∧ Ext wr wx) (fun j _ _ => t.length - (intOf j).toNat)
        case atStart => exact ⟨0, Nat.zero_le _, rfl, Ext.refl _⟩
        case round =>
          obtain ⟨j, hj, rfl, hb⟩ := hrel
          have hb1 := hb
          replace c0 := cell_ext hb c0
          replace S : Sep w wr [plBox w3.heap.size #[.slice a1 F2.length c1, .slice a2 T2.length c2] 28, plTab (.slice a2 T2.length c2) vs2 T2, plRow 3 1 encInt1 (.slice a1 F2.length c1) F2, plBox w1.heap.size #[.slice af F.length cf, .slice (some ⟨p, off, none⟩) T.length ct] 28, plTab (.slice (some ⟨p, off, none⟩) T.length ct) vT T, plRow 3 1 encInt1 (.slice af F.length cf) F] := S.step hb
          clear hb
          by_cases hlj : j < t.length
          rotate_left
          · obtain rfl : j = t.length := by omega
            have hni : ¬ (t.length : Int) < (t.length : Int) := by omega
            obtain ⟨mbc0, mbf0⟩ : wr.cell? ⟨w1.heap.size, 0, none⟩ = some (.slice af F.length cf) ∧ wr.frozen? ⟨w1.heap.size, 0, none⟩ = false := bx (S.box 3 rfl) 0 rfl
            obtain ⟨mbc1, mbf1⟩ : wr.cell? ⟨w1.heap.size, 1, none⟩ = some (.slice (some ⟨p, off, none⟩) T.length ct) ∧ wr.frozen? ⟨w1.heap.size, 1, none⟩ = false := bx (S.box 3 rfl) 1 rfl
            go_wp2
            clear mbc0 mbf0 mbc1 mbf1
            go_roundw
            case rel => exact ⟨k + 1, by omega, by go_num, hb0.trans hb1⟩
            case measure => simp [intOf]; omega
          · have Hlj := Lib.hid hlj
            have Hf : Hid (t[j]? = some t[j]) := Lib.hid (List.getElem?_eq_getElem hlj)
            have ij : (j : Int) < (t.length : Int) := by omega
            obtain ⟨mbc0, mbf0⟩ : wr.cell? ⟨w1.heap.size, 0, none⟩ = some (.slice af F.length cf) ∧ wr.frozen? ⟨w1.heap.size, 0, none⟩ = false := bx (S.box 3 rfl) 0 rfl
            obtain ⟨mbc1, mbf1⟩ : wr.cell? ⟨w1.heap.size, 1, none⟩ = some (.slice (some ⟨p, off, none⟩) T.length ct) ∧ wr.frozen? ⟨w1.heap.size, 1, none⟩ = false := bx (S.box 3 rfl) 1 rfl
            go_wp2_with fail
            clear mbc0 mbf0 mbc1 mbf1
            refine (implReadPage af cf F (some ⟨p, off, none⟩) ct T k j _ (by omega) (by omega) (S.rd 5 encInt1_len rfl rfl) (S.rdt 4 rfl)).mono ?_
            rintro e w8 ⟨n, rfl, hR, U⟩
            have HR1 := Lib.hid hR
            clear hR
            have hE8 := U.ext
            replace c0 := cell_ext hE8 c0
            have hb2 := hb1.trans hE8
            clear U
            replace S : Sep w w8 [plBox w3.heap.size #[.slice a1 F2.length c1, .slice a2 T2.length c2] 28, plTab (.slice a2 T2.length c2) vs2 T2, plRow 3 1 encInt1 (.slice a1 F2.length c1) F2, plBox w1.heap.size #[.slice af F.length cf, .slice (some ⟨p, off, none⟩) T.length ct] 28, plTab (.slice (some ⟨p, off, none⟩) T.length ct) vT T, plRow 3 1 encInt1 (.slice af F.length cf) F] := S.step hE8
            clear hE8
            by_cases hkw : (k : Int) = who ∧ (j : Int) = page
            · obtain ⟨rfl, rfl⟩ := hkw
              have Hm : Hid (∀ m, ReadR F2 T2 k j m → m = num) := Lib.hid (fun m hm => by have := HP.out k j t _ n m Hx.out Hf.out HR1.out hm; rwa [if_pos ⟨rfl, rfl⟩] at this)
              obtain ⟨xbc0, xbf0⟩ : w8.cell? ⟨w3.heap.size, 0, none⟩ = some (.slice a1 F2.length c1) ∧ w8.frozen? ⟨w3.heap.size, 0, none⟩ = false := bx (S.box 0 rfl) 0 rfl
              obtain ⟨xbc1, xbf1⟩ : w8.cell? ⟨w3.heap.size, 1, none⟩ = some (.slice a2 T2.length c2) ∧ w8.frozen? ⟨w3.heap.size, 1, none⟩ = false := bx (S.box 0 rfl) 1 rfl
              go_wp2_with fail
              clear xbc0 xbf0 xbc1 xbf1
              refine (implReadPage a1 c1 F2 a2 c2 T2 k j _ (by omega) (by omega) (S.rd 2 encInt1_len rfl rfl) (S.rdt 1 rfl)).mono ?_
              rintro e w9 ⟨m, rfl, hR, U⟩
              obtain rfl := Hm.out m hR
              have hE9 := U.ext
              have hb3 := hb2.trans hE9
              clear U hR
              replace S : Sep w w9 [plBox w3.heap.size #[.slice a1 F2.length c1, .slice a2 T2.length c2] 28, plTab (.slice a2 T2.length c2) vs2 T2, plRow 3 1 encInt1 (.slice a1 F2.length c1) F2, plBox w1.heap.size #[.slice af F.length cf, .slice (some ⟨p, off, none⟩) T.length ct] 28, plTab (.slice (some ⟨p, off, none⟩) T.length ct) vT T, plRow 3 1 encInt1 (.slice af F.length cf) F] := S.step hE9
              clear hE9
              have tnn : (m != m) = false := by simp
              go_wp2
              go_roundw
              case rel => exact ⟨j + 1, by have := Hlj.out; omega, by go_num, hb3⟩
              case measure => (have := Hlj.out; simp [intOf]; omega)
            · have Hm : Hid (∀ m, ReadR F2 T2 k j m → m = n) := Lib.hid (fun m hm => by have := HP.out k j t _ n m Hx.out Hf.out HR1.out hm; rwa [if_neg hkw] at this)
              have hcase : (((k : Int) == who) = false) ∨ (((k : Int) == who) = true ∧ ((j : Int) == page) = false) := by
                by_cases h1 : (k : Int) = who
                · exact .inr ⟨by simpa using h1, by simpa using fun h2 => hkw ⟨h1, h2⟩⟩
                · exact .inl (by simpa using h1)
              clear hkw
              rcases hcase with tk | ⟨tk, tj⟩
              all_goals
                obtain ⟨xbc0, xbf0⟩ : w8.cell? ⟨w3.heap.size, 0, none⟩ = some (.slice a1 F2.length c1) ∧ w8.frozen? ⟨w3.heap.size, 0, none⟩ = false := bx (S.box 0 rfl) 0 rfl
                obtain ⟨xbc1, xbf1⟩ : w8.cell? ⟨w3.heap.size, 1, none⟩ = some (.slice a2 T2.length c2) ∧ w8.frozen? ⟨w3.heap.size, 1, none⟩ = false := bx (S.box 0 rfl) 1 rfl
                go_wp2_with fail
                clear xbc0 xbf0 xbc1 xbf1
                refine (implReadPage a1 c1 F2 a2 c2 T2 k j _ (by omega) (by omega) (S.rd 2 encInt1_len rfl rfl) (S.rdt 1 rfl)).mono ?_
                rintro e w9 ⟨m, rfl, hR, U⟩
                obtain rfl := Hm.out m hR
                have hE9 := U.ext
                have hb3 := hb2.trans hE9
                clear U hR
                replace S : Sep w w9 [plBox w3.heap.size #[.slice a1 F2.length c1, .slice a2 T2.length c2] 28, plTab (.slice a2 T2.length c2) vs2 T2, plRow 3 1 encInt1 (.slice a1 F2.length c1) F2, plBox w1.heap.size #[.slice af F.length cf, .slice (some ⟨p, off, none⟩) T.length ct] 28, plTab (.slice (some ⟨p, off, none⟩) T.length ct) vT T, plRow 3 1 encInt1 (.slice af F.length cf) F] := S.step hE9
                clear hE9
                have tnn : (m != m) = false := by simp
                go_wp2
                go_roundw
                case rel => exact ⟨j + 1, by have := Hlj.out; omega, by go_num, hb3⟩
                case measure => (have := Hlj.out; simp [intOf]; omega)
end Go.Proofs.Ytpnllhdgpfbaiaa
