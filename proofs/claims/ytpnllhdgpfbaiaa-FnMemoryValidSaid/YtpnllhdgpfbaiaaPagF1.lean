/- FnMemoryValid: the walk. Condition: the code is shorter than 2^63. -/
import Derived.Test.YtpnllhdgpfbaiaaDrawPg2
import Derived.Test.YtpnllhdgpfbaiaaPagP
import Derived.Test.YtpnllhdgpfbaiaaPagSm
import Derived.Test.YtpnllhdgpfbaiaaAlive
namespace Go.Proofs.Ytpnllhdgpfbaiaa
open Go.RowKit

set_option maxRecDepth 10000 in
set_option maxHeartbeats 8000000 in
theorem fnMemoryValid_any (ac : Option Addr) (capc : Nat) (code : List Int) (w : World) (hlc : code.length ≤ 9223372036854775807) (hcap : code.length ≤ capc) (hu : ∀ x ∈ code, 0 ≤ x ∧ x ≤ 255) (hcc : Rd 1 encU8 w ac code) :
    Calls Try.prog 5 #[.slice ac code.length capc] w (RetB True w) := by
  go_enter Try.func5, Try.ntmps5
  by_cases hbig : 1048576 < code.length
  · have hb : (1048576 : Int) < (code.length : Int) := by omega
    go_wp2
    go_ret
    exact RetB.mk true rfl (by simp) (Ext.refl _)
  have hb : (code.length : Int) ≤ 1048576 := by omega
  have S := Sep.start w
  go_wp2_with fail
  refine (drawMemoryValid ac capc code w hlc hcap hu hcc).mono ?_
  rintro e w1 ⟨v, rfl, af, cf, F, at0, ct, vT, T, rfl, hF14, hT6, hT4, hcf, hct, U⟩
  have HT4 : Hid (∀ t ∈ T, t.length ≤ 9223372036854775807) := Lib.hid (fun t ht => by have := hT4 t ht; omega)
  have HT44 := Lib.hid hT4
  clear hT4 hb hbig
  replace S : Sep w w1 [plTab (.slice at0 T.length ct) vT T, plRow 3 1 encInt1 (.slice af F.length cf) F] := S.call U
  clear U
  replace S : Sep w (w1.alloc (.cells #[.slice af F.length cf, .slice at0 T.length ct] 28)) [plBox w1.heap.size #[.slice af F.length cf, .slice at0 T.length ct] 28, plTab (.slice at0 T.length ct) vT T, plRow 3 1 encInt1 (.slice af F.length cf) F] := S.alloc_at (by simp) _ _
  obtain ⟨mbc0, mbf0⟩ : (w1.alloc (.cells #[.slice af F.length cf, .slice at0 T.length ct] 28)).cell? ⟨w1.heap.size, 0, none⟩ = some (.slice af F.length cf) ∧ (w1.alloc (.cells #[.slice af F.length cf, .slice at0 T.length ct] 28)).frozen? ⟨w1.heap.size, 0, none⟩ = false := bx (S.box 0 rfl) 0 rfl
  obtain ⟨mbc1, mbf1⟩ : (w1.alloc (.cells #[.slice af F.length cf, .slice at0 T.length ct] 28)).cell? ⟨w1.heap.size, 1, none⟩ = some (.slice at0 T.length ct) ∧ (w1.alloc (.cells #[.slice af F.length cf, .slice at0 T.length ct] 28)).frozen? ⟨w1.heap.size, 1, none⟩ = false := bx (S.box 0 rfl) 1 rfl
  go_wp2_with fail
  clear mbc0 mbf0 mbc1 mbf1
  generalize (w1.alloc (.cells #[.slice af F.length cf, .slice at0 T.length ct] 28)) = w2 at *
  refine (implMemoryValid af cf F at0 ct T _ (by omega) (by omega) (S.rd 2 encInt1_len rfl rfl) (S.rdt 1 rfl)).mono ?_
  rintro e w3 ⟨v0, rfl, hv0, hE⟩
  have Hv0 := Lib.hid hv0
  clear hv0
  replace S : Sep w w3 [plBox w1.heap.size #[.slice af F.length cf, .slice at0 T.length ct] 28, plTab (.slice at0 T.length ct) vT T, plRow 3 1 encInt1 (.slice af F.length cf) F] := S.step hE
  clear hE
  obtain ⟨mbc0, mbf0⟩ : w3.cell? ⟨w1.heap.size, 0, none⟩ = some (.slice af F.length cf) ∧ w3.frozen? ⟨w1.heap.size, 0, none⟩ = false := bx (S.box 0 rfl) 0 rfl
  obtain ⟨mbc1, mbf1⟩ : w3.cell? ⟨w1.heap.size, 1, none⟩ = some (.slice at0 T.length ct) ∧ w3.frozen? ⟨w1.heap.size, 1, none⟩ = false := bx (S.box 0 rfl) 1 rfl
  go_wp2_with fail
  clear mbc0 mbf0 mbc1 mbf1
  refine (specMemoryValid af cf F at0 ct T _ (by omega) (by omega) (S.rd 2 encInt1_len rfl rfl) (S.rdt 1 rfl)).mono ?_
  rintro e w4 ⟨v1, rfl, hv1, hE⟩
  obtain rfl : v0 = v1 := Bool.eq_iff_iff.2 (Hv0.out.trans hv1.symm)
  clear hv1
  replace S : Sep w w4 [plBox w1.heap.size #[.slice af F.length cf, .slice at0 T.length ct] 28, plTab (.slice at0 T.length ct) vT T, plRow 3 1 encInt1 (.slice af F.length cf) F] := S.step hE
  clear hE
  have tb : (v0 != v0) = false := by simp
  obtain ⟨mbc0, mbf0⟩ : w4.cell? ⟨w1.heap.size, 0, none⟩ = some (.slice af F.length cf) ∧ w4.frozen? ⟨w1.heap.size, 0, none⟩ = false := bx (S.box 0 rfl) 0 rfl
  obtain ⟨mbc1, mbf1⟩ : w4.cell? ⟨w1.heap.size, 1, none⟩ = some (.slice at0 T.length ct) ∧ w4.frozen? ⟨w1.heap.size, 1, none⟩ = false := bx (S.box 0 rfl) 1 rfl
  replace S : Sep w (w4.alloc (.cells #[.int .i64 (F.length : Int)] 3)) [plRow 3 1 encInt1 (.slice (some ⟨w4.heap.size, 0, none⟩) 1 1) ([(F.length : Int)] : List Int), plBox w1.heap.size #[.slice af F.length cf, .slice at0 T.length ct] 28, plTab (.slice at0 T.length ct) vT T, plRow 3 1 encInt1 (.slice af F.length cf) F] := S.lit (by simp) _ _ encInt1_len ([(F.length : Int)] : List Int) rfl rfl (by omega)
  replace S : Sep w ((w4.alloc (.cells #[.int .i64 (F.length : Int)] 3)).alloc (.cells #[.slice (some ⟨w4.heap.size, 0, none⟩) 1 1] 22)) [plRow 22 1 encSl (.slice (some ⟨(w4.heap.size + 1), 0, none⟩) 1 1) ([⟨some ⟨w4.heap.size, 0, none⟩, 1, 1⟩] : List Sl), plRow 3 1 encInt1 (.slice (some ⟨w4.heap.size, 0, none⟩) 1 1) ([(F.length : Int)] : List Int), plBox w1.heap.size #[.slice af F.length cf, .slice at0 T.length ct] 28, plTab (.slice at0 T.length ct) vT T, plRow 3 1 encInt1 (.slice af F.length cf) F] := S.lit (by simp) _ _ encSl_len ([⟨some ⟨w4.heap.size, 0, none⟩, 1, 1⟩] : List Sl) rfl rfl (by omega)
  go_wp2_with fail
  clear mbc0 mbf0 mbc1 mbf1
  have S2 := S.tabOf1 0 1 (s := ⟨some ⟨w4.heap.size, 0, none⟩, 1, 1⟩) (t := [(F.length : Int)]) rfl rfl (by omega)
  have hrd2 := S2.rdt 0 rfl
  clear S2
  generalize ((w4.alloc (.cells #[.int .i64 (F.length : Int)] 3)).alloc (.cells #[.slice (some ⟨w4.heap.size, 0, none⟩) 1 1] 22)) = w5 at *
  refine (implMemoryValid af cf F _ _ [[(F.length : Int)]] _ (by omega) (by simp) (S.rd 4 encInt1_len rfl rfl) hrd2).mono ?_
  rintro e w6 ⟨v2, rfl, hv2, hE⟩
  obtain rfl : v2 = false := by
    cases v2 with
    | false => rfl
    | true => exact absurd (hv2.1 rfl) (mem_bad F)
  clear hv2 hrd2
  replace S : Sep w w6 [plRow 22 1 encSl (.slice (some ⟨(w4.heap.size + 1), 0, none⟩) 1 1) ([⟨some ⟨w4.heap.size, 0, none⟩, 1, 1⟩] : List Sl), plRow 3 1 encInt1 (.slice (some ⟨w4.heap.size, 0, none⟩) 1 1) ([(F.length : Int)] : List Int), plBox w1.heap.size #[.slice af F.length cf, .slice at0 T.length ct] 28, plTab (.slice at0 T.length ct) vT T, plRow 3 1 encInt1 (.slice af F.length cf) F] := S.step hE
  clear hE
  cases v0 with
  | false =>
    go_wp2_with fail
    refine (alive_any _).mono ?_
    rintro e w8 ⟨b3, rfl, hb3, hE⟩
    obtain rfl : b3 = true := hb3.2 trivial
    clear hb3
    replace S : Sep w w8 [plRow 22 1 encSl (.slice (some ⟨(w4.heap.size + 1), 0, none⟩) 1 1) ([⟨some ⟨w4.heap.size, 0, none⟩, 1, 1⟩] : List Sl), plRow 3 1 encInt1 (.slice (some ⟨w4.heap.size, 0, none⟩) 1 1) ([(F.length : Int)] : List Int), plBox w1.heap.size #[.slice af F.length cf, .slice at0 T.length ct] 28, plTab (.slice at0 T.length ct) vT T, plRow 3 1 encInt1 (.slice af F.length cf) F] := S.step hE
    clear hE
    go_wp2
    go_ret
    exact RetB.mk true rfl (by simp) S.ext
  | true =>
    have HV := Lib.hid (Hv0.out.1 rfl)
    clear Hv0
    obtain ⟨mbc0, mbf0⟩ : w6.cell? ⟨w1.heap.size, 0, none⟩ = some (.slice af F.length cf) ∧ w6.frozen? ⟨w1.heap.size, 0, none⟩ = false := bx (S.box 2 rfl) 0 rfl
    obtain ⟨mbc1, mbf1⟩ : w6.cell? ⟨w1.heap.size, 1, none⟩ = some (.slice at0 T.length ct) ∧ w6.frozen? ⟨w1.heap.size, 1, none⟩ = false := bx (S.box 2 rfl) 1 rfl
    go_wp2_with fail
    clear mbc0 mbf0 mbc1 mbf1
    refine (implMemoryValid af cf F none 0 [] _ (by omega) (by simp) (S.rd 4 encInt1_len rfl rfl) RdT.nil).mono ?_
    rintro e w7 ⟨v3, rfl, hv3, hE⟩
    obtain rfl : v3 = true := hv3.2 (mem_none HV.out)
    clear hv3
    replace S : Sep w w7 [plRow 22 1 encSl (.slice (some ⟨(w4.heap.size + 1), 0, none⟩) 1 1) ([⟨some ⟨w4.heap.size, 0, none⟩, 1, 1⟩] : List Sl), plRow 3 1 encInt1 (.slice (some ⟨w4.heap.size, 0, none⟩) 1 1) ([(F.length : Int)] : List Int), plBox w1.heap.size #[.slice af F.length cf, .slice at0 T.length ct] 28, plTab (.slice at0 T.length ct) vT T, plRow 3 1 encInt1 (.slice af F.length cf) F] := S.step hE
    clear hE
    go_wp2_with fail
    refine (alive_any _).mono ?_
    rintro e w8 ⟨b3, rfl, hb3, hE⟩
    obtain rfl : b3 = true := hb3.2 trivial
    clear hb3
    replace S : Sep w w8 [plRow 22 1 encSl (.slice (some ⟨(w4.heap.size + 1), 0, none⟩) 1 1) ([⟨some ⟨w4.heap.size, 0, none⟩, 1, 1⟩] : List Sl), plRow 3 1 encInt1 (.slice (some ⟨w4.heap.size, 0, none⟩) 1 1) ([(F.length : Int)] : List Int), plBox w1.heap.size #[.slice af F.length cf, .slice at0 T.length ct] 28, plTab (.slice at0 T.length ct) vT T, plRow 3 1 encInt1 (.slice af F.length cf) F] := S.step hE
    clear hE
    go_wp2
    go_ret
    exact RetB.mk true rfl (by simp) S.ext
end Go.Proofs.Ytpnllhdgpfbaiaa
