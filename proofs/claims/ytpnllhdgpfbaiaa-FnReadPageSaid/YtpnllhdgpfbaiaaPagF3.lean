/- FnReadPage: the walk. Condition: the code is shorter than 2^63. -/
import Derived.Test.YtpnllhdgpfbaiaaDrawPg2
import Derived.Test.YtpnllhdgpfbaiaaPagP
import Derived.Test.YtpnllhdgpfbaiaaPagSm
import Derived.Test.YtpnllhdgpfbaiaaAlive
namespace Go.Proofs.Ytpnllhdgpfbaiaa
open Go.RowKit

set_option maxRecDepth 10000 in
set_option maxHeartbeats 8000000 in
theorem fnReadPage_any (ac : Option Addr) (capc : Nat) (code : List Int) (w : World) (hlc : code.length ≤ 9223372036854775807) (hcap : code.length ≤ capc) (hu : ∀ x ∈ code, 0 ≤ x ∧ x ≤ 255) (hcc : Rd 1 encU8 w ac code) :
    Calls Try.prog 7 #[.slice ac code.length capc] w (RetB True w) := by
  go_enter Try.func7, Try.ntmps7
  by_cases hbig : 1048576 < code.length
  · have hb : (1048576 : Int) < (code.length : Int) := by omega
    go_wp2
    go_ret
    exact RetB.mk true rfl (by simp) (Ext.refl _)
  have hb : (code.length : Int) ≤ 1048576 := by omega
  have S := Sep.start w
  go_wp2_with fail
  refine (drawReadPage ac capc code w hlc hcap hu hcc).mono ?_
  rintro e w1 ⟨v, who, page, rfl, af, cf, F, at0, ct, vT, T, rfl, hF14, hT6, hT4, hcf, hct, U⟩
  have HT4 : Hid (∀ t ∈ T, t.length ≤ 9223372036854775807) := Lib.hid (fun t ht => by have := hT4 t ht; omega)
  have HT44 := Lib.hid hT4
  clear hT4 hb hbig
  replace S : Sep w w1 [plTab (.slice at0 T.length ct) vT T, plRow 3 1 encInt1 (.slice af F.length cf) F] := S.call U
  clear U
  replace S : Sep w (w1.alloc (.cells #[.slice af F.length cf, .slice at0 T.length ct] 28)) [plBox w1.heap.size #[.slice af F.length cf, .slice at0 T.length ct] 28, plTab (.slice at0 T.length ct) vT T, plRow 3 1 encInt1 (.slice af F.length cf) F] := S.alloc_at (by simp) _ _
  obtain ⟨mbc0, mbf0⟩ : (w1.alloc (.cells #[.slice af F.length cf, .slice at0 T.length ct] 28)).cell? ⟨w1.heap.size, 0, none⟩ = some (.slice af F.length cf) ∧ (w1.alloc (.cells #[.slice af F.length cf, .slice at0 T.length ct] 28)).frozen? ⟨w1.heap.size, 0, none⟩ = false := bx (S.box 0 rfl) 0 rfl
  obtain ⟨mbc1, mbf1⟩ : (w1.alloc (.cells #[.slice af F.length cf, .slice at0 T.length ct] 28)).cell? ⟨w1.heap.size, 1, none⟩ = some (.slice at0 T.length ct) ∧ (w1.alloc (.cells #[.slice af F.length cf, .slice at0 T.length ct] 28)).frozen? ⟨w1.heap.size, 1, none⟩ = false := bx (S.box 0 rfl) 1 rfl
  go_wp2_with fail
  clear mbc0 mbf0 mbc1 mbf1
  generalize (w1.alloc (.cells #[.slice af F.length cf, .slice at0 T.length ct] 28)) = w2 at *
  refine (implReadPage af cf F at0 ct T who page _ (by omega) (by omega) (S.rd 2 encInt1_len rfl rfl) (S.rdt 1 rfl)).mono ?_
  rintro e w3 ⟨n, rfl, hR, U⟩
  have HR := Lib.hid hR
  clear hR
  replace S : Sep w w3 [plBox w1.heap.size #[.slice af F.length cf, .slice at0 T.length ct] 28, plTab (.slice at0 T.length ct) vT T, plRow 3 1 encInt1 (.slice af F.length cf) F] := S.step U.ext
  clear U
  obtain ⟨mbc0, mbf0⟩ : w3.cell? ⟨w1.heap.size, 0, none⟩ = some (.slice af F.length cf) ∧ w3.frozen? ⟨w1.heap.size, 0, none⟩ = false := bx (S.box 0 rfl) 0 rfl
  obtain ⟨mbc1, mbf1⟩ : w3.cell? ⟨w1.heap.size, 1, none⟩ = some (.slice at0 T.length ct) ∧ w3.frozen? ⟨w1.heap.size, 1, none⟩ = false := bx (S.box 0 rfl) 1 rfl
  go_wp2_with fail
  clear mbc0 mbf0 mbc1 mbf1
  refine (specReadPage af cf F at0 ct T who page _ (by omega) (by omega) (S.rd 2 encInt1_len rfl rfl) (S.rdt 1 rfl)).mono ?_
  rintro e w4 ⟨m, rfl, hR, U⟩
  obtain rfl := readR_fun HR.out hR
  clear hR
  replace S : Sep w w4 [plBox w1.heap.size #[.slice af F.length cf, .slice at0 T.length ct] 28, plTab (.slice at0 T.length ct) vT T, plRow 3 1 encInt1 (.slice af F.length cf) F] := S.step U.ext
  clear U
  have tnn : (n != n) = false := by simp
  obtain ⟨mbc0, mbf0⟩ : w4.cell? ⟨w1.heap.size, 0, none⟩ = some (.slice af F.length cf) ∧ w4.frozen? ⟨w1.heap.size, 0, none⟩ = false := bx (S.box 0 rfl) 0 rfl
  obtain ⟨mbc1, mbf1⟩ : w4.cell? ⟨w1.heap.size, 1, none⟩ = some (.slice at0 T.length ct) ∧ w4.frozen? ⟨w1.heap.size, 1, none⟩ = false := bx (S.box 0 rfl) 1 rfl
  go_wp2_with fail
  clear mbc0 mbf0 mbc1 mbf1
  refine (implMemoryValid af cf F at0 ct T _ (by omega) (by omega) (S.rd 2 encInt1_len rfl rfl) (S.rdt 1 rfl)).mono ?_
  rintro e w5 ⟨v0, rfl, hv0, hE⟩
  have Hv0 := Lib.hid hv0
  clear hv0
  replace S : Sep w w5 [plBox w1.heap.size #[.slice af F.length cf, .slice at0 T.length ct] 28, plTab (.slice at0 T.length ct) vT T, plRow 3 1 encInt1 (.slice af F.length cf) F] := S.step hE
  clear hE
  have out : (MemOk F T → pageAt T who page = none) → n = -1 := fun h => read_out h HR.out
  cases v0 with
  | false =>
    obtain rfl := out (fun h => Bool.noConfusion (Hv0.out.2 h))
    clear out
    obtain ⟨mbc0, mbf0⟩ : w5.cell? ⟨w1.heap.size, 0, none⟩ = some (.slice af F.length cf) ∧ w5.frozen? ⟨w1.heap.size, 0, none⟩ = false := bx (S.box 0 rfl) 0 rfl
    obtain ⟨mbc1, mbf1⟩ : w5.cell? ⟨w1.heap.size, 1, none⟩ = some (.slice at0 T.length ct) ∧ w5.frozen? ⟨w1.heap.size, 1, none⟩ = false := bx (S.box 0 rfl) 1 rfl
    go_wp2_with fail
    refine (alive_any _).mono ?_
    rintro e w8 ⟨b3, rfl, hb3, hE⟩
    obtain rfl : b3 = true := hb3.2 trivial
    clear hb3
    clear mbc0 mbf0 mbc1 mbf1
    replace S : Sep w w8 [plBox w1.heap.size #[.slice af F.length cf, .slice at0 T.length ct] 28, plTab (.slice at0 T.length ct) vT T, plRow 3 1 encInt1 (.slice af F.length cf) F] := S.step hE
    clear hE
    go_wp2
    go_ret
    exact RetB.mk true rfl (by simp) S.ext
  | true =>
    have HV := Lib.hid (Hv0.out.1 rfl)
    clear Hv0
    by_cases hw0 : who < 0
    · obtain rfl := out (fun _ => pageAt_who (by omega))
      clear out
      obtain ⟨mbc0, mbf0⟩ : w5.cell? ⟨w1.heap.size, 0, none⟩ = some (.slice af F.length cf) ∧ w5.frozen? ⟨w1.heap.size, 0, none⟩ = false := bx (S.box 0 rfl) 0 rfl
      obtain ⟨mbc1, mbf1⟩ : w5.cell? ⟨w1.heap.size, 1, none⟩ = some (.slice at0 T.length ct) ∧ w5.frozen? ⟨w1.heap.size, 1, none⟩ = false := bx (S.box 0 rfl) 1 rfl
      go_wp2_with fail
      refine (alive_any _).mono ?_
      rintro e w8 ⟨b3, rfl, hb3, hE⟩
      obtain rfl : b3 = true := hb3.2 trivial
      clear hb3
      clear mbc0 mbf0 mbc1 mbf1
      replace S : Sep w w8 [plBox w1.heap.size #[.slice af F.length cf, .slice at0 T.length ct] 28, plTab (.slice at0 T.length ct) vT T, plRow 3 1 encInt1 (.slice af F.length cf) F] := S.step hE
      clear hE
      go_wp2
      go_ret
      exact RetB.mk true rfl (by simp) S.ext
    by_cases hw1 : (T.length : Int) ≤ who
    · obtain rfl := out (fun _ => pageAt_who (by omega))
      clear out
      obtain ⟨mbc0, mbf0⟩ : w5.cell? ⟨w1.heap.size, 0, none⟩ = some (.slice af F.length cf) ∧ w5.frozen? ⟨w1.heap.size, 0, none⟩ = false := bx (S.box 0 rfl) 0 rfl
      obtain ⟨mbc1, mbf1⟩ : w5.cell? ⟨w1.heap.size, 1, none⟩ = some (.slice at0 T.length ct) ∧ w5.frozen? ⟨w1.heap.size, 1, none⟩ = false := bx (S.box 0 rfl) 1 rfl
      go_wp2_with fail
      refine (alive_any _).mono ?_
      rintro e w8 ⟨b3, rfl, hb3, hE⟩
      obtain rfl : b3 = true := hb3.2 trivial
      clear hb3
      clear mbc0 mbf0 mbc1 mbf1
      replace S : Sep w w8 [plBox w1.heap.size #[.slice af F.length cf, .slice at0 T.length ct] 28, plTab (.slice at0 T.length ct) vT T, plRow 3 1 encInt1 (.slice af F.length cf) F] := S.step hE
      clear hE
      go_wp2
      go_ret
      exact RetB.mk true rfl (by simp) S.ext
    obtain ⟨k, rfl⟩ : ∃ k : Nat, who = k := ⟨who.toNat, by omega⟩
    have hk : k < T.length := by omega
    by_cases hp0 : page < 0
    · obtain rfl := out (fun _ => pageAt_page (List.getElem?_eq_getElem hk) (by omega))
      clear out
      obtain ⟨mbc0, mbf0⟩ : w5.cell? ⟨w1.heap.size, 0, none⟩ = some (.slice af F.length cf) ∧ w5.frozen? ⟨w1.heap.size, 0, none⟩ = false := bx (S.box 0 rfl) 0 rfl
      obtain ⟨mbc1, mbf1⟩ : w5.cell? ⟨w1.heap.size, 1, none⟩ = some (.slice at0 T.length ct) ∧ w5.frozen? ⟨w1.heap.size, 1, none⟩ = false := bx (S.box 0 rfl) 1 rfl
      go_wp2_with fail
      refine (alive_any _).mono ?_
      rintro e w8 ⟨b3, rfl, hb3, hE⟩
      obtain rfl : b3 = true := hb3.2 trivial
      clear hb3
      clear mbc0 mbf0 mbc1 mbf1
      replace S : Sep w w8 [plBox w1.heap.size #[.slice af F.length cf, .slice at0 T.length ct] 28, plTab (.slice at0 T.length ct) vT T, plRow 3 1 encInt1 (.slice af F.length cf) F] := S.step hE
      clear hE
      go_wp2
      go_ret
      exact RetB.mk true rfl (by simp) S.ext
    obtain ⟨t, p, off, ai, ci, hx, hpe, c0, hci, hrt⟩ := atTab (S.rdt 1 rfl) hk
    subst hpe
    have Hx := Lib.hid hx
    clear hx
    have ik : (k : Int) < (T.length : Int) := by omega
    have ik0 : (0 : Int) ≤ (k : Int) := by omega
    by_cases hp1 : (t.length : Int) ≤ page
    · obtain rfl := out (fun _ => pageAt_page Hx.out (by omega))
      clear out
      obtain ⟨mbc0, mbf0⟩ : w5.cell? ⟨w1.heap.size, 0, none⟩ = some (.slice af F.length cf) ∧ w5.frozen? ⟨w1.heap.size, 0, none⟩ = false := bx (S.box 0 rfl) 0 rfl
      obtain ⟨mbc1, mbf1⟩ : w5.cell? ⟨w1.heap.size, 1, none⟩ = some (.slice (some ⟨p, off, none⟩) T.length ct) ∧ w5.frozen? ⟨w1.heap.size, 1, none⟩ = false := bx (S.box 0 rfl) 1 rfl
      go_wp2_with fail
      refine (alive_any _).mono ?_
      rintro e w8 ⟨b3, rfl, hb3, hE⟩
      obtain rfl : b3 = true := hb3.2 trivial
      clear hb3
      clear mbc0 mbf0 mbc1 mbf1
      replace S : Sep w w8 [plBox w1.heap.size #[.slice af F.length cf, .slice (some ⟨p, off, none⟩) T.length ct] 28, plTab (.slice (some ⟨p, off, none⟩) T.length ct) vT T, plRow 3 1 encInt1 (.slice af F.length cf) F] := S.step hE
      clear hE
      go_wp2
      go_ret
      exact RetB.mk true rfl (by simp) S.ext
    obtain ⟨j, rfl⟩ : ∃ j : Nat, page = j := ⟨page.toNat, by omega⟩
    have hj : j < t.length := by omega
    obtain ⟨f, p2, off2, hf, hpe, d0⟩ := atInt hrt hj
    subst hpe
    obtain ⟨g, rfl, hg⟩ := read_in HV.out Hx.out hf HR.out
    have hgl : g < F.length := (List.getElem?_eq_some_iff.1 hg).1
    obtain ⟨x, p3, off3, hxx, hpe, d1⟩ := atInt (S.rd 2 encInt1_len rfl rfl) hgl
    subst hpe
    obtain rfl : n = x := by rw [hg] at hxx; exact Option.some.inj hxx
    clear hg hxx hf out hrt
    have ij : (j : Int) < (t.length : Int) := by omega
    have ij0 : (0 : Int) ≤ (j : Int) := by omega
    have ig : (g : Int) < (F.length : Int) := by omega
    have ig0 : (0 : Int) ≤ (g : Int) := by omega
    obtain ⟨mbc0, mbf0⟩ : w5.cell? ⟨w1.heap.size, 0, none⟩ = some (.slice (some ⟨p3, off3, none⟩) F.length cf) ∧ w5.frozen? ⟨w1.heap.size, 0, none⟩ = false := bx (S.box 0 rfl) 0 rfl
    obtain ⟨mbc1, mbf1⟩ : w5.cell? ⟨w1.heap.size, 1, none⟩ = some (.slice (some ⟨p, off, none⟩) T.length ct) ∧ w5.frozen? ⟨w1.heap.size, 1, none⟩ = false := bx (S.box 0 rfl) 1 rfl
    go_wp2
    go_quiet (fail)
    go_wp2
    go_ret
    exact RetB.mk true rfl (by simp) (S.ext.trans ((Ext.refl _).drewN _))
end Go.Proofs.Ytpnllhdgpfbaiaa
