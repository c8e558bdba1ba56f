/- ForkMemory: contracts of the program's and of the reference's. Condition: rows shorter than 2^63. -/
import Derived.Test.YtpnllhdgpfbaiaaPagC
namespace Go.Proofs.Ytpnllhdgpfbaiaa
open Go.RowKit

/-- What ForkMemory gives. -/
def ForkR (F : List Int) (T : List (List Int)) (who : Int) (F2 : List Int) (T2 : List (List Int)) (ok : Bool) : Prop :=
  (¬ MemOk F T ∧ F2 = [] ∧ T2 = [] ∧ ok = false) ∨ (MemOk F T ∧ ¬ (0 ≤ who ∧ who ≤ (T.length : Int) - 1 ∧ T.length ≠ 4) ∧ F2 = F ∧ T2 = T ∧ ok = false) ∨
    (MemOk F T ∧ (0 ≤ who ∧ who ≤ (T.length : Int) - 1 ∧ T.length ≠ 4) ∧ ∃ t, T[who.toNat]? = some t ∧ F2 = F ∧ T2 = T ++ [t] ∧ ok = true)
theorem forkR_fun {F : List Int} {T : List (List Int)} {who : Int} {F2 F3 : List Int} {T2 T3 : List (List Int)} {ok ok3 : Bool} (h : ForkR F T who F2 T2 ok) (h' : ForkR F T who F3 T3 ok3) : F2 = F3 ∧ T2 = T3 ∧ ok = ok3 := by
  rcases h with ⟨h, rfl, rfl, rfl⟩ | ⟨h, k, rfl, rfl, rfl⟩ | ⟨h, k, t, ht, rfl, rfl, rfl⟩ <;> rcases h' with ⟨h', rfl, rfl, rfl⟩ | ⟨h', k', rfl, rfl, rfl⟩ | ⟨h', k', t', ht', rfl, rfl, rfl⟩
  · exact ⟨rfl, rfl, rfl⟩
  · exact absurd h' h
  · exact absurd h' h
  · exact absurd h h'
  · exact ⟨rfl, rfl, rfl⟩
  · exact absurd k' k
  · exact absurd h h'
  · exact absurd k k'
  · rw [ht] at ht'; cases ht'
    exact ⟨rfl, rfl, rfl⟩
theorem mem_lens {F : List Int} {T : List (List Int)} (h : MemOk F T) : F.length ≤ 1048576 ∧ T.length ≤ 1048576 ∧ ∀ t ∈ T, t.length ≤ 1048576 := ⟨by have := h.frames; omega, by have := h.tables; omega, fun t ht => by
  obtain ⟨k, hk⟩ := List.getElem?_of_mem ht
  have := (h.pages k t hk).1
  omega⟩

def VFi (w : World) (B ob bm p off k ct : Nat) (at0 : Option Addr) (ai : Option Addr) (ci nT : Nat) (ut : Value) (vs : List Sl) (T0 : List (List Int)) (t : List Int) (R : List Pl) : Nat → Value → World → Prop := fun i v wv => match i with
  | 0 => v = .pointer (some ⟨ob, 1, none⟩)
  | 1 => v = ut
  | 2 => v = .pointer (some ⟨bm, 1, none⟩)
  | 3 => v = .slice (some ⟨p, off, none⟩) nT ct
  | 4 => v = .int .i64 k
  | 5 => v = .pointer (some ⟨p, off + k, none⟩)
  | 6 => v = .slice ai t.length ci
  | 7 => wv.ownsRow B 3 1 v t.length (t.flatMap encInt1)
  | 8 => ∃ g, ∃ s : Sl, v = .slice (some ⟨g, 0, none⟩) 1 1 ∧ B ≤ g ∧ wv.heap[g]? = some (.cells #[s.v] 22) ∧ wv.ownsRow B 3 1 s.v t.length (t.flatMap encInt1)
  | 9 => ∃ vs2, Sep w wv (plTab v vs2 (T0 ++ [t]) :: R)
  | 10 => v = .pointer (some ⟨ob, 1, none⟩)
  | 11 => Sep w wv (plTab ut vs T0 :: R)
  | _ => True
theorem VFi.ext (w : World) (B ob bm p off k ct : Nat) (at0 : Option Addr) (ai : Option Addr) (ci nT : Nat) (ut : Value) (vs : List Sl) (T0 : List (List Int)) (t : List Int) (R : List Pl) (i : Nat) (v : Value) (w1 w2 : World) (h : VFi w B ob bm p off k ct at0 ai ci nT ut vs T0 t R i v w1) (hE : Ext w1 w2) : VFi w B ob bm p off k ct at0 ai ci nT ut vs T0 t R i v w2 := by
  match i with
  | 0 => exact h
  | 1 => exact h
  | 2 => exact h
  | 3 => exact h
  | 4 => exact h
  | 5 => exact h
  | 6 => exact h
  | 7 => exact ownsRow_ext (show w1.ownsRow _ _ _ _ _ _ from h) hE
  | 8 => obtain ⟨g, s, h1, h2, h3, h4⟩ := h; exact ⟨g, s, h1, h2, heapx hE h3, ownsRow_ext h4 hE⟩
  | 9 => obtain ⟨vs2, h1⟩ := h; exact ⟨vs2, h1.step hE⟩
  | 10 => exact h
  | 11 => exact SepM.step (show Sep w w1 _ from h) hE
  | (n + 12) => trivial

def VFs (w : World) (B ob bm p off k ct : Nat) (at0 : Option Addr) (ai : Option Addr) (ci nT : Nat) (ut : Value) (vs : List Sl) (T0 : List (List Int)) (t : List Int) (R : List Pl) : Nat → Value → World → Prop := fun i v wv => match i with
  | 0 => v = .pointer (some ⟨ob, 1, none⟩)
  | 1 => v = ut
  | 2 => ∃ g, v = .slice (some ⟨g, 0, none⟩) 0 0 ∧ B ≤ g ∧ wv.heap[g]? = some (.cells #[] 3)
  | 3 => v = .pointer (some ⟨bm, 1, none⟩)
  | 4 => v = .slice (some ⟨p, off, none⟩) nT ct
  | 5 => v = .int .i64 k
  | 6 => v = .pointer (some ⟨p, off + k, none⟩)
  | 7 => v = .slice ai t.length ci
  | 8 => wv.ownsRow B 3 1 v t.length (t.flatMap encInt1)
  | 9 => ∃ g, ∃ s : Sl, v = .slice (some ⟨g, 0, none⟩) 1 1 ∧ B ≤ g ∧ wv.heap[g]? = some (.cells #[s.v] 22) ∧ wv.ownsRow B 3 1 s.v t.length (t.flatMap encInt1)
  | 10 => ∃ vs2, Sep w wv (plTab v vs2 (T0 ++ [t]) :: R)
  | 11 => v = .pointer (some ⟨ob, 1, none⟩)
  | 12 => Sep w wv (plTab ut vs T0 :: R)
  | _ => True
theorem VFs.ext (w : World) (B ob bm p off k ct : Nat) (at0 : Option Addr) (ai : Option Addr) (ci nT : Nat) (ut : Value) (vs : List Sl) (T0 : List (List Int)) (t : List Int) (R : List Pl) (i : Nat) (v : Value) (w1 w2 : World) (h : VFs w B ob bm p off k ct at0 ai ci nT ut vs T0 t R i v w1) (hE : Ext w1 w2) : VFs w B ob bm p off k ct at0 ai ci nT ut vs T0 t R i v w2 := by
  match i with
  | 0 => exact h
  | 1 => exact h
  | 2 => obtain ⟨g, h1, h2, h3⟩ := h; exact ⟨g, h1, h2, heapx hE h3⟩
  | 3 => exact h
  | 4 => exact h
  | 5 => exact h
  | 6 => exact h
  | 7 => exact h
  | 8 => exact ownsRow_ext (show w1.ownsRow _ _ _ _ _ _ from h) hE
  | 9 => obtain ⟨g, s, h1, h2, h3, h4⟩ := h; exact ⟨g, s, h1, h2, heapx hE h3, ownsRow_ext h4 hE⟩
  | 10 => obtain ⟨vs2, h1⟩ := h; exact ⟨vs2, h1.step hE⟩
  | 11 => exact h
  | 12 => exact SepM.step (show Sep w w1 _ from h) hE
  | (n + 13) => trivial

set_option maxRecDepth 10000 in
set_option maxHeartbeats 8000000 in
theorem implForkMemory (af : Option Addr) (cf : Nat) (F : List Int) (at_ : Option Addr) (ct : Nat) (T : List (List Int)) (who : Int) (w : World) (hF : F.length ≤ 9223372036854775807) (hT : T.length ≤ 9223372036854775807) (hrf : Rd 1 encInt1 w af F) (hrt : RdT w at_ T) :
    Calls Try.prog 32 #[.agg #[.slice af F.length cf, .slice at_ T.length ct], .int .i64 who] w fun e w' => ∃ a1 c1 F2 a2 c2 vs T2 ok, e = .returned (.tuple #[.agg #[.slice a1 F2.length c1, .slice a2 T2.length c2], .bool ok]) ∧ ForkR F T who F2 T2 ok ∧ Sep w w' [plTab (.slice a2 T2.length c2) vs T2, plRow 3 1 encInt1 (.slice a1 F2.length c1) F2] := by
  go_enter Try.func32, Try.ntmps32
  have S := Sep.start w
  replace S : Sep w (w.alloc (.cells #[.slice af F.length cf, .slice at_ T.length ct] 28)) [plBox w.heap.size #[.slice af F.length cf, .slice at_ T.length ct] 28] := S.alloc_at (by simp) _ _
  replace S : Sep w ((w.alloc (.cells #[.slice af F.length cf, .slice at_ T.length ct] 28)).alloc (.cells #[.slice none 0 0, .slice none 0 0] 28)) [plBox (w.heap.size + 1) #[.slice none 0 0, .slice none 0 0] 28, plBox w.heap.size #[.slice af F.length cf, .slice at_ T.length ct] 28] := S.alloc_at (by simp) _ _
  go_wp2_with fail
  generalize ((w.alloc (.cells #[.slice af F.length cf, .slice at_ T.length ct] 28)).alloc (.cells #[.slice none 0 0, .slice none 0 0] 28)) = w1 at *
  refine (implMemoryValid af cf F at_ ct T w1 hF hT (hrf.ext S.ext) (hrt.ext S.ext)).mono ?_
  rintro e w2 ⟨v0, rfl, hv0, hE⟩
  have Hv0 := Lib.hid hv0
  clear hv0
  replace S : Sep w w2 [plBox (w.heap.size + 1) #[.slice none 0 0, .slice none 0 0] 28, plBox w.heap.size #[.slice af F.length cf, .slice at_ T.length ct] 28] := S.step hE
  clear hE
  cases v0 with
  | false =>
    have HR : Hid (ForkR F T who [] [] false) := Lib.hid (.inl ⟨fun h => Bool.noConfusion (Hv0.out.2 h), rfl, rfl, rfl⟩)
    obtain ⟨rbc0, rbf0⟩ : w2.cell? ⟨(w.heap.size + 1), 0, none⟩ = some (.slice none 0 0) ∧ w2.frozen? ⟨(w.heap.size + 1), 0, none⟩ = false := bx (S.box 0 rfl) 0 rfl
    obtain ⟨rbc1, rbf1⟩ : w2.cell? ⟨(w.heap.size + 1), 1, none⟩ = some (.slice none 0 0) ∧ w2.frozen? ⟨(w.heap.size + 1), 1, none⟩ = false := bx (S.box 0 rfl) 1 rfl
    obtain ⟨bmc0, bmf0⟩ : w2.cell? ⟨w.heap.size, 0, none⟩ = some (.slice af F.length cf) ∧ w2.frozen? ⟨w.heap.size, 0, none⟩ = false := bx (S.box 1 rfl) 0 rfl
    obtain ⟨bmc1, bmf1⟩ : w2.cell? ⟨w.heap.size, 1, none⟩ = some (.slice at_ T.length ct) ∧ w2.frozen? ⟨w.heap.size, 1, none⟩ = false := bx (S.box 1 rfl) 1 rfl
    go_wp2
    try simp only [Exit.inBlock, Exit.then]
    refine bodyPost_ret (v := .tuple #[.agg #[.slice none 0 0, .slice none 0 0], .bool false]) (by simp [results, Try.results32, go_sem, rbc0, rbc1]) rfl ?_
    replace S : Sep w (w2.setCell ⟨(w.heap.size + 1), 0, none⟩ (.slice none 0 0)) [plBox (w.heap.size + 1) #[.slice none 0 0, .slice none 0 0] 28, plBox w.heap.size #[.slice af F.length cf, .slice at_ T.length ct] 28] := S.set 0 rfl 0 _
    replace S : Sep w ((w2.setCell ⟨(w.heap.size + 1), 0, none⟩ (.slice none 0 0)).setCell ⟨(w.heap.size + 1), 1, none⟩ (.slice none 0 0)) [plBox (w.heap.size + 1) #[.slice none 0 0, .slice none 0 0] 28, plBox w.heap.size #[.slice af F.length cf, .slice at_ T.length ct] 28] := S.set 0 rfl 1 _
    replace S : Sep w ((w2.setCell ⟨(w.heap.size + 1), 0, none⟩ (.slice none 0 0)).setCell ⟨(w.heap.size + 1), 1, none⟩ (.slice none 0 0)) [plBox w.heap.size #[.slice af F.length cf, .slice at_ T.length ct] 28] := S.drop 0
    replace S : Sep w ((w2.setCell ⟨(w.heap.size + 1), 0, none⟩ (.slice none 0 0)).setCell ⟨(w.heap.size + 1), 1, none⟩ (.slice none 0 0)) [] := S.drop 0
    exact ⟨none, 0, [], none, 0, [], [], false, rfl, HR.out, (S.nil _ _ _).tabNil⟩
  | true =>
    have HMO := Lib.hid (Hv0.out.1 rfl)
    have HLT := Lib.hid (mem_lens HMO.out).2.2
    have hlF := (mem_lens HMO.out).1
    have hlT := (mem_lens HMO.out).2.1
    clear Hv0
    obtain ⟨bmc0, bmf0⟩ : w2.cell? ⟨w.heap.size, 0, none⟩ = some (.slice af F.length cf) ∧ w2.frozen? ⟨w.heap.size, 0, none⟩ = false := bx (S.box 1 rfl) 0 rfl
    obtain ⟨bmc1, bmf1⟩ : w2.cell? ⟨w.heap.size, 1, none⟩ = some (.slice at_ T.length ct) ∧ w2.frozen? ⟨w.heap.size, 1, none⟩ = false := bx (S.box 1 rfl) 1 rfl
    go_wp2_with fail
    clear bmc0 bmf0 bmc1 bmf1
    refine (copyMem_any af cf F at_ ct T w2 hlF hlT HLT.out (hrf.ext S.ext) (hrt.ext S.ext)).mono ?_
    rintro e w3 ⟨a1, c1, a2, c2, vs, rfl, hk1, hk2, U⟩
    replace S : Sep w w3 [plTab (.slice a2 T.length c2) vs T, plRow 3 1 encInt1 (.slice a1 F.length c1) F, plBox (w.heap.size + 1) #[.slice none 0 0, .slice none 0 0] 28, plBox w.heap.size #[.slice af F.length cf, .slice at_ T.length ct] 28] := S.call U
    clear U
    obtain ⟨B2, hB2⟩ : ∃ B2, B2 = w3.heap.size := ⟨_, rfl⟩
    have hwr : IntKind.i64.wrap ((T.length : Int) - 1) = (T.length : Int) - 1 := IntWalk.i64_in _ (by omega)
    replace S : Sep w (w3.alloc (.cells #[.slice a1 F.length c1, .slice a2 T.length c2] 28)) [plBox w3.heap.size #[.slice a1 F.length c1, .slice a2 T.length c2] 28, plTab (.slice a2 T.length c2) vs T, plRow 3 1 encInt1 (.slice a1 F.length c1) F, plBox (w.heap.size + 1) #[.slice none 0 0, .slice none 0 0] 28, plBox w.heap.size #[.slice af F.length cf, .slice at_ T.length ct] 28] := S.alloc_at (by simp) _ _
    obtain ⟨bmc0, bmf0⟩ : (w3.alloc (.cells #[.slice a1 F.length c1, .slice a2 T.length c2] 28)).cell? ⟨w.heap.size, 0, none⟩ = some (.slice af F.length cf) ∧ (w3.alloc (.cells #[.slice a1 F.length c1, .slice a2 T.length c2] 28)).frozen? ⟨w.heap.size, 0, none⟩ = false := bx (S.box 4 rfl) 0 rfl
    obtain ⟨bmc1, bmf1⟩ : (w3.alloc (.cells #[.slice a1 F.length c1, .slice a2 T.length c2] 28)).cell? ⟨w.heap.size, 1, none⟩ = some (.slice at_ T.length ct) ∧ (w3.alloc (.cells #[.slice a1 F.length c1, .slice a2 T.length c2] 28)).frozen? ⟨w.heap.size, 1, none⟩ = false := bx (S.box 4 rfl) 1 rfl
    by_cases hwho : 0 ≤ who ∧ who ≤ (T.length : Int) - 1
    · have ein := inB_iff.2 hwho
      by_cases h4 : T.length = 4
      · have t4 : ((T.length : Int) == 4) = true := by simp; omega
        have HR : Hid (ForkR F T who F T false) := Lib.hid (.inr (.inl ⟨HMO.out, fun h => h.2.2 h4, rfl, rfl, rfl⟩))
        clear hwho h4
        go_upto_region 5 with (go_at_call 47; refine ((within_any _ _ _ _).mono (fun e w2 h => by rw [ein] at h; exact h)).mono ?_; rintro e w' ⟨rfl, rfl⟩)
        clear bmc0 bmf0 bmc1 bmf1
        generalize (w3.alloc (.cells #[.slice a1 F.length c1, .slice a2 T.length c2] 28)) = w4 at *
        rw [← hB2] at *
        clear hB2
        obtain ⟨obc0, obf0⟩ : w4.cell? ⟨B2, 0, none⟩ = some (.slice a1 F.length c1) ∧ w4.frozen? ⟨B2, 0, none⟩ = false := bx (S.box 0 rfl) 0 rfl
        obtain ⟨obc1, obf1⟩ : w4.cell? ⟨B2, 1, none⟩ = some (.slice a2 T.length c2) ∧ w4.frozen? ⟨B2, 1, none⟩ = false := bx (S.box 0 rfl) 1 rfl
        obtain ⟨rbc0, rbf0⟩ : w4.cell? ⟨(w.heap.size + 1), 0, none⟩ = some (.slice none 0 0) ∧ w4.frozen? ⟨(w.heap.size + 1), 0, none⟩ = false := bx (S.box 3 rfl) 0 rfl
        obtain ⟨rbc1, rbf1⟩ : w4.cell? ⟨(w.heap.size + 1), 1, none⟩ = some (.slice none 0 0) ∧ w4.frozen? ⟨(w.heap.size + 1), 1, none⟩ = false := bx (S.box 3 rfl) 1 rfl
        obtain ⟨bmc0, bmf0⟩ : w4.cell? ⟨w.heap.size, 0, none⟩ = some (.slice af F.length cf) ∧ w4.frozen? ⟨w.heap.size, 0, none⟩ = false := bx (S.box 4 rfl) 0 rfl
        obtain ⟨bmc1, bmf1⟩ : w4.cell? ⟨w.heap.size, 1, none⟩ = some (.slice at_ T.length ct) ∧ w4.frozen? ⟨w.heap.size, 1, none⟩ = false := bx (S.box 4 rfl) 1 rfl
        go_wp2
        try simp only [Exit.inBlock, Exit.then]
        refine bodyPost_ret (v := .tuple #[.agg #[.slice a1 F.length c1, .slice a2 T.length c2], .bool false]) (by simp [results, Try.results32, go_sem, rbc0, rbc1, obc0, obc1]) rfl ?_
        replace S : Sep w (w4.setCell ⟨(w.heap.size + 1), 0, none⟩ (.slice a1 F.length c1)) [plBox B2 #[.slice a1 F.length c1, .slice a2 T.length c2] 28, plTab (.slice a2 T.length c2) vs T, plRow 3 1 encInt1 (.slice a1 F.length c1) F, plBox (w.heap.size + 1) #[.slice a1 F.length c1, .slice none 0 0] 28, plBox w.heap.size #[.slice af F.length cf, .slice at_ T.length ct] 28] := S.set 3 rfl 0 _
        replace S : Sep w ((w4.setCell ⟨(w.heap.size + 1), 0, none⟩ (.slice a1 F.length c1)).setCell ⟨(w.heap.size + 1), 1, none⟩ (.slice a2 T.length c2)) [plBox B2 #[.slice a1 F.length c1, .slice a2 T.length c2] 28, plTab (.slice a2 T.length c2) vs T, plRow 3 1 encInt1 (.slice a1 F.length c1) F, plBox (w.heap.size + 1) #[.slice a1 F.length c1, .slice a2 T.length c2] 28, plBox w.heap.size #[.slice af F.length cf, .slice at_ T.length ct] 28] := S.set 3 rfl 1 _
        replace S : Sep w ((w4.setCell ⟨(w.heap.size + 1), 0, none⟩ (.slice a1 F.length c1)).setCell ⟨(w.heap.size + 1), 1, none⟩ (.slice a2 T.length c2)) [plTab (.slice a2 T.length c2) vs T, plRow 3 1 encInt1 (.slice a1 F.length c1) F, plBox (w.heap.size + 1) #[.slice a1 F.length c1, .slice a2 T.length c2] 28, plBox w.heap.size #[.slice af F.length cf, .slice at_ T.length ct] 28] := S.drop 0
        replace S : Sep w ((w4.setCell ⟨(w.heap.size + 1), 0, none⟩ (.slice a1 F.length c1)).setCell ⟨(w.heap.size + 1), 1, none⟩ (.slice a2 T.length c2)) [plTab (.slice a2 T.length c2) vs T, plRow 3 1 encInt1 (.slice a1 F.length c1) F, plBox w.heap.size #[.slice af F.length cf, .slice at_ T.length ct] 28] := S.drop 2
        replace S : Sep w ((w4.setCell ⟨(w.heap.size + 1), 0, none⟩ (.slice a1 F.length c1)).setCell ⟨(w.heap.size + 1), 1, none⟩ (.slice a2 T.length c2)) [plTab (.slice a2 T.length c2) vs T, plRow 3 1 encInt1 (.slice a1 F.length c1) F] := S.drop 2
        exact ⟨a1, c1, F, a2, c2, vs, T, false, rfl, HR.out, S⟩
      · have t4 : ((T.length : Int) == 4) = false := by simp; omega
        obtain ⟨k, rfl⟩ : ∃ k : Nat, who = k := ⟨who.toNat, by omega⟩
        have hlk : k < T.length := by omega
        have HW : Hid (0 ≤ (k : Int) ∧ (k : Int) ≤ (T.length : Int) - 1 ∧ T.length ≠ 4) := Lib.hid ⟨hwho.1, hwho.2, h4⟩
        clear hwho h4
        go_upto_region 6 with (go_at_call 47; refine ((within_any _ _ _ _).mono (fun e w2 h => by rw [ein] at h; exact h)).mono ?_; rintro e w' ⟨rfl, rfl⟩)
        clear ein t4 hwr
        clear bmc0 bmf0 bmc1 bmf1
        generalize (w3.alloc (.cells #[.slice a1 F.length c1, .slice a2 T.length c2] 28)) = wr at *
        rw [← hB2] at *
        clear hB2
        obtain ⟨t, p, off, ai, ci, ht, hpe, c0, hci, hrt1⟩ := atTab (hrt.ext S.ext) hlk
        subst hpe
        have HR0 : Hid (ForkR F T k F (T ++ [t]) true) := Lib.hid (.inr (.inr ⟨HMO.out, HW.out, t, by simpa using ht, rfl, rfl, rfl⟩))
        have htl := HLT.out t (List.mem_of_getElem? ht)
        have hrtk := tab_find (ct := ct) hrt S.ext ht c0
        replace S := S.perm (List.Perm.swap _ _ _)
        obtain ⟨ut, hut⟩ : ∃ ut, ut = Value.slice a2 T.length c2 := ⟨_, rfl⟩
        rw [← hut] at S
        obtain ⟨R, hR⟩ : ∃ R, R = [plBox B2 #[.slice a1 F.length c1, ut] 28, plRow 3 1 encInt1 (.slice a1 F.length c1) F, plBox (w.heap.size + 1) #[.slice none 0 0, .slice none 0 0] 28, plBox w.heap.size #[.slice af F.length cf, .slice (some ⟨p, off, none⟩) T.length ct] 28] := ⟨_, rfl⟩
        have hob0 := (bx (S.box 1 rfl) 1 rfl).1
        have hbm0 := (bx (S.box 4 rfl) 1 rfl).1
        have hob1 : ∀ w4, Chg (fun b => ut.ownBlock = some b) (World.drew wr) w4 → w4.cell? ⟨B2, 1, none⟩ = some ut := fun w4 hI => cell_chg (w := World.drew wr) hob0 hI (fun e => S.ne (i := 0) (j := 1) rfl rfl (by decide) (b := B2) (.inl e) rfl)
        have hbm1 : ∀ w4, Chg (fun b => ut.ownBlock = some b) (World.drew wr) w4 → w4.cell? ⟨w.heap.size, 1, none⟩ = some (.slice (some ⟨p, off, none⟩) T.length ct) := fun w4 hI => cell_chg (w := World.drew wr) hbm0 hI (fun e => S.ne (i := 0) (j := 4) rfl rfl (by decide) (b := w.heap.size) (.inl e) rfl)
        replace S : Sep w wr (plTab ut vs T :: R) := by rw [hR]; exact S
        have HRR := Lib.hid hR
        have i0 : (k : Int) < (T.length : Int) := by omega
        have hTle : T.length ≤ 1048576 := hlT
        clear hR hut ht hrt1 hob0 hbm0 c0
        have hI0 : ∀ wv, Chg (fun b => ut.ownBlock = some b) (World.drew wr) wv → Ext w wv := fun wv hI => Chg.ext (S.ext.drew) hI (fun b hb => (S.lt (List.mem_cons_self ..) (show (plTab ut vs T).own b from .inl hb)).1)
        have hHB : ∀ q ∈ plTab ut vs T :: R, ∀ b, q.own b → b < wr.heap.size := fun q hq b hb => (S.lt hq hb).2
        have Sd : Sep w (World.drew wr) (plTab ut vs T :: R) := S.drew
        refine wp_region_c (V := VFi w wr.heap.size B2 w.heap.size p off k ct none ai ci T.length ut vs T t R) (Chg (fun b => ut.ownBlock = some b) (World.drew wr)) (fun i => if i = 11 then some 9 else none) [] 11 1 rfl (by decide) (by kernel_rfl) (by kernel_rfl) (by kernel_rfl) (by kernel_rfl) (Chg.refl _ _) (fun r hr => match r, hr with | 0, _ => Sd) ?_ ?_
        · intro i o hi ho vz w4 hvl hE hd hrest
          have hE4 := hI0 w4 hE
          have hsz : wr.heap.size ≤ w4.heap.size := hE.size
          match vz, hvl with
          | [y0, y1, y2, y3, y4, y5, y6, y7, y8, y9, y10], _ =>
          rcases (show i = 0 ∨ i = 1 ∨ i = 2 ∨ i = 3 ∨ i = 4 ∨ i = 5 ∨ i = 6 ∨ i = 7 ∨ i = 8 ∨ i = 9 ∨ i = 10 by omega) with rfl | rfl | rfl | rfl | rfl | rfl | rfl | rfl | rfl | rfl | rfl
          all_goals
            simp only [List.getElem?_cons_zero, List.getElem?_cons_succ, Option.some.injEq] at ho
            subst ho
          · clear hd hrest
            simp [putAll, Act.put]
            go_wp2
            exact OneC.mk (V := VFi w wr.heap.size B2 w.heap.size p off k ct none ai ci T.length ut vs T t R) (VFi.ext w wr.heap.size B2 w.heap.size p off k ct none ai ci T.length ut vs T t R) rfl rfl hE (Ext.refl _)
          · have q0 : y0 = .pointer (some ⟨B2, 1, none⟩) := hd ⟨0, .data⟩ (by simp) rfl (by decide)
            have c0 := hob1 w4 hE
            subst q0
            clear hd hrest
            simp [putAll, Act.put]
            go_wp2
            exact OneC.mk (V := VFi w wr.heap.size B2 w.heap.size p off k ct none ai ci T.length ut vs T t R) (VFi.ext w wr.heap.size B2 w.heap.size p off k ct none ai ci T.length ut vs T t R) rfl rfl hE (Ext.refl _)
          · clear hd hrest
            simp [putAll, Act.put]
            go_wp2
            exact OneC.mk (V := VFi w wr.heap.size B2 w.heap.size p off k ct none ai ci T.length ut vs T t R) (VFi.ext w wr.heap.size B2 w.heap.size p off k ct none ai ci T.length ut vs T t R) rfl rfl hE (Ext.refl _)
          · have q0 : y2 = .pointer (some ⟨w.heap.size, 1, none⟩) := hd ⟨2, .data⟩ (by simp) rfl (by decide)
            have c0 := hbm1 w4 hE
            subst q0
            clear hd hrest
            simp [putAll, Act.put]
            go_wp2
            exact OneC.mk (V := VFi w wr.heap.size B2 w.heap.size p off k ct none ai ci T.length ut vs T t R) (VFi.ext w wr.heap.size B2 w.heap.size p off k ct none ai ci T.length ut vs T t R) rfl rfl hE (Ext.refl _)
          · clear hd hrest
            simp [putAll, Act.put]
            go_wp2
            exact OneC.mk (V := VFi w wr.heap.size B2 w.heap.size p off k ct none ai ci T.length ut vs T t R) (VFi.ext w wr.heap.size B2 w.heap.size p off k ct none ai ci T.length ut vs T t R) rfl rfl hE (Ext.refl _)
          · have q0 : y3 = .slice (some ⟨p, off, none⟩) T.length ct := hd ⟨3, .data⟩ (by simp) rfl (by decide)
            have q1 : y4 = .int .i64 k := hd ⟨4, .data⟩ (by simp) rfl (by decide)
            subst q0 q1
            clear hd hrest
            simp [putAll, Act.put]
            go_wp2
            exact OneC.mk (V := VFi w wr.heap.size B2 w.heap.size p off k ct none ai ci T.length ut vs T t R) (VFi.ext w wr.heap.size B2 w.heap.size p off k ct none ai ci T.length ut vs T t R) rfl rfl hE (Ext.refl _)
          · have q0 : y5 = .pointer (some ⟨p, off + k, none⟩) := hd ⟨5, .data⟩ (by simp) rfl (by decide)
            obtain ⟨c0, _⟩ := hrtk w4 hE4
            subst q0
            clear hd hrest
            simp [putAll, Act.put]
            go_wp2
            exact OneC.mk (V := VFi w wr.heap.size B2 w.heap.size p off k ct none ai ci T.length ut vs T t R) (VFi.ext w wr.heap.size B2 w.heap.size p off k ct none ai ci T.length ut vs T t R) rfl rfl hE (Ext.refl _)
          · have q0 : y6 = .slice ai t.length ci := hd ⟨6, .data⟩ (by simp) rfl (by decide)
            obtain ⟨_, hr4⟩ := hrtk w4 hE4
            subst q0
            clear hd hrest
            simp [putAll, Act.put]
            go_wp2_with fail
            refine (cloneInt_any ai ci t.length t w4 rfl htl hr4).mono ?_
            rintro e w5 ⟨v5, rfl, ho5, hE5⟩
            have h9 := ownsRow_base ho5 hsz
            clear ho5
            go_wp2
            exact OneC.mk (V := VFi w wr.heap.size B2 w.heap.size p off k ct none ai ci T.length ut vs T t R) (VFi.ext w wr.heap.size B2 w.heap.size p off k ct none ai ci T.length ut vs T t R) rfl h9 (hE.trans (Chg.of_ext hE5)) hE5
          · have q0 : w4.ownsRow (wr.heap.size) 3 1 y7 t.length (t.flatMap encInt1) := hd ⟨7, .data⟩ (by simp) rfl (by decide)
            obtain ⟨a6, c6, hv6, _⟩ := view_owns encInt1_len q0
            subst hv6
            clear hd hrest
            have hx := ownsRow_ext q0 ((Ext.refl w4).alloc (.cells #[.slice a6 t.length c6] 22))
            have Hx := Lib.hid hx
            clear hx q0
            simp [putAll, Act.put]
            go_wp2
            exact OneC.mk (V := VFi w wr.heap.size B2 w.heap.size p off k ct none ai ci T.length ut vs T t R) (VFi.ext w wr.heap.size B2 w.heap.size p off k ct none ai ci T.length ut vs T t R) rfl ⟨_, ⟨a6, t.length, c6⟩, rfl, hsz, heap_alloc_new w4 _, Hx.out⟩ (hE.trans (Chg.of_ext ((Ext.refl w4).alloc _))) ((Ext.refl _).alloc _)
          · have q0 : ut = y1 := (show y1 = ut from hd ⟨1, .data⟩ (by simp) rfl (by decide)).symm
            obtain ⟨g, s, q1, hg1, hg2, hs4⟩ : ∃ g, ∃ s : Sl, y8 = .slice (some ⟨g, 0, none⟩) 1 1 ∧ wr.heap.size ≤ g ∧ w4.heap[g]? = some (.cells #[s.v] 22) ∧ w4.ownsRow (wr.heap.size) 3 1 s.v t.length (t.flatMap encInt1) := hd ⟨8, .data⟩ (by simp) rfl (by decide)
            have S4 : Sep w w4 (plTab ut vs T :: R) := hrest 0 (by omega) (.inr rfl)
            have S5 : Sep w w4 (plRow 3 1 encInt1 s.v t :: plTab ut vs T :: R) := S4.consAt (B := wr.heap.size) (p := plRow 3 1 encInt1 s.v t) (ownsRow_base hs4 (Nat.zero_le _)) S.ext.size (fun b hb => (World.ownsRow.lt hs4 b hb).1) hHB
            have hrow := S5.tabRow 1 rfl
            have hvl := tab_len (S5.at_ 1 rfl)
            have hrd : Rd 1 encSl w4 (some ⟨g, 0, none⟩) [s] := rd_lit [s] encSl_len hg2 rfl
            have hvs : vs.length ≤ 1048576 := by omega
            subst q0 q1
            clear hd hrest S4
            simp [putAll, Act.put]
            refine wpList_append_b rfl _ _ 23 rfl w.heap.size 22 _ 1 _ Try.underlying23 infoSl rfl (by decide) encSl_len encSl_one _ vs.length vs rfl hrow rfl (some ⟨g, 0, none⟩) 1 1 [s] rfl rfl hrd (by omega) (by omega) hE4.size ?_
            intro v5 w5 ho5 hgr hblk
            have S6 : Sep w w5 (plTab v5 (vs ++ [s]) (T ++ [t]) :: R) := S5.tabPush 1 0 rfl rfl (by decide) hgr ho5 hblk
            have hch : Chg (fun b => ut.ownBlock = some b) w4 w5 := Chg.of_grown hgr
            have hnB : ∀ b, wr.heap.size ≤ b → ¬ ut.ownBlock = some b := fun b h1 h2 => by
              have := hHB _ (List.mem_cons_self ..) b (.inl h2)
              omega
            clear ho5 hblk hrow hrd S5 hgr
            go_wp2
            refine ⟨rfl, _, rfl, ⟨_, S6⟩, hE.trans hch, fun i u hi hne hcon hnd hnc hv => ?_⟩
            match i with
            | 0 => exact hv
            | 1 => exact hv
            | 2 => exact hv
            | 3 => exact hv
            | 4 => exact hv
            | 5 => exact hv
            | 6 => exact hv
            | 7 => exact ownsRow_chg (show w4.ownsRow _ _ _ _ _ _ from hv) hch hnB
            | 8 => obtain ⟨g1, s1, h1, h2, h3, h4⟩ := hv; exact ⟨g1, s1, h1, h2, heap_chg h3 hch (hnB g1 h2), ownsRow_chg h4 hch hnB⟩
            | 9 => exact absurd rfl hne
            | 10 => exact hv
            | 11 => exact absurd rfl hcon
            | (n + 12) => trivial
          · clear hd hrest
            simp [putAll, Act.put]
            go_wp2
            exact OneC.mk (V := VFi w wr.heap.size B2 w.heap.size p off k ct none ai ci T.length ut vs T t R) (VFi.ext w wr.heap.size B2 w.heap.size p off k ct none ai ci T.length ut vs T t R) rfl rfl hE (Ext.refl _)
        intro vz w11 hvl hE hV _
        match vz, hvl with
        | [y0, y1, y2, y3, y4, y5, y6, y7, y8, y9, y10], _ =>
        obtain ⟨vs2, S11⟩ : ∃ vs2, Sep w w11 (plTab y9 vs2 (T ++ [t]) :: R) := hV 9 (by omega) rfl
        have e9 : y10 = .pointer (some ⟨B2, 1, none⟩) := hV 10 (by omega) rfl
        clear hV hI0 hHB Sd hE hob1 hbm1
        subst e9
        obtain ⟨a11, c11, hv11, hk11, _, _⟩ := S11.tab 0 rfl
        subst hv11
        obtain ⟨n11, hn11⟩ : ∃ n, n = (T ++ [t]).length := ⟨_, rfl⟩
        rw [← hn11] at S11 hk11 ⊢
        have HN11 := Lib.hid hn11
        clear hn11
        simp only [putAll, Act.put, List.take_succ_cons, List.take_zero, List.drop_succ_cons, List.drop_zero]
        simp
        rw [HRR.out] at S11
        clear hrtk S
        have S : Sep w w11 [plTab (.slice a11 n11 c11) vs2 (T ++ [t]), plBox B2 #[.slice a1 F.length c1, ut] 28, plRow 3 1 encInt1 (.slice a1 F.length c1) F, plBox (w.heap.size + 1) #[.slice none 0 0, .slice none 0 0] 28, plBox w.heap.size #[.slice af F.length cf, .slice (some ⟨p, off, none⟩) T.length ct] 28] := S11
        clear S11
        have hne1 : B2 ≠ w.heap.size + 1 := S.bne 1 3 rfl rfl (by decide)
        have hne2 : w.heap.size + 1 ≠ B2 := fun e => hne1 e.symm
        obtain ⟨obc0, obf0⟩ : w11.cell? ⟨B2, 0, none⟩ = some (.slice a1 F.length c1) ∧ w11.frozen? ⟨B2, 0, none⟩ = false := bx (S.box 1 rfl) 0 rfl
        obtain ⟨obc1, obf1⟩ : w11.cell? ⟨B2, 1, none⟩ = some ut ∧ w11.frozen? ⟨B2, 1, none⟩ = false := bx (S.box 1 rfl) 1 rfl
        obtain ⟨rbc0, rbf0⟩ : w11.cell? ⟨(w.heap.size + 1), 0, none⟩ = some (.slice none 0 0) ∧ w11.frozen? ⟨(w.heap.size + 1), 0, none⟩ = false := bx (S.box 3 rfl) 0 rfl
        obtain ⟨rbc1, rbf1⟩ : w11.cell? ⟨(w.heap.size + 1), 1, none⟩ = some (.slice none 0 0) ∧ w11.frozen? ⟨(w.heap.size + 1), 1, none⟩ = false := bx (S.box 3 rfl) 1 rfl
        obtain ⟨bmc0, bmf0⟩ : w11.cell? ⟨w.heap.size, 0, none⟩ = some (.slice af F.length cf) ∧ w11.frozen? ⟨w.heap.size, 0, none⟩ = false := bx (S.box 4 rfl) 0 rfl
        obtain ⟨bmc1, bmf1⟩ : w11.cell? ⟨w.heap.size, 1, none⟩ = some (.slice (some ⟨p, off, none⟩) T.length ct) ∧ w11.frozen? ⟨w.heap.size, 1, none⟩ = false := bx (S.box 4 rfl) 1 rfl
        go_wp2
        try simp only [Exit.inBlock, Exit.then]
        refine bodyPost_ret (v := .tuple #[.agg #[.slice a1 F.length c1, .slice a11 n11 c11], .bool true]) (by simp [results, Try.results32, go_sem, rbc0, rbc1, obc0, obc1]) rfl ?_
        replace S : Sep w (w11.setCell ⟨B2, 1, none⟩ (.slice a11 n11 c11)) [plTab (.slice a11 n11 c11) vs2 (T ++ [t]), plBox B2 #[.slice a1 F.length c1, .slice a11 n11 c11] 28, plRow 3 1 encInt1 (.slice a1 F.length c1) F, plBox (w.heap.size + 1) #[.slice none 0 0, .slice none 0 0] 28, plBox w.heap.size #[.slice af F.length cf, .slice (some ⟨p, off, none⟩) T.length ct] 28] := S.set 1 rfl 1 _
        replace S : Sep w ((w11.setCell ⟨B2, 1, none⟩ (.slice a11 n11 c11)).setCell ⟨(w.heap.size + 1), 0, none⟩ (.slice a1 F.length c1)) [plTab (.slice a11 n11 c11) vs2 (T ++ [t]), plBox B2 #[.slice a1 F.length c1, .slice a11 n11 c11] 28, plRow 3 1 encInt1 (.slice a1 F.length c1) F, plBox (w.heap.size + 1) #[.slice a1 F.length c1, .slice none 0 0] 28, plBox w.heap.size #[.slice af F.length cf, .slice (some ⟨p, off, none⟩) T.length ct] 28] := S.set 3 rfl 0 _
        replace S : Sep w (((w11.setCell ⟨B2, 1, none⟩ (.slice a11 n11 c11)).setCell ⟨(w.heap.size + 1), 0, none⟩ (.slice a1 F.length c1)).setCell ⟨(w.heap.size + 1), 1, none⟩ (.slice a11 n11 c11)) [plTab (.slice a11 n11 c11) vs2 (T ++ [t]), plBox B2 #[.slice a1 F.length c1, .slice a11 n11 c11] 28, plRow 3 1 encInt1 (.slice a1 F.length c1) F, plBox (w.heap.size + 1) #[.slice a1 F.length c1, .slice a11 n11 c11] 28, plBox w.heap.size #[.slice af F.length cf, .slice (some ⟨p, off, none⟩) T.length ct] 28] := S.set 3 rfl 1 _
        replace S : Sep w (((w11.setCell ⟨B2, 1, none⟩ (.slice a11 n11 c11)).setCell ⟨(w.heap.size + 1), 0, none⟩ (.slice a1 F.length c1)).setCell ⟨(w.heap.size + 1), 1, none⟩ (.slice a11 n11 c11)) [plTab (.slice a11 n11 c11) vs2 (T ++ [t]), plRow 3 1 encInt1 (.slice a1 F.length c1) F, plBox (w.heap.size + 1) #[.slice a1 F.length c1, .slice a11 n11 c11] 28, plBox w.heap.size #[.slice af F.length cf, .slice (some ⟨p, off, none⟩) T.length ct] 28] := S.drop 1
        replace S : Sep w (((w11.setCell ⟨B2, 1, none⟩ (.slice a11 n11 c11)).setCell ⟨(w.heap.size + 1), 0, none⟩ (.slice a1 F.length c1)).setCell ⟨(w.heap.size + 1), 1, none⟩ (.slice a11 n11 c11)) [plTab (.slice a11 n11 c11) vs2 (T ++ [t]), plRow 3 1 encInt1 (.slice a1 F.length c1) F, plBox w.heap.size #[.slice af F.length cf, .slice (some ⟨p, off, none⟩) T.length ct] 28] := S.drop 2
        replace S : Sep w (((w11.setCell ⟨B2, 1, none⟩ (.slice a11 n11 c11)).setCell ⟨(w.heap.size + 1), 0, none⟩ (.slice a1 F.length c1)).setCell ⟨(w.heap.size + 1), 1, none⟩ (.slice a11 n11 c11)) [plTab (.slice a11 n11 c11) vs2 (T ++ [t]), plRow 3 1 encInt1 (.slice a1 F.length c1) F] := S.drop 2
        have hn := HN11.out
        subst hn
        first | exact ⟨a1, c1, F, a11, c11, vs2, T ++ [t], true, rfl, HR0.out, S⟩ | exact ⟨a1, c1, F, a11, c11, vs2, T ++ [t], true, by simp, HR0.out, S⟩
    · have ein := inB_false hwho
      have HR : Hid (ForkR F T who F T false) := Lib.hid (.inr (.inl ⟨HMO.out, fun h => hwho ⟨h.1, h.2.1⟩, rfl, rfl, rfl⟩))
      clear hwho
      go_upto_region 5 with (go_at_call 47; refine ((within_any _ _ _ _).mono (fun e w2 h => by rw [ein] at h; exact h)).mono ?_; rintro e w' ⟨rfl, rfl⟩)
      clear bmc0 bmf0 bmc1 bmf1
      generalize (w3.alloc (.cells #[.slice a1 F.length c1, .slice a2 T.length c2] 28)) = w4 at *
      rw [← hB2] at *
      clear hB2
      obtain ⟨obc0, obf0⟩ : w4.cell? ⟨B2, 0, none⟩ = some (.slice a1 F.length c1) ∧ w4.frozen? ⟨B2, 0, none⟩ = false := bx (S.box 0 rfl) 0 rfl
      obtain ⟨obc1, obf1⟩ : w4.cell? ⟨B2, 1, none⟩ = some (.slice a2 T.length c2) ∧ w4.frozen? ⟨B2, 1, none⟩ = false := bx (S.box 0 rfl) 1 rfl
      obtain ⟨rbc0, rbf0⟩ : w4.cell? ⟨(w.heap.size + 1), 0, none⟩ = some (.slice none 0 0) ∧ w4.frozen? ⟨(w.heap.size + 1), 0, none⟩ = false := bx (S.box 3 rfl) 0 rfl
      obtain ⟨rbc1, rbf1⟩ : w4.cell? ⟨(w.heap.size + 1), 1, none⟩ = some (.slice none 0 0) ∧ w4.frozen? ⟨(w.heap.size + 1), 1, none⟩ = false := bx (S.box 3 rfl) 1 rfl
      obtain ⟨bmc0, bmf0⟩ : w4.cell? ⟨w.heap.size, 0, none⟩ = some (.slice af F.length cf) ∧ w4.frozen? ⟨w.heap.size, 0, none⟩ = false := bx (S.box 4 rfl) 0 rfl
      obtain ⟨bmc1, bmf1⟩ : w4.cell? ⟨w.heap.size, 1, none⟩ = some (.slice at_ T.length ct) ∧ w4.frozen? ⟨w.heap.size, 1, none⟩ = false := bx (S.box 4 rfl) 1 rfl
      go_wp2
      try simp only [Exit.inBlock, Exit.then]
      refine bodyPost_ret (v := .tuple #[.agg #[.slice a1 F.length c1, .slice a2 T.length c2], .bool false]) (by simp [results, Try.results32, go_sem, rbc0, rbc1, obc0, obc1]) rfl ?_
      replace S : Sep w (w4.setCell ⟨(w.heap.size + 1), 0, none⟩ (.slice a1 F.length c1)) [plBox B2 #[.slice a1 F.length c1, .slice a2 T.length c2] 28, plTab (.slice a2 T.length c2) vs T, plRow 3 1 encInt1 (.slice a1 F.length c1) F, plBox (w.heap.size + 1) #[.slice a1 F.length c1, .slice none 0 0] 28, plBox w.heap.size #[.slice af F.length cf, .slice at_ T.length ct] 28] := S.set 3 rfl 0 _
      replace S : Sep w ((w4.setCell ⟨(w.heap.size + 1), 0, none⟩ (.slice a1 F.length c1)).setCell ⟨(w.heap.size + 1), 1, none⟩ (.slice a2 T.length c2)) [plBox B2 #[.slice a1 F.length c1, .slice a2 T.length c2] 28, plTab (.slice a2 T.length c2) vs T, plRow 3 1 encInt1 (.slice a1 F.length c1) F, plBox (w.heap.size + 1) #[.slice a1 F.length c1, .slice a2 T.length c2] 28, plBox w.heap.size #[.slice af F.length cf, .slice at_ T.length ct] 28] := S.set 3 rfl 1 _
      replace S : Sep w ((w4.setCell ⟨(w.heap.size + 1), 0, none⟩ (.slice a1 F.length c1)).setCell ⟨(w.heap.size + 1), 1, none⟩ (.slice a2 T.length c2)) [plTab (.slice a2 T.length c2) vs T, plRow 3 1 encInt1 (.slice a1 F.length c1) F, plBox (w.heap.size + 1) #[.slice a1 F.length c1, .slice a2 T.length c2] 28, plBox w.heap.size #[.slice af F.length cf, .slice at_ T.length ct] 28] := S.drop 0
      replace S : Sep w ((w4.setCell ⟨(w.heap.size + 1), 0, none⟩ (.slice a1 F.length c1)).setCell ⟨(w.heap.size + 1), 1, none⟩ (.slice a2 T.length c2)) [plTab (.slice a2 T.length c2) vs T, plRow 3 1 encInt1 (.slice a1 F.length c1) F, plBox w.heap.size #[.slice af F.length cf, .slice at_ T.length ct] 28] := S.drop 2
      replace S : Sep w ((w4.setCell ⟨(w.heap.size + 1), 0, none⟩ (.slice a1 F.length c1)).setCell ⟨(w.heap.size + 1), 1, none⟩ (.slice a2 T.length c2)) [plTab (.slice a2 T.length c2) vs T, plRow 3 1 encInt1 (.slice a1 F.length c1) F] := S.drop 2
      exact ⟨a1, c1, F, a2, c2, vs, T, false, rfl, HR.out, S⟩

set_option maxRecDepth 10000 in
set_option maxHeartbeats 8000000 in
theorem specForkMemory (af : Option Addr) (cf : Nat) (F : List Int) (at_ : Option Addr) (ct : Nat) (T : List (List Int)) (who : Int) (w : World) (hF : F.length ≤ 9223372036854775807) (hT : T.length ≤ 9223372036854775807) (hrf : Rd 1 encInt1 w af F) (hrt : RdT w at_ T) :
    Calls Try.prog 31 #[.agg #[.slice af F.length cf, .slice at_ T.length ct], .int .i64 who] w fun e w' => ∃ a1 c1 F2 a2 c2 vs T2 ok, e = .returned (.tuple #[.agg #[.slice a1 F2.length c1, .slice a2 T2.length c2], .bool ok]) ∧ ForkR F T who F2 T2 ok ∧ Sep w w' [plTab (.slice a2 T2.length c2) vs T2, plRow 3 1 encInt1 (.slice a1 F2.length c1) F2] := by
  go_enter Try.func31, Try.ntmps31
  have S := Sep.start w
  replace S : Sep w (w.alloc (.cells #[.slice af F.length cf, .slice at_ T.length ct] 28)) [plBox w.heap.size #[.slice af F.length cf, .slice at_ T.length ct] 28] := S.alloc_at (by simp) _ _
  replace S : Sep w ((w.alloc (.cells #[.slice af F.length cf, .slice at_ T.length ct] 28)).alloc (.cells #[.slice none 0 0, .slice none 0 0] 28)) [plBox (w.heap.size + 1) #[.slice none 0 0, .slice none 0 0] 28, plBox w.heap.size #[.slice af F.length cf, .slice at_ T.length ct] 28] := S.alloc_at (by simp) _ _
  go_wp2_with fail
  generalize ((w.alloc (.cells #[.slice af F.length cf, .slice at_ T.length ct] 28)).alloc (.cells #[.slice none 0 0, .slice none 0 0] 28)) = w1 at *
  refine (specMemoryValid af cf F at_ ct T w1 hF hT (hrf.ext S.ext) (hrt.ext S.ext)).mono ?_
  rintro e w2 ⟨v0, rfl, hv0, hE⟩
  have Hv0 := Lib.hid hv0
  clear hv0
  replace S : Sep w w2 [plBox (w.heap.size + 1) #[.slice none 0 0, .slice none 0 0] 28, plBox w.heap.size #[.slice af F.length cf, .slice at_ T.length ct] 28] := S.step hE
  clear hE
  cases v0 with
  | false =>
    have HR : Hid (ForkR F T who [] [] false) := Lib.hid (.inl ⟨fun h => Bool.noConfusion (Hv0.out.2 h), rfl, rfl, rfl⟩)
    obtain ⟨rbc0, rbf0⟩ : w2.cell? ⟨(w.heap.size + 1), 0, none⟩ = some (.slice none 0 0) ∧ w2.frozen? ⟨(w.heap.size + 1), 0, none⟩ = false := bx (S.box 0 rfl) 0 rfl
    obtain ⟨rbc1, rbf1⟩ : w2.cell? ⟨(w.heap.size + 1), 1, none⟩ = some (.slice none 0 0) ∧ w2.frozen? ⟨(w.heap.size + 1), 1, none⟩ = false := bx (S.box 0 rfl) 1 rfl
    obtain ⟨bmc0, bmf0⟩ : w2.cell? ⟨w.heap.size, 0, none⟩ = some (.slice af F.length cf) ∧ w2.frozen? ⟨w.heap.size, 0, none⟩ = false := bx (S.box 1 rfl) 0 rfl
    obtain ⟨bmc1, bmf1⟩ : w2.cell? ⟨w.heap.size, 1, none⟩ = some (.slice at_ T.length ct) ∧ w2.frozen? ⟨w.heap.size, 1, none⟩ = false := bx (S.box 1 rfl) 1 rfl
    go_wp2
    try simp only [Exit.inBlock, Exit.then]
    refine bodyPost_ret (v := .tuple #[.agg #[.slice none 0 0, .slice none 0 0], .bool false]) (by simp [results, Try.results31, go_sem, rbc0, rbc1]) rfl ?_
    replace S : Sep w (w2.setCell ⟨(w.heap.size + 1), 0, none⟩ (.slice none 0 0)) [plBox (w.heap.size + 1) #[.slice none 0 0, .slice none 0 0] 28, plBox w.heap.size #[.slice af F.length cf, .slice at_ T.length ct] 28] := S.set 0 rfl 0 _
    replace S : Sep w ((w2.setCell ⟨(w.heap.size + 1), 0, none⟩ (.slice none 0 0)).setCell ⟨(w.heap.size + 1), 1, none⟩ (.slice none 0 0)) [plBox (w.heap.size + 1) #[.slice none 0 0, .slice none 0 0] 28, plBox w.heap.size #[.slice af F.length cf, .slice at_ T.length ct] 28] := S.set 0 rfl 1 _
    replace S : Sep w ((w2.setCell ⟨(w.heap.size + 1), 0, none⟩ (.slice none 0 0)).setCell ⟨(w.heap.size + 1), 1, none⟩ (.slice none 0 0)) [plBox w.heap.size #[.slice af F.length cf, .slice at_ T.length ct] 28] := S.drop 0
    replace S : Sep w ((w2.setCell ⟨(w.heap.size + 1), 0, none⟩ (.slice none 0 0)).setCell ⟨(w.heap.size + 1), 1, none⟩ (.slice none 0 0)) [] := S.drop 0
    exact ⟨none, 0, [], none, 0, [], [], false, rfl, HR.out, (S.nil _ _ _).tabNil⟩
  | true =>
    have HMO := Lib.hid (Hv0.out.1 rfl)
    have HLT := Lib.hid (mem_lens HMO.out).2.2
    have hlF := (mem_lens HMO.out).1
    have hlT := (mem_lens HMO.out).2.1
    clear Hv0
    obtain ⟨bmc0, bmf0⟩ : w2.cell? ⟨w.heap.size, 0, none⟩ = some (.slice af F.length cf) ∧ w2.frozen? ⟨w.heap.size, 0, none⟩ = false := bx (S.box 1 rfl) 0 rfl
    obtain ⟨bmc1, bmf1⟩ : w2.cell? ⟨w.heap.size, 1, none⟩ = some (.slice at_ T.length ct) ∧ w2.frozen? ⟨w.heap.size, 1, none⟩ = false := bx (S.box 1 rfl) 1 rfl
    go_wp2_with fail
    clear bmc0 bmf0 bmc1 bmf1
    refine (specCopy_any af cf F at_ ct T w2 hlF hlT HLT.out (hrf.ext S.ext) (hrt.ext S.ext)).mono ?_
    rintro e w3 ⟨a1, c1, a2, c2, vs, rfl, hk1, hk2, U⟩
    replace S : Sep w w3 [plTab (.slice a2 T.length c2) vs T, plRow 3 1 encInt1 (.slice a1 F.length c1) F, plBox (w.heap.size + 1) #[.slice none 0 0, .slice none 0 0] 28, plBox w.heap.size #[.slice af F.length cf, .slice at_ T.length ct] 28] := S.call U
    clear U
    obtain ⟨B2, hB2⟩ : ∃ B2, B2 = w3.heap.size := ⟨_, rfl⟩
    have hwr : IntKind.i64.wrap ((T.length : Int) - 1) = (T.length : Int) - 1 := IntWalk.i64_in _ (by omega)
    replace S : Sep w (w3.alloc (.cells #[.slice a1 F.length c1, .slice a2 T.length c2] 28)) [plBox w3.heap.size #[.slice a1 F.length c1, .slice a2 T.length c2] 28, plTab (.slice a2 T.length c2) vs T, plRow 3 1 encInt1 (.slice a1 F.length c1) F, plBox (w.heap.size + 1) #[.slice none 0 0, .slice none 0 0] 28, plBox w.heap.size #[.slice af F.length cf, .slice at_ T.length ct] 28] := S.alloc_at (by simp) _ _
    obtain ⟨bmc0, bmf0⟩ : (w3.alloc (.cells #[.slice a1 F.length c1, .slice a2 T.length c2] 28)).cell? ⟨w.heap.size, 0, none⟩ = some (.slice af F.length cf) ∧ (w3.alloc (.cells #[.slice a1 F.length c1, .slice a2 T.length c2] 28)).frozen? ⟨w.heap.size, 0, none⟩ = false := bx (S.box 4 rfl) 0 rfl
    obtain ⟨bmc1, bmf1⟩ : (w3.alloc (.cells #[.slice a1 F.length c1, .slice a2 T.length c2] 28)).cell? ⟨w.heap.size, 1, none⟩ = some (.slice at_ T.length ct) ∧ (w3.alloc (.cells #[.slice a1 F.length c1, .slice a2 T.length c2] 28)).frozen? ⟨w.heap.size, 1, none⟩ = false := bx (S.box 4 rfl) 1 rfl
    by_cases hwho : 0 ≤ who ∧ who ≤ (T.length : Int) - 1
    · have ein := inB_iff.2 hwho
      by_cases h4 : T.length = 4
      · have t4 : ((T.length : Int) == 4) = true := by simp; omega
        have HR : Hid (ForkR F T who F T false) := Lib.hid (.inr (.inl ⟨HMO.out, fun h => h.2.2 h4, rfl, rfl, rfl⟩))
        clear hwho h4
        go_upto_region 5 with (go_at_call 41; refine ((l1In_any _ _ _ _).mono (fun e w2 h => by rw [ein] at h; exact h)).mono ?_; rintro e w' ⟨rfl, rfl⟩)
        clear bmc0 bmf0 bmc1 bmf1
        generalize (w3.alloc (.cells #[.slice a1 F.length c1, .slice a2 T.length c2] 28)) = w4 at *
        rw [← hB2] at *
        clear hB2
        obtain ⟨obc0, obf0⟩ : w4.cell? ⟨B2, 0, none⟩ = some (.slice a1 F.length c1) ∧ w4.frozen? ⟨B2, 0, none⟩ = false := bx (S.box 0 rfl) 0 rfl
        obtain ⟨obc1, obf1⟩ : w4.cell? ⟨B2, 1, none⟩ = some (.slice a2 T.length c2) ∧ w4.frozen? ⟨B2, 1, none⟩ = false := bx (S.box 0 rfl) 1 rfl
        obtain ⟨rbc0, rbf0⟩ : w4.cell? ⟨(w.heap.size + 1), 0, none⟩ = some (.slice none 0 0) ∧ w4.frozen? ⟨(w.heap.size + 1), 0, none⟩ = false := bx (S.box 3 rfl) 0 rfl
        obtain ⟨rbc1, rbf1⟩ : w4.cell? ⟨(w.heap.size + 1), 1, none⟩ = some (.slice none 0 0) ∧ w4.frozen? ⟨(w.heap.size + 1), 1, none⟩ = false := bx (S.box 3 rfl) 1 rfl
        obtain ⟨bmc0, bmf0⟩ : w4.cell? ⟨w.heap.size, 0, none⟩ = some (.slice af F.length cf) ∧ w4.frozen? ⟨w.heap.size, 0, none⟩ = false := bx (S.box 4 rfl) 0 rfl
        obtain ⟨bmc1, bmf1⟩ : w4.cell? ⟨w.heap.size, 1, none⟩ = some (.slice at_ T.length ct) ∧ w4.frozen? ⟨w.heap.size, 1, none⟩ = false := bx (S.box 4 rfl) 1 rfl
        go_wp2
        try simp only [Exit.inBlock, Exit.then]
        refine bodyPost_ret (v := .tuple #[.agg #[.slice a1 F.length c1, .slice a2 T.length c2], .bool false]) (by simp [results, Try.results31, go_sem, rbc0, rbc1, obc0, obc1]) rfl ?_
        replace S : Sep w (w4.setCell ⟨(w.heap.size + 1), 0, none⟩ (.slice a1 F.length c1)) [plBox B2 #[.slice a1 F.length c1, .slice a2 T.length c2] 28, plTab (.slice a2 T.length c2) vs T, plRow 3 1 encInt1 (.slice a1 F.length c1) F, plBox (w.heap.size + 1) #[.slice a1 F.length c1, .slice none 0 0] 28, plBox w.heap.size #[.slice af F.length cf, .slice at_ T.length ct] 28] := S.set 3 rfl 0 _
        replace S : Sep w ((w4.setCell ⟨(w.heap.size + 1), 0, none⟩ (.slice a1 F.length c1)).setCell ⟨(w.heap.size + 1), 1, none⟩ (.slice a2 T.length c2)) [plBox B2 #[.slice a1 F.length c1, .slice a2 T.length c2] 28, plTab (.slice a2 T.length c2) vs T, plRow 3 1 encInt1 (.slice a1 F.length c1) F, plBox (w.heap.size + 1) #[.slice a1 F.length c1, .slice a2 T.length c2] 28, plBox w.heap.size #[.slice af F.length cf, .slice at_ T.length ct] 28] := S.set 3 rfl 1 _
        replace S : Sep w ((w4.setCell ⟨(w.heap.size + 1), 0, none⟩ (.slice a1 F.length c1)).setCell ⟨(w.heap.size + 1), 1, none⟩ (.slice a2 T.length c2)) [plTab (.slice a2 T.length c2) vs T, plRow 3 1 encInt1 (.slice a1 F.length c1) F, plBox (w.heap.size + 1) #[.slice a1 F.length c1, .slice a2 T.length c2] 28, plBox w.heap.size #[.slice af F.length cf, .slice at_ T.length ct] 28] := S.drop 0
        replace S : Sep w ((w4.setCell ⟨(w.heap.size + 1), 0, none⟩ (.slice a1 F.length c1)).setCell ⟨(w.heap.size + 1), 1, none⟩ (.slice a2 T.length c2)) [plTab (.slice a2 T.length c2) vs T, plRow 3 1 encInt1 (.slice a1 F.length c1) F, plBox w.heap.size #[.slice af F.length cf, .slice at_ T.length ct] 28] := S.drop 2
        replace S : Sep w ((w4.setCell ⟨(w.heap.size + 1), 0, none⟩ (.slice a1 F.length c1)).setCell ⟨(w.heap.size + 1), 1, none⟩ (.slice a2 T.length c2)) [plTab (.slice a2 T.length c2) vs T, plRow 3 1 encInt1 (.slice a1 F.length c1) F] := S.drop 2
        exact ⟨a1, c1, F, a2, c2, vs, T, false, rfl, HR.out, S⟩
      · have t4 : ((T.length : Int) == 4) = false := by simp; omega
        obtain ⟨k, rfl⟩ : ∃ k : Nat, who = k := ⟨who.toNat, by omega⟩
        have hlk : k < T.length := by omega
        have HW : Hid (0 ≤ (k : Int) ∧ (k : Int) ≤ (T.length : Int) - 1 ∧ T.length ≠ 4) := Lib.hid ⟨hwho.1, hwho.2, h4⟩
        clear hwho h4
        go_upto_region 6 with (go_at_call 41; refine ((l1In_any _ _ _ _).mono (fun e w2 h => by rw [ein] at h; exact h)).mono ?_; rintro e w' ⟨rfl, rfl⟩)
        clear ein t4 hwr
        clear bmc0 bmf0 bmc1 bmf1
        generalize (w3.alloc (.cells #[.slice a1 F.length c1, .slice a2 T.length c2] 28)) = wr at *
        rw [← hB2] at *
        clear hB2
        obtain ⟨t, p, off, ai, ci, ht, hpe, c0, hci, hrt1⟩ := atTab (hrt.ext S.ext) hlk
        subst hpe
        have HR0 : Hid (ForkR F T k F (T ++ [t]) true) := Lib.hid (.inr (.inr ⟨HMO.out, HW.out, t, by simpa using ht, rfl, rfl, rfl⟩))
        have htl := HLT.out t (List.mem_of_getElem? ht)
        have hrtk := tab_find (ct := ct) hrt S.ext ht c0
        replace S := S.perm (List.Perm.swap _ _ _)
        obtain ⟨ut, hut⟩ : ∃ ut, ut = Value.slice a2 T.length c2 := ⟨_, rfl⟩
        rw [← hut] at S
        obtain ⟨R, hR⟩ : ∃ R, R = [plBox B2 #[.slice a1 F.length c1, ut] 28, plRow 3 1 encInt1 (.slice a1 F.length c1) F, plBox (w.heap.size + 1) #[.slice none 0 0, .slice none 0 0] 28, plBox w.heap.size #[.slice af F.length cf, .slice (some ⟨p, off, none⟩) T.length ct] 28] := ⟨_, rfl⟩
        have hob0 := (bx (S.box 1 rfl) 1 rfl).1
        have hbm0 := (bx (S.box 4 rfl) 1 rfl).1
        have hob1 : ∀ w4, Chg (fun b => ut.ownBlock = some b) (World.drew wr) w4 → w4.cell? ⟨B2, 1, none⟩ = some ut := fun w4 hI => cell_chg (w := World.drew wr) hob0 hI (fun e => S.ne (i := 0) (j := 1) rfl rfl (by decide) (b := B2) (.inl e) rfl)
        have hbm1 : ∀ w4, Chg (fun b => ut.ownBlock = some b) (World.drew wr) w4 → w4.cell? ⟨w.heap.size, 1, none⟩ = some (.slice (some ⟨p, off, none⟩) T.length ct) := fun w4 hI => cell_chg (w := World.drew wr) hbm0 hI (fun e => S.ne (i := 0) (j := 4) rfl rfl (by decide) (b := w.heap.size) (.inl e) rfl)
        replace S : Sep w wr (plTab ut vs T :: R) := by rw [hR]; exact S
        have HRR := Lib.hid hR
        have i0 : (k : Int) < (T.length : Int) := by omega
        have hTle : T.length ≤ 1048576 := hlT
        clear hR hut ht hrt1 hob0 hbm0 c0
        have hI0 : ∀ wv, Chg (fun b => ut.ownBlock = some b) (World.drew wr) wv → Ext w wv := fun wv hI => Chg.ext (S.ext.drew) hI (fun b hb => (S.lt (List.mem_cons_self ..) (show (plTab ut vs T).own b from .inl hb)).1)
        have hHB : ∀ q ∈ plTab ut vs T :: R, ∀ b, q.own b → b < wr.heap.size := fun q hq b hb => (S.lt hq hb).2
        have Sd : Sep w (World.drew wr) (plTab ut vs T :: R) := S.drew
        refine wp_region_c (V := VFs w wr.heap.size B2 w.heap.size p off k ct none ai ci T.length ut vs T t R) (Chg (fun b => ut.ownBlock = some b) (World.drew wr)) (fun i => if i = 12 then some 10 else none) [] 12 1 rfl (by decide) (by kernel_rfl) (by kernel_rfl) (by kernel_rfl) (by kernel_rfl) (Chg.refl _ _) (fun r hr => match r, hr with | 0, _ => Sd) ?_ ?_
        · intro i o hi ho vz w4 hvl hE hd hrest
          have hE4 := hI0 w4 hE
          have hsz : wr.heap.size ≤ w4.heap.size := hE.size
          match vz, hvl with
          | [y0, y1, y2, y3, y4, y5, y6, y7, y8, y9, y10, y11], _ =>
          rcases (show i = 0 ∨ i = 1 ∨ i = 2 ∨ i = 3 ∨ i = 4 ∨ i = 5 ∨ i = 6 ∨ i = 7 ∨ i = 8 ∨ i = 9 ∨ i = 10 ∨ i = 11 by omega) with rfl | rfl | rfl | rfl | rfl | rfl | rfl | rfl | rfl | rfl | rfl | rfl
          all_goals
            simp only [List.getElem?_cons_zero, List.getElem?_cons_succ, Option.some.injEq] at ho
            subst ho
          · clear hd hrest
            simp [putAll, Act.put]
            go_wp2
            exact OneC.mk (V := VFs w wr.heap.size B2 w.heap.size p off k ct none ai ci T.length ut vs T t R) (VFs.ext w wr.heap.size B2 w.heap.size p off k ct none ai ci T.length ut vs T t R) rfl rfl hE (Ext.refl _)
          · have q0 : y0 = .pointer (some ⟨B2, 1, none⟩) := hd ⟨0, .data⟩ (by simp) rfl (by decide)
            have c0 := hob1 w4 hE
            subst q0
            clear hd hrest
            simp [putAll, Act.put]
            go_wp2
            exact OneC.mk (V := VFs w wr.heap.size B2 w.heap.size p off k ct none ai ci T.length ut vs T t R) (VFs.ext w wr.heap.size B2 w.heap.size p off k ct none ai ci T.length ut vs T t R) rfl rfl hE (Ext.refl _)
          · clear hd hrest
            simp [putAll, Act.put]
            go_wp2
            exact OneC.mk (V := VFs w wr.heap.size B2 w.heap.size p off k ct none ai ci T.length ut vs T t R) (VFs.ext w wr.heap.size B2 w.heap.size p off k ct none ai ci T.length ut vs T t R) rfl ⟨_, rfl, hsz, heap_alloc_new w4 _⟩ (hE.trans (Chg.of_ext ((Ext.refl w4).alloc _))) ((Ext.refl _).alloc _)
          · clear hd hrest
            simp [putAll, Act.put]
            go_wp2
            exact OneC.mk (V := VFs w wr.heap.size B2 w.heap.size p off k ct none ai ci T.length ut vs T t R) (VFs.ext w wr.heap.size B2 w.heap.size p off k ct none ai ci T.length ut vs T t R) rfl rfl hE (Ext.refl _)
          · have q0 : y3 = .pointer (some ⟨w.heap.size, 1, none⟩) := hd ⟨3, .data⟩ (by simp) rfl (by decide)
            have c0 := hbm1 w4 hE
            subst q0
            clear hd hrest
            simp [putAll, Act.put]
            go_wp2
            exact OneC.mk (V := VFs w wr.heap.size B2 w.heap.size p off k ct none ai ci T.length ut vs T t R) (VFs.ext w wr.heap.size B2 w.heap.size p off k ct none ai ci T.length ut vs T t R) rfl rfl hE (Ext.refl _)
          · clear hd hrest
            simp [putAll, Act.put]
            go_wp2
            exact OneC.mk (V := VFs w wr.heap.size B2 w.heap.size p off k ct none ai ci T.length ut vs T t R) (VFs.ext w wr.heap.size B2 w.heap.size p off k ct none ai ci T.length ut vs T t R) rfl rfl hE (Ext.refl _)
          · have q0 : y4 = .slice (some ⟨p, off, none⟩) T.length ct := hd ⟨4, .data⟩ (by simp) rfl (by decide)
            have q1 : y5 = .int .i64 k := hd ⟨5, .data⟩ (by simp) rfl (by decide)
            subst q0 q1
            clear hd hrest
            simp [putAll, Act.put]
            go_wp2
            exact OneC.mk (V := VFs w wr.heap.size B2 w.heap.size p off k ct none ai ci T.length ut vs T t R) (VFs.ext w wr.heap.size B2 w.heap.size p off k ct none ai ci T.length ut vs T t R) rfl rfl hE (Ext.refl _)
          · have q0 : y6 = .pointer (some ⟨p, off + k, none⟩) := hd ⟨6, .data⟩ (by simp) rfl (by decide)
            obtain ⟨c0, _⟩ := hrtk w4 hE4
            subst q0
            clear hd hrest
            simp [putAll, Act.put]
            go_wp2
            exact OneC.mk (V := VFs w wr.heap.size B2 w.heap.size p off k ct none ai ci T.length ut vs T t R) (VFs.ext w wr.heap.size B2 w.heap.size p off k ct none ai ci T.length ut vs T t R) rfl rfl hE (Ext.refl _)
          · obtain ⟨g, q0, hg1, hg2⟩ : ∃ g, y2 = .slice (some ⟨g, 0, none⟩) 0 0 ∧ wr.heap.size ≤ g ∧ w4.heap[g]? = some (.cells #[] 3) := hd ⟨2, .data⟩ (by simp) rfl (by decide)
            have q1 : y7 = .slice ai t.length ci := hd ⟨7, .data⟩ (by simp) rfl (by decide)
            obtain ⟨_, hr4⟩ := hrtk w4 hE4
            subst q0 q1
            clear hd hrest
            simp [putAll, Act.put]
            refine wpList_append_lit rfl _ _ 22 rfl (wr.heap.size) 3 _ 1 _ Try.underlying22 infoInt rfl (by decide) encInt1_len encInt1_one g rfl hg2 hg1 ai t.length ci t rfl rfl hr4 (by omega) (by omega) hsz ?_
            intro v5 w5 ho5 hE5
            go_wp2
            exact OneC.mk (V := VFs w wr.heap.size B2 w.heap.size p off k ct none ai ci T.length ut vs T t R) (VFs.ext w wr.heap.size B2 w.heap.size p off k ct none ai ci T.length ut vs T t R) rfl ho5 (hE.trans (Chg.of_ext hE5)) hE5
          · have q0 : w4.ownsRow (wr.heap.size) 3 1 y8 t.length (t.flatMap encInt1) := hd ⟨8, .data⟩ (by simp) rfl (by decide)
            obtain ⟨a6, c6, hv6, _⟩ := view_owns encInt1_len q0
            subst hv6
            clear hd hrest
            have hx := ownsRow_ext q0 ((Ext.refl w4).alloc (.cells #[.slice a6 t.length c6] 22))
            have Hx := Lib.hid hx
            clear hx q0
            simp [putAll, Act.put]
            go_wp2
            exact OneC.mk (V := VFs w wr.heap.size B2 w.heap.size p off k ct none ai ci T.length ut vs T t R) (VFs.ext w wr.heap.size B2 w.heap.size p off k ct none ai ci T.length ut vs T t R) rfl ⟨_, ⟨a6, t.length, c6⟩, rfl, hsz, heap_alloc_new w4 _, Hx.out⟩ (hE.trans (Chg.of_ext ((Ext.refl w4).alloc _))) ((Ext.refl _).alloc _)
          · have q0 : ut = y1 := (show y1 = ut from hd ⟨1, .data⟩ (by simp) rfl (by decide)).symm
            obtain ⟨g, s, q1, hg1, hg2, hs4⟩ : ∃ g, ∃ s : Sl, y9 = .slice (some ⟨g, 0, none⟩) 1 1 ∧ wr.heap.size ≤ g ∧ w4.heap[g]? = some (.cells #[s.v] 22) ∧ w4.ownsRow (wr.heap.size) 3 1 s.v t.length (t.flatMap encInt1) := hd ⟨9, .data⟩ (by simp) rfl (by decide)
            have S4 : Sep w w4 (plTab ut vs T :: R) := hrest 0 (by omega) (.inr rfl)
            have S5 : Sep w w4 (plRow 3 1 encInt1 s.v t :: plTab ut vs T :: R) := S4.consAt (B := wr.heap.size) (p := plRow 3 1 encInt1 s.v t) (ownsRow_base hs4 (Nat.zero_le _)) S.ext.size (fun b hb => (World.ownsRow.lt hs4 b hb).1) hHB
            have hrow := S5.tabRow 1 rfl
            have hvl := tab_len (S5.at_ 1 rfl)
            have hrd : Rd 1 encSl w4 (some ⟨g, 0, none⟩) [s] := rd_lit [s] encSl_len hg2 rfl
            have hvs : vs.length ≤ 1048576 := by omega
            subst q0 q1
            clear hd hrest S4
            simp [putAll, Act.put]
            refine wpList_append_b rfl _ _ 23 rfl w.heap.size 22 _ 1 _ Try.underlying23 infoSl rfl (by decide) encSl_len encSl_one _ vs.length vs rfl hrow rfl (some ⟨g, 0, none⟩) 1 1 [s] rfl rfl hrd (by omega) (by omega) hE4.size ?_
            intro v5 w5 ho5 hgr hblk
            have S6 : Sep w w5 (plTab v5 (vs ++ [s]) (T ++ [t]) :: R) := S5.tabPush 1 0 rfl rfl (by decide) hgr ho5 hblk
            have hch : Chg (fun b => ut.ownBlock = some b) w4 w5 := Chg.of_grown hgr
            have hnB : ∀ b, wr.heap.size ≤ b → ¬ ut.ownBlock = some b := fun b h1 h2 => by
              have := hHB _ (List.mem_cons_self ..) b (.inl h2)
              omega
            clear ho5 hblk hrow hrd S5 hgr
            go_wp2
            refine ⟨rfl, _, rfl, ⟨_, S6⟩, hE.trans hch, fun i u hi hne hcon hnd hnc hv => ?_⟩
            match i with
            | 0 => exact hv
            | 1 => exact hv
            | 2 => obtain ⟨g1, h1, h2, h3⟩ := hv; exact ⟨g1, h1, h2, heap_chg h3 hch (hnB g1 h2)⟩
            | 3 => exact hv
            | 4 => exact hv
            | 5 => exact hv
            | 6 => exact hv
            | 7 => exact hv
            | 8 => exact ownsRow_chg (show w4.ownsRow _ _ _ _ _ _ from hv) hch hnB
            | 9 => obtain ⟨g1, s1, h1, h2, h3, h4⟩ := hv; exact ⟨g1, s1, h1, h2, heap_chg h3 hch (hnB g1 h2), ownsRow_chg h4 hch hnB⟩
            | 10 => exact absurd rfl hne
            | 11 => exact hv
            | 12 => exact absurd rfl hcon
            | (n + 13) => trivial
          · clear hd hrest
            simp [putAll, Act.put]
            go_wp2
            exact OneC.mk (V := VFs w wr.heap.size B2 w.heap.size p off k ct none ai ci T.length ut vs T t R) (VFs.ext w wr.heap.size B2 w.heap.size p off k ct none ai ci T.length ut vs T t R) rfl rfl hE (Ext.refl _)
        intro vz w11 hvl hE hV _
        match vz, hvl with
        | [y0, y1, y2, y3, y4, y5, y6, y7, y8, y9, y10, y11], _ =>
        obtain ⟨vs2, S11⟩ : ∃ vs2, Sep w w11 (plTab y10 vs2 (T ++ [t]) :: R) := hV 10 (by omega) rfl
        have e9 : y11 = .pointer (some ⟨B2, 1, none⟩) := hV 11 (by omega) rfl
        clear hV hI0 hHB Sd hE hob1 hbm1
        subst e9
        obtain ⟨a11, c11, hv11, hk11, _, _⟩ := S11.tab 0 rfl
        subst hv11
        obtain ⟨n11, hn11⟩ : ∃ n, n = (T ++ [t]).length := ⟨_, rfl⟩
        rw [← hn11] at S11 hk11 ⊢
        have HN11 := Lib.hid hn11
        clear hn11
        simp only [putAll, Act.put, List.take_succ_cons, List.take_zero, List.drop_succ_cons, List.drop_zero]
        simp
        rw [HRR.out] at S11
        clear hrtk S
        have S : Sep w w11 [plTab (.slice a11 n11 c11) vs2 (T ++ [t]), plBox B2 #[.slice a1 F.length c1, ut] 28, plRow 3 1 encInt1 (.slice a1 F.length c1) F, plBox (w.heap.size + 1) #[.slice none 0 0, .slice none 0 0] 28, plBox w.heap.size #[.slice af F.length cf, .slice (some ⟨p, off, none⟩) T.length ct] 28] := S11
        clear S11
        have hne1 : B2 ≠ w.heap.size + 1 := S.bne 1 3 rfl rfl (by decide)
        have hne2 : w.heap.size + 1 ≠ B2 := fun e => hne1 e.symm
        obtain ⟨obc0, obf0⟩ : w11.cell? ⟨B2, 0, none⟩ = some (.slice a1 F.length c1) ∧ w11.frozen? ⟨B2, 0, none⟩ = false := bx (S.box 1 rfl) 0 rfl
        obtain ⟨obc1, obf1⟩ : w11.cell? ⟨B2, 1, none⟩ = some ut ∧ w11.frozen? ⟨B2, 1, none⟩ = false := bx (S.box 1 rfl) 1 rfl
        obtain ⟨rbc0, rbf0⟩ : w11.cell? ⟨(w.heap.size + 1), 0, none⟩ = some (.slice none 0 0) ∧ w11.frozen? ⟨(w.heap.size + 1), 0, none⟩ = false := bx (S.box 3 rfl) 0 rfl
        obtain ⟨rbc1, rbf1⟩ : w11.cell? ⟨(w.heap.size + 1), 1, none⟩ = some (.slice none 0 0) ∧ w11.frozen? ⟨(w.heap.size + 1), 1, none⟩ = false := bx (S.box 3 rfl) 1 rfl
        obtain ⟨bmc0, bmf0⟩ : w11.cell? ⟨w.heap.size, 0, none⟩ = some (.slice af F.length cf) ∧ w11.frozen? ⟨w.heap.size, 0, none⟩ = false := bx (S.box 4 rfl) 0 rfl
        obtain ⟨bmc1, bmf1⟩ : w11.cell? ⟨w.heap.size, 1, none⟩ = some (.slice (some ⟨p, off, none⟩) T.length ct) ∧ w11.frozen? ⟨w.heap.size, 1, none⟩ = false := bx (S.box 4 rfl) 1 rfl
        go_wp2
        try simp only [Exit.inBlock, Exit.then]
        refine bodyPost_ret (v := .tuple #[.agg #[.slice a1 F.length c1, .slice a11 n11 c11], .bool true]) (by simp [results, Try.results31, go_sem, rbc0, rbc1, obc0, obc1]) rfl ?_
        replace S : Sep w (w11.setCell ⟨B2, 1, none⟩ (.slice a11 n11 c11)) [plTab (.slice a11 n11 c11) vs2 (T ++ [t]), plBox B2 #[.slice a1 F.length c1, .slice a11 n11 c11] 28, plRow 3 1 encInt1 (.slice a1 F.length c1) F, plBox (w.heap.size + 1) #[.slice none 0 0, .slice none 0 0] 28, plBox w.heap.size #[.slice af F.length cf, .slice (some ⟨p, off, none⟩) T.length ct] 28] := S.set 1 rfl 1 _
        replace S : Sep w ((w11.setCell ⟨B2, 1, none⟩ (.slice a11 n11 c11)).setCell ⟨(w.heap.size + 1), 0, none⟩ (.slice a1 F.length c1)) [plTab (.slice a11 n11 c11) vs2 (T ++ [t]), plBox B2 #[.slice a1 F.length c1, .slice a11 n11 c11] 28, plRow 3 1 encInt1 (.slice a1 F.length c1) F, plBox (w.heap.size + 1) #[.slice a1 F.length c1, .slice none 0 0] 28, plBox w.heap.size #[.slice af F.length cf, .slice (some ⟨p, off, none⟩) T.length ct] 28] := S.set 3 rfl 0 _
        replace S : Sep w (((w11.setCell ⟨B2, 1, none⟩ (.slice a11 n11 c11)).setCell ⟨(w.heap.size + 1), 0, none⟩ (.slice a1 F.length c1)).setCell ⟨(w.heap.size + 1), 1, none⟩ (.slice a11 n11 c11)) [plTab (.slice a11 n11 c11) vs2 (T ++ [t]), plBox B2 #[.slice a1 F.length c1, .slice a11 n11 c11] 28, plRow 3 1 encInt1 (.slice a1 F.length c1) F, plBox (w.heap.size + 1) #[.slice a1 F.length c1, .slice a11 n11 c11] 28, plBox w.heap.size #[.slice af F.length cf, .slice (some ⟨p, off, none⟩) T.length ct] 28] := S.set 3 rfl 1 _
        replace S : Sep w (((w11.setCell ⟨B2, 1, none⟩ (.slice a11 n11 c11)).setCell ⟨(w.heap.size + 1), 0, none⟩ (.slice a1 F.length c1)).setCell ⟨(w.heap.size + 1), 1, none⟩ (.slice a11 n11 c11)) [plTab (.slice a11 n11 c11) vs2 (T ++ [t]), plRow 3 1 encInt1 (.slice a1 F.length c1) F, plBox (w.heap.size + 1) #[.slice a1 F.length c1, .slice a11 n11 c11] 28, plBox w.heap.size #[.slice af F.length cf, .slice (some ⟨p, off, none⟩) T.length ct] 28] := S.drop 1
        replace S : Sep w (((w11.setCell ⟨B2, 1, none⟩ (.slice a11 n11 c11)).setCell ⟨(w.heap.size + 1), 0, none⟩ (.slice a1 F.length c1)).setCell ⟨(w.heap.size + 1), 1, none⟩ (.slice a11 n11 c11)) [plTab (.slice a11 n11 c11) vs2 (T ++ [t]), plRow 3 1 encInt1 (.slice a1 F.length c1) F, plBox w.heap.size #[.slice af F.length cf, .slice (some ⟨p, off, none⟩) T.length ct] 28] := S.drop 2
        replace S : Sep w (((w11.setCell ⟨B2, 1, none⟩ (.slice a11 n11 c11)).setCell ⟨(w.heap.size + 1), 0, none⟩ (.slice a1 F.length c1)).setCell ⟨(w.heap.size + 1), 1, none⟩ (.slice a11 n11 c11)) [plTab (.slice a11 n11 c11) vs2 (T ++ [t]), plRow 3 1 encInt1 (.slice a1 F.length c1) F] := S.drop 2
        have hn := HN11.out
        subst hn
        first | exact ⟨a1, c1, F, a11, c11, vs2, T ++ [t], true, rfl, HR0.out, S⟩ | exact ⟨a1, c1, F, a11, c11, vs2, T ++ [t], true, by simp, HR0.out, S⟩
    · have ein := inB_false hwho
      have HR : Hid (ForkR F T who F T false) := Lib.hid (.inr (.inl ⟨HMO.out, fun h => hwho ⟨h.1, h.2.1⟩, rfl, rfl, rfl⟩))
      clear hwho
      go_upto_region 5 with (go_at_call 41; refine ((l1In_any _ _ _ _).mono (fun e w2 h => by rw [ein] at h; exact h)).mono ?_; rintro e w' ⟨rfl, rfl⟩)
      clear bmc0 bmf0 bmc1 bmf1
      generalize (w3.alloc (.cells #[.slice a1 F.length c1, .slice a2 T.length c2] 28)) = w4 at *
      rw [← hB2] at *
      clear hB2
      obtain ⟨obc0, obf0⟩ : w4.cell? ⟨B2, 0, none⟩ = some (.slice a1 F.length c1) ∧ w4.frozen? ⟨B2, 0, none⟩ = false := bx (S.box 0 rfl) 0 rfl
      obtain ⟨obc1, obf1⟩ : w4.cell? ⟨B2, 1, none⟩ = some (.slice a2 T.length c2) ∧ w4.frozen? ⟨B2, 1, none⟩ = false := bx (S.box 0 rfl) 1 rfl
      obtain ⟨rbc0, rbf0⟩ : w4.cell? ⟨(w.heap.size + 1), 0, none⟩ = some (.slice none 0 0) ∧ w4.frozen? ⟨(w.heap.size + 1), 0, none⟩ = false := bx (S.box 3 rfl) 0 rfl
      obtain ⟨rbc1, rbf1⟩ : w4.cell? ⟨(w.heap.size + 1), 1, none⟩ = some (.slice none 0 0) ∧ w4.frozen? ⟨(w.heap.size + 1), 1, none⟩ = false := bx (S.box 3 rfl) 1 rfl
      obtain ⟨bmc0, bmf0⟩ : w4.cell? ⟨w.heap.size, 0, none⟩ = some (.slice af F.length cf) ∧ w4.frozen? ⟨w.heap.size, 0, none⟩ = false := bx (S.box 4 rfl) 0 rfl
      obtain ⟨bmc1, bmf1⟩ : w4.cell? ⟨w.heap.size, 1, none⟩ = some (.slice at_ T.length ct) ∧ w4.frozen? ⟨w.heap.size, 1, none⟩ = false := bx (S.box 4 rfl) 1 rfl
      go_wp2
      try simp only [Exit.inBlock, Exit.then]
      refine bodyPost_ret (v := .tuple #[.agg #[.slice a1 F.length c1, .slice a2 T.length c2], .bool false]) (by simp [results, Try.results31, go_sem, rbc0, rbc1, obc0, obc1]) rfl ?_
      replace S : Sep w (w4.setCell ⟨(w.heap.size + 1), 0, none⟩ (.slice a1 F.length c1)) [plBox B2 #[.slice a1 F.length c1, .slice a2 T.length c2] 28, plTab (.slice a2 T.length c2) vs T, plRow 3 1 encInt1 (.slice a1 F.length c1) F, plBox (w.heap.size + 1) #[.slice a1 F.length c1, .slice none 0 0] 28, plBox w.heap.size #[.slice af F.length cf, .slice at_ T.length ct] 28] := S.set 3 rfl 0 _
      replace S : Sep w ((w4.setCell ⟨(w.heap.size + 1), 0, none⟩ (.slice a1 F.length c1)).setCell ⟨(w.heap.size + 1), 1, none⟩ (.slice a2 T.length c2)) [plBox B2 #[.slice a1 F.length c1, .slice a2 T.length c2] 28, plTab (.slice a2 T.length c2) vs T, plRow 3 1 encInt1 (.slice a1 F.length c1) F, plBox (w.heap.size + 1) #[.slice a1 F.length c1, .slice a2 T.length c2] 28, plBox w.heap.size #[.slice af F.length cf, .slice at_ T.length ct] 28] := S.set 3 rfl 1 _
      replace S : Sep w ((w4.setCell ⟨(w.heap.size + 1), 0, none⟩ (.slice a1 F.length c1)).setCell ⟨(w.heap.size + 1), 1, none⟩ (.slice a2 T.length c2)) [plTab (.slice a2 T.length c2) vs T, plRow 3 1 encInt1 (.slice a1 F.length c1) F, plBox (w.heap.size + 1) #[.slice a1 F.length c1, .slice a2 T.length c2] 28, plBox w.heap.size #[.slice af F.length cf, .slice at_ T.length ct] 28] := S.drop 0
      replace S : Sep w ((w4.setCell ⟨(w.heap.size + 1), 0, none⟩ (.slice a1 F.length c1)).setCell ⟨(w.heap.size + 1), 1, none⟩ (.slice a2 T.length c2)) [plTab (.slice a2 T.length c2) vs T, plRow 3 1 encInt1 (.slice a1 F.length c1) F, plBox w.heap.size #[.slice af F.length cf, .slice at_ T.length ct] 28] := S.drop 2
      replace S : Sep w ((w4.setCell ⟨(w.heap.size + 1), 0, none⟩ (.slice a1 F.length c1)).setCell ⟨(w.heap.size + 1), 1, none⟩ (.slice a2 T.length c2)) [plTab (.slice a2 T.length c2) vs T, plRow 3 1 encInt1 (.slice a1 F.length c1) F] := S.drop 2
      exact ⟨a1, c1, F, a2, c2, vs, T, false, rfl, HR.out, S⟩
end Go.Proofs.Ytpnllhdgpfbaiaa
