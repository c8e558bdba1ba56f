/- WritePage: contracts of the program's and of the reference's. Condition: rows shorter than 2^63. -/
import Derived.Test.YtpnllhdgpfbaiaaPagU
namespace Go.Proofs.Ytpnllhdgpfbaiaa
open Go.RowKit

/-- The first number below n that is not in the list, n if all are. -/
def Free (n : Nat) (P : List Int) (g : Nat) : Prop := g ≤ n ∧ (∀ i : Nat, i < g → P.count (i : Int) ≠ 0) ∧ (g < n → P.count (g : Int) = 0)
theorem free_fun {n : Nat} {P : List Int} {g h : Nat} (a : Free n P g) (b : Free n P h) : g = h := by
  rcases Nat.lt_trichotomy g h with c | c | c
  · exact absurd (a.2.2 (by have := b.1; omega)) (b.2.1 g c)
  · exact c
  · exact absurd (b.2.2 (by have := a.1; omega)) (a.2.1 h c)
/-- What writing gives where the page is there and the number fits. -/
def WrR (F : List Int) (T : List (List Int)) (k j : Nat) (t : List Int) (f : Nat) (num : Int) (F2 : List Int) (T2 : List (List Int)) (ok : Bool) : Prop :=
  (T.flatten.count (f : Int) ≤ 1 ∧ F2 = F.set f num ∧ T2 = T ∧ ok = true) ∨
    (1 < T.flatten.count (f : Int) ∧ ∃ g, Free F.length T.flatten g ∧ ((g < F.length ∧ F2 = F.set g num ∧ T2 = T.set k (t.set j g) ∧ ok = true) ∨ (g = F.length ∧ F.length = 12 ∧ F2 = F ∧ T2 = T ∧ ok = false) ∨ (g = F.length ∧ F.length ≠ 12 ∧ F2 = F ++ [num] ∧ T2 = T.set k (t.set j g) ∧ ok = true)))
theorem wrR_fun {F : List Int} {T : List (List Int)} {k j : Nat} {t : List Int} {f : Nat} {num : Int} {F2 F3 : List Int} {T2 T3 : List (List Int)} {ok ok3 : Bool} (h : WrR F T k j t f num F2 T2 ok) (h' : WrR F T k j t f num F3 T3 ok3) : F2 = F3 ∧ T2 = T3 ∧ ok = ok3 := by
  rcases h with ⟨h, rfl, rfl, rfl⟩ | ⟨h, g, hg, hc⟩ <;> rcases h' with ⟨h', rfl, rfl, rfl⟩ | ⟨h', g', hg', hc'⟩
  · exact ⟨rfl, rfl, rfl⟩
  · omega
  · omega
  · obtain rfl := free_fun hg hg'
    rcases hc with ⟨c, rfl, rfl, rfl⟩ | ⟨c, d, rfl, rfl, rfl⟩ | ⟨c, d, rfl, rfl, rfl⟩ <;> rcases hc' with ⟨c', rfl, rfl, rfl⟩ | ⟨c', d', rfl, rfl, rfl⟩ | ⟨c', d', rfl, rfl, rfl⟩
    · exact ⟨rfl, rfl, rfl⟩
    · omega
    · omega
    · omega
    · exact ⟨rfl, rfl, rfl⟩
    · exact absurd d d'
    · omega
    · exact absurd d' d
    · exact ⟨rfl, rfl, rfl⟩
def WriteR (F : List Int) (T : List (List Int)) (who page num : Int) (F2 : List Int) (T2 : List (List Int)) (ok : Bool) : Prop :=
  (¬ MemOk F T ∧ F2 = [] ∧ T2 = [] ∧ ok = false) ∨ (MemOk F T ∧ ¬ ((pageAt T who page).isSome = true ∧ UseOk num) ∧ F2 = F ∧ T2 = T ∧ ok = false) ∨
    (MemOk F T ∧ UseOk num ∧ ∃ (k j : Nat) (t : List Int) (f : Nat), who = k ∧ page = j ∧ T[k]? = some t ∧ t[j]? = some (f : Int) ∧ WrR F T k j t f num F2 T2 ok)
theorem page_some {T : List (List Int)} {k j : Nat} {t : List Int} {f : Int} (ht : T[k]? = some t) (hf : t[j]? = some f) : (pageAt T k j).isSome = true := by rw [pageAt_some ht hf]; rfl
theorem writeR_fun {F : List Int} {T : List (List Int)} {who page num : Int} {F2 F3 : List Int} {T2 T3 : List (List Int)} {ok ok3 : Bool} (h : WriteR F T who page num F2 T2 ok) (h' : WriteR F T who page num F3 T3 ok3) : F2 = F3 ∧ T2 = T3 ∧ ok = ok3 := by
  rcases h with ⟨h, rfl, rfl, rfl⟩ | ⟨h, n, rfl, rfl, rfl⟩ | ⟨h, n, k, j, t, f, rfl, rfl, ht, hf, hW⟩ <;> rcases h' with ⟨h', rfl, rfl, rfl⟩ | ⟨h', n', rfl, rfl, rfl⟩ | ⟨h', n', k', j', t', f', e1, e2, ht', hf', hW'⟩
  · exact ⟨rfl, rfl, rfl⟩
  · exact absurd h' h
  · exact absurd h' h
  · exact absurd h h'
  · exact ⟨rfl, rfl, rfl⟩
  · subst e1 e2
    exact absurd ⟨page_some ht' hf', n'⟩ n
  · exact absurd h h'
  · exact absurd ⟨page_some ht hf, n⟩ n'
  · obtain rfl : k = k' := by omega
    obtain rfl : j = j' := by omega
    rw [ht] at ht'; cases ht'
    rw [hf] at hf'
    have := Option.some.inj hf'
    obtain rfl : f = f' := by omega
    exact wrR_fun hW hW'

section
variable {M : Nat → Prop} {w0 w : World} {H : List Pl}
theorem SepM.tabCell (S : SepM M w0 w H) (i : Nat) {u : Value} {vs : List Sl} {T : List (List Int)} (h : H[i]? = some (plTab u vs T)) {k j : Nat} {t : List Int} {y : Int} (hk : T[k]? = some t) (hj : t[j]? = some y) (x : Int) :
    ∃ gT cT gI cI, u = .slice (some ⟨gT, 0, none⟩) T.length cT ∧ w.cell? ⟨gT, k, none⟩ = some (.slice (some ⟨gI, 0, none⟩) t.length cI) ∧ w.cell? ⟨gI, j, none⟩ = some (.int .i64 y) ∧ w.frozen? ⟨gI, j, none⟩ = false ∧ (plTab u vs T).own gI ∧ SepM M w0 (w.setCell ⟨gI, j, none⟩ (.int .i64 x)) (H.set i (plTab u vs (T.set k (t.set j x)))) := by
  obtain ⟨gT, cT, s, hu, hs, hsn, hsc, c0, _, ho⟩ := tab_at (S.at_ i h) hk
  obtain ⟨sa, sn, sc⟩ := s
  simp only at hsn hsc c0
  subst hsn
  obtain ⟨aI, cI, hv, _, _, hsh⟩ := view_owns encInt1_len ho
  simp only [Sl.v, Value.slice.injEq, true_and] at hv
  obtain ⟨rfl, rfl⟩ := hv
  have hjl := (List.getElem?_eq_some_iff.1 hj).1
  rcases hsh with ⟨_, h0, _⟩ | ⟨gI, rfl, _⟩
  · rw [h0] at hjl; simp at hjl
  have hjy : t[j] = y := by rw [List.getElem?_eq_getElem hjl] at hj; exact Option.some.inj hj
  have e0 : w.cell? ⟨gI, j, none⟩ = some (.int .i64 y) := by
    have := owns_at encInt1_len ho j hjl 0 (.int .i64 y) (by rw [hjy]; rfl)
    simpa using this
  have ho2 := owns_set encInt1_len ho j 0 (.int .i64 x) x hjl (by omega) rfl
  rw [Nat.mul_one, Nat.add_zero] at ho2
  refine ⟨gT, cT, gI, sc, hu, c0, e0, World.ownsRow.frozenAt ho j, .inr ⟨_, List.mem_of_getElem? hs, rfl⟩, ?_⟩
  exact S.tabAt i h hs (base := 0) ((Chg.setCell w gI j (.int .i64 x)).mono (fun b hb _ => by rw [hb]; rfl)) (by rw [List.length_set]; exact ho2)
theorem SepM.rowCell (S : SepM M w0 w H) (i : Nat) {a : Option Addr} {c : Nat} {L : List Int} (h : H[i]? = some (plRow 3 1 encInt1 (.slice a L.length c) L)) {j : Nat} {y : Int} (hj : L[j]? = some y) (x : Int) :
    ∃ g, a = some ⟨g, 0, none⟩ ∧ w.cell? ⟨g, j, none⟩ = some (.int .i64 y) ∧ w.frozen? ⟨g, j, none⟩ = false ∧ SepM M w0 (w.setCell ⟨g, j, none⟩ (.int .i64 x)) (H.set i (plRow 3 1 encInt1 (.slice (some ⟨g, 0, none⟩) L.length c) (L.set j x))) := by
  have ho := S.row i h
  have hjl := (List.getElem?_eq_some_iff.1 hj).1
  obtain ⟨a', c', hv, _, _, hsh⟩ := view_owns encInt1_len ho
  simp only [Value.slice.injEq, true_and] at hv
  obtain ⟨rfl, rfl⟩ := hv
  rcases hsh with ⟨_, h0, _⟩ | ⟨g, rfl, _⟩
  · rw [h0] at hjl; simp at hjl
  have hjy : L[j] = y := by rw [List.getElem?_eq_getElem hjl] at hj; exact Option.some.inj hj
  have e0 : w.cell? ⟨g, j, none⟩ = some (.int .i64 y) := by
    have := owns_at encInt1_len ho j hjl 0 (.int .i64 y) (by rw [hjy]; rfl)
    simpa using this
  have S2 := S.rowSet i encInt1_len h rfl j 0 (.int .i64 x) x hjl (by omega) rfl
  rw [Nat.mul_one, Nat.add_zero] at S2
  exact ⟨g, rfl, e0, World.ownsRow.frozenAt ho j, S2⟩
end

set_option maxHeartbeats 1000000 in
/-- The first place of a number. -/
theorem idxInt_first (a : Option Addr) (cap n : Nat) (l : List Int) (x : Int) (w : World) (hn : n = l.length) (hl : l.length ≤ 9223372036854775807) (hc : Rd 1 encInt1 w a l) :
    Calls Try.prog 61 #[.slice a n cap, .int .i64 x] w (RetV (fun v _ => ∃ r : Int, v = .int .i64 r ∧ ((r = -1 ∧ ∀ i : Nat, l[i]? ≠ some x) ∨ ∃ g : Nat, r = g ∧ l[g]? = some x ∧ ∀ i : Nat, i < g → l[i]? ≠ some x)) w) := by
  subst hn
  go_enter Try.func61, Try.ntmps61
  go_wp2
  go_loopw [5, 8] (fun _ i wr => ∃ k : Nat, k ≤ l.length ∧ i = .int .i64 k ∧ (∀ j : Nat, j < k → l[j]? ≠ some x) ∧ Ext w wr) (fun _ i _ => l.length - (intOf i).toNat)
  case atStart => exact ⟨0, Nat.zero_le _, rfl, fun _ h => absurd h (Nat.not_lt_zero _), Ext.refl _⟩
  case round =>
    obtain ⟨k, hk, rfl, hpre, hb⟩ := hrel
    have Hpre := Lib.hid hpre
    clear hpre
    by_cases hlt : k < l.length
    · obtain ⟨y, b, off, hy, rfl, c0⟩ := atInt (hc.ext hb) hlt
      have Hy := Lib.hid hy
      clear hy
      by_cases hxy : x = y
      · have txy : (x == y) = true := by simpa using hxy
        have HQ : Hid (∃ g : Nat, ((k : Nat) : Int) = g ∧ l[g]? = some x ∧ ∀ i : Nat, i < g → l[i]? ≠ some x) := Lib.hid ⟨k, rfl, by rw [hxy]; exact Hy.out, Hpre.out⟩
        clear hxy
        go_wp2
        go_ret
        exact RetV.mk ⟨(k : Int), rfl, .inr HQ.out⟩ hb
      · have txy : (x == y) = false := by simpa using hxy
        have HN : Hid (∀ j : Nat, j < k + 1 → l[j]? ≠ some x) := Lib.hid (fun j hj => by
          rcases Nat.lt_succ_iff_lt_or_eq.1 hj with h' | rfl
          · exact Hpre.out j h'
          · rw [Hy.out]; exact fun e => hxy (Option.some.inj e).symm)
        clear hxy
        go_wp2
        go_roundw
        case rel => exact ⟨k + 1, by omega, by go_num, HN.out, hb⟩
        case measure => simp [intOf]; omega
    · have HN : Hid (∀ i : Nat, l[i]? ≠ some x) := Lib.hid (fun i h => Hpre.out i (by have := (List.getElem?_eq_some_iff.1 h).1; omega) h)
      go_wp2
      go_ret
      exact RetV.mk ⟨(-1 : Int), rfl, .inl ⟨rfl, HN.out⟩⟩ hb

theorem free_found {n : Nat} {P : List Int} {g : Nat} (h : (usesP n P)[g]? = some 0) (hb : ∀ i : Nat, i < g → (usesP n P)[i]? ≠ some 0) : g < n ∧ Free n P g := by
  have hg : g < n := by have := (List.getElem?_eq_some_iff.1 h).1; rwa [usesP_len] at this
  refine ⟨hg, Nat.le_of_lt hg, fun i hi hc => hb i hi ?_, fun _ => ?_⟩
  · rw [usesP_at P (by omega), hc]; rfl
  · rw [usesP_at P hg] at h
    have := Option.some.inj h
    omega
theorem free_all {n : Nat} {P : List Int} (h : ∀ i : Nat, (usesP n P)[i]? ≠ some 0) : Free n P n :=
  ⟨Nat.le_refl _, fun i hi hc => h i (by rw [usesP_at P hi, hc]; rfl), fun h => absurd h (Nat.lt_irrefl _)⟩

set_option maxRecDepth 10000 in
set_option maxHeartbeats 16000000 in
theorem implWritePage (af : Option Addr) (cf : Nat) (F : List Int) (at_ : Option Addr) (ct : Nat) (T : List (List Int)) (who page num : Int) (w : World) (hF : F.length ≤ 9223372036854775807) (hT : T.length ≤ 9223372036854775807) (hrf : Rd 1 encInt1 w af F) (hrt : RdT w at_ T) :
    Calls Try.prog 37 #[.agg #[.slice af F.length cf, .slice at_ T.length ct], .int .i64 who, .int .i64 page, .int .i64 num] w fun e w' => ∃ a1 c1 F2 a2 c2 vs T2 ok, e = .returned (.tuple #[.agg #[.slice a1 F2.length c1, .slice a2 T2.length c2], .bool ok]) ∧ WriteR F T who page num F2 T2 ok ∧ Sep w w' [plTab (.slice a2 T2.length c2) vs T2, plRow 3 1 encInt1 (.slice a1 F2.length c1) F2] := by
  go_enter Try.func37, Try.ntmps37
  have S := Sep.start w
  replace S : Sep w (w.alloc (.cells #[.slice af F.length cf, .slice at_ T.length ct] 28)) [plBox w.heap.size #[.slice af F.length cf, .slice at_ T.length ct] 28] := S.alloc_at (by simp) _ _
  replace S : Sep w ((w.alloc (.cells #[.slice af F.length cf, .slice at_ T.length ct] 28)).alloc (.cells #[.slice none 0 0, .slice none 0 0] 28)) [plBox (w.heap.size + 1) #[.slice none 0 0, .slice none 0 0] 28, plBox w.heap.size #[.slice af F.length cf, .slice at_ T.length ct] 28] := S.alloc_at (by simp) _ _
  go_wp2_with fail
  generalize ((w.alloc (.cells #[.slice af F.length cf, .slice at_ T.length ct] 28)).alloc (.cells #[.slice none 0 0, .slice none 0 0] 28)) = w1 at *
  refine (implMemoryValid af cf F at_ ct T w1 hF hT (hrf.ext S.ext) (hrt.ext S.ext)).mono ?_
  rintro e w2 ⟨v0, rfl, hv0, hE⟩
  have Hv0 := Lib.hid hv0
  clear hv0
  replace S : Sep w w2 [plBox (w.heap.size + 1) #[.slice none 0 0, .slice none 0 0] 28, plBox w.heap.size #[.slice af F.length cf, .slice at_ T.length ct] 28] := S.step hE
  clear hE
  cases v0 with
  | false =>
    have HR : Hid (WriteR F T who page num [] [] false) := Lib.hid (.inl ⟨fun h => Bool.noConfusion (Hv0.out.2 h), rfl, rfl, rfl⟩)
    obtain ⟨rbc0, rbf0⟩ : w2.cell? ⟨(w.heap.size + 1), 0, none⟩ = some (.slice none 0 0) ∧ w2.frozen? ⟨(w.heap.size + 1), 0, none⟩ = false := bx (S.box 0 rfl) 0 rfl
    obtain ⟨rbc1, rbf1⟩ : w2.cell? ⟨(w.heap.size + 1), 1, none⟩ = some (.slice none 0 0) ∧ w2.frozen? ⟨(w.heap.size + 1), 1, none⟩ = false := bx (S.box 0 rfl) 1 rfl
    obtain ⟨bmc0, bmf0⟩ : w2.cell? ⟨w.heap.size, 0, none⟩ = some (.slice af F.length cf) ∧ w2.frozen? ⟨w.heap.size, 0, none⟩ = false := bx (S.box 1 rfl) 0 rfl
    obtain ⟨bmc1, bmf1⟩ : w2.cell? ⟨w.heap.size, 1, none⟩ = some (.slice at_ T.length ct) ∧ w2.frozen? ⟨w.heap.size, 1, none⟩ = false := bx (S.box 1 rfl) 1 rfl
    go_wp2
    try simp only [Exit.inBlock, Exit.then]
    refine bodyPost_ret (v := .tuple #[.agg #[.slice none 0 0, .slice none 0 0], .bool false]) (by simp [results, Try.results37, go_sem, rbc0, rbc1]) rfl ?_
    replace S : Sep w (w2.setCell ⟨(w.heap.size + 1), 0, none⟩ (.slice none 0 0)) [plBox (w.heap.size + 1) #[.slice none 0 0, .slice none 0 0] 28, plBox w.heap.size #[.slice af F.length cf, .slice at_ T.length ct] 28] := S.set 0 rfl 0 _
    replace S : Sep w ((w2.setCell ⟨(w.heap.size + 1), 0, none⟩ (.slice none 0 0)).setCell ⟨(w.heap.size + 1), 1, none⟩ (.slice none 0 0)) [plBox (w.heap.size + 1) #[.slice none 0 0, .slice none 0 0] 28, plBox w.heap.size #[.slice af F.length cf, .slice at_ T.length ct] 28] := S.set 0 rfl 1 _
    replace S : Sep w ((w2.setCell ⟨(w.heap.size + 1), 0, none⟩ (.slice none 0 0)).setCell ⟨(w.heap.size + 1), 1, none⟩ (.slice none 0 0)) [plBox w.heap.size #[.slice af F.length cf, .slice at_ T.length ct] 28] := S.drop 0
    replace S : Sep w ((w2.setCell ⟨(w.heap.size + 1), 0, none⟩ (.slice none 0 0)).setCell ⟨(w.heap.size + 1), 1, none⟩ (.slice none 0 0)) [] := S.drop 0
    exact ⟨none, 0, [], none, 0, [], [], false, rfl, HR.out, (S.nil _ _ _).tabNil⟩
  | true =>
    have HMO := Lib.hid (Hv0.out.1 rfl)
    have HLT := Lib.hid (mem_lens HMO.out).2.2
    have hl12 : F.length ≤ 12 := HMO.out.frames
    have hl4 : T.length ≤ 4 := HMO.out.tables
    have HS := Lib.hid (small_sum (same_small HMO.out))
    clear Hv0
    obtain ⟨bmc0, bmf0⟩ : w2.cell? ⟨w.heap.size, 0, none⟩ = some (.slice af F.length cf) ∧ w2.frozen? ⟨w.heap.size, 0, none⟩ = false := bx (S.box 1 rfl) 0 rfl
    obtain ⟨bmc1, bmf1⟩ : w2.cell? ⟨w.heap.size, 1, none⟩ = some (.slice at_ T.length ct) ∧ w2.frozen? ⟨w.heap.size, 1, none⟩ = false := bx (S.box 1 rfl) 1 rfl
    go_wp2_with fail
    clear bmc0 bmf0 bmc1 bmf1
    refine (copyMem_any af cf F at_ ct T w2 (by omega) (by omega) HLT.out (hrf.ext S.ext) (hrt.ext S.ext)).mono ?_
    rintro e w3 ⟨a1, c1, a2, c2, vs, rfl, hk1, hk2, U⟩
    replace S : Sep w w3 [plTab (.slice a2 T.length c2) vs T, plRow 3 1 encInt1 (.slice a1 F.length c1) F, plBox (w.heap.size + 1) #[.slice none 0 0, .slice none 0 0] 28, plBox w.heap.size #[.slice af F.length cf, .slice at_ T.length ct] 28] := S.call U
    clear U
    obtain ⟨B2, hB2⟩ : ∃ B2, B2 = w3.heap.size := ⟨_, rfl⟩
    replace S : Sep w (w3.alloc (.cells #[.slice a1 F.length c1, .slice a2 T.length c2] 28)) [plBox w3.heap.size #[.slice a1 F.length c1, .slice a2 T.length c2] 28, plTab (.slice a2 T.length c2) vs T, plRow 3 1 encInt1 (.slice a1 F.length c1) F, plBox (w.heap.size + 1) #[.slice none 0 0, .slice none 0 0] 28, plBox w.heap.size #[.slice af F.length cf, .slice at_ T.length ct] 28] := S.alloc_at (by simp) _ _
    have hbad : ¬ ((pageAt T who page).isSome = true ∧ UseOk num) → Hid (WriteR F T who page num F T false) := fun h => Lib.hid (.inr (.inl ⟨HMO.out, h, rfl, rfl, rfl⟩))
    obtain ⟨bmc0, bmf0⟩ : (w3.alloc (.cells #[.slice a1 F.length c1, .slice a2 T.length c2] 28)).cell? ⟨w.heap.size, 0, none⟩ = some (.slice af F.length cf) ∧ (w3.alloc (.cells #[.slice a1 F.length c1, .slice a2 T.length c2] 28)).frozen? ⟨w.heap.size, 0, none⟩ = false := bx (S.box 4 rfl) 0 rfl
    obtain ⟨bmc1, bmf1⟩ : (w3.alloc (.cells #[.slice a1 F.length c1, .slice a2 T.length c2] 28)).cell? ⟨w.heap.size, 1, none⟩ = some (.slice at_ T.length ct) ∧ (w3.alloc (.cells #[.slice a1 F.length c1, .slice a2 T.length c2] 28)).frozen? ⟨w.heap.size, 1, none⟩ = false := bx (S.box 4 rfl) 1 rfl
    go_wp2_with fail
    clear bmc0 bmf0 bmc1 bmf1
    generalize (w3.alloc (.cells #[.slice a1 F.length c1, .slice a2 T.length c2] 28)) = w4 at *
    rw [← hB2] at *
    clear hB2
    refine (hasPage_any af cf F at_ ct T who page w4 hT (fun t ht => by have := ok_len HMO.out t ht; omega) (hrt.ext S.ext)).mono ?_
    rintro e w5 ⟨v1, rfl, hv1, hE⟩
    have Hv1 := Lib.hid hv1
    clear hv1
    replace S : Sep w w5 [plBox B2 #[.slice a1 F.length c1, .slice a2 T.length c2] 28, plTab (.slice a2 T.length c2) vs T, plRow 3 1 encInt1 (.slice a1 F.length c1) F, plBox (w.heap.size + 1) #[.slice none 0 0, .slice none 0 0] 28, plBox w.heap.size #[.slice af F.length cf, .slice at_ T.length ct] 28] := S.step hE
    clear hE
    cases v1 with
    | false =>
      have HR := hbad (fun h => Bool.noConfusion (Hv1.out.2 h.1))
      clear hbad
      obtain ⟨obc0, obf0⟩ : w5.cell? ⟨B2, 0, none⟩ = some (.slice a1 F.length c1) ∧ w5.frozen? ⟨B2, 0, none⟩ = false := bx (S.box 0 rfl) 0 rfl
      obtain ⟨obc1, obf1⟩ : w5.cell? ⟨B2, 1, none⟩ = some (.slice a2 T.length c2) ∧ w5.frozen? ⟨B2, 1, none⟩ = false := bx (S.box 0 rfl) 1 rfl
      obtain ⟨rbc0, rbf0⟩ : w5.cell? ⟨(w.heap.size + 1), 0, none⟩ = some (.slice none 0 0) ∧ w5.frozen? ⟨(w.heap.size + 1), 0, none⟩ = false := bx (S.box 3 rfl) 0 rfl
      obtain ⟨rbc1, rbf1⟩ : w5.cell? ⟨(w.heap.size + 1), 1, none⟩ = some (.slice none 0 0) ∧ w5.frozen? ⟨(w.heap.size + 1), 1, none⟩ = false := bx (S.box 3 rfl) 1 rfl
      obtain ⟨bmc0, bmf0⟩ : w5.cell? ⟨w.heap.size, 0, none⟩ = some (.slice af F.length cf) ∧ w5.frozen? ⟨w.heap.size, 0, none⟩ = false := bx (S.box 4 rfl) 0 rfl
      obtain ⟨bmc1, bmf1⟩ : w5.cell? ⟨w.heap.size, 1, none⟩ = some (.slice at_ T.length ct) ∧ w5.frozen? ⟨w.heap.size, 1, none⟩ = false := bx (S.box 4 rfl) 1 rfl
      go_wp2
      try simp only [Exit.inBlock, Exit.then]
      refine bodyPost_ret (v := .tuple #[.agg #[.slice a1 F.length c1, .slice a2 T.length c2], .bool false]) (by simp [results, Try.results37, go_sem, rbc0, rbc1, obc0, obc1]) rfl ?_
      replace S : Sep w (w5.setCell ⟨(w.heap.size + 1), 0, none⟩ (.slice a1 F.length c1)) [plBox B2 #[.slice a1 F.length c1, .slice a2 T.length c2] 28, plTab (.slice a2 T.length c2) vs T, plRow 3 1 encInt1 (.slice a1 F.length c1) F, plBox (w.heap.size + 1) #[.slice a1 F.length c1, .slice none 0 0] 28, plBox w.heap.size #[.slice af F.length cf, .slice at_ T.length ct] 28] := S.set 3 rfl 0 _
      replace S : Sep w ((w5.setCell ⟨(w.heap.size + 1), 0, none⟩ (.slice a1 F.length c1)).setCell ⟨(w.heap.size + 1), 1, none⟩ (.slice a2 T.length c2)) [plBox B2 #[.slice a1 F.length c1, .slice a2 T.length c2] 28, plTab (.slice a2 T.length c2) vs T, plRow 3 1 encInt1 (.slice a1 F.length c1) F, plBox (w.heap.size + 1) #[.slice a1 F.length c1, .slice a2 T.length c2] 28, plBox w.heap.size #[.slice af F.length cf, .slice at_ T.length ct] 28] := S.set 3 rfl 1 _
      replace S : Sep w ((w5.setCell ⟨(w.heap.size + 1), 0, none⟩ (.slice a1 F.length c1)).setCell ⟨(w.heap.size + 1), 1, none⟩ (.slice a2 T.length c2)) [plTab (.slice a2 T.length c2) vs T, plRow 3 1 encInt1 (.slice a1 F.length c1) F, plBox (w.heap.size + 1) #[.slice a1 F.length c1, .slice a2 T.length c2] 28, plBox w.heap.size #[.slice af F.length cf, .slice at_ T.length ct] 28] := S.drop 0
      replace S : Sep w ((w5.setCell ⟨(w.heap.size + 1), 0, none⟩ (.slice a1 F.length c1)).setCell ⟨(w.heap.size + 1), 1, none⟩ (.slice a2 T.length c2)) [plTab (.slice a2 T.length c2) vs T, plRow 3 1 encInt1 (.slice a1 F.length c1) F, plBox w.heap.size #[.slice af F.length cf, .slice at_ T.length ct] 28] := S.drop 2
      replace S : Sep w ((w5.setCell ⟨(w.heap.size + 1), 0, none⟩ (.slice a1 F.length c1)).setCell ⟨(w.heap.size + 1), 1, none⟩ (.slice a2 T.length c2)) [plTab (.slice a2 T.length c2) vs T, plRow 3 1 encInt1 (.slice a1 F.length c1) F] := S.drop 2
      first | exact ⟨a1, c1, F, a2, c2, vs, T, false, rfl, HR.out, S⟩ | exact ⟨a1, c1, F, a2, c2, vs, T, .inl ⟨rfl, HR.out, S⟩⟩
    | true =>
      obtain ⟨k, j, t, f0, rfl, rfl, ht, hf⟩ := page_of (Hv1.out.1 rfl)
      obtain ⟨f, rfl, hfl⟩ := frame_of HMO.out ht hf
      have Ht := Lib.hid ht
      have Hf := Lib.hid hf
      have htl := ok_len HMO.out t (List.mem_of_getElem? ht)
      clear Hv1
      by_cases hu : 0 ≤ num ∧ num ≤ 10000
      rotate_left
      · have ein := inB_false hu
        have HR := hbad (fun h => hu h.2)
        clear hbad hu
        go_upto_region 5 with (go_at_call 46; refine ((isUse_any _ _).mono (fun e w2 h => by rw [ein] at h; exact h)).mono ?_; rintro e w' ⟨rfl, rfl⟩)
        obtain ⟨obc0, obf0⟩ : w5.cell? ⟨B2, 0, none⟩ = some (.slice a1 F.length c1) ∧ w5.frozen? ⟨B2, 0, none⟩ = false := bx (S.box 0 rfl) 0 rfl
        obtain ⟨obc1, obf1⟩ : w5.cell? ⟨B2, 1, none⟩ = some (.slice a2 T.length c2) ∧ w5.frozen? ⟨B2, 1, none⟩ = false := bx (S.box 0 rfl) 1 rfl
        obtain ⟨rbc0, rbf0⟩ : w5.cell? ⟨(w.heap.size + 1), 0, none⟩ = some (.slice none 0 0) ∧ w5.frozen? ⟨(w.heap.size + 1), 0, none⟩ = false := bx (S.box 3 rfl) 0 rfl
        obtain ⟨rbc1, rbf1⟩ : w5.cell? ⟨(w.heap.size + 1), 1, none⟩ = some (.slice none 0 0) ∧ w5.frozen? ⟨(w.heap.size + 1), 1, none⟩ = false := bx (S.box 3 rfl) 1 rfl
        obtain ⟨bmc0, bmf0⟩ : w5.cell? ⟨w.heap.size, 0, none⟩ = some (.slice af F.length cf) ∧ w5.frozen? ⟨w.heap.size, 0, none⟩ = false := bx (S.box 4 rfl) 0 rfl
        obtain ⟨bmc1, bmf1⟩ : w5.cell? ⟨w.heap.size, 1, none⟩ = some (.slice at_ T.length ct) ∧ w5.frozen? ⟨w.heap.size, 1, none⟩ = false := bx (S.box 4 rfl) 1 rfl
        go_wp2
        try simp only [Exit.inBlock, Exit.then]
        refine bodyPost_ret (v := .tuple #[.agg #[.slice a1 F.length c1, .slice a2 T.length c2], .bool false]) (by simp [results, Try.results37, go_sem, rbc0, rbc1, obc0, obc1]) rfl ?_
        replace S : Sep w (w5.setCell ⟨(w.heap.size + 1), 0, none⟩ (.slice a1 F.length c1)) [plBox B2 #[.slice a1 F.length c1, .slice a2 T.length c2] 28, plTab (.slice a2 T.length c2) vs T, plRow 3 1 encInt1 (.slice a1 F.length c1) F, plBox (w.heap.size + 1) #[.slice a1 F.length c1, .slice none 0 0] 28, plBox w.heap.size #[.slice af F.length cf, .slice at_ T.length ct] 28] := S.set 3 rfl 0 _
        replace S : Sep w ((w5.setCell ⟨(w.heap.size + 1), 0, none⟩ (.slice a1 F.length c1)).setCell ⟨(w.heap.size + 1), 1, none⟩ (.slice a2 T.length c2)) [plBox B2 #[.slice a1 F.length c1, .slice a2 T.length c2] 28, plTab (.slice a2 T.length c2) vs T, plRow 3 1 encInt1 (.slice a1 F.length c1) F, plBox (w.heap.size + 1) #[.slice a1 F.length c1, .slice a2 T.length c2] 28, plBox w.heap.size #[.slice af F.length cf, .slice at_ T.length ct] 28] := S.set 3 rfl 1 _
        replace S : Sep w ((w5.setCell ⟨(w.heap.size + 1), 0, none⟩ (.slice a1 F.length c1)).setCell ⟨(w.heap.size + 1), 1, none⟩ (.slice a2 T.length c2)) [plTab (.slice a2 T.length c2) vs T, plRow 3 1 encInt1 (.slice a1 F.length c1) F, plBox (w.heap.size + 1) #[.slice a1 F.length c1, .slice a2 T.length c2] 28, plBox w.heap.size #[.slice af F.length cf, .slice at_ T.length ct] 28] := S.drop 0
        replace S : Sep w ((w5.setCell ⟨(w.heap.size + 1), 0, none⟩ (.slice a1 F.length c1)).setCell ⟨(w.heap.size + 1), 1, none⟩ (.slice a2 T.length c2)) [plTab (.slice a2 T.length c2) vs T, plRow 3 1 encInt1 (.slice a1 F.length c1) F, plBox w.heap.size #[.slice af F.length cf, .slice at_ T.length ct] 28] := S.drop 2
        replace S : Sep w ((w5.setCell ⟨(w.heap.size + 1), 0, none⟩ (.slice a1 F.length c1)).setCell ⟨(w.heap.size + 1), 1, none⟩ (.slice a2 T.length c2)) [plTab (.slice a2 T.length c2) vs T, plRow 3 1 encInt1 (.slice a1 F.length c1) F] := S.drop 2
        first | exact ⟨a1, c1, F, a2, c2, vs, T, false, rfl, HR.out, S⟩ | exact ⟨a1, c1, F, a2, c2, vs, T, .inl ⟨rfl, HR.out, S⟩⟩
      have ein := inB_iff.2 hu
      obtain ⟨Q, hQ⟩ : ∃ Q, Q = T.flatten := ⟨_, rfl⟩
      have HW0 : Hid (∀ F2 T2 ok, ((Q.count (f : Int) ≤ 1 ∧ F2 = F.set f num ∧ T2 = T ∧ ok = true) ∨ (1 < Q.count (f : Int) ∧ ∃ g, Free F.length Q g ∧ ((g < F.length ∧ F2 = F.set g num ∧ T2 = T.set k (t.set j g) ∧ ok = true) ∨ (g = F.length ∧ F.length = 12 ∧ F2 = F ∧ T2 = T ∧ ok = false) ∨ (g = F.length ∧ F.length ≠ 12 ∧ F2 = F ++ [num] ∧ T2 = T.set k (t.set j g) ∧ ok = true)))) → WriteR F T k j num F2 T2 ok) := Lib.hid (fun F2 T2 ok h => .inr (.inr ⟨HMO.out, hu, k, j, t, f, rfl, rfl, ht, hf, by rw [hQ] at h; exact h⟩))
      have hQl : Q.length ≤ 20 := by rw [hQ, flat_len]; exact HS.out
      have HQ := Lib.hid hQ
      clear hbad hu hQ
      have hkT := (List.getElem?_eq_some_iff.1 ht).1
      have hjt := (List.getElem?_eq_some_iff.1 hf).1
      obtain ⟨t', p, off, ai, ci, ht', hpe, c0, hci, hrt1⟩ := atTab (hrt.ext S.ext) hkT
      subst hpe
      obtain rfl : t = t' := by rw [ht] at ht'; exact Option.some.inj ht'
      obtain ⟨f', q, o2, hf', hqe, d0⟩ := atInt hrt1 hjt
      subst hqe
      obtain rfl : (f : Int) = f' := by rw [hf] at hf'; exact Option.some.inj hf'
      have i0 : (k : Int) < (T.length : Int) := by omega
      have i1 : (j : Int) < (t.length : Int) := by omega
      clear ht' hf' hrt1 ht hf
      go_upto_region 6 with (go_at_call 46; refine ((isUse_any _ _).mono (fun e w2 h => by rw [ein] at h; exact h)).mono ?_; rintro e w' ⟨rfl, rfl⟩)
      clear ein
      obtain ⟨bmc0, bmf0⟩ : w5.cell? ⟨w.heap.size, 0, none⟩ = some (.slice af F.length cf) ∧ w5.frozen? ⟨w.heap.size, 0, none⟩ = false := bx (S.box 4 rfl) 0 rfl
      obtain ⟨bmc1, bmf1⟩ : w5.cell? ⟨w.heap.size, 1, none⟩ = some (.slice (some ⟨p, off, none⟩) T.length ct) ∧ w5.frozen? ⟨w.heap.size, 1, none⟩ = false := bx (S.box 4 rfl) 1 rfl
      have Ed := S.ext.drew
      refine wp_region_v 12 (V := fun i v wv => match i with
        | 0 => v = .agg #[.slice af F.length cf, .slice (some ⟨p, off, none⟩) T.length ct]
        | 1 => ∃ g, v = .slice (some ⟨g, 0, none⟩) F.length F.length ∧ wv.ownsRow w5.heap.size 3 1 (.slice (some ⟨g, 0, none⟩) F.length F.length) (usesP F.length Q).length ((usesP F.length Q).flatMap encInt1)
        | 2 => v = .pointer (some ⟨w.heap.size, 1, none⟩)
        | 3 => v = .slice (some ⟨p, off, none⟩) T.length ct
        | 4 => v = .int .i64 k
        | 5 => v = .pointer (some ⟨p, off + k, none⟩)
        | 6 => v = .slice (some ⟨q, o2, none⟩) t.length ci
        | 7 => v = .int .i64 j
        | 8 => v = .pointer (some ⟨q, o2 + j, none⟩)
        | 9 => v = .int .i64 f
        | 10 => ∃ g, v = .slice (some ⟨g, 0, none⟩) F.length F.length ∧ wv.ownsRow w5.heap.size 3 1 (.slice (some ⟨g, 0, none⟩) F.length F.length) (usesP F.length Q).length ((usesP F.length Q).flatMap encInt1)
        | 11 => v = .int .i64 f
        | _ => True) rfl (by decide) (by kernel_rfl) (by kernel_rfl) (by kernel_rfl) ?_ ?_ ?_
      · intro i v wa wb h hE
        match i with
        | 0 | 2 | 3 | 4 | 5 | 6 | 7 | 8 | 9 | 11 => exact h
        | 1 | 10 => obtain ⟨g, h1, h2⟩ := h; exact ⟨g, h1, ownsRow_ext h2 hE⟩
        | (n + 12) => trivial
      · intro i o hi ho vz wc hvl hE hd
        have m0 := cell_ext hE (show w5.drew.cell? _ = _ from bmc0)
        have m1 := cell_ext hE (show w5.drew.cell? _ = _ from bmc1)
        have m2 := cell_ext hE (show w5.drew.cell? _ = _ from c0)
        have m3 := cell_ext hE (show w5.drew.cell? _ = _ from d0)
        have E7 := Ed.trans hE
        have hsz : w5.heap.size ≤ wc.heap.size := hE.size
        clear bmc0 bmf0 bmc1 bmf1
        match vz, hvl with
        | [y0, y1, y2, y3, y4, y5, y6, y7, y8, y9, y10, y11], _ =>
        rcases (show i = 0 ∨ i = 1 ∨ i = 2 ∨ i = 3 ∨ i = 4 ∨ i = 5 ∨ i = 6 ∨ i = 7 ∨ i = 8 ∨ i = 9 ∨ i = 10 ∨ i = 11 by omega) with rfl | rfl | rfl | rfl | rfl | rfl | rfl | rfl | rfl | rfl | rfl | rfl
        all_goals
          simp only [List.getElem?_cons_zero, List.getElem?_cons_succ, Option.some.injEq] at ho
          subst ho
          simp [Waits, Region.binds] at hd
        · simp [putAll, Act.put]
          go_wp2
          exact ⟨rfl, _, rfl, rfl, Ext.refl _⟩
        · simp [putAll, Act.put, hd]
          go_wp2_with fail
          refine (frameUses_any af cf F _ ct T wc HMO.out (hrt.ext E7)).mono ?_
          rintro e wd ⟨g, rfl, U⟩
          have h9 : wd.ownsRow w5.heap.size 3 1 (.slice (some ⟨g, 0, none⟩) F.length F.length) (usesP F.length Q).length ((usesP F.length Q).flatMap encInt1) := by rw [HQ.out]; exact ownsRow_base (U.row 0 rfl) hsz
          have hb := U.ext
          clear U
          go_wp2
          exact ⟨rfl, _, rfl, ⟨g, rfl, h9⟩, hb⟩
        · simp [putAll, Act.put]
          go_wp2
          exact ⟨rfl, _, rfl, rfl, Ext.refl _⟩
        · simp [putAll, Act.put, hd]
          go_wp2
          exact ⟨rfl, _, rfl, rfl, Ext.refl _⟩
        · simp [putAll, Act.put]
          go_wp2
          exact ⟨rfl, _, rfl, rfl, Ext.refl _⟩
        · simp [putAll, Act.put, hd]
          go_wp2
          exact ⟨rfl, _, rfl, rfl, Ext.refl _⟩
        · simp [putAll, Act.put, hd]
          go_wp2
          exact ⟨rfl, _, rfl, rfl, Ext.refl _⟩
        · simp [putAll, Act.put]
          go_wp2
          exact ⟨rfl, _, rfl, rfl, Ext.refl _⟩
        · simp [putAll, Act.put, hd]
          go_wp2
          exact ⟨rfl, _, rfl, rfl, Ext.refl _⟩
        · simp [putAll, Act.put, hd]
          go_wp2
          exact ⟨rfl, _, rfl, rfl, Ext.refl _⟩
        · have h9 : ∃ g, y1 = .slice (some ⟨g, 0, none⟩) F.length F.length ∧ wc.ownsRow w5.heap.size 3 1 (.slice (some ⟨g, 0, none⟩) F.length F.length) (usesP F.length Q).length ((usesP F.length Q).flatMap encInt1) := by first | exact hd | exact hd.1
          clear hd
          simp [putAll, Act.put]
          go_wp2
          exact ⟨rfl, _, rfl, h9, Ext.refl _⟩
        · have h9 : y9 = .int .i64 f := by first | exact hd | exact hd.2 | exact hd.1
          clear hd
          subst h9
          simp [putAll, Act.put]
          go_wp2
          exact ⟨rfl, _, rfl, rfl, Ext.refl _⟩
      intro vz w11 hvl hE hV
      match vz, hvl with
      | [y0, y1, y2, y3, y4, y5, y6, y7, y8, y9, y10, y11], _ =>
      obtain ⟨g, e10, ho⟩ := hV 10 (by omega)
      have e11 := hV 11 (by omega)
      clear hV
      simp at e10 e11
      subst e10 e11
      simp only [putAll, Act.put, List.take_succ_cons, List.take_zero, List.drop_succ_cons, List.drop_zero]
      simp
      replace hE := Ext.trans (Ext.refl w5).drew hE
      have U := Sep.of_owns hE ho
      clear Ed hE ho c0 d0
      clear bmc0 bmf0 bmc1 bmf1
      replace S : Sep w w11 [plRow 3 1 encInt1 (.slice (some ⟨g, 0, none⟩) F.length F.length) (usesP F.length Q), plBox B2 #[.slice a1 F.length c1, .slice a2 T.length c2] 28, plTab (.slice a2 T.length c2) vs T, plRow 3 1 encInt1 (.slice a1 F.length c1) F, plBox (w.heap.size + 1) #[.slice none 0 0, .slice none 0 0] 28, plBox w.heap.size #[.slice af F.length cf, .slice (some ⟨p, off, none⟩) T.length ct] 28] := S.call U
      clear U
      have hrow := S.row 0 rfl
      rw [usesP_len] at hrow
      have hfu : f < (usesP F.length Q).length := by rw [usesP_len]; exact hfl
      have e0 : (usesP F.length Q)[f]'hfu = ((Q.count (f : Int) : Nat) : Int) := by
        have := usesP_at Q hfl
        rw [List.getElem?_eq_getElem hfu] at this
        exact Option.some.inj this
      have g0 : w11.cell? ⟨g, f, none⟩ = some (.int .i64 ((Q.count (f : Int) : Nat) : Int)) := by
        have := owns_at encInt1_len hrow f hfu 0 (.int .i64 ((Q.count (f : Int) : Nat) : Int)) (by rw [e0]; rfl)
        simpa using this
      have i2 : (f : Int) < (F.length : Int) := by omega
      clear hrow e0 hfu
      by_cases hc : 1 < Q.count (f : Int)
      · have hci : (1 : Int) < ((Q.count (f : Int) : Nat) : Int) := by omega
        have HC := Lib.hid hc
        clear hc
        go_wp2_with fail
        clear g0 hci
        refine (idxInt_first (some ⟨g, 0, none⟩) F.length F.length (usesP F.length Q) 0 w11 (usesP_len _ _).symm (by rw [usesP_len]; omega) (S.rd 0 encInt1_len rfl (usesP_len _ _).symm)).mono ?_
        rintro e w12 ⟨v, rfl, ⟨r, rfl, hr⟩, hE⟩
        replace S : Sep w w12 [plRow 3 1 encInt1 (.slice (some ⟨g, 0, none⟩) F.length F.length) (usesP F.length Q), plBox B2 #[.slice a1 F.length c1, .slice a2 T.length c2] 28, plTab (.slice a2 T.length c2) vs T, plRow 3 1 encInt1 (.slice a1 F.length c1) F, plBox (w.heap.size + 1) #[.slice none 0 0, .slice none 0 0] 28, plBox w.heap.size #[.slice af F.length cf, .slice (some ⟨p, off, none⟩) T.length ct] 28] := S.step hE
        clear hE
        rcases hr with ⟨rfl, hno⟩ | ⟨gi, rfl, hg0, hgb⟩
        · have HF := Lib.hid (free_all hno)
          clear hno
          by_cases h12 : F.length = 12
          · have t12 : ((F.length : Int) == 12) = true := by simp; omega
            have HR : Hid (WriteR F T k j num F T false) := Lib.hid (HW0.out _ _ _ (.inr ⟨HC.out, _, HF.out, .inr (.inl ⟨rfl, h12, rfl, rfl, rfl⟩)⟩))
            clear h12 HW0
            obtain ⟨obc0, obf0⟩ : w12.cell? ⟨B2, 0, none⟩ = some (.slice a1 F.length c1) ∧ w12.frozen? ⟨B2, 0, none⟩ = false := bx (S.box 1 rfl) 0 rfl
            obtain ⟨obc1, obf1⟩ : w12.cell? ⟨B2, 1, none⟩ = some (.slice a2 T.length c2) ∧ w12.frozen? ⟨B2, 1, none⟩ = false := bx (S.box 1 rfl) 1 rfl
            obtain ⟨rbc0, rbf0⟩ : w12.cell? ⟨(w.heap.size + 1), 0, none⟩ = some (.slice none 0 0) ∧ w12.frozen? ⟨(w.heap.size + 1), 0, none⟩ = false := bx (S.box 4 rfl) 0 rfl
            obtain ⟨rbc1, rbf1⟩ : w12.cell? ⟨(w.heap.size + 1), 1, none⟩ = some (.slice none 0 0) ∧ w12.frozen? ⟨(w.heap.size + 1), 1, none⟩ = false := bx (S.box 4 rfl) 1 rfl
            obtain ⟨bmc0, bmf0⟩ : w12.cell? ⟨w.heap.size, 0, none⟩ = some (.slice af F.length cf) ∧ w12.frozen? ⟨w.heap.size, 0, none⟩ = false := bx (S.box 5 rfl) 0 rfl
            obtain ⟨bmc1, bmf1⟩ : w12.cell? ⟨w.heap.size, 1, none⟩ = some (.slice (some ⟨p, off, none⟩) T.length ct) ∧ w12.frozen? ⟨w.heap.size, 1, none⟩ = false := bx (S.box 5 rfl) 1 rfl
            go_wp2
            try simp only [Exit.inBlock, Exit.then]
            refine bodyPost_ret (v := .tuple #[.agg #[.slice a1 F.length c1, .slice a2 T.length c2], .bool false]) (by simp [results, Try.results37, go_sem, rbc0, rbc1, obc0, obc1]) rfl ?_
            replace S : Sep w (w12.setCell ⟨(w.heap.size + 1), 0, none⟩ (.slice a1 F.length c1)) [plRow 3 1 encInt1 (.slice (some ⟨g, 0, none⟩) F.length F.length) (usesP F.length Q), plBox B2 #[.slice a1 F.length c1, .slice a2 T.length c2] 28, plTab (.slice a2 T.length c2) vs T, plRow 3 1 encInt1 (.slice a1 F.length c1) F, plBox (w.heap.size + 1) #[.slice a1 F.length c1, .slice none 0 0] 28, plBox w.heap.size #[.slice af F.length cf, .slice (some ⟨p, off, none⟩) T.length ct] 28] := S.set 4 rfl 0 _
            replace S : Sep w ((w12.setCell ⟨(w.heap.size + 1), 0, none⟩ (.slice a1 F.length c1)).setCell ⟨(w.heap.size + 1), 1, none⟩ (.slice a2 T.length c2)) [plRow 3 1 encInt1 (.slice (some ⟨g, 0, none⟩) F.length F.length) (usesP F.length Q), plBox B2 #[.slice a1 F.length c1, .slice a2 T.length c2] 28, plTab (.slice a2 T.length c2) vs T, plRow 3 1 encInt1 (.slice a1 F.length c1) F, plBox (w.heap.size + 1) #[.slice a1 F.length c1, .slice a2 T.length c2] 28, plBox w.heap.size #[.slice af F.length cf, .slice (some ⟨p, off, none⟩) T.length ct] 28] := S.set 4 rfl 1 _
            replace S : Sep w ((w12.setCell ⟨(w.heap.size + 1), 0, none⟩ (.slice a1 F.length c1)).setCell ⟨(w.heap.size + 1), 1, none⟩ (.slice a2 T.length c2)) [plRow 3 1 encInt1 (.slice (some ⟨g, 0, none⟩) F.length F.length) (usesP F.length Q), plTab (.slice a2 T.length c2) vs T, plRow 3 1 encInt1 (.slice a1 F.length c1) F, plBox (w.heap.size + 1) #[.slice a1 F.length c1, .slice a2 T.length c2] 28, plBox w.heap.size #[.slice af F.length cf, .slice (some ⟨p, off, none⟩) T.length ct] 28] := S.drop 1
            replace S : Sep w ((w12.setCell ⟨(w.heap.size + 1), 0, none⟩ (.slice a1 F.length c1)).setCell ⟨(w.heap.size + 1), 1, none⟩ (.slice a2 T.length c2)) [plRow 3 1 encInt1 (.slice (some ⟨g, 0, none⟩) F.length F.length) (usesP F.length Q), plTab (.slice a2 T.length c2) vs T, plRow 3 1 encInt1 (.slice a1 F.length c1) F, plBox w.heap.size #[.slice af F.length cf, .slice (some ⟨p, off, none⟩) T.length ct] 28] := S.drop 3
            replace S : Sep w ((w12.setCell ⟨(w.heap.size + 1), 0, none⟩ (.slice a1 F.length c1)).setCell ⟨(w.heap.size + 1), 1, none⟩ (.slice a2 T.length c2)) [plRow 3 1 encInt1 (.slice (some ⟨g, 0, none⟩) F.length F.length) (usesP F.length Q), plTab (.slice a2 T.length c2) vs T, plRow 3 1 encInt1 (.slice a1 F.length c1) F] := S.drop 3
            replace S : Sep w ((w12.setCell ⟨(w.heap.size + 1), 0, none⟩ (.slice a1 F.length c1)).setCell ⟨(w.heap.size + 1), 1, none⟩ (.slice a2 T.length c2)) [plTab (.slice a2 T.length c2) vs T, plRow 3 1 encInt1 (.slice a1 F.length c1) F] := S.drop 0
            first | exact ⟨a1, c1, F, a2, c2, vs, T, false, rfl, HR.out, S⟩ | exact ⟨a1, c1, F, a2, c2, vs, T, .inl ⟨rfl, HR.out, S⟩⟩
          · have t12 : ((F.length : Int) == 12) = false := by simp; omega
            have HW : Hid (WriteR F T k j num (F ++ [num]) (T.set k (t.set j (F.length : Int))) true) := Lib.hid (HW0.out _ _ _ (.inr ⟨HC.out, _, HF.out, .inr (.inr ⟨rfl, h12, rfl, rfl, rfl⟩)⟩))
            clear h12 HW0
            obtain ⟨bmc0, bmf0⟩ : w12.cell? ⟨w.heap.size, 0, none⟩ = some (.slice af F.length cf) ∧ w12.frozen? ⟨w.heap.size, 0, none⟩ = false := bx (S.box 5 rfl) 0 rfl
            obtain ⟨bmc1, bmf1⟩ : w12.cell? ⟨w.heap.size, 1, none⟩ = some (.slice (some ⟨p, off, none⟩) T.length ct) ∧ w12.frozen? ⟨w.heap.size, 1, none⟩ = false := bx (S.box 5 rfl) 1 rfl
            obtain ⟨obc0, obf0⟩ : w12.cell? ⟨B2, 0, none⟩ = some (.slice a1 F.length c1) ∧ w12.frozen? ⟨B2, 0, none⟩ = false := bx (S.box 1 rfl) 0 rfl
            obtain ⟨obc1, obf1⟩ : w12.cell? ⟨B2, 1, none⟩ = some (.slice a2 T.length c2) ∧ w12.frozen? ⟨B2, 1, none⟩ = false := bx (S.box 1 rfl) 1 rfl
            have SA := S.alloc #[.int .i64 0] 3
            have rd1 : Rd 1 encInt1 (World.alloc w12 (.cells #[.int .i64 0] 3)) (some ⟨w12.heap.size, 0, none⟩) [(0 : Int)] := rd_lit_new [(0 : Int)] encInt1_len rfl
            obtain ⟨hob, hobf⟩ := bx ((SA.box (1 + 1) rfl)) 0 rfl
            go_wp2_with (at_builtin; refine Hid.out (?_ : Hid _))
            unfold Hid
            refine wpList_append_b rfl _ _ 22 rfl w.heap.size 3 _ 1 _ Try.underlying22 infoInt rfl (by decide) encInt1_len encInt1_one _ F.length F rfl (SA.row (3 + 1) rfl) rfl (some ⟨w12.heap.size, 0, none⟩) 1 1 [(0 : Int)] rfl rfl rd1 (by omega) (by omega) SA.chg.size ?_
            intro v7 w7 ho hgr hblk
            obtain ⟨G, hG⟩ : ∃ G, G = F ++ [(0 : Int)] := ⟨_, rfl⟩
            rw [← hG] at ho
            have HG := Lib.hid hG
            have hGl : G.length = F.length + 1 := by rw [hG]; simp
            have HGl := Lib.hid hGl
            clear hG hGl
            obtain ⟨a7, c7, hv7, hk7, _, _⟩ := view_owns encInt1_len ho
            subst hv7
            have SM := (SA.grow (3 + 1) rfl hgr ho hblk).drop 0
            clear bmc0 bmf0 bmc1 bmf1 obc0 obf0 obc1 obf1
            clear ho hgr hblk SA rd1 S hob hobf
            have S := SM
            clear SM
            have S7 := S
            replace S : Sep w w7 [plRow 3 1 encInt1 (.slice (some ⟨g, 0, none⟩) F.length F.length) (usesP F.length Q), plBox B2 #[.slice a1 F.length c1, .slice a2 T.length c2] 28, plTab (.slice a2 T.length c2) vs T, plRow 3 1 encInt1 (.slice a7 G.length c7) G, plBox (w.heap.size + 1) #[.slice none 0 0, .slice none 0 0] 28, plBox w.heap.size #[.slice af F.length cf, .slice (some ⟨p, off, none⟩) T.length ct] 28] := S7
            clear S7
            obtain ⟨obc0, obf0⟩ : w7.cell? ⟨B2, 0, none⟩ = some (.slice a1 F.length c1) ∧ w7.frozen? ⟨B2, 0, none⟩ = false := bx (S.box 1 rfl) 0 rfl
            obtain ⟨obc1, obf1⟩ : w7.cell? ⟨B2, 1, none⟩ = some (.slice a2 T.length c2) ∧ w7.frozen? ⟨B2, 1, none⟩ = false := bx (S.box 1 rfl) 1 rfl
            go_upto_region 14 with fail
            clear obc0 obf0 obc1 obf1
            replace S : Sep w (w7.setCell ⟨B2, 0, none⟩ (.slice a7 G.length c7)) [plRow 3 1 encInt1 (.slice (some ⟨g, 0, none⟩) F.length F.length) (usesP F.length Q), plBox B2 #[.slice a7 G.length c7, .slice a2 T.length c2] 28, plTab (.slice a2 T.length c2) vs T, plRow 3 1 encInt1 (.slice a7 G.length c7) G, plBox (w.heap.size + 1) #[.slice none 0 0, .slice none 0 0] 28, plBox w.heap.size #[.slice af F.length cf, .slice (some ⟨p, off, none⟩) T.length ct] 28] := S.set 1 rfl 0 _
            generalize (w7.setCell ⟨B2, 0, none⟩ (.slice a7 G.length c7)) = w8 at *
            obtain ⟨gT, cT, gI, cI, hu2, x0, x1, x2, _, S14⟩ := S.tabCell 2 rfl Ht.out Hf.out (F.length : Int)
            simp only [Value.slice.injEq, true_and] at hu2
            obtain ⟨rfl, rfl⟩ := hu2
            obtain ⟨obc0, obf0⟩ : w8.cell? ⟨B2, 0, none⟩ = some (.slice a7 G.length c7) ∧ w8.frozen? ⟨B2, 0, none⟩ = false := bx (S.box 1 rfl) 0 rfl
            obtain ⟨obc1, obf1⟩ : w8.cell? ⟨B2, 1, none⟩ = some (.slice (some ⟨gT, 0, none⟩) T.length c2) ∧ w8.frozen? ⟨B2, 1, none⟩ = false := bx (S.box 1 rfl) 1 rfl
            go_upto_region 15 with fail
            clear obc0 obf0 obc1 obf1
            clear x0 x1 x2
            have SM := S14
            replace S : Sep w (w8.setCell ⟨gI, j, none⟩ (.int .i64 (F.length : Int))) [plRow 3 1 encInt1 (.slice (some ⟨g, 0, none⟩) F.length F.length) (usesP F.length Q), plBox B2 #[.slice a7 G.length c7, .slice (some ⟨gT, 0, none⟩) T.length c2] 28, plTab (.slice (some ⟨gT, 0, none⟩) T.length c2) vs (T.set k (t.set j (F.length : Int))), plRow 3 1 encInt1 (.slice a7 G.length c7) G, plBox (w.heap.size + 1) #[.slice none 0 0, .slice none 0 0] 28, plBox w.heap.size #[.slice af F.length cf, .slice (some ⟨p, off, none⟩) T.length ct] 28] := SM
            clear SM
            clear S14
            generalize (w8.setCell ⟨gI, j, none⟩ (.int .i64 (F.length : Int))) = w9 at *
            have HGI : Hid (G[F.length]? = some 0) := Lib.hid (by rw [HG.out, List.getElem?_append_right (Nat.le_refl _), Nat.sub_self]; rfl)
            replace HW : Hid (WriteR F T k j num (G.set F.length num) (T.set k (t.set j (F.length : Int))) true) := Lib.hid (by
              rw [HG.out, List.set_append_right _ _ (Nat.le_refl _), Nat.sub_self]; exact HW.out)
            have hG1 : (F.length : Int) < (G.length : Int) := by have := HGl.out; omega
            clear HG HGl
            obtain ⟨g1, hg1, e1, z1, S2⟩ := S.rowCell 3 rfl HGI.out num
            subst hg1
            have n1 : B2 ≠ g1 := fun e => S.ne (i := 3) (j := 1) rfl rfl (by decide) (b := g1) rfl e.symm
            have n2 : w.heap.size + 1 ≠ g1 := fun e => S.ne (i := 3) (j := 4) rfl rfl (by decide) (b := g1) rfl e.symm
            have n3 : g1 ≠ B2 := fun e => n1 e.symm
            have n4 : g1 ≠ w.heap.size + 1 := fun e => n2 e.symm
            have n5 : B2 ≠ w.heap.size + 1 := S.bne 1 4 rfl rfl (by decide)
            have n6 : w.heap.size + 1 ≠ B2 := fun e => n5 e.symm
            obtain ⟨obc0, obf0⟩ : w9.cell? ⟨B2, 0, none⟩ = some (.slice (some ⟨g1, 0, none⟩) G.length c7) ∧ w9.frozen? ⟨B2, 0, none⟩ = false := bx (S.box 1 rfl) 0 rfl
            obtain ⟨obc1, obf1⟩ : w9.cell? ⟨B2, 1, none⟩ = some (.slice (some ⟨gT, 0, none⟩) T.length c2) ∧ w9.frozen? ⟨B2, 1, none⟩ = false := bx (S.box 1 rfl) 1 rfl
            obtain ⟨rbc0, rbf0⟩ : w9.cell? ⟨(w.heap.size + 1), 0, none⟩ = some (.slice none 0 0) ∧ w9.frozen? ⟨(w.heap.size + 1), 0, none⟩ = false := bx (S.box 4 rfl) 0 rfl
            obtain ⟨rbc1, rbf1⟩ : w9.cell? ⟨(w.heap.size + 1), 1, none⟩ = some (.slice none 0 0) ∧ w9.frozen? ⟨(w.heap.size + 1), 1, none⟩ = false := bx (S.box 4 rfl) 1 rfl
            go_wp2
            try simp only [Exit.inBlock, Exit.then]
            refine bodyPost_ret (v := .tuple #[.agg #[.slice (some ⟨g1, 0, none⟩) G.length c7, .slice (some ⟨gT, 0, none⟩) T.length c2], .bool true]) (by simp [results, Try.results37, go_sem, rbc0, rbc1, obc0, obc1]) rfl ?_
            have SM := S2
            clear obc0 obf0 obc1 obf1 rbc0 rbf0 rbc1 rbf1
            replace S : Sep w (w9.setCell ⟨g1, F.length, none⟩ (.int .i64 num)) [plRow 3 1 encInt1 (.slice (some ⟨g, 0, none⟩) F.length F.length) (usesP F.length Q), plBox B2 #[.slice (some ⟨g1, 0, none⟩) G.length c7, .slice (some ⟨gT, 0, none⟩) T.length c2] 28, plTab (.slice (some ⟨gT, 0, none⟩) T.length c2) vs (T.set k (t.set j (F.length : Int))), plRow 3 1 encInt1 (.slice (some ⟨g1, 0, none⟩) G.length c7) (G.set F.length num), plBox (w.heap.size + 1) #[.slice none 0 0, .slice none 0 0] 28, plBox w.heap.size #[.slice af F.length cf, .slice (some ⟨p, off, none⟩) T.length ct] 28] := SM
            clear SM
            replace S : Sep w ((w9.setCell ⟨g1, F.length, none⟩ (.int .i64 num)).setCell ⟨(w.heap.size + 1), 0, none⟩ (.slice (some ⟨g1, 0, none⟩) G.length c7)) [plRow 3 1 encInt1 (.slice (some ⟨g, 0, none⟩) F.length F.length) (usesP F.length Q), plBox B2 #[.slice (some ⟨g1, 0, none⟩) G.length c7, .slice (some ⟨gT, 0, none⟩) T.length c2] 28, plTab (.slice (some ⟨gT, 0, none⟩) T.length c2) vs (T.set k (t.set j (F.length : Int))), plRow 3 1 encInt1 (.slice (some ⟨g1, 0, none⟩) G.length c7) (G.set F.length num), plBox (w.heap.size + 1) #[.slice (some ⟨g1, 0, none⟩) G.length c7, .slice none 0 0] 28, plBox w.heap.size #[.slice af F.length cf, .slice (some ⟨p, off, none⟩) T.length ct] 28] := S.set 4 rfl 0 _
            replace S : Sep w (((w9.setCell ⟨g1, F.length, none⟩ (.int .i64 num)).setCell ⟨(w.heap.size + 1), 0, none⟩ (.slice (some ⟨g1, 0, none⟩) G.length c7)).setCell ⟨(w.heap.size + 1), 1, none⟩ (.slice (some ⟨gT, 0, none⟩) T.length c2)) [plRow 3 1 encInt1 (.slice (some ⟨g, 0, none⟩) F.length F.length) (usesP F.length Q), plBox B2 #[.slice (some ⟨g1, 0, none⟩) G.length c7, .slice (some ⟨gT, 0, none⟩) T.length c2] 28, plTab (.slice (some ⟨gT, 0, none⟩) T.length c2) vs (T.set k (t.set j (F.length : Int))), plRow 3 1 encInt1 (.slice (some ⟨g1, 0, none⟩) G.length c7) (G.set F.length num), plBox (w.heap.size + 1) #[.slice (some ⟨g1, 0, none⟩) G.length c7, .slice (some ⟨gT, 0, none⟩) T.length c2] 28, plBox w.heap.size #[.slice af F.length cf, .slice (some ⟨p, off, none⟩) T.length ct] 28] := S.set 4 rfl 1 _
            replace S : Sep w (((w9.setCell ⟨g1, F.length, none⟩ (.int .i64 num)).setCell ⟨(w.heap.size + 1), 0, none⟩ (.slice (some ⟨g1, 0, none⟩) G.length c7)).setCell ⟨(w.heap.size + 1), 1, none⟩ (.slice (some ⟨gT, 0, none⟩) T.length c2)) [plRow 3 1 encInt1 (.slice (some ⟨g, 0, none⟩) F.length F.length) (usesP F.length Q), plTab (.slice (some ⟨gT, 0, none⟩) T.length c2) vs (T.set k (t.set j (F.length : Int))), plRow 3 1 encInt1 (.slice (some ⟨g1, 0, none⟩) G.length c7) (G.set F.length num), plBox (w.heap.size + 1) #[.slice (some ⟨g1, 0, none⟩) G.length c7, .slice (some ⟨gT, 0, none⟩) T.length c2] 28, plBox w.heap.size #[.slice af F.length cf, .slice (some ⟨p, off, none⟩) T.length ct] 28] := S.drop 1
            replace S : Sep w (((w9.setCell ⟨g1, F.length, none⟩ (.int .i64 num)).setCell ⟨(w.heap.size + 1), 0, none⟩ (.slice (some ⟨g1, 0, none⟩) G.length c7)).setCell ⟨(w.heap.size + 1), 1, none⟩ (.slice (some ⟨gT, 0, none⟩) T.length c2)) [plRow 3 1 encInt1 (.slice (some ⟨g, 0, none⟩) F.length F.length) (usesP F.length Q), plTab (.slice (some ⟨gT, 0, none⟩) T.length c2) vs (T.set k (t.set j (F.length : Int))), plRow 3 1 encInt1 (.slice (some ⟨g1, 0, none⟩) G.length c7) (G.set F.length num), plBox w.heap.size #[.slice af F.length cf, .slice (some ⟨p, off, none⟩) T.length ct] 28] := S.drop 3
            replace S : Sep w (((w9.setCell ⟨g1, F.length, none⟩ (.int .i64 num)).setCell ⟨(w.heap.size + 1), 0, none⟩ (.slice (some ⟨g1, 0, none⟩) G.length c7)).setCell ⟨(w.heap.size + 1), 1, none⟩ (.slice (some ⟨gT, 0, none⟩) T.length c2)) [plRow 3 1 encInt1 (.slice (some ⟨g, 0, none⟩) F.length F.length) (usesP F.length Q), plTab (.slice (some ⟨gT, 0, none⟩) T.length c2) vs (T.set k (t.set j (F.length : Int))), plRow 3 1 encInt1 (.slice (some ⟨g1, 0, none⟩) G.length c7) (G.set F.length num)] := S.drop 3
            replace S : Sep w (((w9.setCell ⟨g1, F.length, none⟩ (.int .i64 num)).setCell ⟨(w.heap.size + 1), 0, none⟩ (.slice (some ⟨g1, 0, none⟩) G.length c7)).setCell ⟨(w.heap.size + 1), 1, none⟩ (.slice (some ⟨gT, 0, none⟩) T.length c2)) [plTab (.slice (some ⟨gT, 0, none⟩) T.length c2) vs (T.set k (t.set j (F.length : Int))), plRow 3 1 encInt1 (.slice (some ⟨g1, 0, none⟩) G.length c7) (G.set F.length num)] := S.drop 0
            first | refine ⟨some ⟨g1, 0, none⟩, c7, G.set F.length num, (some ⟨gT, 0, none⟩), c2, vs, T.set k (t.set j (F.length : Int)), true, by simp, HW.out, ?_⟩ | refine ⟨some ⟨g1, 0, none⟩, c7, G.set F.length num, (some ⟨gT, 0, none⟩), c2, vs, T.set k (t.set j (F.length : Int)), .inr ⟨by simp, HW.out, ?_⟩⟩
            have e9 : (G.set F.length num).length = G.length := List.length_set ..
            have e8 : (T.set k (t.set j (F.length : Int))).length = T.length := by simp
            rw [e9, e8]
            exact S
        · obtain ⟨hgl, hfr⟩ := free_found hg0 hgb
          have HW : Hid (WriteR F T k j num (F.set gi num) (T.set k (t.set j (gi : Int))) true) := Lib.hid (HW0.out _ _ _ (.inr ⟨HC.out, _, hfr, .inl ⟨hgl, rfl, rfl, rfl⟩⟩))
          obtain ⟨old, hold⟩ : ∃ old, F[gi]? = some old := ⟨_, List.getElem?_eq_getElem hgl⟩
          have HGI := Lib.hid hold
          have hn0 : ¬ ((gi : Int) < 0) := by omega
          have hG1 : (gi : Int) < (F.length : Int) := by omega
          clear hg0 hgb hfr HW0 hold
          go_upto_region 14 with fail
          obtain ⟨gT, cT, gI, cI, hu2, x0, x1, x2, _, S14⟩ := S.tabCell 2 rfl Ht.out Hf.out (gi : Int)
          simp only [Value.slice.injEq, true_and] at hu2
          obtain ⟨rfl, rfl⟩ := hu2
          obtain ⟨obc0, obf0⟩ : w12.cell? ⟨B2, 0, none⟩ = some (.slice a1 F.length c1) ∧ w12.frozen? ⟨B2, 0, none⟩ = false := bx (S.box 1 rfl) 0 rfl
          obtain ⟨obc1, obf1⟩ : w12.cell? ⟨B2, 1, none⟩ = some (.slice (some ⟨gT, 0, none⟩) T.length c2) ∧ w12.frozen? ⟨B2, 1, none⟩ = false := bx (S.box 1 rfl) 1 rfl
          go_upto_region 15 with fail
          clear obc0 obf0 obc1 obf1
          clear x0 x1 x2
          have SM := S14
          replace S : Sep w (w12.setCell ⟨gI, j, none⟩ (.int .i64 (gi : Int))) [plRow 3 1 encInt1 (.slice (some ⟨g, 0, none⟩) F.length F.length) (usesP F.length Q), plBox B2 #[.slice a1 F.length c1, .slice (some ⟨gT, 0, none⟩) T.length c2] 28, plTab (.slice (some ⟨gT, 0, none⟩) T.length c2) vs (T.set k (t.set j (gi : Int))), plRow 3 1 encInt1 (.slice a1 F.length c1) F, plBox (w.heap.size + 1) #[.slice none 0 0, .slice none 0 0] 28, plBox w.heap.size #[.slice af F.length cf, .slice (some ⟨p, off, none⟩) T.length ct] 28] := SM
          clear SM
          clear S14
          generalize (w12.setCell ⟨gI, j, none⟩ (.int .i64 (gi : Int))) = w9 at *
          obtain ⟨g1, hg1, e1, z1, S2⟩ := S.rowCell 3 rfl HGI.out num
          subst hg1
          have n1 : B2 ≠ g1 := fun e => S.ne (i := 3) (j := 1) rfl rfl (by decide) (b := g1) rfl e.symm
          have n2 : w.heap.size + 1 ≠ g1 := fun e => S.ne (i := 3) (j := 4) rfl rfl (by decide) (b := g1) rfl e.symm
          have n3 : g1 ≠ B2 := fun e => n1 e.symm
          have n4 : g1 ≠ w.heap.size + 1 := fun e => n2 e.symm
          have n5 : B2 ≠ w.heap.size + 1 := S.bne 1 4 rfl rfl (by decide)
          have n6 : w.heap.size + 1 ≠ B2 := fun e => n5 e.symm
          obtain ⟨obc0, obf0⟩ : w9.cell? ⟨B2, 0, none⟩ = some (.slice (some ⟨g1, 0, none⟩) F.length c1) ∧ w9.frozen? ⟨B2, 0, none⟩ = false := bx (S.box 1 rfl) 0 rfl
          obtain ⟨obc1, obf1⟩ : w9.cell? ⟨B2, 1, none⟩ = some (.slice (some ⟨gT, 0, none⟩) T.length c2) ∧ w9.frozen? ⟨B2, 1, none⟩ = false := bx (S.box 1 rfl) 1 rfl
          obtain ⟨rbc0, rbf0⟩ : w9.cell? ⟨(w.heap.size + 1), 0, none⟩ = some (.slice none 0 0) ∧ w9.frozen? ⟨(w.heap.size + 1), 0, none⟩ = false := bx (S.box 4 rfl) 0 rfl
          obtain ⟨rbc1, rbf1⟩ : w9.cell? ⟨(w.heap.size + 1), 1, none⟩ = some (.slice none 0 0) ∧ w9.frozen? ⟨(w.heap.size + 1), 1, none⟩ = false := bx (S.box 4 rfl) 1 rfl
          go_wp2
          try simp only [Exit.inBlock, Exit.then]
          refine bodyPost_ret (v := .tuple #[.agg #[.slice (some ⟨g1, 0, none⟩) F.length c1, .slice (some ⟨gT, 0, none⟩) T.length c2], .bool true]) (by simp [results, Try.results37, go_sem, rbc0, rbc1, obc0, obc1]) rfl ?_
          have SM := S2
          clear obc0 obf0 obc1 obf1 rbc0 rbf0 rbc1 rbf1
          replace S : Sep w (w9.setCell ⟨g1, gi, none⟩ (.int .i64 num)) [plRow 3 1 encInt1 (.slice (some ⟨g, 0, none⟩) F.length F.length) (usesP F.length Q), plBox B2 #[.slice (some ⟨g1, 0, none⟩) F.length c1, .slice (some ⟨gT, 0, none⟩) T.length c2] 28, plTab (.slice (some ⟨gT, 0, none⟩) T.length c2) vs (T.set k (t.set j (gi : Int))), plRow 3 1 encInt1 (.slice (some ⟨g1, 0, none⟩) F.length c1) (F.set gi num), plBox (w.heap.size + 1) #[.slice none 0 0, .slice none 0 0] 28, plBox w.heap.size #[.slice af F.length cf, .slice (some ⟨p, off, none⟩) T.length ct] 28] := SM
          clear SM
          replace S : Sep w ((w9.setCell ⟨g1, gi, none⟩ (.int .i64 num)).setCell ⟨(w.heap.size + 1), 0, none⟩ (.slice (some ⟨g1, 0, none⟩) F.length c1)) [plRow 3 1 encInt1 (.slice (some ⟨g, 0, none⟩) F.length F.length) (usesP F.length Q), plBox B2 #[.slice (some ⟨g1, 0, none⟩) F.length c1, .slice (some ⟨gT, 0, none⟩) T.length c2] 28, plTab (.slice (some ⟨gT, 0, none⟩) T.length c2) vs (T.set k (t.set j (gi : Int))), plRow 3 1 encInt1 (.slice (some ⟨g1, 0, none⟩) F.length c1) (F.set gi num), plBox (w.heap.size + 1) #[.slice (some ⟨g1, 0, none⟩) F.length c1, .slice none 0 0] 28, plBox w.heap.size #[.slice af F.length cf, .slice (some ⟨p, off, none⟩) T.length ct] 28] := S.set 4 rfl 0 _
          replace S : Sep w (((w9.setCell ⟨g1, gi, none⟩ (.int .i64 num)).setCell ⟨(w.heap.size + 1), 0, none⟩ (.slice (some ⟨g1, 0, none⟩) F.length c1)).setCell ⟨(w.heap.size + 1), 1, none⟩ (.slice (some ⟨gT, 0, none⟩) T.length c2)) [plRow 3 1 encInt1 (.slice (some ⟨g, 0, none⟩) F.length F.length) (usesP F.length Q), plBox B2 #[.slice (some ⟨g1, 0, none⟩) F.length c1, .slice (some ⟨gT, 0, none⟩) T.length c2] 28, plTab (.slice (some ⟨gT, 0, none⟩) T.length c2) vs (T.set k (t.set j (gi : Int))), plRow 3 1 encInt1 (.slice (some ⟨g1, 0, none⟩) F.length c1) (F.set gi num), plBox (w.heap.size + 1) #[.slice (some ⟨g1, 0, none⟩) F.length c1, .slice (some ⟨gT, 0, none⟩) T.length c2] 28, plBox w.heap.size #[.slice af F.length cf, .slice (some ⟨p, off, none⟩) T.length ct] 28] := S.set 4 rfl 1 _
          replace S : Sep w (((w9.setCell ⟨g1, gi, none⟩ (.int .i64 num)).setCell ⟨(w.heap.size + 1), 0, none⟩ (.slice (some ⟨g1, 0, none⟩) F.length c1)).setCell ⟨(w.heap.size + 1), 1, none⟩ (.slice (some ⟨gT, 0, none⟩) T.length c2)) [plRow 3 1 encInt1 (.slice (some ⟨g, 0, none⟩) F.length F.length) (usesP F.length Q), plTab (.slice (some ⟨gT, 0, none⟩) T.length c2) vs (T.set k (t.set j (gi : Int))), plRow 3 1 encInt1 (.slice (some ⟨g1, 0, none⟩) F.length c1) (F.set gi num), plBox (w.heap.size + 1) #[.slice (some ⟨g1, 0, none⟩) F.length c1, .slice (some ⟨gT, 0, none⟩) T.length c2] 28, plBox w.heap.size #[.slice af F.length cf, .slice (some ⟨p, off, none⟩) T.length ct] 28] := S.drop 1
          replace S : Sep w (((w9.setCell ⟨g1, gi, none⟩ (.int .i64 num)).setCell ⟨(w.heap.size + 1), 0, none⟩ (.slice (some ⟨g1, 0, none⟩) F.length c1)).setCell ⟨(w.heap.size + 1), 1, none⟩ (.slice (some ⟨gT, 0, none⟩) T.length c2)) [plRow 3 1 encInt1 (.slice (some ⟨g, 0, none⟩) F.length F.length) (usesP F.length Q), plTab (.slice (some ⟨gT, 0, none⟩) T.length c2) vs (T.set k (t.set j (gi : Int))), plRow 3 1 encInt1 (.slice (some ⟨g1, 0, none⟩) F.length c1) (F.set gi num), plBox w.heap.size #[.slice af F.length cf, .slice (some ⟨p, off, none⟩) T.length ct] 28] := S.drop 3
          replace S : Sep w (((w9.setCell ⟨g1, gi, none⟩ (.int .i64 num)).setCell ⟨(w.heap.size + 1), 0, none⟩ (.slice (some ⟨g1, 0, none⟩) F.length c1)).setCell ⟨(w.heap.size + 1), 1, none⟩ (.slice (some ⟨gT, 0, none⟩) T.length c2)) [plRow 3 1 encInt1 (.slice (some ⟨g, 0, none⟩) F.length F.length) (usesP F.length Q), plTab (.slice (some ⟨gT, 0, none⟩) T.length c2) vs (T.set k (t.set j (gi : Int))), plRow 3 1 encInt1 (.slice (some ⟨g1, 0, none⟩) F.length c1) (F.set gi num)] := S.drop 3
          replace S : Sep w (((w9.setCell ⟨g1, gi, none⟩ (.int .i64 num)).setCell ⟨(w.heap.size + 1), 0, none⟩ (.slice (some ⟨g1, 0, none⟩) F.length c1)).setCell ⟨(w.heap.size + 1), 1, none⟩ (.slice (some ⟨gT, 0, none⟩) T.length c2)) [plTab (.slice (some ⟨gT, 0, none⟩) T.length c2) vs (T.set k (t.set j (gi : Int))), plRow 3 1 encInt1 (.slice (some ⟨g1, 0, none⟩) F.length c1) (F.set gi num)] := S.drop 0
          first | refine ⟨some ⟨g1, 0, none⟩, c1, F.set gi num, (some ⟨gT, 0, none⟩), c2, vs, T.set k (t.set j (gi : Int)), true, by simp, HW.out, ?_⟩ | refine ⟨some ⟨g1, 0, none⟩, c1, F.set gi num, (some ⟨gT, 0, none⟩), c2, vs, T.set k (t.set j (gi : Int)), .inr ⟨by simp, HW.out, ?_⟩⟩
          have e9 : (F.set gi num).length = F.length := List.length_set ..
          have e8 : (T.set k (t.set j (gi : Int))).length = T.length := by simp
          rw [e9, e8]
          exact S
      · have hci : decide ((1 : Int) < ((Q.count (f : Int) : Nat) : Int)) = false := by simp; omega
        have HW : Hid (WriteR F T k j num (F.set f num) T true) := Lib.hid (HW0.out _ _ _ (.inl ⟨by omega, rfl, rfl, rfl⟩))
        obtain ⟨old, hold⟩ : ∃ old, F[f]? = some old := ⟨_, List.getElem?_eq_getElem hfl⟩
        have HGI := Lib.hid hold
        clear hc HW0 hold
        go_upto_region 15 with fail
        clear g0 hci
        obtain ⟨g1, hg1, e1, z1, S2⟩ := S.rowCell 3 rfl HGI.out num
        subst hg1
        have n1 : B2 ≠ g1 := fun e => S.ne (i := 3) (j := 1) rfl rfl (by decide) (b := g1) rfl e.symm
        have n2 : w.heap.size + 1 ≠ g1 := fun e => S.ne (i := 3) (j := 4) rfl rfl (by decide) (b := g1) rfl e.symm
        have n3 : g1 ≠ B2 := fun e => n1 e.symm
        have n4 : g1 ≠ w.heap.size + 1 := fun e => n2 e.symm
        have n5 : B2 ≠ w.heap.size + 1 := S.bne 1 4 rfl rfl (by decide)
        have n6 : w.heap.size + 1 ≠ B2 := fun e => n5 e.symm
        obtain ⟨obc0, obf0⟩ : w11.cell? ⟨B2, 0, none⟩ = some (.slice (some ⟨g1, 0, none⟩) F.length c1) ∧ w11.frozen? ⟨B2, 0, none⟩ = false := bx (S.box 1 rfl) 0 rfl
        obtain ⟨obc1, obf1⟩ : w11.cell? ⟨B2, 1, none⟩ = some (.slice a2 T.length c2) ∧ w11.frozen? ⟨B2, 1, none⟩ = false := bx (S.box 1 rfl) 1 rfl
        obtain ⟨rbc0, rbf0⟩ : w11.cell? ⟨(w.heap.size + 1), 0, none⟩ = some (.slice none 0 0) ∧ w11.frozen? ⟨(w.heap.size + 1), 0, none⟩ = false := bx (S.box 4 rfl) 0 rfl
        obtain ⟨rbc1, rbf1⟩ : w11.cell? ⟨(w.heap.size + 1), 1, none⟩ = some (.slice none 0 0) ∧ w11.frozen? ⟨(w.heap.size + 1), 1, none⟩ = false := bx (S.box 4 rfl) 1 rfl
        go_wp2
        try simp only [Exit.inBlock, Exit.then]
        refine bodyPost_ret (v := .tuple #[.agg #[.slice (some ⟨g1, 0, none⟩) F.length c1, .slice a2 T.length c2], .bool true]) (by simp [results, Try.results37, go_sem, rbc0, rbc1, obc0, obc1]) rfl ?_
        have SM := S2
        clear obc0 obf0 obc1 obf1 rbc0 rbf0 rbc1 rbf1
        replace S : Sep w (w11.setCell ⟨g1, f, none⟩ (.int .i64 num)) [plRow 3 1 encInt1 (.slice (some ⟨g, 0, none⟩) F.length F.length) (usesP F.length Q), plBox B2 #[.slice (some ⟨g1, 0, none⟩) F.length c1, .slice a2 T.length c2] 28, plTab (.slice a2 T.length c2) vs T, plRow 3 1 encInt1 (.slice (some ⟨g1, 0, none⟩) F.length c1) (F.set f num), plBox (w.heap.size + 1) #[.slice none 0 0, .slice none 0 0] 28, plBox w.heap.size #[.slice af F.length cf, .slice (some ⟨p, off, none⟩) T.length ct] 28] := SM
        clear SM
        replace S : Sep w ((w11.setCell ⟨g1, f, none⟩ (.int .i64 num)).setCell ⟨(w.heap.size + 1), 0, none⟩ (.slice (some ⟨g1, 0, none⟩) F.length c1)) [plRow 3 1 encInt1 (.slice (some ⟨g, 0, none⟩) F.length F.length) (usesP F.length Q), plBox B2 #[.slice (some ⟨g1, 0, none⟩) F.length c1, .slice a2 T.length c2] 28, plTab (.slice a2 T.length c2) vs T, plRow 3 1 encInt1 (.slice (some ⟨g1, 0, none⟩) F.length c1) (F.set f num), plBox (w.heap.size + 1) #[.slice (some ⟨g1, 0, none⟩) F.length c1, .slice none 0 0] 28, plBox w.heap.size #[.slice af F.length cf, .slice (some ⟨p, off, none⟩) T.length ct] 28] := S.set 4 rfl 0 _
        replace S : Sep w (((w11.setCell ⟨g1, f, none⟩ (.int .i64 num)).setCell ⟨(w.heap.size + 1), 0, none⟩ (.slice (some ⟨g1, 0, none⟩) F.length c1)).setCell ⟨(w.heap.size + 1), 1, none⟩ (.slice a2 T.length c2)) [plRow 3 1 encInt1 (.slice (some ⟨g, 0, none⟩) F.length F.length) (usesP F.length Q), plBox B2 #[.slice (some ⟨g1, 0, none⟩) F.length c1, .slice a2 T.length c2] 28, plTab (.slice a2 T.length c2) vs T, plRow 3 1 encInt1 (.slice (some ⟨g1, 0, none⟩) F.length c1) (F.set f num), plBox (w.heap.size + 1) #[.slice (some ⟨g1, 0, none⟩) F.length c1, .slice a2 T.length c2] 28, plBox w.heap.size #[.slice af F.length cf, .slice (some ⟨p, off, none⟩) T.length ct] 28] := S.set 4 rfl 1 _
        replace S : Sep w (((w11.setCell ⟨g1, f, none⟩ (.int .i64 num)).setCell ⟨(w.heap.size + 1), 0, none⟩ (.slice (some ⟨g1, 0, none⟩) F.length c1)).setCell ⟨(w.heap.size + 1), 1, none⟩ (.slice a2 T.length c2)) [plRow 3 1 encInt1 (.slice (some ⟨g, 0, none⟩) F.length F.length) (usesP F.length Q), plTab (.slice a2 T.length c2) vs T, plRow 3 1 encInt1 (.slice (some ⟨g1, 0, none⟩) F.length c1) (F.set f num), plBox (w.heap.size + 1) #[.slice (some ⟨g1, 0, none⟩) F.length c1, .slice a2 T.length c2] 28, plBox w.heap.size #[.slice af F.length cf, .slice (some ⟨p, off, none⟩) T.length ct] 28] := S.drop 1
        replace S : Sep w (((w11.setCell ⟨g1, f, none⟩ (.int .i64 num)).setCell ⟨(w.heap.size + 1), 0, none⟩ (.slice (some ⟨g1, 0, none⟩) F.length c1)).setCell ⟨(w.heap.size + 1), 1, none⟩ (.slice a2 T.length c2)) [plRow 3 1 encInt1 (.slice (some ⟨g, 0, none⟩) F.length F.length) (usesP F.length Q), plTab (.slice a2 T.length c2) vs T, plRow 3 1 encInt1 (.slice (some ⟨g1, 0, none⟩) F.length c1) (F.set f num), plBox w.heap.size #[.slice af F.length cf, .slice (some ⟨p, off, none⟩) T.length ct] 28] := S.drop 3
        replace S : Sep w (((w11.setCell ⟨g1, f, none⟩ (.int .i64 num)).setCell ⟨(w.heap.size + 1), 0, none⟩ (.slice (some ⟨g1, 0, none⟩) F.length c1)).setCell ⟨(w.heap.size + 1), 1, none⟩ (.slice a2 T.length c2)) [plRow 3 1 encInt1 (.slice (some ⟨g, 0, none⟩) F.length F.length) (usesP F.length Q), plTab (.slice a2 T.length c2) vs T, plRow 3 1 encInt1 (.slice (some ⟨g1, 0, none⟩) F.length c1) (F.set f num)] := S.drop 3
        replace S : Sep w (((w11.setCell ⟨g1, f, none⟩ (.int .i64 num)).setCell ⟨(w.heap.size + 1), 0, none⟩ (.slice (some ⟨g1, 0, none⟩) F.length c1)).setCell ⟨(w.heap.size + 1), 1, none⟩ (.slice a2 T.length c2)) [plTab (.slice a2 T.length c2) vs T, plRow 3 1 encInt1 (.slice (some ⟨g1, 0, none⟩) F.length c1) (F.set f num)] := S.drop 0
        first | refine ⟨some ⟨g1, 0, none⟩, c1, F.set f num, a2, c2, vs, T, true, by simp, HW.out, ?_⟩ | refine ⟨some ⟨g1, 0, none⟩, c1, F.set f num, a2, c2, vs, T, .inr ⟨by simp, HW.out, ?_⟩⟩
        have e9 : (F.set f num).length = F.length := List.length_set ..
        have e8 : (T).length = T.length := by simp
        rw [e9, e8]
        exact S
end Go.Proofs.Ytpnllhdgpfbaiaa
