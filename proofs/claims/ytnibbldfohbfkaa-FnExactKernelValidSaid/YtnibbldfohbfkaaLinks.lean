/- Trees: by how many names nodes are named; contracts of LinksOf. Condition: rows of at most 2^20. -/
import Derived.Test.YtnibbldfohbfkaaTreeI
namespace Go.Proofs.Ytnibbldfohbfkaa
open Go.RowKit

def kids (T : List Nd) : List Int := T.flatMap (·.K)
def cntL (M : Nat) (P : List Int) : List Int := (List.range M).map (fun i : Nat => (P.count (i : Int) : Int))
def LinkOk (T : List Nd) : Prop := T.length ≤ 16 ∧ ∀ x ∈ kids T, inB x 0 ((T.length : Int) - 1) = true
def LinksR (T : List Nd) (L : List Int) : Prop := (LinkOk T ∧ L = cntL T.length (kids T)) ∨ (¬ LinkOk T ∧ L = [])
theorem cntL_len (M : Nat) (P : List Int) : (cntL M P).length = M := by simp [cntL]
theorem cntL_zero (M : Nat) : cntL M [] = List.replicate M (0 : Int) := by
  apply List.ext_getElem
  · simp [cntL]
  · intro i h1 h2
    simp [cntL]
theorem cntL_get {M : Nat} {P : List Int} {i : Nat} (h : i < M) : (cntL M P)[i]? = some (P.count (i : Int) : Int) := by simp [cntL, h]
theorem cntL_at {M : Nat} {P : List Int} {i : Nat} (h : i < (cntL M P).length) : (cntL M P)[i] = (P.count (i : Int) : Int) := by simp [cntL]
theorem cntL_step {M : Nat} {P : List Int} {i : Nat} : (cntL M P).set i ((P.count (i : Int) : Int) + 1) = cntL M (P ++ [(i : Int)]) := by
  apply List.ext_getElem
  · simp [cntL]
  · intro j h1 h2
    rw [List.getElem_set]
    split
    · rename_i e
      subst e
      simp [cntL, List.count_append]
    · rename_i e
      have e2 : ¬ ((i : Int) = (j : Int)) := by omega
      simp [cntL, List.count_append, List.count_singleton, e2]
theorem kids_mem {T : List Nd} {k : Nat} {n : Nd} {x : Int} (hn : T[k]? = some n) (hx : x ∈ n.K) : x ∈ kids T := List.mem_flatMap.2 ⟨n, List.mem_of_getElem? hn, hx⟩
theorem kids_step {T : List Nd} {k : Nat} {n : Nd} (hn : T[k]? = some n) : kids (T.take k) ++ n.K = kids (T.take (k + 1)) := by
  rw [List.take_add_one, hn]
  simp [kids]
theorem kids_len {T : List Nd} (hs : ∀ x ∈ T, SmN 1048576 x) : (kids T).length ≤ T.length * 1048576 := by
  induction T with
  | nil => simp [kids]
  | cons n T ih =>
    have h1 := (hs n (List.mem_cons_self ..)).2.2.2
    have h2 := ih (fun x hx => hs x (List.mem_cons_of_mem _ hx))
    simp only [kids, List.flatMap_cons, List.length_append, List.length_cons, Nat.add_mul] at h2 ⊢
    omega
theorem pre_len {T : List Nd} (hs : ∀ x ∈ T, SmN 1048576 x) {k : Nat} {n : Nd} (hn : T[k]? = some n) (m : Nat) (hM : T.length ≤ 16) : (kids (T.take k) ++ n.K.take m).length ≤ 100000000 := by
  have h1 := kids_len (T := T.take k) (fun x hx => hs x (List.mem_of_mem_take hx))
  have h2 := (hs n (List.mem_of_getElem? hn)).2.2.2
  have h3 : (T.take k).length ≤ 16 := by rw [List.length_take]; omega
  have h4 : (T.take k).length * 1048576 ≤ 16 * 1048576 := Nat.mul_le_mul_right _ h3
  rw [List.length_append, List.length_take]
  omega
theorem owns_lit0 {w0 w : World} (hE : Ext w0 w) : (w.alloc (.cells #[] 3)).ownsRow w0.heap.size 3 1 (.slice (some ⟨w.heap.size, 0, none⟩) 0 0) ([] : List Int).length (([] : List Int).flatMap encInt1) :=
  ⟨by simp, .inr ⟨w.heap.size, 0, #[], rfl, hE.size, heap_alloc_new w _, Nat.le_refl _, Nat.zero_le _, by simp, by simp⟩⟩
theorem take_next {l : List Int} {m : Nat} {y : Int} (h : l[m]? = some y) (P : List Int) : P ++ l.take (m + 1) = (P ++ l.take m) ++ [y] := by
  rw [List.take_add_one, h, List.append_assoc]
  rfl
theorem in_cast {x : Int} {M : Nat} (h : inB x 0 ((M : Int) - 1) = true) : ∃ i : Nat, x = (i : Int) ∧ i < M := by
  have := inB_iff.1 h
  exact ⟨x.toNat, by omega, by omega⟩

set_option maxRecDepth 10000 in
set_option maxHeartbeats 8000000 in
theorem implLinksOf (a : Option Addr) (cap : Nat) (T : List Nd) (w : World) (hl : T.length ≤ 1048576) (hs : ∀ x ∈ T, SmN 1048576 x) (hc : RdN w a T) :
    Calls Try.prog 29 #[.slice a T.length cap] w (RetV (fun v w' => ∃ L, w'.ownsRow w.heap.size 3 1 v L.length (L.flatMap encInt1) ∧ LinksR T L) w) := by
  obtain ⟨i0, hi, hz0, hz1, hz2⟩ := info_parts infoInt
  have HS := Lib.hid hs
  clear hs
  by_cases h16 : T.length ≤ 16
  rotate_left
  · have h16i : (16 : Int) < (T.length : Int) := by omega
    have HR : Hid (LinksR T []) := Lib.hid (.inr ⟨fun h => h16 h.1, rfl⟩)
    go_enter Try.func29, Try.ntmps29
    go_wp2
    go_ret
    exact RetV.mk ⟨[], World.ownsRow_nil _ _ _ _, HR.out⟩ (Ext.refl _)
  · have h16i : (T.length : Int) ≤ 16 := by omega
    go_enter Try.func29, Try.ntmps29
    go_wp2_with (at_make; refine wpList_make_full _ rfl _ _ 53 rfl w.heap.size 3 i0 _ 1 Try.underlying53 hi hz0 hz1 _ _ _ _ T.length rfl rfl rfl rfl ?b1 ?b2 ?b3 ?_)
    case b1 => rw [hz2]; omega
    case b2 => unfold maxLen; omega
    case b3 => exact Nat.le_refl _
    intro w1 hown1 hgr1
    have hE := ext_of_grown hgr1
    clear hgr1
    go_wp2
    go_loopw [5, 7, 16] (fun _ _ i wr => ∃ k : Nat, k ≤ T.length ∧ i = .int .i64 k ∧ wr.ownsRow w.heap.size 3 1 (.slice (some ⟨w.heap.size, 0, none⟩) T.length T.length) T.length ((cntL T.length (kids (T.take k))).flatMap encInt1) ∧ (∀ x ∈ kids (T.take k), inB x 0 ((T.length : Int) - 1) = true) ∧ Ext w wr) (fun _ _ i _ => T.length - (intOf i).toNat)
    case atStart =>
      refine ⟨0, Nat.zero_le _, rfl, ?_, fun x hx => by simp [kids] at hx, hE⟩
      rw [List.take_zero, show kids [] = [] from rfl, cntL_zero, ← madeInt]
      exact hown1
    case round =>
      clear hown1 hE
      obtain ⟨k, hk, rfl, hown, hpre, hb⟩ := hrel
      have Hpre := Lib.hid hpre
      clear hpre
      by_cases hlt : k < T.length
      rotate_left
      · obtain rfl : k = T.length := by omega
        have hni : ¬ (T.length : Int) < (T.length : Int) := by omega
        rw [List.take_length] at hown Hpre
        have hown2 : wr.ownsRow w.heap.size 3 1 (.slice (some ⟨w.heap.size, 0, none⟩) T.length T.length) (cntL T.length (kids T)).length ((cntL T.length (kids T)).flatMap encInt1) := by rw [cntL_len]; exact hown
        have HO := Lib.hid hown2
        have HR : Hid (LinksR T (cntL T.length (kids T))) := Lib.hid (.inl ⟨⟨h16, Hpre.out⟩, rfl⟩)
        clear hown hown2
        go_wp2
        go_ret
        exact RetV.mk ⟨_, HO.out, HR.out⟩ hb
      · obtain ⟨x, b, off, an, cn, ak, ck, hx, rfl, c0, c1, c2, c3, c4, c5, c6, hcn, hck, hrn, hrk⟩ := atNd hc hlt
        have Hx := Lib.hid hx
        have hkl := (HS.out x (List.mem_of_getElem? hx)).2.2.2
        have i0 : (k : Int) < (T.length : Int) := by omega
        have d0 := cell_ext hb c0
        have d1 := cell_ext hb c1
        have d2 := cell_ext hb c2
        have d3 := cell_ext hb c3
        have d4 := cell_ext hb c4
        have d5 := cell_ext hb c5
        have d6 := cell_ext hb c6
        clear hx c0 c1 c2 c3 c4 c5 c6 hcn hck hrn
        have hownA := fun C t => ownsRow_ext hown ((Ext.refl wr).alloc (.cells C t))
        have hbA := fun C t => hb.alloc (.cells C t)
        have HA := Lib.hid hownA
        have HB := Lib.hid hbA
        clear hownA hbA hown hb
        go_wp2
        go_loopw [7, 23] (fun _ i wr => ∃ m : Nat, m ≤ x.K.length ∧ i = .int .i64 m ∧ wr.ownsRow w.heap.size 3 1 (.slice (some ⟨w.heap.size, 0, none⟩) T.length T.length) T.length ((cntL T.length (kids (T.take k) ++ x.K.take m)).flatMap encInt1) ∧ (∀ y ∈ kids (T.take k) ++ x.K.take m, inB y 0 ((T.length : Int) - 1) = true) ∧ Ext w wr) (fun _ i _ => x.K.length - (intOf i).toNat)
        case atStart =>
          refine ⟨0, Nat.zero_le _, rfl, ?_, ?_, HB.out _ _⟩
          · rw [List.take_zero, List.append_nil]
            exact HA.out _ _
          · rw [List.take_zero, List.append_nil]
            exact Hpre.out
        case round =>
          clear d0 d1 d2 d3 d4 d5 d6 HA HB
          obtain ⟨m, hm, rfl, hown, hpre2, hb⟩ := hrel
          have Hpre2 := Lib.hid hpre2
          clear hpre2
          by_cases hlm : m < x.K.length
          rotate_left
          · obtain rfl : m = x.K.length := by omega
            have hni : ¬ (x.K.length : Int) < (x.K.length : Int) := by omega
            rw [List.take_length, kids_step Hx.out] at hown Hpre2
            have HO := Lib.hid hown
            clear hown
            go_wp2
            go_roundw
            case rel => exact ⟨k + 1, by omega, by go_num, HO.out, Hpre2.out, hb⟩
            case measure => simp [intOf]; omega
          · obtain ⟨y, b2, off2, hy, rfl, e0⟩ := atInt (hrk.ext hb) hlm
            have Hy := Lib.hid hy
            have j0 : (m : Int) < (x.K.length : Int) := by omega
            have s1 : IntKind.i64.wrap ((T.length : Int) - 1) = (T.length : Int) - 1 := IntWalk.i64_in _ (by omega)
            clear hy
            cases hI : inB y 0 ((T.length : Int) - 1) with
            | false =>
              have HI := Lib.hid hI
              have HR : Hid (LinksR T []) := Lib.hid (.inr ⟨fun h => Bool.noConfusion (hI.symm.trans (h.2 y (kids_mem Hx.out (List.mem_of_getElem? Hy.out)))), rfl⟩)
              clear hI hown
              go_wp2_with (go_at_call 32; refine (within_is HI.out _).mono ?_; rintro e w' ⟨rfl, rfl⟩)
              go_ret
              exact RetV.mk ⟨[], World.ownsRow_nil _ _ _ _, HR.out⟩ hb
            | true =>
              have HI := Lib.hid hI
              obtain ⟨i, rfl, hiM⟩ := in_cast hI
              clear hI
              have hkm : i < (cntL T.length (kids (T.take k) ++ x.K.take m)).length := by rw [cntL_len]; exact hiM
              have g0 : wr.cell? ⟨w.heap.size, i, none⟩ = some (.int .i64 (cntL T.length (kids (T.take k) ++ x.K.take m))[i]) := by simpa using owns_at encInt1_len hown i hkm 0 _ rfl
              rw [cntL_at hkm] at g0
              have f0 := hown.frozenAt
              have h3 := owns_put encInt1_len hown i (((kids (T.take k) ++ x.K.take m).count (i : Int) : Int) + 1) hkm
              rw [cntL_step, ← take_next Hy.out] at h3
              have H3 := Lib.hid h3
              have HE := Lib.hid (Ext.setCells (Nat.le_refl _) (encInt1 (((kids (T.take k) ++ x.K.take m).count (i : Int) : Int) + 1)) (i * 1) hb)
              have hcl : (kids (T.take k) ++ x.K.take m).count (i : Int) ≤ 100000000 := Nat.le_trans List.count_le_length (pre_len HS.out Hx.out m h16)
              have Hin : Hid (∀ y ∈ kids (T.take k) ++ x.K.take (m + 1), inB y 0 ((T.length : Int) - 1) = true) := Lib.hid (fun z hz => by
                rw [take_next Hy.out] at hz
                rcases List.mem_append.1 hz with hz | hz
                · exact Hpre2.out z hz
                · rw [List.mem_singleton.1 hz]; exact HI.out)
              have k0 : (i : Int) < (T.length : Int) := by omega
              generalize (kids (T.take k) ++ x.K.take m).count (i : Int) = c at *
              clear h3 hown hkm hb
              go_wp2_with (go_at_call 32; refine (within_is HI.out _).mono ?_; rintro e w' ⟨rfl, rfl⟩)
              go_roundw
              case rel => exact ⟨m + 1, by omega, by go_num, by simpa [setCells, encInt1] using H3.out, Hin.out, by simpa [setCells, encInt1] using HE.out⟩
              case measure => simp [intOf]; omega
end Go.Proofs.Ytnibbldfohbfkaa
