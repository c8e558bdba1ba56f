/- FnFreeBytes: the plain law, the draw and the walk. Condition: the code is shorter than 2^63. -/
import Derived.Test.YtaofbdhljnhlnaaDrawLc2
import Derived.Test.YtaofbdhljnhlnaaAlive
import Derived.Test.YtaofbdhljnhlnaaLckQ
import Derived.Deep.Cut
namespace Go.Proofs.Ytaofbdhljnhlnaa
open Go.RowKit

theorem freeR_none {l L : List Lck} {who f t : Int} (h : FreeR l who f t L false) : L = l ∨ L = [] := by
  by_cases hv : LocksOk l ∧ FT f t
  · by_cases hs : (freeL l who f t).length ≤ 10
    · have := ((h.2 hv).1 hs).2; cases this
    · exact .inl ((h.2 hv).2 hs).1
  · exact .inr (h.1 hv).1
theorem freeR_ok {l L : List Lck} {who f t : Int} (h : FreeR l who f t L true) : LocksOk l ∧ FT f t ∧ L = freeL l who f t ∧ LocksOk L ∧ L.length ≤ 10 := by
  by_cases hv : LocksOk l ∧ FT f t
  rotate_left
  · have := (h.1 hv).2; cases this
  · by_cases hs : (freeL l who f t).length ≤ 10
    rotate_left
    · have := ((h.2 hv).2 hs).2; cases this
    · obtain ⟨hL, _⟩ := (h.2 hv).1 hs
      have := hv.2.2
      exact ⟨hv.1, hv.2, hL, by rw [hL]; exact freeL_ok hv.1 (by omega) hs, by rw [hL]; exact hs⟩

/-- The lock holds byte b, and it is not given back. -/
def hasB (who f t : Int) (b : Nat) (x : Lck) : Bool := decide (x.f ≤ (b : Int) ∧ (b : Int) < x.t ∧ (x.who ≠ who ∨ (b : Int) < f ∨ t ≤ (b : Int)))
theorem hasB_iff (who f t : Int) (b : Nat) (x : Lck) : hasB who f t b x = true ↔ x.f ≤ (b : Int) ∧ (b : Int) < x.t ∧ (x.who ≠ who ∨ (b : Int) < f ∨ t ≤ (b : Int)) := by simp [hasB]
/-- The lock holds byte b. -/
def hasA (b : Nat) (x : Lck) : Bool := decide (x.f ≤ (b : Int) ∧ (b : Int) < x.t)
theorem hasA_iff (b : Nat) (x : Lck) : hasA b x = true ↔ x.f ≤ (b : Int) ∧ (b : Int) < x.t := by simp [hasA]
def cntB (who f t : Int) (b : Nat) (l : List Lck) : Nat := l.countP (hasB who f t b)
def cntA (b : Nat) (l : List Lck) : Nat := l.countP (hasA b)
theorem count_step {p : Lck → Bool} {l : List Lck} {k : Nat} {x : Lck} (hx : l[k]? = some x) : (l.take (k + 1)).countP p = (l.take k).countP p + if p x then 1 else 0 := by
  rw [List.take_add_one, hx, List.countP_append]
  simp [List.countP_cons]
theorem cntB_step {who f t : Int} {b : Nat} {l : List Lck} {k : Nat} {x : Lck} (hx : l[k]? = some x) : cntB who f t b (l.take (k + 1)) = cntB who f t b (l.take k) + if hasB who f t b x then 1 else 0 := count_step hx
theorem cntA_step {b : Nat} {l : List Lck} {k : Nat} {x : Lck} (hx : l[k]? = some x) : cntA b (l.take (k + 1)) = cntA b (l.take k) + if hasA b x then 1 else 0 := count_step hx
theorem cntB_le (who f t : Int) (b : Nat) (l : List Lck) : cntB who f t b l ≤ l.length := List.countP_le_length
theorem cntA_le (b : Nat) (l : List Lck) : cntA b l ≤ l.length := List.countP_le_length
theorem cut_count {who f t : Int} {b : Nat} {x : Lck} (hx : okLck x) (hft : FT f t) : cntA b (cutL who f t x) = if hasB who f t b x then 1 else 0 := by
  have h1 := hx.2.2
  have h2 := hft.2
  unfold cutL cntA
  by_cases hc : x.who = who ∧ x.f < t ∧ f < x.t
  · rw [if_pos hc]
    have hnq : ¬ hasB who f t b x = true → ¬ (x.f ≤ (b : Int) ∧ (b : Int) < x.t ∧ ((b : Int) < f ∨ t ≤ (b : Int))) := fun hq h => hq ((hasB_iff who f t b x).2 ⟨h.1, h.2.1, .inr h.2.2⟩)
    have hyq : hasB who f t b x = true → (x.f ≤ (b : Int) ∧ (b : Int) < x.t ∧ ((b : Int) < f ∨ t ≤ (b : Int))) := fun hq => by
      obtain ⟨q1, q2, q3⟩ := (hasB_iff who f t b x).1 hq
      exact ⟨q1, q2, q3.resolve_left (fun h => h hc.1)⟩
    by_cases hq : hasB who f t b x = true
    · have hi := hyq hq
      rw [if_pos hq]
      clear hyq hnq hq
      by_cases ha : x.f < f <;> by_cases hb : t < x.t <;> simp only [ha, hb, if_true, if_false, List.countP_append, List.countP_cons, List.countP_nil, hasA, decide_eq_true_eq]
      all_goals (repeat' split)
      all_goals omega
    · have hi := hnq hq
      rw [if_neg hq]
      clear hyq hnq hq
      by_cases ha : x.f < f <;> by_cases hb : t < x.t <;> simp only [ha, hb, if_true, if_false, List.countP_append, List.countP_cons, List.countP_nil, hasA, decide_eq_true_eq]
      all_goals (repeat' split)
      all_goals omega
  · rw [if_neg hc]
    simp only [List.countP_cons, List.countP_nil, Nat.zero_add]
    by_cases hq : hasB who f t b x = true
    · have hi := (hasB_iff who f t b x).1 hq
      rw [if_pos hq, if_pos ((hasA_iff b x).2 ⟨hi.1, hi.2.1⟩)]
    · rw [if_neg hq, if_neg]
      intro ha
      have ha := (hasA_iff b x).1 ha
      refine hq ((hasB_iff who f t b x).2 ⟨ha.1, ha.2, ?_⟩)
      by_cases hw : x.who = who
      · omega
      · exact .inl hw
theorem cnt_free {l : List Lck} {who f t : Int} {b : Nat} (h : LocksOk l) (hft : FT f t) : cntA b (freeL l who f t) = cntB who f t b l := by
  have hk := (locks_iff.1 h).1
  clear h
  induction l with
  | nil => rfl
  | cons x l ih =>
    have h1 := cut_count (who := who) (b := b) (hk x (by simp)) hft
    have h2 := ih (fun y hy => hk y (by simp [hy]))
    unfold cntA cntB freeL at *
    rw [List.flatMap_cons, List.countP_append, h1, h2, List.countP_cons]
    omega
theorem free_away {l : List Lck} {who f t : Int} {b : Nat} {y : Lck} (h : LocksOk l) (hy : y ∈ freeL l who f t) (ha : hasA b y = true) (hw : y.who = who) : ¬ (f ≤ (b : Int) ∧ (b : Int) < t) := by
  intro hb
  obtain ⟨x, hx, hy⟩ := List.mem_flatMap.1 hy
  have hi := (hasA_iff b y).1 ha
  unfold cutL at hy
  split at hy
  · rcases List.mem_append.1 hy with h6 | h6
    · split at h6
      · rw [List.mem_singleton.1 h6] at hi; simp only at hi; omega
      · cases h6
    · split at h6
      · rw [List.mem_singleton.1 h6] at hi; simp only at hi; omega
      · cases h6
  · rename_i hc
    rw [List.mem_singleton.1 hy] at hi hw
    exact hc ⟨hw, by omega, by omega⟩

/-- A list in new memory and three numbers. -/
def LcksNNN (base : Nat) (K : Nat) (v : Value) (w : World) : Prop := ∃ (u : Value) (a b c : Int), v = .tuple #[u, .int .i64 a, .int .i64 b, .int .i64 c] ∧ LcksD base K u w

set_option maxHeartbeats 2000000 in
theorem drawFreeBytes (a : Option Addr) (cap : Nat) (l : List Int) (w : World) (hl : l.length ≤ 9223372036854775807) (hcap : l.length ≤ cap) (hu : ∀ x ∈ l, 0 ≤ x ∧ x ≤ 255) (hc : Rd 1 encU8 w a l) :
    Calls Try.prog 26 #[.slice a l.length cap] w (RetV (LcksNNN w.heap.size 11) w) := by
  go_enter Try.func26, Try.ntmps26
  go_wp2_with fail
  refine (open_any a cap l w hl hcap hu hc).mono ?_
  rintro e w1 ⟨v, rfl, ⟨rfl, hs⟩, E⟩
  have hg0 := hs.lt
  go_wp2_with fail
  refine (drawLocks _ _ _ _ hs (by omega) (by omega)).mono ?_
  rintro e w2 ⟨vL, rfl, ⟨L, h1, h3⟩, hs2, hS⟩
  go_wp2_with fail
  refine (drawLock _ _ 9 _ hs2 (by omega) (by omega)).mono ?_
  rintro e w3 ⟨v3, rfl, ⟨x, rfl⟩, hs3, hS3⟩
  have h4 := ownsRow_step h3 hS3 hg0
  have E3 := (hS.trans hS3).toExt E (Nat.le_refl _)
  have hbx := (Ext.refl w3).alloc (.cells #[.int .i64 x.who, .int .i64 x.f, .int .i64 x.t, .bool x.alone] 32)
  have n0 := cell_new w3 #[.int .i64 x.who, .int .i64 x.f, .int .i64 x.t, .bool x.alone] 32 0 (.int .i64 x.who) rfl
  have n1 := cell_new w3 #[.int .i64 x.who, .int .i64 x.f, .int .i64 x.t, .bool x.alone] 32 1 (.int .i64 x.f) rfl
  have n2 := cell_new w3 #[.int .i64 x.who, .int .i64 x.f, .int .i64 x.t, .bool x.alone] 32 2 (.int .i64 x.t) rfl
  have h6 := ownsRow_base (ownsRow_ext h4 hbx) (show w.heap.size ≤ w1.heap.size by omega)
  have E5 := E3.trans hbx
  clear h3 h4 hS hS3 hs hs2 hs3 E E3 hbx
  go_upto_region 4 with fail
  generalize (w3.alloc (.cells #[.int .i64 x.who, .int .i64 x.f, .int .i64 x.t, .bool x.alone] 32)) = w4 at *
  have m0 := ExtW.cell n0
  have m1 := ExtW.cell n1
  have m2 := ExtW.cell n2
  have b2 := ExtW.lt n0
  clear n0 n1 n2
  (refine wp_region_quiet_ext (by kernel_rfl) (by kernel_rfl) ?_; (repeat (go_big_quiet_step (fail))); refine wpQuiet_nil ?_; intro _ hw'; obtain ⟨sq, hw''⟩ := hw'; subst hw'')
  obtain ⟨w8, hw8⟩ := sq
  replace h6 := ownsRow_ext h6 hw8
  go_wp2
  try simp only [Exit.inBlock, Exit.then]
  refine bodyPost_ret (v := .tuple #[vL, .int .i64 x.who, .int .i64 x.f, .int .i64 x.t]) (by simp [results, Try.results26, go_sem]) rfl ?_
  exact RetV.mk ⟨_, _, _, _, rfl, L, h1, h6⟩ (E5.trans hw8)

set_option maxRecDepth 10000 in
set_option maxHeartbeats 8000000 in
theorem fnFreeBytes_any (ac : Option Addr) (capc : Nat) (code : List Int) (w : World) (hlc : code.length ≤ 9223372036854775807) (hcap : code.length ≤ capc) (hu : ∀ x ∈ code, 0 ≤ x ∧ x ≤ 255) (hcc : Rd 1 encU8 w ac code) :
    Calls Try.prog 8 #[.slice ac code.length capc] w (RetB True w) := by
  go_enter Try.func8, Try.ntmps8
  by_cases hbig : 1048576 < code.length
  · have hb : (1048576 : Int) < (code.length : Int) := by omega
    go_wp2
    go_ret
    exact RetB.mk true rfl (by simp) (Ext.refl _)
  have hb : (code.length : Int) ≤ 1048576 := by omega
  go_wp2_with fail
  refine (drawFreeBytes ac capc code w hlc hcap hu hcc).mono ?_
  rintro e w1 ⟨v, rfl, ⟨u, who, f, t, rfl, l, hl, hown⟩, E⟩
  obtain ⟨a, cap, rfl, hlcap, hrd, hshape⟩ := view_owns encLck_len hown
  clear hown hshape
  have ta : ∀ b : Bool, (b != b) = false := fun b => by simp
  go_wp2_with fail
  refine (implFreeBytes a cap l who f t w1 (by omega) hlcap hrd).mono ?_
  rintro e w2 ⟨v2, L, ok, rfl, hR, ownL, E2⟩
  obtain ⟨a2, cap2, rfl, hlcap2, rdL, hshape2⟩ := view_owns encLck_len ownL
  have HR := Lib.hid hR
  clear hR ownL hshape2
  replace hrd := hrd.ext E2
  replace E := E.trans E2
  clear E2
  go_wp2_with fail
  refine (specFreeBytes a cap l who f t w2 (by omega) hrd).mono ?_
  rintro e w3 ⟨v3, L', ok', rfl, hR, ownL', E2⟩
  obtain ⟨a3, cap3, rfl, hlcap3, rdL', hshape3⟩ := view_owns encLck_len ownL'
  obtain ⟨e1, e2⟩ := freeR_fun HR.out hR
  clear hR ownL' hshape3
  obtain rfl : ok = ok' := e2
  obtain rfl : L = L' := e1
  have hLl := freeR_len HR.out (by omega)
  replace hrd := hrd.ext E2
  replace rdL := rdL.ext E2
  replace E := E.trans E2
  clear E2
  go_wp2_with fail
  refine (sameLcks_any a2 a3 cap2 cap3 L L w3 (by omega) (by omega) rdL rdL').mono ?_
  rintro e w4 ⟨b4, rfl, hb4, E2⟩
  obtain rfl : b4 = true := hb4.2 rfl
  replace hrd := hrd.ext E2
  replace rdL := rdL.ext E2
  replace E := E.trans E2
  clear hb4 E2 rdL'
  have tok := ta ok
  clear ta
  cases ok with
  | false =>
    have hno := freeR_none HR.out
    go_wp2_with fail
    refine (sameLcks_any a2 a cap2 cap L l w4 (by omega) (by omega) rdL hrd).mono ?_
    rintro e w5 ⟨b5, rfl, hb5, E2⟩
    replace E := E.trans E2
    clear E2
    cases b5 with
    | true =>
      clear hb5 hno
      go_wp2_with fail
      refine (alive_any _).mono ?_
      rintro e w6 ⟨b3, rfl, hb3, E2⟩
      obtain rfl : b3 = true := hb3.2 trivial
      go_wp2
      go_ret
      exact RetB.mk true rfl (by simp) (E.trans E2)
    | false =>
      obtain rfl : L = [] := hno.resolve_left (fun h => Bool.noConfusion (hb5.2 h))
      clear hb5 hno
      go_wp2_with fail
      refine (alive_any _).mono ?_
      rintro e w6 ⟨b3, rfl, hb3, E2⟩
      obtain rfl : b3 = true := hb3.2 trivial
      go_wp2
      go_ret
      exact RetB.mk true rfl (by simp) (E.trans E2)
  | true =>
    obtain ⟨hlok, hft, hLf, hLok, hL10⟩ := freeR_ok HR.out
    have Hlok := Lib.hid hlok
    have HLf := Lib.hid hLf
    have HLok := Lib.hid hLok
    have Hft := Lib.hid hft
    clear hlok hft hLf hLok hLl HR
    go_wp2
    go_loopw [11, 12, 13, 14, 15] (fun i _ _ _ _ wr => ∃ b : Nat, b ≤ 40 ∧ i = .int .i64 (b : Int) ∧ Ext w4 wr) (fun i _ _ _ _ _ => 40 - (intOf i).toNat)
    case atStart => exact ⟨0, Nat.zero_le _, rfl, Ext.refl _⟩
    case round =>
      obtain ⟨b, hb40, rfl, hb5⟩ := hrel
      by_cases hblt : b < 40
      rotate_left
      · have hbi : ¬ (b : Int) < 40 := by omega
        go_wp2_with fail
        refine (implLocksValid a2 cap2 L _ (by omega) hlcap2 (rdL.ext hb5)).mono ?_
        rintro e w7 ⟨b7, rfl, hb7, E7⟩
        obtain rfl : b7 = true := hb7.2 HLok.out
        clear hb7
        go_wp2
        go_ret
        exact RetB.mk true rfl (by simp) ((E.trans hb5).trans E7)
      · have hbi : (b : Int) < 40 := by omega
        have hrd5 := hrd.ext hb5
        have rdL5 := rdL.ext hb5
        go_wp2
        go_loopw [12, 14] (fun c i wq => ∃ k : Nat, k ≤ l.length ∧ i = .int .i64 (k : Int) ∧ c = .int .i64 ((cntB who f t b (l.take k) : Nat) : Int) ∧ Ext wr wq) (fun _ i _ => l.length - (intOf i).toNat)
        case atStart => exact ⟨0, Nat.zero_le _, rfl, rfl, Ext.refl _⟩
        case round =>
          obtain ⟨k, hk, rfl, rfl, hb6⟩ := hrel
          by_cases hlt : k < l.length
          · obtain ⟨x, bb, off, hx, rfl, c0, c1, c2, c3⟩ := atLck (hrd5.ext hb6) hlt
            have Hst := Lib.hid (cntB_step (who := who) (f := f) (t := t) (b := b) hx)
            have hcb := cntB_le who f t b (l.take k)
            have hdef := hasB_iff who f t b x
            rw [List.length_take] at hcb
            have i0 : (0 : Int) ≤ (k : Int) := by omega
            have i1 : (k : Int) < (l.length : Int) := by omega
            generalize cntB who f t b (l.take k) = C at *
            have hC : IntKind.i64.wrap ((C : Int) + 1) = (C : Int) + 1 := IntWalk.i64_in _ (by omega)
            have Hdef := Lib.hid hdef
            clear hx hdef c3 hcb
            by_cases h1 : x.f ≤ (b : Int)
            · by_cases h2 : (b : Int) < x.t
              · by_cases h3 : x.who = who
                · have t4 : (x.who != who) = false := by simpa using h3
                  by_cases h4 : (b : Int) < f
                  · have hc : hasB who f t b x = true := Hdef.out.2 (by omega)
                    have Hc : Hid (cntB who f t b (l.take (k + 1)) = C + 1) := Lib.hid (by rw [Hst.out, hc]; rfl)
                    clear Hst hc Hdef h3
                    go_wp2
                    go_roundw
                    case rel => exact ⟨k + 1, by omega, by go_num, by rw [Hc.out]; push_cast; rfl, hb6⟩
                    case measure => simp [intOf]; omega
                  · by_cases h5 : t ≤ (b : Int)
                    · have hc : hasB who f t b x = true := Hdef.out.2 (by omega)
                      have Hc : Hid (cntB who f t b (l.take (k + 1)) = C + 1) := Lib.hid (by rw [Hst.out, hc]; rfl)
                      clear Hst hc Hdef h3
                      go_wp2
                      go_roundw
                      case rel => exact ⟨k + 1, by omega, by go_num, by rw [Hc.out]; push_cast; rfl, hb6⟩
                      case measure => simp [intOf]; omega
                    · have hc : hasB who f t b x = false := by
                        cases hq : hasB who f t b x with
                        | false => rfl
                        | true => exact absurd (Hdef.out.1 hq) (by omega)
                      have Hc : Hid (cntB who f t b (l.take (k + 1)) = C) := Lib.hid (by rw [Hst.out, hc]; rfl)
                      clear Hst hc Hdef h3
                      go_wp2
                      go_roundw
                      case rel => exact ⟨k + 1, by omega, by go_num, by rw [Hc.out], hb6⟩
                      case measure => simp [intOf]; omega
                · have t4 : (x.who != who) = true := by simpa using h3
                  have hc : hasB who f t b x = true := Hdef.out.2 (by omega)
                  have Hc : Hid (cntB who f t b (l.take (k + 1)) = C + 1) := Lib.hid (by rw [Hst.out, hc]; rfl)
                  clear Hst hc Hdef h3
                  go_wp2
                  go_roundw
                  case rel => exact ⟨k + 1, by omega, by go_num, by rw [Hc.out]; push_cast; rfl, hb6⟩
                  case measure => simp [intOf]; omega
              · have hc : hasB who f t b x = false := by
                  cases hq : hasB who f t b x with
                  | false => rfl
                  | true => exact absurd (Hdef.out.1 hq) (by omega)
                have Hc : Hid (cntB who f t b (l.take (k + 1)) = C) := Lib.hid (by rw [Hst.out, hc]; rfl)
                clear Hst hc Hdef 
                go_wp2
                go_roundw
                case rel => exact ⟨k + 1, by omega, by go_num, by rw [Hc.out], hb6⟩
                case measure => simp [intOf]; omega
            · have hc : hasB who f t b x = false := by
                cases hq : hasB who f t b x with
                | false => rfl
                | true => exact absurd (Hdef.out.1 hq) (by omega)
              have Hc : Hid (cntB who f t b (l.take (k + 1)) = C) := Lib.hid (by rw [Hst.out, hc]; rfl)
              clear Hst hc Hdef 
              go_wp2
              go_roundw
              case rel => exact ⟨k + 1, by omega, by go_num, by rw [Hc.out], hb6⟩
              case measure => simp [intOf]; omega
          · have hkl : l.take k = l := List.take_of_length_le (by omega)
            rw [hkl]
            have Hsum := Lib.hid (cnt_free (who := who) (b := b) Hlok.out Hft.out)
            have hCle := cntB_le who f t b l
            obtain ⟨C, hC⟩ : ∃ C, C = cntB who f t b l := ⟨_, rfl⟩
            rw [← hC] at Hsum hCle ⊢
            clear hkl hC
            have rdL6 := rdL5.ext hb6
            go_wp2
            go_loopw [13, 15] (fun c i wq => ∃ k : Nat, k ≤ L.length ∧ i = .int .i64 (k : Int) ∧ c = .int .i64 ((cntA b (L.take k) : Nat) : Int) ∧ Ext wr wq) (fun _ i _ => L.length - (intOf i).toNat)
            case atStart => exact ⟨0, Nat.zero_le _, rfl, rfl, Ext.refl _⟩
            case round =>
              obtain ⟨k, hk, rfl, rfl, hb7⟩ := hrel
              by_cases hlt : k < L.length
              · obtain ⟨y, bb, off, hy, rfl, c0, c1, c2, c3⟩ := atLck (rdL6.ext hb7) hlt
                have Hst := Lib.hid (cntA_step (b := b) hy)
                have hcb := cntA_le b (L.take k)
                have Haway := Lib.hid (fun ha hw => free_away (b := b) (y := y) Hlok.out (HLf.out ▸ List.mem_of_getElem? hy) ha hw)
                have hdef := hasA_iff b y
                rw [List.length_take] at hcb
                have i0 : (0 : Int) ≤ (k : Int) := by omega
                have i1 : (k : Int) < (L.length : Int) := by omega
                generalize cntA b (L.take k) = A at *
                have hA : IntKind.i64.wrap ((A : Int) + 1) = (A : Int) + 1 := IntWalk.i64_in _ (by omega)
                have Hdef := Lib.hid hdef
                clear hy hdef c3 hcb
                by_cases hc : hasA b y = true
                · have Hc : Hid (cntA b (L.take (k + 1)) = A + 1) := Lib.hid (by rw [Hst.out, hc]; rfl)
                  obtain ⟨h1, h2⟩ := Hdef.out.1 hc
                  by_cases h3 : y.who = who
                  · have h4 := Haway.out hc h3
                    have t4 : (y.who == who) = true := by simpa using h3
                    clear Hst hc h3 Haway Hdef
                    by_cases h5 : f ≤ (b : Int)
                    · have h6 : ¬ (b : Int) < t := fun h => h4 ⟨h5, h⟩
                      clear h4
                      go_wp2
                      go_roundw
                      case rel => exact ⟨k + 1, by omega, by go_num, by rw [Hc.out]; push_cast; rfl, hb7⟩
                      case measure => simp [intOf]; omega
                    · clear h4
                      go_wp2
                      go_roundw
                      case rel => exact ⟨k + 1, by omega, by go_num, by rw [Hc.out]; push_cast; rfl, hb7⟩
                      case measure => simp [intOf]; omega
                  · have t4 : (y.who == who) = false := by simpa using h3
                    clear Hst hc h3 Haway Hdef
                    go_wp2
                    go_roundw
                    case rel => exact ⟨k + 1, by omega, by go_num, by rw [Hc.out]; push_cast; rfl, hb7⟩
                    case measure => simp [intOf]; omega
                · have hn : ¬ (y.f ≤ (b : Int) ∧ (b : Int) < y.t) := fun h => hc (Hdef.out.2 h)
                  have hc' : hasA b y = false := by simpa using hc
                  have Hc : Hid (cntA b (L.take (k + 1)) = A) := Lib.hid (by rw [Hst.out, hc']; rfl)
                  clear Hst hc hc' Haway Hdef
                  by_cases h1 : y.f ≤ (b : Int)
                  · have h2 : ¬ (b : Int) < y.t := fun h => hn ⟨h1, h⟩
                    clear hn
                    go_wp2
                    go_roundw
                    case rel => exact ⟨k + 1, by omega, by go_num, by rw [Hc.out], hb7⟩
                    case measure => simp [intOf]; omega
                  · clear hn
                    go_wp2
                    go_roundw
                    case rel => exact ⟨k + 1, by omega, by go_num, by rw [Hc.out], hb7⟩
                    case measure => simp [intOf]; omega
              · have hkl : L.take k = L := List.take_of_length_le (by omega)
                have hCA : cntA b L = C := by rw [HLf.out]; exact Hsum.out
                rw [hkl, hCA]
                clear hkl hCA
                have tC : ((C : Int) != (C : Int)) = false := by simp
                go_wp2
                go_roundw
                case rel => exact ⟨b + 1, by omega, by go_num, (hb5.trans hb6).trans hb7⟩
                case measure => simp [intOf]; omega
end Go.Proofs.Ytaofbdhljnhlnaa
