/- Kernel: an argument of the law's own mirror type is read as nodes and four numbers. No condition. -/
import Derived.Test.YtnibbldfohbfkaaRow
import Derived.Test.YtnibbldfohbfkaaRowB
import Derived.Test.YtnibbldfohbfkaaNod
namespace Go.Proofs.Ytnibbldfohbfkaa
open Go.ChangeShapes Go.WideShapes Go.ChangeAt Go.RowKit Go.Deep

theorem cellsKer : Try.prog.cellsOf 26 = 5 := by kernel_rfl
theorem cellsKNode : Try.prog.cellsOf 55 = 7 := by kernel_rfl
theorem cellsKCred : Try.prog.cellsOf 24 = 4 := by kernel_rfl
theorem cellsKNodes : Try.prog.cellsOf 22 = 1 := by kernel_rfl
theorem cellsKint : Try.prog.cellsOf 3 = 1 := by kernel_rfl
theorem cellsKstr : Try.prog.cellsOf 9 = 1 := by kernel_rfl
theorem cellsKbool : Try.prog.cellsOf 4 = 1 := by kernel_rfl
theorem cellsKints : Try.prog.cellsOf 53 = 1 := by kernel_rfl
theorem cellsKstrs : Try.prog.cellsOf 52 = 1 := by kernel_rfl

section
variable {H : Type} {enc : TypeId × Value → H} {w : World} {base : Nat} {spare : Nat → Bool} {held : Bool}
theorem openKInt (n : Nat) (cs : List Value) (y : DataW H × List MemPlace) (h : DataW.trod enc Try.prog w base spare held n 3 cs = some y) : ∃ x : Int, cs = encInt1 x ∧ True := by
  obtain ⟨v, hv, _, _⟩ := DataW.trod_int Try.underlying3 h
  exact ⟨v, hv, trivial⟩
theorem openKStr (n : Nat) (cs : List Value) (y : DataW H × List MemPlace) (h : DataW.trod enc Try.prog w base spare held n 9 cs = some y) : ∃ x : ByteArray, cs = encStr1 x ∧ x.size ≤ 9223372036854775807 := by
  obtain ⟨v, hv, _, hw⟩ := DataW.trod_string Try.underlying9 h
  exact ⟨v, hv, hw⟩
set_option maxRecDepth 100000 in
theorem openKNode (n : Nat) (cs : List Value) (y : DataW H × List MemPlace) (h : DataW.trod enc Try.prog w base spare held n 55 cs = some y) : ∃ c : Nc, cs = encNc c ∧ (SmN 9223372036854775807 c.n ∧ c.rd w) := by
  obtain ⟨xs, m, _, _, hl, hxl, hf⟩ := DataW.trod_struct Try.underlying55 h
  have hl3 : cs.length = 7 := hl.trans cellsKNode
  have hx3 : xs.length = 7 := hxl
  match cs, hl3, xs, hx3 with
  | [c0, c1, c2, c3, c4, c5, c6], _, [y0, y1, y2, y3, y4, y5, y6], _ =>
    have e0 : DataW.trod enc Try.prog w base spare held m 4 (List.take (Try.prog.cellsOf 4) [c0, c1, c2, c3, c4, c5, c6]) = some y0 := hf 0 _ rfl
    simp only [cellsKbool, List.take_succ_cons, List.take_zero] at e0
    obtain ⟨v0, h0, _⟩ := DataW.trod_bool Try.underlying4 e0
    simp only [List.cons.injEq, and_true] at h0
    subst h0
    have e1 : DataW.trod enc Try.prog w base spare held m 3 (List.take (Try.prog.cellsOf 3) [c1, c2, c3, c4, c5, c6]) = some y1 := hf 1 _ rfl
    simp only [cellsKint, List.take_succ_cons, List.take_zero] at e1
    obtain ⟨v1, h1, _, _⟩ := DataW.trod_int Try.underlying3 e1
    simp only [List.cons.injEq, and_true] at h1
    subst h1
    have e2 : DataW.trod enc Try.prog w base spare held m 3 (List.take (Try.prog.cellsOf 3) [c2, c3, c4, c5, c6]) = some y2 := hf 2 _ rfl
    simp only [cellsKint, List.take_succ_cons, List.take_zero] at e2
    obtain ⟨v2, h2, _, _⟩ := DataW.trod_int Try.underlying3 e2
    simp only [List.cons.injEq, and_true] at h2
    subst h2
    have e3 : DataW.trod enc Try.prog w base spare held m 3 (List.take (Try.prog.cellsOf 3) [c3, c4, c5, c6]) = some y3 := hf 3 _ rfl
    simp only [cellsKint, List.take_succ_cons, List.take_zero] at e3
    obtain ⟨v3, h3, _, _⟩ := DataW.trod_int Try.underlying3 e3
    simp only [List.cons.injEq, and_true] at h3
    subst h3
    have e4 : DataW.trod enc Try.prog w base spare held m 9 (List.take (Try.prog.cellsOf 9) [c4, c5, c6]) = some y4 := hf 4 _ rfl
    simp only [cellsKstr, List.take_succ_cons, List.take_zero] at e4
    obtain ⟨v4, h4, _, w4⟩ := DataW.trod_string Try.underlying9 e4
    simp only [List.cons.injEq, and_true] at h4
    subst h4
    have e5 : DataW.trod enc Try.prog w base spare held m 52 (List.take (Try.prog.cellsOf 52) [c5, c6]) = some y5 := hf 5 _ rfl
    simp only [cellsKstrs, List.take_succ_cons, List.take_zero] at e5
    obtain ⟨an, cn, N, rfl, hN, hNs, hrN⟩ := open_rd (encA := encStr1) (good := fun s => s.size ≤ 9223372036854775807) Try.underlying52 cellsKstr (by omega) (fun _ => rfl) openKStr e5
    have hcn : N.length ≤ cn := trod_cap (d := y5.1) (p := y5.2) Try.underlying52 ⟨m, e5⟩
    have e6 : DataW.trod enc Try.prog w base spare held m 53 (List.take (Try.prog.cellsOf 53) [c6]) = some y6 := hf 6 _ rfl
    simp only [cellsKints, List.take_succ_cons, List.take_zero] at e6
    obtain ⟨ak, ck, K, rfl, hK, _, hrK⟩ := open_rd (encA := encInt1) (good := fun _ => True) Try.underlying53 cellsKint (by omega) (fun _ => rfl) openKInt e6
    have hck : K.length ≤ ck := trod_cap (d := y6.1) (p := y6.2) Try.underlying53 ⟨m, e6⟩
    exact ⟨⟨⟨v0, v1, v2, v3, v4, N, K⟩, an, cn, ak, ck⟩, rfl, ⟨w4, hN, hNs, hK⟩, hcn, hck, hrN, hrK⟩
set_option maxRecDepth 100000 in
theorem openKCred (n : Nat) (cs : List Value) (y : DataW H × List MemPlace) (h : DataW.trod enc Try.prog w base spare held n 24 cs = some y) : ∃ r a s g : Int, cs = [.int .i64 r, .int .i64 a, .int .i64 s, .int .i64 g] := by
  obtain ⟨xs, m, _, _, hl, hxl, hf⟩ := DataW.trod_struct Try.underlying24 h
  have hl3 : cs.length = 4 := hl.trans cellsKCred
  have hx3 : xs.length = 4 := hxl
  match cs, hl3, xs, hx3 with
  | [c1, c2, c3, c4], _, [y1, y2, y3, y4], _ =>
    have e1 : DataW.trod enc Try.prog w base spare held m 3 (List.take (Try.prog.cellsOf 3) [c1, c2, c3, c4]) = some y1 := hf 0 _ rfl
    simp only [cellsKint, List.take_succ_cons, List.take_zero] at e1
    obtain ⟨v1, h1, _, _⟩ := DataW.trod_int Try.underlying3 e1
    simp only [List.cons.injEq, and_true] at h1
    subst h1
    have e2 : DataW.trod enc Try.prog w base spare held m 3 (List.take (Try.prog.cellsOf 3) [c2, c3, c4]) = some y2 := hf 1 _ rfl
    simp only [cellsKint, List.take_succ_cons, List.take_zero] at e2
    obtain ⟨v2, h2, _, _⟩ := DataW.trod_int Try.underlying3 e2
    simp only [List.cons.injEq, and_true] at h2
    subst h2
    have e3 : DataW.trod enc Try.prog w base spare held m 3 (List.take (Try.prog.cellsOf 3) [c3, c4]) = some y3 := hf 2 _ rfl
    simp only [cellsKint, List.take_succ_cons, List.take_zero] at e3
    obtain ⟨v3, h3, _, _⟩ := DataW.trod_int Try.underlying3 e3
    simp only [List.cons.injEq, and_true] at h3
    subst h3
    have e4 : DataW.trod enc Try.prog w base spare held m 3 (List.take (Try.prog.cellsOf 3) [c4]) = some y4 := hf 3 _ rfl
    simp only [cellsKint, List.take_succ_cons, List.take_zero] at e4
    obtain ⟨v4, h4, _, _⟩ := DataW.trod_int Try.underlying3 e4
    simp only [List.cons.injEq, and_true] at h4
    subst h4
    exact ⟨v1, v2, v3, v4, rfl⟩
set_option maxRecDepth 100000 in
theorem openKernelC (n : Nat) (cs : List Value) (y : DataW H × List MemPlace) (h : DataW.trod enc Try.prog w base spare held n 26 cs = some y) :
    ∃ at_ ct, ∃ T : List Nd, ∃ r a s g : Int, cs = [.slice at_ T.length ct, .int .i64 r, .int .i64 a, .int .i64 s, .int .i64 g] ∧ T.length ≤ 9223372036854775807 ∧ (∀ x ∈ T, SmN 9223372036854775807 x) ∧ RdN w at_ T := by
  obtain ⟨xs, m, _, _, hl, hxl, hf⟩ := DataW.trod_struct Try.underlying26 h
  have hl3 : cs.length = 5 := hl.trans cellsKer
  have hx3 : xs.length = 2 := hxl
  match cs, hl3, xs, hx3 with
  | [c0, c1, c2, c3, c4], _, [y0, y1], _ =>
    have e0 : DataW.trod enc Try.prog w base spare held m 22 (List.take (Try.prog.cellsOf 22) [c0, c1, c2, c3, c4]) = some y0 := hf 0 _ rfl
    simp only [cellsKNodes, List.take_succ_cons, List.take_zero] at e0
    obtain ⟨at_, ct, X, rfl, h1, h2, h3⟩ := open_rd (encA := encNc) (good := fun c => SmN 9223372036854775807 c.n ∧ c.rd w) Try.underlying22 cellsKNode (by omega) encNc_len openKNode e0
    have e1 : DataW.trod enc Try.prog w base spare held m 24 (List.take (Try.prog.cellsOf 24) [c1, c2, c3, c4]) = some y1 := hf 1 _ rfl
    simp only [cellsKCred, List.take_succ_cons, List.take_zero] at e1
    obtain ⟨r, a, s, g, h4⟩ := openKCred _ _ _ e1
    simp only [List.cons.injEq, and_true] at h4
    obtain ⟨rfl, rfl, rfl, rfl⟩ := h4
    refine ⟨at_, ct, X.map (·.n), r, a, s, g, by rw [List.length_map], by rw [List.length_map]; exact h1, fun x hx => ?_, X, rfl, h3, fun c hc => (h2 c hc).2⟩
    obtain ⟨c, hc, rfl⟩ := List.mem_map.1 hx
    exact (h2 c hc).1
theorem openKernel {r : Reach} {b0 : Nat} {v : Value} {d : DataW H} {p : List MemPlace} (hv : Value.okWide Try.prog w r b0 26 v) (h : DataW.Trod enc Try.prog w base spare held 26 v d p) :
    ∃ at_ ct, ∃ T : List Nd, ∃ r a s g : Int, v = .agg #[.slice at_ T.length ct, .int .i64 r, .int .i64 a, .int .i64 s, .int .i64 g] ∧ T.length ≤ 9223372036854775807 ∧ (∀ x ∈ T, SmN 9223372036854775807 x) ∧ RdN w at_ T := by
  obtain ⟨cs, rfl, _⟩ := okWide_struct Try.underlying26 hv
  obtain ⟨fuel, hf⟩ := h
  obtain ⟨at_, ct, T, r, a, s, g, hx, h1⟩ := openKernelC fuel _ _ hf
  refine ⟨at_, ct, T, r, a, s, g, ?_, h1⟩
  have hx' : cs.toList = [.slice at_ T.length ct, .int .i64 r, .int .i64 a, .int .i64 s, .int .i64 g] := hx
  rw [← Array.toArray_toList (xs := cs), hx']
end
end Go.Proofs.Ytnibbldfohbfkaa
