/- Memory: an argument of the law's own mirror type is read as a list of numbers and a list of such lists. No condition. -/
import Derived.Test.YtpnllhdgpfbaiaaRow
import Derived.Test.YtpnllhdgpfbaiaaRowB
import Derived.Test.YtpnllhdgpfbaiaaTab
namespace Go.Proofs.Ytpnllhdgpfbaiaa
open Go.ChangeShapes Go.WideShapes Go.ChangeAt Go.RowKit Go.Deep

theorem cellsMemory : Try.prog.cellsOf 25 = 2 := by kernel_rfl
theorem cellsMint : Try.prog.cellsOf 3 = 1 := by kernel_rfl
theorem cellsMints : Try.prog.cellsOf 22 = 1 := by kernel_rfl
theorem cellsMintss : Try.prog.cellsOf 23 = 1 := by kernel_rfl

section
variable {H : Type} {enc : TypeId × Value → H} {w : World} {base : Nat} {spare : Nat → Bool} {held : Bool}
theorem openMInt (n : Nat) (cs : List Value) (y : DataW H × List MemPlace) (h : DataW.trod enc Try.prog w base spare held n 3 cs = some y) : ∃ x : Int, cs = encInt1 x ∧ True := by
  obtain ⟨v, hv, _, _⟩ := DataW.trod_int Try.underlying3 h
  exact ⟨v, hv, trivial⟩
def goodSl (w : World) (x : Sl × List Int) : Prop := x.1.n = x.2.length ∧ x.2.length ≤ 9223372036854775807 ∧ x.2.length ≤ x.1.c ∧ Rd 1 encInt1 w x.1.a x.2
theorem openSl (n : Nat) (cs : List Value) (y : DataW H × List MemPlace) (h : DataW.trod enc Try.prog w base spare held n 22 cs = some y) : ∃ x : Sl × List Int, cs = encSl x.1 ∧ goodSl w x := by
  obtain ⟨v, rfl⟩ : ∃ v, cs = [v] := by
    rcases open_slice Try.underlying22 h with ⟨hcs, _⟩ | ⟨a, len, cap, m, n, D, Pl, hcs, _⟩
    · exact ⟨_, hcs⟩
    · exact ⟨_, hcs⟩
  obtain ⟨a, cap, l, rfl, h1, _, h2⟩ := open_rd (encA := encInt1) (good := fun _ => True) Try.underlying22 cellsMint (by omega) (fun _ => rfl) openMInt h
  have h3 : l.length ≤ cap := trod_cap (d := y.1) (p := y.2) Try.underlying22 ⟨n, h⟩
  exact ⟨(⟨a, l.length, cap⟩, l), rfl, rfl, h1, h3, h2⟩
theorem rdt_of {a : Option Addr} {X : List (Sl × List Int)} (h : Rd 1 (fun x : Sl × List Int => encSl x.1) w a X) (hg : ∀ x ∈ X, goodSl w x) : RdT w a (X.map (·.2)) := by
  intro i t ht
  rw [List.getElem?_map] at ht
  cases hx : X[i]? with
  | none => rw [hx] at ht; cases ht
  | some x =>
    rw [hx] at ht
    simp only [Option.map_some, Option.some.injEq] at ht
    subst ht
    obtain ⟨hi, rfl⟩ := List.getElem?_eq_some_iff.1 hx
    obtain ⟨b, off, ha, hc⟩ := h i hi
    obtain ⟨g1, g2, g3, g4⟩ := hg _ (List.getElem_mem hi)
    have h0 := hc 0 _ rfl
    refine ⟨b, off, X[i].1.a, X[i].1.c, ha, ?_, g3, g4⟩
    rw [← g1]
    simpa using h0
theorem openMemoryC (n : Nat) (cs : List Value) (y : DataW H × List MemPlace) (h : DataW.trod enc Try.prog w base spare held n 25 cs = some y) :
    ∃ af cf, ∃ F : List Int, ∃ at_ ct, ∃ T : List (List Int), cs = [.slice af F.length cf, .slice at_ T.length ct] ∧ F.length ≤ 9223372036854775807 ∧ Rd 1 encInt1 w af F ∧ T.length ≤ 9223372036854775807 ∧ (∀ t ∈ T, t.length ≤ 9223372036854775807) ∧ RdT w at_ T := by
  obtain ⟨xs, m, _, _, hl, hxl, hf⟩ := DataW.trod_struct Try.underlying25 h
  have hl3 : cs.length = 2 := hl.trans cellsMemory
  have hx3 : xs.length = 2 := hxl
  match cs, hl3, xs, hx3 with
  | [c0, c1], _, [y0, y1], _ =>
    have e0 : DataW.trod enc Try.prog w base spare held m 22 (List.take (Try.prog.cellsOf 22) [c0, c1]) = some y0 := hf 0 _ rfl
    simp only [cellsMints, List.take_succ_cons, List.take_zero] at e0
    obtain ⟨a, cap, l, rfl, h1, _, h2⟩ := open_rd (encA := encInt1) (good := fun _ => True) Try.underlying22 cellsMint (by omega) (fun _ => rfl) openMInt e0
    have e1 : DataW.trod enc Try.prog w base spare held m 23 (List.take (Try.prog.cellsOf 23) [c1]) = some y1 := hf 1 _ rfl
    simp only [cellsMintss, List.take_succ_cons, List.take_zero] at e1
    obtain ⟨a2, cap2, X, rfl, h3, h4, h5⟩ := open_rd (encA := fun x : Sl × List Int => encSl x.1) (good := goodSl w) Try.underlying23 cellsMints (by omega) (fun _ => rfl) openSl e1
    refine ⟨a, cap, l, a2, cap2, X.map (·.2), by rw [List.length_map], h1, h2, by rw [List.length_map]; exact h3, fun t ht => ?_, rdt_of h5 h4⟩
    obtain ⟨x, hx, rfl⟩ := List.mem_map.1 ht
    exact (h4 x hx).2.1
theorem openMemory {r : Reach} {b0 : Nat} {v : Value} {d : DataW H} {p : List MemPlace} (hv : Value.okWide Try.prog w r b0 25 v) (h : DataW.Trod enc Try.prog w base spare held 25 v d p) :
    ∃ af cf, ∃ F : List Int, ∃ at_ ct, ∃ T : List (List Int), v = .agg #[.slice af F.length cf, .slice at_ T.length ct] ∧ F.length ≤ 9223372036854775807 ∧ Rd 1 encInt1 w af F ∧ T.length ≤ 9223372036854775807 ∧ (∀ t ∈ T, t.length ≤ 9223372036854775807) ∧ RdT w at_ T := by
  obtain ⟨cs, rfl, _⟩ := okWide_struct Try.underlying25 hv
  obtain ⟨fuel, hf⟩ := h
  obtain ⟨af, cf, F, at_, ct, T, hx, h1⟩ := openMemoryC fuel _ _ hf
  refine ⟨af, cf, F, at_, ct, T, ?_, h1⟩
  have hx' : cs.toList = [.slice af F.length cf, .slice at_ T.length ct] := hx
  rw [← Array.toArray_toList (xs := cs), hx']
end
end Go.Proofs.Ytpnllhdgpfbaiaa
