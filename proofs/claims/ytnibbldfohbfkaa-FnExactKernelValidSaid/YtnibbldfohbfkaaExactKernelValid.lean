/- FnExactKernelValid returns true and leaves its argument alone, for every argument that can be read. No condition. -/
import Derived.Test.YtnibbldfohbfkaaRow
import Derived.Test.YtnibbldfohbfkaaKerOpen
import Derived.Test.YtnibbldfohbfkaaKer3
namespace Go.Proofs.Ytnibbldfohbfkaa.fnExactKernelValid
open Go.ChangeShapes Go.WideShapes Go.ChangeAt Go.RowKit Go.Deep

set_option maxRecDepth 100000 in
theorem lifted (os : Os) (started : os.Started) (H : Type) (enc : TypeId × Value → H) :
    ReturnsInHanded {} Try.checked os 3 .any (Rows.fnExactKernelValidSpec.pre6 enc Try.prog Try.f3 Rows.fnExactKernelValidRow.domain false) (Rows.fnExactKernelValidSpec.post enc Try.prog Try.f3 false true false false) := by
  refine returnsInHanded_of_change (C := Try.checked) rowOwn started (by kernel_rfl) Try.func3
    (ChangeSpec.witness6 (enc := enc) (C := Try.checked) false ⟨#[], #[.agg #[.slice none 0 0, .int .i64 0, .int .i64 0, .int .i64 0, .int .i64 0]], []⟩ 8 (by kernel_rfl) (by kernel_rfl) (by kernel_rfl) (by kernel_rfl)) ?_
  intro W base args ds gs before hval0 hW hcnd _
  have hval : ∀ (j : Nat) t v, Try.f3.params[j]? = some t → args[j]? = some v → Value.okWide Try.prog W .any base t v := hval0
  have hW' := hW
  obtain ⟨p, q, hA0, hV, rfl, hfz, hnd⟩ := hW
  have hA : DataW.TrodAll enc Try.prog W 0 (fun _ => true) true Try.f3.params.toList args.toList ds p := hA0
  rw [Try.params3] at hA hval
  obtain ⟨v0, vs0, d0, ds0, p0, q0, hargs, rfl, rfl, h0, r0⟩ := trodAll_cons hA
  obtain ⟨rfl, rfl, rfl⟩ := trodAll_nil r0
  obtain rfl : args = #[v0] := by cases args; simp_all
  obtain ⟨rfl, rfl⟩ := trodVars_none hV
  obtain ⟨atm, ctm, Tm, rm, am, sm, gm, rfl, hTm, hltm, hrtm⟩ := openKernel (hval 0 26 v0 rfl rfl) h0
  refine (exactKernelValid_any atm ctm Tm rm am sm gm W hTm hltm hrtm).mono fun e W' ⟨b, he, hb, hE⟩ => ?_
  obtain rfl : b = true := hb.2 trivial
  subst he
  exact ⟨_, rfl, law_post (tb := 4) rowLaid hW' rfl (by kernel_rfl) Try.underlying4 (by rw [Try.params3]; exact (by decide +kernel)) rfl rfl rfl hE⟩

theorem proved : Rows.FnExactKernelValidSaid :=
  OpenClaim.holds_of_wide 3 Try.f3 rfl rfl rfl rfl rfl rfl rfl ⟨rfl, rfl, rfl, rfl, rfl⟩ rfl rfl rfl rfl rfl (by kernel_rfl) Try.func3 (by kernel_rfl)
    (of_decide_eq_true (by kernel_rfl)) (by unfold Func.isWrapper; first | (rw [if_pos (by decide +kernel)]; kernel_rfl) | (rw [if_neg (by decide +kernel)]; exact ⟨rfl, rfl⟩))
    (fun os started H enc _ => lifted os started H enc)
#print axioms proved
end Go.Proofs.Ytnibbldfohbfkaa.fnExactKernelValid
