/- FnExactGroupsIn returns true and leaves its argument alone, for every argument that can be read. No condition. -/
import Derived.Test.YtlmelknadappbaaRow
import Derived.Test.YtlmelknadappbaaMemOpen
import Derived.Test.YtlmelknadappbaaMemL4
namespace Go.Proofs.Ytlmelknadappbaa.fnExactGroupsIn
open Go.ChangeShapes Go.WideShapes Go.ChangeAt Go.RowKit Go.Deep

set_option maxRecDepth 100000 in
theorem lifted (os : Os) (started : os.Started) (H : Type) (enc : TypeId × Value → H) :
    ReturnsInHanded {} Try.checked os 9 .any (Rows.fnExactGroupsInSpec.pre6 enc Try.prog Try.f9 Rows.fnExactGroupsInRow.domain false) (Rows.fnExactGroupsInSpec.post enc Try.prog Try.f9 false true false false) := by
  refine returnsInHanded_of_change (C := Try.checked) rowOwn started (by kernel_rfl) Try.func9
    (ChangeSpec.witness6 (enc := enc) (C := Try.checked) false ⟨#[], #[.slice none 0 0, .int .i64 0], []⟩ 8 (by kernel_rfl) (by kernel_rfl) (by kernel_rfl) (by kernel_rfl)) ?_
  intro W base args ds gs before hval0 hW hcnd _
  have hval : ∀ (j : Nat) t v, Try.f9.params[j]? = some t → args[j]? = some v → Value.okWide Try.prog W .any base t v := hval0
  have hW' := hW
  obtain ⟨p, q, hA0, hV, rfl, hfz, hnd⟩ := hW
  have hA : DataW.TrodAll enc Try.prog W 0 (fun _ => true) true Try.f9.params.toList args.toList ds p := hA0
  rw [Try.params9] at hA hval
  obtain ⟨v0, vs0, d0, ds0, p0, q0, hargs, rfl, rfl, h0, r0⟩ := trodAll_cons hA
  obtain ⟨v1, vs1, d1, ds1, p1, q1, rfl, rfl, rfl, h1, r1⟩ := trodAll_cons r0
  obtain ⟨rfl, rfl, rfl⟩ := trodAll_nil r1
  obtain rfl : args = #[v0, v1] := by cases args; simp_all
  obtain ⟨rfl, rfl⟩ := trodVars_none hV
  obtain ⟨al, capl, l, rfl, hll, hgl, hrl⟩ := open_rd_arg (encA := encMem) Try.underlying22 cellsMem (by omega) encMem_len openMem (hval 0 22 v0 rfl rfl) h0
  obtain ⟨s, rfl, rfl, rfl, ws⟩ := open_int Try.underlying3 (hval 1 3 v1 rfl rfl) h1
  refine (exactGroupsIn_any al capl l hll s W hrl).mono fun e W' ⟨b, he, hb, hE⟩ => ?_
  obtain rfl : b = true := hb.2 trivial
  subst he
  exact ⟨_, rfl, law_post (tb := 4) rowLaid hW' rfl (by kernel_rfl) Try.underlying4 (by rw [Try.params9]; exact (by decide +kernel)) rfl rfl rfl hE⟩

theorem proved : Rows.FnExactGroupsInSaid :=
  OpenClaim.holds_of_wide 9 Try.f9 rfl rfl rfl rfl rfl rfl rfl ⟨rfl, rfl, rfl, rfl, rfl⟩ rfl rfl rfl rfl rfl (by kernel_rfl) Try.func9 (by kernel_rfl)
    (of_decide_eq_true (by kernel_rfl)) (by unfold Func.isWrapper; first | (rw [if_pos (by decide +kernel)]; kernel_rfl) | (rw [if_neg (by decide +kernel)]; exact ⟨rfl, rfl⟩))
    (fun os started H enc _ => lifted os started H enc)
#print axioms proved
end Go.Proofs.Ytlmelknadappbaa.fnExactGroupsIn
