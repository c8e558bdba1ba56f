/- FnExactWritePage returns true and leaves its argument alone, for every argument that can be read. No condition. -/
import Derived.Test.YtpnllhdgpfbaiaaRow
import Derived.Test.YtpnllhdgpfbaiaaPagOpen
import Derived.Test.YtpnllhdgpfbaiaaPag7
namespace Go.Proofs.Ytpnllhdgpfbaiaa.fnExactWritePage
open Go.ChangeShapes Go.WideShapes Go.ChangeAt Go.RowKit Go.Deep

set_option maxRecDepth 100000 in
theorem lifted (os : Os) (started : os.Started) (H : Type) (enc : TypeId × Value → H) :
    ReturnsInHanded {} Try.checked os 12 .any (Rows.fnExactWritePageSpec.pre6 enc Try.prog Try.f12 Rows.fnExactWritePageRow.domain false) (Rows.fnExactWritePageSpec.post enc Try.prog Try.f12 false true false false) := by
  refine returnsInHanded_of_change (C := Try.checked) rowOwn started (by kernel_rfl) Try.func12
    (ChangeSpec.witness6 (enc := enc) (C := Try.checked) false ⟨#[], #[.agg #[.slice none 0 0, .slice none 0 0], .int .i64 0, .int .i64 0, .int .i64 0], []⟩ 8 (by kernel_rfl) (by kernel_rfl) (by kernel_rfl) (by kernel_rfl)) ?_
  intro W base args ds gs before hval0 hW hcnd _
  have hval : ∀ (j : Nat) t v, Try.f12.params[j]? = some t → args[j]? = some v → Value.okWide Try.prog W .any base t v := hval0
  have hW' := hW
  obtain ⟨p, q, hA0, hV, rfl, hfz, hnd⟩ := hW
  have hA : DataW.TrodAll enc Try.prog W 0 (fun _ => true) true Try.f12.params.toList args.toList ds p := hA0
  rw [Try.params12] at hA hval
  obtain ⟨v0, vs0, d0, ds0, p0, q0, hargs, rfl, rfl, h0, r0⟩ := trodAll_cons hA
  obtain ⟨v1, vs1, d1, ds1, p1, q1, rfl, rfl, rfl, h1, r1⟩ := trodAll_cons r0
  obtain ⟨v2, vs2, d2, ds2, p2, q2, rfl, rfl, rfl, h2, r2⟩ := trodAll_cons r1
  obtain ⟨v3, vs3, d3, ds3, p3, q3, rfl, rfl, rfl, h3, r3⟩ := trodAll_cons r2
  obtain ⟨rfl, rfl, rfl⟩ := trodAll_nil r3
  obtain rfl : args = #[v0, v1, v2, v3] := by cases args; simp_all
  obtain ⟨rfl, rfl⟩ := trodVars_none hV
  obtain ⟨afm, cfm, Fm, atm, ctm, Tm, rfl, hFm, hrfm, hTm, hltm, hrtm⟩ := openMemory (hval 0 25 v0 rfl rfl) h0
  obtain ⟨who, rfl, rfl, rfl, wwho⟩ := open_int Try.underlying3 (hval 1 3 v1 rfl rfl) h1
  obtain ⟨page, rfl, rfl, rfl, wpage⟩ := open_int Try.underlying3 (hval 2 3 v2 rfl rfl) h2
  obtain ⟨num, rfl, rfl, rfl, wnum⟩ := open_int Try.underlying3 (hval 3 3 v3 rfl rfl) h3
  refine (exactWritePage_any afm cfm Fm atm ctm Tm who page num W hFm hrfm hTm hltm hrtm).mono fun e W' ⟨b, he, hb, hE⟩ => ?_
  obtain rfl : b = true := hb.2 trivial
  subst he
  exact ⟨_, rfl, law_post (tb := 4) rowLaid hW' rfl (by kernel_rfl) Try.underlying4 (by rw [Try.params12]; exact (by decide +kernel)) rfl rfl rfl hE⟩

theorem proved : Rows.FnExactWritePageSaid :=
  OpenClaim.holds_of_wide 12 Try.f12 rfl rfl rfl rfl rfl rfl rfl ⟨rfl, rfl, rfl, rfl, rfl⟩ rfl rfl rfl rfl rfl (by kernel_rfl) Try.func12 (by kernel_rfl)
    (of_decide_eq_true (by kernel_rfl)) (by unfold Func.isWrapper; first | (rw [if_pos (by decide +kernel)]; kernel_rfl) | (rw [if_neg (by decide +kernel)]; exact ⟨rfl, rfl⟩))
    (fun os started H enc _ => lifted os started H enc)
#print axioms proved
end Go.Proofs.Ytpnllhdgpfbaiaa.fnExactWritePage
