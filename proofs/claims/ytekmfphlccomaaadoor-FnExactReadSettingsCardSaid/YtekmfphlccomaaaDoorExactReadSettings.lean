/- FnExactReadSettings returns true and leaves its argument alone, for every argument that can be read; what its row lists is tied to the text. No condition. -/
import Derived.Test.YtekmfphlccomaaaDoorRowD
import Derived.ChangeMaps5
import Derived.Test.YtekmfphlccomaaaDoorSetL4
namespace Go.Proofs.YtekmfphlccomaaaDoor.fnExactReadSettings
open Go.ChangeShapes Go.WideShapes Go.ChangeAt Go.RowKit Go.Deep

set_option maxRecDepth 100000 in
theorem lifted (os : Os) (started : os.Started) (H : Type) (enc : TypeId × Value → H) :
    ReturnsInHanded {} Tryd.checked os 4 .any (fun w args => (Rows.fnExactReadSettingsSpec.pre enc Tryd.prog Tryd.f4 Rows.fnExactReadSettingsRow.domain false w args ∧ laidMetH Tryd.prog Rows.fnExactReadSettingsRow.laid w) ∧ sizedMet enc Tryd.prog Tryd.f4 (OpenSpec.ofChange Rows.fnExactReadSettingsSpec) false w args) (Rows.fnExactReadSettingsSpec.post enc Tryd.prog Tryd.f4 false true false false) := by
  refine wrapD (C := Tryd.checked) rowOwn started (by kernel_rfl) Tryd.func4
    (ChangeSpec.witness_shaped (enc := enc) (C := Tryd.checked) (os := os) (X := fun w _ => laidMetH Tryd.prog Rows.fnExactReadSettingsRow.laid w) false (World.laidAll Tryd.prog os Rows.fnExactReadSettingsRow.laid) #[.string ByteArray.empty] 8 (World.laidAll_os _ _ _) (World.shaped_of_ZipB (by kernel_rfl) (by kernel_rfl)) (by kernel_rfl) (by kernel_rfl) (by kernel_rfl) (by rw [MakeChecks.laidMetH_plain _ _ _ (by kernel_rfl)]; exact laidMet_laidAll _ (by kernel_rfl) (by kernel_rfl))) ?_
  intro W base args ds gs before hval0 hW hsh
  obtain ⟨m, hm⟩ : ∃ m, W.cell? ⟨maxLenG, 0, none⟩ = some (.int .i64 m) := cell_of_shapedOpen_int (P := Tryd.prog) (t := 3) (zero := #[.int .i64 0]) hsh (by decide +kernel) (by kernel_rfl) rfl (by kernel_rfl) (by kernel_rfl) Tryd.underlying3
  have hval : ∀ (j : Nat) t v, Tryd.f4.params[j]? = some t → args[j]? = some v → Value.okWide Tryd.prog W .any base t v := hval0
  have hW' := hW
  obtain ⟨p, q, hA0, hV, rfl, hfz, hnd⟩ := hW
  have hA : DataW.TrodAll enc Tryd.prog W 0 (fun _ => true) true Tryd.f4.params.toList args.toList ds p := hA0
  rw [Tryd.params4] at hA hval
  obtain ⟨v0, vs0, d0, ds0, p0, q0, hargs, rfl, rfl, h0, r0⟩ := trodAll_cons hA
  obtain ⟨rfl, rfl, rfl⟩ := trodAll_nil r0
  obtain rfl : args = #[v0] := by cases args; simp_all
  obtain ⟨rfl, rfl⟩ := trodVars_none hV
  obtain ⟨s, rfl, rfl, rfl, ws⟩ := Go.ChangeMaps.open_string Tryd.underlying9 (hval 0 9 v0 rfl rfl) h0
  refine (exactReadSettings_any s ws m W hm).mono fun e W' ⟨b, he, hb, hE⟩ => ?_
  obtain rfl : b = true := hb.2 trivial
  subst he
  exact ⟨_, rfl, law_post (tb := 4) rowLaid hW' rfl (by kernel_rfl) Tryd.underlying4 (by rw [Tryd.params4]; exact (by decide +kernel)) rfl rfl rfl hE⟩

theorem said : Rows.FnExactReadSettingsSaid :=
  OpenClaim.holds_of_wide 4 Tryd.f4 rfl rfl rfl rfl rfl rfl rfl ⟨rfl, rfl, rfl, rfl, rfl⟩ rfl rfl rfl rfl rfl (by kernel_rfl) Tryd.func4 (by kernel_rfl)
    (of_decide_eq_true (by kernel_rfl)) (by unfold Func.isWrapper; first | (rw [if_pos (by decide +kernel)]; kernel_rfl) | (rw [if_neg (by decide +kernel)]; exact ⟨rfl, rfl⟩))
    (fun os started H enc _ => lifted os started H enc)
theorem proved : Rows.FnExactReadSettingsCardSaid :=
  Claim7.holds_tied_plain_at .later [] [.data, .pinned] true (true, "5b271fa9d7d3f6de4f6a09a589243bf8fecdb0f684f846eb8cb20a2ee3a84bfc") false said (fun _ h => by cases h) (by kernel_rfl) (fun _ h => by cases h) fnExactReadSettings_row_tie rfl ⟨rfl, rfl⟩ (by kernel_rfl) rfl
    (fun f fn hf hfn => by
      obtain rfl : f = 4 := Option.some.inj ((show Tryd.prog.funcNamed "loop.example/userspaces/laws.FnExactReadSettings" = some 4 by kernel_rfl).symm.trans hf) |>.symm
      obtain rfl : fn = Tryd.f4 := (Option.some.inj (Tryd.func4.symm.trans hfn)).symm
      exact ⟨by kernel_rfl, fun j t ht => by
        rw [Tryd.params4] at ht
        have hm : t ∈ [9] := by simpa using Array.mem_of_getElem? ht
        have hall : ([9].all fun u => !Tryd.prog.wantsStandIn u) = true := by kernel_rfl
        exact (show Tryd.prog.wantsStandIn t = false by simpa using List.all_eq_true.1 hall t hm)⟩)
    (by kernel_rfl)
#print axioms proved
end Go.Proofs.YtekmfphlccomaaaDoor.fnExactReadSettings
