/- FnReadSettings returns true and leaves its argument alone, for every argument that can be read; what its row lists is tied to the text. No condition. -/
import Derived.Test.YtekmfphlccomaaaDoorRowD
import Derived.Test.YtekmfphlccomaaaDoorRowB
import Derived.Test.YtekmfphlccomaaaDoorSetF4
namespace Go.Proofs.YtekmfphlccomaaaDoor.fnReadSettings
open Go.ChangeShapes Go.WideShapes Go.ChangeAt Go.RowKit Go.Deep

set_option maxRecDepth 100000 in
theorem lifted (os : Os) (started : os.Started) (H : Type) (enc : TypeId × Value → H) :
    ReturnsInHanded {} Tryd.checked os 5 .any (fun w args => (Rows.fnReadSettingsSpec.pre enc Tryd.prog Tryd.f5 Rows.fnReadSettingsRow.domain false w args ∧ laidMetH Tryd.prog Rows.fnReadSettingsRow.laid w) ∧ sizedMet enc Tryd.prog Tryd.f5 (OpenSpec.ofChange Rows.fnReadSettingsSpec) false w args) (Rows.fnReadSettingsSpec.post enc Tryd.prog Tryd.f5 false true false false) := by
  refine wrapD (C := Tryd.checked) rowOwn started (by kernel_rfl) Tryd.func5
    (ChangeSpec.witness_shaped (enc := enc) (C := Tryd.checked) (os := os) (X := fun w _ => laidMetH Tryd.prog Rows.fnReadSettingsRow.laid w) false (World.laidAll Tryd.prog os Rows.fnReadSettingsRow.laid) #[.slice none 0 0] 8 (World.laidAll_os _ _ _) (World.shaped_of_ZipB (by kernel_rfl) (by kernel_rfl)) (by kernel_rfl) (by kernel_rfl) (by kernel_rfl) (by rw [MakeChecks.laidMetH_plain _ _ _ (by kernel_rfl)]; exact laidMet_laidAll _ (by kernel_rfl) (by kernel_rfl))) ?_
  intro W base args ds gs before hval0 hW hsh
  obtain ⟨m, hm⟩ : ∃ m, W.cell? ⟨maxLenG, 0, none⟩ = some (.int .i64 m) := cell_of_shapedOpen_int (P := Tryd.prog) (t := 3) (zero := #[.int .i64 0]) hsh (by decide +kernel) (by kernel_rfl) rfl (by kernel_rfl) (by kernel_rfl) Tryd.underlying3
  have hval : ∀ (j : Nat) t v, Tryd.f5.params[j]? = some t → args[j]? = some v → Value.okWide Tryd.prog W .any base t v := hval0
  have hW' := hW
  obtain ⟨p, q, hA0, hV, rfl, hfz, hnd⟩ := hW
  have hA : DataW.TrodAll enc Tryd.prog W 0 (fun _ => true) true Tryd.f5.params.toList args.toList ds p := hA0
  rw [Tryd.params5] at hA hval
  obtain ⟨v0, vs0, d0, ds0, p0, q0, hargs, rfl, rfl, h0, r0⟩ := trodAll_cons hA
  obtain ⟨rfl, rfl, rfl⟩ := trodAll_nil r0
  obtain rfl : args = #[v0] := by cases args; simp_all
  obtain ⟨rfl, rfl⟩ := trodVars_none hV
  obtain ⟨acode, capcode, code, rfl, hlcode, hgcode, hrcode⟩ := open_rd_arg (encA := encU8) (good := fun x => 0 ≤ x ∧ x ≤ 255) Tryd.underlying22 (by kernel_rfl : Tryd.prog.cellsOf 5 = 1) (by omega) encU8_len openU8 (hval 0 22 v0 rfl rfl) h0
  have hkcode := trod_cap Tryd.underlying22 h0
  refine (fnReadSettings_any acode capcode code m W hm hlcode hkcode hgcode hrcode).mono fun e W' ⟨b, he, hb, hE⟩ => ?_
  obtain rfl : b = true := hb.2 trivial
  subst he
  exact ⟨_, rfl, law_post (tb := 4) rowLaid hW' rfl (by kernel_rfl) Tryd.underlying4 (by rw [Tryd.params5]; exact (by decide +kernel)) rfl rfl rfl hE⟩

theorem said : Rows.FnReadSettingsSaid :=
  OpenClaim.holds_of_wide 5 Tryd.f5 rfl rfl rfl rfl rfl rfl rfl ⟨rfl, rfl, rfl, rfl, rfl⟩ rfl rfl rfl rfl rfl (by kernel_rfl) Tryd.func5 (by kernel_rfl)
    (of_decide_eq_true (by kernel_rfl)) (by unfold Func.isWrapper; first | (rw [if_pos (by decide +kernel)]; kernel_rfl) | (rw [if_neg (by decide +kernel)]; exact ⟨rfl, rfl⟩))
    (fun os started H enc _ => lifted os started H enc)
theorem proved : Rows.FnReadSettingsCardSaid :=
  Claim7.holds_tied_plain_at .later [] [.data, .pinned] true (true, "5b271fa9d7d3f6de4f6a09a589243bf8fecdb0f684f846eb8cb20a2ee3a84bfc") false said (fun _ h => by cases h) (by kernel_rfl) (fun _ h => by cases h) fnReadSettings_row_tie rfl ⟨rfl, rfl⟩ (by kernel_rfl) rfl
    (fun f fn hf hfn => by
      obtain rfl : f = 5 := Option.some.inj ((show Tryd.prog.funcNamed "loop.example/userspaces/laws.FnReadSettings" = some 5 by kernel_rfl).symm.trans hf) |>.symm
      obtain rfl : fn = Tryd.f5 := (Option.some.inj (Tryd.func5.symm.trans hfn)).symm
      exact ⟨by kernel_rfl, fun j t ht => by
        rw [Tryd.params5] at ht
        have hm : t ∈ [22] := by simpa using Array.mem_of_getElem? ht
        have hall : ([22].all fun u => !Tryd.prog.wantsStandIn u) = true := by kernel_rfl
        exact (show Tryd.prog.wantsStandIn t = false by simpa using List.all_eq_true.1 hall t hm)⟩)
    (by kernel_rfl)
#print axioms proved
end Go.Proofs.YtekmfphlccomaaaDoor.fnReadSettings
