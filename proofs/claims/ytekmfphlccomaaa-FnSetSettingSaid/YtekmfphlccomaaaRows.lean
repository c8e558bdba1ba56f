/-
  No cell of these rows narrows 'for every input' (looked for: loops, veiled, ifaces, maps, wideKeys, modest, calm, conditions, laid).
  DERIVED. THE GIVEN ROWS OF THIS SEAT. 5 by the template 'for every input the law returns true; each argument reads behind the call as it read before'; 0 by the template 'total and deterministic' (their statements: YtekmfphlccomaaaTotals.lean).
  GIVEN WITH THE SEED: the statements are not yours to turn. If you find one false, say at which input.
  Laid BY PROGRAM, IN A SANDBOX (cutbox-rows.mjs): the forced cells as the released guide's own fill.sh prints them over the translation 4fecc5adcd7c5560… (all of the seat's roots in one cut). By AI agents, Wed Nov 11 2026. No macro, syntax, notation, axiom, sorry.
-/
import Derived.Test.YtekmfphlccomaaaChecked
import GoSem.Claim
import GoSem.ClaimJoined
import GoSem.ClaimMapViews
import Derived.JoinedTies
import Derived.KernelRfl
namespace Go.Proofs.Ytekmfphlccomaaa
/- THE CELL 'sum', in the pinned program and in every row, IS THE sha256 OF THE DUMP (.gsa) THAT YtekmfphlccomaaaProg.lean LOADS. Nothing in Lean hashes anything: it is a label: what it is worth is what the hold of that sum in a sandbox is worth. -/
noncomputable def Try.pinned : Pinned := { name := "ytekmfphlccomaaa", sum := "4fecc5adcd7c5560fb2a22d2756fdc4c9de83e26248ebff1f7f6a99191748e80", checked := Try.checked }
namespace Rows
def none {H : Type} : Left H := { results := [], args := [] }

/-- 'laws.FnExactSettingsValid': WHATEVER THE INPUT: true; the input reads as it did. -/
def fnExactSettingsValidSpec : ChangeSpec := { name := "fnExactSettingsValid", fn := fun _ => fun
  | [d] => { results := [.lit (.bool true)], args := [d] }
  | _ => none }
def fnExactSettingsValidRow : OpenClaim := { program := "ytekmfphlccomaaa", sum := "4fecc5adcd7c5560fb2a22d2756fdc4c9de83e26248ebff1f7f6a99191748e80", func := "loop.example/userspaces/laws.FnExactSettingsValid", spec := "fnExactSettingsValid", apart := false }
def FnExactSettingsValidSaid : Prop := fnExactSettingsValidRow.holds Try.pinned (OpenSpec.ofChange fnExactSettingsValidSpec)

/-- ITS FALSE NEIGHBOUR: 'it returns false'. Refute it at one input. -/
def fnExactSettingsValidWrong : ChangeSpec := { name := "fnExactSettingsValid", fn := fun _ => fun
  | [d] => { results := [.lit (.bool false)], args := [d] }
  | _ => none }
def FnExactSettingsValidWrongFalsely : Prop := fnExactSettingsValidRow.holds Try.pinned (OpenSpec.ofChange fnExactSettingsValidWrong)

/-- 'laws.FnSettingsValid': WHATEVER THE INPUT: true; the input reads as it did. -/
def fnSettingsValidSpec : ChangeSpec := { name := "fnSettingsValid", fn := fun _ => fun
  | [d] => { results := [.lit (.bool true)], args := [d] }
  | _ => none }
def fnSettingsValidRow : OpenClaim := { program := "ytekmfphlccomaaa", sum := "4fecc5adcd7c5560fb2a22d2756fdc4c9de83e26248ebff1f7f6a99191748e80", func := "loop.example/userspaces/laws.FnSettingsValid", spec := "fnSettingsValid", apart := false }
def FnSettingsValidSaid : Prop := fnSettingsValidRow.holds Try.pinned (OpenSpec.ofChange fnSettingsValidSpec)

/-- ITS FALSE NEIGHBOUR: 'it returns false'. Refute it at one input. -/
def fnSettingsValidWrong : ChangeSpec := { name := "fnSettingsValid", fn := fun _ => fun
  | [d] => { results := [.lit (.bool false)], args := [d] }
  | _ => none }
def FnSettingsValidWrongFalsely : Prop := fnSettingsValidRow.holds Try.pinned (OpenSpec.ofChange fnSettingsValidWrong)

/-- 'laws.FnExactSettingsText': WHATEVER THE INPUT: true; the input reads as it did. -/
def fnExactSettingsTextSpec : ChangeSpec := { name := "fnExactSettingsText", fn := fun _ => fun
  | [d] => { results := [.lit (.bool true)], args := [d] }
  | _ => none }
def fnExactSettingsTextRow : OpenClaim := { program := "ytekmfphlccomaaa", sum := "4fecc5adcd7c5560fb2a22d2756fdc4c9de83e26248ebff1f7f6a99191748e80", func := "loop.example/userspaces/laws.FnExactSettingsText", spec := "fnExactSettingsText", inPlace := ["internal/abi.NoEscape", "internal/bytealg.MakeNoZero"], apart := false }
def FnExactSettingsTextSaid : Prop := fnExactSettingsTextRow.holds Try.pinned (OpenSpec.ofChange fnExactSettingsTextSpec)

/-- ITS FALSE NEIGHBOUR: 'it returns false'. Refute it at one input. -/
def fnExactSettingsTextWrong : ChangeSpec := { name := "fnExactSettingsText", fn := fun _ => fun
  | [d] => { results := [.lit (.bool false)], args := [d] }
  | _ => none }
def FnExactSettingsTextWrongFalsely : Prop := fnExactSettingsTextRow.holds Try.pinned (OpenSpec.ofChange fnExactSettingsTextWrong)

/-- 'laws.FnSetSetting': WHATEVER THE INPUT: true; the input reads as it did. -/
def fnSetSettingSpec : ChangeSpec := { name := "fnSetSetting", fn := fun _ => fun
  | [d] => { results := [.lit (.bool true)], args := [d] }
  | _ => none }
def fnSetSettingRow : OpenClaim := { program := "ytekmfphlccomaaa", sum := "4fecc5adcd7c5560fb2a22d2756fdc4c9de83e26248ebff1f7f6a99191748e80", func := "loop.example/userspaces/laws.FnSetSetting", spec := "fnSetSetting", inPlace := ["slices.overlaps[loop.example/userspaces/impl.Setting]"], unfollowed := true, recurses := true, apart := false }
def FnSetSettingSaid : Prop := fnSetSettingRow.holds Try.pinned (OpenSpec.ofChange fnSetSettingSpec)

/-- ITS FALSE NEIGHBOUR: 'it returns false'. Refute it at one input. -/
def fnSetSettingWrong : ChangeSpec := { name := "fnSetSetting", fn := fun _ => fun
  | [d] => { results := [.lit (.bool false)], args := [d] }
  | _ => none }
def FnSetSettingWrongFalsely : Prop := fnSetSettingRow.holds Try.pinned (OpenSpec.ofChange fnSetSettingWrong)

/-- 'laws.FnExactSetSetting': WHATEVER THE INPUT: true; the input reads as it did. -/
def fnExactSetSettingSpec : ChangeSpec := { name := "fnExactSetSetting", fn := fun _ => fun
  | [d1, d2, d3] => { results := [.lit (.bool true)], args := [d1, d2, d3] }
  | _ => none }
def fnExactSetSettingRow : OpenClaim := { program := "ytekmfphlccomaaa", sum := "4fecc5adcd7c5560fb2a22d2756fdc4c9de83e26248ebff1f7f6a99191748e80", func := "loop.example/userspaces/laws.FnExactSetSetting", spec := "fnExactSetSetting", inPlace := ["slices.overlaps[loop.example/userspaces/impl.Setting]"], unfollowed := true, recurses := true, apart := false }
def FnExactSetSettingSaid : Prop := fnExactSetSettingRow.holds Try.pinned (OpenSpec.ofChange fnExactSetSettingSpec)

/-- ITS FALSE NEIGHBOUR: 'it returns false'. Refute it at one input. -/
def fnExactSetSettingWrong : ChangeSpec := { name := "fnExactSetSetting", fn := fun _ => fun
  | [d1, d2, d3] => { results := [.lit (.bool false)], args := [d1, d2, d3] }
  | _ => none }
def FnExactSetSettingWrongFalsely : Prop := fnExactSetSettingRow.holds Try.pinned (OpenSpec.ofChange fnExactSetSettingWrong)

/- THE SECOND FORM. 'bulk': how many values and letters a reading holds, each counted each time it is reached (what is shared counts as often as it is met; a slice's spare places count too). A statement '..UptoSaid' is the law's where the arguments, and the package variables that the reading takes, are together of bulk at most 1048576: NARROWER than '..Said'. Prove '..Said' where nothing that the law and all that it calls make is longer than what came in: it says more and counts as full. Else prove '..UptoSaid'. A law counts once. -/
mutual
def uptoBulk {H : Type} : DataW H → Nat
  | .lit (.string bytes) => bytes.length + 1
  | .lit _ => 1
  | .nil => 1
  | .ptr d => uptoBulk d + 1
  | .slice elems spare => uptoBulkAll elems + uptoBulkAll spare + 1
  | .agg parts => uptoBulkAll parts + 1
  | .iface _ d => uptoBulk d + 1
  | .map entries => uptoBulkEntries entries + 1
  | .held _ => 1
def uptoBulkAll {H : Type} : List (DataW H) → Nat
  | [] => 0
  | d :: r => uptoBulk d + uptoBulkAll r
def uptoBulkEntries {H : Type} : List (Lit × DataW H) → Nat
  | [] => 0
  | x :: r => uptoBulkEntry x + uptoBulkEntries r
def uptoBulkEntry {H : Type} : Lit × DataW H → Nat
  | (.string bytes, d) => bytes.length + uptoBulk d + 1
  | (_, d) => uptoBulk d + 1
 end
def uptoSmall : (H : Type) → List (DataW H) → Bool := fun _ ds => decide (uptoBulkAll ds ≤ 1048576)
def OpenSpec.upto (s : _root_.Go.ChangeSpec) : _root_.Go.OpenSpec := { _root_.Go.OpenSpec.ofChange s with cond := some uptoSmall }

/-- 'laws.FnExactSettingsValid', WHERE WHAT IT READS IS OF BULK AT MOST 1048576: true; the input reads as it did. -/
def fnExactSettingsValidUptoRow : OpenClaim := { program := "ytekmfphlccomaaa", sum := "4fecc5adcd7c5560fb2a22d2756fdc4c9de83e26248ebff1f7f6a99191748e80", func := "loop.example/userspaces/laws.FnExactSettingsValid", spec := "fnExactSettingsValid", apart := false, narrowed := true }
def FnExactSettingsValidUptoSaid : Prop := fnExactSettingsValidUptoRow.holds Try.pinned (OpenSpec.upto fnExactSettingsValidSpec)

/-- 'laws.FnSettingsValid', WHERE WHAT IT READS IS OF BULK AT MOST 1048576: true; the input reads as it did. -/
def fnSettingsValidUptoRow : OpenClaim := { program := "ytekmfphlccomaaa", sum := "4fecc5adcd7c5560fb2a22d2756fdc4c9de83e26248ebff1f7f6a99191748e80", func := "loop.example/userspaces/laws.FnSettingsValid", spec := "fnSettingsValid", apart := false, narrowed := true }
def FnSettingsValidUptoSaid : Prop := fnSettingsValidUptoRow.holds Try.pinned (OpenSpec.upto fnSettingsValidSpec)

/-- 'laws.FnExactSettingsText', WHERE WHAT IT READS IS OF BULK AT MOST 1048576: true; the input reads as it did. -/
def fnExactSettingsTextUptoRow : OpenClaim := { program := "ytekmfphlccomaaa", sum := "4fecc5adcd7c5560fb2a22d2756fdc4c9de83e26248ebff1f7f6a99191748e80", func := "loop.example/userspaces/laws.FnExactSettingsText", spec := "fnExactSettingsText", inPlace := ["internal/abi.NoEscape", "internal/bytealg.MakeNoZero"], apart := false, narrowed := true }
def FnExactSettingsTextUptoSaid : Prop := fnExactSettingsTextUptoRow.holds Try.pinned (OpenSpec.upto fnExactSettingsTextSpec)

/-- 'laws.FnSetSetting', WHERE WHAT IT READS IS OF BULK AT MOST 1048576: true; the input reads as it did. -/
def fnSetSettingUptoRow : OpenClaim := { program := "ytekmfphlccomaaa", sum := "4fecc5adcd7c5560fb2a22d2756fdc4c9de83e26248ebff1f7f6a99191748e80", func := "loop.example/userspaces/laws.FnSetSetting", spec := "fnSetSetting", inPlace := ["slices.overlaps[loop.example/userspaces/impl.Setting]"], unfollowed := true, recurses := true, apart := false, narrowed := true }
def FnSetSettingUptoSaid : Prop := fnSetSettingUptoRow.holds Try.pinned (OpenSpec.upto fnSetSettingSpec)

/-- 'laws.FnExactSetSetting', WHERE WHAT IT READS IS OF BULK AT MOST 1048576: true; the input reads as it did. -/
def fnExactSetSettingUptoRow : OpenClaim := { program := "ytekmfphlccomaaa", sum := "4fecc5adcd7c5560fb2a22d2756fdc4c9de83e26248ebff1f7f6a99191748e80", func := "loop.example/userspaces/laws.FnExactSetSetting", spec := "fnExactSetSetting", inPlace := ["slices.overlaps[loop.example/userspaces/impl.Setting]"], unfollowed := true, recurses := true, apart := false, narrowed := true }
def FnExactSetSettingUptoSaid : Prop := fnExactSetSettingUptoRow.holds Try.pinned (OpenSpec.upto fnExactSetSettingSpec)

end Rows
end Go.Proofs.Ytekmfphlccomaaa
