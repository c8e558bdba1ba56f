/-
  DERIVED. GIVEN WITH THE SEED: THE CARDS: each row of YtekmfphlccomaaaDoorRows.lean that lists a variable, with what it lists TIED to the program's text (the seventh form; the later family's looks); each row that meets fmt, with fmt's text TOLD by the authors' own Lean function (tested against real Go, not proved from fmt's source: count such statements apart). THE CARD IS WHAT COUNTS. Prove the row's statement (the work); the ties are given (YtekmfphlccomaaaDoorTie.lean); close each card by the builder's one call (the guide's Derived/Test/ToyasCard.lean, 'card_holds'). Laid BY PROGRAM, IN A SANDBOX (cutbox-door.mjs). By AI agents, Wed Nov 11 2026. No macro, syntax, notation, axiom, sorry.
-/
import Derived.Test.YtekmfphlccomaaaDoorRows
import GoSem.ClaimSeven
namespace Go.Proofs.YtekmfphlccomaaaDoor
namespace Rows

/-- THE TIED CARD OF 'laws.FnSettingsText'. -/
def fnSettingsTextCard : Claim7 := { stood := { row := fnSettingsTextRow, standIns := [], harness := (true, "5b271fa9d7d3f6de4f6a09a589243bf8fecdb0f684f846eb8cb20a2ee3a84bfc"), looks := false }, kinds := [], alts := [], laidByText := true, laidKinds := [.data, .pinned], laidTests := true, laidLooks := .later }
def FnSettingsTextCardSaid : Prop := Claim7.holds Tryd.pinned (.plain (OpenSpec.ofChange fnSettingsTextSpec)) fnSettingsTextCard

/-- THE TIED CARD OF 'laws.FnExactReadSettings'. -/
def fnExactReadSettingsCard : Claim7 := { stood := { row := fnExactReadSettingsRow, standIns := [], harness := (true, "5b271fa9d7d3f6de4f6a09a589243bf8fecdb0f684f846eb8cb20a2ee3a84bfc"), looks := false }, kinds := [], alts := [], laidByText := true, laidKinds := [.data, .pinned], laidTests := true, laidLooks := .later }
def FnExactReadSettingsCardSaid : Prop := Claim7.holds Tryd.pinned (.plain (OpenSpec.ofChange fnExactReadSettingsSpec)) fnExactReadSettingsCard

/-- THE TIED CARD OF 'laws.FnReadSettings'. -/
def fnReadSettingsCard : Claim7 := { stood := { row := fnReadSettingsRow, standIns := [], harness := (true, "5b271fa9d7d3f6de4f6a09a589243bf8fecdb0f684f846eb8cb20a2ee3a84bfc"), looks := false }, kinds := [], alts := [], laidByText := true, laidKinds := [.data, .pinned], laidTests := true, laidLooks := .later }
def FnReadSettingsCardSaid : Prop := Claim7.holds Tryd.pinned (.plain (OpenSpec.ofChange fnReadSettingsSpec)) fnReadSettingsCard

/-- THE SECOND FORM's CARD OF 'laws.FnSettingsText'. -/
def fnSettingsTextUptoCard : Claim7 := { stood := { row := fnSettingsTextUptoRow, standIns := [], harness := (true, "5b271fa9d7d3f6de4f6a09a589243bf8fecdb0f684f846eb8cb20a2ee3a84bfc"), looks := false }, kinds := [], alts := [], laidByText := true, laidKinds := [.data, .pinned], laidTests := true, laidLooks := .later }
def FnSettingsTextUptoCardSaid : Prop := Claim7.holds Tryd.pinned (.plain (OpenSpec.upto fnSettingsTextSpec)) fnSettingsTextUptoCard

/-- THE SECOND FORM's CARD OF 'laws.FnExactReadSettings'. -/
def fnExactReadSettingsUptoCard : Claim7 := { stood := { row := fnExactReadSettingsUptoRow, standIns := [], harness := (true, "5b271fa9d7d3f6de4f6a09a589243bf8fecdb0f684f846eb8cb20a2ee3a84bfc"), looks := false }, kinds := [], alts := [], laidByText := true, laidKinds := [.data, .pinned], laidTests := true, laidLooks := .later }
def FnExactReadSettingsUptoCardSaid : Prop := Claim7.holds Tryd.pinned (.plain (OpenSpec.upto fnExactReadSettingsSpec)) fnExactReadSettingsUptoCard

/-- THE SECOND FORM's CARD OF 'laws.FnReadSettings'. -/
def fnReadSettingsUptoCard : Claim7 := { stood := { row := fnReadSettingsUptoRow, standIns := [], harness := (true, "5b271fa9d7d3f6de4f6a09a589243bf8fecdb0f684f846eb8cb20a2ee3a84bfc"), looks := false }, kinds := [], alts := [], laidByText := true, laidKinds := [.data, .pinned], laidTests := true, laidLooks := .later }
def FnReadSettingsUptoCardSaid : Prop := Claim7.holds Tryd.pinned (.plain (OpenSpec.upto fnReadSettingsSpec)) fnReadSettingsUptoCard
end Rows
end Go.Proofs.YtekmfphlccomaaaDoor
