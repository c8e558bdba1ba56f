/-
  DERIVED. GIVEN WITH THE SEED: THE CARDS: each row of YtnibbldfohbfkaaGreatDoorRows.lean that lists a variable, with what it lists TIED to the program's text (the seventh form; the later family's looks); each row that meets fmt, with fmt's text TOLD by the authors' own Lean function (tested against real Go, not proved from fmt's source: count such statements apart). THE CARD IS WHAT COUNTS. Prove the row's statement (the work); the ties are given (YtnibbldfohbfkaaGreatDoorTie.lean); close each card by the builder's one call (the guide's Derived/Test/ToyasCard.lean, 'card_holds'). Laid BY PROGRAM, IN A SANDBOX (cutbox-door.mjs). By AI agents, Wed Nov 11 2026. No macro, syntax, notation, axiom, sorry.
-/
import Derived.Test.YtnibbldfohbfkaaGreatDoorRows
import GoSem.ClaimSeven
namespace Go.Proofs.YtnibbldfohbfkaaGreatDoor
namespace Rows

/-- THE TIED CARD OF 'laws.FnExactCallLine'. -/
def fnExactCallLineCard : Claim7 := { stood := { row := fnExactCallLineRow, standIns := [], harness := (true, "8145477ae8edc14bff9d8d1b452ee3239b57e774fe05c38056aa3212d8f66624"), looks := false }, kinds := [], alts := [], laidByText := true, laidKinds := [.data, .pinned], laidTests := true, laidLooks := .later }
def FnExactCallLineCardSaid : Prop := Claim7.holds Tryz.pinned (.plain (OpenSpec.ofChange fnExactCallLineSpec)) fnExactCallLineCard

/-- THE TIED CARD OF 'laws.FnCallLines'. -/
def fnCallLinesCard : Claim7 := { stood := { row := fnCallLinesRow, standIns := [], harness := (true, "8145477ae8edc14bff9d8d1b452ee3239b57e774fe05c38056aa3212d8f66624"), looks := false }, kinds := [], alts := [], laidByText := true, laidKinds := [.data, .pinned], laidTests := true, laidLooks := .later }
def FnCallLinesCardSaid : Prop := Claim7.holds Tryz.pinned (.plain (OpenSpec.ofChange fnCallLinesSpec)) fnCallLinesCard

/-- THE TIED CARD OF 'laws.FnExactCallLines'. -/
def fnExactCallLinesCard : Claim7 := { stood := { row := fnExactCallLinesRow, standIns := [], harness := (true, "8145477ae8edc14bff9d8d1b452ee3239b57e774fe05c38056aa3212d8f66624"), looks := false }, kinds := [], alts := [], laidByText := true, laidKinds := [.data, .pinned], laidTests := true, laidLooks := .later }
def FnExactCallLinesCardSaid : Prop := Claim7.holds Tryz.pinned (.plain (OpenSpec.ofChange fnExactCallLinesSpec)) fnExactCallLinesCard

/-- THE TIED CARD OF 'laws.FnCallLine'. -/
def fnCallLineCard : Claim7 := { stood := { row := fnCallLineRow, standIns := [], harness := (true, "8145477ae8edc14bff9d8d1b452ee3239b57e774fe05c38056aa3212d8f66624"), looks := false }, kinds := [], alts := [], laidByText := true, laidKinds := [.data, .pinned], laidTests := true, laidLooks := .later }
def FnCallLineCardSaid : Prop := Claim7.holds Tryz.pinned (.plain (OpenSpec.ofChange fnCallLineSpec)) fnCallLineCard

/-- THE SECOND FORM's CARD OF 'laws.FnExactCallLine'. -/
def fnExactCallLineUptoCard : Claim7 := { stood := { row := fnExactCallLineUptoRow, standIns := [], harness := (true, "8145477ae8edc14bff9d8d1b452ee3239b57e774fe05c38056aa3212d8f66624"), looks := false }, kinds := [], alts := [], laidByText := true, laidKinds := [.data, .pinned], laidTests := true, laidLooks := .later }
def FnExactCallLineUptoCardSaid : Prop := Claim7.holds Tryz.pinned (.plain (OpenSpec.upto fnExactCallLineSpec)) fnExactCallLineUptoCard

/-- THE SECOND FORM's CARD OF 'laws.FnCallLines'. -/
def fnCallLinesUptoCard : Claim7 := { stood := { row := fnCallLinesUptoRow, standIns := [], harness := (true, "8145477ae8edc14bff9d8d1b452ee3239b57e774fe05c38056aa3212d8f66624"), looks := false }, kinds := [], alts := [], laidByText := true, laidKinds := [.data, .pinned], laidTests := true, laidLooks := .later }
def FnCallLinesUptoCardSaid : Prop := Claim7.holds Tryz.pinned (.plain (OpenSpec.upto fnCallLinesSpec)) fnCallLinesUptoCard

/-- THE SECOND FORM's CARD OF 'laws.FnExactCallLines'. -/
def fnExactCallLinesUptoCard : Claim7 := { stood := { row := fnExactCallLinesUptoRow, standIns := [], harness := (true, "8145477ae8edc14bff9d8d1b452ee3239b57e774fe05c38056aa3212d8f66624"), looks := false }, kinds := [], alts := [], laidByText := true, laidKinds := [.data, .pinned], laidTests := true, laidLooks := .later }
def FnExactCallLinesUptoCardSaid : Prop := Claim7.holds Tryz.pinned (.plain (OpenSpec.upto fnExactCallLinesSpec)) fnExactCallLinesUptoCard

/-- THE SECOND FORM's CARD OF 'laws.FnCallLine'. -/
def fnCallLineUptoCard : Claim7 := { stood := { row := fnCallLineUptoRow, standIns := [], harness := (true, "8145477ae8edc14bff9d8d1b452ee3239b57e774fe05c38056aa3212d8f66624"), looks := false }, kinds := [], alts := [], laidByText := true, laidKinds := [.data, .pinned], laidTests := true, laidLooks := .later }
def FnCallLineUptoCardSaid : Prop := Claim7.holds Tryz.pinned (.plain (OpenSpec.upto fnCallLineSpec)) fnCallLineUptoCard
end Rows
end Go.Proofs.YtnibbldfohbfkaaGreatDoor
