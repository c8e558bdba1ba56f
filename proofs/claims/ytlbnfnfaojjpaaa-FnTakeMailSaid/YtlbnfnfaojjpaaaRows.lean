/-
  No cell of these rows narrows 'for every input' (looked for: loops, veiled, ifaces, maps, wideKeys, modest, calm, conditions, laid).
  DERIVED. THE GIVEN ROWS OF THIS SEAT. 6 by the template 'for every input the law returns true; each argument reads behind the call as it read before'; 0 by the template 'total and deterministic' (their statements: YtlbnfnfaojjpaaaTotals.lean).
  GIVEN WITH THE SEED: the statements are not yours to turn. If you find one false, say at which input.
  Laid BY PROGRAM, IN A SANDBOX (cutbox-rows.mjs): the forced cells as the released guide's own fill.sh prints them over the translation be1fdab5401a4bdf… (all of the seat's roots in one cut). By AI agents, Wed Nov 11 2026. No macro, syntax, notation, axiom, sorry.
-/
import Derived.Test.YtlbnfnfaojjpaaaChecked
import GoSem.Claim
import GoSem.ClaimJoined
import GoSem.ClaimMapViews
import Derived.JoinedTies
import Derived.KernelRfl
namespace Go.Proofs.Ytlbnfnfaojjpaaa
/- THE CELL 'sum', in the pinned program and in every row, IS THE sha256 OF THE DUMP (.gsa) THAT YtlbnfnfaojjpaaaProg.lean LOADS. Nothing in Lean hashes anything: it is a label: what it is worth is what the hold of that sum in a sandbox is worth. -/
noncomputable def Try.pinned : Pinned := { name := "ytlbnfnfaojjpaaa", sum := "be1fdab5401a4bdf312bbdf5cedf57484b3c4a7ee651c3d92253fa213065ec01", checked := Try.checked }
namespace Rows
def none {H : Type} : Left H := { results := [], args := [] }

/-- 'laws.FnMailsValid': WHATEVER THE INPUT: true; the input reads as it did. -/
def fnMailsValidSpec : ChangeSpec := { name := "fnMailsValid", fn := fun _ => fun
  | [d] => { results := [.lit (.bool true)], args := [d] }
  | _ => none }
def fnMailsValidRow : OpenClaim := { program := "ytlbnfnfaojjpaaa", sum := "be1fdab5401a4bdf312bbdf5cedf57484b3c4a7ee651c3d92253fa213065ec01", func := "loop.example/userspaces/laws.FnMailsValid", spec := "fnMailsValid", unfollowed := true, recurses := true, apart := false }
def FnMailsValidSaid : Prop := fnMailsValidRow.holds Try.pinned (OpenSpec.ofChange fnMailsValidSpec)

/-- ITS FALSE NEIGHBOUR: 'it returns false'. Refute it at one input. -/
def fnMailsValidWrong : ChangeSpec := { name := "fnMailsValid", fn := fun _ => fun
  | [d] => { results := [.lit (.bool false)], args := [d] }
  | _ => none }
def FnMailsValidWrongFalsely : Prop := fnMailsValidRow.holds Try.pinned (OpenSpec.ofChange fnMailsValidWrong)

/-- 'laws.FnExactMailsValid': WHATEVER THE INPUT: true; the input reads as it did. -/
def fnExactMailsValidSpec : ChangeSpec := { name := "fnExactMailsValid", fn := fun _ => fun
  | [d] => { results := [.lit (.bool true)], args := [d] }
  | _ => none }
def fnExactMailsValidRow : OpenClaim := { program := "ytlbnfnfaojjpaaa", sum := "be1fdab5401a4bdf312bbdf5cedf57484b3c4a7ee651c3d92253fa213065ec01", func := "loop.example/userspaces/laws.FnExactMailsValid", spec := "fnExactMailsValid", unfollowed := true, recurses := true, apart := false }
def FnExactMailsValidSaid : Prop := fnExactMailsValidRow.holds Try.pinned (OpenSpec.ofChange fnExactMailsValidSpec)

/-- ITS FALSE NEIGHBOUR: 'it returns false'. Refute it at one input. -/
def fnExactMailsValidWrong : ChangeSpec := { name := "fnExactMailsValid", fn := fun _ => fun
  | [d] => { results := [.lit (.bool false)], args := [d] }
  | _ => none }
def FnExactMailsValidWrongFalsely : Prop := fnExactMailsValidRow.holds Try.pinned (OpenSpec.ofChange fnExactMailsValidWrong)

/-- 'laws.FnExactPutMail': WHATEVER THE INPUT: true; the input reads as it did. -/
def fnExactPutMailSpec : ChangeSpec := { name := "fnExactPutMail", fn := fun _ => fun
  | [d1, d2] => { results := [.lit (.bool true)], args := [d1, d2] }
  | _ => none }
def fnExactPutMailRow : OpenClaim := { program := "ytlbnfnfaojjpaaa", sum := "be1fdab5401a4bdf312bbdf5cedf57484b3c4a7ee651c3d92253fa213065ec01", func := "loop.example/userspaces/laws.FnExactPutMail", spec := "fnExactPutMail", unfollowed := true, recurses := true, apart := false }
def FnExactPutMailSaid : Prop := fnExactPutMailRow.holds Try.pinned (OpenSpec.ofChange fnExactPutMailSpec)

/-- ITS FALSE NEIGHBOUR: 'it returns false'. Refute it at one input. -/
def fnExactPutMailWrong : ChangeSpec := { name := "fnExactPutMail", fn := fun _ => fun
  | [d1, d2] => { results := [.lit (.bool false)], args := [d1, d2] }
  | _ => none }
def FnExactPutMailWrongFalsely : Prop := fnExactPutMailRow.holds Try.pinned (OpenSpec.ofChange fnExactPutMailWrong)

/-- 'laws.FnTakeMail': WHATEVER THE INPUT: true; the input reads as it did. -/
def fnTakeMailSpec : ChangeSpec := { name := "fnTakeMail", fn := fun _ => fun
  | [d] => { results := [.lit (.bool true)], args := [d] }
  | _ => none }
def fnTakeMailRow : OpenClaim := { program := "ytlbnfnfaojjpaaa", sum := "be1fdab5401a4bdf312bbdf5cedf57484b3c4a7ee651c3d92253fa213065ec01", func := "loop.example/userspaces/laws.FnTakeMail", spec := "fnTakeMail", unfollowed := true, recurses := true, apart := false }
def FnTakeMailSaid : Prop := fnTakeMailRow.holds Try.pinned (OpenSpec.ofChange fnTakeMailSpec)

/-- ITS FALSE NEIGHBOUR: 'it returns false'. Refute it at one input. -/
def fnTakeMailWrong : ChangeSpec := { name := "fnTakeMail", fn := fun _ => fun
  | [d] => { results := [.lit (.bool false)], args := [d] }
  | _ => none }
def FnTakeMailWrongFalsely : Prop := fnTakeMailRow.holds Try.pinned (OpenSpec.ofChange fnTakeMailWrong)

/-- 'laws.FnPutMail': WHATEVER THE INPUT: true; the input reads as it did. -/
def fnPutMailSpec : ChangeSpec := { name := "fnPutMail", fn := fun _ => fun
  | [d] => { results := [.lit (.bool true)], args := [d] }
  | _ => none }
def fnPutMailRow : OpenClaim := { program := "ytlbnfnfaojjpaaa", sum := "be1fdab5401a4bdf312bbdf5cedf57484b3c4a7ee651c3d92253fa213065ec01", func := "loop.example/userspaces/laws.FnPutMail", spec := "fnPutMail", unfollowed := true, recurses := true, apart := false }
def FnPutMailSaid : Prop := fnPutMailRow.holds Try.pinned (OpenSpec.ofChange fnPutMailSpec)

/-- ITS FALSE NEIGHBOUR: 'it returns false'. Refute it at one input. -/
def fnPutMailWrong : ChangeSpec := { name := "fnPutMail", fn := fun _ => fun
  | [d] => { results := [.lit (.bool false)], args := [d] }
  | _ => none }
def FnPutMailWrongFalsely : Prop := fnPutMailRow.holds Try.pinned (OpenSpec.ofChange fnPutMailWrong)

/-- 'laws.FnExactTakeMail': WHATEVER THE INPUT: true; the input reads as it did. -/
def fnExactTakeMailSpec : ChangeSpec := { name := "fnExactTakeMail", fn := fun _ => fun
  | [d1, d2] => { results := [.lit (.bool true)], args := [d1, d2] }
  | _ => none }
def fnExactTakeMailRow : OpenClaim := { program := "ytlbnfnfaojjpaaa", sum := "be1fdab5401a4bdf312bbdf5cedf57484b3c4a7ee651c3d92253fa213065ec01", func := "loop.example/userspaces/laws.FnExactTakeMail", spec := "fnExactTakeMail", unfollowed := true, recurses := true, apart := false }
def FnExactTakeMailSaid : Prop := fnExactTakeMailRow.holds Try.pinned (OpenSpec.ofChange fnExactTakeMailSpec)

/-- ITS FALSE NEIGHBOUR: 'it returns false'. Refute it at one input. -/
def fnExactTakeMailWrong : ChangeSpec := { name := "fnExactTakeMail", fn := fun _ => fun
  | [d1, d2] => { results := [.lit (.bool false)], args := [d1, d2] }
  | _ => none }
def FnExactTakeMailWrongFalsely : Prop := fnExactTakeMailRow.holds Try.pinned (OpenSpec.ofChange fnExactTakeMailWrong)

/- THE SECOND FORM. 'bulk': how many values and letters a reading holds, each counted each time it is reached (what is shared counts as often as it is met; a slice's spare places count too). A statement '..UptoSaid' is the law's where the arguments, and the package variables that the reading takes, are together of bulk at most 1048576: NARROWER than '..Said'. Prove '..Said' where nothing that the law and all that it calls make is longer than what came in: it says more and counts as full. Else prove '..UptoSaid'. A law counts once. -/
mutual
def uptoBulk {H : Type} : DataW H → Nat
  | .lit (.string bytes) => bytes.length + 1
  | .lit _ => 1
  | .nil => 1
  | .ptr d => uptoBulk d + 1
  | .slice elems spare => uptoBulkAll elems + uptoBulkAll spare + 1
  | .agg parts => uptoBulkAll parts + 1
  | .iface _ d => uptoBulk d + 1
  | .map entries => uptoBulkEntries entries + 1
  | .held _ => 1
def uptoBulkAll {H : Type} : List (DataW H) → Nat
  | [] => 0
  | d :: r => uptoBulk d + uptoBulkAll r
def uptoBulkEntries {H : Type} : List (Lit × DataW H) → Nat
  | [] => 0
  | x :: r => uptoBulkEntry x + uptoBulkEntries r
def uptoBulkEntry {H : Type} : Lit × DataW H → Nat
  | (.string bytes, d) => bytes.length + uptoBulk d + 1
  | (_, d) => uptoBulk d + 1
 end
def uptoSmall : (H : Type) → List (DataW H) → Bool := fun _ ds => decide (uptoBulkAll ds ≤ 1048576)
def OpenSpec.upto (s : _root_.Go.ChangeSpec) : _root_.Go.OpenSpec := { _root_.Go.OpenSpec.ofChange s with cond := some uptoSmall }

/-- 'laws.FnMailsValid', WHERE WHAT IT READS IS OF BULK AT MOST 1048576: true; the input reads as it did. -/
def fnMailsValidUptoRow : OpenClaim := { program := "ytlbnfnfaojjpaaa", sum := "be1fdab5401a4bdf312bbdf5cedf57484b3c4a7ee651c3d92253fa213065ec01", func := "loop.example/userspaces/laws.FnMailsValid", spec := "fnMailsValid", unfollowed := true, recurses := true, apart := false, narrowed := true }
def FnMailsValidUptoSaid : Prop := fnMailsValidUptoRow.holds Try.pinned (OpenSpec.upto fnMailsValidSpec)

/-- 'laws.FnExactMailsValid', WHERE WHAT IT READS IS OF BULK AT MOST 1048576: true; the input reads as it did. -/
def fnExactMailsValidUptoRow : OpenClaim := { program := "ytlbnfnfaojjpaaa", sum := "be1fdab5401a4bdf312bbdf5cedf57484b3c4a7ee651c3d92253fa213065ec01", func := "loop.example/userspaces/laws.FnExactMailsValid", spec := "fnExactMailsValid", unfollowed := true, recurses := true, apart := false, narrowed := true }
def FnExactMailsValidUptoSaid : Prop := fnExactMailsValidUptoRow.holds Try.pinned (OpenSpec.upto fnExactMailsValidSpec)

/-- 'laws.FnExactPutMail', WHERE WHAT IT READS IS OF BULK AT MOST 1048576: true; the input reads as it did. -/
def fnExactPutMailUptoRow : OpenClaim := { program := "ytlbnfnfaojjpaaa", sum := "be1fdab5401a4bdf312bbdf5cedf57484b3c4a7ee651c3d92253fa213065ec01", func := "loop.example/userspaces/laws.FnExactPutMail", spec := "fnExactPutMail", unfollowed := true, recurses := true, apart := false, narrowed := true }
def FnExactPutMailUptoSaid : Prop := fnExactPutMailUptoRow.holds Try.pinned (OpenSpec.upto fnExactPutMailSpec)

/-- 'laws.FnTakeMail', WHERE WHAT IT READS IS OF BULK AT MOST 1048576: true; the input reads as it did. -/
def fnTakeMailUptoRow : OpenClaim := { program := "ytlbnfnfaojjpaaa", sum := "be1fdab5401a4bdf312bbdf5cedf57484b3c4a7ee651c3d92253fa213065ec01", func := "loop.example/userspaces/laws.FnTakeMail", spec := "fnTakeMail", unfollowed := true, recurses := true, apart := false, narrowed := true }
def FnTakeMailUptoSaid : Prop := fnTakeMailUptoRow.holds Try.pinned (OpenSpec.upto fnTakeMailSpec)

/-- 'laws.FnPutMail', WHERE WHAT IT READS IS OF BULK AT MOST 1048576: true; the input reads as it did. -/
def fnPutMailUptoRow : OpenClaim := { program := "ytlbnfnfaojjpaaa", sum := "be1fdab5401a4bdf312bbdf5cedf57484b3c4a7ee651c3d92253fa213065ec01", func := "loop.example/userspaces/laws.FnPutMail", spec := "fnPutMail", unfollowed := true, recurses := true, apart := false, narrowed := true }
def FnPutMailUptoSaid : Prop := fnPutMailUptoRow.holds Try.pinned (OpenSpec.upto fnPutMailSpec)

/-- 'laws.FnExactTakeMail', WHERE WHAT IT READS IS OF BULK AT MOST 1048576: true; the input reads as it did. -/
def fnExactTakeMailUptoRow : OpenClaim := { program := "ytlbnfnfaojjpaaa", sum := "be1fdab5401a4bdf312bbdf5cedf57484b3c4a7ee651c3d92253fa213065ec01", func := "loop.example/userspaces/laws.FnExactTakeMail", spec := "fnExactTakeMail", unfollowed := true, recurses := true, apart := false, narrowed := true }
def FnExactTakeMailUptoSaid : Prop := fnExactTakeMailUptoRow.holds Try.pinned (OpenSpec.upto fnExactTakeMailSpec)

end Rows
end Go.Proofs.Ytlbnfnfaojjpaaa
