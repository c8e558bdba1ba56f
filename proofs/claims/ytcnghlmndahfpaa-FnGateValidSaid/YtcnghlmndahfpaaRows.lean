/-
  No cell of these rows narrows 'for every input' (looked for: loops, veiled, ifaces, maps, wideKeys, modest, calm, conditions, laid).
  DERIVED. THE GIVEN ROWS OF THIS SEAT. 6 by the template 'for every input the law returns true; each argument reads behind the call as it read before'; 0 by the template 'total and deterministic' (their statements: YtcnghlmndahfpaaTotals.lean).
  GIVEN WITH THE SEED: the statements are not yours to turn. If you find one false, say at which input.
  Laid BY PROGRAM, IN A SANDBOX (cutbox-rows.mjs): the forced cells as the released guide's own fill.sh prints them over the translation ce953b9351480d85… (all of the seat's roots in one cut). By AI agents, Wed Nov 11 2026. No macro, syntax, notation, axiom, sorry.
-/
import Derived.Test.YtcnghlmndahfpaaChecked
import GoSem.Claim
import GoSem.ClaimJoined
import GoSem.ClaimMapViews
import Derived.JoinedTies
import Derived.KernelRfl
namespace Go.Proofs.Ytcnghlmndahfpaa
/- THE CELL 'sum', in the pinned program and in every row, IS THE sha256 OF THE DUMP (.gsa) THAT YtcnghlmndahfpaaProg.lean LOADS. Nothing in Lean hashes anything: it is a label: what it is worth is what the hold of that sum in a sandbox is worth. -/
noncomputable def Try.pinned : Pinned := { name := "ytcnghlmndahfpaa", sum := "ce953b9351480d8599f1cbfb1746ab9f9c883ca4d1abda92da70aaa5138a9490", checked := Try.checked }
namespace Rows
def none {H : Type} : Left H := { results := [], args := [] }

/-- 'laws.FnExactGateValid': WHATEVER THE INPUT: true; the input reads as it did. -/
def fnExactGateValidSpec : ChangeSpec := { name := "fnExactGateValid", fn := fun _ => fun
  | [d] => { results := [.lit (.bool true)], args := [d] }
  | _ => none }
def fnExactGateValidRow : OpenClaim := { program := "ytcnghlmndahfpaa", sum := "ce953b9351480d8599f1cbfb1746ab9f9c883ca4d1abda92da70aaa5138a9490", func := "loop.example/userspaces/laws.FnExactGateValid", spec := "fnExactGateValid", apart := false }
def FnExactGateValidSaid : Prop := fnExactGateValidRow.holds Try.pinned (OpenSpec.ofChange fnExactGateValidSpec)

/-- ITS FALSE NEIGHBOUR: 'it returns false'. Refute it at one input. -/
def fnExactGateValidWrong : ChangeSpec := { name := "fnExactGateValid", fn := fun _ => fun
  | [d] => { results := [.lit (.bool false)], args := [d] }
  | _ => none }
def FnExactGateValidWrongFalsely : Prop := fnExactGateValidRow.holds Try.pinned (OpenSpec.ofChange fnExactGateValidWrong)

/-- 'laws.FnGateValid': WHATEVER THE INPUT: true; the input reads as it did. -/
def fnGateValidSpec : ChangeSpec := { name := "fnGateValid", fn := fun _ => fun
  | [d] => { results := [.lit (.bool true)], args := [d] }
  | _ => none }
def fnGateValidRow : OpenClaim := { program := "ytcnghlmndahfpaa", sum := "ce953b9351480d8599f1cbfb1746ab9f9c883ca4d1abda92da70aaa5138a9490", func := "loop.example/userspaces/laws.FnGateValid", spec := "fnGateValid", apart := false }
def FnGateValidSaid : Prop := fnGateValidRow.holds Try.pinned (OpenSpec.ofChange fnGateValidSpec)

/-- ITS FALSE NEIGHBOUR: 'it returns false'. Refute it at one input. -/
def fnGateValidWrong : ChangeSpec := { name := "fnGateValid", fn := fun _ => fun
  | [d] => { results := [.lit (.bool false)], args := [d] }
  | _ => none }
def FnGateValidWrongFalsely : Prop := fnGateValidRow.holds Try.pinned (OpenSpec.ofChange fnGateValidWrong)

/-- 'laws.FnExactEnterGate': WHATEVER THE INPUT: true; the input reads as it did. -/
def fnExactEnterGateSpec : ChangeSpec := { name := "fnExactEnterGate", fn := fun _ => fun
  | [d1, d2] => { results := [.lit (.bool true)], args := [d1, d2] }
  | _ => none }
def fnExactEnterGateRow : OpenClaim := { program := "ytcnghlmndahfpaa", sum := "ce953b9351480d8599f1cbfb1746ab9f9c883ca4d1abda92da70aaa5138a9490", func := "loop.example/userspaces/laws.FnExactEnterGate", spec := "fnExactEnterGate", apart := false }
def FnExactEnterGateSaid : Prop := fnExactEnterGateRow.holds Try.pinned (OpenSpec.ofChange fnExactEnterGateSpec)

/-- ITS FALSE NEIGHBOUR: 'it returns false'. Refute it at one input. -/
def fnExactEnterGateWrong : ChangeSpec := { name := "fnExactEnterGate", fn := fun _ => fun
  | [d1, d2] => { results := [.lit (.bool false)], args := [d1, d2] }
  | _ => none }
def FnExactEnterGateWrongFalsely : Prop := fnExactEnterGateRow.holds Try.pinned (OpenSpec.ofChange fnExactEnterGateWrong)

/-- 'laws.FnExactLeaveGate': WHATEVER THE INPUT: true; the input reads as it did. -/
def fnExactLeaveGateSpec : ChangeSpec := { name := "fnExactLeaveGate", fn := fun _ => fun
  | [d] => { results := [.lit (.bool true)], args := [d] }
  | _ => none }
def fnExactLeaveGateRow : OpenClaim := { program := "ytcnghlmndahfpaa", sum := "ce953b9351480d8599f1cbfb1746ab9f9c883ca4d1abda92da70aaa5138a9490", func := "loop.example/userspaces/laws.FnExactLeaveGate", spec := "fnExactLeaveGate", apart := false }
def FnExactLeaveGateSaid : Prop := fnExactLeaveGateRow.holds Try.pinned (OpenSpec.ofChange fnExactLeaveGateSpec)

/-- ITS FALSE NEIGHBOUR: 'it returns false'. Refute it at one input. -/
def fnExactLeaveGateWrong : ChangeSpec := { name := "fnExactLeaveGate", fn := fun _ => fun
  | [d] => { results := [.lit (.bool false)], args := [d] }
  | _ => none }
def FnExactLeaveGateWrongFalsely : Prop := fnExactLeaveGateRow.holds Try.pinned (OpenSpec.ofChange fnExactLeaveGateWrong)

/-- 'laws.FnEnterGate': WHATEVER THE INPUT: true; the input reads as it did. -/
def fnEnterGateSpec : ChangeSpec := { name := "fnEnterGate", fn := fun _ => fun
  | [d] => { results := [.lit (.bool true)], args := [d] }
  | _ => none }
def fnEnterGateRow : OpenClaim := { program := "ytcnghlmndahfpaa", sum := "ce953b9351480d8599f1cbfb1746ab9f9c883ca4d1abda92da70aaa5138a9490", func := "loop.example/userspaces/laws.FnEnterGate", spec := "fnEnterGate", apart := false }
def FnEnterGateSaid : Prop := fnEnterGateRow.holds Try.pinned (OpenSpec.ofChange fnEnterGateSpec)

/-- ITS FALSE NEIGHBOUR: 'it returns false'. Refute it at one input. -/
def fnEnterGateWrong : ChangeSpec := { name := "fnEnterGate", fn := fun _ => fun
  | [d] => { results := [.lit (.bool false)], args := [d] }
  | _ => none }
def FnEnterGateWrongFalsely : Prop := fnEnterGateRow.holds Try.pinned (OpenSpec.ofChange fnEnterGateWrong)

/-- 'laws.FnLeaveGate': WHATEVER THE INPUT: true; the input reads as it did. -/
def fnLeaveGateSpec : ChangeSpec := { name := "fnLeaveGate", fn := fun _ => fun
  | [d] => { results := [.lit (.bool true)], args := [d] }
  | _ => none }
def fnLeaveGateRow : OpenClaim := { program := "ytcnghlmndahfpaa", sum := "ce953b9351480d8599f1cbfb1746ab9f9c883ca4d1abda92da70aaa5138a9490", func := "loop.example/userspaces/laws.FnLeaveGate", spec := "fnLeaveGate", apart := false }
def FnLeaveGateSaid : Prop := fnLeaveGateRow.holds Try.pinned (OpenSpec.ofChange fnLeaveGateSpec)

/-- ITS FALSE NEIGHBOUR: 'it returns false'. Refute it at one input. -/
def fnLeaveGateWrong : ChangeSpec := { name := "fnLeaveGate", fn := fun _ => fun
  | [d] => { results := [.lit (.bool false)], args := [d] }
  | _ => none }
def FnLeaveGateWrongFalsely : Prop := fnLeaveGateRow.holds Try.pinned (OpenSpec.ofChange fnLeaveGateWrong)

/- THE SECOND FORM. 'bulk': how many values and letters a reading holds, each counted each time it is reached (what is shared counts as often as it is met; a slice's spare places count too). A statement '..UptoSaid' is the law's where the arguments, and the package variables that the reading takes, are together of bulk at most 1048576: NARROWER than '..Said'. Prove '..Said' where nothing that the law and all that it calls make is longer than what came in: it says more and counts as full. Else prove '..UptoSaid'. A law counts once. -/
mutual
def uptoBulk {H : Type} : DataW H → Nat
  | .lit (.string bytes) => bytes.length + 1
  | .lit _ => 1
  | .nil => 1
  | .ptr d => uptoBulk d + 1
  | .slice elems spare => uptoBulkAll elems + uptoBulkAll spare + 1
  | .agg parts => uptoBulkAll parts + 1
  | .iface _ d => uptoBulk d + 1
  | .map entries => uptoBulkEntries entries + 1
  | .held _ => 1
def uptoBulkAll {H : Type} : List (DataW H) → Nat
  | [] => 0
  | d :: r => uptoBulk d + uptoBulkAll r
def uptoBulkEntries {H : Type} : List (Lit × DataW H) → Nat
  | [] => 0
  | x :: r => uptoBulkEntry x + uptoBulkEntries r
def uptoBulkEntry {H : Type} : Lit × DataW H → Nat
  | (.string bytes, d) => bytes.length + uptoBulk d + 1
  | (_, d) => uptoBulk d + 1
 end
def uptoSmall : (H : Type) → List (DataW H) → Bool := fun _ ds => decide (uptoBulkAll ds ≤ 1048576)
def OpenSpec.upto (s : _root_.Go.ChangeSpec) : _root_.Go.OpenSpec := { _root_.Go.OpenSpec.ofChange s with cond := some uptoSmall }

/-- 'laws.FnExactGateValid', WHERE WHAT IT READS IS OF BULK AT MOST 1048576: true; the input reads as it did. -/
def fnExactGateValidUptoRow : OpenClaim := { program := "ytcnghlmndahfpaa", sum := "ce953b9351480d8599f1cbfb1746ab9f9c883ca4d1abda92da70aaa5138a9490", func := "loop.example/userspaces/laws.FnExactGateValid", spec := "fnExactGateValid", apart := false, narrowed := true }
def FnExactGateValidUptoSaid : Prop := fnExactGateValidUptoRow.holds Try.pinned (OpenSpec.upto fnExactGateValidSpec)

/-- 'laws.FnGateValid', WHERE WHAT IT READS IS OF BULK AT MOST 1048576: true; the input reads as it did. -/
def fnGateValidUptoRow : OpenClaim := { program := "ytcnghlmndahfpaa", sum := "ce953b9351480d8599f1cbfb1746ab9f9c883ca4d1abda92da70aaa5138a9490", func := "loop.example/userspaces/laws.FnGateValid", spec := "fnGateValid", apart := false, narrowed := true }
def FnGateValidUptoSaid : Prop := fnGateValidUptoRow.holds Try.pinned (OpenSpec.upto fnGateValidSpec)

/-- 'laws.FnExactEnterGate', WHERE WHAT IT READS IS OF BULK AT MOST 1048576: true; the input reads as it did. -/
def fnExactEnterGateUptoRow : OpenClaim := { program := "ytcnghlmndahfpaa", sum := "ce953b9351480d8599f1cbfb1746ab9f9c883ca4d1abda92da70aaa5138a9490", func := "loop.example/userspaces/laws.FnExactEnterGate", spec := "fnExactEnterGate", apart := false, narrowed := true }
def FnExactEnterGateUptoSaid : Prop := fnExactEnterGateUptoRow.holds Try.pinned (OpenSpec.upto fnExactEnterGateSpec)

/-- 'laws.FnExactLeaveGate', WHERE WHAT IT READS IS OF BULK AT MOST 1048576: true; the input reads as it did. -/
def fnExactLeaveGateUptoRow : OpenClaim := { program := "ytcnghlmndahfpaa", sum := "ce953b9351480d8599f1cbfb1746ab9f9c883ca4d1abda92da70aaa5138a9490", func := "loop.example/userspaces/laws.FnExactLeaveGate", spec := "fnExactLeaveGate", apart := false, narrowed := true }
def FnExactLeaveGateUptoSaid : Prop := fnExactLeaveGateUptoRow.holds Try.pinned (OpenSpec.upto fnExactLeaveGateSpec)

/-- 'laws.FnEnterGate', WHERE WHAT IT READS IS OF BULK AT MOST 1048576: true; the input reads as it did. -/
def fnEnterGateUptoRow : OpenClaim := { program := "ytcnghlmndahfpaa", sum := "ce953b9351480d8599f1cbfb1746ab9f9c883ca4d1abda92da70aaa5138a9490", func := "loop.example/userspaces/laws.FnEnterGate", spec := "fnEnterGate", apart := false, narrowed := true }
def FnEnterGateUptoSaid : Prop := fnEnterGateUptoRow.holds Try.pinned (OpenSpec.upto fnEnterGateSpec)

/-- 'laws.FnLeaveGate', WHERE WHAT IT READS IS OF BULK AT MOST 1048576: true; the input reads as it did. -/
def fnLeaveGateUptoRow : OpenClaim := { program := "ytcnghlmndahfpaa", sum := "ce953b9351480d8599f1cbfb1746ab9f9c883ca4d1abda92da70aaa5138a9490", func := "loop.example/userspaces/laws.FnLeaveGate", spec := "fnLeaveGate", apart := false, narrowed := true }
def FnLeaveGateUptoSaid : Prop := fnLeaveGateUptoRow.holds Try.pinned (OpenSpec.upto fnLeaveGateSpec)

end Rows
end Go.Proofs.Ytcnghlmndahfpaa
