/-
  No cell of these rows narrows 'for every input' (looked for: loops, veiled, ifaces, maps, wideKeys, modest, calm, conditions, laid).
  DERIVED. THE GIVEN ROWS OF THIS SEAT. 8 by the template 'for every input the law returns true; each argument reads behind the call as it read before'; 0 by the template 'total and deterministic' (their statements: YtlmelknadappbaaTotals.lean).
  GIVEN WITH THE SEED: the statements are not yours to turn. If you find one false, say at which input.
  Laid BY PROGRAM, IN A SANDBOX (cutbox-rows.mjs): the forced cells as the released guide's own fill.sh prints them over the translation 052367b3dab8d0a5… (all of the seat's roots in one cut). By AI agents, Wed Nov 11 2026. No macro, syntax, notation, axiom, sorry.
-/
import Derived.Test.YtlmelknadappbaaChecked
import GoSem.Claim
import GoSem.ClaimJoined
import GoSem.ClaimMapViews
import Derived.JoinedTies
import Derived.KernelRfl
namespace Go.Proofs.Ytlmelknadappbaa
/- THE CELL 'sum', in the pinned program and in every row, IS THE sha256 OF THE DUMP (.gsa) THAT YtlmelknadappbaaProg.lean LOADS. Nothing in Lean hashes anything: it is a label: what it is worth is what the hold of that sum in a sandbox is worth. -/
noncomputable def Try.pinned : Pinned := { name := "ytlmelknadappbaa", sum := "052367b3dab8d0a58fa94e064b5c80f075c9f9b76c09e16c60cd247354a3a7c1", checked := Try.checked }
namespace Rows
def none {H : Type} : Left H := { results := [], args := [] }

/-- 'laws.FnExactMembersValid': WHATEVER THE INPUT: true; the input reads as it did. -/
def fnExactMembersValidSpec : ChangeSpec := { name := "fnExactMembersValid", fn := fun _ => fun
  | [d] => { results := [.lit (.bool true)], args := [d] }
  | _ => none }
def fnExactMembersValidRow : OpenClaim := { program := "ytlmelknadappbaa", sum := "052367b3dab8d0a58fa94e064b5c80f075c9f9b76c09e16c60cd247354a3a7c1", func := "loop.example/userspaces/laws.FnExactMembersValid", spec := "fnExactMembersValid", unfollowed := true, recurses := true, apart := false }
def FnExactMembersValidSaid : Prop := fnExactMembersValidRow.holds Try.pinned (OpenSpec.ofChange fnExactMembersValidSpec)

/-- ITS FALSE NEIGHBOUR: 'it returns false'. Refute it at one input. -/
def fnExactMembersValidWrong : ChangeSpec := { name := "fnExactMembersValid", fn := fun _ => fun
  | [d] => { results := [.lit (.bool false)], args := [d] }
  | _ => none }
def FnExactMembersValidWrongFalsely : Prop := fnExactMembersValidRow.holds Try.pinned (OpenSpec.ofChange fnExactMembersValidWrong)

/-- 'laws.FnMembersValid': WHATEVER THE INPUT: true; the input reads as it did. -/
def fnMembersValidSpec : ChangeSpec := { name := "fnMembersValid", fn := fun _ => fun
  | [d] => { results := [.lit (.bool true)], args := [d] }
  | _ => none }
def fnMembersValidRow : OpenClaim := { program := "ytlmelknadappbaa", sum := "052367b3dab8d0a58fa94e064b5c80f075c9f9b76c09e16c60cd247354a3a7c1", func := "loop.example/userspaces/laws.FnMembersValid", spec := "fnMembersValid", unfollowed := true, recurses := true, apart := false }
def FnMembersValidSaid : Prop := fnMembersValidRow.holds Try.pinned (OpenSpec.ofChange fnMembersValidSpec)

/-- ITS FALSE NEIGHBOUR: 'it returns false'. Refute it at one input. -/
def fnMembersValidWrong : ChangeSpec := { name := "fnMembersValid", fn := fun _ => fun
  | [d] => { results := [.lit (.bool false)], args := [d] }
  | _ => none }
def FnMembersValidWrongFalsely : Prop := fnMembersValidRow.holds Try.pinned (OpenSpec.ofChange fnMembersValidWrong)

/-- 'laws.FnExactNewSession': WHATEVER THE INPUT: true; the input reads as it did. -/
def fnExactNewSessionSpec : ChangeSpec := { name := "fnExactNewSession", fn := fun _ => fun
  | [d1, d2] => { results := [.lit (.bool true)], args := [d1, d2] }
  | _ => none }
def fnExactNewSessionRow : OpenClaim := { program := "ytlmelknadappbaa", sum := "052367b3dab8d0a58fa94e064b5c80f075c9f9b76c09e16c60cd247354a3a7c1", func := "loop.example/userspaces/laws.FnExactNewSession", spec := "fnExactNewSession", unfollowed := true, recurses := true, apart := false }
def FnExactNewSessionSaid : Prop := fnExactNewSessionRow.holds Try.pinned (OpenSpec.ofChange fnExactNewSessionSpec)

/-- ITS FALSE NEIGHBOUR: 'it returns false'. Refute it at one input. -/
def fnExactNewSessionWrong : ChangeSpec := { name := "fnExactNewSession", fn := fun _ => fun
  | [d1, d2] => { results := [.lit (.bool false)], args := [d1, d2] }
  | _ => none }
def FnExactNewSessionWrongFalsely : Prop := fnExactNewSessionRow.holds Try.pinned (OpenSpec.ofChange fnExactNewSessionWrong)

/-- 'laws.FnExactJoinGroup': WHATEVER THE INPUT: true; the input reads as it did. -/
def fnExactJoinGroupSpec : ChangeSpec := { name := "fnExactJoinGroup", fn := fun _ => fun
  | [d1, d2, d3] => { results := [.lit (.bool true)], args := [d1, d2, d3] }
  | _ => none }
def fnExactJoinGroupRow : OpenClaim := { program := "ytlmelknadappbaa", sum := "052367b3dab8d0a58fa94e064b5c80f075c9f9b76c09e16c60cd247354a3a7c1", func := "loop.example/userspaces/laws.FnExactJoinGroup", spec := "fnExactJoinGroup", unfollowed := true, recurses := true, apart := false }
def FnExactJoinGroupSaid : Prop := fnExactJoinGroupRow.holds Try.pinned (OpenSpec.ofChange fnExactJoinGroupSpec)

/-- ITS FALSE NEIGHBOUR: 'it returns false'. Refute it at one input. -/
def fnExactJoinGroupWrong : ChangeSpec := { name := "fnExactJoinGroup", fn := fun _ => fun
  | [d1, d2, d3] => { results := [.lit (.bool false)], args := [d1, d2, d3] }
  | _ => none }
def FnExactJoinGroupWrongFalsely : Prop := fnExactJoinGroupRow.holds Try.pinned (OpenSpec.ofChange fnExactJoinGroupWrong)

/-- 'laws.FnNewSession': WHATEVER THE INPUT: true; the input reads as it did. -/
def fnNewSessionSpec : ChangeSpec := { name := "fnNewSession", fn := fun _ => fun
  | [d] => { results := [.lit (.bool true)], args := [d] }
  | _ => none }
def fnNewSessionRow : OpenClaim := { program := "ytlmelknadappbaa", sum := "052367b3dab8d0a58fa94e064b5c80f075c9f9b76c09e16c60cd247354a3a7c1", func := "loop.example/userspaces/laws.FnNewSession", spec := "fnNewSession", unfollowed := true, recurses := true, apart := false }
def FnNewSessionSaid : Prop := fnNewSessionRow.holds Try.pinned (OpenSpec.ofChange fnNewSessionSpec)

/-- ITS FALSE NEIGHBOUR: 'it returns false'. Refute it at one input. -/
def fnNewSessionWrong : ChangeSpec := { name := "fnNewSession", fn := fun _ => fun
  | [d] => { results := [.lit (.bool false)], args := [d] }
  | _ => none }
def FnNewSessionWrongFalsely : Prop := fnNewSessionRow.holds Try.pinned (OpenSpec.ofChange fnNewSessionWrong)

/-- 'laws.FnJoinGroup': WHATEVER THE INPUT: true; the input reads as it did. -/
def fnJoinGroupSpec : ChangeSpec := { name := "fnJoinGroup", fn := fun _ => fun
  | [d] => { results := [.lit (.bool true)], args := [d] }
  | _ => none }
def fnJoinGroupRow : OpenClaim := { program := "ytlmelknadappbaa", sum := "052367b3dab8d0a58fa94e064b5c80f075c9f9b76c09e16c60cd247354a3a7c1", func := "loop.example/userspaces/laws.FnJoinGroup", spec := "fnJoinGroup", unfollowed := true, recurses := true, apart := false }
def FnJoinGroupSaid : Prop := fnJoinGroupRow.holds Try.pinned (OpenSpec.ofChange fnJoinGroupSpec)

/-- ITS FALSE NEIGHBOUR: 'it returns false'. Refute it at one input. -/
def fnJoinGroupWrong : ChangeSpec := { name := "fnJoinGroup", fn := fun _ => fun
  | [d] => { results := [.lit (.bool false)], args := [d] }
  | _ => none }
def FnJoinGroupWrongFalsely : Prop := fnJoinGroupRow.holds Try.pinned (OpenSpec.ofChange fnJoinGroupWrong)

/-- 'laws.FnExactGroupsIn': WHATEVER THE INPUT: true; the input reads as it did. -/
def fnExactGroupsInSpec : ChangeSpec := { name := "fnExactGroupsIn", fn := fun _ => fun
  | [d1, d2] => { results := [.lit (.bool true)], args := [d1, d2] }
  | _ => none }
def fnExactGroupsInRow : OpenClaim := { program := "ytlmelknadappbaa", sum := "052367b3dab8d0a58fa94e064b5c80f075c9f9b76c09e16c60cd247354a3a7c1", func := "loop.example/userspaces/laws.FnExactGroupsIn", spec := "fnExactGroupsIn", unfollowed := true, recurses := true, apart := false }
def FnExactGroupsInSaid : Prop := fnExactGroupsInRow.holds Try.pinned (OpenSpec.ofChange fnExactGroupsInSpec)

/-- ITS FALSE NEIGHBOUR: 'it returns false'. Refute it at one input. -/
def fnExactGroupsInWrong : ChangeSpec := { name := "fnExactGroupsIn", fn := fun _ => fun
  | [d1, d2] => { results := [.lit (.bool false)], args := [d1, d2] }
  | _ => none }
def FnExactGroupsInWrongFalsely : Prop := fnExactGroupsInRow.holds Try.pinned (OpenSpec.ofChange fnExactGroupsInWrong)

/-- 'laws.FnGroupsIn': WHATEVER THE INPUT: true; the input reads as it did. -/
def fnGroupsInSpec : ChangeSpec := { name := "fnGroupsIn", fn := fun _ => fun
  | [d] => { results := [.lit (.bool true)], args := [d] }
  | _ => none }
def fnGroupsInRow : OpenClaim := { program := "ytlmelknadappbaa", sum := "052367b3dab8d0a58fa94e064b5c80f075c9f9b76c09e16c60cd247354a3a7c1", func := "loop.example/userspaces/laws.FnGroupsIn", spec := "fnGroupsIn", unfollowed := true, recurses := true, apart := false }
def FnGroupsInSaid : Prop := fnGroupsInRow.holds Try.pinned (OpenSpec.ofChange fnGroupsInSpec)

/-- ITS FALSE NEIGHBOUR: 'it returns false'. Refute it at one input. -/
def fnGroupsInWrong : ChangeSpec := { name := "fnGroupsIn", fn := fun _ => fun
  | [d] => { results := [.lit (.bool false)], args := [d] }
  | _ => none }
def FnGroupsInWrongFalsely : Prop := fnGroupsInRow.holds Try.pinned (OpenSpec.ofChange fnGroupsInWrong)

/- THE SECOND FORM. 'bulk': how many values and letters a reading holds, each counted each time it is reached (what is shared counts as often as it is met; a slice's spare places count too). A statement '..UptoSaid' is the law's where the arguments, and the package variables that the reading takes, are together of bulk at most 1048576: NARROWER than '..Said'. Prove '..Said' where nothing that the law and all that it calls make is longer than what came in: it says more and counts as full. Else prove '..UptoSaid'. A law counts once. -/
mutual
def uptoBulk {H : Type} : DataW H → Nat
  | .lit (.string bytes) => bytes.length + 1
  | .lit _ => 1
  | .nil => 1
  | .ptr d => uptoBulk d + 1
  | .slice elems spare => uptoBulkAll elems + uptoBulkAll spare + 1
  | .agg parts => uptoBulkAll parts + 1
  | .iface _ d => uptoBulk d + 1
  | .map entries => uptoBulkEntries entries + 1
  | .held _ => 1
def uptoBulkAll {H : Type} : List (DataW H) → Nat
  | [] => 0
  | d :: r => uptoBulk d + uptoBulkAll r
def uptoBulkEntries {H : Type} : List (Lit × DataW H) → Nat
  | [] => 0
  | x :: r => uptoBulkEntry x + uptoBulkEntries r
def uptoBulkEntry {H : Type} : Lit × DataW H → Nat
  | (.string bytes, d) => bytes.length + uptoBulk d + 1
  | (_, d) => uptoBulk d + 1
 end
def uptoSmall : (H : Type) → List (DataW H) → Bool := fun _ ds => decide (uptoBulkAll ds ≤ 1048576)
def OpenSpec.upto (s : _root_.Go.ChangeSpec) : _root_.Go.OpenSpec := { _root_.Go.OpenSpec.ofChange s with cond := some uptoSmall }

/-- 'laws.FnExactMembersValid', WHERE WHAT IT READS IS OF BULK AT MOST 1048576: true; the input reads as it did. -/
def fnExactMembersValidUptoRow : OpenClaim := { program := "ytlmelknadappbaa", sum := "052367b3dab8d0a58fa94e064b5c80f075c9f9b76c09e16c60cd247354a3a7c1", func := "loop.example/userspaces/laws.FnExactMembersValid", spec := "fnExactMembersValid", unfollowed := true, recurses := true, apart := false, narrowed := true }
def FnExactMembersValidUptoSaid : Prop := fnExactMembersValidUptoRow.holds Try.pinned (OpenSpec.upto fnExactMembersValidSpec)

/-- 'laws.FnMembersValid', WHERE WHAT IT READS IS OF BULK AT MOST 1048576: true; the input reads as it did. -/
def fnMembersValidUptoRow : OpenClaim := { program := "ytlmelknadappbaa", sum := "052367b3dab8d0a58fa94e064b5c80f075c9f9b76c09e16c60cd247354a3a7c1", func := "loop.example/userspaces/laws.FnMembersValid", spec := "fnMembersValid", unfollowed := true, recurses := true, apart := false, narrowed := true }
def FnMembersValidUptoSaid : Prop := fnMembersValidUptoRow.holds Try.pinned (OpenSpec.upto fnMembersValidSpec)

/-- 'laws.FnExactNewSession', WHERE WHAT IT READS IS OF BULK AT MOST 1048576: true; the input reads as it did. -/
def fnExactNewSessionUptoRow : OpenClaim := { program := "ytlmelknadappbaa", sum := "052367b3dab8d0a58fa94e064b5c80f075c9f9b76c09e16c60cd247354a3a7c1", func := "loop.example/userspaces/laws.FnExactNewSession", spec := "fnExactNewSession", unfollowed := true, recurses := true, apart := false, narrowed := true }
def FnExactNewSessionUptoSaid : Prop := fnExactNewSessionUptoRow.holds Try.pinned (OpenSpec.upto fnExactNewSessionSpec)

/-- 'laws.FnExactJoinGroup', WHERE WHAT IT READS IS OF BULK AT MOST 1048576: true; the input reads as it did. -/
def fnExactJoinGroupUptoRow : OpenClaim := { program := "ytlmelknadappbaa", sum := "052367b3dab8d0a58fa94e064b5c80f075c9f9b76c09e16c60cd247354a3a7c1", func := "loop.example/userspaces/laws.FnExactJoinGroup", spec := "fnExactJoinGroup", unfollowed := true, recurses := true, apart := false, narrowed := true }
def FnExactJoinGroupUptoSaid : Prop := fnExactJoinGroupUptoRow.holds Try.pinned (OpenSpec.upto fnExactJoinGroupSpec)

/-- 'laws.FnNewSession', WHERE WHAT IT READS IS OF BULK AT MOST 1048576: true; the input reads as it did. -/
def fnNewSessionUptoRow : OpenClaim := { program := "ytlmelknadappbaa", sum := "052367b3dab8d0a58fa94e064b5c80f075c9f9b76c09e16c60cd247354a3a7c1", func := "loop.example/userspaces/laws.FnNewSession", spec := "fnNewSession", unfollowed := true, recurses := true, apart := false, narrowed := true }
def FnNewSessionUptoSaid : Prop := fnNewSessionUptoRow.holds Try.pinned (OpenSpec.upto fnNewSessionSpec)

/-- 'laws.FnJoinGroup', WHERE WHAT IT READS IS OF BULK AT MOST 1048576: true; the input reads as it did. -/
def fnJoinGroupUptoRow : OpenClaim := { program := "ytlmelknadappbaa", sum := "052367b3dab8d0a58fa94e064b5c80f075c9f9b76c09e16c60cd247354a3a7c1", func := "loop.example/userspaces/laws.FnJoinGroup", spec := "fnJoinGroup", unfollowed := true, recurses := true, apart := false, narrowed := true }
def FnJoinGroupUptoSaid : Prop := fnJoinGroupUptoRow.holds Try.pinned (OpenSpec.upto fnJoinGroupSpec)

/-- 'laws.FnExactGroupsIn', WHERE WHAT IT READS IS OF BULK AT MOST 1048576: true; the input reads as it did. -/
def fnExactGroupsInUptoRow : OpenClaim := { program := "ytlmelknadappbaa", sum := "052367b3dab8d0a58fa94e064b5c80f075c9f9b76c09e16c60cd247354a3a7c1", func := "loop.example/userspaces/laws.FnExactGroupsIn", spec := "fnExactGroupsIn", unfollowed := true, recurses := true, apart := false, narrowed := true }
def FnExactGroupsInUptoSaid : Prop := fnExactGroupsInUptoRow.holds Try.pinned (OpenSpec.upto fnExactGroupsInSpec)

/-- 'laws.FnGroupsIn', WHERE WHAT IT READS IS OF BULK AT MOST 1048576: true; the input reads as it did. -/
def fnGroupsInUptoRow : OpenClaim := { program := "ytlmelknadappbaa", sum := "052367b3dab8d0a58fa94e064b5c80f075c9f9b76c09e16c60cd247354a3a7c1", func := "loop.example/userspaces/laws.FnGroupsIn", spec := "fnGroupsIn", unfollowed := true, recurses := true, apart := false, narrowed := true }
def FnGroupsInUptoSaid : Prop := fnGroupsInUptoRow.holds Try.pinned (OpenSpec.upto fnGroupsInSpec)

end Rows
end Go.Proofs.Ytlmelknadappbaa
