/-
  No cell of these rows narrows 'for every input' (looked for: loops, veiled, ifaces, maps, wideKeys, modest, calm, conditions, laid).
  DERIVED. THE GIVEN ROWS OF THIS SEAT. 4 by the template 'for every input the law returns true; each argument reads behind the call as it read before'; 0 by the template 'total and deterministic' (their statements: YtgjadebohneioaaTotals.lean).
  GIVEN WITH THE SEED: the statements are not yours to turn. If you find one false, say at which input.
  Laid BY PROGRAM, IN A SANDBOX (cutbox-rows.mjs): the forced cells as the released guide's own fill.sh prints them over the translation ffd26114932a8681… (all of the seat's roots in one cut). By AI agents, Wed Nov 11 2026. No macro, syntax, notation, axiom, sorry.
-/
import Derived.Test.YtgjadebohneioaaChecked
import GoSem.Claim
import GoSem.ClaimJoined
import GoSem.ClaimMapViews
import Derived.JoinedTies
import Derived.KernelRfl
namespace Go.Proofs.Ytgjadebohneioaa
/- THE CELL 'sum', in the pinned program and in every row, IS THE sha256 OF THE DUMP (.gsa) THAT YtgjadebohneioaaProg.lean LOADS. Nothing in Lean hashes anything: it is a label: what it is worth is what the hold of that sum in a sandbox is worth. -/
noncomputable def Try.pinned : Pinned := { name := "ytgjadebohneioaa", sum := "ffd26114932a868156a18479d99c3ec9a44a9560b37ce40e5427d16c1a3d596e", checked := Try.checked }
namespace Rows
def none {H : Type} : Left H := { results := [], args := [] }

/-- 'laws.FnExactSetTimer': WHATEVER THE INPUT: true; the input reads as it did. -/
def fnExactSetTimerSpec : ChangeSpec := { name := "fnExactSetTimer", fn := fun _ => fun
  | [d1, d2] => { results := [.lit (.bool true)], args := [d1, d2] }
  | _ => none }
def fnExactSetTimerRow : OpenClaim := { program := "ytgjadebohneioaa", sum := "ffd26114932a868156a18479d99c3ec9a44a9560b37ce40e5427d16c1a3d596e", func := "loop.example/userspaces/laws.FnExactSetTimer", spec := "fnExactSetTimer", inPlace := ["slices.overlaps[loop.example/userspaces/impl.Timer]"], apart := false }
def FnExactSetTimerSaid : Prop := fnExactSetTimerRow.holds Try.pinned (OpenSpec.ofChange fnExactSetTimerSpec)

/-- ITS FALSE NEIGHBOUR: 'it returns false'. Refute it at one input. -/
def fnExactSetTimerWrong : ChangeSpec := { name := "fnExactSetTimer", fn := fun _ => fun
  | [d1, d2] => { results := [.lit (.bool false)], args := [d1, d2] }
  | _ => none }
def FnExactSetTimerWrongFalsely : Prop := fnExactSetTimerRow.holds Try.pinned (OpenSpec.ofChange fnExactSetTimerWrong)

/-- 'laws.FnSetTimer': WHATEVER THE INPUT: true; the input reads as it did. -/
def fnSetTimerSpec : ChangeSpec := { name := "fnSetTimer", fn := fun _ => fun
  | [d] => { results := [.lit (.bool true)], args := [d] }
  | _ => none }
def fnSetTimerRow : OpenClaim := { program := "ytgjadebohneioaa", sum := "ffd26114932a868156a18479d99c3ec9a44a9560b37ce40e5427d16c1a3d596e", func := "loop.example/userspaces/laws.FnSetTimer", spec := "fnSetTimer", inPlace := ["slices.overlaps[loop.example/userspaces/impl.Timer]"], apart := false }
def FnSetTimerSaid : Prop := fnSetTimerRow.holds Try.pinned (OpenSpec.ofChange fnSetTimerSpec)

/-- ITS FALSE NEIGHBOUR: 'it returns false'. Refute it at one input. -/
def fnSetTimerWrong : ChangeSpec := { name := "fnSetTimer", fn := fun _ => fun
  | [d] => { results := [.lit (.bool false)], args := [d] }
  | _ => none }
def FnSetTimerWrongFalsely : Prop := fnSetTimerRow.holds Try.pinned (OpenSpec.ofChange fnSetTimerWrong)

/-- 'laws.FnEndTimers': WHATEVER THE INPUT: true; the input reads as it did. -/
def fnEndTimersSpec : ChangeSpec := { name := "fnEndTimers", fn := fun _ => fun
  | [d] => { results := [.lit (.bool true)], args := [d] }
  | _ => none }
def fnEndTimersRow : OpenClaim := { program := "ytgjadebohneioaa", sum := "ffd26114932a868156a18479d99c3ec9a44a9560b37ce40e5427d16c1a3d596e", func := "loop.example/userspaces/laws.FnEndTimers", spec := "fnEndTimers", inPlace := ["slices.overlaps[loop.example/userspaces/impl.Timer]"], apart := false }
def FnEndTimersSaid : Prop := fnEndTimersRow.holds Try.pinned (OpenSpec.ofChange fnEndTimersSpec)

/-- ITS FALSE NEIGHBOUR: 'it returns false'. Refute it at one input. -/
def fnEndTimersWrong : ChangeSpec := { name := "fnEndTimers", fn := fun _ => fun
  | [d] => { results := [.lit (.bool false)], args := [d] }
  | _ => none }
def FnEndTimersWrongFalsely : Prop := fnEndTimersRow.holds Try.pinned (OpenSpec.ofChange fnEndTimersWrong)

/-- 'laws.FnExactEndTimers': WHATEVER THE INPUT: true; the input reads as it did. -/
def fnExactEndTimersSpec : ChangeSpec := { name := "fnExactEndTimers", fn := fun _ => fun
  | [d1, d2] => { results := [.lit (.bool true)], args := [d1, d2] }
  | _ => none }
def fnExactEndTimersRow : OpenClaim := { program := "ytgjadebohneioaa", sum := "ffd26114932a868156a18479d99c3ec9a44a9560b37ce40e5427d16c1a3d596e", func := "loop.example/userspaces/laws.FnExactEndTimers", spec := "fnExactEndTimers", inPlace := ["slices.overlaps[loop.example/userspaces/impl.Timer]"], apart := false }
def FnExactEndTimersSaid : Prop := fnExactEndTimersRow.holds Try.pinned (OpenSpec.ofChange fnExactEndTimersSpec)

/-- ITS FALSE NEIGHBOUR: 'it returns false'. Refute it at one input. -/
def fnExactEndTimersWrong : ChangeSpec := { name := "fnExactEndTimers", fn := fun _ => fun
  | [d1, d2] => { results := [.lit (.bool false)], args := [d1, d2] }
  | _ => none }
def FnExactEndTimersWrongFalsely : Prop := fnExactEndTimersRow.holds Try.pinned (OpenSpec.ofChange fnExactEndTimersWrong)

/- THE SECOND FORM. 'bulk': how many values and letters a reading holds, each counted each time it is reached (what is shared counts as often as it is met; a slice's spare places count too). A statement '..UptoSaid' is the law's where the arguments, and the package variables that the reading takes, are together of bulk at most 1048576: NARROWER than '..Said'. Prove '..Said' where nothing that the law and all that it calls make is longer than what came in: it says more and counts as full. Else prove '..UptoSaid'. A law counts once. -/
mutual
def uptoBulk {H : Type} : DataW H → Nat
  | .lit (.string bytes) => bytes.length + 1
  | .lit _ => 1
  | .nil => 1
  | .ptr d => uptoBulk d + 1
  | .slice elems spare => uptoBulkAll elems + uptoBulkAll spare + 1
  | .agg parts => uptoBulkAll parts + 1
  | .iface _ d => uptoBulk d + 1
  | .map entries => uptoBulkEntries entries + 1
  | .held _ => 1
def uptoBulkAll {H : Type} : List (DataW H) → Nat
  | [] => 0
  | d :: r => uptoBulk d + uptoBulkAll r
def uptoBulkEntries {H : Type} : List (Lit × DataW H) → Nat
  | [] => 0
  | x :: r => uptoBulkEntry x + uptoBulkEntries r
def uptoBulkEntry {H : Type} : Lit × DataW H → Nat
  | (.string bytes, d) => bytes.length + uptoBulk d + 1
  | (_, d) => uptoBulk d + 1
 end
def uptoSmall : (H : Type) → List (DataW H) → Bool := fun _ ds => decide (uptoBulkAll ds ≤ 1048576)
def OpenSpec.upto (s : _root_.Go.ChangeSpec) : _root_.Go.OpenSpec := { _root_.Go.OpenSpec.ofChange s with cond := some uptoSmall }

/-- 'laws.FnExactSetTimer', WHERE WHAT IT READS IS OF BULK AT MOST 1048576: true; the input reads as it did. -/
def fnExactSetTimerUptoRow : OpenClaim := { program := "ytgjadebohneioaa", sum := "ffd26114932a868156a18479d99c3ec9a44a9560b37ce40e5427d16c1a3d596e", func := "loop.example/userspaces/laws.FnExactSetTimer", spec := "fnExactSetTimer", inPlace := ["slices.overlaps[loop.example/userspaces/impl.Timer]"], apart := false, narrowed := true }
def FnExactSetTimerUptoSaid : Prop := fnExactSetTimerUptoRow.holds Try.pinned (OpenSpec.upto fnExactSetTimerSpec)

/-- 'laws.FnSetTimer', WHERE WHAT IT READS IS OF BULK AT MOST 1048576: true; the input reads as it did. -/
def fnSetTimerUptoRow : OpenClaim := { program := "ytgjadebohneioaa", sum := "ffd26114932a868156a18479d99c3ec9a44a9560b37ce40e5427d16c1a3d596e", func := "loop.example/userspaces/laws.FnSetTimer", spec := "fnSetTimer", inPlace := ["slices.overlaps[loop.example/userspaces/impl.Timer]"], apart := false, narrowed := true }
def FnSetTimerUptoSaid : Prop := fnSetTimerUptoRow.holds Try.pinned (OpenSpec.upto fnSetTimerSpec)

/-- 'laws.FnEndTimers', WHERE WHAT IT READS IS OF BULK AT MOST 1048576: true; the input reads as it did. -/
def fnEndTimersUptoRow : OpenClaim := { program := "ytgjadebohneioaa", sum := "ffd26114932a868156a18479d99c3ec9a44a9560b37ce40e5427d16c1a3d596e", func := "loop.example/userspaces/laws.FnEndTimers", spec := "fnEndTimers", inPlace := ["slices.overlaps[loop.example/userspaces/impl.Timer]"], apart := false, narrowed := true }
def FnEndTimersUptoSaid : Prop := fnEndTimersUptoRow.holds Try.pinned (OpenSpec.upto fnEndTimersSpec)

/-- 'laws.FnExactEndTimers', WHERE WHAT IT READS IS OF BULK AT MOST 1048576: true; the input reads as it did. -/
def fnExactEndTimersUptoRow : OpenClaim := { program := "ytgjadebohneioaa", sum := "ffd26114932a868156a18479d99c3ec9a44a9560b37ce40e5427d16c1a3d596e", func := "loop.example/userspaces/laws.FnExactEndTimers", spec := "fnExactEndTimers", inPlace := ["slices.overlaps[loop.example/userspaces/impl.Timer]"], apart := false, narrowed := true }
def FnExactEndTimersUptoSaid : Prop := fnExactEndTimersUptoRow.holds Try.pinned (OpenSpec.upto fnExactEndTimersSpec)

end Rows
end Go.Proofs.Ytgjadebohneioaa
