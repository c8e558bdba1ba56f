/-
  No cell of these rows narrows 'for every input' (looked for: loops, veiled, ifaces, maps, wideKeys, modest, calm, conditions, laid).
  DERIVED. THE GIVEN ROWS OF THIS SEAT. 10 by the template 'for every input the law returns true; each argument reads behind the call as it read before'; 0 by the template 'total and deterministic' (their statements: YtpnllhdgpfbaiaaTotals.lean).
  GIVEN WITH THE SEED: the statements are not yours to turn. If you find one false, say at which input.
  Laid BY PROGRAM, IN A SANDBOX (cutbox-rows.mjs): the forced cells as the released guide's own fill.sh prints them over the translation 09b71c389c819dc4… (all of the seat's roots in one cut). By AI agents, Wed Nov 11 2026. No macro, syntax, notation, axiom, sorry.
-/
import Derived.Test.YtpnllhdgpfbaiaaChecked
import GoSem.Claim
import GoSem.ClaimJoined
import GoSem.ClaimMapViews
import Derived.JoinedTies
import Derived.KernelRfl
namespace Go.Proofs.Ytpnllhdgpfbaiaa
/- THE CELL 'sum', in the pinned program and in every row, IS THE sha256 OF THE DUMP (.gsa) THAT YtpnllhdgpfbaiaaProg.lean LOADS. Nothing in Lean hashes anything: it is a label: what it is worth is what the hold of that sum in a sandbox is worth. -/
noncomputable def Try.pinned : Pinned := { name := "ytpnllhdgpfbaiaa", sum := "09b71c389c819dc48c8b27a94381069b7f1f1d3dbc5bc4ad19a8a01ae1707192", checked := Try.checked }
namespace Rows
def none {H : Type} : Left H := { results := [], args := [] }

/-- 'laws.FnExactMemoryValid': WHATEVER THE INPUT: true; the input reads as it did. -/
def fnExactMemoryValidSpec : ChangeSpec := { name := "fnExactMemoryValid", fn := fun _ => fun
  | [d] => { results := [.lit (.bool true)], args := [d] }
  | _ => none }
def fnExactMemoryValidRow : OpenClaim := { program := "ytpnllhdgpfbaiaa", sum := "09b71c389c819dc48c8b27a94381069b7f1f1d3dbc5bc4ad19a8a01ae1707192", func := "loop.example/userspaces/laws.FnExactMemoryValid", spec := "fnExactMemoryValid", unfollowed := true, recurses := true, apart := false }
def FnExactMemoryValidSaid : Prop := fnExactMemoryValidRow.holds Try.pinned (OpenSpec.ofChange fnExactMemoryValidSpec)

/-- ITS FALSE NEIGHBOUR: 'it returns false'. Refute it at one input. -/
def fnExactMemoryValidWrong : ChangeSpec := { name := "fnExactMemoryValid", fn := fun _ => fun
  | [d] => { results := [.lit (.bool false)], args := [d] }
  | _ => none }
def FnExactMemoryValidWrongFalsely : Prop := fnExactMemoryValidRow.holds Try.pinned (OpenSpec.ofChange fnExactMemoryValidWrong)

/-- 'laws.FnExactReadPage': WHATEVER THE INPUT: true; the input reads as it did. -/
def fnExactReadPageSpec : ChangeSpec := { name := "fnExactReadPage", fn := fun _ => fun
  | [d1, d2, d3] => { results := [.lit (.bool true)], args := [d1, d2, d3] }
  | _ => none }
def fnExactReadPageRow : OpenClaim := { program := "ytpnllhdgpfbaiaa", sum := "09b71c389c819dc48c8b27a94381069b7f1f1d3dbc5bc4ad19a8a01ae1707192", func := "loop.example/userspaces/laws.FnExactReadPage", spec := "fnExactReadPage", unfollowed := true, recurses := true, apart := false }
def FnExactReadPageSaid : Prop := fnExactReadPageRow.holds Try.pinned (OpenSpec.ofChange fnExactReadPageSpec)

/-- ITS FALSE NEIGHBOUR: 'it returns false'. Refute it at one input. -/
def fnExactReadPageWrong : ChangeSpec := { name := "fnExactReadPage", fn := fun _ => fun
  | [d1, d2, d3] => { results := [.lit (.bool false)], args := [d1, d2, d3] }
  | _ => none }
def FnExactReadPageWrongFalsely : Prop := fnExactReadPageRow.holds Try.pinned (OpenSpec.ofChange fnExactReadPageWrong)

/-- 'laws.FnMemoryValid': WHATEVER THE INPUT: true; the input reads as it did. -/
def fnMemoryValidSpec : ChangeSpec := { name := "fnMemoryValid", fn := fun _ => fun
  | [d] => { results := [.lit (.bool true)], args := [d] }
  | _ => none }
def fnMemoryValidRow : OpenClaim := { program := "ytpnllhdgpfbaiaa", sum := "09b71c389c819dc48c8b27a94381069b7f1f1d3dbc5bc4ad19a8a01ae1707192", func := "loop.example/userspaces/laws.FnMemoryValid", spec := "fnMemoryValid", unfollowed := true, recurses := true, apart := false }
def FnMemoryValidSaid : Prop := fnMemoryValidRow.holds Try.pinned (OpenSpec.ofChange fnMemoryValidSpec)

/-- ITS FALSE NEIGHBOUR: 'it returns false'. Refute it at one input. -/
def fnMemoryValidWrong : ChangeSpec := { name := "fnMemoryValid", fn := fun _ => fun
  | [d] => { results := [.lit (.bool false)], args := [d] }
  | _ => none }
def FnMemoryValidWrongFalsely : Prop := fnMemoryValidRow.holds Try.pinned (OpenSpec.ofChange fnMemoryValidWrong)

/-- 'laws.FnExactFrameUses': WHATEVER THE INPUT: true; the input reads as it did. -/
def fnExactFrameUsesSpec : ChangeSpec := { name := "fnExactFrameUses", fn := fun _ => fun
  | [d] => { results := [.lit (.bool true)], args := [d] }
  | _ => none }
def fnExactFrameUsesRow : OpenClaim := { program := "ytpnllhdgpfbaiaa", sum := "09b71c389c819dc48c8b27a94381069b7f1f1d3dbc5bc4ad19a8a01ae1707192", func := "loop.example/userspaces/laws.FnExactFrameUses", spec := "fnExactFrameUses", unfollowed := true, recurses := true, apart := false }
def FnExactFrameUsesSaid : Prop := fnExactFrameUsesRow.holds Try.pinned (OpenSpec.ofChange fnExactFrameUsesSpec)

/-- ITS FALSE NEIGHBOUR: 'it returns false'. Refute it at one input. -/
def fnExactFrameUsesWrong : ChangeSpec := { name := "fnExactFrameUses", fn := fun _ => fun
  | [d] => { results := [.lit (.bool false)], args := [d] }
  | _ => none }
def FnExactFrameUsesWrongFalsely : Prop := fnExactFrameUsesRow.holds Try.pinned (OpenSpec.ofChange fnExactFrameUsesWrong)

/-- 'laws.FnReadPage': WHATEVER THE INPUT: true; the input reads as it did. -/
def fnReadPageSpec : ChangeSpec := { name := "fnReadPage", fn := fun _ => fun
  | [d] => { results := [.lit (.bool true)], args := [d] }
  | _ => none }
def fnReadPageRow : OpenClaim := { program := "ytpnllhdgpfbaiaa", sum := "09b71c389c819dc48c8b27a94381069b7f1f1d3dbc5bc4ad19a8a01ae1707192", func := "loop.example/userspaces/laws.FnReadPage", spec := "fnReadPage", unfollowed := true, recurses := true, apart := false }
def FnReadPageSaid : Prop := fnReadPageRow.holds Try.pinned (OpenSpec.ofChange fnReadPageSpec)

/-- ITS FALSE NEIGHBOUR: 'it returns false'. Refute it at one input. -/
def fnReadPageWrong : ChangeSpec := { name := "fnReadPage", fn := fun _ => fun
  | [d] => { results := [.lit (.bool false)], args := [d] }
  | _ => none }
def FnReadPageWrongFalsely : Prop := fnReadPageRow.holds Try.pinned (OpenSpec.ofChange fnReadPageWrong)

/-- 'laws.FnFrameUses': WHATEVER THE INPUT: true; the input reads as it did. -/
def fnFrameUsesSpec : ChangeSpec := { name := "fnFrameUses", fn := fun _ => fun
  | [d] => { results := [.lit (.bool true)], args := [d] }
  | _ => none }
def fnFrameUsesRow : OpenClaim := { program := "ytpnllhdgpfbaiaa", sum := "09b71c389c819dc48c8b27a94381069b7f1f1d3dbc5bc4ad19a8a01ae1707192", func := "loop.example/userspaces/laws.FnFrameUses", spec := "fnFrameUses", unfollowed := true, recurses := true, apart := false }
def FnFrameUsesSaid : Prop := fnFrameUsesRow.holds Try.pinned (OpenSpec.ofChange fnFrameUsesSpec)

/-- ITS FALSE NEIGHBOUR: 'it returns false'. Refute it at one input. -/
def fnFrameUsesWrong : ChangeSpec := { name := "fnFrameUses", fn := fun _ => fun
  | [d] => { results := [.lit (.bool false)], args := [d] }
  | _ => none }
def FnFrameUsesWrongFalsely : Prop := fnFrameUsesRow.holds Try.pinned (OpenSpec.ofChange fnFrameUsesWrong)

/-- 'laws.FnExactForkMemory': WHATEVER THE INPUT: true; the input reads as it did. -/
def fnExactForkMemorySpec : ChangeSpec := { name := "fnExactForkMemory", fn := fun _ => fun
  | [d1, d2] => { results := [.lit (.bool true)], args := [d1, d2] }
  | _ => none }
def fnExactForkMemoryRow : OpenClaim := { program := "ytpnllhdgpfbaiaa", sum := "09b71c389c819dc48c8b27a94381069b7f1f1d3dbc5bc4ad19a8a01ae1707192", func := "loop.example/userspaces/laws.FnExactForkMemory", spec := "fnExactForkMemory", unfollowed := true, recurses := true, apart := false }
def FnExactForkMemorySaid : Prop := fnExactForkMemoryRow.holds Try.pinned (OpenSpec.ofChange fnExactForkMemorySpec)

/-- ITS FALSE NEIGHBOUR: 'it returns false'. Refute it at one input. -/
def fnExactForkMemoryWrong : ChangeSpec := { name := "fnExactForkMemory", fn := fun _ => fun
  | [d1, d2] => { results := [.lit (.bool false)], args := [d1, d2] }
  | _ => none }
def FnExactForkMemoryWrongFalsely : Prop := fnExactForkMemoryRow.holds Try.pinned (OpenSpec.ofChange fnExactForkMemoryWrong)

/-- 'laws.FnForkMemory': WHATEVER THE INPUT: true; the input reads as it did. -/
def fnForkMemorySpec : ChangeSpec := { name := "fnForkMemory", fn := fun _ => fun
  | [d] => { results := [.lit (.bool true)], args := [d] }
  | _ => none }
def fnForkMemoryRow : OpenClaim := { program := "ytpnllhdgpfbaiaa", sum := "09b71c389c819dc48c8b27a94381069b7f1f1d3dbc5bc4ad19a8a01ae1707192", func := "loop.example/userspaces/laws.FnForkMemory", spec := "fnForkMemory", unfollowed := true, recurses := true, apart := false }
def FnForkMemorySaid : Prop := fnForkMemoryRow.holds Try.pinned (OpenSpec.ofChange fnForkMemorySpec)

/-- ITS FALSE NEIGHBOUR: 'it returns false'. Refute it at one input. -/
def fnForkMemoryWrong : ChangeSpec := { name := "fnForkMemory", fn := fun _ => fun
  | [d] => { results := [.lit (.bool false)], args := [d] }
  | _ => none }
def FnForkMemoryWrongFalsely : Prop := fnForkMemoryRow.holds Try.pinned (OpenSpec.ofChange fnForkMemoryWrong)

/-- 'laws.FnWritePage': WHATEVER THE INPUT: true; the input reads as it did. -/
def fnWritePageSpec : ChangeSpec := { name := "fnWritePage", fn := fun _ => fun
  | [d] => { results := [.lit (.bool true)], args := [d] }
  | _ => none }
def fnWritePageRow : OpenClaim := { program := "ytpnllhdgpfbaiaa", sum := "09b71c389c819dc48c8b27a94381069b7f1f1d3dbc5bc4ad19a8a01ae1707192", func := "loop.example/userspaces/laws.FnWritePage", spec := "fnWritePage", unfollowed := true, recurses := true, apart := false }
def FnWritePageSaid : Prop := fnWritePageRow.holds Try.pinned (OpenSpec.ofChange fnWritePageSpec)

/-- ITS FALSE NEIGHBOUR: 'it returns false'. Refute it at one input. -/
def fnWritePageWrong : ChangeSpec := { name := "fnWritePage", fn := fun _ => fun
  | [d] => { results := [.lit (.bool false)], args := [d] }
  | _ => none }
def FnWritePageWrongFalsely : Prop := fnWritePageRow.holds Try.pinned (OpenSpec.ofChange fnWritePageWrong)

/-- 'laws.FnExactWritePage': WHATEVER THE INPUT: true; the input reads as it did. -/
def fnExactWritePageSpec : ChangeSpec := { name := "fnExactWritePage", fn := fun _ => fun
  | [d1, d2, d3, d4] => { results := [.lit (.bool true)], args := [d1, d2, d3, d4] }
  | _ => none }
def fnExactWritePageRow : OpenClaim := { program := "ytpnllhdgpfbaiaa", sum := "09b71c389c819dc48c8b27a94381069b7f1f1d3dbc5bc4ad19a8a01ae1707192", func := "loop.example/userspaces/laws.FnExactWritePage", spec := "fnExactWritePage", unfollowed := true, recurses := true, apart := false }
def FnExactWritePageSaid : Prop := fnExactWritePageRow.holds Try.pinned (OpenSpec.ofChange fnExactWritePageSpec)

/-- ITS FALSE NEIGHBOUR: 'it returns false'. Refute it at one input. -/
def fnExactWritePageWrong : ChangeSpec := { name := "fnExactWritePage", fn := fun _ => fun
  | [d1, d2, d3, d4] => { results := [.lit (.bool false)], args := [d1, d2, d3, d4] }
  | _ => none }
def FnExactWritePageWrongFalsely : Prop := fnExactWritePageRow.holds Try.pinned (OpenSpec.ofChange fnExactWritePageWrong)

/- THE SECOND FORM. 'bulk': how many values and letters a reading holds, each counted each time it is reached (what is shared counts as often as it is met; a slice's spare places count too). A statement '..UptoSaid' is the law's where the arguments, and the package variables that the reading takes, are together of bulk at most 1048576: NARROWER than '..Said'. Prove '..Said' where nothing that the law and all that it calls make is longer than what came in: it says more and counts as full. Else prove '..UptoSaid'. A law counts once. -/
mutual
def uptoBulk {H : Type} : DataW H → Nat
  | .lit (.string bytes) => bytes.length + 1
  | .lit _ => 1
  | .nil => 1
  | .ptr d => uptoBulk d + 1
  | .slice elems spare => uptoBulkAll elems + uptoBulkAll spare + 1
  | .agg parts => uptoBulkAll parts + 1
  | .iface _ d => uptoBulk d + 1
  | .map entries => uptoBulkEntries entries + 1
  | .held _ => 1
def uptoBulkAll {H : Type} : List (DataW H) → Nat
  | [] => 0
  | d :: r => uptoBulk d + uptoBulkAll r
def uptoBulkEntries {H : Type} : List (Lit × DataW H) → Nat
  | [] => 0
  | x :: r => uptoBulkEntry x + uptoBulkEntries r
def uptoBulkEntry {H : Type} : Lit × DataW H → Nat
  | (.string bytes, d) => bytes.length + uptoBulk d + 1
  | (_, d) => uptoBulk d + 1
 end
def uptoSmall : (H : Type) → List (DataW H) → Bool := fun _ ds => decide (uptoBulkAll ds ≤ 1048576)
def OpenSpec.upto (s : _root_.Go.ChangeSpec) : _root_.Go.OpenSpec := { _root_.Go.OpenSpec.ofChange s with cond := some uptoSmall }

/-- 'laws.FnExactMemoryValid', WHERE WHAT IT READS IS OF BULK AT MOST 1048576: true; the input reads as it did. -/
def fnExactMemoryValidUptoRow : OpenClaim := { program := "ytpnllhdgpfbaiaa", sum := "09b71c389c819dc48c8b27a94381069b7f1f1d3dbc5bc4ad19a8a01ae1707192", func := "loop.example/userspaces/laws.FnExactMemoryValid", spec := "fnExactMemoryValid", unfollowed := true, recurses := true, apart := false, narrowed := true }
def FnExactMemoryValidUptoSaid : Prop := fnExactMemoryValidUptoRow.holds Try.pinned (OpenSpec.upto fnExactMemoryValidSpec)

/-- 'laws.FnExactReadPage', WHERE WHAT IT READS IS OF BULK AT MOST 1048576: true; the input reads as it did. -/
def fnExactReadPageUptoRow : OpenClaim := { program := "ytpnllhdgpfbaiaa", sum := "09b71c389c819dc48c8b27a94381069b7f1f1d3dbc5bc4ad19a8a01ae1707192", func := "loop.example/userspaces/laws.FnExactReadPage", spec := "fnExactReadPage", unfollowed := true, recurses := true, apart := false, narrowed := true }
def FnExactReadPageUptoSaid : Prop := fnExactReadPageUptoRow.holds Try.pinned (OpenSpec.upto fnExactReadPageSpec)

/-- 'laws.FnMemoryValid', WHERE WHAT IT READS IS OF BULK AT MOST 1048576: true; the input reads as it did. -/
def fnMemoryValidUptoRow : OpenClaim := { program := "ytpnllhdgpfbaiaa", sum := "09b71c389c819dc48c8b27a94381069b7f1f1d3dbc5bc4ad19a8a01ae1707192", func := "loop.example/userspaces/laws.FnMemoryValid", spec := "fnMemoryValid", unfollowed := true, recurses := true, apart := false, narrowed := true }
def FnMemoryValidUptoSaid : Prop := fnMemoryValidUptoRow.holds Try.pinned (OpenSpec.upto fnMemoryValidSpec)

/-- 'laws.FnExactFrameUses', WHERE WHAT IT READS IS OF BULK AT MOST 1048576: true; the input reads as it did. -/
def fnExactFrameUsesUptoRow : OpenClaim := { program := "ytpnllhdgpfbaiaa", sum := "09b71c389c819dc48c8b27a94381069b7f1f1d3dbc5bc4ad19a8a01ae1707192", func := "loop.example/userspaces/laws.FnExactFrameUses", spec := "fnExactFrameUses", unfollowed := true, recurses := true, apart := false, narrowed := true }
def FnExactFrameUsesUptoSaid : Prop := fnExactFrameUsesUptoRow.holds Try.pinned (OpenSpec.upto fnExactFrameUsesSpec)

/-- 'laws.FnReadPage', WHERE WHAT IT READS IS OF BULK AT MOST 1048576: true; the input reads as it did. -/
def fnReadPageUptoRow : OpenClaim := { program := "ytpnllhdgpfbaiaa", sum := "09b71c389c819dc48c8b27a94381069b7f1f1d3dbc5bc4ad19a8a01ae1707192", func := "loop.example/userspaces/laws.FnReadPage", spec := "fnReadPage", unfollowed := true, recurses := true, apart := false, narrowed := true }
def FnReadPageUptoSaid : Prop := fnReadPageUptoRow.holds Try.pinned (OpenSpec.upto fnReadPageSpec)

/-- 'laws.FnFrameUses', WHERE WHAT IT READS IS OF BULK AT MOST 1048576: true; the input reads as it did. -/
def fnFrameUsesUptoRow : OpenClaim := { program := "ytpnllhdgpfbaiaa", sum := "09b71c389c819dc48c8b27a94381069b7f1f1d3dbc5bc4ad19a8a01ae1707192", func := "loop.example/userspaces/laws.FnFrameUses", spec := "fnFrameUses", unfollowed := true, recurses := true, apart := false, narrowed := true }
def FnFrameUsesUptoSaid : Prop := fnFrameUsesUptoRow.holds Try.pinned (OpenSpec.upto fnFrameUsesSpec)

/-- 'laws.FnExactForkMemory', WHERE WHAT IT READS IS OF BULK AT MOST 1048576: true; the input reads as it did. -/
def fnExactForkMemoryUptoRow : OpenClaim := { program := "ytpnllhdgpfbaiaa", sum := "09b71c389c819dc48c8b27a94381069b7f1f1d3dbc5bc4ad19a8a01ae1707192", func := "loop.example/userspaces/laws.FnExactForkMemory", spec := "fnExactForkMemory", unfollowed := true, recurses := true, apart := false, narrowed := true }
def FnExactForkMemoryUptoSaid : Prop := fnExactForkMemoryUptoRow.holds Try.pinned (OpenSpec.upto fnExactForkMemorySpec)

/-- 'laws.FnForkMemory', WHERE WHAT IT READS IS OF BULK AT MOST 1048576: true; the input reads as it did. -/
def fnForkMemoryUptoRow : OpenClaim := { program := "ytpnllhdgpfbaiaa", sum := "09b71c389c819dc48c8b27a94381069b7f1f1d3dbc5bc4ad19a8a01ae1707192", func := "loop.example/userspaces/laws.FnForkMemory", spec := "fnForkMemory", unfollowed := true, recurses := true, apart := false, narrowed := true }
def FnForkMemoryUptoSaid : Prop := fnForkMemoryUptoRow.holds Try.pinned (OpenSpec.upto fnForkMemorySpec)

/-- 'laws.FnWritePage', WHERE WHAT IT READS IS OF BULK AT MOST 1048576: true; the input reads as it did. -/
def fnWritePageUptoRow : OpenClaim := { program := "ytpnllhdgpfbaiaa", sum := "09b71c389c819dc48c8b27a94381069b7f1f1d3dbc5bc4ad19a8a01ae1707192", func := "loop.example/userspaces/laws.FnWritePage", spec := "fnWritePage", unfollowed := true, recurses := true, apart := false, narrowed := true }
def FnWritePageUptoSaid : Prop := fnWritePageUptoRow.holds Try.pinned (OpenSpec.upto fnWritePageSpec)

/-- 'laws.FnExactWritePage', WHERE WHAT IT READS IS OF BULK AT MOST 1048576: true; the input reads as it did. -/
def fnExactWritePageUptoRow : OpenClaim := { program := "ytpnllhdgpfbaiaa", sum := "09b71c389c819dc48c8b27a94381069b7f1f1d3dbc5bc4ad19a8a01ae1707192", func := "loop.example/userspaces/laws.FnExactWritePage", spec := "fnExactWritePage", unfollowed := true, recurses := true, apart := false, narrowed := true }
def FnExactWritePageUptoSaid : Prop := fnExactWritePageUptoRow.holds Try.pinned (OpenSpec.upto fnExactWritePageSpec)

end Rows
end Go.Proofs.Ytpnllhdgpfbaiaa
