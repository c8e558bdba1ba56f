/-
  No cell of these rows narrows 'for every input' (looked for: loops, veiled, ifaces, maps, wideKeys, modest, calm, conditions, laid).
  DERIVED. THE GIVEN ROWS OF THIS SEAT. 8 by the template 'for every input the law returns true; each argument reads behind the call as it read before'; 0 by the template 'total and deterministic' (their statements: YthajlaelaebmnaaTotals.lean).
  GIVEN WITH THE SEED: the statements are not yours to turn. If you find one false, say at which input.
  Laid BY PROGRAM, IN A SANDBOX (cutbox-rows.mjs): the forced cells as the released guide's own fill.sh prints them over the translation 5fdc700cd7aa671b… (all of the seat's roots in one cut). By AI agents, Wed Nov 11 2026. No macro, syntax, notation, axiom, sorry.
-/
import Derived.Test.YthajlaelaebmnaaChecked
import GoSem.Claim
import GoSem.ClaimJoined
import GoSem.ClaimMapViews
import Derived.JoinedTies
import Derived.KernelRfl
namespace Go.Proofs.Ythajlaelaebmnaa
/- THE CELL 'sum', in the pinned program and in every row, IS THE sha256 OF THE DUMP (.gsa) THAT YthajlaelaebmnaaProg.lean LOADS. Nothing in Lean hashes anything: it is a label: what it is worth is what the hold of that sum in a sandbox is worth. -/
noncomputable def Try.pinned : Pinned := { name := "ythajlaelaebmnaa", sum := "5fdc700cd7aa671b75ea44a21efbeebcf4c5f1d3463e89c9dd4c2c9f0537674c", checked := Try.checked }
namespace Rows
def none {H : Type} : Left H := { results := [], args := [] }

/-- 'laws.FnExactRegionsValid': WHATEVER THE INPUT: true; the input reads as it did. -/
def fnExactRegionsValidSpec : ChangeSpec := { name := "fnExactRegionsValid", fn := fun _ => fun
  | [d] => { results := [.lit (.bool true)], args := [d] }
  | _ => none }
def fnExactRegionsValidRow : OpenClaim := { program := "ythajlaelaebmnaa", sum := "5fdc700cd7aa671b75ea44a21efbeebcf4c5f1d3463e89c9dd4c2c9f0537674c", func := "loop.example/userspaces/laws.FnExactRegionsValid", spec := "fnExactRegionsValid", apart := false }
def FnExactRegionsValidSaid : Prop := fnExactRegionsValidRow.holds Try.pinned (OpenSpec.ofChange fnExactRegionsValidSpec)

/-- ITS FALSE NEIGHBOUR: 'it returns false'. Refute it at one input. -/
def fnExactRegionsValidWrong : ChangeSpec := { name := "fnExactRegionsValid", fn := fun _ => fun
  | [d] => { results := [.lit (.bool false)], args := [d] }
  | _ => none }
def FnExactRegionsValidWrongFalsely : Prop := fnExactRegionsValidRow.holds Try.pinned (OpenSpec.ofChange fnExactRegionsValidWrong)

/-- 'laws.FnRegionsValid': WHATEVER THE INPUT: true; the input reads as it did. -/
def fnRegionsValidSpec : ChangeSpec := { name := "fnRegionsValid", fn := fun _ => fun
  | [d] => { results := [.lit (.bool true)], args := [d] }
  | _ => none }
def fnRegionsValidRow : OpenClaim := { program := "ythajlaelaebmnaa", sum := "5fdc700cd7aa671b75ea44a21efbeebcf4c5f1d3463e89c9dd4c2c9f0537674c", func := "loop.example/userspaces/laws.FnRegionsValid", spec := "fnRegionsValid", apart := false }
def FnRegionsValidSaid : Prop := fnRegionsValidRow.holds Try.pinned (OpenSpec.ofChange fnRegionsValidSpec)

/-- ITS FALSE NEIGHBOUR: 'it returns false'. Refute it at one input. -/
def fnRegionsValidWrong : ChangeSpec := { name := "fnRegionsValid", fn := fun _ => fun
  | [d] => { results := [.lit (.bool false)], args := [d] }
  | _ => none }
def FnRegionsValidWrongFalsely : Prop := fnRegionsValidRow.holds Try.pinned (OpenSpec.ofChange fnRegionsValidWrong)

/-- 'laws.FnExactRightsAt': WHATEVER THE INPUT: true; the input reads as it did. -/
def fnExactRightsAtSpec : ChangeSpec := { name := "fnExactRightsAt", fn := fun _ => fun
  | [d1, d2] => { results := [.lit (.bool true)], args := [d1, d2] }
  | _ => none }
def fnExactRightsAtRow : OpenClaim := { program := "ythajlaelaebmnaa", sum := "5fdc700cd7aa671b75ea44a21efbeebcf4c5f1d3463e89c9dd4c2c9f0537674c", func := "loop.example/userspaces/laws.FnExactRightsAt", spec := "fnExactRightsAt", apart := false }
def FnExactRightsAtSaid : Prop := fnExactRightsAtRow.holds Try.pinned (OpenSpec.ofChange fnExactRightsAtSpec)

/-- ITS FALSE NEIGHBOUR: 'it returns false'. Refute it at one input. -/
def fnExactRightsAtWrong : ChangeSpec := { name := "fnExactRightsAt", fn := fun _ => fun
  | [d1, d2] => { results := [.lit (.bool false)], args := [d1, d2] }
  | _ => none }
def FnExactRightsAtWrongFalsely : Prop := fnExactRightsAtRow.holds Try.pinned (OpenSpec.ofChange fnExactRightsAtWrong)

/-- 'laws.FnRightsAt': WHATEVER THE INPUT: true; the input reads as it did. -/
def fnRightsAtSpec : ChangeSpec := { name := "fnRightsAt", fn := fun _ => fun
  | [d] => { results := [.lit (.bool true)], args := [d] }
  | _ => none }
def fnRightsAtRow : OpenClaim := { program := "ythajlaelaebmnaa", sum := "5fdc700cd7aa671b75ea44a21efbeebcf4c5f1d3463e89c9dd4c2c9f0537674c", func := "loop.example/userspaces/laws.FnRightsAt", spec := "fnRightsAt", apart := false }
def FnRightsAtSaid : Prop := fnRightsAtRow.holds Try.pinned (OpenSpec.ofChange fnRightsAtSpec)

/-- ITS FALSE NEIGHBOUR: 'it returns false'. Refute it at one input. -/
def fnRightsAtWrong : ChangeSpec := { name := "fnRightsAt", fn := fun _ => fun
  | [d] => { results := [.lit (.bool false)], args := [d] }
  | _ => none }
def FnRightsAtWrongFalsely : Prop := fnRightsAtRow.holds Try.pinned (OpenSpec.ofChange fnRightsAtWrong)

/-- 'laws.FnExactDropRegion': WHATEVER THE INPUT: true; the input reads as it did. -/
def fnExactDropRegionSpec : ChangeSpec := { name := "fnExactDropRegion", fn := fun _ => fun
  | [d1, d2, d3] => { results := [.lit (.bool true)], args := [d1, d2, d3] }
  | _ => none }
def fnExactDropRegionRow : OpenClaim := { program := "ythajlaelaebmnaa", sum := "5fdc700cd7aa671b75ea44a21efbeebcf4c5f1d3463e89c9dd4c2c9f0537674c", func := "loop.example/userspaces/laws.FnExactDropRegion", spec := "fnExactDropRegion", apart := false }
def FnExactDropRegionSaid : Prop := fnExactDropRegionRow.holds Try.pinned (OpenSpec.ofChange fnExactDropRegionSpec)

/-- ITS FALSE NEIGHBOUR: 'it returns false'. Refute it at one input. -/
def fnExactDropRegionWrong : ChangeSpec := { name := "fnExactDropRegion", fn := fun _ => fun
  | [d1, d2, d3] => { results := [.lit (.bool false)], args := [d1, d2, d3] }
  | _ => none }
def FnExactDropRegionWrongFalsely : Prop := fnExactDropRegionRow.holds Try.pinned (OpenSpec.ofChange fnExactDropRegionWrong)

/-- 'laws.FnExactSetRegion': WHATEVER THE INPUT: true; the input reads as it did. -/
def fnExactSetRegionSpec : ChangeSpec := { name := "fnExactSetRegion", fn := fun _ => fun
  | [d1, d2] => { results := [.lit (.bool true)], args := [d1, d2] }
  | _ => none }
def fnExactSetRegionRow : OpenClaim := { program := "ythajlaelaebmnaa", sum := "5fdc700cd7aa671b75ea44a21efbeebcf4c5f1d3463e89c9dd4c2c9f0537674c", func := "loop.example/userspaces/laws.FnExactSetRegion", spec := "fnExactSetRegion", apart := false }
def FnExactSetRegionSaid : Prop := fnExactSetRegionRow.holds Try.pinned (OpenSpec.ofChange fnExactSetRegionSpec)

/-- ITS FALSE NEIGHBOUR: 'it returns false'. Refute it at one input. -/
def fnExactSetRegionWrong : ChangeSpec := { name := "fnExactSetRegion", fn := fun _ => fun
  | [d1, d2] => { results := [.lit (.bool false)], args := [d1, d2] }
  | _ => none }
def FnExactSetRegionWrongFalsely : Prop := fnExactSetRegionRow.holds Try.pinned (OpenSpec.ofChange fnExactSetRegionWrong)

/-- 'laws.FnSetRegion': WHATEVER THE INPUT: true; the input reads as it did. -/
def fnSetRegionSpec : ChangeSpec := { name := "fnSetRegion", fn := fun _ => fun
  | [d] => { results := [.lit (.bool true)], args := [d] }
  | _ => none }
def fnSetRegionRow : OpenClaim := { program := "ythajlaelaebmnaa", sum := "5fdc700cd7aa671b75ea44a21efbeebcf4c5f1d3463e89c9dd4c2c9f0537674c", func := "loop.example/userspaces/laws.FnSetRegion", spec := "fnSetRegion", apart := false }
def FnSetRegionSaid : Prop := fnSetRegionRow.holds Try.pinned (OpenSpec.ofChange fnSetRegionSpec)

/-- ITS FALSE NEIGHBOUR: 'it returns false'. Refute it at one input. -/
def fnSetRegionWrong : ChangeSpec := { name := "fnSetRegion", fn := fun _ => fun
  | [d] => { results := [.lit (.bool false)], args := [d] }
  | _ => none }
def FnSetRegionWrongFalsely : Prop := fnSetRegionRow.holds Try.pinned (OpenSpec.ofChange fnSetRegionWrong)

/-- 'laws.FnDropRegion': WHATEVER THE INPUT: true; the input reads as it did. -/
def fnDropRegionSpec : ChangeSpec := { name := "fnDropRegion", fn := fun _ => fun
  | [d] => { results := [.lit (.bool true)], args := [d] }
  | _ => none }
def fnDropRegionRow : OpenClaim := { program := "ythajlaelaebmnaa", sum := "5fdc700cd7aa671b75ea44a21efbeebcf4c5f1d3463e89c9dd4c2c9f0537674c", func := "loop.example/userspaces/laws.FnDropRegion", spec := "fnDropRegion", apart := false }
def FnDropRegionSaid : Prop := fnDropRegionRow.holds Try.pinned (OpenSpec.ofChange fnDropRegionSpec)

/-- ITS FALSE NEIGHBOUR: 'it returns false'. Refute it at one input. -/
def fnDropRegionWrong : ChangeSpec := { name := "fnDropRegion", fn := fun _ => fun
  | [d] => { results := [.lit (.bool false)], args := [d] }
  | _ => none }
def FnDropRegionWrongFalsely : Prop := fnDropRegionRow.holds Try.pinned (OpenSpec.ofChange fnDropRegionWrong)

/- THE SECOND FORM. 'bulk': how many values and letters a reading holds, each counted each time it is reached (what is shared counts as often as it is met; a slice's spare places count too). A statement '..UptoSaid' is the law's where the arguments, and the package variables that the reading takes, are together of bulk at most 1048576: NARROWER than '..Said'. Prove '..Said' where nothing that the law and all that it calls make is longer than what came in: it says more and counts as full. Else prove '..UptoSaid'. A law counts once. -/
mutual
def uptoBulk {H : Type} : DataW H → Nat
  | .lit (.string bytes) => bytes.length + 1
  | .lit _ => 1
  | .nil => 1
  | .ptr d => uptoBulk d + 1
  | .slice elems spare => uptoBulkAll elems + uptoBulkAll spare + 1
  | .agg parts => uptoBulkAll parts + 1
  | .iface _ d => uptoBulk d + 1
  | .map entries => uptoBulkEntries entries + 1
  | .held _ => 1
def uptoBulkAll {H : Type} : List (DataW H) → Nat
  | [] => 0
  | d :: r => uptoBulk d + uptoBulkAll r
def uptoBulkEntries {H : Type} : List (Lit × DataW H) → Nat
  | [] => 0
  | x :: r => uptoBulkEntry x + uptoBulkEntries r
def uptoBulkEntry {H : Type} : Lit × DataW H → Nat
  | (.string bytes, d) => bytes.length + uptoBulk d + 1
  | (_, d) => uptoBulk d + 1
 end
def uptoSmall : (H : Type) → List (DataW H) → Bool := fun _ ds => decide (uptoBulkAll ds ≤ 1048576)
def OpenSpec.upto (s : _root_.Go.ChangeSpec) : _root_.Go.OpenSpec := { _root_.Go.OpenSpec.ofChange s with cond := some uptoSmall }

/-- 'laws.FnExactRegionsValid', WHERE WHAT IT READS IS OF BULK AT MOST 1048576: true; the input reads as it did. -/
def fnExactRegionsValidUptoRow : OpenClaim := { program := "ythajlaelaebmnaa", sum := "5fdc700cd7aa671b75ea44a21efbeebcf4c5f1d3463e89c9dd4c2c9f0537674c", func := "loop.example/userspaces/laws.FnExactRegionsValid", spec := "fnExactRegionsValid", apart := false, narrowed := true }
def FnExactRegionsValidUptoSaid : Prop := fnExactRegionsValidUptoRow.holds Try.pinned (OpenSpec.upto fnExactRegionsValidSpec)

/-- 'laws.FnRegionsValid', WHERE WHAT IT READS IS OF BULK AT MOST 1048576: true; the input reads as it did. -/
def fnRegionsValidUptoRow : OpenClaim := { program := "ythajlaelaebmnaa", sum := "5fdc700cd7aa671b75ea44a21efbeebcf4c5f1d3463e89c9dd4c2c9f0537674c", func := "loop.example/userspaces/laws.FnRegionsValid", spec := "fnRegionsValid", apart := false, narrowed := true }
def FnRegionsValidUptoSaid : Prop := fnRegionsValidUptoRow.holds Try.pinned (OpenSpec.upto fnRegionsValidSpec)

/-- 'laws.FnExactRightsAt', WHERE WHAT IT READS IS OF BULK AT MOST 1048576: true; the input reads as it did. -/
def fnExactRightsAtUptoRow : OpenClaim := { program := "ythajlaelaebmnaa", sum := "5fdc700cd7aa671b75ea44a21efbeebcf4c5f1d3463e89c9dd4c2c9f0537674c", func := "loop.example/userspaces/laws.FnExactRightsAt", spec := "fnExactRightsAt", apart := false, narrowed := true }
def FnExactRightsAtUptoSaid : Prop := fnExactRightsAtUptoRow.holds Try.pinned (OpenSpec.upto fnExactRightsAtSpec)

/-- 'laws.FnRightsAt', WHERE WHAT IT READS IS OF BULK AT MOST 1048576: true; the input reads as it did. -/
def fnRightsAtUptoRow : OpenClaim := { program := "ythajlaelaebmnaa", sum := "5fdc700cd7aa671b75ea44a21efbeebcf4c5f1d3463e89c9dd4c2c9f0537674c", func := "loop.example/userspaces/laws.FnRightsAt", spec := "fnRightsAt", apart := false, narrowed := true }
def FnRightsAtUptoSaid : Prop := fnRightsAtUptoRow.holds Try.pinned (OpenSpec.upto fnRightsAtSpec)

/-- 'laws.FnExactDropRegion', WHERE WHAT IT READS IS OF BULK AT MOST 1048576: true; the input reads as it did. -/
def fnExactDropRegionUptoRow : OpenClaim := { program := "ythajlaelaebmnaa", sum := "5fdc700cd7aa671b75ea44a21efbeebcf4c5f1d3463e89c9dd4c2c9f0537674c", func := "loop.example/userspaces/laws.FnExactDropRegion", spec := "fnExactDropRegion", apart := false, narrowed := true }
def FnExactDropRegionUptoSaid : Prop := fnExactDropRegionUptoRow.holds Try.pinned (OpenSpec.upto fnExactDropRegionSpec)

/-- 'laws.FnExactSetRegion', WHERE WHAT IT READS IS OF BULK AT MOST 1048576: true; the input reads as it did. -/
def fnExactSetRegionUptoRow : OpenClaim := { program := "ythajlaelaebmnaa", sum := "5fdc700cd7aa671b75ea44a21efbeebcf4c5f1d3463e89c9dd4c2c9f0537674c", func := "loop.example/userspaces/laws.FnExactSetRegion", spec := "fnExactSetRegion", apart := false, narrowed := true }
def FnExactSetRegionUptoSaid : Prop := fnExactSetRegionUptoRow.holds Try.pinned (OpenSpec.upto fnExactSetRegionSpec)

/-- 'laws.FnSetRegion', WHERE WHAT IT READS IS OF BULK AT MOST 1048576: true; the input reads as it did. -/
def fnSetRegionUptoRow : OpenClaim := { program := "ythajlaelaebmnaa", sum := "5fdc700cd7aa671b75ea44a21efbeebcf4c5f1d3463e89c9dd4c2c9f0537674c", func := "loop.example/userspaces/laws.FnSetRegion", spec := "fnSetRegion", apart := false, narrowed := true }
def FnSetRegionUptoSaid : Prop := fnSetRegionUptoRow.holds Try.pinned (OpenSpec.upto fnSetRegionSpec)

/-- 'laws.FnDropRegion', WHERE WHAT IT READS IS OF BULK AT MOST 1048576: true; the input reads as it did. -/
def fnDropRegionUptoRow : OpenClaim := { program := "ythajlaelaebmnaa", sum := "5fdc700cd7aa671b75ea44a21efbeebcf4c5f1d3463e89c9dd4c2c9f0537674c", func := "loop.example/userspaces/laws.FnDropRegion", spec := "fnDropRegion", apart := false, narrowed := true }
def FnDropRegionUptoSaid : Prop := fnDropRegionUptoRow.holds Try.pinned (OpenSpec.upto fnDropRegionSpec)

end Rows
end Go.Proofs.Ythajlaelaebmnaa
