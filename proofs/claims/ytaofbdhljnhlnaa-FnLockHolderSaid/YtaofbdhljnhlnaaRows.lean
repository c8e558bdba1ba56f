/-
  No cell of these rows narrows 'for every input' (looked for: loops, veiled, ifaces, maps, wideKeys, modest, calm, conditions, laid).
  DERIVED. THE GIVEN ROWS OF THIS SEAT. 8 by the template 'for every input the law returns true; each argument reads behind the call as it read before'; 0 by the template 'total and deterministic' (their statements: YtaofbdhljnhlnaaTotals.lean).
  GIVEN WITH THE SEED: the statements are not yours to turn. If you find one false, say at which input.
  Laid BY PROGRAM, IN A SANDBOX (cutbox-rows.mjs): the forced cells as the released guide's own fill.sh prints them over the translation a182ed1b90f0d53d… (all of the seat's roots in one cut). By AI agents, Wed Nov 11 2026. No macro, syntax, notation, axiom, sorry.
-/
import Derived.Test.YtaofbdhljnhlnaaChecked
import GoSem.Claim
import GoSem.ClaimJoined
import GoSem.ClaimMapViews
import Derived.JoinedTies
import Derived.KernelRfl
namespace Go.Proofs.Ytaofbdhljnhlnaa
/- THE CELL 'sum', in the pinned program and in every row, IS THE sha256 OF THE DUMP (.gsa) THAT YtaofbdhljnhlnaaProg.lean LOADS. Nothing in Lean hashes anything: it is a label: what it is worth is what the hold of that sum in a sandbox is worth. -/
noncomputable def Try.pinned : Pinned := { name := "ytaofbdhljnhlnaa", sum := "a182ed1b90f0d53d8894789a90a54ef4eceafda6d74c9ec374636ba7b12d43dc", checked := Try.checked }
namespace Rows
def none {H : Type} : Left H := { results := [], args := [] }

/-- 'laws.FnExactLocksValid': WHATEVER THE INPUT: true; the input reads as it did. -/
def fnExactLocksValidSpec : ChangeSpec := { name := "fnExactLocksValid", fn := fun _ => fun
  | [d] => { results := [.lit (.bool true)], args := [d] }
  | _ => none }
def fnExactLocksValidRow : OpenClaim := { program := "ytaofbdhljnhlnaa", sum := "a182ed1b90f0d53d8894789a90a54ef4eceafda6d74c9ec374636ba7b12d43dc", func := "loop.example/userspaces/laws.FnExactLocksValid", spec := "fnExactLocksValid", unfollowed := true, recurses := true, apart := false }
def FnExactLocksValidSaid : Prop := fnExactLocksValidRow.holds Try.pinned (OpenSpec.ofChange fnExactLocksValidSpec)

/-- ITS FALSE NEIGHBOUR: 'it returns false'. Refute it at one input. -/
def fnExactLocksValidWrong : ChangeSpec := { name := "fnExactLocksValid", fn := fun _ => fun
  | [d] => { results := [.lit (.bool false)], args := [d] }
  | _ => none }
def FnExactLocksValidWrongFalsely : Prop := fnExactLocksValidRow.holds Try.pinned (OpenSpec.ofChange fnExactLocksValidWrong)

/-- 'laws.FnExactLockHolder': WHATEVER THE INPUT: true; the input reads as it did. -/
def fnExactLockHolderSpec : ChangeSpec := { name := "fnExactLockHolder", fn := fun _ => fun
  | [d1, d2] => { results := [.lit (.bool true)], args := [d1, d2] }
  | _ => none }
def fnExactLockHolderRow : OpenClaim := { program := "ytaofbdhljnhlnaa", sum := "a182ed1b90f0d53d8894789a90a54ef4eceafda6d74c9ec374636ba7b12d43dc", func := "loop.example/userspaces/laws.FnExactLockHolder", spec := "fnExactLockHolder", unfollowed := true, recurses := true, apart := false }
def FnExactLockHolderSaid : Prop := fnExactLockHolderRow.holds Try.pinned (OpenSpec.ofChange fnExactLockHolderSpec)

/-- ITS FALSE NEIGHBOUR: 'it returns false'. Refute it at one input. -/
def fnExactLockHolderWrong : ChangeSpec := { name := "fnExactLockHolder", fn := fun _ => fun
  | [d1, d2] => { results := [.lit (.bool false)], args := [d1, d2] }
  | _ => none }
def FnExactLockHolderWrongFalsely : Prop := fnExactLockHolderRow.holds Try.pinned (OpenSpec.ofChange fnExactLockHolderWrong)

/-- 'laws.FnLocksValid': WHATEVER THE INPUT: true; the input reads as it did. -/
def fnLocksValidSpec : ChangeSpec := { name := "fnLocksValid", fn := fun _ => fun
  | [d] => { results := [.lit (.bool true)], args := [d] }
  | _ => none }
def fnLocksValidRow : OpenClaim := { program := "ytaofbdhljnhlnaa", sum := "a182ed1b90f0d53d8894789a90a54ef4eceafda6d74c9ec374636ba7b12d43dc", func := "loop.example/userspaces/laws.FnLocksValid", spec := "fnLocksValid", unfollowed := true, recurses := true, apart := false }
def FnLocksValidSaid : Prop := fnLocksValidRow.holds Try.pinned (OpenSpec.ofChange fnLocksValidSpec)

/-- ITS FALSE NEIGHBOUR: 'it returns false'. Refute it at one input. -/
def fnLocksValidWrong : ChangeSpec := { name := "fnLocksValid", fn := fun _ => fun
  | [d] => { results := [.lit (.bool false)], args := [d] }
  | _ => none }
def FnLocksValidWrongFalsely : Prop := fnLocksValidRow.holds Try.pinned (OpenSpec.ofChange fnLocksValidWrong)

/-- 'laws.FnLockHolder': WHATEVER THE INPUT: true; the input reads as it did. -/
def fnLockHolderSpec : ChangeSpec := { name := "fnLockHolder", fn := fun _ => fun
  | [d] => { results := [.lit (.bool true)], args := [d] }
  | _ => none }
def fnLockHolderRow : OpenClaim := { program := "ytaofbdhljnhlnaa", sum := "a182ed1b90f0d53d8894789a90a54ef4eceafda6d74c9ec374636ba7b12d43dc", func := "loop.example/userspaces/laws.FnLockHolder", spec := "fnLockHolder", unfollowed := true, recurses := true, apart := false }
def FnLockHolderSaid : Prop := fnLockHolderRow.holds Try.pinned (OpenSpec.ofChange fnLockHolderSpec)

/-- ITS FALSE NEIGHBOUR: 'it returns false'. Refute it at one input. -/
def fnLockHolderWrong : ChangeSpec := { name := "fnLockHolder", fn := fun _ => fun
  | [d] => { results := [.lit (.bool false)], args := [d] }
  | _ => none }
def FnLockHolderWrongFalsely : Prop := fnLockHolderRow.holds Try.pinned (OpenSpec.ofChange fnLockHolderWrong)

/-- 'laws.FnExactFreeBytes': WHATEVER THE INPUT: true; the input reads as it did. -/
def fnExactFreeBytesSpec : ChangeSpec := { name := "fnExactFreeBytes", fn := fun _ => fun
  | [d1, d2, d3, d4] => { results := [.lit (.bool true)], args := [d1, d2, d3, d4] }
  | _ => none }
def fnExactFreeBytesRow : OpenClaim := { program := "ytaofbdhljnhlnaa", sum := "a182ed1b90f0d53d8894789a90a54ef4eceafda6d74c9ec374636ba7b12d43dc", func := "loop.example/userspaces/laws.FnExactFreeBytes", spec := "fnExactFreeBytes", unfollowed := true, recurses := true, apart := false }
def FnExactFreeBytesSaid : Prop := fnExactFreeBytesRow.holds Try.pinned (OpenSpec.ofChange fnExactFreeBytesSpec)

/-- ITS FALSE NEIGHBOUR: 'it returns false'. Refute it at one input. -/
def fnExactFreeBytesWrong : ChangeSpec := { name := "fnExactFreeBytes", fn := fun _ => fun
  | [d1, d2, d3, d4] => { results := [.lit (.bool false)], args := [d1, d2, d3, d4] }
  | _ => none }
def FnExactFreeBytesWrongFalsely : Prop := fnExactFreeBytesRow.holds Try.pinned (OpenSpec.ofChange fnExactFreeBytesWrong)

/-- 'laws.FnFreeBytes': WHATEVER THE INPUT: true; the input reads as it did. -/
def fnFreeBytesSpec : ChangeSpec := { name := "fnFreeBytes", fn := fun _ => fun
  | [d] => { results := [.lit (.bool true)], args := [d] }
  | _ => none }
def fnFreeBytesRow : OpenClaim := { program := "ytaofbdhljnhlnaa", sum := "a182ed1b90f0d53d8894789a90a54ef4eceafda6d74c9ec374636ba7b12d43dc", func := "loop.example/userspaces/laws.FnFreeBytes", spec := "fnFreeBytes", unfollowed := true, recurses := true, apart := false }
def FnFreeBytesSaid : Prop := fnFreeBytesRow.holds Try.pinned (OpenSpec.ofChange fnFreeBytesSpec)

/-- ITS FALSE NEIGHBOUR: 'it returns false'. Refute it at one input. -/
def fnFreeBytesWrong : ChangeSpec := { name := "fnFreeBytes", fn := fun _ => fun
  | [d] => { results := [.lit (.bool false)], args := [d] }
  | _ => none }
def FnFreeBytesWrongFalsely : Prop := fnFreeBytesRow.holds Try.pinned (OpenSpec.ofChange fnFreeBytesWrong)

/-- 'laws.FnSetLock': WHATEVER THE INPUT: true; the input reads as it did. -/
def fnSetLockSpec : ChangeSpec := { name := "fnSetLock", fn := fun _ => fun
  | [d] => { results := [.lit (.bool true)], args := [d] }
  | _ => none }
def fnSetLockRow : OpenClaim := { program := "ytaofbdhljnhlnaa", sum := "a182ed1b90f0d53d8894789a90a54ef4eceafda6d74c9ec374636ba7b12d43dc", func := "loop.example/userspaces/laws.FnSetLock", spec := "fnSetLock", unfollowed := true, recurses := true, apart := false }
def FnSetLockSaid : Prop := fnSetLockRow.holds Try.pinned (OpenSpec.ofChange fnSetLockSpec)

/-- ITS FALSE NEIGHBOUR: 'it returns false'. Refute it at one input. -/
def fnSetLockWrong : ChangeSpec := { name := "fnSetLock", fn := fun _ => fun
  | [d] => { results := [.lit (.bool false)], args := [d] }
  | _ => none }
def FnSetLockWrongFalsely : Prop := fnSetLockRow.holds Try.pinned (OpenSpec.ofChange fnSetLockWrong)

/-- 'laws.FnExactSetLock': WHATEVER THE INPUT: true; the input reads as it did. -/
def fnExactSetLockSpec : ChangeSpec := { name := "fnExactSetLock", fn := fun _ => fun
  | [d1, d2] => { results := [.lit (.bool true)], args := [d1, d2] }
  | _ => none }
def fnExactSetLockRow : OpenClaim := { program := "ytaofbdhljnhlnaa", sum := "a182ed1b90f0d53d8894789a90a54ef4eceafda6d74c9ec374636ba7b12d43dc", func := "loop.example/userspaces/laws.FnExactSetLock", spec := "fnExactSetLock", unfollowed := true, recurses := true, apart := false }
def FnExactSetLockSaid : Prop := fnExactSetLockRow.holds Try.pinned (OpenSpec.ofChange fnExactSetLockSpec)

/-- ITS FALSE NEIGHBOUR: 'it returns false'. Refute it at one input. -/
def fnExactSetLockWrong : ChangeSpec := { name := "fnExactSetLock", fn := fun _ => fun
  | [d1, d2] => { results := [.lit (.bool false)], args := [d1, d2] }
  | _ => none }
def FnExactSetLockWrongFalsely : Prop := fnExactSetLockRow.holds Try.pinned (OpenSpec.ofChange fnExactSetLockWrong)

/- THE SECOND FORM. 'bulk': how many values and letters a reading holds, each counted each time it is reached (what is shared counts as often as it is met; a slice's spare places count too). A statement '..UptoSaid' is the law's where the arguments, and the package variables that the reading takes, are together of bulk at most 1048576: NARROWER than '..Said'. Prove '..Said' where nothing that the law and all that it calls make is longer than what came in: it says more and counts as full. Else prove '..UptoSaid'. A law counts once. -/
mutual
def uptoBulk {H : Type} : DataW H → Nat
  | .lit (.string bytes) => bytes.length + 1
  | .lit _ => 1
  | .nil => 1
  | .ptr d => uptoBulk d + 1
  | .slice elems spare => uptoBulkAll elems + uptoBulkAll spare + 1
  | .agg parts => uptoBulkAll parts + 1
  | .iface _ d => uptoBulk d + 1
  | .map entries => uptoBulkEntries entries + 1
  | .held _ => 1
def uptoBulkAll {H : Type} : List (DataW H) → Nat
  | [] => 0
  | d :: r => uptoBulk d + uptoBulkAll r
def uptoBulkEntries {H : Type} : List (Lit × DataW H) → Nat
  | [] => 0
  | x :: r => uptoBulkEntry x + uptoBulkEntries r
def uptoBulkEntry {H : Type} : Lit × DataW H → Nat
  | (.string bytes, d) => bytes.length + uptoBulk d + 1
  | (_, d) => uptoBulk d + 1
 end
def uptoSmall : (H : Type) → List (DataW H) → Bool := fun _ ds => decide (uptoBulkAll ds ≤ 1048576)
def OpenSpec.upto (s : _root_.Go.ChangeSpec) : _root_.Go.OpenSpec := { _root_.Go.OpenSpec.ofChange s with cond := some uptoSmall }

/-- 'laws.FnExactLocksValid', WHERE WHAT IT READS IS OF BULK AT MOST 1048576: true; the input reads as it did. -/
def fnExactLocksValidUptoRow : OpenClaim := { program := "ytaofbdhljnhlnaa", sum := "a182ed1b90f0d53d8894789a90a54ef4eceafda6d74c9ec374636ba7b12d43dc", func := "loop.example/userspaces/laws.FnExactLocksValid", spec := "fnExactLocksValid", unfollowed := true, recurses := true, apart := false, narrowed := true }
def FnExactLocksValidUptoSaid : Prop := fnExactLocksValidUptoRow.holds Try.pinned (OpenSpec.upto fnExactLocksValidSpec)

/-- 'laws.FnExactLockHolder', WHERE WHAT IT READS IS OF BULK AT MOST 1048576: true; the input reads as it did. -/
def fnExactLockHolderUptoRow : OpenClaim := { program := "ytaofbdhljnhlnaa", sum := "a182ed1b90f0d53d8894789a90a54ef4eceafda6d74c9ec374636ba7b12d43dc", func := "loop.example/userspaces/laws.FnExactLockHolder", spec := "fnExactLockHolder", unfollowed := true, recurses := true, apart := false, narrowed := true }
def FnExactLockHolderUptoSaid : Prop := fnExactLockHolderUptoRow.holds Try.pinned (OpenSpec.upto fnExactLockHolderSpec)

/-- 'laws.FnLocksValid', WHERE WHAT IT READS IS OF BULK AT MOST 1048576: true; the input reads as it did. -/
def fnLocksValidUptoRow : OpenClaim := { program := "ytaofbdhljnhlnaa", sum := "a182ed1b90f0d53d8894789a90a54ef4eceafda6d74c9ec374636ba7b12d43dc", func := "loop.example/userspaces/laws.FnLocksValid", spec := "fnLocksValid", unfollowed := true, recurses := true, apart := false, narrowed := true }
def FnLocksValidUptoSaid : Prop := fnLocksValidUptoRow.holds Try.pinned (OpenSpec.upto fnLocksValidSpec)

/-- 'laws.FnLockHolder', WHERE WHAT IT READS IS OF BULK AT MOST 1048576: true; the input reads as it did. -/
def fnLockHolderUptoRow : OpenClaim := { program := "ytaofbdhljnhlnaa", sum := "a182ed1b90f0d53d8894789a90a54ef4eceafda6d74c9ec374636ba7b12d43dc", func := "loop.example/userspaces/laws.FnLockHolder", spec := "fnLockHolder", unfollowed := true, recurses := true, apart := false, narrowed := true }
def FnLockHolderUptoSaid : Prop := fnLockHolderUptoRow.holds Try.pinned (OpenSpec.upto fnLockHolderSpec)

/-- 'laws.FnExactFreeBytes', WHERE WHAT IT READS IS OF BULK AT MOST 1048576: true; the input reads as it did. -/
def fnExactFreeBytesUptoRow : OpenClaim := { program := "ytaofbdhljnhlnaa", sum := "a182ed1b90f0d53d8894789a90a54ef4eceafda6d74c9ec374636ba7b12d43dc", func := "loop.example/userspaces/laws.FnExactFreeBytes", spec := "fnExactFreeBytes", unfollowed := true, recurses := true, apart := false, narrowed := true }
def FnExactFreeBytesUptoSaid : Prop := fnExactFreeBytesUptoRow.holds Try.pinned (OpenSpec.upto fnExactFreeBytesSpec)

/-- 'laws.FnFreeBytes', WHERE WHAT IT READS IS OF BULK AT MOST 1048576: true; the input reads as it did. -/
def fnFreeBytesUptoRow : OpenClaim := { program := "ytaofbdhljnhlnaa", sum := "a182ed1b90f0d53d8894789a90a54ef4eceafda6d74c9ec374636ba7b12d43dc", func := "loop.example/userspaces/laws.FnFreeBytes", spec := "fnFreeBytes", unfollowed := true, recurses := true, apart := false, narrowed := true }
def FnFreeBytesUptoSaid : Prop := fnFreeBytesUptoRow.holds Try.pinned (OpenSpec.upto fnFreeBytesSpec)

/-- 'laws.FnSetLock', WHERE WHAT IT READS IS OF BULK AT MOST 1048576: true; the input reads as it did. -/
def fnSetLockUptoRow : OpenClaim := { program := "ytaofbdhljnhlnaa", sum := "a182ed1b90f0d53d8894789a90a54ef4eceafda6d74c9ec374636ba7b12d43dc", func := "loop.example/userspaces/laws.FnSetLock", spec := "fnSetLock", unfollowed := true, recurses := true, apart := false, narrowed := true }
def FnSetLockUptoSaid : Prop := fnSetLockUptoRow.holds Try.pinned (OpenSpec.upto fnSetLockSpec)

/-- 'laws.FnExactSetLock', WHERE WHAT IT READS IS OF BULK AT MOST 1048576: true; the input reads as it did. -/
def fnExactSetLockUptoRow : OpenClaim := { program := "ytaofbdhljnhlnaa", sum := "a182ed1b90f0d53d8894789a90a54ef4eceafda6d74c9ec374636ba7b12d43dc", func := "loop.example/userspaces/laws.FnExactSetLock", spec := "fnExactSetLock", unfollowed := true, recurses := true, apart := false, narrowed := true }
def FnExactSetLockUptoSaid : Prop := fnExactSetLockUptoRow.holds Try.pinned (OpenSpec.upto fnExactSetLockSpec)

end Rows
end Go.Proofs.Ytaofbdhljnhlnaa
