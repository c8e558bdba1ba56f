/- A guarded operation whose guard holds goes as if it had none. No condition. -/
import Derived.Test.YtekmfphlccomaaaBase
namespace Go.Proofs.Ytekmfphlccomaaa
open Go.RowKit
section
variable {P : Program} {ops : Array Oper} {Q : Exit → Act → World → Prop} {a : Act} {w : World} {rest : List Oper} {o : Oper}
theorem wpList_unguard (hw : Region.wanted o (yielded ops a.tmps) = true) (h : wpList P ops Q ({ o with guard := none } :: rest) a w) : wpList P ops Q (o :: rest) a w := by
  simp only [wpList, hw, if_true]
  simp only [wpList, Region.wanted, if_true] at h
  exact h
end
end Go.Proofs.Ytekmfphlccomaaa
