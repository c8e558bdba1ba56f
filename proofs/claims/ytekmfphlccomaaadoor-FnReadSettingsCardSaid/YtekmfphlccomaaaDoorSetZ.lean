/- SettingsText: the contracts, ended with what is owned. Condition: lists and texts shorter than 2^63. -/
import Derived.Test.YtekmfphlccomaaaDoorSetY
namespace Go.Proofs.YtekmfphlccomaaaDoor
open Go.RowKit

theorem specSettingsTextS (a : Option Addr) (cap : Nat) (l : List Set) (w : World) (hl : l.length ≤ 9223372036854775807) (hs : FitsS l) (hc : Rd 2 encSet w a l) :
    Calls Tryd.prog 8 #[.slice a l.length cap] w fun e w' => ∃ s, e = .returned (.string s) ∧ TextR l s ∧ Sep w w' [] :=
  (specSettingsText a cap l w hl hs hc).mono fun _ _ ⟨s, h, hR, hE⟩ => ⟨s, h, hR, Sep.of_ext hE⟩
theorem implSettingsTextS (a : Option Addr) (cap : Nat) (l : List Set) (w : World) (hl : l.length ≤ 9223372036854775807) (hs : FitsS l) (hc : Rd 2 encSet w a l) :
    Calls Tryd.prog 7 #[.slice a l.length cap] w fun e w' => ∃ s, e = .returned (.string s) ∧ TextR l s ∧ Sep w w' [] :=
  (implSettingsText a cap l w hl hs hc).mono fun _ _ ⟨s, h, hR, hE⟩ => ⟨s, h, hR, Sep.of_ext hE⟩
end Go.Proofs.YtekmfphlccomaaaDoor
