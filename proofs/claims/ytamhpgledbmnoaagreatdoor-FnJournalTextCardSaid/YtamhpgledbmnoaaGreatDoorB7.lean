/-
  What a bench is worth: contracts of the program and of the reference.
  Conditions: as stated at each.
-/
import Derived.Test.YtamhpgledbmnoaaGreatDoorKN
import Derived.Test.YtamhpgledbmnoaaGreatDoorKE
namespace Go.Proofs.YtamhpgledbmnoaaGreatDoor
set_option linter.unusedVariables false
set_option linter.unusedSimpArgs false
open Go.RowKit
end Go.Proofs.YtamhpgledbmnoaaGreatDoor
