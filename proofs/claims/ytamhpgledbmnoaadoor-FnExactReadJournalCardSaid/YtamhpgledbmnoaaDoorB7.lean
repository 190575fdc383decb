/-
  What a bench is worth: contracts of the program and of the reference.
  Conditions: as stated at each.
-/
import Derived.Test.YtamhpgledbmnoaaDoorKN
import Derived.Test.YtamhpgledbmnoaaDoorKE
namespace Go.Proofs.YtamhpgledbmnoaaDoor
set_option linter.unusedVariables false
set_option linter.unusedSimpArgs false
open Go.RowKit
end Go.Proofs.YtamhpgledbmnoaaDoor
