/-
  The reference's comparison of lists, and benches with another expression.
  Conditions: as stated at each.
-/
import Derived.Test.YtamhpgledbmnoaaDoorO2
namespace Go.Proofs.YtamhpgledbmnoaaDoor
set_option linter.unusedVariables false
set_option linter.unusedSimpArgs false
open Go.RowKit
end Go.Proofs.YtamhpgledbmnoaaDoor
