/-
  Contracts of functions on words.
  Conditions: as stated at each.
-/
import Derived.Test.YtamhpgledbmnoaaDoorKB
import Derived.Test.YtamhpgledbmnoaaDoorKP
namespace Go.Proofs.YtamhpgledbmnoaaDoor
set_option linter.unusedVariables false
set_option linter.unusedSimpArgs false
open Go.RowKit

end Go.Proofs.YtamhpgledbmnoaaDoor
namespace Go.Proofs.YtamhpgledbmnoaaDoor
set_option linter.unusedVariables false
set_option linter.unusedSimpArgs false
open Go.RowKit
















end Go.Proofs.YtamhpgledbmnoaaDoor
namespace Go.Proofs.YtamhpgledbmnoaaDoor
set_option linter.unusedVariables false
set_option linter.unusedSimpArgs false
open Go.RowKit

end Go.Proofs.YtamhpgledbmnoaaDoor
namespace Go.Proofs.YtamhpgledbmnoaaDoor
set_option linter.unusedVariables false
set_option linter.unusedSimpArgs false
open Go.RowKit

end Go.Proofs.YtamhpgledbmnoaaDoor
