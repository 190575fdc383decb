/-
  Contracts of the functions on lanes.
  Conditions: as stated at each.
-/
import Derived.Test.YtnjcephddilalaaW1
import Derived.Test.YtnjcephddilalaaSl
import Derived.Test.YtnjcephddilalaaPn
namespace Go.Proofs.Ytnjcephddilalaa
set_option linter.unusedVariables false
set_option linter.unusedSimpArgs false
open Go.RowKit

end Go.Proofs.Ytnjcephddilalaa
