/-
  Contracts of the functions on lanes.
  Conditions: as stated at each.
-/
import Derived.Test.YtnjcephddilalabW1
import Derived.Test.YtnjcephddilalabSl
import Derived.Test.YtnjcephddilalabPn
namespace Go.Proofs.Ytnjcephddilalab
set_option linter.unusedVariables false
set_option linter.unusedSimpArgs false
open Go.RowKit

end Go.Proofs.Ytnjcephddilalab
