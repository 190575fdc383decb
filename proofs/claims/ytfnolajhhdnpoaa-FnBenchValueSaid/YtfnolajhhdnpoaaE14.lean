/-
  The laws' helpers on codes: whether two are equal; how many operations an expression has.
  Conditions: as stated at each.
-/
import Derived.Test.YtfnolajhhdnpoaaKC
import Derived.Test.YtfnolajhhdnpoaaKP
namespace Go.Proofs.Ytfnolajhhdnpoaa
set_option linter.unusedVariables false
set_option linter.unusedSimpArgs false
open Go.RowKit
end Go.Proofs.Ytfnolajhhdnpoaa
