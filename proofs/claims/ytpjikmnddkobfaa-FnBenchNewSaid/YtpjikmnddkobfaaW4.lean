/-
  Contracts of the functions on lanes.
  Conditions: as stated at each.
-/
import Derived.Test.YtpjikmnddkobfaaW1
import Derived.Test.YtpjikmnddkobfaaSl
import Derived.Test.YtpjikmnddkobfaaPn
namespace Go.Proofs.Ytpjikmnddkobfaa
set_option linter.unusedVariables false
set_option linter.unusedSimpArgs false
open Go.RowKit

end Go.Proofs.Ytpjikmnddkobfaa
