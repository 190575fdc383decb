/-
  What a reader of a journal leaves.
  Conditions: none.
-/
import Derived.Test.YtamhpgledbmnoaaDoorPy
import Derived.Test.YtamhpgledbmnoaaDoorDl
namespace Go.Proofs.YtamhpgledbmnoaaDoor
set_option linter.unusedVariables false
open Go.RowKit
/-- What a reader of a journal leaves. -/
def OutJ (x : List Pl.Dd × Nat) (w : World) (e : Ending) (w' : World) : Prop :=
  ∃ A c, e = .returned (.tuple #[.slice A x.1.length c, .int .i64 (x.2 : Int)]) ∧ w'.ownsRow w.heap.size 26 3 (.slice A x.1.length c) x.1.length (D3 x.1) ∧ Below w.heap.size w w'
end Go.Proofs.YtamhpgledbmnoaaDoor
