/-
  The program's simpler: what a step that takes two makes of parts that are simple.
  Conditions: as stated at each. (Printed by wip/gen/s3.py.)
-/
import Derived.Test.YtamhpgledbmnoaaGreatDoorKS
namespace Go.Proofs.YtamhpgledbmnoaaGreatDoor
set_option linter.unusedVariables false
set_option linter.unusedSimpArgs false
open Go.RowKit
theorem dec_t {a b : List Int} (h : a = b) : decide (a = b) = true := by simpa using h
theorem dec_f {a b : List Int} (h : a ≠ b) : decide (a = b) = false := by simpa using h
theorem is_zero {t : Pl.Tr} (ok : t.ok) : t.post = [0] ↔ t = .leaf 0 := ⟨fun h => Pl.post_inj ok Pl.zero_ok h, fun h => by rw [h]; rfl⟩
end Go.Proofs.YtamhpgledbmnoaaGreatDoor
