/-
  The exact law of ReadExpr: for every text the program and the reference agree.
  Conditions: none.
-/
import Derived.Test.YtnjcephddilalabT9
namespace Go.Proofs.Ytnjcephddilalab
set_option linter.unusedVariables false
set_option linter.unusedSimpArgs false
open Go.RowKit
theorem Ba_data (s : ByteArray) : Ba s.data.toList = s := by
  apply ByteArray.ext
  simp [Ba]
/-- What ReadExpr leaves, under its own name. -/
def OutR2 (X : List Int) (ok : Bool) (w : World) (e : Ending) (w' : World) : Prop :=
  ∃ (A : Option Addr) (c : Nat), e = .returned (.tuple #[.slice A X.length c, .bool ok]) ∧ w'.ownsRow w.heap.size 3 1 (.slice A X.length c) X.length (I64 X) ∧ Below w.heap.size w w'
theorem outR2 {r : Option (List Int)} {w : World} {e : Ending} {w' : World} (h : OutRd r w e w') : OutR2 (r.getD []) r.isSome w e w' := by
  obtain ⟨ys, A, c, rfl, h1, h2, h3⟩ := h
  exact ⟨A, c, h1, h2, h3⟩
theorem readE_len {s : List UInt8} : ((Pl.readE s).getD []).length ≤ 24 := by
  cases h : Pl.readE s with
  | none => simp
  | some e => exact (Pl.valid_t (Pl.readE_valid h)).2.1
end Go.Proofs.Ytnjcephddilalab
