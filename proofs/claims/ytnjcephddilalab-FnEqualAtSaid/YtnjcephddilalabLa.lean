/-
  What the laws of the operations on words share: the law that a call is alive.
  Conditions: none.
-/
import Derived.Test.YtnjcephddilalabD3
import Derived.Test.YtnjcephddilalabW2
import Derived.Test.YtnjcephddilalabW3
import Derived.Test.YtnjcephddilalabW4
namespace Go.Proofs.Ytnjcephddilalab
set_option linter.unusedVariables false
set_option linter.unusedSimpArgs false
open Go.RowKit

theorem three (v : Bool) (p : Prop) : v = false ∨ (v = true ∧ p) ∨ (v = true ∧ ¬ p) := by
  cases v
  · exact .inl rfl
  · exact (Classical.em p).elim (fun h => .inr (.inl ⟨rfl, h⟩)) (fun h => .inr (.inr ⟨rfl, h⟩))
theorem four (v : Bool) (a b : Int) : v = false ∨ (v = true ∧ a < b) ∨ (v = true ∧ a = b) ∨ (v = true ∧ b < a) := by
  cases v
  · exact .inl rfl
  · rcases Int.lt_trichotomy a b with h | h | h
    · exact .inr (.inl ⟨rfl, h⟩)
    · exact .inr (.inr (.inl ⟨rfl, h⟩))
    · exact .inr (.inr (.inr ⟨rfl, h⟩))
set_option maxHeartbeats 1000000 in
theorem laws_alive (w : World) : Calls Try.prog 14 #[] w fun e w' => e = .returned (.bool true) ∧ Below w.heap.size w w' := by
  have e1 : Pl.wordAdd 4 9 9 = 2 := by decide
  have e2 : Pl.wordNot 3 0 = 7 := by decide
  go_enter Try.func14, Try.ntmps14
  go_wp2_with fail
  refine (impl_WordAdd _ _ _ _).mono ?_
  rintro e w1 ⟨rfl, hb1⟩
  go_wp2_with fail
  refine (impl_WordNot _ _ _).mono ?_
  rintro e w2 ⟨rfl, hb2⟩
  go_wp2
  go_ret
  exact ⟨rfl, hb1.trans (hb2.mono hb1.size)⟩
end Go.Proofs.Ytnjcephddilalab
