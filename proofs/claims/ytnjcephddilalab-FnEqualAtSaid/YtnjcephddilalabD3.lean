/-
  What the laws draw out of their codes: a width and words, always numbers in a small range; nothing that was there turns.
  Conditions: none but those of the model.
-/
import Derived.Test.YtnjcephddilalabD2
namespace Go.Proofs.Ytnjcephddilalab
set_option linter.unusedVariables false
set_option linter.unusedSimpArgs false
open Go.RowKit

theorem open_below {w w1 w2 : World} {R : Nat} (h : Below w.heap.size w w1) (hg : w1.grownBy w2 (some R)) (hR : w.heap.size ≤ R) : Below w.heap.size w w2 :=
  h.grown hg h.size (fun k hk => by injection hk with hk; omega)
def Out2 (w : World) (e : Ending) (w' : World) : Prop := ∃ k x : Int, e = .returned (.tuple #[.int .i64 k, .int .i64 x]) ∧ -1 ≤ k ∧ k ≤ 13 ∧ -2 ≤ x ∧ x ≤ 4096 ∧ Below w.heap.size w w'
def Out3 (w : World) (e : Ending) (w' : World) : Prop := ∃ k x y : Int, e = .returned (.tuple #[.int .i64 k, .int .i64 x, .int .i64 y]) ∧ -1 ≤ k ∧ k ≤ 13 ∧ -2 ≤ x ∧ x ≤ 4096 ∧ -2 ≤ y ∧ y ≤ 4096 ∧ Below w.heap.size w w'
def Out4 (w : World) (e : Ending) (w' : World) : Prop := ∃ k x y z : Int, e = .returned (.tuple #[.int .i64 k, .int .i64 x, .int .i64 y, .int .i64 z]) ∧ -1 ≤ k ∧ k ≤ 13 ∧ -2 ≤ x ∧ x ≤ 4096 ∧ -2 ≤ y ∧ y ≤ 4096 ∧ -2 ≤ z ∧ z ≤ 4096 ∧ Below w.heap.size w w'
theorem results_tmp4 {fn : Func} {t u v x : Tmp} (h : fn.results = #[.tmp t, .tmp u, .tmp v, .tmp x]) (tmps : Array Value) (P : Program) (w : World) :
    (results fn tmps).run P w = .ok (.tuple #[tmps.getD t undef, tmps.getD u undef, tmps.getD v undef, tmps.getD x undef]) w := by simp [results, h]


















end Go.Proofs.Ytnjcephddilalab
