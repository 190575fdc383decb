/-
  The tops of all lanes, case by case: how many they are and where the highest lies. No program is in sight.
-/
import Derived.Test.YtanaafdnnjkimaaPj
namespace Go.Proofs.Ytanaafdnnjkimaa
set_option linter.unusedVariables false
set_option linter.unusedSimpArgs false
open Go.RowKit
namespace Pl
/-- A number and how many of its bits are 1, for all tops. -/
def topsTable : List (Int × Int) := [(1, 1), (2, 1), (3, 2), (4, 1), (7, 3), (8, 1), (10, 2), (15, 4), (16, 1), (31, 5), (32, 1), (36, 2), (42, 3), (63, 6), (64, 1), (127, 7), (128, 1), (136, 2), (170, 4), (255, 8), (256, 1), (292, 3), (511, 9), (512, 1), (528, 2), (682, 5), (1023, 10), (1024, 1), (2047, 11), (2048, 1), (2080, 2), (2184, 3), (2340, 4), (2730, 6), (4095, 12)]
def topsAll : Bool := (List.range 13).all fun k => (List.range 13).all fun l =>
  !(lv k l) || (decide ((topsOf k l, (many k l : Int)) ∈ topsTable) && decide (topsOf k l / 2 ^ (k - 1) = 1))
theorem topsAll_t : topsAll = true := by decide +kernel
theorem tops_case {k l : Int} (h : lv k l = true) : (topsOf k l, (many k l : Int)) ∈ topsTable ∧ topsOf k l / 2 ^ (k.toNat - 1) = 1 := by
  obtain ⟨h0, h1, h2, h3, h4⟩ := lv_t h
  obtain ⟨K, rfl⟩ := Int.eq_ofNat_of_zero_le (show 0 ≤ k by omega)
  obtain ⟨L, rfl⟩ := Int.eq_ofNat_of_zero_le (show 0 ≤ l by omega)
  have a := topsAll_t
  unfold topsAll at a
  have b := List.all_eq_true.1 a K (List.mem_range.2 (by omega))
  have c := List.all_eq_true.1 b L (List.mem_range.2 (by omega))
  rw [h] at c
  simp only [Bool.not_true, Bool.false_or, Bool.and_eq_true, decide_eq_true_eq] at c
  exact c
end Pl
end Go.Proofs.Ytanaafdnnjkimaa
