/-
  Runs of deeds, step by step.
  Conditions: none.
-/
import Derived.Test.YtamhpgledbmnoaaGreatDl
namespace Go.Proofs.YtamhpgledbmnoaaGreat
set_option linter.unusedVariables false
namespace Pl
theorem runD_step {b b1 b2 : Bn} {ds : List Dd} {d : Dd} {j q : Nat} {ok : Bool} (h : runD b (ds.take j) = (b1, q)) (hd : ds[j]? = some d) (hs : doB b1 d = (b2, ok)) : runD b (ds.take (j + 1)) = (b2, q + if ok then 1 else 0) := by
  rw [runD_take hd, h]
  unfold runS
  dsimp only
  rw [hs]
theorem runD_v {b b1 : Bn} {ds : List Dd} {j q : Nat} (hv : benchValid b = true) (h : runD b (ds.take j) = (b1, q)) : benchValid b1 = true := by
  have := (runD_valid hv (ds.take j)).1
  rwa [h] at this
theorem runB_end {b b1 : Bn} {ds : List Dd} {l q : Nat} (hv : benchValid b = true) (hl : ds.length = l) (hl' : l ≤ 40) (h : runD b (ds.take l) = (b1, q)) : runB b ds = (b1, q) := by
  rw [runB_t hv (by omega), ← h, List.take_of_length_le (by omega)]
end Pl
end Go.Proofs.YtamhpgledbmnoaaGreat
