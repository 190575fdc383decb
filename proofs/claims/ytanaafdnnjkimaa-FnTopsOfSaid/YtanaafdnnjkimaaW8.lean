/-
  How many bits of a word of tops are 1, as the library's OnesCount counts them.
  Conditions: as stated at each.
-/
import Derived.Test.YtanaafdnnjkimaaW1
import Derived.Test.YtanaafdnnjkimaaPt
namespace Go.Proofs.Ytanaafdnnjkimaa
set_option linter.unusedVariables false
set_option linter.unusedSimpArgs false
open Go.RowKit
set_option maxHeartbeats 4000000 in
theorem ones_64 (n r : Int) (w : World) (h : (n, r) ∈ Pl.topsTable) :
    Calls Try.prog 78 #[.int .u64 n] w fun e w' => e = .returned (.int .i64 r) ∧ w = w' := by
  simp only [Pl.topsTable, List.mem_cons, Prod.mk.injEq, List.not_mem_nil, or_false] at h
  rcases h with ⟨rfl, rfl⟩ | ⟨rfl, rfl⟩ | ⟨rfl, rfl⟩ | ⟨rfl, rfl⟩ | ⟨rfl, rfl⟩ | ⟨rfl, rfl⟩ | ⟨rfl, rfl⟩ | ⟨rfl, rfl⟩ | ⟨rfl, rfl⟩ | ⟨rfl, rfl⟩ | ⟨rfl, rfl⟩ | ⟨rfl, rfl⟩ | ⟨rfl, rfl⟩ | ⟨rfl, rfl⟩ | ⟨rfl, rfl⟩ | ⟨rfl, rfl⟩ | ⟨rfl, rfl⟩ | ⟨rfl, rfl⟩ | ⟨rfl, rfl⟩ | ⟨rfl, rfl⟩ | ⟨rfl, rfl⟩ | ⟨rfl, rfl⟩ | ⟨rfl, rfl⟩ | ⟨rfl, rfl⟩ | ⟨rfl, rfl⟩ | ⟨rfl, rfl⟩ | ⟨rfl, rfl⟩ | ⟨rfl, rfl⟩ | ⟨rfl, rfl⟩ | ⟨rfl, rfl⟩ | ⟨rfl, rfl⟩ | ⟨rfl, rfl⟩ | ⟨rfl, rfl⟩ | ⟨rfl, rfl⟩ | ⟨rfl, rfl⟩
  all_goals go_enter Try.func78, Try.ntmps78
  all_goals go_wp2
  all_goals go_ret
  all_goals exact ⟨by kernel_rfl, rfl⟩
set_option maxHeartbeats 400000 in
theorem ones_count (n r : Int) (w : World) (h : (n, r) ∈ Pl.topsTable) :
    Calls Try.prog 58 #[.int .u64 n] w fun e w' => e = .returned (.int .i64 r) ∧ w = w' := by
  go_enter Try.func58, Try.ntmps58
  go_wp2_with fail
  refine (ones_64 n r _ h).mono ?_
  rintro e w' ⟨rfl, rfl⟩
  go_wp2
  go_ret
  exact ⟨rfl, rfl⟩
set_option maxHeartbeats 400000 in
theorem impl_OnesOf (k n r : Int) (w : World) (hk : Pl.wvB k n = true) (h : (n, r) ∈ Pl.topsTable) :
    Calls Try.prog 25 #[.int .i64 k, .int .i64 n] w fun e w' => e = .returned (.int .i64 r) ∧ w = w' := by
  obtain ⟨h0, h1, h2, h3⟩ := Pl.wv_t hk
  have hp := Pl.pw_lt k h1
  go_enter Try.func25, Try.ntmps25
  go_wp2_with fail
  refine (impl_WordValid _ _ _).mono ?_
  rintro e w' ⟨rfl, rfl⟩
  go_wp2_with fail
  refine (ones_count n r _ h).mono ?_
  rintro e w' ⟨rfl, rfl⟩
  go_wp2
  go_ret
  exact ⟨rfl, rfl⟩
end Go.Proofs.Ytanaafdnnjkimaa
