/-
  Contracts of the reference's and the program's smallest functions on words: for all integers in the stated ranges they return what the plain functions say, and leave the world alone.
  Conditions: as stated at each.
-/
import Derived.Test.YtpjikmnddkobfaaBs
namespace Go.Proofs.Ytpjikmnddkobfaa
set_option linter.unusedVariables false
set_option linter.unusedSimpArgs false
open Go.RowKit

set_option maxHeartbeats 400000 in
theorem impl_greatest (a : Int) (w : World) (h0 : 0 ≤ a) (h1 : a ≤ 62) :
    Calls Try.prog 51 #[.int .i64 a] w fun e w' => e = .returned (.int .i64 (Pl.pw a - 1)) ∧ w = w' := by
  go_enter Try.func51, Try.ntmps51
  go_wp2
  go_ret
  exact ⟨ret_int (Pl.great_wrap a h0 h1), rfl⟩
set_option maxHeartbeats 400000 in
theorem impl_power (a : Int) (w : World) (h0 : 0 ≤ a) (h1 : a ≤ 62) :
    Calls Try.prog 60 #[.int .i64 a] w fun e w' => e = .returned (.int .i64 (Pl.pw a)) ∧ w = w' := by
  go_enter Try.func60, Try.ntmps60
  go_wp2
  go_ret
  exact ⟨ret_int (Pl.wrap_pw a h0 h1), rfl⟩
set_option maxHeartbeats 400000 in
theorem impl_cut (x k : Int) (w : World) (h0 : 0 ≤ k) (h1 : k ≤ 62) :
    Calls Try.prog 50 #[.int .i64 k, .int .i64 x] w fun e w' => e = .returned (.int .i64 (Pl.wmod k x)) ∧ w = w' := by
  go_enter Try.func50, Try.ntmps50
  go_wp2_with (go_at_call 51; refine (impl_greatest _ _ h0 h1).mono ?_; rintro e w' ⟨rfl, rfl⟩)
  go_ret
  exact ⟨ret_int (Pl.cut_eq x k h0 h1), rfl⟩
set_option maxHeartbeats 400000 in
theorem impl_WordValid (k x : Int) (w : World) :
    Calls Try.prog 44 #[.int .i64 k, .int .i64 x] w fun e w' => e = .returned (.bool (Pl.wvB k x)) ∧ w = w' := by
  cases h : Pl.wvB k x
  · have h' := Lib.hid (Pl.wv_f h)
    clear h
    by_cases h0 : 1 ≤ k
    · by_cases h1 : k ≤ 12
      · have hp := Pl.pw_lt k h1
        go_enter Try.func44, Try.ntmps44
        go_wp2_with (first | (go_at_call 51; refine (impl_greatest _ _ (by omega) (by omega)).mono ?_; rintro e w' ⟨rfl, rfl⟩) | go_in)
        all_goals (go_ret; exact ⟨ret_bool (by have := h'.out; first | rfl | (simp; omega)), rfl⟩)
      · go_enter Try.func44, Try.ntmps44
        go_wp2
        all_goals (go_ret; exact ⟨rfl, rfl⟩)
    · go_enter Try.func44, Try.ntmps44
      go_wp2
      all_goals (go_ret; exact ⟨rfl, rfl⟩)
  · obtain ⟨h0, h1, h2, h3⟩ := Pl.wv_t h
    have hp := Pl.pw_lt k h1
    clear h
    go_enter Try.func44, Try.ntmps44
    go_wp2_with (first | (go_at_call 51; refine (impl_greatest _ _ (by omega) (by omega)).mono ?_; rintro e w' ⟨rfl, rfl⟩) | go_in)
    go_ret
    exact ⟨ret_bool (by simp; omega), rfl⟩
set_option maxHeartbeats 400000 in
theorem impl_allValid2 (k a b : Int) (w : World) (B : Nat) (ha : w.cell? ⟨B, 0, none⟩ = some (.int .i64 a)) (hb : w.cell? ⟨B, 1, none⟩ = some (.int .i64 b)) :
    Calls Try.prog 30 #[.int .i64 k, .slice (some ⟨B, 0, none⟩) 2 2] w fun e w' => e = .returned (.bool (Pl.v2 k a b)) ∧ w = w' := by
  have hk : Pl.wvB k a = true → 1 ≤ k ∧ k ≤ 12 := fun h => ⟨(Pl.wv_t h).1, (Pl.wv_t h).2.1⟩
  have HK := Lib.hid hk
  clear hk
  go_enter Try.func30, Try.ntmps30
  go_wp2
  refine wp_loop_rounds 3 ?_
  repeat any_goals (rw [rounds_succ]; go_wp2_with (first | (go_at_call 44; refine (impl_WordValid _ _ _).mono ?_; rintro e w' ⟨rfl, rfl⟩) | go_in))
  all_goals (go_ret; refine ⟨ret_bool ?_, rfl⟩; have := HK.out; unfold Pl.v2; first | (simp_all; done) | (simp_all; omega))

/-! ### the reference's -/
end Go.Proofs.Ytpjikmnddkobfaa
