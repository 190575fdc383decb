/-
  Contracts of the program's functions on words that do something with valid words by a closure: they return the plain functions' values and only make memory of their own.
  Conditions: as stated at each.
-/
import Derived.Test.YtanaafdnnjkimaaW1
import Derived.Test.YtanaafdnnjkimaaPw
namespace Go.Proofs.Ytanaafdnnjkimaa
set_option linter.unusedVariables false
set_option linter.unusedSimpArgs false
open Go.RowKit




set_option maxHeartbeats 400000 in
theorem impl_LeastOf (k a b : Int) (w : World) :
    Calls Try.prog 27 #[.int .i64 k, .int .i64 a, .int .i64 b] w fun e w' => e = .returned (.int .i64 (Pl.leastOf k a b)) ∧ Below w.heap.size w w' := by
  cases hv : Pl.v2 k a b
  · have he := Lib.hid (show Pl.leastOf k a b = -1 by simp [Pl.leastOf, hv])
    go_enter Try.func27, Try.ntmps27
    go_wp2_with (first | (go_at_call 74; refine (impl_allValid2 _ a b _ _ (by go_simp) (by go_simp)).mono ?_; rintro e w' ⟨rfl, rfl⟩) | go_in)
    go_ret
    exact ⟨ret_int he.out.symm, by go_grown⟩
  · obtain ⟨h0, h1, h2, h3, h4, h5⟩ := Pl.v2_t hv
    have hp := Pl.pw_lt k h1
    have hp0 := Pl.pw_pos k
    have he := Lib.hid (show Pl.leastOf k a b = min a b by simp [Pl.leastOf, hv])
    go_enter Try.func27, Try.ntmps27
    go_wp2_with (first | (go_at_call 74; refine (impl_allValid2 _ a b _ _ (by go_simp) (by go_simp)).mono ?_; rintro e w' ⟨rfl, rfl⟩) | (go_at_call 76; refine (impl_cut _ _ _ (by omega) (by omega)).mono ?_; rintro e w' ⟨rfl, rfl⟩) | (go_at_call 54; refine (impl_greatest _ _ (by omega) (by omega)).mono ?_; rintro e w' ⟨rfl, rfl⟩) | go_in)
    all_goals (go_ret; refine ⟨ret_int ?_, by go_grown⟩; rw [he.out]; first | (rw [Pl.wmod_small (by omega) (by omega)]; omega) | (rw [Pl.wmod_small (by omega) (by omega)]))



set_option maxHeartbeats 400000 in
theorem impl_WordAdd (k a b : Int) (w : World) :
    Calls Try.prog 30 #[.int .i64 k, .int .i64 a, .int .i64 b] w fun e w' => e = .returned (.int .i64 (Pl.wordAdd k a b)) ∧ Below w.heap.size w w' := by
  cases hv : Pl.v2 k a b
  · have he := Lib.hid (show Pl.wordAdd k a b = -1 by simp [Pl.wordAdd, hv])
    go_enter Try.func30, Try.ntmps30
    go_wp2_with (first | (go_at_call 74; refine (impl_allValid2 _ a b _ _ (by go_simp) (by go_simp)).mono ?_; rintro e w' ⟨rfl, rfl⟩) | go_in)
    go_ret
    exact ⟨ret_int he.out.symm, by go_grown⟩
  · obtain ⟨h0, h1, h2, h3, h4, h5⟩ := Pl.v2_t hv
    have hp := Pl.pw_lt k h1
    have hp0 := Pl.pw_pos k
    have he := Lib.hid (show Pl.wordAdd k a b = Pl.wmod k (a + b) by simp [Pl.wordAdd, hv])
    go_enter Try.func30, Try.ntmps30
    go_wp2_with (first | (go_at_call 74; refine (impl_allValid2 _ a b _ _ (by go_simp) (by go_simp)).mono ?_; rintro e w' ⟨rfl, rfl⟩) | (go_at_call 76; refine (impl_cut _ _ _ (by omega) (by omega)).mono ?_; rintro e w' ⟨rfl, rfl⟩) | (go_at_call 54; refine (impl_greatest _ _ (by omega) (by omega)).mono ?_; rintro e w' ⟨rfl, rfl⟩) | go_in)
    all_goals (go_ret; refine ⟨ret_int ?_, by go_grown⟩; rw [he.out])

set_option maxHeartbeats 400000 in
theorem impl_WordSub (k a b : Int) (w : World) :
    Calls Try.prog 34 #[.int .i64 k, .int .i64 a, .int .i64 b] w fun e w' => e = .returned (.int .i64 (Pl.wordSub k a b)) ∧ Below w.heap.size w w' := by
  cases hv : Pl.v2 k a b
  · have he := Lib.hid (show Pl.wordSub k a b = -1 by simp [Pl.wordSub, hv])
    go_enter Try.func34, Try.ntmps34
    go_wp2_with (first | (go_at_call 74; refine (impl_allValid2 _ a b _ _ (by go_simp) (by go_simp)).mono ?_; rintro e w' ⟨rfl, rfl⟩) | go_in)
    go_ret
    exact ⟨ret_int he.out.symm, by go_grown⟩
  · obtain ⟨h0, h1, h2, h3, h4, h5⟩ := Pl.v2_t hv
    have hp := Pl.pw_lt k h1
    have hp0 := Pl.pw_pos k
    have he := Lib.hid (show Pl.wordSub k a b = Pl.wmod k (a - b) by simp [Pl.wordSub, hv])
    go_enter Try.func34, Try.ntmps34
    go_wp2_with (first | (go_at_call 74; refine (impl_allValid2 _ a b _ _ (by go_simp) (by go_simp)).mono ?_; rintro e w' ⟨rfl, rfl⟩) | (go_at_call 76; refine (impl_cut _ _ _ (by omega) (by omega)).mono ?_; rintro e w' ⟨rfl, rfl⟩) | (go_at_call 54; refine (impl_greatest _ _ (by omega) (by omega)).mono ?_; rintro e w' ⟨rfl, rfl⟩) | go_in)
    all_goals (go_ret; refine ⟨ret_int ?_, by go_grown⟩; rw [he.out])





set_option maxHeartbeats 400000 in
theorem impl_WordNot (k x : Int) (w : World) :
    Calls Try.prog 43 #[.int .i64 k, .int .i64 x] w fun e w' => e = .returned (.int .i64 (Pl.wordNot k x)) ∧ Below w.heap.size w w' := by
  cases hv : Pl.wvB k x
  · have he := Lib.hid (show Pl.wordNot k x = -1 by simp [Pl.wordNot, hv])
    go_enter Try.func43, Try.ntmps43
    go_wp2_with (first | (go_at_call 21; refine (impl_WordValid _ _ _).mono ?_; rintro e w' ⟨rfl, rfl⟩) | go_in)
    go_ret
    exact ⟨ret_int he.out.symm, by go_grown⟩
  · obtain ⟨h0, h1, h2, h3⟩ := Pl.wv_t hv
    have hp := Pl.pw_lt k h1
    have hp0 := Pl.pw_pos k
    go_enter Try.func43, Try.ntmps43
    go_wp2_with (first | (go_at_call 21; refine (impl_WordValid _ _ _).mono ?_; rintro e w' ⟨rfl, rfl⟩) | (go_at_call 76; refine (impl_cut _ _ _ (by omega) (by omega)).mono ?_; rintro e w' ⟨rfl, rfl⟩) | (go_at_call 54; refine (impl_greatest _ _ (by omega) (by omega)).mono ?_; rintro e w' ⟨rfl, rfl⟩) | (go_at_call 57; refine (impl_power _ _ (by omega) (by omega)).mono ?_; rintro e w' ⟨rfl, rfl⟩) | go_in)
    all_goals (go_ret; refine ⟨ret_int ?_, by go_grown⟩; exact Pl.not_end k x hv)



end Go.Proofs.Ytanaafdnnjkimaa
