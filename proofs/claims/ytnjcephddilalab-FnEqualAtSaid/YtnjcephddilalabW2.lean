/-
  Contracts of the program's functions on words that do something with valid words by a closure: they return the plain functions' values and only make memory of their own.
  Conditions: as stated at each.
-/
import Derived.Test.YtnjcephddilalabW1
import Derived.Test.YtnjcephddilalabPw
namespace Go.Proofs.Ytnjcephddilalab
set_option linter.unusedVariables false
set_option linter.unusedSimpArgs false
open Go.RowKit







set_option maxHeartbeats 400000 in
theorem impl_WordAdd (k a b : Int) (w : World) :
    Calls Try.prog 46 #[.int .i64 k, .int .i64 a, .int .i64 b] w fun e w' => e = .returned (.int .i64 (Pl.wordAdd k a b)) ∧ Below w.heap.size w w' := by
  cases hv : Pl.v2 k a b
  · have he := Lib.hid (show Pl.wordAdd k a b = -1 by simp [Pl.wordAdd, hv])
    go_enter Try.func46, Try.ntmps46
    go_wp2_with (first | (go_at_call 49; refine (impl_allValid2 _ a b _ _ (by go_simp) (by go_simp)).mono ?_; rintro e w' ⟨rfl, rfl⟩) | go_in)
    go_ret
    exact ⟨ret_int he.out.symm, by go_grown⟩
  · obtain ⟨h0, h1, h2, h3, h4, h5⟩ := Pl.v2_t hv
    have hp := Pl.pw_lt k h1
    have hp0 := Pl.pw_pos k
    have he := Lib.hid (show Pl.wordAdd k a b = Pl.wmod k (a + b) by simp [Pl.wordAdd, hv])
    go_enter Try.func46, Try.ntmps46
    go_wp2_with (first | (go_at_call 49; refine (impl_allValid2 _ a b _ _ (by go_simp) (by go_simp)).mono ?_; rintro e w' ⟨rfl, rfl⟩) | (go_at_call 78; refine (impl_cut _ _ _ (by omega) (by omega)).mono ?_; rintro e w' ⟨rfl, rfl⟩) | (go_at_call 96; refine (impl_greatest _ _ (by omega) (by omega)).mono ?_; rintro e w' ⟨rfl, rfl⟩) | go_in)
    all_goals (go_ret; refine ⟨ret_int ?_, by go_grown⟩; rw [he.out])

set_option maxHeartbeats 400000 in
theorem impl_WordSub (k a b : Int) (w : World) :
    Calls Try.prog 81 #[.int .i64 k, .int .i64 a, .int .i64 b] w fun e w' => e = .returned (.int .i64 (Pl.wordSub k a b)) ∧ Below w.heap.size w w' := by
  cases hv : Pl.v2 k a b
  · have he := Lib.hid (show Pl.wordSub k a b = -1 by simp [Pl.wordSub, hv])
    go_enter Try.func81, Try.ntmps81
    go_wp2_with (first | (go_at_call 49; refine (impl_allValid2 _ a b _ _ (by go_simp) (by go_simp)).mono ?_; rintro e w' ⟨rfl, rfl⟩) | go_in)
    go_ret
    exact ⟨ret_int he.out.symm, by go_grown⟩
  · obtain ⟨h0, h1, h2, h3, h4, h5⟩ := Pl.v2_t hv
    have hp := Pl.pw_lt k h1
    have hp0 := Pl.pw_pos k
    have he := Lib.hid (show Pl.wordSub k a b = Pl.wmod k (a - b) by simp [Pl.wordSub, hv])
    go_enter Try.func81, Try.ntmps81
    go_wp2_with (first | (go_at_call 49; refine (impl_allValid2 _ a b _ _ (by go_simp) (by go_simp)).mono ?_; rintro e w' ⟨rfl, rfl⟩) | (go_at_call 78; refine (impl_cut _ _ _ (by omega) (by omega)).mono ?_; rintro e w' ⟨rfl, rfl⟩) | (go_at_call 96; refine (impl_greatest _ _ (by omega) (by omega)).mono ?_; rintro e w' ⟨rfl, rfl⟩) | go_in)
    all_goals (go_ret; refine ⟨ret_int ?_, by go_grown⟩; rw [he.out])

set_option maxHeartbeats 400000 in
theorem impl_WordAnd (k a b : Int) (w : World) :
    Calls Try.prog 82 #[.int .i64 k, .int .i64 a, .int .i64 b] w fun e w' => e = .returned (.int .i64 (Pl.wordAnd k a b)) ∧ Below w.heap.size w w' := by
  cases hv : Pl.v2 k a b
  · have he := Lib.hid (show Pl.wordAnd k a b = -1 by simp [Pl.wordAnd, hv])
    go_enter Try.func82, Try.ntmps82
    go_wp2_with (first | (go_at_call 49; refine (impl_allValid2 _ a b _ _ (by go_simp) (by go_simp)).mono ?_; rintro e w' ⟨rfl, rfl⟩) | go_in)
    go_ret
    exact ⟨ret_int he.out.symm, by go_grown⟩
  · obtain ⟨h0, h1, h2, h3, h4, h5⟩ := Pl.v2_t hv
    have hp := Pl.pw_lt k h1
    have hp0 := Pl.pw_pos k
    have he := Lib.hid (show Pl.wordAnd k a b = Pl.land a b by simp [Pl.wordAnd, hv])
    go_enter Try.func82, Try.ntmps82
    go_wp2_with (first | (go_at_call 49; refine (impl_allValid2 _ a b _ _ (by go_simp) (by go_simp)).mono ?_; rintro e w' ⟨rfl, rfl⟩) | (go_at_call 78; refine (impl_cut _ _ _ (by omega) (by omega)).mono ?_; rintro e w' ⟨rfl, rfl⟩) | (go_at_call 96; refine (impl_greatest _ _ (by omega) (by omega)).mono ?_; rintro e w' ⟨rfl, rfl⟩) | go_in)
    all_goals (go_ret; refine ⟨ret_int ?_, by go_grown⟩; rw [he.out]; exact Pl.and_end k a b hv)

set_option maxHeartbeats 400000 in
theorem impl_WordOr (k a b : Int) (w : World) :
    Calls Try.prog 83 #[.int .i64 k, .int .i64 a, .int .i64 b] w fun e w' => e = .returned (.int .i64 (Pl.wordOr k a b)) ∧ Below w.heap.size w w' := by
  cases hv : Pl.v2 k a b
  · have he := Lib.hid (show Pl.wordOr k a b = -1 by simp [Pl.wordOr, hv])
    go_enter Try.func83, Try.ntmps83
    go_wp2_with (first | (go_at_call 49; refine (impl_allValid2 _ a b _ _ (by go_simp) (by go_simp)).mono ?_; rintro e w' ⟨rfl, rfl⟩) | go_in)
    go_ret
    exact ⟨ret_int he.out.symm, by go_grown⟩
  · obtain ⟨h0, h1, h2, h3, h4, h5⟩ := Pl.v2_t hv
    have hp := Pl.pw_lt k h1
    have hp0 := Pl.pw_pos k
    have he := Lib.hid (show Pl.wordOr k a b = Pl.lor a b by simp [Pl.wordOr, hv])
    go_enter Try.func83, Try.ntmps83
    go_wp2_with (first | (go_at_call 49; refine (impl_allValid2 _ a b _ _ (by go_simp) (by go_simp)).mono ?_; rintro e w' ⟨rfl, rfl⟩) | (go_at_call 78; refine (impl_cut _ _ _ (by omega) (by omega)).mono ?_; rintro e w' ⟨rfl, rfl⟩) | (go_at_call 96; refine (impl_greatest _ _ (by omega) (by omega)).mono ?_; rintro e w' ⟨rfl, rfl⟩) | go_in)
    all_goals (go_ret; refine ⟨ret_int ?_, by go_grown⟩; rw [he.out]; exact Pl.or_end k a b hv)

set_option maxHeartbeats 400000 in
theorem impl_WordXor (k a b : Int) (w : World) :
    Calls Try.prog 84 #[.int .i64 k, .int .i64 a, .int .i64 b] w fun e w' => e = .returned (.int .i64 (Pl.wordXor k a b)) ∧ Below w.heap.size w w' := by
  cases hv : Pl.v2 k a b
  · have he := Lib.hid (show Pl.wordXor k a b = -1 by simp [Pl.wordXor, hv])
    go_enter Try.func84, Try.ntmps84
    go_wp2_with (first | (go_at_call 49; refine (impl_allValid2 _ a b _ _ (by go_simp) (by go_simp)).mono ?_; rintro e w' ⟨rfl, rfl⟩) | go_in)
    go_ret
    exact ⟨ret_int he.out.symm, by go_grown⟩
  · obtain ⟨h0, h1, h2, h3, h4, h5⟩ := Pl.v2_t hv
    have hp := Pl.pw_lt k h1
    have hp0 := Pl.pw_pos k
    have he := Lib.hid (show Pl.wordXor k a b = Pl.lxor a b by simp [Pl.wordXor, hv])
    go_enter Try.func84, Try.ntmps84
    go_wp2_with (first | (go_at_call 49; refine (impl_allValid2 _ a b _ _ (by go_simp) (by go_simp)).mono ?_; rintro e w' ⟨rfl, rfl⟩) | (go_at_call 78; refine (impl_cut _ _ _ (by omega) (by omega)).mono ?_; rintro e w' ⟨rfl, rfl⟩) | (go_at_call 96; refine (impl_greatest _ _ (by omega) (by omega)).mono ?_; rintro e w' ⟨rfl, rfl⟩) | go_in)
    all_goals (go_ret; refine ⟨ret_int ?_, by go_grown⟩; rw [he.out]; exact Pl.xor_end k a b hv)


set_option maxHeartbeats 400000 in
theorem impl_WordNot (k x : Int) (w : World) :
    Calls Try.prog 47 #[.int .i64 k, .int .i64 x] w fun e w' => e = .returned (.int .i64 (Pl.wordNot k x)) ∧ Below w.heap.size w w' := by
  cases hv : Pl.wvB k x
  · have he := Lib.hid (show Pl.wordNot k x = -1 by simp [Pl.wordNot, hv])
    go_enter Try.func47, Try.ntmps47
    go_wp2_with (first | (go_at_call 76; refine (impl_WordValid _ _ _).mono ?_; rintro e w' ⟨rfl, rfl⟩) | go_in)
    go_ret
    exact ⟨ret_int he.out.symm, by go_grown⟩
  · obtain ⟨h0, h1, h2, h3⟩ := Pl.wv_t hv
    have hp := Pl.pw_lt k h1
    have hp0 := Pl.pw_pos k
    go_enter Try.func47, Try.ntmps47
    go_wp2_with (first | (go_at_call 76; refine (impl_WordValid _ _ _).mono ?_; rintro e w' ⟨rfl, rfl⟩) | (go_at_call 78; refine (impl_cut _ _ _ (by omega) (by omega)).mono ?_; rintro e w' ⟨rfl, rfl⟩) | (go_at_call 96; refine (impl_greatest _ _ (by omega) (by omega)).mono ?_; rintro e w' ⟨rfl, rfl⟩) | (go_at_call 67; refine (impl_power _ _ (by omega) (by omega)).mono ?_; rintro e w' ⟨rfl, rfl⟩) | go_in)
    all_goals (go_ret; refine ⟨ret_int ?_, by go_grown⟩; exact Pl.not_end k x hv)



end Go.Proofs.Ytnjcephddilalab
