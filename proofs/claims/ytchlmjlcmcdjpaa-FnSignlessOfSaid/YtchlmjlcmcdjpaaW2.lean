/-
  Contracts of the program's functions on words that do something with valid words by a closure: they return the plain functions' values and only make memory of their own.
  Conditions: as stated at each.
-/
import Derived.Test.YtchlmjlcmcdjpaaW1
import Derived.Test.YtchlmjlcmcdjpaaPw
namespace Go.Proofs.Ytchlmjlcmcdjpaa
set_option linter.unusedVariables false
set_option linter.unusedSimpArgs false
open Go.RowKit

set_option maxHeartbeats 400000 in
theorem impl_FullAdd (k a b : Int) (w : World) :
    Calls Try.prog 39 #[.int .i64 k, .int .i64 a, .int .i64 b] w fun e w' => e = .returned (.int .i64 (Pl.fullAdd k a b)) ∧ Below w.heap.size w w' := by
  cases hv : Pl.v2 k a b
  · have he := Lib.hid (show Pl.fullAdd k a b = -1 by simp [Pl.fullAdd, hv])
    go_enter Try.func39, Try.ntmps39
    go_wp2_with (first | (go_at_call 91; refine (impl_allValid2 _ a b _ _ (by go_simp) (by go_simp)).mono ?_; rintro e w' ⟨rfl, rfl⟩) | go_in)
    go_ret
    exact ⟨ret_int he.out.symm, by go_grown⟩
  · obtain ⟨h0, h1, h2, h3, h4, h5⟩ := Pl.v2_t hv
    have hp := Pl.pw_lt k h1
    have hp0 := Pl.pw_pos k
    have he := Lib.hid (show Pl.fullAdd k a b = min (a + b) (Pl.pw k - 1) by simp [Pl.fullAdd, hv])
    go_enter Try.func39, Try.ntmps39
    go_wp2_with (first | (go_at_call 91; refine (impl_allValid2 _ a b _ _ (by go_simp) (by go_simp)).mono ?_; rintro e w' ⟨rfl, rfl⟩) | (go_at_call 67; refine (impl_cut _ _ _ (by omega) (by omega)).mono ?_; rintro e w' ⟨rfl, rfl⟩) | (go_at_call 80; refine (impl_greatest _ _ (by omega) (by omega)).mono ?_; rintro e w' ⟨rfl, rfl⟩) | (go_at_call 94; refine (impl_bit _ _ _ (by omega) (by omega)).mono ?_; rintro e w' ⟨rfl, rfl⟩) | go_in)
    all_goals (go_ret; refine ⟨ret_int ?_, by go_grown⟩; rw [he.out]; first | (rw [Pl.wmod_small (by omega) (by omega)]; omega) | (rw [Pl.wmod_small (by omega) (by omega)]))

set_option maxHeartbeats 400000 in
theorem impl_EmptySub (k a b : Int) (w : World) :
    Calls Try.prog 49 #[.int .i64 k, .int .i64 a, .int .i64 b] w fun e w' => e = .returned (.int .i64 (Pl.emptySub k a b)) ∧ Below w.heap.size w w' := by
  cases hv : Pl.v2 k a b
  · have he := Lib.hid (show Pl.emptySub k a b = -1 by simp [Pl.emptySub, hv])
    go_enter Try.func49, Try.ntmps49
    go_wp2_with (first | (go_at_call 91; refine (impl_allValid2 _ a b _ _ (by go_simp) (by go_simp)).mono ?_; rintro e w' ⟨rfl, rfl⟩) | go_in)
    go_ret
    exact ⟨ret_int he.out.symm, by go_grown⟩
  · obtain ⟨h0, h1, h2, h3, h4, h5⟩ := Pl.v2_t hv
    have hp := Pl.pw_lt k h1
    have hp0 := Pl.pw_pos k
    have he := Lib.hid (show Pl.emptySub k a b = max (a - b) 0 by simp [Pl.emptySub, hv])
    go_enter Try.func49, Try.ntmps49
    go_wp2_with (first | (go_at_call 91; refine (impl_allValid2 _ a b _ _ (by go_simp) (by go_simp)).mono ?_; rintro e w' ⟨rfl, rfl⟩) | (go_at_call 67; refine (impl_cut _ _ _ (by omega) (by omega)).mono ?_; rintro e w' ⟨rfl, rfl⟩) | (go_at_call 80; refine (impl_greatest _ _ (by omega) (by omega)).mono ?_; rintro e w' ⟨rfl, rfl⟩) | (go_at_call 94; refine (impl_bit _ _ _ (by omega) (by omega)).mono ?_; rintro e w' ⟨rfl, rfl⟩) | go_in)
    all_goals (go_ret; refine ⟨ret_int ?_, by go_grown⟩; rw [he.out]; first | (rw [Pl.wmod_small (by omega) (by omega)]; omega) | (rw [Pl.wmod_small (by omega) (by omega)]))

set_option maxHeartbeats 400000 in
theorem impl_DistanceOf (k a b : Int) (w : World) :
    Calls Try.prog 52 #[.int .i64 k, .int .i64 a, .int .i64 b] w fun e w' => e = .returned (.int .i64 (Pl.distanceOf k a b)) ∧ Below w.heap.size w w' := by
  cases hv : Pl.v2 k a b
  · have he := Lib.hid (show Pl.distanceOf k a b = -1 by simp [Pl.distanceOf, hv])
    go_enter Try.func52, Try.ntmps52
    go_wp2_with (first | (go_at_call 91; refine (impl_allValid2 _ a b _ _ (by go_simp) (by go_simp)).mono ?_; rintro e w' ⟨rfl, rfl⟩) | go_in)
    go_ret
    exact ⟨ret_int he.out.symm, by go_grown⟩
  · obtain ⟨h0, h1, h2, h3, h4, h5⟩ := Pl.v2_t hv
    have hp := Pl.pw_lt k h1
    have hp0 := Pl.pw_pos k
    have he := Lib.hid (show Pl.distanceOf k a b = max a b - min a b by simp [Pl.distanceOf, hv])
    go_enter Try.func52, Try.ntmps52
    go_wp2_with (first | (go_at_call 91; refine (impl_allValid2 _ a b _ _ (by go_simp) (by go_simp)).mono ?_; rintro e w' ⟨rfl, rfl⟩) | (go_at_call 67; refine (impl_cut _ _ _ (by omega) (by omega)).mono ?_; rintro e w' ⟨rfl, rfl⟩) | (go_at_call 80; refine (impl_greatest _ _ (by omega) (by omega)).mono ?_; rintro e w' ⟨rfl, rfl⟩) | (go_at_call 94; refine (impl_bit _ _ _ (by omega) (by omega)).mono ?_; rintro e w' ⟨rfl, rfl⟩) | go_in)
    all_goals (go_ret; refine ⟨ret_int ?_, by go_grown⟩; rw [he.out]; first | (rw [Pl.wmod_small (by omega) (by omega)]; omega) | (rw [Pl.wmod_small (by omega) (by omega)]))


set_option maxHeartbeats 400000 in
theorem impl_MeanDown (k a b : Int) (w : World) :
    Calls Try.prog 25 #[.int .i64 k, .int .i64 a, .int .i64 b] w fun e w' => e = .returned (.int .i64 (Pl.meanDown k a b)) ∧ Below w.heap.size w w' := by
  cases hv : Pl.v2 k a b
  · have he := Lib.hid (show Pl.meanDown k a b = -1 by simp [Pl.meanDown, hv])
    go_enter Try.func25, Try.ntmps25
    go_wp2_with (first | (go_at_call 91; refine (impl_allValid2 _ a b _ _ (by go_simp) (by go_simp)).mono ?_; rintro e w' ⟨rfl, rfl⟩) | go_in)
    go_ret
    exact ⟨ret_int he.out.symm, by go_grown⟩
  · obtain ⟨h0, h1, h2, h3, h4, h5⟩ := Pl.v2_t hv
    have hp := Pl.pw_lt k h1
    have hp0 := Pl.pw_pos k
    have he := Lib.hid (show Pl.meanDown k a b = (a + b) / 2 by simp [Pl.meanDown, hv])
    go_enter Try.func25, Try.ntmps25
    go_wp2_with (first | (go_at_call 91; refine (impl_allValid2 _ a b _ _ (by go_simp) (by go_simp)).mono ?_; rintro e w' ⟨rfl, rfl⟩) | (go_at_call 67; refine (impl_cut _ _ _ (by omega) (by omega)).mono ?_; rintro e w' ⟨rfl, rfl⟩) | (go_at_call 80; refine (impl_greatest _ _ (by omega) (by omega)).mono ?_; rintro e w' ⟨rfl, rfl⟩) | (go_at_call 94; refine (impl_bit _ _ _ (by omega) (by omega)).mono ?_; rintro e w' ⟨rfl, rfl⟩) | go_in)
    all_goals (go_ret; refine ⟨ret_int ?_, by go_grown⟩; rw [he.out]; first | (rw [Pl.wmod_small (by omega) (by omega)]; omega) | (rw [Pl.wmod_small (by omega) (by omega)]))

set_option maxHeartbeats 400000 in
theorem impl_MeanUp (k a b : Int) (w : World) :
    Calls Try.prog 29 #[.int .i64 k, .int .i64 a, .int .i64 b] w fun e w' => e = .returned (.int .i64 (Pl.meanUp k a b)) ∧ Below w.heap.size w w' := by
  cases hv : Pl.v2 k a b
  · have he := Lib.hid (show Pl.meanUp k a b = -1 by simp [Pl.meanUp, hv])
    go_enter Try.func29, Try.ntmps29
    go_wp2_with (first | (go_at_call 91; refine (impl_allValid2 _ a b _ _ (by go_simp) (by go_simp)).mono ?_; rintro e w' ⟨rfl, rfl⟩) | go_in)
    go_ret
    exact ⟨ret_int he.out.symm, by go_grown⟩
  · obtain ⟨h0, h1, h2, h3, h4, h5⟩ := Pl.v2_t hv
    have hp := Pl.pw_lt k h1
    have hp0 := Pl.pw_pos k
    have he := Lib.hid (show Pl.meanUp k a b = (a + b + 1) / 2 by simp [Pl.meanUp, hv])
    go_enter Try.func29, Try.ntmps29
    go_wp2_with (first | (go_at_call 91; refine (impl_allValid2 _ a b _ _ (by go_simp) (by go_simp)).mono ?_; rintro e w' ⟨rfl, rfl⟩) | (go_at_call 67; refine (impl_cut _ _ _ (by omega) (by omega)).mono ?_; rintro e w' ⟨rfl, rfl⟩) | (go_at_call 80; refine (impl_greatest _ _ (by omega) (by omega)).mono ?_; rintro e w' ⟨rfl, rfl⟩) | (go_at_call 94; refine (impl_bit _ _ _ (by omega) (by omega)).mono ?_; rintro e w' ⟨rfl, rfl⟩) | go_in)
    all_goals (go_ret; refine ⟨ret_int ?_, by go_grown⟩; rw [he.out]; first | (rw [Pl.wmod_small (by omega) (by omega)]; omega) | (rw [Pl.wmod_small (by omega) (by omega)]))

set_option maxHeartbeats 400000 in
theorem impl_WordAdd (k a b : Int) (w : World) :
    Calls Try.prog 70 #[.int .i64 k, .int .i64 a, .int .i64 b] w fun e w' => e = .returned (.int .i64 (Pl.wordAdd k a b)) ∧ Below w.heap.size w w' := by
  cases hv : Pl.v2 k a b
  · have he := Lib.hid (show Pl.wordAdd k a b = -1 by simp [Pl.wordAdd, hv])
    go_enter Try.func70, Try.ntmps70
    go_wp2_with (first | (go_at_call 91; refine (impl_allValid2 _ a b _ _ (by go_simp) (by go_simp)).mono ?_; rintro e w' ⟨rfl, rfl⟩) | go_in)
    go_ret
    exact ⟨ret_int he.out.symm, by go_grown⟩
  · obtain ⟨h0, h1, h2, h3, h4, h5⟩ := Pl.v2_t hv
    have hp := Pl.pw_lt k h1
    have hp0 := Pl.pw_pos k
    have he := Lib.hid (show Pl.wordAdd k a b = Pl.wmod k (a + b) by simp [Pl.wordAdd, hv])
    go_enter Try.func70, Try.ntmps70
    go_wp2_with (first | (go_at_call 91; refine (impl_allValid2 _ a b _ _ (by go_simp) (by go_simp)).mono ?_; rintro e w' ⟨rfl, rfl⟩) | (go_at_call 67; refine (impl_cut _ _ _ (by omega) (by omega)).mono ?_; rintro e w' ⟨rfl, rfl⟩) | (go_at_call 80; refine (impl_greatest _ _ (by omega) (by omega)).mono ?_; rintro e w' ⟨rfl, rfl⟩) | (go_at_call 94; refine (impl_bit _ _ _ (by omega) (by omega)).mono ?_; rintro e w' ⟨rfl, rfl⟩) | go_in)
    all_goals (go_ret; refine ⟨ret_int ?_, by go_grown⟩; rw [he.out])





set_option maxHeartbeats 400000 in
theorem impl_LessBit (k a b : Int) (w : World) :
    Calls Try.prog 36 #[.int .i64 k, .int .i64 a, .int .i64 b] w fun e w' => e = .returned (.int .i64 (Pl.lessBit k a b)) ∧ Below w.heap.size w w' := by
  cases hv : Pl.v2 k a b
  · have he := Lib.hid (show Pl.lessBit k a b = -1 by simp [Pl.lessBit, hv])
    go_enter Try.func36, Try.ntmps36
    go_wp2_with (first | (go_at_call 91; refine (impl_allValid2 _ a b _ _ (by go_simp) (by go_simp)).mono ?_; rintro e w' ⟨rfl, rfl⟩) | go_in)
    go_ret
    exact ⟨ret_int he.out.symm, by go_grown⟩
  · obtain ⟨h0, h1, h2, h3, h4, h5⟩ := Pl.v2_t hv
    have hp := Pl.pw_lt k h1
    have hp0 := Pl.pw_pos k
    have he := Lib.hid (show Pl.lessBit k a b = if a < b then 1 else 0 by simp [Pl.lessBit, hv])
    go_enter Try.func36, Try.ntmps36
    go_wp2_with (first | (go_at_call 91; refine (impl_allValid2 _ a b _ _ (by go_simp) (by go_simp)).mono ?_; rintro e w' ⟨rfl, rfl⟩) | (go_at_call 67; refine (impl_cut _ _ _ (by omega) (by omega)).mono ?_; rintro e w' ⟨rfl, rfl⟩) | (go_at_call 80; refine (impl_greatest _ _ (by omega) (by omega)).mono ?_; rintro e w' ⟨rfl, rfl⟩) | (go_at_call 94; refine (impl_bit _ _ _ (by omega) (by omega)).mono ?_; rintro e w' ⟨rfl, rfl⟩) | go_in)
    all_goals (go_ret; refine ⟨ret_int ?_, by go_grown⟩; rw [he.out]; exact Pl.less_end k a b hv)

set_option maxHeartbeats 400000 in
theorem impl_WordNot (k x : Int) (w : World) :
    Calls Try.prog 21 #[.int .i64 k, .int .i64 x] w fun e w' => e = .returned (.int .i64 (Pl.wordNot k x)) ∧ Below w.heap.size w w' := by
  cases hv : Pl.wvB k x
  · have he := Lib.hid (show Pl.wordNot k x = -1 by simp [Pl.wordNot, hv])
    go_enter Try.func21, Try.ntmps21
    go_wp2_with (first | (go_at_call 27; refine (impl_WordValid _ _ _).mono ?_; rintro e w' ⟨rfl, rfl⟩) | go_in)
    go_ret
    exact ⟨ret_int he.out.symm, by go_grown⟩
  · obtain ⟨h0, h1, h2, h3⟩ := Pl.wv_t hv
    have hp := Pl.pw_lt k h1
    have hp0 := Pl.pw_pos k
    go_enter Try.func21, Try.ntmps21
    go_wp2_with (first | (go_at_call 27; refine (impl_WordValid _ _ _).mono ?_; rintro e w' ⟨rfl, rfl⟩) | (go_at_call 67; refine (impl_cut _ _ _ (by omega) (by omega)).mono ?_; rintro e w' ⟨rfl, rfl⟩) | (go_at_call 80; refine (impl_greatest _ _ (by omega) (by omega)).mono ?_; rintro e w' ⟨rfl, rfl⟩) | (go_at_call 94; refine (impl_bit _ _ _ (by omega) (by omega)).mono ?_; rintro e w' ⟨rfl, rfl⟩) | (go_at_call 75; refine (impl_power _ _ (by omega) (by omega)).mono ?_; rintro e w' ⟨rfl, rfl⟩) | go_in)
    all_goals (go_ret; refine ⟨ret_int ?_, by go_grown⟩; exact Pl.not_end k x hv)

set_option maxHeartbeats 400000 in
theorem impl_SignlessOf (k x : Int) (w : World) :
    Calls Try.prog 45 #[.int .i64 k, .int .i64 x] w fun e w' => e = .returned (.int .i64 (Pl.signlessOf k x)) ∧ Below w.heap.size w w' := by
  cases hv : Pl.wvB k x
  · have he := Lib.hid (show Pl.signlessOf k x = -1 by simp [Pl.signlessOf, hv])
    go_enter Try.func45, Try.ntmps45
    go_wp2_with (first | (go_at_call 27; refine (impl_WordValid _ _ _).mono ?_; rintro e w' ⟨rfl, rfl⟩) | go_in)
    go_ret
    exact ⟨ret_int he.out.symm, by go_grown⟩
  · obtain ⟨h0, h1, h2, h3⟩ := Pl.wv_t hv
    have hp := Pl.pw_lt k h1
    have hp0 := Pl.pw_pos k
    have hb := Pl.bt_01 x (k - 1)
    go_enter Try.func45, Try.ntmps45
    go_wp2_with (first | (go_at_call 27; refine (impl_WordValid _ _ _).mono ?_; rintro e w' ⟨rfl, rfl⟩) | (go_at_call 67; refine (impl_cut _ _ _ (by omega) (by omega)).mono ?_; rintro e w' ⟨rfl, rfl⟩) | (go_at_call 80; refine (impl_greatest _ _ (by omega) (by omega)).mono ?_; rintro e w' ⟨rfl, rfl⟩) | (go_at_call 94; refine (impl_bit _ _ _ (by omega) (by omega)).mono ?_; rintro e w' ⟨rfl, rfl⟩) | (go_at_call 75; refine (impl_power _ _ (by omega) (by omega)).mono ?_; rintro e w' ⟨rfl, rfl⟩) | go_in)
    all_goals (go_ret; refine ⟨ret_int ?_, by go_grown⟩; exact Pl.signless_end k x hv)

set_option maxHeartbeats 400000 in
theorem impl_SignedOf (k x : Int) (w : World) :
    Calls Try.prog 47 #[.int .i64 k, .int .i64 x] w fun e w' => e = .returned (.int .i64 (Pl.signedOf k x)) ∧ Below w.heap.size w w' := by
  cases hv : Pl.wvB k x
  · have he := Lib.hid (show Pl.signedOf k x = 0 by simp [Pl.signedOf, hv])
    go_enter Try.func47, Try.ntmps47
    go_wp2_with (first | (go_at_call 27; refine (impl_WordValid _ _ _).mono ?_; rintro e w' ⟨rfl, rfl⟩) | go_in)
    go_ret
    exact ⟨ret_int he.out.symm, by go_grown⟩
  · obtain ⟨h0, h1, h2, h3⟩ := Pl.wv_t hv
    have hp := Pl.pw_lt k h1
    have hp0 := Pl.pw_pos k
    have hb := Pl.bt_01 x (k - 1)
    go_enter Try.func47, Try.ntmps47
    go_wp2_with (first | (go_at_call 27; refine (impl_WordValid _ _ _).mono ?_; rintro e w' ⟨rfl, rfl⟩) | (go_at_call 67; refine (impl_cut _ _ _ (by omega) (by omega)).mono ?_; rintro e w' ⟨rfl, rfl⟩) | (go_at_call 80; refine (impl_greatest _ _ (by omega) (by omega)).mono ?_; rintro e w' ⟨rfl, rfl⟩) | (go_at_call 94; refine (impl_bit _ _ _ (by omega) (by omega)).mono ?_; rintro e w' ⟨rfl, rfl⟩) | (go_at_call 75; refine (impl_power _ _ (by omega) (by omega)).mono ?_; rintro e w' ⟨rfl, rfl⟩) | go_in)
    all_goals (go_ret; refine ⟨ret_int ?_, by go_grown⟩; exact Pl.signed_end k x hv)

end Go.Proofs.Ytchlmjlcmcdjpaa
