/-
  Contracts of what an operation of an expression makes of words, in the program and in the reference.
  Conditions: as stated at each.
-/
import Derived.Test.YtnjcephddilalabE1
namespace Go.Proofs.Ytnjcephddilalab
set_option linter.unusedVariables false
set_option linter.unusedSimpArgs false
open Go.RowKit

set_option maxHeartbeats 400000 in
theorem impl_WordLeft (k x : Int) (w : World) (hv : Pl.wvB k x = true) :
    Calls Try.prog 79 #[.int .i64 k, .int .i64 x, .int .i64 1] w fun e w' => e = .returned (.int .i64 (Pl.wmod k (2 * x))) ∧ Below w.heap.size w w' := by
  obtain ⟨h0, h1, h2, h3⟩ := Pl.wv_t hv
  have hp := Pl.pw_lt k h1
  have hp0 := Pl.pw_pos k
  go_enter Try.func79, Try.ntmps79
  go_wp2_with (first | (go_at_call 76; refine (impl_WordValid _ _ _).mono ?_; rintro e w' ⟨rfl, rfl⟩) | (go_at_call 78; refine (impl_cut _ _ _ (by omega) (by omega)).mono ?_; rintro e w' ⟨rfl, rfl⟩) | (go_at_call 51; refine (impl_within_t _ _ _ _ (by omega)).mono ?_; rintro e w' ⟨rfl, rfl⟩) | go_in)
  all_goals (go_ret; refine ⟨ret_int ?_, by go_grown⟩)
  all_goals (rw [Int.mul_comm])
set_option maxHeartbeats 400000 in
theorem impl_WordRight (k x : Int) (w : World) (hv : Pl.wvB k x = true) :
    Calls Try.prog 80 #[.int .i64 k, .int .i64 x, .int .i64 1] w fun e w' => e = .returned (.int .i64 (x / 2)) ∧ Below w.heap.size w w' := by
  obtain ⟨h0, h1, h2, h3⟩ := Pl.wv_t hv
  have hp := Pl.pw_lt k h1
  have hp0 := Pl.pw_pos k
  go_enter Try.func80, Try.ntmps80
  go_wp2_with (first | (go_at_call 76; refine (impl_WordValid _ _ _).mono ?_; rintro e w' ⟨rfl, rfl⟩) | (go_at_call 78; refine (impl_cut _ _ _ (by omega) (by omega)).mono ?_; rintro e w' ⟨rfl, rfl⟩) | (go_at_call 51; refine (impl_within_t _ _ _ _ (by omega)).mono ?_; rintro e w' ⟨rfl, rfl⟩) | go_in)
  all_goals (go_ret; refine ⟨ret_int ?_, by go_grown⟩)
  all_goals (exact Pl.wmod_small (by omega) (by omega))
theorem steps8 {s : Int} (h : 12 ≤ s) (h' : s ≤ 19) : s = 12 ∨ s = 13 ∨ s = 14 ∨ s = 15 ∨ s = 16 ∨ s = 17 ∨ s = 18 ∨ s = 19 := by omega
set_option maxHeartbeats 1000000 in
theorem impl_operate (k s a b : Int) (w : World) (hs0 : 12 ≤ s) (hs1 : s ≤ 19) (hv : Pl.v2 k a b = true) :
    Calls Try.prog 53 #[.int .i64 k, .int .i64 s, .int .i64 a, .int .i64 b] w fun e w' => e = .returned (.int .i64 (Pl.opv k s a b)) ∧ Below w.heap.size w w' := by
  obtain ⟨h0, h1, h2, h3, h4, h5⟩ := Pl.v2_t hv
  have ha := Pl.v2_l hv
  rcases steps8 hs0 hs1 with rfl | rfl | rfl | rfl | rfl | rfl | rfl | rfl
  · have he := Lib.hid (show Pl.opv k 12 a b = Pl.pw k - 1 - a by simp [Pl.opv])
    go_enter Try.func53, Try.ntmps53
    go_wp2_with fail
    refine (impl_WordNot k a _).mono ?_
    rintro e w' ⟨rfl, hb⟩
    go_wp2
    go_ret
    exact ⟨ret_int (by rw [he.out]; simp [Pl.wordNot, ha]), hb⟩
  · have he := Lib.hid (show Pl.opv k 13 a b = Pl.wmod k (2 * a) by simp [Pl.opv])
    go_enter Try.func53, Try.ntmps53
    go_wp2_with fail
    refine (impl_WordLeft k a _ ha).mono ?_
    rintro e w' ⟨rfl, hb⟩
    go_wp2
    go_ret
    exact ⟨ret_int (by rw [he.out]), hb⟩
  · have he := Lib.hid (show Pl.opv k 14 a b = a / 2 by simp [Pl.opv])
    go_enter Try.func53, Try.ntmps53
    go_wp2_with fail
    refine (impl_WordRight k a _ ha).mono ?_
    rintro e w' ⟨rfl, hb⟩
    go_wp2
    go_ret
    exact ⟨ret_int (by rw [he.out]), hb⟩
  · have he := Lib.hid (show Pl.opv k 15 a b = Pl.wmod k (a + b) by simp [Pl.opv])
    go_enter Try.func53, Try.ntmps53
    go_wp2_with fail
    refine (impl_WordAdd k a b _).mono ?_
    rintro e w' ⟨rfl, hb⟩
    go_wp2
    go_ret
    exact ⟨ret_int (by rw [he.out]; simp [Pl.wordAdd, hv]), hb⟩
  · have he := Lib.hid (show Pl.opv k 16 a b = Pl.wmod k (a - b) by simp [Pl.opv])
    go_enter Try.func53, Try.ntmps53
    go_wp2_with fail
    refine (impl_WordSub k a b _).mono ?_
    rintro e w' ⟨rfl, hb⟩
    go_wp2
    go_ret
    exact ⟨ret_int (by rw [he.out]; simp [Pl.wordSub, hv]), hb⟩
  · have he := Lib.hid (show Pl.opv k 17 a b = Pl.land a b by simp [Pl.opv])
    go_enter Try.func53, Try.ntmps53
    go_wp2_with fail
    refine (impl_WordAnd k a b _).mono ?_
    rintro e w' ⟨rfl, hb⟩
    go_wp2
    go_ret
    exact ⟨ret_int (by rw [he.out]; simp [Pl.wordAnd, hv]), hb⟩
  · have he := Lib.hid (show Pl.opv k 18 a b = Pl.lor a b by simp [Pl.opv])
    go_enter Try.func53, Try.ntmps53
    go_wp2_with fail
    refine (impl_WordOr k a b _).mono ?_
    rintro e w' ⟨rfl, hb⟩
    go_wp2
    go_ret
    exact ⟨ret_int (by rw [he.out]; simp [Pl.wordOr, hv]), hb⟩
  · have he := Lib.hid (show Pl.opv k 19 a b = Pl.lxor a b by simp [Pl.opv])
    go_enter Try.func53, Try.ntmps53
    go_wp2_with fail
    refine (impl_WordXor k a b _).mono ?_
    rintro e w' ⟨rfl, hb⟩
    go_wp2
    go_ret
    exact ⟨ret_int (by rw [he.out]; simp [Pl.wordXor, hv]), hb⟩
set_option maxHeartbeats 1000000 in
theorem impl_leaf (k s x y : Int) (w : World) (h0 : 0 ≤ k) (h1 : k ≤ 62) :
    Calls Try.prog 52 #[.int .i64 k, .int .i64 s, .int .i64 x, .int .i64 y] w fun e w' => e = .returned (.int .i64 (Pl.leafv k s x y)) ∧ w = w' := by
  by_cases hx : s = 10
  · subst hx
    go_enter Try.func52, Try.ntmps52
    go_wp2
    go_ret
    exact ⟨ret_int (by simp [Pl.leafv]), rfl⟩
  · by_cases hy : s = 11
    · subst hy
      go_enter Try.func52, Try.ntmps52
      go_wp2
      go_ret
      exact ⟨ret_int (by simp [Pl.leafv]), rfl⟩
    · have he := Lib.hid (show Pl.leafv k s x y = Pl.wmod k s by simp [Pl.leafv, hx, hy])
      have n1 : (s == 10) = false := by simpa using hx
      have n2 : (s == 11) = false := by simpa using hy
      clear hx hy
      go_enter Try.func52, Try.ntmps52
      go_wp2_with (first | (go_at_call 78; refine (impl_cut _ _ _ (by omega) (by omega)).mono ?_; rintro e w' ⟨rfl, rfl⟩))
      go_ret
      exact ⟨ret_int he.out.symm, rfl⟩
set_option maxHeartbeats 1000000 in
theorem spec_l9Leaf (k s x y : Int) (w : World) (h0 : 0 ≤ k) (h1 : k ≤ 61) (hs0 : -9223372036854775808 ≤ s) (hs1 : s ≤ 9223372036854775807) :
    Calls Try.prog 85 #[.int .i64 k, .int .i64 s, .int .i64 x, .int .i64 y] w fun e w' => e = .returned (.int .i64 (Pl.leafv k s x y)) ∧ w = w' := by
  by_cases hx : s = 10
  · subst hx
    go_enter Try.func85, Try.ntmps85
    go_wp2
    go_ret
    exact ⟨ret_int (by simp [Pl.leafv]), rfl⟩
  · by_cases hy : s = 11
    · subst hy
      go_enter Try.func85, Try.ntmps85
      go_wp2
      go_ret
      exact ⟨ret_int (by simp [Pl.leafv]), rfl⟩
    · have he := Lib.hid (show Pl.leafv k s x y = Pl.wmod k s by simp [Pl.leafv, hx, hy])
      have n1 : (s == 10) = false := by simpa using hx
      have n2 : (s == 11) = false := by simpa using hy
      clear hx hy
      go_enter Try.func85, Try.ntmps85
      go_wp2_with (first | (go_at_call 104; refine (spec_l1Mod _ _ _ (by omega) (by omega) (by omega) (by omega)).mono ?_; rintro e w' ⟨rfl, rfl⟩))
      go_ret
      exact ⟨ret_int he.out.symm, rfl⟩
set_option maxHeartbeats 1000000 in
theorem spec_l9Do (k s a b : Int) (w : World) (hs0 : 12 ≤ s) (hs1 : s ≤ 19) (hv : Pl.v2 k a b = true) :
    Calls Try.prog 86 #[.int .i64 k, .int .i64 s, .int .i64 a, .int .i64 b] w fun e w' => e = .returned (.int .i64 (Pl.opv k s a b)) ∧ w = w' := by
  obtain ⟨h0, h1, h2, h3, h4, h5⟩ := Pl.v2_t hv
  have hp := Pl.pw_lt k h1
  have hp0 := Pl.pw_pos k
  have hw := Pl.wrap_pw k (by omega) (by omega)
  rcases steps8 hs0 hs1 with rfl | rfl | rfl | rfl | rfl | rfl | rfl | rfl
  · have he := Lib.hid (show Pl.opv k 12 a b = Pl.pw k - 1 - a by simp [Pl.opv])
    go_enter Try.func86, Try.ntmps86
    go_wp2_with (first | (go_at_call 104; refine (spec_l1Mod _ _ _ (by omega) (by omega) (by omega) (by omega)).mono ?_; rintro e w' ⟨rfl, rfl⟩) | (go_at_call 105; refine (spec_l1And _ _ _ (by omega) (by omega) (by omega) (by omega)).mono ?_; rintro e w' ⟨rfl, rfl⟩) | (go_at_call 106; refine (spec_l1Or _ _ _ (by omega) (by omega) (by omega) (by omega)).mono ?_; rintro e w' ⟨rfl, rfl⟩) | (go_at_call 107; refine (spec_l1Xor _ _ _ (by omega) (by omega) (by omega) (by omega)).mono ?_; rintro e w' ⟨rfl, rfl⟩))
    go_ret
    exact ⟨ret_int (by rw [he.out]), rfl⟩
  · have he := Lib.hid (show Pl.opv k 13 a b = Pl.wmod k (2 * a) by simp [Pl.opv])
    go_enter Try.func86, Try.ntmps86
    go_wp2_with (first | (go_at_call 104; refine (spec_l1Mod _ _ _ (by omega) (by omega) (by omega) (by omega)).mono ?_; rintro e w' ⟨rfl, rfl⟩) | (go_at_call 105; refine (spec_l1And _ _ _ (by omega) (by omega) (by omega) (by omega)).mono ?_; rintro e w' ⟨rfl, rfl⟩) | (go_at_call 106; refine (spec_l1Or _ _ _ (by omega) (by omega) (by omega) (by omega)).mono ?_; rintro e w' ⟨rfl, rfl⟩) | (go_at_call 107; refine (spec_l1Xor _ _ _ (by omega) (by omega) (by omega) (by omega)).mono ?_; rintro e w' ⟨rfl, rfl⟩))
    go_ret
    exact ⟨ret_int (by rw [he.out]), rfl⟩
  · have he := Lib.hid (show Pl.opv k 14 a b = a / 2 by simp [Pl.opv])
    go_enter Try.func86, Try.ntmps86
    go_wp2_with (first | (go_at_call 104; refine (spec_l1Mod _ _ _ (by omega) (by omega) (by omega) (by omega)).mono ?_; rintro e w' ⟨rfl, rfl⟩) | (go_at_call 105; refine (spec_l1And _ _ _ (by omega) (by omega) (by omega) (by omega)).mono ?_; rintro e w' ⟨rfl, rfl⟩) | (go_at_call 106; refine (spec_l1Or _ _ _ (by omega) (by omega) (by omega) (by omega)).mono ?_; rintro e w' ⟨rfl, rfl⟩) | (go_at_call 107; refine (spec_l1Xor _ _ _ (by omega) (by omega) (by omega) (by omega)).mono ?_; rintro e w' ⟨rfl, rfl⟩))
    go_ret
    exact ⟨ret_int (by rw [he.out]), rfl⟩
  · have he := Lib.hid (show Pl.opv k 15 a b = Pl.wmod k (a + b) by simp [Pl.opv])
    go_enter Try.func86, Try.ntmps86
    go_wp2_with (first | (go_at_call 104; refine (spec_l1Mod _ _ _ (by omega) (by omega) (by omega) (by omega)).mono ?_; rintro e w' ⟨rfl, rfl⟩) | (go_at_call 105; refine (spec_l1And _ _ _ (by omega) (by omega) (by omega) (by omega)).mono ?_; rintro e w' ⟨rfl, rfl⟩) | (go_at_call 106; refine (spec_l1Or _ _ _ (by omega) (by omega) (by omega) (by omega)).mono ?_; rintro e w' ⟨rfl, rfl⟩) | (go_at_call 107; refine (spec_l1Xor _ _ _ (by omega) (by omega) (by omega) (by omega)).mono ?_; rintro e w' ⟨rfl, rfl⟩))
    go_ret
    exact ⟨ret_int (by rw [he.out]), rfl⟩
  · have he := Lib.hid (show Pl.opv k 16 a b = Pl.wmod k (a - b) by simp [Pl.opv])
    go_enter Try.func86, Try.ntmps86
    go_wp2_with (first | (go_at_call 104; refine (spec_l1Mod _ _ _ (by omega) (by omega) (by omega) (by omega)).mono ?_; rintro e w' ⟨rfl, rfl⟩) | (go_at_call 105; refine (spec_l1And _ _ _ (by omega) (by omega) (by omega) (by omega)).mono ?_; rintro e w' ⟨rfl, rfl⟩) | (go_at_call 106; refine (spec_l1Or _ _ _ (by omega) (by omega) (by omega) (by omega)).mono ?_; rintro e w' ⟨rfl, rfl⟩) | (go_at_call 107; refine (spec_l1Xor _ _ _ (by omega) (by omega) (by omega) (by omega)).mono ?_; rintro e w' ⟨rfl, rfl⟩))
    go_ret
    exact ⟨ret_int (by rw [he.out]), rfl⟩
  · have he := Lib.hid (show Pl.opv k 17 a b = Pl.land a b by simp [Pl.opv])
    go_enter Try.func86, Try.ntmps86
    go_wp2_with (first | (go_at_call 104; refine (spec_l1Mod _ _ _ (by omega) (by omega) (by omega) (by omega)).mono ?_; rintro e w' ⟨rfl, rfl⟩) | (go_at_call 105; refine (spec_l1And _ _ _ (by omega) (by omega) (by omega) (by omega)).mono ?_; rintro e w' ⟨rfl, rfl⟩) | (go_at_call 106; refine (spec_l1Or _ _ _ (by omega) (by omega) (by omega) (by omega)).mono ?_; rintro e w' ⟨rfl, rfl⟩) | (go_at_call 107; refine (spec_l1Xor _ _ _ (by omega) (by omega) (by omega) (by omega)).mono ?_; rintro e w' ⟨rfl, rfl⟩))
    go_ret
    exact ⟨ret_int (by rw [he.out]), rfl⟩
  · have he := Lib.hid (show Pl.opv k 18 a b = Pl.lor a b by simp [Pl.opv])
    go_enter Try.func86, Try.ntmps86
    go_wp2_with (first | (go_at_call 104; refine (spec_l1Mod _ _ _ (by omega) (by omega) (by omega) (by omega)).mono ?_; rintro e w' ⟨rfl, rfl⟩) | (go_at_call 105; refine (spec_l1And _ _ _ (by omega) (by omega) (by omega) (by omega)).mono ?_; rintro e w' ⟨rfl, rfl⟩) | (go_at_call 106; refine (spec_l1Or _ _ _ (by omega) (by omega) (by omega) (by omega)).mono ?_; rintro e w' ⟨rfl, rfl⟩) | (go_at_call 107; refine (spec_l1Xor _ _ _ (by omega) (by omega) (by omega) (by omega)).mono ?_; rintro e w' ⟨rfl, rfl⟩))
    go_ret
    exact ⟨ret_int (by rw [he.out]), rfl⟩
  · have he := Lib.hid (show Pl.opv k 19 a b = Pl.lxor a b by simp [Pl.opv])
    go_enter Try.func86, Try.ntmps86
    go_wp2_with (first | (go_at_call 104; refine (spec_l1Mod _ _ _ (by omega) (by omega) (by omega) (by omega)).mono ?_; rintro e w' ⟨rfl, rfl⟩) | (go_at_call 105; refine (spec_l1And _ _ _ (by omega) (by omega) (by omega) (by omega)).mono ?_; rintro e w' ⟨rfl, rfl⟩) | (go_at_call 106; refine (spec_l1Or _ _ _ (by omega) (by omega) (by omega) (by omega)).mono ?_; rintro e w' ⟨rfl, rfl⟩) | (go_at_call 107; refine (spec_l1Xor _ _ _ (by omega) (by omega) (by omega) (by omega)).mono ?_; rintro e w' ⟨rfl, rfl⟩))
    go_ret
    exact ⟨ret_int (by rw [he.out]), rfl⟩
end Go.Proofs.Ytnjcephddilalab
