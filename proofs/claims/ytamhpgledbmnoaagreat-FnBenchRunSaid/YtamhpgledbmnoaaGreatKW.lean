/-
  Contracts of functions on words.
  Conditions: as stated at each.
-/
import Derived.Test.YtamhpgledbmnoaaGreatKB
import Derived.Test.YtamhpgledbmnoaaGreatKP
namespace Go.Proofs.YtamhpgledbmnoaaGreat
set_option linter.unusedVariables false
set_option linter.unusedSimpArgs false
open Go.RowKit

set_option maxHeartbeats 400000 in
theorem impl_greatest (a : Int) (w : World) (h0 : 0 ≤ a) (h1 : a ≤ 62) :
    Calls Tryz.prog 93 #[.int .i64 a] w fun e w' => e = .returned (.int .i64 (Pl.pw a - 1)) ∧ w = w' := by
  go_enter Tryz.func93, Tryz.ntmps93
  go_wp2
  go_ret
  exact ⟨ret_int (Pl.great_wrap a h0 h1), rfl⟩
set_option maxHeartbeats 400000 in
theorem impl_power (a : Int) (w : World) (h0 : 0 ≤ a) (h1 : a ≤ 62) :
    Calls Tryz.prog 110 #[.int .i64 a] w fun e w' => e = .returned (.int .i64 (Pl.pw a)) ∧ w = w' := by
  go_enter Tryz.func110, Tryz.ntmps110
  go_wp2
  go_ret
  exact ⟨ret_int (Pl.wrap_pw a h0 h1), rfl⟩
set_option maxHeartbeats 400000 in
theorem impl_cut (x k : Int) (w : World) (h0 : 0 ≤ k) (h1 : k ≤ 62) :
    Calls Tryz.prog 103 #[.int .i64 k, .int .i64 x] w fun e w' => e = .returned (.int .i64 (Pl.wmod k x)) ∧ w = w' := by
  go_enter Tryz.func103, Tryz.ntmps103
  go_wp2_with (go_at_call 93; refine (impl_greatest _ _ h0 h1).mono ?_; rintro e w' ⟨rfl, rfl⟩)
  go_ret
  exact ⟨ret_int (Pl.cut_eq x k h0 h1), rfl⟩
set_option maxHeartbeats 400000 in
theorem impl_WordValid (k x : Int) (w : World) :
    Calls Tryz.prog 70 #[.int .i64 k, .int .i64 x] w fun e w' => e = .returned (.bool (Pl.wvB k x)) ∧ w = w' := by
  cases h : Pl.wvB k x
  · have h' := Lib.hid (Pl.wv_f h)
    clear h
    by_cases h0 : 1 ≤ k
    · by_cases h1 : k ≤ 12
      · have hp := Pl.pw_lt k h1
        go_enter Tryz.func70, Tryz.ntmps70
        go_wp2_with (first | (go_at_call 93; refine (impl_greatest _ _ (by omega) (by omega)).mono ?_; rintro e w' ⟨rfl, rfl⟩) | go_in)
        all_goals (go_ret; exact ⟨ret_bool (by have := h'.out; first | rfl | (simp; omega)), rfl⟩)
      · go_enter Tryz.func70, Tryz.ntmps70
        go_wp2
        all_goals (go_ret; exact ⟨rfl, rfl⟩)
    · go_enter Tryz.func70, Tryz.ntmps70
      go_wp2
      all_goals (go_ret; exact ⟨rfl, rfl⟩)
  · obtain ⟨h0, h1, h2, h3⟩ := Pl.wv_t h
    have hp := Pl.pw_lt k h1
    clear h
    go_enter Tryz.func70, Tryz.ntmps70
    go_wp2_with (first | (go_at_call 93; refine (impl_greatest _ _ (by omega) (by omega)).mono ?_; rintro e w' ⟨rfl, rfl⟩) | go_in)
    go_ret
    exact ⟨ret_bool (by simp; omega), rfl⟩
set_option maxHeartbeats 400000 in
theorem impl_allValid2 (k a b : Int) (w : World) (B : Nat) (ha : w.cell? ⟨B, 0, none⟩ = some (.int .i64 a)) (hb : w.cell? ⟨B, 1, none⟩ = some (.int .i64 b)) :
    Calls Tryz.prog 56 #[.int .i64 k, .slice (some ⟨B, 0, none⟩) 2 2] w fun e w' => e = .returned (.bool (Pl.v2 k a b)) ∧ w = w' := by
  have hk : Pl.wvB k a = true → 1 ≤ k ∧ k ≤ 12 := fun h => ⟨(Pl.wv_t h).1, (Pl.wv_t h).2.1⟩
  have HK := Lib.hid hk
  clear hk
  go_enter Tryz.func56, Tryz.ntmps56
  go_wp2
  refine wp_loop_rounds 3 ?_
  repeat any_goals (rw [rounds_succ]; go_wp2_with (first | (go_at_call 70; refine (impl_WordValid _ _ _).mono ?_; rintro e w' ⟨rfl, rfl⟩) | go_in))
  all_goals (go_ret; refine ⟨ret_bool ?_, rfl⟩; have := HK.out; unfold Pl.v2; first | (simp_all; done) | (simp_all; omega))

/-! ### the reference's -/
set_option maxHeartbeats 400000 in
theorem spec_WordValid (k x : Int) (w : World) :
    Calls Tryz.prog 32 #[.int .i64 k, .int .i64 x] w fun e w' => e = .returned (.bool (Pl.wvB k x)) ∧ w = w' := by
  cases h : Pl.wvB k x
  · have h' := Lib.hid (Pl.wv_f h)
    clear h
    by_cases h0 : 1 ≤ k
    · by_cases h1 : k ≤ 12
      · have hp := Pl.pw_lt k h1
        have hp0 := Pl.pw_pos k
        have he := Pl.wrap_pw k (by omega) (by omega)
        go_enter Tryz.func32, Tryz.ntmps32
        go_wp2
        all_goals (go_ret; exact ⟨ret_bool (by have := h'.out; first | rfl | (simp; omega)), rfl⟩)
      · go_enter Tryz.func32, Tryz.ntmps32
        go_wp2
        all_goals (go_ret; exact ⟨rfl, rfl⟩)
    · go_enter Tryz.func32, Tryz.ntmps32
      go_wp2
      all_goals (go_ret; exact ⟨rfl, rfl⟩)
  · obtain ⟨h0, h1, h2, h3⟩ := Pl.wv_t h
    have hp := Pl.pw_lt k h1
    have he := Pl.wrap_pw k (by omega) (by omega)
    clear h
    go_enter Tryz.func32, Tryz.ntmps32
    go_wp2
    all_goals (go_ret; exact ⟨ret_bool (by first | rfl | (simp; omega)), rfl⟩)
set_option maxHeartbeats 400000 in
theorem spec_l1Both (k a b : Int) (w : World) :
    Calls Tryz.prog 52 #[.int .i64 k, .int .i64 a, .int .i64 b] w fun e w' => e = .returned (.bool (Pl.v2 k a b)) ∧ w = w' := by
  go_enter Tryz.func52, Tryz.ntmps52
  go_wp2_with (go_at_call 32; refine (spec_WordValid _ _ _).mono ?_; rintro e w' ⟨rfl, rfl⟩)
  all_goals (go_ret; refine ⟨ret_bool ?_, rfl⟩; unfold Pl.v2; simp_all)
set_option maxHeartbeats 400000 in
theorem spec_l1Bit (x k : Int) (w : World) (hx : 0 ≤ x) (h0 : 0 ≤ k) (h1 : k ≤ 62) :
    Calls Tryz.prog 119 #[.int .i64 x, .int .i64 k] w fun e w' => e = .returned (.int .i64 (Pl.bt x k)) ∧ w = w' := by
  have hd : 0 ≤ x / 2 ^ k.toNat := Int.ediv_nonneg hx (by have := Pl.pw_pos k; unfold Pl.pw at this; omega)
  go_enter Tryz.func119, Tryz.ntmps119
  go_wp2
  go_ret
  exact ⟨ret_int rfl, rfl⟩
set_option maxHeartbeats 400000 in
theorem spec_l1Mod (k n : Int) (w : World) (h0 : 0 ≤ k) (h1 : k ≤ 61) (hn : -9223372036854775808 ≤ n) (hn' : n ≤ 9223372036854775807) :
    Calls Tryz.prog 105 #[.int .i64 k, .int .i64 n] w fun e w' => e = .returned (.int .i64 (Pl.wmod k n)) ∧ w = w' := by
  have hp := Pl.pw_pos k
  have hp2 := Pl.pw_62 k (by omega)
  have he := Pl.wrap_pw k (by omega) (by omega)
  go_enter Tryz.func105, Tryz.ntmps105
  go_wp2
  · have ht : n.tmod (Pl.pw k) < 0 := by assumption
    go_ret
    exact ⟨ret_int (Pl.tmod_fix n _ (by omega) (by omega) ht), rfl⟩
  · have ht : 0 ≤ n.tmod (Pl.pw k) := by assumption
    go_ret
    exact ⟨ret_int (Pl.tmod_nn n _ (by omega) ht), rfl⟩
set_option maxHeartbeats 400000 in
theorem spec_l1And (a b : Int) (w : World) (h0 : 0 ≤ a) (h1 : a < 1073741824) (h2 : 0 ≤ b) (h3 : b < 1073741824) :
    Calls Tryz.prog 106 #[.int .i64 a, .int .i64 b] w fun e w' => e = .returned (.int .i64 (Pl.land a b)) ∧ w = w' := by
  go_enter Tryz.func106, Tryz.ntmps106
  go_wp2
  go_loop [5, 6] (fun v i => ∃ k : Nat, k ≤ 30 ∧ i = .int .i64 k ∧ v = .int .i64 (Pl.land (a % Pl.pw k) (b % Pl.pw k))) (fun _ i => 30 - (intOf i).toNat)
  case atStart => exact ⟨0, by omega, rfl, by rw [show ((0 : Nat) : Int) = 0 from rfl, Pl.land_pw0]⟩
  case round =>
    obtain ⟨k, hk, rfl, rfl⟩ := hrel
    by_cases hlt : k < 30
    · have hr := Lib.hid (Pl.and_round a b k hlt h0 h2)
      go_wp2_with (first | (go_at_call 119; refine (spec_l1Bit _ _ _ (by omega) (by omega) (by omega)).mono ?_; rintro e w' ⟨rfl, rfl⟩))
      go_round
      case rel => exact ⟨k + 1, by omega, by go_num, by rw [hr.out]; rfl⟩
      case measure => simp [intOf]; omega
    · obtain rfl : k = 30 := by omega
      have e30 : Pl.pw 30 = 1073741824 := by decide
      have hr := Lib.hid (Pl.land_mod a b 30 h0 (by omega) h2 (by omega))
      clear e30
      go_wp2
      go_ret
      exact ⟨ret_int hr.out, rfl⟩
set_option maxHeartbeats 400000 in
theorem spec_l1Or (a b : Int) (w : World) (h0 : 0 ≤ a) (h1 : a < 1073741824) (h2 : 0 ≤ b) (h3 : b < 1073741824) :
    Calls Tryz.prog 107 #[.int .i64 a, .int .i64 b] w fun e w' => e = .returned (.int .i64 (Pl.lor a b)) ∧ w = w' := by
  have hl := Pl.land_le_l a b h0
  have hl0 := Pl.land_nonneg a b
  have he := Lib.hid (Pl.lor_land a b h0 h2)
  go_enter Tryz.func107, Tryz.ntmps107
  go_wp2_with (first | (go_at_call 106; refine (spec_l1And _ _ _ h0 h1 h2 h3).mono ?_; rintro e w' ⟨rfl, rfl⟩))
  go_ret
  exact ⟨ret_int he.out.symm, rfl⟩
set_option maxHeartbeats 400000 in
theorem spec_l1Xor (a b : Int) (w : World) (h0 : 0 ≤ a) (h1 : a < 1073741824) (h2 : 0 ≤ b) (h3 : b < 1073741824) :
    Calls Tryz.prog 108 #[.int .i64 a, .int .i64 b] w fun e w' => e = .returned (.int .i64 (Pl.lxor a b)) ∧ w = w' := by
  have hl := Pl.land_le_l a b h0
  have hl0 := Pl.land_nonneg a b
  have he := Lib.hid (Pl.lxor_land a b h0 h2)
  go_enter Tryz.func108, Tryz.ntmps108
  go_wp2_with (first | (go_at_call 106; refine (spec_l1And _ _ _ h0 h1 h2 h3).mono ?_; rintro e w' ⟨rfl, rfl⟩))
  go_ret
  exact ⟨ret_int he.out.symm, rfl⟩
end Go.Proofs.YtamhpgledbmnoaaGreat
namespace Go.Proofs.YtamhpgledbmnoaaGreat
set_option linter.unusedVariables false
set_option linter.unusedSimpArgs false
open Go.RowKit







set_option maxHeartbeats 400000 in
theorem impl_WordAdd (k a b : Int) (w : World) :
    Calls Tryz.prog 54 #[.int .i64 k, .int .i64 a, .int .i64 b] w fun e w' => e = .returned (.int .i64 (Pl.wordAdd k a b)) ∧ Below w.heap.size w w' := by
  cases hv : Pl.v2 k a b
  · have he := Lib.hid (show Pl.wordAdd k a b = -1 by simp [Pl.wordAdd, hv])
    go_enter Tryz.func54, Tryz.ntmps54
    go_wp2_with (first | (go_at_call 56; refine (impl_allValid2 _ a b _ _ (by go_simp) (by go_simp)).mono ?_; rintro e w' ⟨rfl, rfl⟩) | go_in)
    go_ret
    exact ⟨ret_int he.out.symm, by go_grown⟩
  · obtain ⟨h0, h1, h2, h3, h4, h5⟩ := Pl.v2_t hv
    have hp := Pl.pw_lt k h1
    have hp0 := Pl.pw_pos k
    have he := Lib.hid (show Pl.wordAdd k a b = Pl.wmod k (a + b) by simp [Pl.wordAdd, hv])
    go_enter Tryz.func54, Tryz.ntmps54
    go_wp2_with (first | (go_at_call 56; refine (impl_allValid2 _ a b _ _ (by go_simp) (by go_simp)).mono ?_; rintro e w' ⟨rfl, rfl⟩) | (go_at_call 103; refine (impl_cut _ _ _ (by omega) (by omega)).mono ?_; rintro e w' ⟨rfl, rfl⟩) | (go_at_call 93; refine (impl_greatest _ _ (by omega) (by omega)).mono ?_; rintro e w' ⟨rfl, rfl⟩) | go_in)
    all_goals (go_ret; refine ⟨ret_int ?_, by go_grown⟩; rw [he.out])

set_option maxHeartbeats 400000 in
theorem impl_WordSub (k a b : Int) (w : World) :
    Calls Tryz.prog 128 #[.int .i64 k, .int .i64 a, .int .i64 b] w fun e w' => e = .returned (.int .i64 (Pl.wordSub k a b)) ∧ Below w.heap.size w w' := by
  cases hv : Pl.v2 k a b
  · have he := Lib.hid (show Pl.wordSub k a b = -1 by simp [Pl.wordSub, hv])
    go_enter Tryz.func128, Tryz.ntmps128
    go_wp2_with (first | (go_at_call 56; refine (impl_allValid2 _ a b _ _ (by go_simp) (by go_simp)).mono ?_; rintro e w' ⟨rfl, rfl⟩) | go_in)
    go_ret
    exact ⟨ret_int he.out.symm, by go_grown⟩
  · obtain ⟨h0, h1, h2, h3, h4, h5⟩ := Pl.v2_t hv
    have hp := Pl.pw_lt k h1
    have hp0 := Pl.pw_pos k
    have he := Lib.hid (show Pl.wordSub k a b = Pl.wmod k (a - b) by simp [Pl.wordSub, hv])
    go_enter Tryz.func128, Tryz.ntmps128
    go_wp2_with (first | (go_at_call 56; refine (impl_allValid2 _ a b _ _ (by go_simp) (by go_simp)).mono ?_; rintro e w' ⟨rfl, rfl⟩) | (go_at_call 103; refine (impl_cut _ _ _ (by omega) (by omega)).mono ?_; rintro e w' ⟨rfl, rfl⟩) | (go_at_call 93; refine (impl_greatest _ _ (by omega) (by omega)).mono ?_; rintro e w' ⟨rfl, rfl⟩) | go_in)
    all_goals (go_ret; refine ⟨ret_int ?_, by go_grown⟩; rw [he.out])

set_option maxHeartbeats 400000 in
theorem impl_WordAnd (k a b : Int) (w : World) :
    Calls Tryz.prog 129 #[.int .i64 k, .int .i64 a, .int .i64 b] w fun e w' => e = .returned (.int .i64 (Pl.wordAnd k a b)) ∧ Below w.heap.size w w' := by
  cases hv : Pl.v2 k a b
  · have he := Lib.hid (show Pl.wordAnd k a b = -1 by simp [Pl.wordAnd, hv])
    go_enter Tryz.func129, Tryz.ntmps129
    go_wp2_with (first | (go_at_call 56; refine (impl_allValid2 _ a b _ _ (by go_simp) (by go_simp)).mono ?_; rintro e w' ⟨rfl, rfl⟩) | go_in)
    go_ret
    exact ⟨ret_int he.out.symm, by go_grown⟩
  · obtain ⟨h0, h1, h2, h3, h4, h5⟩ := Pl.v2_t hv
    have hp := Pl.pw_lt k h1
    have hp0 := Pl.pw_pos k
    have he := Lib.hid (show Pl.wordAnd k a b = Pl.land a b by simp [Pl.wordAnd, hv])
    go_enter Tryz.func129, Tryz.ntmps129
    go_wp2_with (first | (go_at_call 56; refine (impl_allValid2 _ a b _ _ (by go_simp) (by go_simp)).mono ?_; rintro e w' ⟨rfl, rfl⟩) | (go_at_call 103; refine (impl_cut _ _ _ (by omega) (by omega)).mono ?_; rintro e w' ⟨rfl, rfl⟩) | (go_at_call 93; refine (impl_greatest _ _ (by omega) (by omega)).mono ?_; rintro e w' ⟨rfl, rfl⟩) | go_in)
    all_goals (go_ret; refine ⟨ret_int ?_, by go_grown⟩; rw [he.out]; exact Pl.and_end k a b hv)

set_option maxHeartbeats 400000 in
theorem impl_WordOr (k a b : Int) (w : World) :
    Calls Tryz.prog 130 #[.int .i64 k, .int .i64 a, .int .i64 b] w fun e w' => e = .returned (.int .i64 (Pl.wordOr k a b)) ∧ Below w.heap.size w w' := by
  cases hv : Pl.v2 k a b
  · have he := Lib.hid (show Pl.wordOr k a b = -1 by simp [Pl.wordOr, hv])
    go_enter Tryz.func130, Tryz.ntmps130
    go_wp2_with (first | (go_at_call 56; refine (impl_allValid2 _ a b _ _ (by go_simp) (by go_simp)).mono ?_; rintro e w' ⟨rfl, rfl⟩) | go_in)
    go_ret
    exact ⟨ret_int he.out.symm, by go_grown⟩
  · obtain ⟨h0, h1, h2, h3, h4, h5⟩ := Pl.v2_t hv
    have hp := Pl.pw_lt k h1
    have hp0 := Pl.pw_pos k
    have he := Lib.hid (show Pl.wordOr k a b = Pl.lor a b by simp [Pl.wordOr, hv])
    go_enter Tryz.func130, Tryz.ntmps130
    go_wp2_with (first | (go_at_call 56; refine (impl_allValid2 _ a b _ _ (by go_simp) (by go_simp)).mono ?_; rintro e w' ⟨rfl, rfl⟩) | (go_at_call 103; refine (impl_cut _ _ _ (by omega) (by omega)).mono ?_; rintro e w' ⟨rfl, rfl⟩) | (go_at_call 93; refine (impl_greatest _ _ (by omega) (by omega)).mono ?_; rintro e w' ⟨rfl, rfl⟩) | go_in)
    all_goals (go_ret; refine ⟨ret_int ?_, by go_grown⟩; rw [he.out]; exact Pl.or_end k a b hv)

set_option maxHeartbeats 400000 in
theorem impl_WordXor (k a b : Int) (w : World) :
    Calls Tryz.prog 131 #[.int .i64 k, .int .i64 a, .int .i64 b] w fun e w' => e = .returned (.int .i64 (Pl.wordXor k a b)) ∧ Below w.heap.size w w' := by
  cases hv : Pl.v2 k a b
  · have he := Lib.hid (show Pl.wordXor k a b = -1 by simp [Pl.wordXor, hv])
    go_enter Tryz.func131, Tryz.ntmps131
    go_wp2_with (first | (go_at_call 56; refine (impl_allValid2 _ a b _ _ (by go_simp) (by go_simp)).mono ?_; rintro e w' ⟨rfl, rfl⟩) | go_in)
    go_ret
    exact ⟨ret_int he.out.symm, by go_grown⟩
  · obtain ⟨h0, h1, h2, h3, h4, h5⟩ := Pl.v2_t hv
    have hp := Pl.pw_lt k h1
    have hp0 := Pl.pw_pos k
    have he := Lib.hid (show Pl.wordXor k a b = Pl.lxor a b by simp [Pl.wordXor, hv])
    go_enter Tryz.func131, Tryz.ntmps131
    go_wp2_with (first | (go_at_call 56; refine (impl_allValid2 _ a b _ _ (by go_simp) (by go_simp)).mono ?_; rintro e w' ⟨rfl, rfl⟩) | (go_at_call 103; refine (impl_cut _ _ _ (by omega) (by omega)).mono ?_; rintro e w' ⟨rfl, rfl⟩) | (go_at_call 93; refine (impl_greatest _ _ (by omega) (by omega)).mono ?_; rintro e w' ⟨rfl, rfl⟩) | go_in)
    all_goals (go_ret; refine ⟨ret_int ?_, by go_grown⟩; rw [he.out]; exact Pl.xor_end k a b hv)


set_option maxHeartbeats 400000 in
theorem impl_WordNot (k x : Int) (w : World) :
    Calls Tryz.prog 55 #[.int .i64 k, .int .i64 x] w fun e w' => e = .returned (.int .i64 (Pl.wordNot k x)) ∧ Below w.heap.size w w' := by
  cases hv : Pl.wvB k x
  · have he := Lib.hid (show Pl.wordNot k x = -1 by simp [Pl.wordNot, hv])
    go_enter Tryz.func55, Tryz.ntmps55
    go_wp2_with (first | (go_at_call 70; refine (impl_WordValid _ _ _).mono ?_; rintro e w' ⟨rfl, rfl⟩) | go_in)
    go_ret
    exact ⟨ret_int he.out.symm, by go_grown⟩
  · obtain ⟨h0, h1, h2, h3⟩ := Pl.wv_t hv
    have hp := Pl.pw_lt k h1
    have hp0 := Pl.pw_pos k
    go_enter Tryz.func55, Tryz.ntmps55
    go_wp2_with (first | (go_at_call 70; refine (impl_WordValid _ _ _).mono ?_; rintro e w' ⟨rfl, rfl⟩) | (go_at_call 103; refine (impl_cut _ _ _ (by omega) (by omega)).mono ?_; rintro e w' ⟨rfl, rfl⟩) | (go_at_call 93; refine (impl_greatest _ _ (by omega) (by omega)).mono ?_; rintro e w' ⟨rfl, rfl⟩) | (go_at_call 110; refine (impl_power _ _ (by omega) (by omega)).mono ?_; rintro e w' ⟨rfl, rfl⟩) | go_in)
    all_goals (go_ret; refine ⟨ret_int ?_, by go_grown⟩; exact Pl.not_end k x hv)



end Go.Proofs.YtamhpgledbmnoaaGreat
namespace Go.Proofs.YtamhpgledbmnoaaGreat
set_option linter.unusedVariables false
set_option linter.unusedSimpArgs false
open Go.RowKit

end Go.Proofs.YtamhpgledbmnoaaGreat
namespace Go.Proofs.YtamhpgledbmnoaaGreat
set_option linter.unusedVariables false
set_option linter.unusedSimpArgs false
open Go.RowKit

end Go.Proofs.YtamhpgledbmnoaaGreat
