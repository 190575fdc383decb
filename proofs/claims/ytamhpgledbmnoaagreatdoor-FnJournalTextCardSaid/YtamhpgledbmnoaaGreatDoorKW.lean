/-
  Contracts of functions on words.
  Conditions: as stated at each.
-/
import Derived.Test.YtamhpgledbmnoaaGreatDoorKB
import Derived.Test.YtamhpgledbmnoaaGreatDoorKP
namespace Go.Proofs.YtamhpgledbmnoaaGreatDoor
set_option linter.unusedVariables false
set_option linter.unusedSimpArgs false
open Go.RowKit

set_option maxHeartbeats 400000 in
theorem impl_greatest (a : Int) (w : World) (h0 : 0 ≤ a) (h1 : a ≤ 62) :
    Calls Tryz.prog 97 #[.int .i64 a] w fun e w' => e = .returned (.int .i64 (Pl.pw a - 1)) ∧ w = w' := by
  go_enter Tryz.func97, Tryz.ntmps97
  go_wp2
  go_ret
  exact ⟨ret_int (Pl.great_wrap a h0 h1), rfl⟩
set_option maxHeartbeats 400000 in
theorem impl_power (a : Int) (w : World) (h0 : 0 ≤ a) (h1 : a ≤ 62) :
    Calls Tryz.prog 116 #[.int .i64 a] w fun e w' => e = .returned (.int .i64 (Pl.pw a)) ∧ w = w' := by
  go_enter Tryz.func116, Tryz.ntmps116
  go_wp2
  go_ret
  exact ⟨ret_int (Pl.wrap_pw a h0 h1), rfl⟩
set_option maxHeartbeats 400000 in
theorem impl_cut (x k : Int) (w : World) (h0 : 0 ≤ k) (h1 : k ≤ 62) :
    Calls Tryz.prog 72 #[.int .i64 k, .int .i64 x] w fun e w' => e = .returned (.int .i64 (Pl.wmod k x)) ∧ w = w' := by
  go_enter Tryz.func72, Tryz.ntmps72
  go_wp2_with (go_at_call 97; refine (impl_greatest _ _ h0 h1).mono ?_; rintro e w' ⟨rfl, rfl⟩)
  go_ret
  exact ⟨ret_int (Pl.cut_eq x k h0 h1), rfl⟩
set_option maxHeartbeats 400000 in
theorem impl_WordValid (k x : Int) (w : World) :
    Calls Tryz.prog 73 #[.int .i64 k, .int .i64 x] w fun e w' => e = .returned (.bool (Pl.wvB k x)) ∧ w = w' := by
  cases h : Pl.wvB k x
  · have h' := Lib.hid (Pl.wv_f h)
    clear h
    by_cases h0 : 1 ≤ k
    · by_cases h1 : k ≤ 12
      · have hp := Pl.pw_lt k h1
        go_enter Tryz.func73, Tryz.ntmps73
        go_wp2_with (first | (go_at_call 97; refine (impl_greatest _ _ (by omega) (by omega)).mono ?_; rintro e w' ⟨rfl, rfl⟩) | go_in)
        all_goals (go_ret; exact ⟨ret_bool (by have := h'.out; first | rfl | (simp; omega)), rfl⟩)
      · go_enter Tryz.func73, Tryz.ntmps73
        go_wp2
        all_goals (go_ret; exact ⟨rfl, rfl⟩)
    · go_enter Tryz.func73, Tryz.ntmps73
      go_wp2
      all_goals (go_ret; exact ⟨rfl, rfl⟩)
  · obtain ⟨h0, h1, h2, h3⟩ := Pl.wv_t h
    have hp := Pl.pw_lt k h1
    clear h
    go_enter Tryz.func73, Tryz.ntmps73
    go_wp2_with (first | (go_at_call 97; refine (impl_greatest _ _ (by omega) (by omega)).mono ?_; rintro e w' ⟨rfl, rfl⟩) | go_in)
    go_ret
    exact ⟨ret_bool (by simp; omega), rfl⟩
set_option maxHeartbeats 400000 in
theorem impl_allValid2 (k a b : Int) (w : World) (B : Nat) (ha : w.cell? ⟨B, 0, none⟩ = some (.int .i64 a)) (hb : w.cell? ⟨B, 1, none⟩ = some (.int .i64 b)) :
    Calls Tryz.prog 71 #[.int .i64 k, .slice (some ⟨B, 0, none⟩) 2 2] w fun e w' => e = .returned (.bool (Pl.v2 k a b)) ∧ w = w' := by
  have hk : Pl.wvB k a = true → 1 ≤ k ∧ k ≤ 12 := fun h => ⟨(Pl.wv_t h).1, (Pl.wv_t h).2.1⟩
  have HK := Lib.hid hk
  clear hk
  go_enter Tryz.func71, Tryz.ntmps71
  go_wp2
  refine wp_loop_rounds 3 ?_
  repeat any_goals (rw [rounds_succ]; go_wp2_with (first | (go_at_call 73; refine (impl_WordValid _ _ _).mono ?_; rintro e w' ⟨rfl, rfl⟩) | go_in))
  all_goals (go_ret; refine ⟨ret_bool ?_, rfl⟩; have := HK.out; unfold Pl.v2; first | (simp_all; done) | (simp_all; omega))

/-! ### the reference's -/
set_option maxHeartbeats 400000 in
theorem spec_WordValid (k x : Int) (w : World) :
    Calls Tryz.prog 64 #[.int .i64 k, .int .i64 x] w fun e w' => e = .returned (.bool (Pl.wvB k x)) ∧ w = w' := by
  cases h : Pl.wvB k x
  · have h' := Lib.hid (Pl.wv_f h)
    clear h
    by_cases h0 : 1 ≤ k
    · by_cases h1 : k ≤ 12
      · have hp := Pl.pw_lt k h1
        have hp0 := Pl.pw_pos k
        have he := Pl.wrap_pw k (by omega) (by omega)
        go_enter Tryz.func64, Tryz.ntmps64
        go_wp2
        all_goals (go_ret; exact ⟨ret_bool (by have := h'.out; first | rfl | (simp; omega)), rfl⟩)
      · go_enter Tryz.func64, Tryz.ntmps64
        go_wp2
        all_goals (go_ret; exact ⟨rfl, rfl⟩)
    · go_enter Tryz.func64, Tryz.ntmps64
      go_wp2
      all_goals (go_ret; exact ⟨rfl, rfl⟩)
  · obtain ⟨h0, h1, h2, h3⟩ := Pl.wv_t h
    have hp := Pl.pw_lt k h1
    have he := Pl.wrap_pw k (by omega) (by omega)
    clear h
    go_enter Tryz.func64, Tryz.ntmps64
    go_wp2
    all_goals (go_ret; exact ⟨ret_bool (by first | rfl | (simp; omega)), rfl⟩)
set_option maxHeartbeats 400000 in
theorem spec_l1Both (k a b : Int) (w : World) :
    Calls Tryz.prog 85 #[.int .i64 k, .int .i64 a, .int .i64 b] w fun e w' => e = .returned (.bool (Pl.v2 k a b)) ∧ w = w' := by
  go_enter Tryz.func85, Tryz.ntmps85
  go_wp2_with (go_at_call 64; refine (spec_WordValid _ _ _).mono ?_; rintro e w' ⟨rfl, rfl⟩)
  all_goals (go_ret; refine ⟨ret_bool ?_, rfl⟩; unfold Pl.v2; simp_all)
set_option maxHeartbeats 400000 in
theorem spec_l1Bit (x k : Int) (w : World) (hx : 0 ≤ x) (h0 : 0 ≤ k) (h1 : k ≤ 62) :
    Calls Tryz.prog 127 #[.int .i64 x, .int .i64 k] w fun e w' => e = .returned (.int .i64 (Pl.bt x k)) ∧ w = w' := by
  have hd : 0 ≤ x / 2 ^ k.toNat := Int.ediv_nonneg hx (by have := Pl.pw_pos k; unfold Pl.pw at this; omega)
  go_enter Tryz.func127, Tryz.ntmps127
  go_wp2
  go_ret
  exact ⟨ret_int rfl, rfl⟩
set_option maxHeartbeats 400000 in
theorem spec_l1Mod (k n : Int) (w : World) (h0 : 0 ≤ k) (h1 : k ≤ 61) (hn : -9223372036854775808 ≤ n) (hn' : n ≤ 9223372036854775807) :
    Calls Tryz.prog 121 #[.int .i64 k, .int .i64 n] w fun e w' => e = .returned (.int .i64 (Pl.wmod k n)) ∧ w = w' := by
  have hp := Pl.pw_pos k
  have hp2 := Pl.pw_62 k (by omega)
  have he := Pl.wrap_pw k (by omega) (by omega)
  go_enter Tryz.func121, Tryz.ntmps121
  go_wp2
  · have ht : n.tmod (Pl.pw k) < 0 := by assumption
    go_ret
    exact ⟨ret_int (Pl.tmod_fix n _ (by omega) (by omega) ht), rfl⟩
  · have ht : 0 ≤ n.tmod (Pl.pw k) := by assumption
    go_ret
    exact ⟨ret_int (Pl.tmod_nn n _ (by omega) ht), rfl⟩
set_option maxHeartbeats 400000 in
theorem spec_l1And (a b : Int) (w : World) (h0 : 0 ≤ a) (h1 : a < 1073741824) (h2 : 0 ≤ b) (h3 : b < 1073741824) :
    Calls Tryz.prog 122 #[.int .i64 a, .int .i64 b] w fun e w' => e = .returned (.int .i64 (Pl.land a b)) ∧ w = w' := by
  go_enter Tryz.func122, Tryz.ntmps122
  go_wp2
  go_loop [5, 6] (fun v i => ∃ k : Nat, k ≤ 30 ∧ i = .int .i64 k ∧ v = .int .i64 (Pl.land (a % Pl.pw k) (b % Pl.pw k))) (fun _ i => 30 - (intOf i).toNat)
  case atStart => exact ⟨0, by omega, rfl, by rw [show ((0 : Nat) : Int) = 0 from rfl, Pl.land_pw0]⟩
  case round =>
    obtain ⟨k, hk, rfl, rfl⟩ := hrel
    by_cases hlt : k < 30
    · have hr := Lib.hid (Pl.and_round a b k hlt h0 h2)
      go_wp2_with (first | (go_at_call 127; refine (spec_l1Bit _ _ _ (by omega) (by omega) (by omega)).mono ?_; rintro e w' ⟨rfl, rfl⟩))
      go_round
      case rel => exact ⟨k + 1, by omega, by go_num, by rw [hr.out]; rfl⟩
      case measure => simp [intOf]; omega
    · obtain rfl : k = 30 := by omega
      have e30 : Pl.pw 30 = 1073741824 := by decide
      have hr := Lib.hid (Pl.land_mod a b 30 h0 (by omega) h2 (by omega))
      clear e30
      go_wp2
      go_ret
      exact ⟨ret_int hr.out, rfl⟩
set_option maxHeartbeats 400000 in
theorem spec_l1Or (a b : Int) (w : World) (h0 : 0 ≤ a) (h1 : a < 1073741824) (h2 : 0 ≤ b) (h3 : b < 1073741824) :
    Calls Tryz.prog 123 #[.int .i64 a, .int .i64 b] w fun e w' => e = .returned (.int .i64 (Pl.lor a b)) ∧ w = w' := by
  have hl := Pl.land_le_l a b h0
  have hl0 := Pl.land_nonneg a b
  have he := Lib.hid (Pl.lor_land a b h0 h2)
  go_enter Tryz.func123, Tryz.ntmps123
  go_wp2_with (first | (go_at_call 122; refine (spec_l1And _ _ _ h0 h1 h2 h3).mono ?_; rintro e w' ⟨rfl, rfl⟩))
  go_ret
  exact ⟨ret_int he.out.symm, rfl⟩
set_option maxHeartbeats 400000 in
theorem spec_l1Xor (a b : Int) (w : World) (h0 : 0 ≤ a) (h1 : a < 1073741824) (h2 : 0 ≤ b) (h3 : b < 1073741824) :
    Calls Tryz.prog 124 #[.int .i64 a, .int .i64 b] w fun e w' => e = .returned (.int .i64 (Pl.lxor a b)) ∧ w = w' := by
  have hl := Pl.land_le_l a b h0
  have hl0 := Pl.land_nonneg a b
  have he := Lib.hid (Pl.lxor_land a b h0 h2)
  go_enter Tryz.func124, Tryz.ntmps124
  go_wp2_with (first | (go_at_call 122; refine (spec_l1And _ _ _ h0 h1 h2 h3).mono ?_; rintro e w' ⟨rfl, rfl⟩))
  go_ret
  exact ⟨ret_int he.out.symm, rfl⟩
end Go.Proofs.YtamhpgledbmnoaaGreatDoor
namespace Go.Proofs.YtamhpgledbmnoaaGreatDoor
set_option linter.unusedVariables false
set_option linter.unusedSimpArgs false
open Go.RowKit







set_option maxHeartbeats 400000 in
theorem impl_WordAdd (k a b : Int) (w : World) :
    Calls Tryz.prog 28 #[.int .i64 k, .int .i64 a, .int .i64 b] w fun e w' => e = .returned (.int .i64 (Pl.wordAdd k a b)) ∧ Below w.heap.size w w' := by
  cases hv : Pl.v2 k a b
  · have he := Lib.hid (show Pl.wordAdd k a b = -1 by simp [Pl.wordAdd, hv])
    go_enter Tryz.func28, Tryz.ntmps28
    go_wp2_with (first | (go_at_call 71; refine (impl_allValid2 _ a b _ _ (by go_simp) (by go_simp)).mono ?_; rintro e w' ⟨rfl, rfl⟩) | go_in)
    go_ret
    exact ⟨ret_int he.out.symm, by go_grown⟩
  · obtain ⟨h0, h1, h2, h3, h4, h5⟩ := Pl.v2_t hv
    have hp := Pl.pw_lt k h1
    have hp0 := Pl.pw_pos k
    have he := Lib.hid (show Pl.wordAdd k a b = Pl.wmod k (a + b) by simp [Pl.wordAdd, hv])
    go_enter Tryz.func28, Tryz.ntmps28
    go_wp2_with (first | (go_at_call 71; refine (impl_allValid2 _ a b _ _ (by go_simp) (by go_simp)).mono ?_; rintro e w' ⟨rfl, rfl⟩) | (go_at_call 72; refine (impl_cut _ _ _ (by omega) (by omega)).mono ?_; rintro e w' ⟨rfl, rfl⟩) | (go_at_call 97; refine (impl_greatest _ _ (by omega) (by omega)).mono ?_; rintro e w' ⟨rfl, rfl⟩) | go_in)
    all_goals (go_ret; refine ⟨ret_int ?_, by go_grown⟩; rw [he.out])






set_option maxHeartbeats 400000 in
theorem impl_WordNot (k x : Int) (w : World) :
    Calls Tryz.prog 29 #[.int .i64 k, .int .i64 x] w fun e w' => e = .returned (.int .i64 (Pl.wordNot k x)) ∧ Below w.heap.size w w' := by
  cases hv : Pl.wvB k x
  · have he := Lib.hid (show Pl.wordNot k x = -1 by simp [Pl.wordNot, hv])
    go_enter Tryz.func29, Tryz.ntmps29
    go_wp2_with (first | (go_at_call 73; refine (impl_WordValid _ _ _).mono ?_; rintro e w' ⟨rfl, rfl⟩) | go_in)
    go_ret
    exact ⟨ret_int he.out.symm, by go_grown⟩
  · obtain ⟨h0, h1, h2, h3⟩ := Pl.wv_t hv
    have hp := Pl.pw_lt k h1
    have hp0 := Pl.pw_pos k
    go_enter Tryz.func29, Tryz.ntmps29
    go_wp2_with (first | (go_at_call 73; refine (impl_WordValid _ _ _).mono ?_; rintro e w' ⟨rfl, rfl⟩) | (go_at_call 72; refine (impl_cut _ _ _ (by omega) (by omega)).mono ?_; rintro e w' ⟨rfl, rfl⟩) | (go_at_call 97; refine (impl_greatest _ _ (by omega) (by omega)).mono ?_; rintro e w' ⟨rfl, rfl⟩) | (go_at_call 116; refine (impl_power _ _ (by omega) (by omega)).mono ?_; rintro e w' ⟨rfl, rfl⟩) | go_in)
    all_goals (go_ret; refine ⟨ret_int ?_, by go_grown⟩; exact Pl.not_end k x hv)



end Go.Proofs.YtamhpgledbmnoaaGreatDoor
namespace Go.Proofs.YtamhpgledbmnoaaGreatDoor
set_option linter.unusedVariables false
set_option linter.unusedSimpArgs false
open Go.RowKit

end Go.Proofs.YtamhpgledbmnoaaGreatDoor
namespace Go.Proofs.YtamhpgledbmnoaaGreatDoor
set_option linter.unusedVariables false
set_option linter.unusedSimpArgs false
open Go.RowKit

end Go.Proofs.YtamhpgledbmnoaaGreatDoor
