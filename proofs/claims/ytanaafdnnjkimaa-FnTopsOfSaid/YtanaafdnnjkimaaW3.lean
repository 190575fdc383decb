/-
  Contracts of the reference's functions on words without branches, and of the program's masks and choices: for all integers they return the plain functions' values.
  Conditions: none but those of the model.
-/
import Derived.Test.YtanaafdnnjkimaaW1
import Derived.Test.YtanaafdnnjkimaaPw
namespace Go.Proofs.Ytanaafdnnjkimaa
set_option linter.unusedVariables false
set_option linter.unusedSimpArgs false
open Go.RowKit

set_option maxHeartbeats 400000 in
theorem spec_MaskOf (k c : Int) (w : World) :
    Calls Try.prog 80 #[.int .i64 k, .int .i64 c] w fun e w' => e = .returned (.int .i64 (Pl.maskOf k c)) ∧ w = w' := by
  by_cases h0 : 1 ≤ k
  · by_cases h1 : k ≤ 12
    · by_cases hc : c = 0 ∨ c = 1
      · have he := Lib.hid (Pl.maskOf_t h0 h1 hc)
        rcases hc with rfl | rfl
        · go_enter Try.func80, Try.ntmps80
          go_wp2_with (first | (go_at_call 69; refine (spec_l1Mod _ _ _ (by omega) (by omega) (by omega) (by omega)).mono ?_; rintro e w' ⟨rfl, rfl⟩) | go_in)
          go_ret
          exact ⟨ret_int (by rw [he.out]; simp [Pl.wmod_0]), rfl⟩
        · go_enter Try.func80, Try.ntmps80
          go_wp2_with (first | (go_at_call 69; refine (spec_l1Mod _ _ _ (by omega) (by omega) (by omega) (by omega)).mono ?_; rintro e w' ⟨rfl, rfl⟩) | go_in)
          go_ret
          exact ⟨ret_int (by rw [he.out, Pl.wmod_m1]; omega), rfl⟩
      · have he := Lib.hid (Pl.maskOf_f (k := k) (c := c) (fun x => hc x.2))
        have hc' : c < 0 ∨ 1 < c := by omega
        clear hc
        rcases hc' with hc | hc
        · go_enter Try.func80, Try.ntmps80
          go_wp2
          go_ret
          exact ⟨ret_int he.out.symm, rfl⟩
        · have hc0 : 0 ≤ c := by omega
          have hc1 : ¬ c ≤ 1 := by omega
          go_enter Try.func80, Try.ntmps80
          go_wp2
          all_goals (go_ret; exact ⟨ret_int he.out.symm, rfl⟩)
    · have he := Lib.hid (Pl.maskOf_f (k := k) (c := c) (fun x => h1 x.1.2))
      go_enter Try.func80, Try.ntmps80
      go_wp2
      go_ret
      exact ⟨ret_int he.out.symm, rfl⟩
  · have he := Lib.hid (Pl.maskOf_f (k := k) (c := c) (fun x => h0 x.1.1))
    go_enter Try.func80, Try.ntmps80
    go_wp2
    go_ret
    exact ⟨ret_int he.out.symm, rfl⟩
set_option maxHeartbeats 400000 in
theorem spec_LessBit (k a b : Int) (w : World) :
    Calls Try.prog 63 #[.int .i64 k, .int .i64 a, .int .i64 b] w fun e w' => e = .returned (.int .i64 (Pl.lessBit k a b)) ∧ w = w' := by
  cases hv : Pl.v2 k a b
  · have he := Lib.hid (show Pl.lessBit k a b = -1 by simp [Pl.lessBit, hv])
    go_enter Try.func63, Try.ntmps63
    go_wp2_with (first | (go_at_call 44; refine (spec_l1Both _ _ _ _).mono ?_; rintro e w' ⟨rfl, rfl⟩) | go_in)
    go_ret
    exact ⟨ret_int he.out.symm, rfl⟩
  · obtain ⟨h0, h1, h2, h3, h4, h5⟩ := Pl.v2_t hv
    have hp := Pl.pw_lt k h1
    have hp0 := Pl.pw_pos k
    have hw := Pl.wrap_pw k (by omega) (by omega)
    have hm := Pl.wmod_lt k (a - b)
    have b1 := Pl.land_nonneg (Pl.pw k - 1 - a) b
    have b2 := Pl.land_lt (a := Pl.pw k - 1 - a) h4 h5
    have b3 := Pl.lor_nonneg (Pl.pw k - 1 - a) b
    have b4 := Pl.lor_lt (a := Pl.pw k - 1 - a) (b := b) (k := k) (by omega) (by omega) h4 h5
    have b5 := Pl.land_nonneg (Pl.lor (Pl.pw k - 1 - a) b) (Pl.wmod k (a - b))
    have b6 := Pl.land_lt (a := Pl.lor (Pl.pw k - 1 - a) b) hm.1 hm.2
    have b7 := Pl.lor_nonneg (Pl.land (Pl.pw k - 1 - a) b) (Pl.land (Pl.lor (Pl.pw k - 1 - a) b) (Pl.wmod k (a - b)))
    have b8 := Pl.lor_lt b1 b2 b5 b6
    have he := Lib.hid (Pl.less_spec k a b hv)
    go_enter Try.func63, Try.ntmps63
    go_wp2_with (first | (go_at_call 44; refine (spec_l1Both _ _ _ _).mono ?_; rintro e w' ⟨rfl, rfl⟩) | (go_at_call 46; refine (spec_l1And _ _ _ (by omega) (by omega) (by omega) (by omega)).mono ?_; rintro e w' ⟨rfl, rfl⟩) | (go_at_call 66; refine (spec_l1Or _ _ _ (by omega) (by omega) (by omega) (by omega)).mono ?_; rintro e w' ⟨rfl, rfl⟩) | (go_at_call 69; refine (spec_l1Mod _ _ _ (by omega) (by omega) (by omega) (by omega)).mono ?_; rintro e w' ⟨rfl, rfl⟩) | (go_at_call 73; refine (spec_l1Bit _ _ _ (by omega) (by omega) (by omega)).mono ?_; rintro e w' ⟨rfl, rfl⟩) | go_in)
    go_ret
    exact ⟨ret_int he.out, rfl⟩
set_option maxHeartbeats 400000 in
theorem spec_Choose (k c a b : Int) (w : World) :
    Calls Try.prog 62 #[.int .i64 k, .int .i64 c, .int .i64 a, .int .i64 b] w fun e w' => e = .returned (.int .i64 (Pl.choose k c a b)) ∧ w = w' := by
  by_cases hc : (c = 0 ∨ c = 1) ∧ Pl.v2 k a b = true
  · obtain ⟨hc, hv⟩ := hc
    obtain ⟨h0, h1, h2, h3, h4, h5⟩ := Pl.v2_t hv
    have hp := Pl.pw_lt k h1
    have hp0 := Pl.pw_pos k
    have b1 := Pl.lxor_nonneg a b
    have b2 := Pl.lxor_lt h2 h3 h4 h5
    rcases hc with rfl | rfl
    · have he := Lib.hid (Pl.choose_0 hv)
      have hm : Pl.maskOf k 0 = 0 := by rw [Pl.maskOf_t h0 h1 (.inl rfl), Int.zero_mul]
      have hl : Pl.land 0 (Pl.lxor a b) = 0 := Pl.zero_land _
      have hx : Pl.lxor b 0 = b := Pl.lxor_0 b h4
      go_enter Try.func62, Try.ntmps62
      go_wp2_with (first | (go_at_call 44; refine (spec_l1Both _ _ _ _).mono ?_; rintro e w' ⟨rfl, rfl⟩) | (go_at_call 80; refine (spec_MaskOf _ _ _).mono ?_; rintro e w' ⟨rfl, rfl⟩) | (go_at_call 46; refine (spec_l1And _ _ _ (by omega) (by omega) (by omega) (by omega)).mono ?_; rintro e w' ⟨rfl, rfl⟩) | (go_at_call 45; refine (spec_l1Xor _ _ _ (by omega) (by omega) (by omega) (by omega)).mono ?_; rintro e w' ⟨rfl, rfl⟩) | go_in)
      go_ret
      exact ⟨ret_int he.out.symm, rfl⟩
    · have he := Lib.hid (Pl.choose_1 hv)
      have hm : Pl.maskOf k 1 = Pl.pw k - 1 := by rw [Pl.maskOf_t h0 h1 (.inr rfl), Int.one_mul]
      have hl : Pl.land (Pl.pw k - 1) (Pl.lxor a b) = Pl.lxor a b := Pl.land_all k _ b1 b2
      have hx : Pl.lxor b (Pl.lxor a b) = a := Pl.lxor_self_l a b h2 h4
      go_enter Try.func62, Try.ntmps62
      go_wp2_with (first | (go_at_call 44; refine (spec_l1Both _ _ _ _).mono ?_; rintro e w' ⟨rfl, rfl⟩) | (go_at_call 80; refine (spec_MaskOf _ _ _).mono ?_; rintro e w' ⟨rfl, rfl⟩) | (go_at_call 46; refine (spec_l1And _ _ _ (by omega) (by omega) (by omega) (by omega)).mono ?_; rintro e w' ⟨rfl, rfl⟩) | (go_at_call 45; refine (spec_l1Xor _ _ _ (by omega) (by omega) (by omega) (by omega)).mono ?_; rintro e w' ⟨rfl, rfl⟩) | go_in)
      go_ret
      exact ⟨ret_int he.out.symm, rfl⟩
  · have he := Lib.hid (Pl.choose_f hc)
    cases hv : Pl.v2 k a b
    · clear hc
      go_enter Try.func62, Try.ntmps62
      go_wp2_with (first | (go_at_call 44; refine (spec_l1Both _ _ _ _).mono ?_; rintro e w' ⟨rfl, rfl⟩) | (go_at_call 80; refine (spec_MaskOf _ _ _).mono ?_; rintro e w' ⟨rfl, rfl⟩) | go_in)
      all_goals (go_ret; exact ⟨ret_int he.out.symm, rfl⟩)
    · have hm : Pl.maskOf k c = -1 := Pl.maskOf_f (fun x => hc ⟨x.2, hv⟩)
      clear hc
      go_enter Try.func62, Try.ntmps62
      go_wp2_with (first | (go_at_call 44; refine (spec_l1Both _ _ _ _).mono ?_; rintro e w' ⟨rfl, rfl⟩) | (go_at_call 80; refine (spec_MaskOf _ _ _).mono ?_; rintro e w' ⟨rfl, rfl⟩) | go_in)
      all_goals (go_ret; exact ⟨ret_int he.out.symm, rfl⟩)
set_option maxHeartbeats 400000 in
theorem spec_LeastOf (k a b : Int) (w : World) :
    Calls Try.prog 28 #[.int .i64 k, .int .i64 a, .int .i64 b] w fun e w' => e = .returned (.int .i64 (Pl.leastOf k a b)) ∧ w = w' := by
  cases hv : Pl.v2 k a b
  · have he := Lib.hid (show Pl.leastOf k a b = -1 by simp [Pl.leastOf, hv])
    go_enter Try.func28, Try.ntmps28
    go_wp2_with (first | (go_at_call 44; refine (spec_l1Both _ _ _ _).mono ?_; rintro e w' ⟨rfl, rfl⟩) | go_in)
    go_ret
    exact ⟨ret_int he.out.symm, rfl⟩
  · obtain ⟨h0, h1, h2, h3, h4, h5⟩ := Pl.v2_t hv
    have hp := Pl.pw_lt k h1
    have hp0 := Pl.pw_pos k
    have hc := Lib.hid (Pl.choose_less k a b)
    go_enter Try.func28, Try.ntmps28
    go_wp2_with (first | (go_at_call 44; refine (spec_l1Both _ _ _ _).mono ?_; rintro e w' ⟨rfl, rfl⟩) | (go_at_call 63; refine (spec_LessBit _ _ _ _).mono ?_; rintro e w' ⟨rfl, rfl⟩) | (go_at_call 62; refine (spec_Choose _ _ _ _ _).mono ?_; rintro e w' ⟨rfl, rfl⟩) | go_in)
    all_goals (go_ret; refine ⟨ret_int ?_, rfl⟩; exact hc.out)
end Go.Proofs.Ytanaafdnnjkimaa
