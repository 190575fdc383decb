/-
  Contracts of the reference's functions on words without branches, and of the program's masks and choices: for all integers they return the plain functions' values.
  Conditions: none but those of the model.
-/
import Derived.Test.YtchlmjlcmcdjpaaW1
import Derived.Test.YtchlmjlcmcdjpaaPw
namespace Go.Proofs.Ytchlmjlcmcdjpaa
set_option linter.unusedVariables false
set_option linter.unusedSimpArgs false
open Go.RowKit

set_option maxHeartbeats 400000 in
theorem spec_MaskOf (k c : Int) (w : World) :
    Calls Try.prog 19 #[.int .i64 k, .int .i64 c] w fun e w' => e = .returned (.int .i64 (Pl.maskOf k c)) ∧ w = w' := by
  by_cases h0 : 1 ≤ k
  · by_cases h1 : k ≤ 12
    · by_cases hc : c = 0 ∨ c = 1
      · have he := Lib.hid (Pl.maskOf_t h0 h1 hc)
        rcases hc with rfl | rfl
        · go_enter Try.func19, Try.ntmps19
          go_wp2_with (first | (go_at_call 69; refine (spec_l1Mod _ _ _ (by omega) (by omega) (by omega) (by omega)).mono ?_; rintro e w' ⟨rfl, rfl⟩) | go_in)
          go_ret
          exact ⟨ret_int (by rw [he.out]; simp [Pl.wmod_0]), rfl⟩
        · go_enter Try.func19, Try.ntmps19
          go_wp2_with (first | (go_at_call 69; refine (spec_l1Mod _ _ _ (by omega) (by omega) (by omega) (by omega)).mono ?_; rintro e w' ⟨rfl, rfl⟩) | go_in)
          go_ret
          exact ⟨ret_int (by rw [he.out, Pl.wmod_m1]; omega), rfl⟩
      · have he := Lib.hid (Pl.maskOf_f (k := k) (c := c) (fun x => hc x.2))
        have hc' : c < 0 ∨ 1 < c := by omega
        clear hc
        rcases hc' with hc | hc
        · go_enter Try.func19, Try.ntmps19
          go_wp2
          go_ret
          exact ⟨ret_int he.out.symm, rfl⟩
        · have hc0 : 0 ≤ c := by omega
          have hc1 : ¬ c ≤ 1 := by omega
          go_enter Try.func19, Try.ntmps19
          go_wp2
          all_goals (go_ret; exact ⟨ret_int he.out.symm, rfl⟩)
    · have he := Lib.hid (Pl.maskOf_f (k := k) (c := c) (fun x => h1 x.1.2))
      go_enter Try.func19, Try.ntmps19
      go_wp2
      go_ret
      exact ⟨ret_int he.out.symm, rfl⟩
  · have he := Lib.hid (Pl.maskOf_f (k := k) (c := c) (fun x => h0 x.1.1))
    go_enter Try.func19, Try.ntmps19
    go_wp2
    go_ret
    exact ⟨ret_int he.out.symm, rfl⟩
set_option maxHeartbeats 400000 in
theorem impl_MaskOf (k c : Int) (w : World) :
    Calls Try.prog 18 #[.int .i64 k, .int .i64 c] w fun e w' => e = .returned (.int .i64 (Pl.maskOf k c)) ∧ w = w' := by
  by_cases h0 : 1 ≤ k
  · by_cases h1 : k ≤ 12
    · by_cases hc : c = 0 ∨ c = 1
      · have he := Lib.hid (Pl.maskOf_t h0 h1 hc)
        rcases hc with rfl | rfl
        · go_enter Try.func18, Try.ntmps18
          go_wp2_with (first | (go_at_call 67; refine (impl_cut _ _ _ (by omega) (by omega)).mono ?_; rintro e w' ⟨rfl, rfl⟩) | go_in)
          go_ret
          exact ⟨ret_int (by rw [he.out]; simp [Pl.wmod_0]), rfl⟩
        · go_enter Try.func18, Try.ntmps18
          go_wp2_with (first | (go_at_call 67; refine (impl_cut _ _ _ (by omega) (by omega)).mono ?_; rintro e w' ⟨rfl, rfl⟩) | go_in)
          go_ret
          exact ⟨ret_int (by rw [he.out, Pl.wmod_m1]; omega), rfl⟩
      · have he := Lib.hid (Pl.maskOf_f (k := k) (c := c) (fun x => hc x.2))
        have hc1 : (c == 0) = false := by simp; omega
        have hc2 : (c == 1) = false := by simp; omega
        clear hc
        go_enter Try.func18, Try.ntmps18
        go_wp2
        all_goals (go_ret; exact ⟨ret_int he.out.symm, rfl⟩)
    · have he := Lib.hid (Pl.maskOf_f (k := k) (c := c) (fun x => h1 x.1.2))
      go_enter Try.func18, Try.ntmps18
      go_wp2
      go_ret
      exact ⟨ret_int he.out.symm, rfl⟩
  · have he := Lib.hid (Pl.maskOf_f (k := k) (c := c) (fun x => h0 x.1.1))
    go_enter Try.func18, Try.ntmps18
    go_wp2
    go_ret
    exact ⟨ret_int he.out.symm, rfl⟩
set_option maxHeartbeats 400000 in
theorem spec_LessBit (k a b : Int) (w : World) :
    Calls Try.prog 37 #[.int .i64 k, .int .i64 a, .int .i64 b] w fun e w' => e = .returned (.int .i64 (Pl.lessBit k a b)) ∧ w = w' := by
  cases hv : Pl.v2 k a b
  · have he := Lib.hid (show Pl.lessBit k a b = -1 by simp [Pl.lessBit, hv])
    go_enter Try.func37, Try.ntmps37
    go_wp2_with (first | (go_at_call 55; refine (spec_l1Both _ _ _ _).mono ?_; rintro e w' ⟨rfl, rfl⟩) | go_in)
    go_ret
    exact ⟨ret_int he.out.symm, rfl⟩
  · obtain ⟨h0, h1, h2, h3, h4, h5⟩ := Pl.v2_t hv
    have hp := Pl.pw_lt k h1
    have hp0 := Pl.pw_pos k
    have hw := Pl.wrap_pw k (by omega) (by omega)
    have hm := Pl.wmod_lt k (a - b)
    have b1 := Pl.land_nonneg (Pl.pw k - 1 - a) b
    have b2 := Pl.land_lt (a := Pl.pw k - 1 - a) h4 h5
    have b3 := Pl.lor_nonneg (Pl.pw k - 1 - a) b
    have b4 := Pl.lor_lt (a := Pl.pw k - 1 - a) (b := b) (k := k) (by omega) (by omega) h4 h5
    have b5 := Pl.land_nonneg (Pl.lor (Pl.pw k - 1 - a) b) (Pl.wmod k (a - b))
    have b6 := Pl.land_lt (a := Pl.lor (Pl.pw k - 1 - a) b) hm.1 hm.2
    have b7 := Pl.lor_nonneg (Pl.land (Pl.pw k - 1 - a) b) (Pl.land (Pl.lor (Pl.pw k - 1 - a) b) (Pl.wmod k (a - b)))
    have b8 := Pl.lor_lt b1 b2 b5 b6
    have he := Lib.hid (Pl.less_spec k a b hv)
    go_enter Try.func37, Try.ntmps37
    go_wp2_with (first | (go_at_call 55; refine (spec_l1Both _ _ _ _).mono ?_; rintro e w' ⟨rfl, rfl⟩) | (go_at_call 59; refine (spec_l1And _ _ _ (by omega) (by omega) (by omega) (by omega)).mono ?_; rintro e w' ⟨rfl, rfl⟩) | (go_at_call 58; refine (spec_l1Or _ _ _ (by omega) (by omega) (by omega) (by omega)).mono ?_; rintro e w' ⟨rfl, rfl⟩) | (go_at_call 69; refine (spec_l1Mod _ _ _ (by omega) (by omega) (by omega) (by omega)).mono ?_; rintro e w' ⟨rfl, rfl⟩) | (go_at_call 89; refine (spec_l1Bit _ _ _ (by omega) (by omega) (by omega)).mono ?_; rintro e w' ⟨rfl, rfl⟩) | go_in)
    go_ret
    exact ⟨ret_int he.out, rfl⟩
set_option maxHeartbeats 400000 in
theorem spec_Choose (k c a b : Int) (w : World) :
    Calls Try.prog 43 #[.int .i64 k, .int .i64 c, .int .i64 a, .int .i64 b] w fun e w' => e = .returned (.int .i64 (Pl.choose k c a b)) ∧ w = w' := by
  by_cases hc : (c = 0 ∨ c = 1) ∧ Pl.v2 k a b = true
  · obtain ⟨hc, hv⟩ := hc
    obtain ⟨h0, h1, h2, h3, h4, h5⟩ := Pl.v2_t hv
    have hp := Pl.pw_lt k h1
    have hp0 := Pl.pw_pos k
    have b1 := Pl.lxor_nonneg a b
    have b2 := Pl.lxor_lt h2 h3 h4 h5
    rcases hc with rfl | rfl
    · have he := Lib.hid (Pl.choose_0 hv)
      have hm : Pl.maskOf k 0 = 0 := by rw [Pl.maskOf_t h0 h1 (.inl rfl), Int.zero_mul]
      have hl : Pl.land 0 (Pl.lxor a b) = 0 := Pl.zero_land _
      have hx : Pl.lxor b 0 = b := Pl.lxor_0 b h4
      go_enter Try.func43, Try.ntmps43
      go_wp2_with (first | (go_at_call 55; refine (spec_l1Both _ _ _ _).mono ?_; rintro e w' ⟨rfl, rfl⟩) | (go_at_call 19; refine (spec_MaskOf _ _ _).mono ?_; rintro e w' ⟨rfl, rfl⟩) | (go_at_call 59; refine (spec_l1And _ _ _ (by omega) (by omega) (by omega) (by omega)).mono ?_; rintro e w' ⟨rfl, rfl⟩) | (go_at_call 57; refine (spec_l1Xor _ _ _ (by omega) (by omega) (by omega) (by omega)).mono ?_; rintro e w' ⟨rfl, rfl⟩) | go_in)
      go_ret
      exact ⟨ret_int he.out.symm, rfl⟩
    · have he := Lib.hid (Pl.choose_1 hv)
      have hm : Pl.maskOf k 1 = Pl.pw k - 1 := by rw [Pl.maskOf_t h0 h1 (.inr rfl), Int.one_mul]
      have hl : Pl.land (Pl.pw k - 1) (Pl.lxor a b) = Pl.lxor a b := Pl.land_all k _ b1 b2
      have hx : Pl.lxor b (Pl.lxor a b) = a := Pl.lxor_self_l a b h2 h4
      go_enter Try.func43, Try.ntmps43
      go_wp2_with (first | (go_at_call 55; refine (spec_l1Both _ _ _ _).mono ?_; rintro e w' ⟨rfl, rfl⟩) | (go_at_call 19; refine (spec_MaskOf _ _ _).mono ?_; rintro e w' ⟨rfl, rfl⟩) | (go_at_call 59; refine (spec_l1And _ _ _ (by omega) (by omega) (by omega) (by omega)).mono ?_; rintro e w' ⟨rfl, rfl⟩) | (go_at_call 57; refine (spec_l1Xor _ _ _ (by omega) (by omega) (by omega) (by omega)).mono ?_; rintro e w' ⟨rfl, rfl⟩) | go_in)
      go_ret
      exact ⟨ret_int he.out.symm, rfl⟩
  · have he := Lib.hid (Pl.choose_f hc)
    cases hv : Pl.v2 k a b
    · clear hc
      go_enter Try.func43, Try.ntmps43
      go_wp2_with (first | (go_at_call 55; refine (spec_l1Both _ _ _ _).mono ?_; rintro e w' ⟨rfl, rfl⟩) | (go_at_call 19; refine (spec_MaskOf _ _ _).mono ?_; rintro e w' ⟨rfl, rfl⟩) | go_in)
      all_goals (go_ret; exact ⟨ret_int he.out.symm, rfl⟩)
    · have hm : Pl.maskOf k c = -1 := Pl.maskOf_f (fun x => hc ⟨x.2, hv⟩)
      clear hc
      go_enter Try.func43, Try.ntmps43
      go_wp2_with (first | (go_at_call 55; refine (spec_l1Both _ _ _ _).mono ?_; rintro e w' ⟨rfl, rfl⟩) | (go_at_call 19; refine (spec_MaskOf _ _ _).mono ?_; rintro e w' ⟨rfl, rfl⟩) | go_in)
      all_goals (go_ret; exact ⟨ret_int he.out.symm, rfl⟩)
set_option maxHeartbeats 400000 in
theorem impl_Choose (k c a b : Int) (w : World) :
    Calls Try.prog 42 #[.int .i64 k, .int .i64 c, .int .i64 a, .int .i64 b] w fun e w' => e = .returned (.int .i64 (Pl.choose k c a b)) ∧ Below w.heap.size w w' := by
  by_cases hc : (c = 0 ∨ c = 1) ∧ Pl.v2 k a b = true
  · obtain ⟨hc, hv⟩ := hc
    obtain ⟨h0, h1, h2, h3, h4, h5⟩ := Pl.v2_t hv
    have hp := Pl.pw_lt k h1
    have hp0 := Pl.pw_pos k
    have b1 := Pl.lxor_nonneg a b
    have b2 := Pl.lxor_lt h2 h3 h4 h5
    have hab : bits .xor .i64 a b = Pl.lxor a b := Pl.i64_xor a b h2 (by omega) h4 (by omega)
    rcases hc with rfl | rfl
    · have he := Lib.hid (Pl.choose_0 hv)
      have hm : Pl.wmod k 0 = 0 := Pl.wmod_0 k
      have hl : bits .and .i64 0 (Pl.lxor a b) = 0 := by rw [Pl.i64_and _ _ (by omega) (by omega) b1 (by omega)]; exact Pl.zero_land _
      have hx : bits .xor .i64 b 0 = b := Pl.xor_zero b (by omega) (by omega)
      go_enter Try.func42, Try.ntmps42
      go_wp2_with (first | (go_at_call 91; refine (impl_allValid2 _ a b _ _ (by go_simp) (by go_simp)).mono ?_; rintro e w' ⟨rfl, rfl⟩) | (go_at_call 67; refine (impl_cut _ _ _ (by omega) (by omega)).mono ?_; rintro e w' ⟨rfl, rfl⟩) | go_in)
      go_ret
      exact ⟨ret_int he.out.symm, by go_grown⟩
    · have he := Lib.hid (Pl.choose_1 hv)
      have hm : Pl.wmod k (-1) = Pl.pw k - 1 := Pl.wmod_m1 k
      have hl : bits .and .i64 (Pl.pw k - 1) (Pl.lxor a b) = Pl.lxor a b := by rw [Pl.i64_and _ _ (by omega) (by omega) b1 (by omega)]; exact Pl.land_all k _ b1 b2
      have hx : bits .xor .i64 b (Pl.lxor a b) = a := by rw [Pl.i64_xor _ _ h4 (by omega) b1 (by omega)]; exact Pl.lxor_self_l a b h2 h4
      go_enter Try.func42, Try.ntmps42
      go_wp2_with (first | (go_at_call 91; refine (impl_allValid2 _ a b _ _ (by go_simp) (by go_simp)).mono ?_; rintro e w' ⟨rfl, rfl⟩) | (go_at_call 67; refine (impl_cut _ _ _ (by omega) (by omega)).mono ?_; rintro e w' ⟨rfl, rfl⟩) | go_in)
      go_ret
      exact ⟨ret_int he.out.symm, by go_grown⟩
  · have he := Lib.hid (Pl.choose_f hc)
    cases hv : Pl.v2 k a b
    · clear hc
      go_enter Try.func42, Try.ntmps42
      go_wp2_with (first | (go_at_call 91; refine (impl_allValid2 _ a b _ _ (by go_simp) (by go_simp)).mono ?_; rintro e w' ⟨rfl, rfl⟩) | go_in)
      all_goals (go_ret; exact ⟨ret_int he.out.symm, by go_grown⟩)
    · have hc1 : (c == 0) = false := by simp; exact fun x => hc ⟨.inl x, hv⟩
      have hc2 : (c == 1) = false := by simp; exact fun x => hc ⟨.inr x, hv⟩
      clear hc
      go_enter Try.func42, Try.ntmps42
      go_wp2_with (first | (go_at_call 91; refine (impl_allValid2 _ a b _ _ (by go_simp) (by go_simp)).mono ?_; rintro e w' ⟨rfl, rfl⟩) | go_in)
      all_goals (go_ret; exact ⟨ret_int he.out.symm, by go_grown⟩)
set_option maxHeartbeats 400000 in
theorem spec_DistanceOf (k a b : Int) (w : World) :
    Calls Try.prog 53 #[.int .i64 k, .int .i64 a, .int .i64 b] w fun e w' => e = .returned (.int .i64 (Pl.distanceOf k a b)) ∧ w = w' := by
  cases hv : Pl.v2 k a b
  · have he := Lib.hid (show Pl.distanceOf k a b = -1 by simp [Pl.distanceOf, hv])
    go_enter Try.func53, Try.ntmps53
    go_wp2_with (first | (go_at_call 55; refine (spec_l1Both _ _ _ _).mono ?_; rintro e w' ⟨rfl, rfl⟩) | go_in)
    go_ret
    exact ⟨ret_int he.out.symm, rfl⟩
  · obtain ⟨h0, h1, h2, h3, h4, h5⟩ := Pl.v2_t hv
    have hp := Pl.pw_lt k h1
    have hp0 := Pl.pw_pos k
    have hm := Pl.wmod_lt k (a - b)
    have hk := Pl.mask_less hv
    have hk1 := Pl.mask_lt hv
    have hx0 := Pl.lxor_nonneg (Pl.wmod k (a - b)) (Pl.maskOf k (Pl.lessBit k a b))
    have hx1 := Pl.lxor_lt hm.1 hm.2 hk1.1 hk1.2
    have he := Lib.hid (Pl.distance_spec k a b hv)
    clear hk
    go_enter Try.func53, Try.ntmps53
    go_wp2_with (first | (go_at_call 55; refine (spec_l1Both _ _ _ _).mono ?_; rintro e w' ⟨rfl, rfl⟩) | (go_at_call 37; refine (spec_LessBit _ _ _ _).mono ?_; rintro e w' ⟨rfl, rfl⟩) | (go_at_call 19; refine (spec_MaskOf _ _ _).mono ?_; rintro e w' ⟨rfl, rfl⟩) | (go_at_call 69; refine (spec_l1Mod _ _ _ (by omega) (by omega) (by omega) (by omega)).mono ?_; rintro e w' ⟨rfl, rfl⟩) | (go_at_call 57; refine (spec_l1Xor _ _ _ (by omega) (by omega) (by omega) (by omega)).mono ?_; rintro e w' ⟨rfl, rfl⟩) | go_in)
    all_goals (go_ret; refine ⟨ret_int ?_, rfl⟩; exact he.out)
set_option maxHeartbeats 400000 in
theorem spec_FullAdd (k a b : Int) (w : World) :
    Calls Try.prog 40 #[.int .i64 k, .int .i64 a, .int .i64 b] w fun e w' => e = .returned (.int .i64 (Pl.fullAdd k a b)) ∧ w = w' := by
  cases hv : Pl.v2 k a b
  · have he := Lib.hid (show Pl.fullAdd k a b = -1 by simp [Pl.fullAdd, hv])
    go_enter Try.func40, Try.ntmps40
    go_wp2_with (first | (go_at_call 55; refine (spec_l1Both _ _ _ _).mono ?_; rintro e w' ⟨rfl, rfl⟩) | go_in)
    go_ret
    exact ⟨ret_int he.out.symm, rfl⟩
  · obtain ⟨h0, h1, h2, h3, h4, h5⟩ := Pl.v2_t hv
    have hp := Pl.pw_lt k h1
    have hp0 := Pl.pw_pos k
    have hm := Pl.wmod_lt k (a + b)
    have hv2 := Pl.v2_mk (Pl.wv_mk h0 h1 hm.1 hm.2) (Pl.v2_l hv)
    have hk1 := Pl.mask_lt hv2
    have he := Lib.hid (Pl.full_spec k a b hv)
    clear hv2
    go_enter Try.func40, Try.ntmps40
    go_wp2_with (first | (go_at_call 55; refine (spec_l1Both _ _ _ _).mono ?_; rintro e w' ⟨rfl, rfl⟩) | (go_at_call 37; refine (spec_LessBit _ _ _ _).mono ?_; rintro e w' ⟨rfl, rfl⟩) | (go_at_call 19; refine (spec_MaskOf _ _ _).mono ?_; rintro e w' ⟨rfl, rfl⟩) | (go_at_call 69; refine (spec_l1Mod _ _ _ (by omega) (by omega) (by omega) (by omega)).mono ?_; rintro e w' ⟨rfl, rfl⟩) | (go_at_call 58; refine (spec_l1Or _ _ _ (by omega) (by omega) (by omega) (by omega)).mono ?_; rintro e w' ⟨rfl, rfl⟩) | go_in)
    all_goals (go_ret; refine ⟨ret_int ?_, rfl⟩; exact he.out)
set_option maxHeartbeats 400000 in
theorem spec_EmptySub (k a b : Int) (w : World) :
    Calls Try.prog 50 #[.int .i64 k, .int .i64 a, .int .i64 b] w fun e w' => e = .returned (.int .i64 (Pl.emptySub k a b)) ∧ ∃ n, w' = w.drewN n := by
  cases hv : Pl.v2 k a b
  · have he := Lib.hid (show Pl.emptySub k a b = -1 by simp [Pl.emptySub, hv])
    go_enter Try.func50, Try.ntmps50
    go_wp2_with (first | (go_at_call 55; refine (spec_l1Both _ _ _ _).mono ?_; rintro e w' ⟨rfl, rfl⟩) | go_in)
    go_ret
    exact ⟨ret_int he.out.symm, 0, rfl⟩
  · obtain ⟨h0, h1, h2, h3, h4, h5⟩ := Pl.v2_t hv
    have hp := Pl.pw_lt k h1
    have hp0 := Pl.pw_pos k
    have hm := Pl.wmod_lt k (a - b)
    have hk1 := Pl.mask_lt hv
    have hw := Pl.wrap_pw k (by omega) (by omega)
    have he := Lib.hid (Pl.empty_spec k a b hv)
    go_enter Try.func50, Try.ntmps50
    go_wp2_with (first | (go_at_call 55; refine (spec_l1Both _ _ _ _).mono ?_; rintro e w' ⟨rfl, rfl⟩) | go_in)
    go_quiet ((first | (go_at_call 37; first | exact quiet_left (spec_LessBit _ _ _ _) | exact quiet_add_left (spec_LessBit _ _ _ _)) | (go_at_call 19; first | exact quiet_left (spec_MaskOf _ _ _) | exact quiet_add_left (spec_MaskOf _ _ _)) | (go_at_call 69; first | exact quiet_left (spec_l1Mod _ _ _ (by omega) (by omega) (by omega) (by omega)) | exact quiet_add_left (spec_l1Mod _ _ _ (by omega) (by omega) (by omega) (by omega))) | (go_at_call 59; first | exact quiet_left (spec_l1And _ _ _ (by omega) (by omega) (by omega) (by omega)) | exact quiet_add_left (spec_l1And _ _ _ (by omega) (by omega) (by omega) (by omega)))))
    go_wp2
    go_ret
    exact ⟨ret_int he.out, _, rfl⟩
set_option maxHeartbeats 400000 in
theorem spec_MeanDown (k a b : Int) (w : World) :
    Calls Try.prog 26 #[.int .i64 k, .int .i64 a, .int .i64 b] w fun e w' => e = .returned (.int .i64 (Pl.meanDown k a b)) ∧ w = w' := by
  cases hv : Pl.v2 k a b
  · have he := Lib.hid (show Pl.meanDown k a b = -1 by simp [Pl.meanDown, hv])
    go_enter Try.func26, Try.ntmps26
    go_wp2_with (first | (go_at_call 55; refine (spec_l1Both _ _ _ _).mono ?_; rintro e w' ⟨rfl, rfl⟩) | go_in)
    go_ret
    exact ⟨ret_int he.out.symm, rfl⟩
  · obtain ⟨h0, h1, h2, h3, h4, h5⟩ := Pl.v2_t hv
    have hp := Pl.pw_lt k h1
    have hp0 := Pl.pw_pos k
    have b1 := Pl.land_nonneg a b
    have b2 := Pl.land_le_l a b h2
    have b5 := Pl.land_le_r a b h4
    have b3 := Pl.lxor_nonneg a b
    have b4 := Pl.lxor_lt h2 h3 h4 h5
    have hx := Pl.lxor_land a b h2 h4
    have he := Lib.hid (show Pl.meanDown k a b = (a + b) / 2 by simp [Pl.meanDown, hv])
    have HX := Lib.hid hx
    clear hx
    go_enter Try.func26, Try.ntmps26
    go_wp2_with (first | (go_at_call 55; refine (spec_l1Both _ _ _ _).mono ?_; rintro e w' ⟨rfl, rfl⟩) | (go_at_call 59; refine (spec_l1And _ _ _ (by omega) (by omega) (by omega) (by omega)).mono ?_; rintro e w' ⟨rfl, rfl⟩) | (go_at_call 57; refine (spec_l1Xor _ _ _ (by omega) (by omega) (by omega) (by omega)).mono ?_; rintro e w' ⟨rfl, rfl⟩) | go_in)
    all_goals (go_ret; refine ⟨ret_int ?_, rfl⟩; rw [he.out]; have := HX.out; omega)
set_option maxHeartbeats 400000 in
theorem spec_MeanUp (k a b : Int) (w : World) :
    Calls Try.prog 30 #[.int .i64 k, .int .i64 a, .int .i64 b] w fun e w' => e = .returned (.int .i64 (Pl.meanUp k a b)) ∧ w = w' := by
  cases hv : Pl.v2 k a b
  · have he := Lib.hid (show Pl.meanUp k a b = -1 by simp [Pl.meanUp, hv])
    go_enter Try.func30, Try.ntmps30
    go_wp2_with (first | (go_at_call 55; refine (spec_l1Both _ _ _ _).mono ?_; rintro e w' ⟨rfl, rfl⟩) | go_in)
    go_ret
    exact ⟨ret_int he.out.symm, rfl⟩
  · obtain ⟨h0, h1, h2, h3, h4, h5⟩ := Pl.v2_t hv
    have hp := Pl.pw_lt k h1
    have hp0 := Pl.pw_pos k
    have b1 := Pl.lor_nonneg a b
    have b2 := Pl.lor_lt h2 h3 h4 h5
    have b3 := Pl.lxor_nonneg a b
    have b4 := Pl.lxor_lt h2 h3 h4 h5
    have c1 := Pl.land_nonneg a b
    have c2 := Pl.land_le_l a b h2
    have c3 := Pl.land_le_r a b h4
    have HX := Lib.hid (Pl.lxor_land a b h2 h4)
    have HO := Lib.hid (Pl.lor_land a b h2 h4)
    have he := Lib.hid (show Pl.meanUp k a b = (a + b + 1) / 2 by simp [Pl.meanUp, hv])
    go_enter Try.func30, Try.ntmps30
    go_wp2_with (first | (go_at_call 55; refine (spec_l1Both _ _ _ _).mono ?_; rintro e w' ⟨rfl, rfl⟩) | (go_at_call 58; refine (spec_l1Or _ _ _ (by omega) (by omega) (by omega) (by omega)).mono ?_; rintro e w' ⟨rfl, rfl⟩) | (go_at_call 57; refine (spec_l1Xor _ _ _ (by omega) (by omega) (by omega) (by omega)).mono ?_; rintro e w' ⟨rfl, rfl⟩) | go_in)
    all_goals (go_ret; refine ⟨ret_int ?_, rfl⟩; rw [he.out]; have := HX.out; have := HO.out; omega)
set_option maxHeartbeats 400000 in
theorem spec_SignlessOf (k x : Int) (w : World) :
    Calls Try.prog 46 #[.int .i64 k, .int .i64 x] w fun e w' => e = .returned (.int .i64 (Pl.signlessOf k x)) ∧ w = w' := by
  cases hv : Pl.wvB k x
  · have he := Lib.hid (show Pl.signlessOf k x = -1 by simp [Pl.signlessOf, hv])
    go_enter Try.func46, Try.ntmps46
    go_wp2_with (first | (go_at_call 73; refine (spec_WordValid _ _ _).mono ?_; rintro e w' ⟨rfl, rfl⟩) | go_in)
    go_ret
    exact ⟨ret_int he.out.symm, rfl⟩
  · obtain ⟨h0, h1, h2, h3⟩ := Pl.wv_t hv
    have hp := Pl.pw_lt k h1
    have hp0 := Pl.pw_pos k
    have hk1 := Pl.mask_bit hv
    have hm := Pl.wmod_lt k (x + Pl.maskOf k (Pl.bt x (k - 1)))
    have he := Lib.hid (Pl.signless_spec k x hv)
    go_enter Try.func46, Try.ntmps46
    go_wp2_with (first | (go_at_call 73; refine (spec_WordValid _ _ _).mono ?_; rintro e w' ⟨rfl, rfl⟩) | (go_at_call 89; refine (spec_l1Bit _ _ _ (by omega) (by omega) (by omega)).mono ?_; rintro e w' ⟨rfl, rfl⟩) | (go_at_call 19; refine (spec_MaskOf _ _ _).mono ?_; rintro e w' ⟨rfl, rfl⟩) | (go_at_call 69; refine (spec_l1Mod _ _ _ (by omega) (by omega) (by omega) (by omega)).mono ?_; rintro e w' ⟨rfl, rfl⟩) | (go_at_call 57; refine (spec_l1Xor _ _ _ (by omega) (by omega) (by omega) (by omega)).mono ?_; rintro e w' ⟨rfl, rfl⟩) | go_in)
    go_ret
    exact ⟨ret_int he.out, rfl⟩
end Go.Proofs.Ytchlmjlcmcdjpaa
