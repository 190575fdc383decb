/-
  Contracts of the reference's functions on all lanes at once.
  Conditions: none but those of the model.
-/
import Derived.Test.YtanaafdnnjkimaaW4
import Derived.Test.YtanaafdnnjkimaaPk
namespace Go.Proofs.Ytanaafdnnjkimaa
set_option linter.unusedVariables false
set_option linter.unusedSimpArgs false
open Go.RowKit

theorem tops_step (k l : Int) (h : Pl.lv k l = true) (j : Nat) (hj : j < Pl.many k l) :
    wrap64 (Pl.joinI l (fun _ => Pl.pw (l - 1)) j + wrap64 (2 ^ ((j : Int) * l + (l - 1)).toNat)) = Pl.joinI l (fun _ => Pl.pw (l - 1)) (j + 1) := by
  obtain ⟨h0, h1, h2, h3, h4⟩ := Pl.lv_t h
  have hG : ∀ i : Nat, 0 ≤ (fun _ => Pl.pw (l - 1) : Nat → Int) i ∧ (fun _ => Pl.pw (l - 1) : Nat → Int) i < Pl.pw l := fun _ => Pl.pw_top h2
  have hb := Pl.at_bd (i := j + 1) h (by omega)
  have hb0 := Pl.at_bd (i := j) h (by omega)
  have hs := Pl.at_succ l j
  have hj0 := Pl.joinI_lt l _ (by omega) hG j
  have hk := Pl.pw_lt k h1
  have hle := Pl.pw_le ((j : Int) * l) k hb0.2
  have hle2 := Pl.pw_le ((j : Int) * l + (l - 1)) k (by omega)
  have e : Pl.pw ((j : Int) * l + (l - 1)) = Pl.pw (j * l) * Pl.pw (l - 1) := Pl.pw_add _ _ hb0.1 (by omega)
  have hp := Pl.pw_pos ((j : Int) * l + (l - 1))
  show wrap64 (_ + wrap64 (Pl.pw ((j : Int) * l + (l - 1)))) = Pl.pw (j * l) * Pl.pw (l - 1) + Pl.joinI l (fun _ => Pl.pw (l - 1)) j
  rw [Pl.wrap64_small (Pl.pw _) (by omega) (by omega), Pl.wrap64_small _ (by omega) (by omega), ← e]
  omega
set_option maxHeartbeats 1000000 in
theorem spec_TopsOf (k l : Int) (w : World) :
    Calls Try.prog 24 #[.int .i64 k, .int .i64 l] w fun e w' => e = .returned (.int .i64 (Pl.topsOf k l)) ∧ w = w' := by
  cases hl : Pl.lv k l
  · have he := Lib.hid (show Pl.topsOf k l = -1 by simp [Pl.topsOf, hl])
    go_enter Try.func24, Try.ntmps24
    go_wp2_with (first | (go_at_call 13; refine (spec_LanesValid _ _ _).mono ?_; rintro e w' ⟨rfl, rfl⟩))
    go_ret
    exact ⟨ret_int he.out.symm, rfl⟩
  · obtain ⟨h0, h1, h2, h3, h4⟩ := Pl.lv_t hl
    clear h4
    have hmp := Pl.many_pos hl
    have H := Lib.hid hl
    have he := Lib.hid (show Pl.topsOf k l = Pl.joinI l (fun _ => Pl.pw (l - 1)) (Pl.many k l) by simp [Pl.topsOf, hl])
    go_enter Try.func24, Try.ntmps24
    go_wp2_with (first | (go_at_call 13; refine (spec_LanesValid _ _ _).mono ?_; rintro e w' ⟨rfl, rfl⟩))
    go_loop [5, 6] (fun v i => ∃ (j : Nat) (t : Int), j ≤ Pl.many k l ∧ 0 ≤ t ∧ t ≤ k ∧ Hid (t = j * l) ∧ i = .int .i64 (t + (l - 1)) ∧ v = .int .i64 (Pl.joinI l (fun _ => Pl.pw (l - 1)) j)) (fun _ i => 30 - (intOf i).toNat)
    case atStart => exact ⟨0, 0, by omega, by omega, by omega, by simp [Hid], by go_num, rfl⟩
    case round =>
      obtain ⟨j, t, hj, ht0, ht1, ht, rfl, rfl⟩ := hrel
      by_cases hlt : t < k
      · have hjm : j < Pl.many k l := by have := ht.out; rw [this] at hlt; exact (Pl.at_lt H.out).1 hlt
        have hbd := Pl.at_bd (i := j + 1) H.out (by omega)
        have hsu := Pl.at_succ l j
        rw [hsu, ← ht.out] at hbd
        have HS := Lib.hid hsu
        clear hsu
        have hst := tops_step k l H.out j hjm
        rw [← ht.out] at hst
        have HST := Lib.hid hst
        clear hst
        go_wp2
        go_round
        case rel => exact ⟨j + 1, t + l, by omega, by omega, by omega, Lib.hid (by rw [HS.out, ht.out]), by go_num, by rw [HST.out]⟩
        case measure => simp [intOf]; omega
      · have hje : j = Pl.many k l := by
          rcases Nat.lt_or_ge j (Pl.many k l) with hc | hc
          · exact absurd ((Pl.at_lt H.out).2 hc) (by rw [← ht.out]; exact hlt)
          · omega
        have HJ := Lib.hid hje
        clear hje
        go_wp2
        go_ret
        exact ⟨ret_int (by rw [he.out, HJ.out]), rfl⟩
set_option maxHeartbeats 1000000 in
theorem spec_LanesAdd (k l a b : Int) (w : World) :
    Calls Try.prog 15 #[.int .i64 k, .int .i64 l, .int .i64 a, .int .i64 b] w fun e w' => e = .returned (.int .i64 (Pl.lanesAdd k l a b)) ∧ w = w' := by
  by_cases h : Pl.lv k l = true ∧ Pl.v2 k a b = true
  · obtain ⟨hl, hv⟩ := h
    obtain ⟨h0, h1, h2, h3, h4⟩ := Pl.lv_t hl
    clear h4
    have hp := Pl.pw_lt k h1
    have hp0 := Pl.pw_pos k
    have ht := Pl.topsOf_t hl
    have hw := Pl.wrap_pw k (by omega) (by omega)
    have hw2 := Pl.wrapK_pw k (by omega) (by omega)
    obtain ⟨_, _, a0, a1, b0, b1⟩ := Pl.v2_t hv
    have e1 := Pl.land_nonneg a (Pl.pw k - 1 - Pl.topsOf k l)
    have e2 := Pl.land_le_l a (Pl.pw k - 1 - Pl.topsOf k l) a0
    have e3 := Pl.land_nonneg b (Pl.pw k - 1 - Pl.topsOf k l)
    have e4 := Pl.land_le_l b (Pl.pw k - 1 - Pl.topsOf k l) b0
    have e5 := Pl.lxor_nonneg a b
    have e6 := Pl.lxor_lt a0 a1 b0 b1
    have e7 := Pl.land_nonneg (Pl.topsOf k l) (Pl.lxor a b)
    have e8 := Pl.land_le_l (Pl.topsOf k l) (Pl.lxor a b) ht.1
    have he := Lib.hid (Pl.lanesAdd_spec k l a b hl hv)
    go_enter Try.func15, Try.ntmps15
    go_wp2_with (first | (go_at_call 13; refine (spec_LanesValid _ _ _).mono ?_; rintro e w' ⟨rfl, rfl⟩) | (go_at_call 44; refine (spec_l1Both _ _ _ _).mono ?_; rintro e w' ⟨rfl, rfl⟩) | (go_at_call 24; refine (spec_TopsOf _ _ _).mono ?_; rintro e w' ⟨rfl, rfl⟩) | (go_at_call 46; refine (spec_l1And _ _ _ (by omega) (by omega) (by omega) (by omega)).mono ?_; rintro e w' ⟨rfl, rfl⟩) | (go_at_call 45; refine (spec_l1Xor _ _ _ (by omega) (by omega) (by omega) (by omega)).mono ?_; rintro e w' ⟨rfl, rfl⟩))
    go_ret
    exact ⟨ret_int he.out, rfl⟩
  · have he := Lib.hid (show Pl.lanesAdd k l a b = -1 by unfold Pl.lanesAdd; rw [if_neg h])
    cases hl : Pl.lv k l
    · clear h
      go_enter Try.func15, Try.ntmps15
      go_wp2_with (first | (go_at_call 13; refine (spec_LanesValid _ _ _).mono ?_; rintro e w' ⟨rfl, rfl⟩))
      go_ret
      exact ⟨ret_int he.out.symm, rfl⟩
    · have hv : Pl.v2 k a b = false := by
        cases hv : Pl.v2 k a b
        · rfl
        · exact absurd ⟨hl, hv⟩ h
      clear h
      go_enter Try.func15, Try.ntmps15
      go_wp2_with (first | (go_at_call 13; refine (spec_LanesValid _ _ _).mono ?_; rintro e w' ⟨rfl, rfl⟩) | (go_at_call 44; refine (spec_l1Both _ _ _ _).mono ?_; rintro e w' ⟨rfl, rfl⟩))
      go_ret
      exact ⟨ret_int he.out.symm, rfl⟩
set_option maxHeartbeats 1000000 in
theorem spec_LanesSub (k l a b : Int) (w : World) :
    Calls Try.prog 33 #[.int .i64 k, .int .i64 l, .int .i64 a, .int .i64 b] w fun e w' => e = .returned (.int .i64 (Pl.lanesSub k l a b)) ∧ w = w' := by
  by_cases h : Pl.lv k l = true ∧ Pl.v2 k a b = true
  · obtain ⟨hl, hv⟩ := h
    obtain ⟨h0, h1, h2, h3, h4⟩ := Pl.lv_t hl
    clear h4
    have hp := Pl.pw_lt k h1
    have hp0 := Pl.pw_pos k
    have ht := Pl.topsOf_t hl
    have hw := Pl.wrap_pw k (by omega) (by omega)
    have hw2 := Pl.wrapK_pw k (by omega) (by omega)
    obtain ⟨_, _, a0, a1, b0, b1⟩ := Pl.v2_t hv
    have e1 := Pl.lor_nonneg a (Pl.topsOf k l)
    have e2 := Pl.lor_lt a0 a1 ht.1 ht.2
    have e3 := Pl.land_nonneg b (Pl.pw k - 1 - Pl.topsOf k l)
    have e4 := (Pl.lanesSub_spec k l a b hl hv).2
    have e5 := Pl.lxor_nonneg a b
    have e6 := Pl.lxor_lt a0 a1 b0 b1
    have e7 := Pl.land_nonneg (Pl.topsOf k l) (Pl.pw k - 1 - Pl.lxor a b)
    have e8 := Pl.land_le_l (Pl.topsOf k l) (Pl.pw k - 1 - Pl.lxor a b) ht.1
    have he := Lib.hid (Pl.lanesSub_spec k l a b hl hv).1
    go_enter Try.func33, Try.ntmps33
    go_wp2_with (first | (go_at_call 13; refine (spec_LanesValid _ _ _).mono ?_; rintro e w' ⟨rfl, rfl⟩) | (go_at_call 44; refine (spec_l1Both _ _ _ _).mono ?_; rintro e w' ⟨rfl, rfl⟩) | (go_at_call 24; refine (spec_TopsOf _ _ _).mono ?_; rintro e w' ⟨rfl, rfl⟩) | (go_at_call 46; refine (spec_l1And _ _ _ (by omega) (by omega) (by omega) (by omega)).mono ?_; rintro e w' ⟨rfl, rfl⟩) | (go_at_call 66; refine (spec_l1Or _ _ _ (by omega) (by omega) (by omega) (by omega)).mono ?_; rintro e w' ⟨rfl, rfl⟩) | (go_at_call 45; refine (spec_l1Xor _ _ _ (by omega) (by omega) (by omega) (by omega)).mono ?_; rintro e w' ⟨rfl, rfl⟩))
    go_ret
    exact ⟨ret_int he.out, rfl⟩
  · have he := Lib.hid (show Pl.lanesSub k l a b = -1 by unfold Pl.lanesSub; rw [if_neg h])
    cases hl : Pl.lv k l
    · clear h
      go_enter Try.func33, Try.ntmps33
      go_wp2_with (first | (go_at_call 13; refine (spec_LanesValid _ _ _).mono ?_; rintro e w' ⟨rfl, rfl⟩))
      go_ret
      exact ⟨ret_int he.out.symm, rfl⟩
    · have hv : Pl.v2 k a b = false := by
        cases hv : Pl.v2 k a b
        · rfl
        · exact absurd ⟨hl, hv⟩ h
      clear h
      go_enter Try.func33, Try.ntmps33
      go_wp2_with (first | (go_at_call 13; refine (spec_LanesValid _ _ _).mono ?_; rintro e w' ⟨rfl, rfl⟩) | (go_at_call 44; refine (spec_l1Both _ _ _ _).mono ?_; rintro e w' ⟨rfl, rfl⟩))
      go_ret
      exact ⟨ret_int he.out.symm, rfl⟩
set_option maxHeartbeats 1000000 in
theorem spec_LanesNone (k l x : Int) (w : World) :
    Calls Try.prog 37 #[.int .i64 k, .int .i64 l, .int .i64 x] w fun e w' => e = .returned (.int .i64 (Pl.lanesNone k l x)) ∧ w = w' := by
  by_cases h : Pl.lv k l = true ∧ Pl.wvB k x = true
  · obtain ⟨hl, hv⟩ := h
    obtain ⟨h0, h1, h2, h3, h4⟩ := Pl.lv_t hl
    clear h4
    have hp := Pl.pw_lt k h1
    have hp0 := Pl.pw_pos k
    have ht := Pl.topsOf_t hl
    have hw := Pl.wrap_pw k (by omega) (by omega)
    have hw2 := Pl.wrapK_pw k (by omega) (by omega)
    obtain ⟨_, _, a0, a1⟩ := Pl.wv_t hv
    have e1 := Pl.land_nonneg x (Pl.pw k - 1 - Pl.topsOf k l)
    have e2 := (Pl.lanesNone_spec k l x hl hv).2
    have e3 := Pl.wmod_lt k (Pl.land x (Pl.pw k - 1 - Pl.topsOf k l) + (Pl.pw k - 1 - Pl.topsOf k l))
    have e4 := Pl.lor_nonneg (Pl.wmod k (Pl.land x (Pl.pw k - 1 - Pl.topsOf k l) + (Pl.pw k - 1 - Pl.topsOf k l))) x
    have e5 := Pl.lor_lt e3.1 e3.2 a0 a1
    have e6 := Pl.lor_nonneg (Pl.lor (Pl.wmod k (Pl.land x (Pl.pw k - 1 - Pl.topsOf k l) + (Pl.pw k - 1 - Pl.topsOf k l))) x) (Pl.pw k - 1 - Pl.topsOf k l)
    have e7 := Pl.lor_lt (b := Pl.pw k - 1 - Pl.topsOf k l) e4 e5 (by omega) (by omega)
    have he := Lib.hid (Pl.lanesNone_spec k l x hl hv).1
    go_enter Try.func37, Try.ntmps37
    go_wp2_with (first | (go_at_call 13; refine (spec_LanesValid _ _ _).mono ?_; rintro e w' ⟨rfl, rfl⟩) | (go_at_call 52; refine (spec_WordValid _ _ _).mono ?_; rintro e w' ⟨rfl, rfl⟩) | (go_at_call 24; refine (spec_TopsOf _ _ _).mono ?_; rintro e w' ⟨rfl, rfl⟩) | (go_at_call 46; refine (spec_l1And _ _ _ (by omega) (by omega) (by omega) (by omega)).mono ?_; rintro e w' ⟨rfl, rfl⟩) | (go_at_call 66; refine (spec_l1Or _ _ _ (by omega) (by omega) (by omega) (by omega)).mono ?_; rintro e w' ⟨rfl, rfl⟩) | (go_at_call 69; refine (spec_l1Mod _ _ _ (by omega) (by omega) (by omega) (by omega)).mono ?_; rintro e w' ⟨rfl, rfl⟩))
    go_ret
    exact ⟨ret_int he.out, rfl⟩
  · have he := Lib.hid (show Pl.lanesNone k l x = -1 by unfold Pl.lanesNone; rw [if_neg h])
    cases hl : Pl.lv k l
    · clear h
      go_enter Try.func37, Try.ntmps37
      go_wp2_with (first | (go_at_call 13; refine (spec_LanesValid _ _ _).mono ?_; rintro e w' ⟨rfl, rfl⟩))
      go_ret
      exact ⟨ret_int he.out.symm, rfl⟩
    · have hv : Pl.wvB k x = false := by
        cases hv : Pl.wvB k x
        · rfl
        · exact absurd ⟨hl, hv⟩ h
      clear h
      go_enter Try.func37, Try.ntmps37
      go_wp2_with (first | (go_at_call 13; refine (spec_LanesValid _ _ _).mono ?_; rintro e w' ⟨rfl, rfl⟩) | (go_at_call 52; refine (spec_WordValid _ _ _).mono ?_; rintro e w' ⟨rfl, rfl⟩))
      go_ret
      exact ⟨ret_int he.out.symm, rfl⟩
end Go.Proofs.Ytanaafdnnjkimaa
