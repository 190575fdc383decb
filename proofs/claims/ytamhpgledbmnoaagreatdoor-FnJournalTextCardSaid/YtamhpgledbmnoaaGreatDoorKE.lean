/-
  Contracts of functions on expressions and their values.
  Conditions: as stated at each.
-/
import Derived.Test.YtamhpgledbmnoaaGreatDoorKW
import Derived.Test.YtamhpgledbmnoaaGreatDoorKB
import Derived.Test.YtamhpgledbmnoaaGreatDoorKP
namespace Go.Proofs.YtamhpgledbmnoaaGreatDoor
set_option linter.unusedVariables false
set_option linter.unusedSimpArgs false
open Go.RowKit

set_option maxHeartbeats 400000 in
theorem impl_takes (s : Int) (w : World) : Calls Tryz.prog 113 #[.int .i64 s] w fun e w' => e = .returned (.int .i64 (Pl.takes s)) ∧ w = w' := by
  by_cases h2 : 15 ≤ s
  · have he := Lib.hid (Pl.takes_2 h2)
    go_enter Tryz.func113, Tryz.ntmps113
    go_wp2
    go_ret
    exact ⟨ret_int he.out.symm, rfl⟩
  · by_cases h1 : 12 ≤ s
    · have he := Lib.hid (Pl.takes_1 h1 (by omega))
      go_enter Tryz.func113, Tryz.ntmps113
      go_wp2
      go_ret
      exact ⟨ret_int he.out.symm, rfl⟩
    · have he := Lib.hid (Pl.takes_0 (s := s) (by omega))
      go_enter Tryz.func113, Tryz.ntmps113
      go_wp2
      go_ret
      exact ⟨ret_int he.out.symm, rfl⟩
set_option maxHeartbeats 400000 in
theorem spec_l9Takes (s : Int) (w : World) : Calls Tryz.prog 83 #[.int .i64 s] w fun e w' => e = .returned (.int .i64 (Pl.takes s)) ∧ w = w' := by
  by_cases h2 : 15 ≤ s
  · have he := Lib.hid (Pl.takes_2 h2)
    go_enter Tryz.func83, Tryz.ntmps83
    go_wp2
    go_ret
    exact ⟨ret_int he.out.symm, rfl⟩
  · by_cases h1 : 12 ≤ s
    · have he := Lib.hid (Pl.takes_1 h1 (by omega))
      go_enter Tryz.func83, Tryz.ntmps83
      go_wp2
      go_ret
      exact ⟨ret_int he.out.symm, rfl⟩
    · have he := Lib.hid (Pl.takes_0 (s := s) (by omega))
      go_enter Tryz.func83, Tryz.ntmps83
      go_wp2
      go_ret
      exact ⟨ret_int he.out.symm, rfl⟩
set_option maxHeartbeats 400000 in
theorem impl_within (x a b : Int) (w : World) : Calls Tryz.prog 22 #[.int .i64 x, .int .i64 a, .int .i64 b] w fun e w' => e = .returned (.bool (decide (a ≤ x ∧ x ≤ b))) ∧ w = w' := by
  by_cases h1 : a ≤ x
  · by_cases h2 : x ≤ b
    · have he := Lib.hid (show decide (a ≤ x ∧ x ≤ b) = true by simp [h1, h2])
      go_enter Tryz.func22, Tryz.ntmps22
      go_wp2
      go_ret
      exact ⟨ret_bool (by first | rfl | (simp; done) | (simp; omega)), rfl⟩
    · have he := Lib.hid (show decide (a ≤ x ∧ x ≤ b) = false by simp [h2])
      go_enter Tryz.func22, Tryz.ntmps22
      go_wp2
      go_ret
      exact ⟨ret_bool (by first | rfl | (simp; done) | (simp; omega)), rfl⟩
  · have he := Lib.hid (show decide (a ≤ x ∧ x ≤ b) = false by simp [h1])
    go_enter Tryz.func22, Tryz.ntmps22
    go_wp2
    go_ret
    exact ⟨ret_bool (by first | rfl | (simp; done) | (simp; omega)), rfl⟩
theorem impl_within_t (x a b : Int) (w : World) (h : a ≤ x ∧ x ≤ b) : Calls Tryz.prog 22 #[.int .i64 x, .int .i64 a, .int .i64 b] w fun e w' => e = .returned (.bool true) ∧ w = w' := by
  have hc := impl_within x a b w
  rwa [decide_eq_true h] at hc
theorem impl_within_f (x a b : Int) (w : World) (h : ¬ (a ≤ x ∧ x ≤ b)) : Calls Tryz.prog 22 #[.int .i64 x, .int .i64 a, .int .i64 b] w fun e w' => e = .returned (.bool false) ∧ w = w' := by
  have hc := impl_within x a b w
  rwa [decide_eq_false h] at hc
set_option maxHeartbeats 400000 in
theorem spec_l1In (x a b : Int) (w : World) : Calls Tryz.prog 26 #[.int .i64 x, .int .i64 a, .int .i64 b] w fun e w' => e = .returned (.bool (decide (a ≤ x ∧ x ≤ b))) ∧ w = w' := by
  by_cases h1 : a ≤ x
  · by_cases h2 : x ≤ b
    · have he := Lib.hid (show decide (a ≤ x ∧ x ≤ b) = true by simp [h1, h2])
      go_enter Tryz.func26, Tryz.ntmps26
      go_wp2
      go_ret
      exact ⟨ret_bool (by first | rfl | (simp; done) | (simp; omega)), rfl⟩
    · have he := Lib.hid (show decide (a ≤ x ∧ x ≤ b) = false by simp [h2])
      go_enter Tryz.func26, Tryz.ntmps26
      go_wp2
      go_ret
      exact ⟨ret_bool (by first | rfl | (simp; done) | (simp; omega)), rfl⟩
  · have he := Lib.hid (show decide (a ≤ x ∧ x ≤ b) = false by simp [h1])
    go_enter Tryz.func26, Tryz.ntmps26
    go_wp2
    go_ret
    exact ⟨ret_bool (by first | rfl | (simp; done) | (simp; omega)), rfl⟩
theorem spec_l1In_t (x a b : Int) (w : World) (h : a ≤ x ∧ x ≤ b) : Calls Tryz.prog 26 #[.int .i64 x, .int .i64 a, .int .i64 b] w fun e w' => e = .returned (.bool true) ∧ w = w' := by
  have hc := spec_l1In x a b w
  rwa [decide_eq_true h] at hc
theorem spec_l1In_f (x a b : Int) (w : World) (h : ¬ (a ≤ x ∧ x ≤ b)) : Calls Tryz.prog 26 #[.int .i64 x, .int .i64 a, .int .i64 b] w fun e w' => e = .returned (.bool false) ∧ w = w' := by
  have hc := spec_l1In x a b w
  rwa [decide_eq_false h] at hc
set_option maxHeartbeats 1000000 in
theorem impl_ExprValid (A : Option Addr) (n c B : Nat) (xs : List Int) (w : World) (hx : Rd w B A n (I64 xs)) (hn : n ≤ 1000000000000) :
    Calls Tryz.prog 93 #[.slice A n c] w fun e w' => e = .returned (.bool (Pl.exprValid xs)) ∧ w = w' := by
  have lx : xs.length = n := by have := hx.len; rwa [I64_len] at this
  by_cases hc : 1 ≤ n ∧ n ≤ 24
  · obtain ⟨n0, n1⟩ := hc
    obtain ⟨b, off, rfl, _, hc⟩ := hx.pos (by omega)
    have HC := Lib.hid hc
    have hL := Lib.hid lx
    have i1 : (1 : Int) ≤ (n : Int) := by omega
    have i2 : (n : Int) ≤ 24 := by omega
    clear hc lx hx
    go_enter Tryz.func93, Tryz.ntmps93
    go_wp2_with (first | (go_at_call 22; refine (impl_within_t _ _ _ _ (by omega)).mono ?_; rintro e w' ⟨rfl, rfl⟩))
    go_loop [3, 12] (fun v i => ∃ (j : Nat) (d : Int), j ≤ n ∧ i = .int .i64 j ∧ v = .int .i64 d ∧ 0 ≤ d ∧ d ≤ j ∧ Pl.scan (xs.take j) 0 = some d) (fun _ i => n - (intOf i).toNat)
    case atStart => exact ⟨0, 0, by omega, rfl, rfl, by omega, by omega, by simp [Pl.scan]⟩
    case round =>
      obtain ⟨j, d, hj, rfl, rfl, d0, d1, hs⟩ := hrel
      have HS := Lib.hid hs
      clear hs
      by_cases hlt : j < n
      · obtain ⟨s, es⟩ : ∃ s, xs[j]? = some s := ⟨_, List.getElem?_eq_getElem (by have := hL.out; omega)⟩
        have c1 : w.cell? ⟨b, off + j, none⟩ = some (.int .i64 s) := HC.out j _ (I64_get es)
        have ES := Lib.hid es
        have hin : (j : Int) < (n : Int) := by omega
        have hj0 : (0 : Int) ≤ j := by omega
        have tb := Pl.takes_bd s
        clear es
        by_cases s0 : 0 ≤ s
        · by_cases s1 : s ≤ 19
          · by_cases st : d < Pl.takes s
            · have hv := Lib.hid (Pl.valid_bad ES.out HS.out (by omega))
              go_wp2_with (first | (go_at_call 113; refine (impl_takes _ _).mono ?_; rintro e w' ⟨rfl, rfl⟩) | (go_at_call 22; refine (impl_within_t _ _ _ _ (by omega)).mono ?_; rintro e w' ⟨rfl, rfl⟩) | (go_at_call 22; refine (impl_within_f _ _ _ _ (by omega)).mono ?_; rintro e w' ⟨rfl, rfl⟩))
              go_ret
              exact ⟨ret_bool hv.out.symm, rfl⟩
            · have hv := Lib.hid (Pl.scan_snoc ES.out HS.out s0 s1 (by omega))
              go_wp2_with (first | (go_at_call 113; refine (impl_takes _ _).mono ?_; rintro e w' ⟨rfl, rfl⟩) | (go_at_call 22; refine (impl_within_t _ _ _ _ (by omega)).mono ?_; rintro e w' ⟨rfl, rfl⟩) | (go_at_call 22; refine (impl_within_f _ _ _ _ (by omega)).mono ?_; rintro e w' ⟨rfl, rfl⟩))
              go_round
              case rel => exact ⟨j + 1, d + 1 - Pl.takes s, by omega, by go_num, by go_num, by omega, by omega, hv.out⟩
              case measure => simp [intOf]; omega
          · have hv := Lib.hid (Pl.valid_bad ES.out HS.out (by omega))
            go_wp2_with (first | (go_at_call 113; refine (impl_takes _ _).mono ?_; rintro e w' ⟨rfl, rfl⟩) | (go_at_call 22; refine (impl_within_t _ _ _ _ (by omega)).mono ?_; rintro e w' ⟨rfl, rfl⟩) | (go_at_call 22; refine (impl_within_f _ _ _ _ (by omega)).mono ?_; rintro e w' ⟨rfl, rfl⟩))
            go_ret
            exact ⟨ret_bool hv.out.symm, rfl⟩
        · have hv := Lib.hid (Pl.valid_bad ES.out HS.out (by omega))
          go_wp2_with (first | (go_at_call 113; refine (impl_takes _ _).mono ?_; rintro e w' ⟨rfl, rfl⟩) | (go_at_call 22; refine (impl_within_t _ _ _ _ (by omega)).mono ?_; rintro e w' ⟨rfl, rfl⟩) | (go_at_call 22; refine (impl_within_f _ _ _ _ (by omega)).mono ?_; rintro e w' ⟨rfl, rfl⟩))
          go_ret
          exact ⟨ret_bool hv.out.symm, rfl⟩
      · obtain rfl : j = n := by omega
        have hv := Lib.hid (Pl.valid_end (e := xs) (by have := HS.out; rwa [← hL.out] at this) (by have := hL.out; omega) (by have := hL.out; omega))
        go_wp2
        go_ret
        exact ⟨ret_bool (by rw [hv.out]; rfl), rfl⟩
  · have hv := Lib.hid (Pl.valid_len (e := xs) (by omega))
    rcases Nat.eq_zero_or_pos n with h0 | h0
    · subst h0
      clear hc lx hx
      go_enter Tryz.func93, Tryz.ntmps93
      go_wp2_with (first | (go_at_call 22; refine (impl_within_f _ _ _ _ (by omega)).mono ?_; rintro e w' ⟨rfl, rfl⟩))
      go_ret
      exact ⟨ret_bool hv.out.symm, rfl⟩
    · have i1 : (24 : Int) < (n : Int) := by omega
      clear hc lx hx
      go_enter Tryz.func93, Tryz.ntmps93
      go_wp2_with (first | (go_at_call 22; refine (impl_within_f _ _ _ _ (by omega)).mono ?_; rintro e w' ⟨rfl, rfl⟩))
      go_ret
      exact ⟨ret_bool hv.out.symm, rfl⟩
set_option maxHeartbeats 1000000 in
theorem spec_ExprValid (A : Option Addr) (n c B : Nat) (xs : List Int) (w : World) (hx : Rd w B A n (I64 xs)) (hn : n ≤ 1000000000000) :
    Calls Tryz.prog 59 #[.slice A n c] w fun e w' => e = .returned (.bool (Pl.exprValid xs)) ∧ w = w' := by
  have lx : xs.length = n := by have := hx.len; rwa [I64_len] at this
  rcases Nat.eq_zero_or_pos n with h0 | h0
  · subst h0
    have hv := Lib.hid (Pl.valid_len (e := xs) (by omega))
    clear lx hx
    go_enter Tryz.func59, Tryz.ntmps59
    go_wp2
    refine wp_loop_rounds 1 ?_
    rw [rounds_succ]
    go_wp2_with (first | (go_at_call 26; refine (spec_l1In_t _ _ _ _ (by omega)).mono ?_; rintro e w' ⟨rfl, rfl⟩) | (go_at_call 26; refine (spec_l1In_f _ _ _ _ (by omega)).mono ?_; rintro e w' ⟨rfl, rfl⟩))
    go_ret
    exact ⟨ret_bool hv.out.symm, rfl⟩
  · obtain ⟨b, off, rfl, _, hc⟩ := hx.pos h0
    have HC := Lib.hid hc
    have hL := Lib.hid lx
    clear hc lx hx
    go_enter Tryz.func59, Tryz.ntmps59
    go_wp2
    go_loop [3, 4] (fun v i => ∃ (j : Nat) (d : Int), j ≤ n ∧ i = .int .i64 j ∧ v = .int .i64 d ∧ 0 ≤ d ∧ d ≤ j ∧ Pl.scan (xs.take j) 0 = some d) (fun _ i => n - (intOf i).toNat)
    case atStart => exact ⟨0, 0, by omega, rfl, rfl, by omega, by omega, by simp [Pl.scan]⟩
    case round =>
      obtain ⟨j, d, hj, rfl, rfl, d0, d1, hs⟩ := hrel
      have HS := Lib.hid hs
      clear hs
      by_cases hlt : j < n
      · obtain ⟨s, es⟩ : ∃ s, xs[j]? = some s := ⟨_, List.getElem?_eq_getElem (by have := hL.out; omega)⟩
        have c1 : w.cell? ⟨b, off + j, none⟩ = some (.int .i64 s) := HC.out j _ (I64_get es)
        have ES := Lib.hid es
        have hin : (j : Int) < (n : Int) := by omega
        have hj0 : (0 : Int) ≤ j := by omega
        have tb := Pl.takes_bd s
        clear es
        by_cases s0 : 0 ≤ s
        · by_cases s1 : s ≤ 19
          · by_cases st : d < Pl.takes s
            · have hv := Lib.hid (Pl.valid_bad ES.out HS.out (by omega))
              go_wp2_with (first | (go_at_call 83; refine (spec_l9Takes _ _).mono ?_; rintro e w' ⟨rfl, rfl⟩) | (go_at_call 26; refine (spec_l1In_t _ _ _ _ (by omega)).mono ?_; rintro e w' ⟨rfl, rfl⟩) | (go_at_call 26; refine (spec_l1In_f _ _ _ _ (by omega)).mono ?_; rintro e w' ⟨rfl, rfl⟩))
              go_ret
              exact ⟨ret_bool hv.out.symm, rfl⟩
            · have hv := Lib.hid (Pl.scan_snoc ES.out HS.out s0 s1 (by omega))
              go_wp2_with (first | (go_at_call 83; refine (spec_l9Takes _ _).mono ?_; rintro e w' ⟨rfl, rfl⟩) | (go_at_call 26; refine (spec_l1In_t _ _ _ _ (by omega)).mono ?_; rintro e w' ⟨rfl, rfl⟩) | (go_at_call 26; refine (spec_l1In_f _ _ _ _ (by omega)).mono ?_; rintro e w' ⟨rfl, rfl⟩))
              go_round
              case rel => exact ⟨j + 1, d + 1 - Pl.takes s, by omega, by go_num, by go_num, by omega, by omega, hv.out⟩
              case measure => simp [intOf]; omega
          · have hv := Lib.hid (Pl.valid_bad ES.out HS.out (by omega))
            go_wp2_with (first | (go_at_call 83; refine (spec_l9Takes _ _).mono ?_; rintro e w' ⟨rfl, rfl⟩) | (go_at_call 26; refine (spec_l1In_t _ _ _ _ (by omega)).mono ?_; rintro e w' ⟨rfl, rfl⟩) | (go_at_call 26; refine (spec_l1In_f _ _ _ _ (by omega)).mono ?_; rintro e w' ⟨rfl, rfl⟩))
            go_ret
            exact ⟨ret_bool hv.out.symm, rfl⟩
        · have hv := Lib.hid (Pl.valid_bad ES.out HS.out (by omega))
          go_wp2_with (first | (go_at_call 83; refine (spec_l9Takes _ _).mono ?_; rintro e w' ⟨rfl, rfl⟩) | (go_at_call 26; refine (spec_l1In_t _ _ _ _ (by omega)).mono ?_; rintro e w' ⟨rfl, rfl⟩) | (go_at_call 26; refine (spec_l1In_f _ _ _ _ (by omega)).mono ?_; rintro e w' ⟨rfl, rfl⟩))
          go_ret
          exact ⟨ret_bool hv.out.symm, rfl⟩
      · obtain rfl : j = n := by omega
        by_cases hn : j ≤ 24
        · have hv := Lib.hid (Pl.valid_end (e := xs) (by have := HS.out; rwa [← hL.out] at this) (by have := hL.out; omega) (by have := hL.out; omega))
          go_wp2_with (first | (go_at_call 26; refine (spec_l1In_t _ _ _ _ (by omega)).mono ?_; rintro e w' ⟨rfl, rfl⟩) | (go_at_call 26; refine (spec_l1In_f _ _ _ _ (by omega)).mono ?_; rintro e w' ⟨rfl, rfl⟩))
          go_ret
          exact ⟨ret_bool (by rw [hv.out]; rfl), rfl⟩
        · have hv := Lib.hid (Pl.valid_len (e := xs) (by have := hL.out; omega))
          go_wp2_with (first | (go_at_call 26; refine (spec_l1In_t _ _ _ _ (by omega)).mono ?_; rintro e w' ⟨rfl, rfl⟩) | (go_at_call 26; refine (spec_l1In_f _ _ _ _ (by omega)).mono ?_; rintro e w' ⟨rfl, rfl⟩))
          go_ret
          exact ⟨ret_bool hv.out.symm, rfl⟩
end Go.Proofs.YtamhpgledbmnoaaGreatDoor
namespace Go.Proofs.YtamhpgledbmnoaaGreatDoor
set_option linter.unusedVariables false
set_option linter.unusedSimpArgs false
open Go.RowKit

theorem steps8 {s : Int} (h : 12 ≤ s) (h' : s ≤ 19) : s = 12 ∨ s = 13 ∨ s = 14 ∨ s = 15 ∨ s = 16 ∨ s = 17 ∨ s = 18 ∨ s = 19 := by omega
set_option maxHeartbeats 1000000 in
theorem spec_l9Leaf (k s x y : Int) (w : World) (h0 : 0 ≤ k) (h1 : k ≤ 61) (hs0 : -9223372036854775808 ≤ s) (hs1 : s ≤ 9223372036854775807) :
    Calls Tryz.prog 106 #[.int .i64 k, .int .i64 s, .int .i64 x, .int .i64 y] w fun e w' => e = .returned (.int .i64 (Pl.leafv k s x y)) ∧ w = w' := by
  by_cases hx : s = 10
  · subst hx
    go_enter Tryz.func106, Tryz.ntmps106
    go_wp2
    go_ret
    exact ⟨ret_int (by simp [Pl.leafv]), rfl⟩
  · by_cases hy : s = 11
    · subst hy
      go_enter Tryz.func106, Tryz.ntmps106
      go_wp2
      go_ret
      exact ⟨ret_int (by simp [Pl.leafv]), rfl⟩
    · have he := Lib.hid (show Pl.leafv k s x y = Pl.wmod k s by simp [Pl.leafv, hx, hy])
      have n1 : (s == 10) = false := by simpa using hx
      have n2 : (s == 11) = false := by simpa using hy
      clear hx hy
      go_enter Tryz.func106, Tryz.ntmps106
      go_wp2_with (first | (go_at_call 121; refine (spec_l1Mod _ _ _ (by omega) (by omega) (by omega) (by omega)).mono ?_; rintro e w' ⟨rfl, rfl⟩))
      go_ret
      exact ⟨ret_int he.out.symm, rfl⟩
set_option maxHeartbeats 1000000 in
theorem spec_l9Do (k s a b : Int) (w : World) (hs0 : 12 ≤ s) (hs1 : s ≤ 19) (hv : Pl.v2 k a b = true) :
    Calls Tryz.prog 107 #[.int .i64 k, .int .i64 s, .int .i64 a, .int .i64 b] w fun e w' => e = .returned (.int .i64 (Pl.opv k s a b)) ∧ w = w' := by
  obtain ⟨h0, h1, h2, h3, h4, h5⟩ := Pl.v2_t hv
  have hp := Pl.pw_lt k h1
  have hp0 := Pl.pw_pos k
  have hw := Pl.wrap_pw k (by omega) (by omega)
  rcases steps8 hs0 hs1 with rfl | rfl | rfl | rfl | rfl | rfl | rfl | rfl
  · have he := Lib.hid (show Pl.opv k 12 a b = Pl.pw k - 1 - a by simp [Pl.opv])
    go_enter Tryz.func107, Tryz.ntmps107
    go_wp2_with (first | (go_at_call 121; refine (spec_l1Mod _ _ _ (by omega) (by omega) (by omega) (by omega)).mono ?_; rintro e w' ⟨rfl, rfl⟩) | (go_at_call 122; refine (spec_l1And _ _ _ (by omega) (by omega) (by omega) (by omega)).mono ?_; rintro e w' ⟨rfl, rfl⟩) | (go_at_call 123; refine (spec_l1Or _ _ _ (by omega) (by omega) (by omega) (by omega)).mono ?_; rintro e w' ⟨rfl, rfl⟩) | (go_at_call 124; refine (spec_l1Xor _ _ _ (by omega) (by omega) (by omega) (by omega)).mono ?_; rintro e w' ⟨rfl, rfl⟩))
    go_ret
    exact ⟨ret_int (by rw [he.out]), rfl⟩
  · have he := Lib.hid (show Pl.opv k 13 a b = Pl.wmod k (2 * a) by simp [Pl.opv])
    go_enter Tryz.func107, Tryz.ntmps107
    go_wp2_with (first | (go_at_call 121; refine (spec_l1Mod _ _ _ (by omega) (by omega) (by omega) (by omega)).mono ?_; rintro e w' ⟨rfl, rfl⟩) | (go_at_call 122; refine (spec_l1And _ _ _ (by omega) (by omega) (by omega) (by omega)).mono ?_; rintro e w' ⟨rfl, rfl⟩) | (go_at_call 123; refine (spec_l1Or _ _ _ (by omega) (by omega) (by omega) (by omega)).mono ?_; rintro e w' ⟨rfl, rfl⟩) | (go_at_call 124; refine (spec_l1Xor _ _ _ (by omega) (by omega) (by omega) (by omega)).mono ?_; rintro e w' ⟨rfl, rfl⟩))
    go_ret
    exact ⟨ret_int (by rw [he.out]), rfl⟩
  · have he := Lib.hid (show Pl.opv k 14 a b = a / 2 by simp [Pl.opv])
    go_enter Tryz.func107, Tryz.ntmps107
    go_wp2_with (first | (go_at_call 121; refine (spec_l1Mod _ _ _ (by omega) (by omega) (by omega) (by omega)).mono ?_; rintro e w' ⟨rfl, rfl⟩) | (go_at_call 122; refine (spec_l1And _ _ _ (by omega) (by omega) (by omega) (by omega)).mono ?_; rintro e w' ⟨rfl, rfl⟩) | (go_at_call 123; refine (spec_l1Or _ _ _ (by omega) (by omega) (by omega) (by omega)).mono ?_; rintro e w' ⟨rfl, rfl⟩) | (go_at_call 124; refine (spec_l1Xor _ _ _ (by omega) (by omega) (by omega) (by omega)).mono ?_; rintro e w' ⟨rfl, rfl⟩))
    go_ret
    exact ⟨ret_int (by rw [he.out]), rfl⟩
  · have he := Lib.hid (show Pl.opv k 15 a b = Pl.wmod k (a + b) by simp [Pl.opv])
    go_enter Tryz.func107, Tryz.ntmps107
    go_wp2_with (first | (go_at_call 121; refine (spec_l1Mod _ _ _ (by omega) (by omega) (by omega) (by omega)).mono ?_; rintro e w' ⟨rfl, rfl⟩) | (go_at_call 122; refine (spec_l1And _ _ _ (by omega) (by omega) (by omega) (by omega)).mono ?_; rintro e w' ⟨rfl, rfl⟩) | (go_at_call 123; refine (spec_l1Or _ _ _ (by omega) (by omega) (by omega) (by omega)).mono ?_; rintro e w' ⟨rfl, rfl⟩) | (go_at_call 124; refine (spec_l1Xor _ _ _ (by omega) (by omega) (by omega) (by omega)).mono ?_; rintro e w' ⟨rfl, rfl⟩))
    go_ret
    exact ⟨ret_int (by rw [he.out]), rfl⟩
  · have he := Lib.hid (show Pl.opv k 16 a b = Pl.wmod k (a - b) by simp [Pl.opv])
    go_enter Tryz.func107, Tryz.ntmps107
    go_wp2_with (first | (go_at_call 121; refine (spec_l1Mod _ _ _ (by omega) (by omega) (by omega) (by omega)).mono ?_; rintro e w' ⟨rfl, rfl⟩) | (go_at_call 122; refine (spec_l1And _ _ _ (by omega) (by omega) (by omega) (by omega)).mono ?_; rintro e w' ⟨rfl, rfl⟩) | (go_at_call 123; refine (spec_l1Or _ _ _ (by omega) (by omega) (by omega) (by omega)).mono ?_; rintro e w' ⟨rfl, rfl⟩) | (go_at_call 124; refine (spec_l1Xor _ _ _ (by omega) (by omega) (by omega) (by omega)).mono ?_; rintro e w' ⟨rfl, rfl⟩))
    go_ret
    exact ⟨ret_int (by rw [he.out]), rfl⟩
  · have he := Lib.hid (show Pl.opv k 17 a b = Pl.land a b by simp [Pl.opv])
    go_enter Tryz.func107, Tryz.ntmps107
    go_wp2_with (first | (go_at_call 121; refine (spec_l1Mod _ _ _ (by omega) (by omega) (by omega) (by omega)).mono ?_; rintro e w' ⟨rfl, rfl⟩) | (go_at_call 122; refine (spec_l1And _ _ _ (by omega) (by omega) (by omega) (by omega)).mono ?_; rintro e w' ⟨rfl, rfl⟩) | (go_at_call 123; refine (spec_l1Or _ _ _ (by omega) (by omega) (by omega) (by omega)).mono ?_; rintro e w' ⟨rfl, rfl⟩) | (go_at_call 124; refine (spec_l1Xor _ _ _ (by omega) (by omega) (by omega) (by omega)).mono ?_; rintro e w' ⟨rfl, rfl⟩))
    go_ret
    exact ⟨ret_int (by rw [he.out]), rfl⟩
  · have he := Lib.hid (show Pl.opv k 18 a b = Pl.lor a b by simp [Pl.opv])
    go_enter Tryz.func107, Tryz.ntmps107
    go_wp2_with (first | (go_at_call 121; refine (spec_l1Mod _ _ _ (by omega) (by omega) (by omega) (by omega)).mono ?_; rintro e w' ⟨rfl, rfl⟩) | (go_at_call 122; refine (spec_l1And _ _ _ (by omega) (by omega) (by omega) (by omega)).mono ?_; rintro e w' ⟨rfl, rfl⟩) | (go_at_call 123; refine (spec_l1Or _ _ _ (by omega) (by omega) (by omega) (by omega)).mono ?_; rintro e w' ⟨rfl, rfl⟩) | (go_at_call 124; refine (spec_l1Xor _ _ _ (by omega) (by omega) (by omega) (by omega)).mono ?_; rintro e w' ⟨rfl, rfl⟩))
    go_ret
    exact ⟨ret_int (by rw [he.out]), rfl⟩
  · have he := Lib.hid (show Pl.opv k 19 a b = Pl.lxor a b by simp [Pl.opv])
    go_enter Tryz.func107, Tryz.ntmps107
    go_wp2_with (first | (go_at_call 121; refine (spec_l1Mod _ _ _ (by omega) (by omega) (by omega) (by omega)).mono ?_; rintro e w' ⟨rfl, rfl⟩) | (go_at_call 122; refine (spec_l1And _ _ _ (by omega) (by omega) (by omega) (by omega)).mono ?_; rintro e w' ⟨rfl, rfl⟩) | (go_at_call 123; refine (spec_l1Or _ _ _ (by omega) (by omega) (by omega) (by omega)).mono ?_; rintro e w' ⟨rfl, rfl⟩) | (go_at_call 124; refine (spec_l1Xor _ _ _ (by omega) (by omega) (by omega) (by omega)).mono ?_; rintro e w' ⟨rfl, rfl⟩))
    go_ret
    exact ⟨ret_int (by rw [he.out]), rfl⟩
end Go.Proofs.YtamhpgledbmnoaaGreatDoor
namespace Go.Proofs.YtamhpgledbmnoaaGreatDoor
set_option linter.unusedVariables false
set_option linter.unusedSimpArgs false
open Go.RowKit

theorem own_below {w w' : World} {base size n : Nat} {e : TypeId} {v : Value} {xs : List Value} (h : w.ownsRow base e size v n xs) (hb : Below w.heap.size w w') : w'.ownsRow base e size v n xs := by
  have hl := h.lt
  obtain ⟨h1, h2⟩ := h
  refine ⟨h1, ?_⟩
  rcases h2 with h2 | ⟨g, cap, cur, rfl, a, b, d⟩
  · exact .inl h2
  · exact .inr ⟨g, cap, cur, rfl, a, (hb.block g (hl g rfl).2).trans b, d⟩
theorem own_cut {w : World} {base g n cap m : Nat} {e : TypeId} {xs : List Value} (h : w.ownsRow base e 1 (.slice (some ⟨g, 0, none⟩) n cap) n xs) (hm : m ≤ n) :
    w.ownsRow base e 1 (.slice (some ⟨g, 0, none⟩) m cap) m (xs.take m) := by
  obtain ⟨h1, h2⟩ := h
  refine ⟨by rw [List.length_take, h1]; omega, ?_⟩
  rcases h2 with ⟨h0, _⟩ | ⟨g', cap', cur, hv, hg, hh, hn, hcap, hsz, htake⟩
  · cases h0
  · cases hv
    refine .inr ⟨g, cap, cur, rfl, hg, hh, by omega, hcap, hsz, ?_⟩
    rw [← htake, List.take_take, Nat.mul_one, Nat.mul_one, Nat.min_eq_left hm]
/-- What is known of the row of a stack that is not empty. -/
theorem own_some {w : World} {base n : Nat} {e : TypeId} {A : Option Addr} {c : Nat} {xs : List Value} (h : w.ownsRow base e 1 (.slice A n c) n xs) (hn : 0 < n) :
    ∃ g, A = some ⟨g, 0, none⟩ ∧ base ≤ g ∧ g < w.heap.size := by
  obtain ⟨g, c', e, hg, hl⟩ := own_lt h hn
  injection e with e1 e2 e3
  exact ⟨g, e1, hg, hl⟩
theorem set_last {α : Type} {xs : List α} {m : Nat} (h : xs.length = m + 1) (v : α) : xs.set m v = xs.take m ++ [v] := by
  apply List.ext_getElem?
  intro i
  rw [List.getElem?_set, List.getElem?_append, List.length_take, Nat.min_eq_left (by omega)]
  rcases Nat.lt_trichotomy i m with hi | rfl | hi
  · rw [if_neg (by omega), if_pos hi, List.getElem?_take_of_lt hi]
  · rw [if_pos rfl, if_pos (by omega), if_neg (by omega)]; simp
  · rw [if_neg (by omega), if_neg (by omega), List.getElem?_eq_none (by omega), List.getElem?_eq_none (by simp; omega)]
theorem I64_append (xs ys : List Int) : I64 (xs ++ ys) = I64 xs ++ I64 ys := by simp [I64]
theorem I64_take (xs : List Int) (n : Nat) : (I64 xs).take n = I64 (xs.take n) := by simp [I64, List.map_take]
theorem I64_getD {xs : List Int} {j : Nat} (h : j < xs.length) : (I64 xs)[j]? = some (.int .i64 (xs.getD j 0)) := by
  simp [I64, List.getD_eq_getElem?_getD, List.getElem?_eq_getElem h]
theorem push_0 {k x y s : Int} {st : List Int} (h : s < 12) : Pl.pushS k x y st s = st ++ [Pl.leafv k s x y] := by
  unfold Pl.pushS; rw [if_pos (Pl.takes_0 h)]
theorem push_1 {k x y s : Int} {st : List Int} {m : Nat} (h : 12 ≤ s) (h' : s < 15) (hm : st.length = m + 1) : Pl.pushS k x y st s = st.take m ++ [Pl.opv k s (st.getD m 0) 0] := by
  unfold Pl.pushS; rw [Pl.takes_1 h h', hm]; rfl
theorem push_2 {k x y s : Int} {st : List Int} {m : Nat} (h : 15 ≤ s) (hm : st.length = m + 2) : Pl.pushS k x y st s = st.take m ++ [Pl.opv k s (st.getD m 0) (st.getD (m + 1) 0)] := by
  unfold Pl.pushS; rw [Pl.takes_2 h, hm]; rfl

theorem set_take {α : Type} {xs : List α} {m : Nat} (h : m < xs.length) (v : α) : (xs.set m v).take (m + 1) = xs.take m ++ [v] := by
  apply List.ext_getElem?
  intro i
  rw [List.getElem?_take, List.getElem?_set, List.getElem?_append, List.length_take, Nat.min_eq_left (by omega)]
  rcases Nat.lt_trichotomy i m with hi | rfl | hi
  · rw [if_pos (by omega), if_neg (by omega), if_pos hi, List.getElem?_take_of_lt hi]
  · rw [if_pos (by omega), if_pos rfl, if_pos h, if_neg (by omega)]; simp
  · rw [if_neg (by omega), if_neg (by omega), List.getElem?_eq_none (by simp; omega)]
set_option maxRecDepth 100000 in
set_option maxHeartbeats 4000000 in
theorem spec_l9Value (k x y : Int) (A : Option Addr) (n c B : Nat) (xs : List Int) (w : World) (hx : Rd w B A n (I64 xs)) (hB : B ≤ w.heap.size) (he : Pl.exprValid xs = true) (hv : Pl.v2 k x y = true) :
    Calls Tryz.prog 86 #[.int .i64 k, .slice A n c, .int .i64 x, .int .i64 y] w fun e w' => e = .returned (.int .i64 (Pl.value k xs x y)) ∧ Below w.heap.size w w' := by
  obtain ⟨h0, h1, x0, x1, y0, y1⟩ := Pl.v2_t hv
  obtain ⟨e0, e1, e2⟩ := Pl.valid_t he
  have lx : xs.length = n := by have := hx.len; rwa [I64_len] at this
  obtain ⟨b, off, rfl, hbl, hc⟩ := hx.pos (by omega)
  have hp := Pl.pw_lt k h1
  have hp0 := Pl.pw_pos k
  have HEND := Lib.hid (Pl.eval_end x0 x1 y0 y1 he)
  have HC := Lib.hid hc
  have hL := Lib.hid lx
  have HAT := Lib.hid (Pl.eval_at x0 x1 y0 y1 e2)
  have HSC := Lib.hid e2
  have HV := Lib.hid hv
  rw [lx] at e0 e1
  clear hc hx he hv e2 lx
  go_enter Tryz.func86, Tryz.ntmps86
  go_wp2
  go_loopw [9, 10] (fun v i wr => ∃ (j d : Nat) (st : List Int) (A' : Option Addr) (c' : Nat), j ≤ n ∧ i = .int .i64 j ∧ Hid (st = Pl.evalS k x y (xs.take j)) ∧ st.length = d ∧ v = .slice A' d c' ∧ wr.ownsRow w.heap.size 3 1 (.slice A' d c') d (I64 st) ∧ Below w.heap.size w wr) (fun _ i _ => n - (intOf i).toNat)
  case atStart => exact ⟨0, 0, [], _, 0, by omega, rfl, by simp [Hid, Pl.evalS], rfl, rfl, World.ownsRow_made _ _ 0 (Nat.le_refl _) (by simp [maxLen]) rfl, (Below.refl _ _).alloc (Nat.le_refl _) _⟩
  case round =>
    obtain ⟨j, d, st, A', c', hj, rfl, hst, hd, rfl, hown, hb⟩ := hrel
    have HD := Lib.hid hd
    by_cases hlt : j < n
    · obtain ⟨s, es⟩ : ∃ s, xs[j]? = some s := ⟨_, List.getElem?_eq_getElem (by have := hL.out; omega)⟩
      have c1 : wr.cell? ⟨b, off + j, none⟩ = some (.int .i64 s) := (hb.cell (p := ⟨b, off + j, none⟩) (show b < w.heap.size by omega)).trans (HC.out j _ (I64_get es))
      obtain ⟨hw, hsc⟩ := HAT.out j (by have := hL.out; omega)
      have hnext := Pl.evalS_snoc (k := k) (x := x) (y := y) es
      rw [← hst.out] at hw hsc hnext
      rw [hd] at hsc
      obtain ⟨⟨s0, s1⟩, ht⟩ := Pl.scan_at HSC.out es hsc
      have hdj : d ≤ j := by
        obtain ⟨d', q1, q2, q3⟩ := Pl.scan_get HSC.out j (by have := hL.out; omega)
        rw [hsc] at q1
        injection q1 with q1
        omega
      have hin : (j : Int) < (n : Int) := by omega
      have hj0 : (0 : Int) ≤ j := by omega
      have hz := hb.size
      have HW := Lib.hid hw
      have HN := Lib.hid hnext
      clear hw hsc hnext es hd
      by_cases t0 : s < 12
      · have ht0 := Pl.takes_0 t0
        have hpu := Lib.hid (push_0 (k := k) (x := x) (y := y) (st := st) t0)
        clear ht
        go_wp2_with (first | (first | (go_at_call 83; refine (spec_l9Takes _ _).mono ?_; rintro e w' ⟨rfl, rfl⟩) | (go_at_call 106; refine (spec_l9Leaf _ _ _ _ _ (by omega) (by omega) (by omega) (by omega)).mono ?_; rintro e w' ⟨rfl, rfl⟩)) | (at_builtin; refine app_int rfl _ _ rfl w.heap.size (.slice A' d c') d _ _ rfl hown rfl rfl (by omega) hz ?_; intro v' w1 hown' hbl))
        obtain ⟨A2, c2, rfl, _⟩ := Rd.of_own hown'
        exact ⟨⟨j + 1, d + 1, st ++ [Pl.leafv k s x y], A2, c2, by omega, by go_num, Lib.hid (by rw [HN.out, hpu.out]), by rw [List.length_append, HD.out]; rfl, rfl, by rw [I64_append]; exact hown', hb.trans hbl⟩, by simp [intOf]; omega⟩
      · by_cases t1 : s < 15
        · have ht1 := Pl.takes_1 (by omega) t1
          rw [ht1] at ht
          obtain ⟨m, rfl⟩ : ∃ m, d = m + 1 := ⟨d - 1, by omega⟩
          have hpu := Lib.hid (push_1 (k := k) (x := x) (y := y) (st := st) (by omega) t1 HD.out)
          obtain ⟨g, rfl, hg0, hg1⟩ := own_some hown (by omega)
          have v1 := Pl.words_get HW.out m
          have hv1 := Lib.hid (Pl.v2_mk (Pl.wv_mk h0 h1 v1.1 v1.2) (Pl.wv_mk h0 h1 (Int.le_refl 0) (by omega)))
          have hg := Lib.hid (I64_getD (xs := st) (j := m) (by have := HD.out; omega))
          generalize st.getD m 0 = a at *
          have d2 : wr.cell? ⟨g, m, none⟩ = some (.int .i64 a) := by rw [hown.cellAt m (by omega)]; exact hg.out
          clear ht v1
          have hm0 : (0 : Int) ≤ (m : Int) := by omega
          have f2 : wr.frozen? ⟨g, m, none⟩ = false := hown.frozenAt m
          have HST := Lib.hid ((World.ownsRow.drew hown).stored m (.int .i64 (Pl.opv k s a 0)))
          have k1 : IntKind.i64.wrap (m : Int) = m := IntWalk.i64_in _ (by omega)
          have k3 : (m : Int) < (m : Int) + 1 := by omega
          go_wp2_with (first | (go_at_call 83; refine (spec_l9Takes _ _).mono ?_; rintro e w' ⟨rfl, rfl⟩))
          go_region_law (first
            | (go_simp; go_at_call 107; refine (spec_l9Do k s a 0 _ (by omega) (by omega) hv1.out).mono ?_; rintro e w1 ⟨rfl, rfl⟩; dsimp only))
          all_goals go_wp2
          all_goals exact ⟨⟨j + 1, m + 1, st.take m ++ [Pl.opv k s a 0], some ⟨g, 0, none⟩, c', by omega, by go_num, Lib.hid (by rw [HN.out, hpu.out]), by rw [List.length_append, List.length_take, HD.out]; simp, rfl,
            by have h := HST.out.1; rw [set_last (by rw [I64_len]; exact HD.out), I64_take] at h; rw [I64_append]; exact h, (below_drewN hb 1).grown HST.out.2 hz (fun q hq => by simp [Value.ownBlock] at hq; omega)⟩, by simp [intOf]; omega⟩
        · have ht2 := Pl.takes_2 (s := s) (by omega)
          rw [ht2] at ht
          obtain ⟨m, rfl⟩ : ∃ m, d = m + 2 := ⟨d - 2, by omega⟩
          have hpu := Lib.hid (push_2 (k := k) (x := x) (y := y) (s := s) (st := st) (by omega) HD.out)
          obtain ⟨g, rfl, hg0, hg1⟩ := own_some hown (by omega)
          have v1 := Pl.words_get HW.out m
          have v2 := Pl.words_get HW.out (m + 1)
          have hv1 := Lib.hid (Pl.v2_mk (Pl.wv_mk h0 h1 v1.1 v1.2) (Pl.wv_mk h0 h1 v2.1 v2.2))
          have hg := Lib.hid (I64_getD (xs := st) (j := m) (by have := HD.out; omega))
          have hg' := Lib.hid (I64_getD (xs := st) (j := m + 1) (by have := HD.out; omega))
          generalize st.getD m 0 = a at *
          generalize st.getD (m + 1) 0 = a' at *
          have d2 : wr.cell? ⟨g, m, none⟩ = some (.int .i64 a) := by rw [hown.cellAt m (by omega)]; exact hg.out
          have d3 : wr.cell? ⟨g, m + 1, none⟩ = some (.int .i64 a') := by rw [hown.cellAt (m + 1) (by omega)]; exact hg'.out
          have f2 : wr.frozen? ⟨g, m, none⟩ = false := hown.frozenAt m
          have HST := Lib.hid ((World.ownsRow.drew hown).stored m (.int .i64 (Pl.opv k s a a')))
          have hcap : (m : Int) + 1 ≤ (c' : Int) := by obtain ⟨_, _, e, hle, _⟩ := Rd.of_own hown; injection e with _ _ e3; omega
          clear ht v1 v2
          have hm0 : (0 : Int) ≤ (m : Int) := by omega
          have k1 : IntKind.i64.wrap (m : Int) = m := IntWalk.i64_in _ (by omega)
          have k3 : (m : Int) < (m : Int) + 2 := by omega
          have k4 : (m : Int) + 1 < (m : Int) + 2 := by omega
          have k5 : (0 : Int) ≤ (m : Int) + 1 := by omega
          have k6 : ((m : Int) + 1).toNat = m + 1 := by omega
          have k7 : (m : Int) + 2 - 1 = (m : Int) + 1 := by omega
          have k8 : IntKind.i64.wrap ((m : Int) + 1 - 1) = m := by rw [IntWalk.i64_in _ (by omega)]; omega
          go_wp2_with (first | (go_at_call 83; refine (spec_l9Takes _ _).mono ?_; rintro e w' ⟨rfl, rfl⟩))
          go_region_law (first
            | (go_simp; go_at_call 107; refine (spec_l9Do k s a a' _ (by omega) (by omega) hv1.out).mono ?_; rintro e w1 ⟨rfl, rfl⟩; dsimp only))
          all_goals go_wp2
          all_goals exact ⟨⟨j + 1, m + 1, st.take m ++ [Pl.opv k s a a'], some ⟨g, 0, none⟩, c', by omega, by go_num, Lib.hid (by rw [HN.out, hpu.out]), by rw [List.length_append, List.length_take, HD.out]; simp, rfl,
            by have h := own_cut HST.out.1 (m := m + 1) (by omega); rw [set_take (by rw [I64_len, HD.out]; omega), I64_take] at h; rw [I64_append]; exact h, (below_drewN hb 1).grown HST.out.2 hz (fun q hq => by simp [Value.ownBlock] at hq; omega)⟩, by simp [intOf]; omega⟩
    · obtain rfl : j = n := by omega
      have hv := HEND.out.1
      have hst' := hst.out
      rw [show xs.take j = xs by rw [← hL.out, List.take_length]] at hst'
      rw [hv] at hst'
      subst hst'
      have hd1 : d = 1 := by rw [← hd]; rfl
      subst hd1
      obtain ⟨g, rfl, hg0, hg1⟩ := own_some hown (by omega)
      have d2 : wr.cell? ⟨g, 0, none⟩ = some (.int .i64 (Pl.value k xs x y)) := by rw [hown.cellAt 0 (by omega)]; rfl
      go_wp2_with fail
      go_ret
      exact ⟨ret_int rfl, hb⟩
end Go.Proofs.YtamhpgledbmnoaaGreatDoor
namespace Go.Proofs.YtamhpgledbmnoaaGreatDoor
set_option linter.unusedVariables false
set_option linter.unusedSimpArgs false
open Go.RowKit

end Go.Proofs.YtamhpgledbmnoaaGreatDoor
namespace Go.Proofs.YtamhpgledbmnoaaGreatDoor
set_option linter.unusedVariables false
set_option linter.unusedSimpArgs false
open Go.RowKit

/-- What EqualAt returns: a truth and two numbers. -/
def OutEq (r : Bool × Int × Int) (w : World) (e : Ending) (w' : World) : Prop := e = .returned (.tuple #[.bool r.1, .int .i64 r.2.1, .int .i64 r.2.2]) ∧ Below w.heap.size w w'
end Go.Proofs.YtamhpgledbmnoaaGreatDoor
namespace Go.Proofs.YtamhpgledbmnoaaGreatDoor
set_option linter.unusedVariables false
set_option linter.unusedSimpArgs false
open Go.RowKit
/-- A slice of ints that came in reads as a list. -/
theorem ints_of_row {w : World} {a : Option Addr} {len cap : Nat} {zs : List Int} (h : IsRow .i64 w a len cap zs) :
    ∃ xs, Rd w w.heap.size a len (I64 xs) ∧ (∀ x ∈ xs, (Lit.int .i64 x).wf = true) := by
  rcases h with ⟨rfl, rfl, rfl, rfl⟩ | ⟨x, rfl, hl, hm, hz, hc, hw⟩
  · exact ⟨[], Rd.zero, fun z hz => by cases hz⟩
  · refine ⟨zs.take len, ⟨by simp [I64]; omega, ?_⟩, fun z hz => hw z (List.mem_of_mem_take hz)⟩
    rcases Nat.eq_zero_or_pos len with h0 | h0
    · exact .inl h0
    · obtain ⟨b, off, spot⟩ := x
      have h1 := hc 0 (by omega)
      have hspot : spot = none := by simpa [Addr.add] using World.cell?_spot h1
      subst hspot
      refine .inr ⟨b, off, rfl, ?_, fun j u hu => ?_⟩
      · have := World.block_lt_of_cell? w _ h1
        rwa [block_of_add] at this
      · have hj : j < len := by
          have := (List.getElem?_eq_some_iff.1 hu).1
          simp [I64] at this
          omega
        have h2 := hc j (by omega)
        have e : (⟨b, off, none⟩ : Addr).add j = ⟨b, off + j, none⟩ := by
          unfold Addr.add
          split
          · rename_i h0; subst h0; rfl
          · rfl
        rw [e] at h2
        rw [h2]
        have hx : (I64 (zs.take len))[j]? = some (.int .i64 (zs.getD j 0)) := by
          simp [I64, List.getElem?_take, hj]
          rw [List.getElem?_eq_getElem (by omega)]
          simp
        rw [hx] at hu
        exact hu
end Go.Proofs.YtamhpgledbmnoaaGreatDoor
namespace Go.Proofs.YtamhpgledbmnoaaGreatDoor
set_option linter.unusedVariables false
set_option linter.unusedSimpArgs false
open Go.RowKit
section
variable {w : World} {ops : Array Oper} {rest : List Oper} {o : Oper} {a : Act} {Q : Exit → Act → World → Prop}
/-- A list behind a list. -/
theorem app_list (hgd : o.guard = none) (s x : Operand)
    (ho : o.op = .call { callee := .builtin .append, args := #[s, x], argTypes := #[41, 41] })
    (B : Nat) (v : Value) (n : Nat) (xs : List Int) (hs : a.eval s = v) (hown : w.ownsRow B 3 1 v n (I64 xs))
    (g m c : Nat) (ys : List Int) (B2 : Nat) (hx : a.eval x = .slice (some ⟨g, 0, none⟩) m c) (hown2 : w.ownsRow B2 3 1 (.slice (some ⟨g, 0, none⟩) m c) m (I64 ys)) (hn : n ≤ 1000000) (hm : m ≤ 1000000) (hB : B ≤ w.heap.size)
    (h : ∀ v' w', w'.ownsRow B 3 1 v' (n + m) (I64 (xs ++ ys)) → Below B w w' → wpList Tryz.prog ops Q rest (a.put o.dst v') w') :
    wpList Tryz.prog ops Q (o :: rest) a w := by
  obtain ⟨i0, hi0, hz0, hz1, hz2⟩ := info_parts int_info
  refine wpList_append_own _ hgd s x _ ho B 3 i0 _ 1 8 Tryz.underlying41 hi0 hz0 hz1 hz2 rfl (by decide) v n (I64 xs) hs hown ⟨g, 0, none⟩ m c (I64 ys) hx hown2.1
    (hown2.cells rfl) (fun u hu => ?_) (by simp only [maxLen]; omega) (by omega) hB
    (fun v' w' h2 h3 _ => h v' w' (by rw [I64_append]; exact h2) ((Below.refl _ _).grown h3 hB (fun k hk => (hown.lt k hk).1)))
  unfold I64 at hu
  obtain ⟨_, _, rfl⟩ := List.mem_map.1 hu
  rfl
end
theorem own_len {w : World} {B n : Nat} {v : Value} {xs : List Int} (h : w.ownsRow B 3 1 v n (I64 xs)) : xs.length = n := by
  have := h.1
  rw [I64_len] at this
  omega
end Go.Proofs.YtamhpgledbmnoaaGreatDoor
