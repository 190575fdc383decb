/-
  Contracts of the small functions on expressions: what a step takes, its word, its operation; and whether an expression is valid.
  Conditions: as stated at each.
-/
import Derived.Test.YtpjikmnddkobfaaW2
import Derived.Test.YtpjikmnddkobfaaW3
import Derived.Test.YtpjikmnddkobfaaSl
import Derived.Test.YtpjikmnddkobfaaPe
namespace Go.Proofs.Ytpjikmnddkobfaa
set_option linter.unusedVariables false
set_option linter.unusedSimpArgs false
open Go.RowKit

set_option maxHeartbeats 400000 in
theorem impl_takes (s : Int) (w : World) : Calls Try.prog 45 #[.int .i64 s] w fun e w' => e = .returned (.int .i64 (Pl.takes s)) ∧ w = w' := by
  by_cases h2 : 15 ≤ s
  · have he := Lib.hid (Pl.takes_2 h2)
    go_enter Try.func45, Try.ntmps45
    go_wp2
    go_ret
    exact ⟨ret_int he.out.symm, rfl⟩
  · by_cases h1 : 12 ≤ s
    · have he := Lib.hid (Pl.takes_1 h1 (by omega))
      go_enter Try.func45, Try.ntmps45
      go_wp2
      go_ret
      exact ⟨ret_int he.out.symm, rfl⟩
    · have he := Lib.hid (Pl.takes_0 (s := s) (by omega))
      go_enter Try.func45, Try.ntmps45
      go_wp2
      go_ret
      exact ⟨ret_int he.out.symm, rfl⟩
set_option maxHeartbeats 400000 in
theorem impl_within (x a b : Int) (w : World) : Calls Try.prog 36 #[.int .i64 x, .int .i64 a, .int .i64 b] w fun e w' => e = .returned (.bool (decide (a ≤ x ∧ x ≤ b))) ∧ w = w' := by
  by_cases h1 : a ≤ x
  · by_cases h2 : x ≤ b
    · have he := Lib.hid (show decide (a ≤ x ∧ x ≤ b) = true by simp [h1, h2])
      go_enter Try.func36, Try.ntmps36
      go_wp2
      go_ret
      exact ⟨ret_bool (by first | rfl | (simp; done) | (simp; omega)), rfl⟩
    · have he := Lib.hid (show decide (a ≤ x ∧ x ≤ b) = false by simp [h2])
      go_enter Try.func36, Try.ntmps36
      go_wp2
      go_ret
      exact ⟨ret_bool (by first | rfl | (simp; done) | (simp; omega)), rfl⟩
  · have he := Lib.hid (show decide (a ≤ x ∧ x ≤ b) = false by simp [h1])
    go_enter Try.func36, Try.ntmps36
    go_wp2
    go_ret
    exact ⟨ret_bool (by first | rfl | (simp; done) | (simp; omega)), rfl⟩
theorem impl_within_t (x a b : Int) (w : World) (h : a ≤ x ∧ x ≤ b) : Calls Try.prog 36 #[.int .i64 x, .int .i64 a, .int .i64 b] w fun e w' => e = .returned (.bool true) ∧ w = w' := by
  have hc := impl_within x a b w
  rwa [decide_eq_true h] at hc
theorem impl_within_f (x a b : Int) (w : World) (h : ¬ (a ≤ x ∧ x ≤ b)) : Calls Try.prog 36 #[.int .i64 x, .int .i64 a, .int .i64 b] w fun e w' => e = .returned (.bool false) ∧ w = w' := by
  have hc := impl_within x a b w
  rwa [decide_eq_false h] at hc
set_option maxHeartbeats 400000 in
theorem spec_l1In (x a b : Int) (w : World) : Calls Try.prog 16 #[.int .i64 x, .int .i64 a, .int .i64 b] w fun e w' => e = .returned (.bool (decide (a ≤ x ∧ x ≤ b))) ∧ w = w' := by
  by_cases h1 : a ≤ x
  · by_cases h2 : x ≤ b
    · have he := Lib.hid (show decide (a ≤ x ∧ x ≤ b) = true by simp [h1, h2])
      go_enter Try.func16, Try.ntmps16
      go_wp2
      go_ret
      exact ⟨ret_bool (by first | rfl | (simp; done) | (simp; omega)), rfl⟩
    · have he := Lib.hid (show decide (a ≤ x ∧ x ≤ b) = false by simp [h2])
      go_enter Try.func16, Try.ntmps16
      go_wp2
      go_ret
      exact ⟨ret_bool (by first | rfl | (simp; done) | (simp; omega)), rfl⟩
  · have he := Lib.hid (show decide (a ≤ x ∧ x ≤ b) = false by simp [h1])
    go_enter Try.func16, Try.ntmps16
    go_wp2
    go_ret
    exact ⟨ret_bool (by first | rfl | (simp; done) | (simp; omega)), rfl⟩
theorem spec_l1In_t (x a b : Int) (w : World) (h : a ≤ x ∧ x ≤ b) : Calls Try.prog 16 #[.int .i64 x, .int .i64 a, .int .i64 b] w fun e w' => e = .returned (.bool true) ∧ w = w' := by
  have hc := spec_l1In x a b w
  rwa [decide_eq_true h] at hc
theorem spec_l1In_f (x a b : Int) (w : World) (h : ¬ (a ≤ x ∧ x ≤ b)) : Calls Try.prog 16 #[.int .i64 x, .int .i64 a, .int .i64 b] w fun e w' => e = .returned (.bool false) ∧ w = w' := by
  have hc := spec_l1In x a b w
  rwa [decide_eq_false h] at hc
set_option maxHeartbeats 1000000 in
theorem impl_ExprValid (A : Option Addr) (n c B : Nat) (xs : List Int) (w : World) (hx : Rd w B A n (I64 xs)) (hn : n ≤ 1000000000000) :
    Calls Try.prog 31 #[.slice A n c] w fun e w' => e = .returned (.bool (Pl.exprValid xs)) ∧ w = w' := by
  have lx : xs.length = n := by have := hx.len; rwa [I64_len] at this
  by_cases hc : 1 ≤ n ∧ n ≤ 24
  · obtain ⟨n0, n1⟩ := hc
    obtain ⟨b, off, rfl, _, hc⟩ := hx.pos (by omega)
    have HC := Lib.hid hc
    have hL := Lib.hid lx
    have i1 : (1 : Int) ≤ (n : Int) := by omega
    have i2 : (n : Int) ≤ 24 := by omega
    clear hc lx hx
    go_enter Try.func31, Try.ntmps31
    go_wp2_with (first | (go_at_call 36; refine (impl_within_t _ _ _ _ (by omega)).mono ?_; rintro e w' ⟨rfl, rfl⟩))
    go_loop [3, 12] (fun v i => ∃ (j : Nat) (d : Int), j ≤ n ∧ i = .int .i64 j ∧ v = .int .i64 d ∧ 0 ≤ d ∧ d ≤ j ∧ Pl.scan (xs.take j) 0 = some d) (fun _ i => n - (intOf i).toNat)
    case atStart => exact ⟨0, 0, by omega, rfl, rfl, by omega, by omega, by simp [Pl.scan]⟩
    case round =>
      obtain ⟨j, d, hj, rfl, rfl, d0, d1, hs⟩ := hrel
      have HS := Lib.hid hs
      clear hs
      by_cases hlt : j < n
      · obtain ⟨s, es⟩ : ∃ s, xs[j]? = some s := ⟨_, List.getElem?_eq_getElem (by have := hL.out; omega)⟩
        have c1 : w.cell? ⟨b, off + j, none⟩ = some (.int .i64 s) := HC.out j _ (I64_get es)
        have ES := Lib.hid es
        have hin : (j : Int) < (n : Int) := by omega
        have hj0 : (0 : Int) ≤ j := by omega
        have tb := Pl.takes_bd s
        clear es
        by_cases s0 : 0 ≤ s
        · by_cases s1 : s ≤ 19
          · by_cases st : d < Pl.takes s
            · have hv := Lib.hid (Pl.valid_bad ES.out HS.out (by omega))
              go_wp2_with (first | (go_at_call 45; refine (impl_takes _ _).mono ?_; rintro e w' ⟨rfl, rfl⟩) | (go_at_call 36; refine (impl_within_t _ _ _ _ (by omega)).mono ?_; rintro e w' ⟨rfl, rfl⟩) | (go_at_call 36; refine (impl_within_f _ _ _ _ (by omega)).mono ?_; rintro e w' ⟨rfl, rfl⟩))
              go_ret
              exact ⟨ret_bool hv.out.symm, rfl⟩
            · have hv := Lib.hid (Pl.scan_snoc ES.out HS.out s0 s1 (by omega))
              go_wp2_with (first | (go_at_call 45; refine (impl_takes _ _).mono ?_; rintro e w' ⟨rfl, rfl⟩) | (go_at_call 36; refine (impl_within_t _ _ _ _ (by omega)).mono ?_; rintro e w' ⟨rfl, rfl⟩) | (go_at_call 36; refine (impl_within_f _ _ _ _ (by omega)).mono ?_; rintro e w' ⟨rfl, rfl⟩))
              go_round
              case rel => exact ⟨j + 1, d + 1 - Pl.takes s, by omega, by go_num, by go_num, by omega, by omega, hv.out⟩
              case measure => simp [intOf]; omega
          · have hv := Lib.hid (Pl.valid_bad ES.out HS.out (by omega))
            go_wp2_with (first | (go_at_call 45; refine (impl_takes _ _).mono ?_; rintro e w' ⟨rfl, rfl⟩) | (go_at_call 36; refine (impl_within_t _ _ _ _ (by omega)).mono ?_; rintro e w' ⟨rfl, rfl⟩) | (go_at_call 36; refine (impl_within_f _ _ _ _ (by omega)).mono ?_; rintro e w' ⟨rfl, rfl⟩))
            go_ret
            exact ⟨ret_bool hv.out.symm, rfl⟩
        · have hv := Lib.hid (Pl.valid_bad ES.out HS.out (by omega))
          go_wp2_with (first | (go_at_call 45; refine (impl_takes _ _).mono ?_; rintro e w' ⟨rfl, rfl⟩) | (go_at_call 36; refine (impl_within_t _ _ _ _ (by omega)).mono ?_; rintro e w' ⟨rfl, rfl⟩) | (go_at_call 36; refine (impl_within_f _ _ _ _ (by omega)).mono ?_; rintro e w' ⟨rfl, rfl⟩))
          go_ret
          exact ⟨ret_bool hv.out.symm, rfl⟩
      · obtain rfl : j = n := by omega
        have hv := Lib.hid (Pl.valid_end (e := xs) (by have := HS.out; rwa [← hL.out] at this) (by have := hL.out; omega) (by have := hL.out; omega))
        go_wp2
        go_ret
        exact ⟨ret_bool (by rw [hv.out]; rfl), rfl⟩
  · have hv := Lib.hid (Pl.valid_len (e := xs) (by omega))
    rcases Nat.eq_zero_or_pos n with h0 | h0
    · subst h0
      clear hc lx hx
      go_enter Try.func31, Try.ntmps31
      go_wp2_with (first | (go_at_call 36; refine (impl_within_f _ _ _ _ (by omega)).mono ?_; rintro e w' ⟨rfl, rfl⟩))
      go_ret
      exact ⟨ret_bool hv.out.symm, rfl⟩
    · have i1 : (24 : Int) < (n : Int) := by omega
      clear hc lx hx
      go_enter Try.func31, Try.ntmps31
      go_wp2_with (first | (go_at_call 36; refine (impl_within_f _ _ _ _ (by omega)).mono ?_; rintro e w' ⟨rfl, rfl⟩))
      go_ret
      exact ⟨ret_bool hv.out.symm, rfl⟩
end Go.Proofs.Ytpjikmnddkobfaa
