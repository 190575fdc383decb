/-
  Contracts of the small functions on expressions: what a step takes, its word, its operation; and whether an expression is valid.
  Conditions: as stated at each.
-/
import Derived.Test.YtnjcephddilalabW2
import Derived.Test.YtnjcephddilalabW3
import Derived.Test.YtnjcephddilalabSl
import Derived.Test.YtnjcephddilalabPe
namespace Go.Proofs.Ytnjcephddilalab
set_option linter.unusedVariables false
set_option linter.unusedSimpArgs false
open Go.RowKit

set_option maxHeartbeats 400000 in
theorem impl_takes (s : Int) (w : World) : Calls Try.prog 42 #[.int .i64 s] w fun e w' => e = .returned (.int .i64 (Pl.takes s)) ∧ w = w' := by
  by_cases h2 : 15 ≤ s
  · have he := Lib.hid (Pl.takes_2 h2)
    go_enter Try.func42, Try.ntmps42
    go_wp2
    go_ret
    exact ⟨ret_int he.out.symm, rfl⟩
  · by_cases h1 : 12 ≤ s
    · have he := Lib.hid (Pl.takes_1 h1 (by omega))
      go_enter Try.func42, Try.ntmps42
      go_wp2
      go_ret
      exact ⟨ret_int he.out.symm, rfl⟩
    · have he := Lib.hid (Pl.takes_0 (s := s) (by omega))
      go_enter Try.func42, Try.ntmps42
      go_wp2
      go_ret
      exact ⟨ret_int he.out.symm, rfl⟩
set_option maxHeartbeats 400000 in
theorem spec_l9Takes (s : Int) (w : World) : Calls Try.prog 44 #[.int .i64 s] w fun e w' => e = .returned (.int .i64 (Pl.takes s)) ∧ w = w' := by
  by_cases h2 : 15 ≤ s
  · have he := Lib.hid (Pl.takes_2 h2)
    go_enter Try.func44, Try.ntmps44
    go_wp2
    go_ret
    exact ⟨ret_int he.out.symm, rfl⟩
  · by_cases h1 : 12 ≤ s
    · have he := Lib.hid (Pl.takes_1 h1 (by omega))
      go_enter Try.func44, Try.ntmps44
      go_wp2
      go_ret
      exact ⟨ret_int he.out.symm, rfl⟩
    · have he := Lib.hid (Pl.takes_0 (s := s) (by omega))
      go_enter Try.func44, Try.ntmps44
      go_wp2
      go_ret
      exact ⟨ret_int he.out.symm, rfl⟩
set_option maxHeartbeats 400000 in
theorem impl_within (x a b : Int) (w : World) : Calls Try.prog 51 #[.int .i64 x, .int .i64 a, .int .i64 b] w fun e w' => e = .returned (.bool (decide (a ≤ x ∧ x ≤ b))) ∧ w = w' := by
  by_cases h1 : a ≤ x
  · by_cases h2 : x ≤ b
    · have he := Lib.hid (show decide (a ≤ x ∧ x ≤ b) = true by simp [h1, h2])
      go_enter Try.func51, Try.ntmps51
      go_wp2
      go_ret
      exact ⟨ret_bool (by first | rfl | (simp; done) | (simp; omega)), rfl⟩
    · have he := Lib.hid (show decide (a ≤ x ∧ x ≤ b) = false by simp [h2])
      go_enter Try.func51, Try.ntmps51
      go_wp2
      go_ret
      exact ⟨ret_bool (by first | rfl | (simp; done) | (simp; omega)), rfl⟩
  · have he := Lib.hid (show decide (a ≤ x ∧ x ≤ b) = false by simp [h1])
    go_enter Try.func51, Try.ntmps51
    go_wp2
    go_ret
    exact ⟨ret_bool (by first | rfl | (simp; done) | (simp; omega)), rfl⟩
theorem impl_within_t (x a b : Int) (w : World) (h : a ≤ x ∧ x ≤ b) : Calls Try.prog 51 #[.int .i64 x, .int .i64 a, .int .i64 b] w fun e w' => e = .returned (.bool true) ∧ w = w' := by
  have hc := impl_within x a b w
  rwa [decide_eq_true h] at hc
theorem impl_within_f (x a b : Int) (w : World) (h : ¬ (a ≤ x ∧ x ≤ b)) : Calls Try.prog 51 #[.int .i64 x, .int .i64 a, .int .i64 b] w fun e w' => e = .returned (.bool false) ∧ w = w' := by
  have hc := impl_within x a b w
  rwa [decide_eq_false h] at hc
set_option maxHeartbeats 400000 in
theorem spec_l1In (x a b : Int) (w : World) : Calls Try.prog 45 #[.int .i64 x, .int .i64 a, .int .i64 b] w fun e w' => e = .returned (.bool (decide (a ≤ x ∧ x ≤ b))) ∧ w = w' := by
  by_cases h1 : a ≤ x
  · by_cases h2 : x ≤ b
    · have he := Lib.hid (show decide (a ≤ x ∧ x ≤ b) = true by simp [h1, h2])
      go_enter Try.func45, Try.ntmps45
      go_wp2
      go_ret
      exact ⟨ret_bool (by first | rfl | (simp; done) | (simp; omega)), rfl⟩
    · have he := Lib.hid (show decide (a ≤ x ∧ x ≤ b) = false by simp [h2])
      go_enter Try.func45, Try.ntmps45
      go_wp2
      go_ret
      exact ⟨ret_bool (by first | rfl | (simp; done) | (simp; omega)), rfl⟩
  · have he := Lib.hid (show decide (a ≤ x ∧ x ≤ b) = false by simp [h1])
    go_enter Try.func45, Try.ntmps45
    go_wp2
    go_ret
    exact ⟨ret_bool (by first | rfl | (simp; done) | (simp; omega)), rfl⟩
theorem spec_l1In_t (x a b : Int) (w : World) (h : a ≤ x ∧ x ≤ b) : Calls Try.prog 45 #[.int .i64 x, .int .i64 a, .int .i64 b] w fun e w' => e = .returned (.bool true) ∧ w = w' := by
  have hc := spec_l1In x a b w
  rwa [decide_eq_true h] at hc
theorem spec_l1In_f (x a b : Int) (w : World) (h : ¬ (a ≤ x ∧ x ≤ b)) : Calls Try.prog 45 #[.int .i64 x, .int .i64 a, .int .i64 b] w fun e w' => e = .returned (.bool false) ∧ w = w' := by
  have hc := spec_l1In x a b w
  rwa [decide_eq_false h] at hc
set_option maxHeartbeats 1000000 in
theorem laws_toIntS (A : Option Addr) (n c B : Nat) (xs : List Int) (w : World) (hx : Rd w B A n (I64 xs)) (hB : B ≤ w.heap.size) (hn : n ≤ 1000000000000) :
    Calls Try.prog 21 #[.slice A n c] w (OwnInts w.heap.size xs w) := by
  have lx : xs.length = n := by have := hx.len; rwa [I64_len] at this
  have hX := Lib.hid hx
  have hL := Lib.hid lx
  clear hx lx
  obtain ⟨i0, hi0, hz0, hz1, hz2⟩ := info_parts int_info
  obtain ⟨w1, hrun, hown, hg⟩ := run_make_full (P := Try.prog) w w.heap.size 23 3 i0 _ 1 Try.underlying23 hi0 hz0 hz1 .i64 .i64 n (by rw [hz2]; omega) (by unfold maxLen; omega) (Nat.le_refl _)
  clear hi0 hz0 hz1 hz2
  have hz := hg.size
  go_enter Try.func21, Try.ntmps21
  go_wp2
  go_loopw [4] (fun i wr => ∃ (j : Nat) (ys : List Value), j ≤ n ∧ i = .int .i64 j ∧ ys.length = n ∧ (∀ t, t < j → ys[t]? = (I64 xs)[t]?) ∧ wr.ownsRow w.heap.size 3 1 (.slice (some ⟨w.heap.size, 0, none⟩) n n) n ys ∧ Below w.heap.size w wr) (fun i _ => n - (intOf i).toNat)
  case atStart => exact ⟨0, _, by omega, rfl, by simpa using hown.1, fun t ht => absurd ht (by omega), hown, (Below.refl _ _).grown hg (Nat.le_refl _) (fun k hk => by cases hk)⟩
  case round =>
    obtain ⟨j, ys, hj, rfl, hyl, hys, hown1, hb⟩ := hrel
    have HY := Lib.hid hys
    have HYL := Lib.hid hyl
    clear hys hyl
    by_cases hlt : j < n
    · obtain ⟨b, off, rfl, hbl, hc⟩ := hX.out.pos (by omega)
      obtain ⟨x, ex⟩ : ∃ x, xs[j]? = some x := ⟨_, List.getElem?_eq_getElem (by have := hL.out; omega)⟩
      have c0 : w.cell? ⟨b, off + j, none⟩ = some (.int .i64 x) := hc j _ (I64_get ex)
      have c1 : wr.cell? ⟨b, off + j, none⟩ = some (.int .i64 x) := (hb.cell (p := ⟨b, off + j, none⟩) (show b < w.heap.size by omega)).trans c0
      have c2 : wr.cell? ⟨w.heap.size, j, none⟩ = some (ys[j]'(by have := HYL.out; omega)) := by rw [hown1.cellAt j (by omega)]; exact List.getElem?_eq_getElem _
      have f1 : wr.frozen? ⟨w.heap.size, j, none⟩ = false := hown1.frozenAt j
      have EX := Lib.hid ex
      have HC := Lib.hid hc
      have hin : (j : Int) < (n : Int) := by omega
      have hj0 : (0 : Int) ≤ j := by omega
      have hst := hown1.stored j (.int .i64 x)
      have HST := Lib.hid hst
      clear hst ex hc c0
      go_wp2
      go_roundw
      case rel =>
        refine ⟨j + 1, ys.set j (.int .i64 x), by omega, by go_num, by simp [HYL.out], fun t ht => ?_, HST.out.1, (hb.grown HST.out.2 hb.size (fun k hk => by simp [Value.ownBlock] at hk; omega))⟩
        rw [List.getElem?_set]
        split
        · rename_i e; subst e; rw [if_pos (by have := HYL.out; omega), I64_get EX.out]
        · exact HY.out t (by omega)
      case measure => simp [intOf]; omega
    · have hjn : j = n := by omega
      subst hjn
      have hfin : ys = I64 xs := by
        apply List.ext_getElem?
        intro i
        rcases Nat.lt_or_ge i j with hi | hi
        · exact HY.out i hi
        · rw [List.getElem?_eq_none (by have := HYL.out; omega), List.getElem?_eq_none (by rw [I64_len]; have := hL.out; omega)]
      have HF := Lib.hid hfin
      clear hfin
      go_wp2
      go_ret
      have h1 := hL.out
      subst h1
      exact ⟨_, _, rfl, by rw [← HF.out]; exact hown1, hb⟩
set_option maxHeartbeats 1000000 in
theorem impl_ExprValid (A : Option Addr) (n c B : Nat) (xs : List Int) (w : World) (hx : Rd w B A n (I64 xs)) (hn : n ≤ 1000000000000) :
    Calls Try.prog 34 #[.slice A n c] w fun e w' => e = .returned (.bool (Pl.exprValid xs)) ∧ w = w' := by
  have lx : xs.length = n := by have := hx.len; rwa [I64_len] at this
  by_cases hc : 1 ≤ n ∧ n ≤ 24
  · obtain ⟨n0, n1⟩ := hc
    obtain ⟨b, off, rfl, _, hc⟩ := hx.pos (by omega)
    have HC := Lib.hid hc
    have hL := Lib.hid lx
    have i1 : (1 : Int) ≤ (n : Int) := by omega
    have i2 : (n : Int) ≤ 24 := by omega
    clear hc lx hx
    go_enter Try.func34, Try.ntmps34
    go_wp2_with (first | (go_at_call 51; refine (impl_within_t _ _ _ _ (by omega)).mono ?_; rintro e w' ⟨rfl, rfl⟩))
    go_loop [3, 12] (fun v i => ∃ (j : Nat) (d : Int), j ≤ n ∧ i = .int .i64 j ∧ v = .int .i64 d ∧ 0 ≤ d ∧ d ≤ j ∧ Pl.scan (xs.take j) 0 = some d) (fun _ i => n - (intOf i).toNat)
    case atStart => exact ⟨0, 0, by omega, rfl, rfl, by omega, by omega, by simp [Pl.scan]⟩
    case round =>
      obtain ⟨j, d, hj, rfl, rfl, d0, d1, hs⟩ := hrel
      have HS := Lib.hid hs
      clear hs
      by_cases hlt : j < n
      · obtain ⟨s, es⟩ : ∃ s, xs[j]? = some s := ⟨_, List.getElem?_eq_getElem (by have := hL.out; omega)⟩
        have c1 : w.cell? ⟨b, off + j, none⟩ = some (.int .i64 s) := HC.out j _ (I64_get es)
        have ES := Lib.hid es
        have hin : (j : Int) < (n : Int) := by omega
        have hj0 : (0 : Int) ≤ j := by omega
        have tb := Pl.takes_bd s
        clear es
        by_cases s0 : 0 ≤ s
        · by_cases s1 : s ≤ 19
          · by_cases st : d < Pl.takes s
            · have hv := Lib.hid (Pl.valid_bad ES.out HS.out (by omega))
              go_wp2_with (first | (go_at_call 42; refine (impl_takes _ _).mono ?_; rintro e w' ⟨rfl, rfl⟩) | (go_at_call 51; refine (impl_within_t _ _ _ _ (by omega)).mono ?_; rintro e w' ⟨rfl, rfl⟩) | (go_at_call 51; refine (impl_within_f _ _ _ _ (by omega)).mono ?_; rintro e w' ⟨rfl, rfl⟩))
              go_ret
              exact ⟨ret_bool hv.out.symm, rfl⟩
            · have hv := Lib.hid (Pl.scan_snoc ES.out HS.out s0 s1 (by omega))
              go_wp2_with (first | (go_at_call 42; refine (impl_takes _ _).mono ?_; rintro e w' ⟨rfl, rfl⟩) | (go_at_call 51; refine (impl_within_t _ _ _ _ (by omega)).mono ?_; rintro e w' ⟨rfl, rfl⟩) | (go_at_call 51; refine (impl_within_f _ _ _ _ (by omega)).mono ?_; rintro e w' ⟨rfl, rfl⟩))
              go_round
              case rel => exact ⟨j + 1, d + 1 - Pl.takes s, by omega, by go_num, by go_num, by omega, by omega, hv.out⟩
              case measure => simp [intOf]; omega
          · have hv := Lib.hid (Pl.valid_bad ES.out HS.out (by omega))
            go_wp2_with (first | (go_at_call 42; refine (impl_takes _ _).mono ?_; rintro e w' ⟨rfl, rfl⟩) | (go_at_call 51; refine (impl_within_t _ _ _ _ (by omega)).mono ?_; rintro e w' ⟨rfl, rfl⟩) | (go_at_call 51; refine (impl_within_f _ _ _ _ (by omega)).mono ?_; rintro e w' ⟨rfl, rfl⟩))
            go_ret
            exact ⟨ret_bool hv.out.symm, rfl⟩
        · have hv := Lib.hid (Pl.valid_bad ES.out HS.out (by omega))
          go_wp2_with (first | (go_at_call 42; refine (impl_takes _ _).mono ?_; rintro e w' ⟨rfl, rfl⟩) | (go_at_call 51; refine (impl_within_t _ _ _ _ (by omega)).mono ?_; rintro e w' ⟨rfl, rfl⟩) | (go_at_call 51; refine (impl_within_f _ _ _ _ (by omega)).mono ?_; rintro e w' ⟨rfl, rfl⟩))
          go_ret
          exact ⟨ret_bool hv.out.symm, rfl⟩
      · obtain rfl : j = n := by omega
        have hv := Lib.hid (Pl.valid_end (e := xs) (by have := HS.out; rwa [← hL.out] at this) (by have := hL.out; omega) (by have := hL.out; omega))
        go_wp2
        go_ret
        exact ⟨ret_bool (by rw [hv.out]; rfl), rfl⟩
  · have hv := Lib.hid (Pl.valid_len (e := xs) (by omega))
    rcases Nat.eq_zero_or_pos n with h0 | h0
    · subst h0
      clear hc lx hx
      go_enter Try.func34, Try.ntmps34
      go_wp2_with (first | (go_at_call 51; refine (impl_within_f _ _ _ _ (by omega)).mono ?_; rintro e w' ⟨rfl, rfl⟩))
      go_ret
      exact ⟨ret_bool hv.out.symm, rfl⟩
    · have i1 : (24 : Int) < (n : Int) := by omega
      clear hc lx hx
      go_enter Try.func34, Try.ntmps34
      go_wp2_with (first | (go_at_call 51; refine (impl_within_f _ _ _ _ (by omega)).mono ?_; rintro e w' ⟨rfl, rfl⟩))
      go_ret
      exact ⟨ret_bool hv.out.symm, rfl⟩
set_option maxHeartbeats 1000000 in
theorem spec_ExprValid (A : Option Addr) (n c B : Nat) (xs : List Int) (w : World) (hx : Rd w B A n (I64 xs)) (hn : n ≤ 1000000000000) :
    Calls Try.prog 13 #[.slice A n c] w fun e w' => e = .returned (.bool (Pl.exprValid xs)) ∧ w = w' := by
  have lx : xs.length = n := by have := hx.len; rwa [I64_len] at this
  rcases Nat.eq_zero_or_pos n with h0 | h0
  · subst h0
    have hv := Lib.hid (Pl.valid_len (e := xs) (by omega))
    clear lx hx
    go_enter Try.func13, Try.ntmps13
    go_wp2
    refine wp_loop_rounds 1 ?_
    rw [rounds_succ]
    go_wp2_with (first | (go_at_call 45; refine (spec_l1In_t _ _ _ _ (by omega)).mono ?_; rintro e w' ⟨rfl, rfl⟩) | (go_at_call 45; refine (spec_l1In_f _ _ _ _ (by omega)).mono ?_; rintro e w' ⟨rfl, rfl⟩))
    go_ret
    exact ⟨ret_bool hv.out.symm, rfl⟩
  · obtain ⟨b, off, rfl, _, hc⟩ := hx.pos h0
    have HC := Lib.hid hc
    have hL := Lib.hid lx
    clear hc lx hx
    go_enter Try.func13, Try.ntmps13
    go_wp2
    go_loop [3, 4] (fun v i => ∃ (j : Nat) (d : Int), j ≤ n ∧ i = .int .i64 j ∧ v = .int .i64 d ∧ 0 ≤ d ∧ d ≤ j ∧ Pl.scan (xs.take j) 0 = some d) (fun _ i => n - (intOf i).toNat)
    case atStart => exact ⟨0, 0, by omega, rfl, rfl, by omega, by omega, by simp [Pl.scan]⟩
    case round =>
      obtain ⟨j, d, hj, rfl, rfl, d0, d1, hs⟩ := hrel
      have HS := Lib.hid hs
      clear hs
      by_cases hlt : j < n
      · obtain ⟨s, es⟩ : ∃ s, xs[j]? = some s := ⟨_, List.getElem?_eq_getElem (by have := hL.out; omega)⟩
        have c1 : w.cell? ⟨b, off + j, none⟩ = some (.int .i64 s) := HC.out j _ (I64_get es)
        have ES := Lib.hid es
        have hin : (j : Int) < (n : Int) := by omega
        have hj0 : (0 : Int) ≤ j := by omega
        have tb := Pl.takes_bd s
        clear es
        by_cases s0 : 0 ≤ s
        · by_cases s1 : s ≤ 19
          · by_cases st : d < Pl.takes s
            · have hv := Lib.hid (Pl.valid_bad ES.out HS.out (by omega))
              go_wp2_with (first | (go_at_call 44; refine (spec_l9Takes _ _).mono ?_; rintro e w' ⟨rfl, rfl⟩) | (go_at_call 45; refine (spec_l1In_t _ _ _ _ (by omega)).mono ?_; rintro e w' ⟨rfl, rfl⟩) | (go_at_call 45; refine (spec_l1In_f _ _ _ _ (by omega)).mono ?_; rintro e w' ⟨rfl, rfl⟩))
              go_ret
              exact ⟨ret_bool hv.out.symm, rfl⟩
            · have hv := Lib.hid (Pl.scan_snoc ES.out HS.out s0 s1 (by omega))
              go_wp2_with (first | (go_at_call 44; refine (spec_l9Takes _ _).mono ?_; rintro e w' ⟨rfl, rfl⟩) | (go_at_call 45; refine (spec_l1In_t _ _ _ _ (by omega)).mono ?_; rintro e w' ⟨rfl, rfl⟩) | (go_at_call 45; refine (spec_l1In_f _ _ _ _ (by omega)).mono ?_; rintro e w' ⟨rfl, rfl⟩))
              go_round
              case rel => exact ⟨j + 1, d + 1 - Pl.takes s, by omega, by go_num, by go_num, by omega, by omega, hv.out⟩
              case measure => simp [intOf]; omega
          · have hv := Lib.hid (Pl.valid_bad ES.out HS.out (by omega))
            go_wp2_with (first | (go_at_call 44; refine (spec_l9Takes _ _).mono ?_; rintro e w' ⟨rfl, rfl⟩) | (go_at_call 45; refine (spec_l1In_t _ _ _ _ (by omega)).mono ?_; rintro e w' ⟨rfl, rfl⟩) | (go_at_call 45; refine (spec_l1In_f _ _ _ _ (by omega)).mono ?_; rintro e w' ⟨rfl, rfl⟩))
            go_ret
            exact ⟨ret_bool hv.out.symm, rfl⟩
        · have hv := Lib.hid (Pl.valid_bad ES.out HS.out (by omega))
          go_wp2_with (first | (go_at_call 44; refine (spec_l9Takes _ _).mono ?_; rintro e w' ⟨rfl, rfl⟩) | (go_at_call 45; refine (spec_l1In_t _ _ _ _ (by omega)).mono ?_; rintro e w' ⟨rfl, rfl⟩) | (go_at_call 45; refine (spec_l1In_f _ _ _ _ (by omega)).mono ?_; rintro e w' ⟨rfl, rfl⟩))
          go_ret
          exact ⟨ret_bool hv.out.symm, rfl⟩
      · obtain rfl : j = n := by omega
        by_cases hn : j ≤ 24
        · have hv := Lib.hid (Pl.valid_end (e := xs) (by have := HS.out; rwa [← hL.out] at this) (by have := hL.out; omega) (by have := hL.out; omega))
          go_wp2_with (first | (go_at_call 45; refine (spec_l1In_t _ _ _ _ (by omega)).mono ?_; rintro e w' ⟨rfl, rfl⟩) | (go_at_call 45; refine (spec_l1In_f _ _ _ _ (by omega)).mono ?_; rintro e w' ⟨rfl, rfl⟩))
          go_ret
          exact ⟨ret_bool (by rw [hv.out]; rfl), rfl⟩
        · have hv := Lib.hid (Pl.valid_len (e := xs) (by have := hL.out; omega))
          go_wp2_with (first | (go_at_call 45; refine (spec_l1In_t _ _ _ _ (by omega)).mono ?_; rintro e w' ⟨rfl, rfl⟩) | (go_at_call 45; refine (spec_l1In_f _ _ _ _ (by omega)).mono ?_; rintro e w' ⟨rfl, rfl⟩))
          go_ret
          exact ⟨ret_bool hv.out.symm, rfl⟩
end Go.Proofs.Ytnjcephddilalab
