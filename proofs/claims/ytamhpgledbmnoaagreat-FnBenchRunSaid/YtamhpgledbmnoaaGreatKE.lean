/-
  Contracts of functions on expressions and their values.
  Conditions: as stated at each.
-/
import Derived.Test.YtamhpgledbmnoaaGreatKW
import Derived.Test.YtamhpgledbmnoaaGreatKB
import Derived.Test.YtamhpgledbmnoaaGreatKP
namespace Go.Proofs.YtamhpgledbmnoaaGreat
set_option linter.unusedVariables false
set_option linter.unusedSimpArgs false
open Go.RowKit

set_option maxHeartbeats 400000 in
theorem impl_takes (s : Int) (w : World) : Calls Tryz.prog 86 #[.int .i64 s] w fun e w' => e = .returned (.int .i64 (Pl.takes s)) ∧ w = w' := by
  by_cases h2 : 15 ≤ s
  · have he := Lib.hid (Pl.takes_2 h2)
    go_enter Tryz.func86, Tryz.ntmps86
    go_wp2
    go_ret
    exact ⟨ret_int he.out.symm, rfl⟩
  · by_cases h1 : 12 ≤ s
    · have he := Lib.hid (Pl.takes_1 h1 (by omega))
      go_enter Tryz.func86, Tryz.ntmps86
      go_wp2
      go_ret
      exact ⟨ret_int he.out.symm, rfl⟩
    · have he := Lib.hid (Pl.takes_0 (s := s) (by omega))
      go_enter Tryz.func86, Tryz.ntmps86
      go_wp2
      go_ret
      exact ⟨ret_int he.out.symm, rfl⟩
set_option maxHeartbeats 400000 in
theorem spec_l9Takes (s : Int) (w : World) : Calls Tryz.prog 79 #[.int .i64 s] w fun e w' => e = .returned (.int .i64 (Pl.takes s)) ∧ w = w' := by
  by_cases h2 : 15 ≤ s
  · have he := Lib.hid (Pl.takes_2 h2)
    go_enter Tryz.func79, Tryz.ntmps79
    go_wp2
    go_ret
    exact ⟨ret_int he.out.symm, rfl⟩
  · by_cases h1 : 12 ≤ s
    · have he := Lib.hid (Pl.takes_1 h1 (by omega))
      go_enter Tryz.func79, Tryz.ntmps79
      go_wp2
      go_ret
      exact ⟨ret_int he.out.symm, rfl⟩
    · have he := Lib.hid (Pl.takes_0 (s := s) (by omega))
      go_enter Tryz.func79, Tryz.ntmps79
      go_wp2
      go_ret
      exact ⟨ret_int he.out.symm, rfl⟩
set_option maxHeartbeats 400000 in
theorem impl_within (x a b : Int) (w : World) : Calls Tryz.prog 85 #[.int .i64 x, .int .i64 a, .int .i64 b] w fun e w' => e = .returned (.bool (decide (a ≤ x ∧ x ≤ b))) ∧ w = w' := by
  by_cases h1 : a ≤ x
  · by_cases h2 : x ≤ b
    · have he := Lib.hid (show decide (a ≤ x ∧ x ≤ b) = true by simp [h1, h2])
      go_enter Tryz.func85, Tryz.ntmps85
      go_wp2
      go_ret
      exact ⟨ret_bool (by first | rfl | (simp; done) | (simp; omega)), rfl⟩
    · have he := Lib.hid (show decide (a ≤ x ∧ x ≤ b) = false by simp [h2])
      go_enter Tryz.func85, Tryz.ntmps85
      go_wp2
      go_ret
      exact ⟨ret_bool (by first | rfl | (simp; done) | (simp; omega)), rfl⟩
  · have he := Lib.hid (show decide (a ≤ x ∧ x ≤ b) = false by simp [h1])
    go_enter Tryz.func85, Tryz.ntmps85
    go_wp2
    go_ret
    exact ⟨ret_bool (by first | rfl | (simp; done) | (simp; omega)), rfl⟩
theorem impl_within_t (x a b : Int) (w : World) (h : a ≤ x ∧ x ≤ b) : Calls Tryz.prog 85 #[.int .i64 x, .int .i64 a, .int .i64 b] w fun e w' => e = .returned (.bool true) ∧ w = w' := by
  have hc := impl_within x a b w
  rwa [decide_eq_true h] at hc
theorem impl_within_f (x a b : Int) (w : World) (h : ¬ (a ≤ x ∧ x ≤ b)) : Calls Tryz.prog 85 #[.int .i64 x, .int .i64 a, .int .i64 b] w fun e w' => e = .returned (.bool false) ∧ w = w' := by
  have hc := impl_within x a b w
  rwa [decide_eq_false h] at hc
set_option maxHeartbeats 400000 in
theorem spec_l1In (x a b : Int) (w : World) : Calls Tryz.prog 66 #[.int .i64 x, .int .i64 a, .int .i64 b] w fun e w' => e = .returned (.bool (decide (a ≤ x ∧ x ≤ b))) ∧ w = w' := by
  by_cases h1 : a ≤ x
  · by_cases h2 : x ≤ b
    · have he := Lib.hid (show decide (a ≤ x ∧ x ≤ b) = true by simp [h1, h2])
      go_enter Tryz.func66, Tryz.ntmps66
      go_wp2
      go_ret
      exact ⟨ret_bool (by first | rfl | (simp; done) | (simp; omega)), rfl⟩
    · have he := Lib.hid (show decide (a ≤ x ∧ x ≤ b) = false by simp [h2])
      go_enter Tryz.func66, Tryz.ntmps66
      go_wp2
      go_ret
      exact ⟨ret_bool (by first | rfl | (simp; done) | (simp; omega)), rfl⟩
  · have he := Lib.hid (show decide (a ≤ x ∧ x ≤ b) = false by simp [h1])
    go_enter Tryz.func66, Tryz.ntmps66
    go_wp2
    go_ret
    exact ⟨ret_bool (by first | rfl | (simp; done) | (simp; omega)), rfl⟩
theorem spec_l1In_t (x a b : Int) (w : World) (h : a ≤ x ∧ x ≤ b) : Calls Tryz.prog 66 #[.int .i64 x, .int .i64 a, .int .i64 b] w fun e w' => e = .returned (.bool true) ∧ w = w' := by
  have hc := spec_l1In x a b w
  rwa [decide_eq_true h] at hc
theorem spec_l1In_f (x a b : Int) (w : World) (h : ¬ (a ≤ x ∧ x ≤ b)) : Calls Tryz.prog 66 #[.int .i64 x, .int .i64 a, .int .i64 b] w fun e w' => e = .returned (.bool false) ∧ w = w' := by
  have hc := spec_l1In x a b w
  rwa [decide_eq_false h] at hc
set_option maxHeartbeats 1000000 in
theorem laws_toIntS (A : Option Addr) (n c B : Nat) (xs : List Int) (w : World) (hx : Rd w B A n (I64 xs)) (hB : B ≤ w.heap.size) (hn : n ≤ 1000000000000) :
    Calls Tryz.prog 36 #[.slice A n c] w (OwnInts w.heap.size xs w) := by
  have lx : xs.length = n := by have := hx.len; rwa [I64_len] at this
  have hX := Lib.hid hx
  have hL := Lib.hid lx
  clear hx lx
  obtain ⟨i0, hi0, hz0, hz1, hz2⟩ := info_parts int_info
  obtain ⟨w1, hrun, hown, hg⟩ := run_make_full (P := Tryz.prog) w w.heap.size 22 3 i0 _ 1 Tryz.underlying22 hi0 hz0 hz1 .i64 .i64 n (by rw [hz2]; omega) (by unfold maxLen; omega) (Nat.le_refl _)
  clear hi0 hz0 hz1 hz2
  have hz := hg.size
  go_enter Tryz.func36, Tryz.ntmps36
  go_wp2
  go_loopw [4] (fun i wr => ∃ (j : Nat) (ys : List Value), j ≤ n ∧ i = .int .i64 j ∧ ys.length = n ∧ (∀ t, t < j → ys[t]? = (I64 xs)[t]?) ∧ wr.ownsRow w.heap.size 3 1 (.slice (some ⟨w.heap.size, 0, none⟩) n n) n ys ∧ Below w.heap.size w wr) (fun i _ => n - (intOf i).toNat)
  case atStart => exact ⟨0, _, by omega, rfl, by simpa using hown.1, fun t ht => absurd ht (by omega), hown, (Below.refl _ _).grown hg (Nat.le_refl _) (fun k hk => by cases hk)⟩
  case round =>
    obtain ⟨j, ys, hj, rfl, hyl, hys, hown1, hb⟩ := hrel
    have HY := Lib.hid hys
    have HYL := Lib.hid hyl
    clear hys hyl
    by_cases hlt : j < n
    · obtain ⟨b, off, rfl, hbl, hc⟩ := hX.out.pos (by omega)
      obtain ⟨x, ex⟩ : ∃ x, xs[j]? = some x := ⟨_, List.getElem?_eq_getElem (by have := hL.out; omega)⟩
      have c0 : w.cell? ⟨b, off + j, none⟩ = some (.int .i64 x) := hc j _ (I64_get ex)
      have c1 : wr.cell? ⟨b, off + j, none⟩ = some (.int .i64 x) := (hb.cell (p := ⟨b, off + j, none⟩) (show b < w.heap.size by omega)).trans c0
      have c2 : wr.cell? ⟨w.heap.size, j, none⟩ = some (ys[j]'(by have := HYL.out; omega)) := by rw [hown1.cellAt j (by omega)]; exact List.getElem?_eq_getElem _
      have f1 : wr.frozen? ⟨w.heap.size, j, none⟩ = false := hown1.frozenAt j
      have EX := Lib.hid ex
      have HC := Lib.hid hc
      have hin : (j : Int) < (n : Int) := by omega
      have hj0 : (0 : Int) ≤ j := by omega
      have hst := hown1.stored j (.int .i64 x)
      have HST := Lib.hid hst
      clear hst ex hc c0
      go_wp2
      go_roundw
      case rel =>
        refine ⟨j + 1, ys.set j (.int .i64 x), by omega, by go_num, by simp [HYL.out], fun t ht => ?_, HST.out.1, (hb.grown HST.out.2 hb.size (fun k hk => by simp [Value.ownBlock] at hk; omega))⟩
        rw [List.getElem?_set]
        split
        · rename_i e; subst e; rw [if_pos (by have := HYL.out; omega), I64_get EX.out]
        · exact HY.out t (by omega)
      case measure => simp [intOf]; omega
    · have hjn : j = n := by omega
      subst hjn
      have hfin : ys = I64 xs := by
        apply List.ext_getElem?
        intro i
        rcases Nat.lt_or_ge i j with hi | hi
        · exact HY.out i hi
        · rw [List.getElem?_eq_none (by have := HYL.out; omega), List.getElem?_eq_none (by rw [I64_len]; have := hL.out; omega)]
      have HF := Lib.hid hfin
      clear hfin
      go_wp2
      go_ret
      have h1 := hL.out
      subst h1
      exact ⟨_, _, rfl, by rw [← HF.out]; exact hown1, hb⟩
set_option maxHeartbeats 1000000 in
theorem impl_ExprValid (A : Option Addr) (n c B : Nat) (xs : List Int) (w : World) (hx : Rd w B A n (I64 xs)) (hn : n ≤ 1000000000000) :
    Calls Tryz.prog 57 #[.slice A n c] w fun e w' => e = .returned (.bool (Pl.exprValid xs)) ∧ w = w' := by
  have lx : xs.length = n := by have := hx.len; rwa [I64_len] at this
  by_cases hc : 1 ≤ n ∧ n ≤ 24
  · obtain ⟨n0, n1⟩ := hc
    obtain ⟨b, off, rfl, _, hc⟩ := hx.pos (by omega)
    have HC := Lib.hid hc
    have hL := Lib.hid lx
    have i1 : (1 : Int) ≤ (n : Int) := by omega
    have i2 : (n : Int) ≤ 24 := by omega
    clear hc lx hx
    go_enter Tryz.func57, Tryz.ntmps57
    go_wp2_with (first | (go_at_call 85; refine (impl_within_t _ _ _ _ (by omega)).mono ?_; rintro e w' ⟨rfl, rfl⟩))
    go_loop [3, 12] (fun v i => ∃ (j : Nat) (d : Int), j ≤ n ∧ i = .int .i64 j ∧ v = .int .i64 d ∧ 0 ≤ d ∧ d ≤ j ∧ Pl.scan (xs.take j) 0 = some d) (fun _ i => n - (intOf i).toNat)
    case atStart => exact ⟨0, 0, by omega, rfl, rfl, by omega, by omega, by simp [Pl.scan]⟩
    case round =>
      obtain ⟨j, d, hj, rfl, rfl, d0, d1, hs⟩ := hrel
      have HS := Lib.hid hs
      clear hs
      by_cases hlt : j < n
      · obtain ⟨s, es⟩ : ∃ s, xs[j]? = some s := ⟨_, List.getElem?_eq_getElem (by have := hL.out; omega)⟩
        have c1 : w.cell? ⟨b, off + j, none⟩ = some (.int .i64 s) := HC.out j _ (I64_get es)
        have ES := Lib.hid es
        have hin : (j : Int) < (n : Int) := by omega
        have hj0 : (0 : Int) ≤ j := by omega
        have tb := Pl.takes_bd s
        clear es
        by_cases s0 : 0 ≤ s
        · by_cases s1 : s ≤ 19
          · by_cases st : d < Pl.takes s
            · have hv := Lib.hid (Pl.valid_bad ES.out HS.out (by omega))
              go_wp2_with (first | (go_at_call 86; refine (impl_takes _ _).mono ?_; rintro e w' ⟨rfl, rfl⟩) | (go_at_call 85; refine (impl_within_t _ _ _ _ (by omega)).mono ?_; rintro e w' ⟨rfl, rfl⟩) | (go_at_call 85; refine (impl_within_f _ _ _ _ (by omega)).mono ?_; rintro e w' ⟨rfl, rfl⟩))
              go_ret
              exact ⟨ret_bool hv.out.symm, rfl⟩
            · have hv := Lib.hid (Pl.scan_snoc ES.out HS.out s0 s1 (by omega))
              go_wp2_with (first | (go_at_call 86; refine (impl_takes _ _).mono ?_; rintro e w' ⟨rfl, rfl⟩) | (go_at_call 85; refine (impl_within_t _ _ _ _ (by omega)).mono ?_; rintro e w' ⟨rfl, rfl⟩) | (go_at_call 85; refine (impl_within_f _ _ _ _ (by omega)).mono ?_; rintro e w' ⟨rfl, rfl⟩))
              go_round
              case rel => exact ⟨j + 1, d + 1 - Pl.takes s, by omega, by go_num, by go_num, by omega, by omega, hv.out⟩
              case measure => simp [intOf]; omega
          · have hv := Lib.hid (Pl.valid_bad ES.out HS.out (by omega))
            go_wp2_with (first | (go_at_call 86; refine (impl_takes _ _).mono ?_; rintro e w' ⟨rfl, rfl⟩) | (go_at_call 85; refine (impl_within_t _ _ _ _ (by omega)).mono ?_; rintro e w' ⟨rfl, rfl⟩) | (go_at_call 85; refine (impl_within_f _ _ _ _ (by omega)).mono ?_; rintro e w' ⟨rfl, rfl⟩))
            go_ret
            exact ⟨ret_bool hv.out.symm, rfl⟩
        · have hv := Lib.hid (Pl.valid_bad ES.out HS.out (by omega))
          go_wp2_with (first | (go_at_call 86; refine (impl_takes _ _).mono ?_; rintro e w' ⟨rfl, rfl⟩) | (go_at_call 85; refine (impl_within_t _ _ _ _ (by omega)).mono ?_; rintro e w' ⟨rfl, rfl⟩) | (go_at_call 85; refine (impl_within_f _ _ _ _ (by omega)).mono ?_; rintro e w' ⟨rfl, rfl⟩))
          go_ret
          exact ⟨ret_bool hv.out.symm, rfl⟩
      · obtain rfl : j = n := by omega
        have hv := Lib.hid (Pl.valid_end (e := xs) (by have := HS.out; rwa [← hL.out] at this) (by have := hL.out; omega) (by have := hL.out; omega))
        go_wp2
        go_ret
        exact ⟨ret_bool (by rw [hv.out]; rfl), rfl⟩
  · have hv := Lib.hid (Pl.valid_len (e := xs) (by omega))
    rcases Nat.eq_zero_or_pos n with h0 | h0
    · subst h0
      clear hc lx hx
      go_enter Tryz.func57, Tryz.ntmps57
      go_wp2_with (first | (go_at_call 85; refine (impl_within_f _ _ _ _ (by omega)).mono ?_; rintro e w' ⟨rfl, rfl⟩))
      go_ret
      exact ⟨ret_bool hv.out.symm, rfl⟩
    · have i1 : (24 : Int) < (n : Int) := by omega
      clear hc lx hx
      go_enter Tryz.func57, Tryz.ntmps57
      go_wp2_with (first | (go_at_call 85; refine (impl_within_f _ _ _ _ (by omega)).mono ?_; rintro e w' ⟨rfl, rfl⟩))
      go_ret
      exact ⟨ret_bool hv.out.symm, rfl⟩
set_option maxHeartbeats 1000000 in
theorem spec_ExprValid (A : Option Addr) (n c B : Nat) (xs : List Int) (w : World) (hx : Rd w B A n (I64 xs)) (hn : n ≤ 1000000000000) :
    Calls Tryz.prog 53 #[.slice A n c] w fun e w' => e = .returned (.bool (Pl.exprValid xs)) ∧ w = w' := by
  have lx : xs.length = n := by have := hx.len; rwa [I64_len] at this
  rcases Nat.eq_zero_or_pos n with h0 | h0
  · subst h0
    have hv := Lib.hid (Pl.valid_len (e := xs) (by omega))
    clear lx hx
    go_enter Tryz.func53, Tryz.ntmps53
    go_wp2
    refine wp_loop_rounds 1 ?_
    rw [rounds_succ]
    go_wp2_with (first | (go_at_call 66; refine (spec_l1In_t _ _ _ _ (by omega)).mono ?_; rintro e w' ⟨rfl, rfl⟩) | (go_at_call 66; refine (spec_l1In_f _ _ _ _ (by omega)).mono ?_; rintro e w' ⟨rfl, rfl⟩))
    go_ret
    exact ⟨ret_bool hv.out.symm, rfl⟩
  · obtain ⟨b, off, rfl, _, hc⟩ := hx.pos h0
    have HC := Lib.hid hc
    have hL := Lib.hid lx
    clear hc lx hx
    go_enter Tryz.func53, Tryz.ntmps53
    go_wp2
    go_loop [3, 4] (fun v i => ∃ (j : Nat) (d : Int), j ≤ n ∧ i = .int .i64 j ∧ v = .int .i64 d ∧ 0 ≤ d ∧ d ≤ j ∧ Pl.scan (xs.take j) 0 = some d) (fun _ i => n - (intOf i).toNat)
    case atStart => exact ⟨0, 0, by omega, rfl, rfl, by omega, by omega, by simp [Pl.scan]⟩
    case round =>
      obtain ⟨j, d, hj, rfl, rfl, d0, d1, hs⟩ := hrel
      have HS := Lib.hid hs
      clear hs
      by_cases hlt : j < n
      · obtain ⟨s, es⟩ : ∃ s, xs[j]? = some s := ⟨_, List.getElem?_eq_getElem (by have := hL.out; omega)⟩
        have c1 : w.cell? ⟨b, off + j, none⟩ = some (.int .i64 s) := HC.out j _ (I64_get es)
        have ES := Lib.hid es
        have hin : (j : Int) < (n : Int) := by omega
        have hj0 : (0 : Int) ≤ j := by omega
        have tb := Pl.takes_bd s
        clear es
        by_cases s0 : 0 ≤ s
        · by_cases s1 : s ≤ 19
          · by_cases st : d < Pl.takes s
            · have hv := Lib.hid (Pl.valid_bad ES.out HS.out (by omega))
              go_wp2_with (first | (go_at_call 79; refine (spec_l9Takes _ _).mono ?_; rintro e w' ⟨rfl, rfl⟩) | (go_at_call 66; refine (spec_l1In_t _ _ _ _ (by omega)).mono ?_; rintro e w' ⟨rfl, rfl⟩) | (go_at_call 66; refine (spec_l1In_f _ _ _ _ (by omega)).mono ?_; rintro e w' ⟨rfl, rfl⟩))
              go_ret
              exact ⟨ret_bool hv.out.symm, rfl⟩
            · have hv := Lib.hid (Pl.scan_snoc ES.out HS.out s0 s1 (by omega))
              go_wp2_with (first | (go_at_call 79; refine (spec_l9Takes _ _).mono ?_; rintro e w' ⟨rfl, rfl⟩) | (go_at_call 66; refine (spec_l1In_t _ _ _ _ (by omega)).mono ?_; rintro e w' ⟨rfl, rfl⟩) | (go_at_call 66; refine (spec_l1In_f _ _ _ _ (by omega)).mono ?_; rintro e w' ⟨rfl, rfl⟩))
              go_round
              case rel => exact ⟨j + 1, d + 1 - Pl.takes s, by omega, by go_num, by go_num, by omega, by omega, hv.out⟩
              case measure => simp [intOf]; omega
          · have hv := Lib.hid (Pl.valid_bad ES.out HS.out (by omega))
            go_wp2_with (first | (go_at_call 79; refine (spec_l9Takes _ _).mono ?_; rintro e w' ⟨rfl, rfl⟩) | (go_at_call 66; refine (spec_l1In_t _ _ _ _ (by omega)).mono ?_; rintro e w' ⟨rfl, rfl⟩) | (go_at_call 66; refine (spec_l1In_f _ _ _ _ (by omega)).mono ?_; rintro e w' ⟨rfl, rfl⟩))
            go_ret
            exact ⟨ret_bool hv.out.symm, rfl⟩
        · have hv := Lib.hid (Pl.valid_bad ES.out HS.out (by omega))
          go_wp2_with (first | (go_at_call 79; refine (spec_l9Takes _ _).mono ?_; rintro e w' ⟨rfl, rfl⟩) | (go_at_call 66; refine (spec_l1In_t _ _ _ _ (by omega)).mono ?_; rintro e w' ⟨rfl, rfl⟩) | (go_at_call 66; refine (spec_l1In_f _ _ _ _ (by omega)).mono ?_; rintro e w' ⟨rfl, rfl⟩))
          go_ret
          exact ⟨ret_bool hv.out.symm, rfl⟩
      · obtain rfl : j = n := by omega
        by_cases hn : j ≤ 24
        · have hv := Lib.hid (Pl.valid_end (e := xs) (by have := HS.out; rwa [← hL.out] at this) (by have := hL.out; omega) (by have := hL.out; omega))
          go_wp2_with (first | (go_at_call 66; refine (spec_l1In_t _ _ _ _ (by omega)).mono ?_; rintro e w' ⟨rfl, rfl⟩) | (go_at_call 66; refine (spec_l1In_f _ _ _ _ (by omega)).mono ?_; rintro e w' ⟨rfl, rfl⟩))
          go_ret
          exact ⟨ret_bool (by rw [hv.out]; rfl), rfl⟩
        · have hv := Lib.hid (Pl.valid_len (e := xs) (by have := hL.out; omega))
          go_wp2_with (first | (go_at_call 66; refine (spec_l1In_t _ _ _ _ (by omega)).mono ?_; rintro e w' ⟨rfl, rfl⟩) | (go_at_call 66; refine (spec_l1In_f _ _ _ _ (by omega)).mono ?_; rintro e w' ⟨rfl, rfl⟩))
          go_ret
          exact ⟨ret_bool hv.out.symm, rfl⟩
end Go.Proofs.YtamhpgledbmnoaaGreat
namespace Go.Proofs.YtamhpgledbmnoaaGreat
set_option linter.unusedVariables false
set_option linter.unusedSimpArgs false
open Go.RowKit

set_option maxHeartbeats 400000 in
theorem impl_WordLeft (k x : Int) (w : World) (hv : Pl.wvB k x = true) :
    Calls Tryz.prog 126 #[.int .i64 k, .int .i64 x, .int .i64 1] w fun e w' => e = .returned (.int .i64 (Pl.wmod k (2 * x))) ∧ Below w.heap.size w w' := by
  obtain ⟨h0, h1, h2, h3⟩ := Pl.wv_t hv
  have hp := Pl.pw_lt k h1
  have hp0 := Pl.pw_pos k
  go_enter Tryz.func126, Tryz.ntmps126
  go_wp2_with (first | (go_at_call 70; refine (impl_WordValid _ _ _).mono ?_; rintro e w' ⟨rfl, rfl⟩) | (go_at_call 103; refine (impl_cut _ _ _ (by omega) (by omega)).mono ?_; rintro e w' ⟨rfl, rfl⟩) | (go_at_call 85; refine (impl_within_t _ _ _ _ (by omega)).mono ?_; rintro e w' ⟨rfl, rfl⟩) | go_in)
  all_goals (go_ret; refine ⟨ret_int ?_, by go_grown⟩)
  all_goals (rw [Int.mul_comm])
set_option maxHeartbeats 400000 in
theorem impl_WordRight (k x : Int) (w : World) (hv : Pl.wvB k x = true) :
    Calls Tryz.prog 127 #[.int .i64 k, .int .i64 x, .int .i64 1] w fun e w' => e = .returned (.int .i64 (x / 2)) ∧ Below w.heap.size w w' := by
  obtain ⟨h0, h1, h2, h3⟩ := Pl.wv_t hv
  have hp := Pl.pw_lt k h1
  have hp0 := Pl.pw_pos k
  go_enter Tryz.func127, Tryz.ntmps127
  go_wp2_with (first | (go_at_call 70; refine (impl_WordValid _ _ _).mono ?_; rintro e w' ⟨rfl, rfl⟩) | (go_at_call 103; refine (impl_cut _ _ _ (by omega) (by omega)).mono ?_; rintro e w' ⟨rfl, rfl⟩) | (go_at_call 85; refine (impl_within_t _ _ _ _ (by omega)).mono ?_; rintro e w' ⟨rfl, rfl⟩) | go_in)
  all_goals (go_ret; refine ⟨ret_int ?_, by go_grown⟩)
  all_goals (exact Pl.wmod_small (by omega) (by omega))
theorem steps8 {s : Int} (h : 12 ≤ s) (h' : s ≤ 19) : s = 12 ∨ s = 13 ∨ s = 14 ∨ s = 15 ∨ s = 16 ∨ s = 17 ∨ s = 18 ∨ s = 19 := by omega
set_option maxHeartbeats 1000000 in
theorem impl_operate (k s a b : Int) (w : World) (hs0 : 12 ≤ s) (hs1 : s ≤ 19) (hv : Pl.v2 k a b = true) :
    Calls Tryz.prog 123 #[.int .i64 k, .int .i64 s, .int .i64 a, .int .i64 b] w fun e w' => e = .returned (.int .i64 (Pl.opv k s a b)) ∧ Below w.heap.size w w' := by
  obtain ⟨h0, h1, h2, h3, h4, h5⟩ := Pl.v2_t hv
  have ha := Pl.v2_l hv
  rcases steps8 hs0 hs1 with rfl | rfl | rfl | rfl | rfl | rfl | rfl | rfl
  · have he := Lib.hid (show Pl.opv k 12 a b = Pl.pw k - 1 - a by simp [Pl.opv])
    go_enter Tryz.func123, Tryz.ntmps123
    go_wp2_with fail
    refine (impl_WordNot k a _).mono ?_
    rintro e w' ⟨rfl, hb⟩
    go_wp2
    go_ret
    exact ⟨ret_int (by rw [he.out]; simp [Pl.wordNot, ha]), hb⟩
  · have he := Lib.hid (show Pl.opv k 13 a b = Pl.wmod k (2 * a) by simp [Pl.opv])
    go_enter Tryz.func123, Tryz.ntmps123
    go_wp2_with fail
    refine (impl_WordLeft k a _ ha).mono ?_
    rintro e w' ⟨rfl, hb⟩
    go_wp2
    go_ret
    exact ⟨ret_int (by rw [he.out]), hb⟩
  · have he := Lib.hid (show Pl.opv k 14 a b = a / 2 by simp [Pl.opv])
    go_enter Tryz.func123, Tryz.ntmps123
    go_wp2_with fail
    refine (impl_WordRight k a _ ha).mono ?_
    rintro e w' ⟨rfl, hb⟩
    go_wp2
    go_ret
    exact ⟨ret_int (by rw [he.out]), hb⟩
  · have he := Lib.hid (show Pl.opv k 15 a b = Pl.wmod k (a + b) by simp [Pl.opv])
    go_enter Tryz.func123, Tryz.ntmps123
    go_wp2_with fail
    refine (impl_WordAdd k a b _).mono ?_
    rintro e w' ⟨rfl, hb⟩
    go_wp2
    go_ret
    exact ⟨ret_int (by rw [he.out]; simp [Pl.wordAdd, hv]), hb⟩
  · have he := Lib.hid (show Pl.opv k 16 a b = Pl.wmod k (a - b) by simp [Pl.opv])
    go_enter Tryz.func123, Tryz.ntmps123
    go_wp2_with fail
    refine (impl_WordSub k a b _).mono ?_
    rintro e w' ⟨rfl, hb⟩
    go_wp2
    go_ret
    exact ⟨ret_int (by rw [he.out]; simp [Pl.wordSub, hv]), hb⟩
  · have he := Lib.hid (show Pl.opv k 17 a b = Pl.land a b by simp [Pl.opv])
    go_enter Tryz.func123, Tryz.ntmps123
    go_wp2_with fail
    refine (impl_WordAnd k a b _).mono ?_
    rintro e w' ⟨rfl, hb⟩
    go_wp2
    go_ret
    exact ⟨ret_int (by rw [he.out]; simp [Pl.wordAnd, hv]), hb⟩
  · have he := Lib.hid (show Pl.opv k 18 a b = Pl.lor a b by simp [Pl.opv])
    go_enter Tryz.func123, Tryz.ntmps123
    go_wp2_with fail
    refine (impl_WordOr k a b _).mono ?_
    rintro e w' ⟨rfl, hb⟩
    go_wp2
    go_ret
    exact ⟨ret_int (by rw [he.out]; simp [Pl.wordOr, hv]), hb⟩
  · have he := Lib.hid (show Pl.opv k 19 a b = Pl.lxor a b by simp [Pl.opv])
    go_enter Tryz.func123, Tryz.ntmps123
    go_wp2_with fail
    refine (impl_WordXor k a b _).mono ?_
    rintro e w' ⟨rfl, hb⟩
    go_wp2
    go_ret
    exact ⟨ret_int (by rw [he.out]; simp [Pl.wordXor, hv]), hb⟩
set_option maxHeartbeats 1000000 in
theorem impl_leaf (k s x y : Int) (w : World) (h0 : 0 ≤ k) (h1 : k ≤ 62) :
    Calls Tryz.prog 122 #[.int .i64 k, .int .i64 s, .int .i64 x, .int .i64 y] w fun e w' => e = .returned (.int .i64 (Pl.leafv k s x y)) ∧ w = w' := by
  by_cases hx : s = 10
  · subst hx
    go_enter Tryz.func122, Tryz.ntmps122
    go_wp2
    go_ret
    exact ⟨ret_int (by simp [Pl.leafv]), rfl⟩
  · by_cases hy : s = 11
    · subst hy
      go_enter Tryz.func122, Tryz.ntmps122
      go_wp2
      go_ret
      exact ⟨ret_int (by simp [Pl.leafv]), rfl⟩
    · have he := Lib.hid (show Pl.leafv k s x y = Pl.wmod k s by simp [Pl.leafv, hx, hy])
      have n1 : (s == 10) = false := by simpa using hx
      have n2 : (s == 11) = false := by simpa using hy
      clear hx hy
      go_enter Tryz.func122, Tryz.ntmps122
      go_wp2_with (first | (go_at_call 103; refine (impl_cut _ _ _ (by omega) (by omega)).mono ?_; rintro e w' ⟨rfl, rfl⟩))
      go_ret
      exact ⟨ret_int he.out.symm, rfl⟩
set_option maxHeartbeats 1000000 in
theorem spec_l9Leaf (k s x y : Int) (w : World) (h0 : 0 ≤ k) (h1 : k ≤ 61) (hs0 : -9223372036854775808 ≤ s) (hs1 : s ≤ 9223372036854775807) :
    Calls Tryz.prog 90 #[.int .i64 k, .int .i64 s, .int .i64 x, .int .i64 y] w fun e w' => e = .returned (.int .i64 (Pl.leafv k s x y)) ∧ w = w' := by
  by_cases hx : s = 10
  · subst hx
    go_enter Tryz.func90, Tryz.ntmps90
    go_wp2
    go_ret
    exact ⟨ret_int (by simp [Pl.leafv]), rfl⟩
  · by_cases hy : s = 11
    · subst hy
      go_enter Tryz.func90, Tryz.ntmps90
      go_wp2
      go_ret
      exact ⟨ret_int (by simp [Pl.leafv]), rfl⟩
    · have he := Lib.hid (show Pl.leafv k s x y = Pl.wmod k s by simp [Pl.leafv, hx, hy])
      have n1 : (s == 10) = false := by simpa using hx
      have n2 : (s == 11) = false := by simpa using hy
      clear hx hy
      go_enter Tryz.func90, Tryz.ntmps90
      go_wp2_with (first | (go_at_call 105; refine (spec_l1Mod _ _ _ (by omega) (by omega) (by omega) (by omega)).mono ?_; rintro e w' ⟨rfl, rfl⟩))
      go_ret
      exact ⟨ret_int he.out.symm, rfl⟩
set_option maxHeartbeats 1000000 in
theorem spec_l9Do (k s a b : Int) (w : World) (hs0 : 12 ≤ s) (hs1 : s ≤ 19) (hv : Pl.v2 k a b = true) :
    Calls Tryz.prog 91 #[.int .i64 k, .int .i64 s, .int .i64 a, .int .i64 b] w fun e w' => e = .returned (.int .i64 (Pl.opv k s a b)) ∧ w = w' := by
  obtain ⟨h0, h1, h2, h3, h4, h5⟩ := Pl.v2_t hv
  have hp := Pl.pw_lt k h1
  have hp0 := Pl.pw_pos k
  have hw := Pl.wrap_pw k (by omega) (by omega)
  rcases steps8 hs0 hs1 with rfl | rfl | rfl | rfl | rfl | rfl | rfl | rfl
  · have he := Lib.hid (show Pl.opv k 12 a b = Pl.pw k - 1 - a by simp [Pl.opv])
    go_enter Tryz.func91, Tryz.ntmps91
    go_wp2_with (first | (go_at_call 105; refine (spec_l1Mod _ _ _ (by omega) (by omega) (by omega) (by omega)).mono ?_; rintro e w' ⟨rfl, rfl⟩) | (go_at_call 106; refine (spec_l1And _ _ _ (by omega) (by omega) (by omega) (by omega)).mono ?_; rintro e w' ⟨rfl, rfl⟩) | (go_at_call 107; refine (spec_l1Or _ _ _ (by omega) (by omega) (by omega) (by omega)).mono ?_; rintro e w' ⟨rfl, rfl⟩) | (go_at_call 108; refine (spec_l1Xor _ _ _ (by omega) (by omega) (by omega) (by omega)).mono ?_; rintro e w' ⟨rfl, rfl⟩))
    go_ret
    exact ⟨ret_int (by rw [he.out]), rfl⟩
  · have he := Lib.hid (show Pl.opv k 13 a b = Pl.wmod k (2 * a) by simp [Pl.opv])
    go_enter Tryz.func91, Tryz.ntmps91
    go_wp2_with (first | (go_at_call 105; refine (spec_l1Mod _ _ _ (by omega) (by omega) (by omega) (by omega)).mono ?_; rintro e w' ⟨rfl, rfl⟩) | (go_at_call 106; refine (spec_l1And _ _ _ (by omega) (by omega) (by omega) (by omega)).mono ?_; rintro e w' ⟨rfl, rfl⟩) | (go_at_call 107; refine (spec_l1Or _ _ _ (by omega) (by omega) (by omega) (by omega)).mono ?_; rintro e w' ⟨rfl, rfl⟩) | (go_at_call 108; refine (spec_l1Xor _ _ _ (by omega) (by omega) (by omega) (by omega)).mono ?_; rintro e w' ⟨rfl, rfl⟩))
    go_ret
    exact ⟨ret_int (by rw [he.out]), rfl⟩
  · have he := Lib.hid (show Pl.opv k 14 a b = a / 2 by simp [Pl.opv])
    go_enter Tryz.func91, Tryz.ntmps91
    go_wp2_with (first | (go_at_call 105; refine (spec_l1Mod _ _ _ (by omega) (by omega) (by omega) (by omega)).mono ?_; rintro e w' ⟨rfl, rfl⟩) | (go_at_call 106; refine (spec_l1And _ _ _ (by omega) (by omega) (by omega) (by omega)).mono ?_; rintro e w' ⟨rfl, rfl⟩) | (go_at_call 107; refine (spec_l1Or _ _ _ (by omega) (by omega) (by omega) (by omega)).mono ?_; rintro e w' ⟨rfl, rfl⟩) | (go_at_call 108; refine (spec_l1Xor _ _ _ (by omega) (by omega) (by omega) (by omega)).mono ?_; rintro e w' ⟨rfl, rfl⟩))
    go_ret
    exact ⟨ret_int (by rw [he.out]), rfl⟩
  · have he := Lib.hid (show Pl.opv k 15 a b = Pl.wmod k (a + b) by simp [Pl.opv])
    go_enter Tryz.func91, Tryz.ntmps91
    go_wp2_with (first | (go_at_call 105; refine (spec_l1Mod _ _ _ (by omega) (by omega) (by omega) (by omega)).mono ?_; rintro e w' ⟨rfl, rfl⟩) | (go_at_call 106; refine (spec_l1And _ _ _ (by omega) (by omega) (by omega) (by omega)).mono ?_; rintro e w' ⟨rfl, rfl⟩) | (go_at_call 107; refine (spec_l1Or _ _ _ (by omega) (by omega) (by omega) (by omega)).mono ?_; rintro e w' ⟨rfl, rfl⟩) | (go_at_call 108; refine (spec_l1Xor _ _ _ (by omega) (by omega) (by omega) (by omega)).mono ?_; rintro e w' ⟨rfl, rfl⟩))
    go_ret
    exact ⟨ret_int (by rw [he.out]), rfl⟩
  · have he := Lib.hid (show Pl.opv k 16 a b = Pl.wmod k (a - b) by simp [Pl.opv])
    go_enter Tryz.func91, Tryz.ntmps91
    go_wp2_with (first | (go_at_call 105; refine (spec_l1Mod _ _ _ (by omega) (by omega) (by omega) (by omega)).mono ?_; rintro e w' ⟨rfl, rfl⟩) | (go_at_call 106; refine (spec_l1And _ _ _ (by omega) (by omega) (by omega) (by omega)).mono ?_; rintro e w' ⟨rfl, rfl⟩) | (go_at_call 107; refine (spec_l1Or _ _ _ (by omega) (by omega) (by omega) (by omega)).mono ?_; rintro e w' ⟨rfl, rfl⟩) | (go_at_call 108; refine (spec_l1Xor _ _ _ (by omega) (by omega) (by omega) (by omega)).mono ?_; rintro e w' ⟨rfl, rfl⟩))
    go_ret
    exact ⟨ret_int (by rw [he.out]), rfl⟩
  · have he := Lib.hid (show Pl.opv k 17 a b = Pl.land a b by simp [Pl.opv])
    go_enter Tryz.func91, Tryz.ntmps91
    go_wp2_with (first | (go_at_call 105; refine (spec_l1Mod _ _ _ (by omega) (by omega) (by omega) (by omega)).mono ?_; rintro e w' ⟨rfl, rfl⟩) | (go_at_call 106; refine (spec_l1And _ _ _ (by omega) (by omega) (by omega) (by omega)).mono ?_; rintro e w' ⟨rfl, rfl⟩) | (go_at_call 107; refine (spec_l1Or _ _ _ (by omega) (by omega) (by omega) (by omega)).mono ?_; rintro e w' ⟨rfl, rfl⟩) | (go_at_call 108; refine (spec_l1Xor _ _ _ (by omega) (by omega) (by omega) (by omega)).mono ?_; rintro e w' ⟨rfl, rfl⟩))
    go_ret
    exact ⟨ret_int (by rw [he.out]), rfl⟩
  · have he := Lib.hid (show Pl.opv k 18 a b = Pl.lor a b by simp [Pl.opv])
    go_enter Tryz.func91, Tryz.ntmps91
    go_wp2_with (first | (go_at_call 105; refine (spec_l1Mod _ _ _ (by omega) (by omega) (by omega) (by omega)).mono ?_; rintro e w' ⟨rfl, rfl⟩) | (go_at_call 106; refine (spec_l1And _ _ _ (by omega) (by omega) (by omega) (by omega)).mono ?_; rintro e w' ⟨rfl, rfl⟩) | (go_at_call 107; refine (spec_l1Or _ _ _ (by omega) (by omega) (by omega) (by omega)).mono ?_; rintro e w' ⟨rfl, rfl⟩) | (go_at_call 108; refine (spec_l1Xor _ _ _ (by omega) (by omega) (by omega) (by omega)).mono ?_; rintro e w' ⟨rfl, rfl⟩))
    go_ret
    exact ⟨ret_int (by rw [he.out]), rfl⟩
  · have he := Lib.hid (show Pl.opv k 19 a b = Pl.lxor a b by simp [Pl.opv])
    go_enter Tryz.func91, Tryz.ntmps91
    go_wp2_with (first | (go_at_call 105; refine (spec_l1Mod _ _ _ (by omega) (by omega) (by omega) (by omega)).mono ?_; rintro e w' ⟨rfl, rfl⟩) | (go_at_call 106; refine (spec_l1And _ _ _ (by omega) (by omega) (by omega) (by omega)).mono ?_; rintro e w' ⟨rfl, rfl⟩) | (go_at_call 107; refine (spec_l1Or _ _ _ (by omega) (by omega) (by omega) (by omega)).mono ?_; rintro e w' ⟨rfl, rfl⟩) | (go_at_call 108; refine (spec_l1Xor _ _ _ (by omega) (by omega) (by omega) (by omega)).mono ?_; rintro e w' ⟨rfl, rfl⟩))
    go_ret
    exact ⟨ret_int (by rw [he.out]), rfl⟩
end Go.Proofs.YtamhpgledbmnoaaGreat
namespace Go.Proofs.YtamhpgledbmnoaaGreat
set_option linter.unusedVariables false
set_option linter.unusedSimpArgs false
open Go.RowKit

theorem own_below {w w' : World} {base size n : Nat} {e : TypeId} {v : Value} {xs : List Value} (h : w.ownsRow base e size v n xs) (hb : Below w.heap.size w w') : w'.ownsRow base e size v n xs := by
  have hl := h.lt
  obtain ⟨h1, h2⟩ := h
  refine ⟨h1, ?_⟩
  rcases h2 with h2 | ⟨g, cap, cur, rfl, a, b, d⟩
  · exact .inl h2
  · exact .inr ⟨g, cap, cur, rfl, a, (hb.block g (hl g rfl).2).trans b, d⟩
theorem own_cut {w : World} {base g n cap m : Nat} {e : TypeId} {xs : List Value} (h : w.ownsRow base e 1 (.slice (some ⟨g, 0, none⟩) n cap) n xs) (hm : m ≤ n) :
    w.ownsRow base e 1 (.slice (some ⟨g, 0, none⟩) m cap) m (xs.take m) := by
  obtain ⟨h1, h2⟩ := h
  refine ⟨by rw [List.length_take, h1]; omega, ?_⟩
  rcases h2 with ⟨h0, _⟩ | ⟨g', cap', cur, hv, hg, hh, hn, hcap, hsz, htake⟩
  · cases h0
  · cases hv
    refine .inr ⟨g, cap, cur, rfl, hg, hh, by omega, hcap, hsz, ?_⟩
    rw [← htake, List.take_take, Nat.mul_one, Nat.mul_one, Nat.min_eq_left hm]
/-- What is known of the row of a stack that is not empty. -/
theorem own_some {w : World} {base n : Nat} {e : TypeId} {A : Option Addr} {c : Nat} {xs : List Value} (h : w.ownsRow base e 1 (.slice A n c) n xs) (hn : 0 < n) :
    ∃ g, A = some ⟨g, 0, none⟩ ∧ base ≤ g ∧ g < w.heap.size := by
  obtain ⟨g, c', e, hg, hl⟩ := own_lt h hn
  injection e with e1 e2 e3
  exact ⟨g, e1, hg, hl⟩
theorem set_last {α : Type} {xs : List α} {m : Nat} (h : xs.length = m + 1) (v : α) : xs.set m v = xs.take m ++ [v] := by
  apply List.ext_getElem?
  intro i
  rw [List.getElem?_set, List.getElem?_append, List.length_take, Nat.min_eq_left (by omega)]
  rcases Nat.lt_trichotomy i m with hi | rfl | hi
  · rw [if_neg (by omega), if_pos hi, List.getElem?_take_of_lt hi]
  · rw [if_pos rfl, if_pos (by omega), if_neg (by omega)]; simp
  · rw [if_neg (by omega), if_neg (by omega), List.getElem?_eq_none (by omega), List.getElem?_eq_none (by simp; omega)]
theorem I64_append (xs ys : List Int) : I64 (xs ++ ys) = I64 xs ++ I64 ys := by simp [I64]
theorem I64_take (xs : List Int) (n : Nat) : (I64 xs).take n = I64 (xs.take n) := by simp [I64, List.map_take]
theorem I64_getD {xs : List Int} {j : Nat} (h : j < xs.length) : (I64 xs)[j]? = some (.int .i64 (xs.getD j 0)) := by
  simp [I64, List.getD_eq_getElem?_getD, List.getElem?_eq_getElem h]
theorem push_0 {k x y s : Int} {st : List Int} (h : s < 12) : Pl.pushS k x y st s = st ++ [Pl.leafv k s x y] := by
  unfold Pl.pushS; rw [if_pos (Pl.takes_0 h)]
theorem push_1 {k x y s : Int} {st : List Int} {m : Nat} (h : 12 ≤ s) (h' : s < 15) (hm : st.length = m + 1) : Pl.pushS k x y st s = st.take m ++ [Pl.opv k s (st.getD m 0) 0] := by
  unfold Pl.pushS; rw [Pl.takes_1 h h', hm]; rfl
theorem push_2 {k x y s : Int} {st : List Int} {m : Nat} (h : 15 ≤ s) (hm : st.length = m + 2) : Pl.pushS k x y st s = st.take m ++ [Pl.opv k s (st.getD m 0) (st.getD (m + 1) 0)] := by
  unfold Pl.pushS; rw [Pl.takes_2 h, hm]; rfl

set_option maxRecDepth 100000 in
set_option maxHeartbeats 4000000 in
theorem impl_value (k x y : Int) (A : Option Addr) (n c B : Nat) (xs : List Int) (w : World) (hx : Rd w B A n (I64 xs)) (hB : B ≤ w.heap.size) (he : Pl.exprValid xs = true) (hv : Pl.v2 k x y = true) :
    Calls Tryz.prog 117 #[.int .i64 k, .slice A n c, .int .i64 x, .int .i64 y] w fun e w' => e = .returned (.int .i64 (Pl.value k xs x y)) ∧ Below w.heap.size w w' := by
  obtain ⟨h0, h1, x0, x1, y0, y1⟩ := Pl.v2_t hv
  obtain ⟨e0, e1, e2⟩ := Pl.valid_t he
  have lx : xs.length = n := by have := hx.len; rwa [I64_len] at this
  obtain ⟨b, off, rfl, hbl, hc⟩ := hx.pos (by omega)
  have hp := Pl.pw_lt k h1
  have hp0 := Pl.pw_pos k
  have HEND := Lib.hid (Pl.eval_end x0 x1 y0 y1 he)
  have HC := Lib.hid hc
  have hL := Lib.hid lx
  have HAT := Lib.hid (Pl.eval_at x0 x1 y0 y1 e2)
  have HSC := Lib.hid e2
  have HV := Lib.hid hv
  rw [lx] at e0 e1
  clear hc hx he hv e2 lx
  go_enter Tryz.func117, Tryz.ntmps117
  go_wp2
  go_loopw [9, 15] (fun v i wr => ∃ (j d : Nat) (st : List Int) (A' : Option Addr) (c' : Nat), j ≤ n ∧ i = .int .i64 j ∧ Hid (st = Pl.evalS k x y (xs.take j)) ∧ st.length = d ∧ v = .slice A' d c' ∧ wr.ownsRow w.heap.size 3 1 (.slice A' d c') d (I64 st) ∧ Below w.heap.size w wr) (fun _ i _ => n - (intOf i).toNat)
  case atStart => exact ⟨0, 0, [], none, 0, by omega, rfl, by simp [Hid, Pl.evalS], rfl, rfl, World.ownsRow_nil _ _ _ _, Below.refl _ _⟩
  case round =>
    obtain ⟨j, d, st, A', c', hj, rfl, hst, hd, rfl, hown, hb⟩ := hrel
    have HD := Lib.hid hd
    by_cases hlt : j < n
    · obtain ⟨s, es⟩ : ∃ s, xs[j]? = some s := ⟨_, List.getElem?_eq_getElem (by have := hL.out; omega)⟩
      have c1 : wr.cell? ⟨b, off + j, none⟩ = some (.int .i64 s) := (hb.cell (p := ⟨b, off + j, none⟩) (show b < w.heap.size by omega)).trans (HC.out j _ (I64_get es))
      obtain ⟨hw, hsc⟩ := HAT.out j (by have := hL.out; omega)
      have hnext := Pl.evalS_snoc (k := k) (x := x) (y := y) es
      rw [← hst.out] at hw hsc hnext
      rw [hd] at hsc
      obtain ⟨⟨s0, s1⟩, ht⟩ := Pl.scan_at HSC.out es hsc
      have hdj : d ≤ j := by
        obtain ⟨d', q1, q2, q3⟩ := Pl.scan_get HSC.out j (by have := hL.out; omega)
        rw [hsc] at q1
        injection q1 with q1
        omega
      have hin : (j : Int) < (n : Int) := by omega
      have hj0 : (0 : Int) ≤ j := by omega
      have hz := hb.size
      have HW := Lib.hid hw
      have HN := Lib.hid hnext
      clear hw hsc hnext es hd
      by_cases t0 : s < 12
      · have ht0 := Pl.takes_0 t0
        have hpu := Lib.hid (push_0 (k := k) (x := x) (y := y) (st := st) t0)
        clear ht
        go_wp2_with (first | (first | (go_at_call 86; refine (impl_takes _ _).mono ?_; rintro e w' ⟨rfl, rfl⟩) | (go_at_call 122; refine (impl_leaf _ _ _ _ _ (by omega) (by omega)).mono ?_; rintro e w' ⟨rfl, rfl⟩)) | (at_builtin; refine app_int rfl _ _ rfl w.heap.size (.slice A' d c') d _ _ rfl hown rfl rfl (by omega) hz ?_; intro v' w1 hown' hbl))
        obtain ⟨A2, c2, rfl, _⟩ := Rd.of_own hown'
        exact ⟨⟨j + 1, d + 1, st ++ [Pl.leafv k s x y], A2, c2, by omega, by go_num, Lib.hid (by rw [HN.out, hpu.out]), by rw [List.length_append, HD.out]; rfl, rfl, by rw [I64_append]; exact hown', hb.trans hbl⟩, by simp [intOf]; omega⟩
      · by_cases t1 : s < 15
        · have ht1 := Pl.takes_1 (by omega) t1
          rw [ht1] at ht
          obtain ⟨m, rfl⟩ : ∃ m, d = m + 1 := ⟨d - 1, by omega⟩
          have hpu := Lib.hid (push_1 (k := k) (x := x) (y := y) (st := st) (by omega) t1 HD.out)
          obtain ⟨g, rfl, hg0, hg1⟩ := own_some hown (by omega)
          have v1 := Pl.words_get HW.out m
          have hv1 := Lib.hid (Pl.v2_mk (Pl.wv_mk h0 h1 v1.1 v1.2) (Pl.wv_mk h0 h1 (Int.le_refl 0) (by omega)))
          have hg := Lib.hid (I64_getD (xs := st) (j := m) (by have := HD.out; omega))
          generalize st.getD m 0 = a at *
          have d2 : wr.cell? ⟨g, m, none⟩ = some (.int .i64 a) := by rw [hown.cellAt m (by omega)]; exact hg.out
          clear ht v1
          have hm0 : (0 : Int) ≤ (m : Int) := by omega
          go_wp2_with (first | (go_at_call 86; refine (impl_takes _ _).mono ?_; rintro e w' ⟨rfl, rfl⟩))
          refine (impl_operate k s _ 0 _ (by omega) (by omega) hv1.out).mono ?_
          rintro e w1 ⟨rfl, hb1⟩
          have own1 := own_below hown hb1
          have d3 : w1.cell? ⟨g, m, none⟩ = some (.int .i64 a) := by rw [own1.cellAt m (by omega)]; exact hg.out
          have f3 : w1.frozen? ⟨g, m, none⟩ = false := own1.frozenAt m
          have hst1 := own1.stored m (.int .i64 (Pl.opv k s a 0))
          have HST := Lib.hid hst1
          have hb2 := hb1.size
          clear hst1
          go_wp2_with fail
          exact ⟨⟨j + 1, m + 1, st.take m ++ [Pl.opv k s a 0], some ⟨g, 0, none⟩, c', by omega, by go_num, Lib.hid (by rw [HN.out, hpu.out]), by rw [List.length_append, List.length_take, HD.out]; simp, rfl,
            by have h := HST.out.1; rw [set_last (by rw [I64_len]; exact HD.out), I64_take] at h; rw [I64_append]; exact h, (hb.trans (hb1.mono hz)).grown HST.out.2 (by omega) (fun q hq => by simp [Value.ownBlock] at hq; omega)⟩, by simp [intOf]; omega⟩
        · have ht2 := Pl.takes_2 (s := s) (by omega)
          rw [ht2] at ht
          obtain ⟨m, rfl⟩ : ∃ m, d = m + 2 := ⟨d - 2, by omega⟩
          have hpu := Lib.hid (push_2 (k := k) (x := x) (y := y) (s := s) (st := st) (by omega) HD.out)
          obtain ⟨g, rfl, hg0, hg1⟩ := own_some hown (by omega)
          have v1 := Pl.words_get HW.out m
          have v2 := Pl.words_get HW.out (m + 1)
          have hv1 := Lib.hid (Pl.v2_mk (Pl.wv_mk h0 h1 v1.1 v1.2) (Pl.wv_mk h0 h1 v2.1 v2.2))
          have hg := Lib.hid (I64_getD (xs := st) (j := m) (by have := HD.out; omega))
          have hg' := Lib.hid (I64_getD (xs := st) (j := m + 1) (by have := HD.out; omega))
          generalize st.getD m 0 = a at *
          generalize st.getD (m + 1) 0 = a' at *
          have d2 : wr.cell? ⟨g, m, none⟩ = some (.int .i64 a) := by rw [hown.cellAt m (by omega)]; exact hg.out
          have d3 : wr.cell? ⟨g, m + 1, none⟩ = some (.int .i64 a') := by rw [hown.cellAt (m + 1) (by omega)]; exact hg'.out
          have hcut := own_cut hown (m := m) (by omega)
          have hcap : (m : Int) ≤ (c' : Int) := by obtain ⟨_, _, e, hle, _⟩ := Rd.of_own hown; injection e with _ _ e3; omega
          clear ht v1 v2
          have hm0 : (0 : Int) ≤ (m : Int) := by omega
          have k1 : IntKind.i64.wrap (m : Int) = m := IntWalk.i64_in _ (by omega)
          have k2 : IntKind.i64.wrap ((m : Int) + 2 - 1) = (m : Int) + 1 := by rw [IntWalk.i64_in _ (by omega)]; omega
          have k6 : ((m : Int) + 1).toNat = m + 1 := by omega
          have k3 : (m : Int) < (m : Int) + 2 := by omega
          have k4 : (m : Int) + 1 < (m : Int) + 2 := by omega
          have k5 : (0 : Int) ≤ (m : Int) + 1 := by omega
          go_wp2_with (first | (go_at_call 86; refine (impl_takes _ _).mono ?_; rintro e w' ⟨rfl, rfl⟩))
          go_region_law (first
            | (refine step_int rfl (.tmp 52) (.tmp 66) rfl w.heap.size (.slice (some ⟨g, 0, none⟩) m c') m _ (.int .i64 (Pl.opv k s a a')) ⟨w1.heap.size, 0, none⟩ (by simp [Act.eval, Act.put]) (by simp [Act.eval, Act.put]) ((own_below (w := wr.drew) hcut hb1).alloc _) (by go_simp) rfl (by omega) (by have h1 := hb1.size; go_simp; simp at h1; omega) ?_; intro v' w2 hown' hbl)
            | (go_simp; go_at_call 123; refine (impl_operate k s a a' _ (by omega) (by omega) hv1.out).mono ?_; rintro e w1 ⟨rfl, hb1⟩; dsimp only))
          all_goals go_wp2
          all_goals (
            obtain ⟨A2, c2, rfl, _⟩ := Rd.of_own hown'
            have hz1 : wr.heap.size ≤ w1.heap.size := hb1.size
            have hbw : Below w.heap.size wr w1 := (⟨hb1.os, hb1.tape, hb1.output, hb1.size, hb1.block⟩ : Below wr.heap.size wr w1).mono hz
            exact ⟨⟨j + 1, m + 1, st.take m ++ [Pl.opv k s a a'], A2, c2, by omega, by go_num, Lib.hid (by rw [HN.out, hpu.out]), by rw [List.length_append, List.length_take, HD.out]; simp, rfl,
              by rw [I64_append, ← I64_take]; exact hown', ((hb.trans hbw).alloc (by omega) _).trans hbl⟩, by simp [intOf]; omega⟩)
    · obtain rfl : j = n := by omega
      have hv := HEND.out.1
      have hst' := hst.out
      rw [show xs.take j = xs by rw [← hL.out, List.take_length]] at hst'
      rw [hv] at hst'
      subst hst'
      have hd1 : d = 1 := by rw [← hd]; rfl
      subst hd1
      obtain ⟨g, rfl, hg0, hg1⟩ := own_some hown (by omega)
      have d2 : wr.cell? ⟨g, 0, none⟩ = some (.int .i64 (Pl.value k xs x y)) := by rw [hown.cellAt 0 (by omega)]; rfl
      go_wp2_with fail
      go_ret
      exact ⟨ret_int rfl, hb⟩
theorem set_take {α : Type} {xs : List α} {m : Nat} (h : m < xs.length) (v : α) : (xs.set m v).take (m + 1) = xs.take m ++ [v] := by
  apply List.ext_getElem?
  intro i
  rw [List.getElem?_take, List.getElem?_set, List.getElem?_append, List.length_take, Nat.min_eq_left (by omega)]
  rcases Nat.lt_trichotomy i m with hi | rfl | hi
  · rw [if_pos (by omega), if_neg (by omega), if_pos hi, List.getElem?_take_of_lt hi]
  · rw [if_pos (by omega), if_pos rfl, if_pos h, if_neg (by omega)]; simp
  · rw [if_neg (by omega), if_neg (by omega), List.getElem?_eq_none (by simp; omega)]
set_option maxRecDepth 100000 in
set_option maxHeartbeats 4000000 in
theorem spec_l9Value (k x y : Int) (A : Option Addr) (n c B : Nat) (xs : List Int) (w : World) (hx : Rd w B A n (I64 xs)) (hB : B ≤ w.heap.size) (he : Pl.exprValid xs = true) (hv : Pl.v2 k x y = true) :
    Calls Tryz.prog 65 #[.int .i64 k, .slice A n c, .int .i64 x, .int .i64 y] w fun e w' => e = .returned (.int .i64 (Pl.value k xs x y)) ∧ Below w.heap.size w w' := by
  obtain ⟨h0, h1, x0, x1, y0, y1⟩ := Pl.v2_t hv
  obtain ⟨e0, e1, e2⟩ := Pl.valid_t he
  have lx : xs.length = n := by have := hx.len; rwa [I64_len] at this
  obtain ⟨b, off, rfl, hbl, hc⟩ := hx.pos (by omega)
  have hp := Pl.pw_lt k h1
  have hp0 := Pl.pw_pos k
  have HEND := Lib.hid (Pl.eval_end x0 x1 y0 y1 he)
  have HC := Lib.hid hc
  have hL := Lib.hid lx
  have HAT := Lib.hid (Pl.eval_at x0 x1 y0 y1 e2)
  have HSC := Lib.hid e2
  have HV := Lib.hid hv
  rw [lx] at e0 e1
  clear hc hx he hv e2 lx
  go_enter Tryz.func65, Tryz.ntmps65
  go_wp2
  go_loopw [9, 10] (fun v i wr => ∃ (j d : Nat) (st : List Int) (A' : Option Addr) (c' : Nat), j ≤ n ∧ i = .int .i64 j ∧ Hid (st = Pl.evalS k x y (xs.take j)) ∧ st.length = d ∧ v = .slice A' d c' ∧ wr.ownsRow w.heap.size 3 1 (.slice A' d c') d (I64 st) ∧ Below w.heap.size w wr) (fun _ i _ => n - (intOf i).toNat)
  case atStart => exact ⟨0, 0, [], _, 0, by omega, rfl, by simp [Hid, Pl.evalS], rfl, rfl, World.ownsRow_made _ _ 0 (Nat.le_refl _) (by simp [maxLen]) rfl, (Below.refl _ _).alloc (Nat.le_refl _) _⟩
  case round =>
    obtain ⟨j, d, st, A', c', hj, rfl, hst, hd, rfl, hown, hb⟩ := hrel
    have HD := Lib.hid hd
    by_cases hlt : j < n
    · obtain ⟨s, es⟩ : ∃ s, xs[j]? = some s := ⟨_, List.getElem?_eq_getElem (by have := hL.out; omega)⟩
      have c1 : wr.cell? ⟨b, off + j, none⟩ = some (.int .i64 s) := (hb.cell (p := ⟨b, off + j, none⟩) (show b < w.heap.size by omega)).trans (HC.out j _ (I64_get es))
      obtain ⟨hw, hsc⟩ := HAT.out j (by have := hL.out; omega)
      have hnext := Pl.evalS_snoc (k := k) (x := x) (y := y) es
      rw [← hst.out] at hw hsc hnext
      rw [hd] at hsc
      obtain ⟨⟨s0, s1⟩, ht⟩ := Pl.scan_at HSC.out es hsc
      have hdj : d ≤ j := by
        obtain ⟨d', q1, q2, q3⟩ := Pl.scan_get HSC.out j (by have := hL.out; omega)
        rw [hsc] at q1
        injection q1 with q1
        omega
      have hin : (j : Int) < (n : Int) := by omega
      have hj0 : (0 : Int) ≤ j := by omega
      have hz := hb.size
      have HW := Lib.hid hw
      have HN := Lib.hid hnext
      clear hw hsc hnext es hd
      by_cases t0 : s < 12
      · have ht0 := Pl.takes_0 t0
        have hpu := Lib.hid (push_0 (k := k) (x := x) (y := y) (st := st) t0)
        clear ht
        go_wp2_with (first | (first | (go_at_call 79; refine (spec_l9Takes _ _).mono ?_; rintro e w' ⟨rfl, rfl⟩) | (go_at_call 90; refine (spec_l9Leaf _ _ _ _ _ (by omega) (by omega) (by omega) (by omega)).mono ?_; rintro e w' ⟨rfl, rfl⟩)) | (at_builtin; refine app_int rfl _ _ rfl w.heap.size (.slice A' d c') d _ _ rfl hown rfl rfl (by omega) hz ?_; intro v' w1 hown' hbl))
        obtain ⟨A2, c2, rfl, _⟩ := Rd.of_own hown'
        exact ⟨⟨j + 1, d + 1, st ++ [Pl.leafv k s x y], A2, c2, by omega, by go_num, Lib.hid (by rw [HN.out, hpu.out]), by rw [List.length_append, HD.out]; rfl, rfl, by rw [I64_append]; exact hown', hb.trans hbl⟩, by simp [intOf]; omega⟩
      · by_cases t1 : s < 15
        · have ht1 := Pl.takes_1 (by omega) t1
          rw [ht1] at ht
          obtain ⟨m, rfl⟩ : ∃ m, d = m + 1 := ⟨d - 1, by omega⟩
          have hpu := Lib.hid (push_1 (k := k) (x := x) (y := y) (st := st) (by omega) t1 HD.out)
          obtain ⟨g, rfl, hg0, hg1⟩ := own_some hown (by omega)
          have v1 := Pl.words_get HW.out m
          have hv1 := Lib.hid (Pl.v2_mk (Pl.wv_mk h0 h1 v1.1 v1.2) (Pl.wv_mk h0 h1 (Int.le_refl 0) (by omega)))
          have hg := Lib.hid (I64_getD (xs := st) (j := m) (by have := HD.out; omega))
          generalize st.getD m 0 = a at *
          have d2 : wr.cell? ⟨g, m, none⟩ = some (.int .i64 a) := by rw [hown.cellAt m (by omega)]; exact hg.out
          clear ht v1
          have hm0 : (0 : Int) ≤ (m : Int) := by omega
          have f2 : wr.frozen? ⟨g, m, none⟩ = false := hown.frozenAt m
          have HST := Lib.hid ((World.ownsRow.drew hown).stored m (.int .i64 (Pl.opv k s a 0)))
          have k1 : IntKind.i64.wrap (m : Int) = m := IntWalk.i64_in _ (by omega)
          have k3 : (m : Int) < (m : Int) + 1 := by omega
          go_wp2_with (first | (go_at_call 79; refine (spec_l9Takes _ _).mono ?_; rintro e w' ⟨rfl, rfl⟩))
          go_region_law (first
            | (go_simp; go_at_call 91; refine (spec_l9Do k s a 0 _ (by omega) (by omega) hv1.out).mono ?_; rintro e w1 ⟨rfl, rfl⟩; dsimp only))
          all_goals go_wp2
          all_goals exact ⟨⟨j + 1, m + 1, st.take m ++ [Pl.opv k s a 0], some ⟨g, 0, none⟩, c', by omega, by go_num, Lib.hid (by rw [HN.out, hpu.out]), by rw [List.length_append, List.length_take, HD.out]; simp, rfl,
            by have h := HST.out.1; rw [set_last (by rw [I64_len]; exact HD.out), I64_take] at h; rw [I64_append]; exact h, (below_drewN hb 1).grown HST.out.2 hz (fun q hq => by simp [Value.ownBlock] at hq; omega)⟩, by simp [intOf]; omega⟩
        · have ht2 := Pl.takes_2 (s := s) (by omega)
          rw [ht2] at ht
          obtain ⟨m, rfl⟩ : ∃ m, d = m + 2 := ⟨d - 2, by omega⟩
          have hpu := Lib.hid (push_2 (k := k) (x := x) (y := y) (s := s) (st := st) (by omega) HD.out)
          obtain ⟨g, rfl, hg0, hg1⟩ := own_some hown (by omega)
          have v1 := Pl.words_get HW.out m
          have v2 := Pl.words_get HW.out (m + 1)
          have hv1 := Lib.hid (Pl.v2_mk (Pl.wv_mk h0 h1 v1.1 v1.2) (Pl.wv_mk h0 h1 v2.1 v2.2))
          have hg := Lib.hid (I64_getD (xs := st) (j := m) (by have := HD.out; omega))
          have hg' := Lib.hid (I64_getD (xs := st) (j := m + 1) (by have := HD.out; omega))
          generalize st.getD m 0 = a at *
          generalize st.getD (m + 1) 0 = a' at *
          have d2 : wr.cell? ⟨g, m, none⟩ = some (.int .i64 a) := by rw [hown.cellAt m (by omega)]; exact hg.out
          have d3 : wr.cell? ⟨g, m + 1, none⟩ = some (.int .i64 a') := by rw [hown.cellAt (m + 1) (by omega)]; exact hg'.out
          have f2 : wr.frozen? ⟨g, m, none⟩ = false := hown.frozenAt m
          have HST := Lib.hid ((World.ownsRow.drew hown).stored m (.int .i64 (Pl.opv k s a a')))
          have hcap : (m : Int) + 1 ≤ (c' : Int) := by obtain ⟨_, _, e, hle, _⟩ := Rd.of_own hown; injection e with _ _ e3; omega
          clear ht v1 v2
          have hm0 : (0 : Int) ≤ (m : Int) := by omega
          have k1 : IntKind.i64.wrap (m : Int) = m := IntWalk.i64_in _ (by omega)
          have k3 : (m : Int) < (m : Int) + 2 := by omega
          have k4 : (m : Int) + 1 < (m : Int) + 2 := by omega
          have k5 : (0 : Int) ≤ (m : Int) + 1 := by omega
          have k6 : ((m : Int) + 1).toNat = m + 1 := by omega
          have k7 : (m : Int) + 2 - 1 = (m : Int) + 1 := by omega
          have k8 : IntKind.i64.wrap ((m : Int) + 1 - 1) = m := by rw [IntWalk.i64_in _ (by omega)]; omega
          go_wp2_with (first | (go_at_call 79; refine (spec_l9Takes _ _).mono ?_; rintro e w' ⟨rfl, rfl⟩))
          go_region_law (first
            | (go_simp; go_at_call 91; refine (spec_l9Do k s a a' _ (by omega) (by omega) hv1.out).mono ?_; rintro e w1 ⟨rfl, rfl⟩; dsimp only))
          all_goals go_wp2
          all_goals exact ⟨⟨j + 1, m + 1, st.take m ++ [Pl.opv k s a a'], some ⟨g, 0, none⟩, c', by omega, by go_num, Lib.hid (by rw [HN.out, hpu.out]), by rw [List.length_append, List.length_take, HD.out]; simp, rfl,
            by have h := own_cut HST.out.1 (m := m + 1) (by omega); rw [set_take (by rw [I64_len, HD.out]; omega), I64_take] at h; rw [I64_append]; exact h, (below_drewN hb 1).grown HST.out.2 hz (fun q hq => by simp [Value.ownBlock] at hq; omega)⟩, by simp [intOf]; omega⟩
    · obtain rfl : j = n := by omega
      have hv := HEND.out.1
      have hst' := hst.out
      rw [show xs.take j = xs by rw [← hL.out, List.take_length]] at hst'
      rw [hv] at hst'
      subst hst'
      have hd1 : d = 1 := by rw [← hd]; rfl
      subst hd1
      obtain ⟨g, rfl, hg0, hg1⟩ := own_some hown (by omega)
      have d2 : wr.cell? ⟨g, 0, none⟩ = some (.int .i64 (Pl.value k xs x y)) := by rw [hown.cellAt 0 (by omega)]; rfl
      go_wp2_with fail
      go_ret
      exact ⟨ret_int rfl, hb⟩
end Go.Proofs.YtamhpgledbmnoaaGreat
namespace Go.Proofs.YtamhpgledbmnoaaGreat
set_option linter.unusedVariables false
set_option linter.unusedSimpArgs false
open Go.RowKit

end Go.Proofs.YtamhpgledbmnoaaGreat
namespace Go.Proofs.YtamhpgledbmnoaaGreat
set_option linter.unusedVariables false
set_option linter.unusedSimpArgs false
open Go.RowKit

/-- What EqualAt returns: a truth and two numbers. -/
def OutEq (r : Bool × Int × Int) (w : World) (e : Ending) (w' : World) : Prop := e = .returned (.tuple #[.bool r.1, .int .i64 r.2.1, .int .i64 r.2.2]) ∧ Below w.heap.size w w'
set_option maxHeartbeats 2000000 in
theorem impl_EqualAt (k : Int) (A A' : Option Addr) (n c n' c' B : Nat) (xs ys : List Int) (w : World) (hx : Rd w B A n (I64 xs)) (hy : Rd w B A' n' (I64 ys)) (hB : B ≤ w.heap.size) (hn : n ≤ 1000000000000) (hn' : n' ≤ 1000000000000) :
    Calls Tryz.prog 100 #[.int .i64 k, .slice A n c, .slice A' n' c'] w (OutEq (Pl.equalAt k xs ys) w) := by
  have cx := fun w' => impl_ExprValid A n c B xs w'
  have cy := fun w' => impl_ExprValid A' n' c' B ys w'
  by_cases hv : (1 ≤ k ∧ k ≤ 5) ∧ Pl.exprValid xs = true ∧ Pl.exprValid ys = true
  · obtain ⟨⟨h0, h1⟩, ex, ey⟩ := hv
    rw [ex] at cx
    rw [ey] at cy
    have hp0 := Pl.pw_pos k
    have hp1 := Pl.pw_lt k (by omega)
    obtain ⟨P, hP⟩ := Int.eq_ofNat_of_zero_le (show 0 ≤ Pl.pw k by omega)
    have hword : ∀ m : Nat, m < P → Pl.wvB k m = true := fun m hm => Pl.wv_mk h0 (by omega) (by omega) (by omega)
    have HALL := Lib.hid (Pl.equalAt_all h0 h1 ex ey hP)
    have HAT := Lib.hid (fun (x y : Nat) => Pl.equalAt_at (x := x) (y := y) h0 h1 ex ey hP)
    have EX := Lib.hid ex
    have EY := Lib.hid ey
    have HW := Lib.hid hword
    have hpk := impl_power k
    rw [hP] at hpk hp0 hp1
    clear ex ey hword hP
    go_enter Tryz.func100, Tryz.ntmps100
    go_wp2_with fail
    refine (cx _ hx hn).mono ?_
    rintro e w' ⟨rfl, rfl⟩
    go_wp2_with fail
    refine (cy _ hy hn').mono ?_
    rintro e w' ⟨rfl, rfl⟩
    go_wp2_with (first | (go_at_call 85; refine (impl_within_t _ _ _ _ (by omega)).mono ?_; rintro e w' ⟨rfl, rfl⟩))
    refine (hpk _ (by omega) (by omega)).mono ?_
    rintro e w' ⟨rfl, rfl⟩
    go_wp2_with fail
    go_loopw [26] (fun i wr => ∃ x : Nat, x ≤ P ∧ i = .int .i64 x ∧ Hid (∀ x' : Nat, x' < x → ∀ y' : Nat, y' < P → Pl.value k xs x' y' = Pl.value k ys x' y') ∧ Below w.heap.size w wr) (fun i _ => P - (intOf i).toNat)
    case atStart => exact ⟨0, by omega, rfl, fun x' hx' => absurd hx' (by omega), Below.refl _ _⟩
    case round =>
      obtain ⟨x, hxP, rfl, hall, hb⟩ := hrel
      by_cases hlt : x < P
      · have hin : (x : Int) < (P : Int) := by omega
        have hz := hb.size
        go_wp2_with fail
        refine (hpk _ (by omega) (by omega)).mono ?_
        rintro e w' ⟨rfl, rfl⟩
        go_wp2_with fail
        go_loopw [31] (fun i wq => ∃ y : Nat, y ≤ P ∧ i = .int .i64 y ∧ Hid (∀ y' : Nat, y' < y → Pl.value k xs x y' = Pl.value k ys x y') ∧ Below w.heap.size w wq) (fun i _ => P - (intOf i).toNat)
        case atStart => exact ⟨0, by omega, rfl, fun y' hy' => absurd hy' (by omega), hb⟩
        case round =>
          obtain ⟨y, hyP, rfl, hrow, hbq⟩ := hrel
          by_cases hly : y < P
          · have hiy : (y : Int) < (P : Int) := by omega
            have hzq := hbq.size
            have hv2 := Lib.hid (Pl.v2_mk (HW.out x hlt) (HW.out y hly))
            go_wp2_with fail
            refine (impl_value k x y A n c B xs _ (hx.below (hbq.mono hB)) (by omega) EX.out hv2.out).mono ?_
            rintro e w1 ⟨rfl, hb1⟩
            have hz1 := hb1.size
            go_wp2_with fail
            refine (impl_value k x y A' n' c' B ys _ ((hy.below (hbq.mono hB)).below (hb1.mono (by omega))) (by omega) EY.out hv2.out).mono ?_
            rintro e w2 ⟨rfl, hb2⟩
            have hz2 := hb2.size
            have HB := Lib.hid ((hbq.trans (hb1.mono hzq)).trans (hb2.mono (by omega)))
            by_cases he : Pl.value k xs x y = Pl.value k ys x y
            · have HE := Lib.hid he
              rw [he]
              clear he
              go_wp2_with fail
              go_roundw
              case rel =>
                refine ⟨y + 1, by omega, by go_num, fun y' hy' => ?_, HB.out⟩
                rcases Nat.lt_or_ge y' y with h | h
                · exact hrow.out y' h
                · obtain rfl : y' = y := by omega
                  exact HE.out
              case measure => simp [intOf]; omega
            · have hne : (Pl.value k xs x y != Pl.value k ys x y) = true := by rw [bne_iff_ne]; exact he
              have HR := Lib.hid (HAT.out x y hlt hly hall.out hrow.out he)
              clear he
              go_wp2_with fail
              go_ret3
              exact ⟨by rw [HR.out]; rfl, HB.out⟩
          · obtain rfl : y = P := by omega
            go_wp2_with fail
            go_roundw
            case rel =>
              refine ⟨x + 1, by omega, by go_num, fun x' hx' => ?_, hbq⟩
              rcases Nat.lt_or_ge x' x with h | h
              · exact hall.out x' h
              · obtain rfl : x' = x := by omega
                exact hrow.out
            case measure => simp [intOf]; omega
      · obtain rfl : x = P := by omega
        have HR := Lib.hid (HALL.out (fun a b ha hb => hall.out a ha b hb))
        go_wp2_with fail
        go_ret3
        exact ⟨by rw [HR.out]; rfl, hb⟩
  · have HR := Lib.hid (Pl.equalAt_f hv)
    cases ex : Pl.exprValid xs
    · rw [ex] at cx
      clear hv ex
      go_enter Tryz.func100, Tryz.ntmps100
      go_wp2_with fail
      refine (cx _ hx hn).mono ?_
      rintro e w' ⟨rfl, rfl⟩
      go_wp2_with fail
      go_ret3
      exact ⟨by rw [HR.out]; rfl, Below.refl _ _⟩
    · cases ey : Pl.exprValid ys
      · rw [ex] at cx
        rw [ey] at cy
        clear hv ex ey
        go_enter Tryz.func100, Tryz.ntmps100
        go_wp2_with fail
        refine (cx _ hx hn).mono ?_
        rintro e w' ⟨rfl, rfl⟩
        go_wp2_with fail
        refine (cy _ hy hn').mono ?_
        rintro e w' ⟨rfl, rfl⟩
        go_wp2_with fail
        go_ret3
        exact ⟨by rw [HR.out]; rfl, Below.refl _ _⟩
      · have hk : ¬ (1 ≤ k ∧ k ≤ 5) := fun h => hv ⟨h, ex, ey⟩
        rw [ex] at cx
        rw [ey] at cy
        clear hv ex ey
        go_enter Tryz.func100, Tryz.ntmps100
        go_wp2_with fail
        refine (cx _ hx hn).mono ?_
        rintro e w' ⟨rfl, rfl⟩
        go_wp2_with fail
        refine (cy _ hy hn').mono ?_
        rintro e w' ⟨rfl, rfl⟩
        go_wp2_with (first | (go_at_call 85; refine (impl_within_f _ _ _ _ (by omega)).mono ?_; rintro e w' ⟨rfl, rfl⟩))
        go_ret3
        exact ⟨by rw [HR.out]; rfl, Below.refl _ _⟩
end Go.Proofs.YtamhpgledbmnoaaGreat
namespace Go.Proofs.YtamhpgledbmnoaaGreat
set_option linter.unusedVariables false
set_option linter.unusedSimpArgs false
open Go.RowKit
/-- A slice of ints that came in reads as a list. -/
theorem ints_of_row {w : World} {a : Option Addr} {len cap : Nat} {zs : List Int} (h : IsRow .i64 w a len cap zs) :
    ∃ xs, Rd w w.heap.size a len (I64 xs) ∧ (∀ x ∈ xs, (Lit.int .i64 x).wf = true) := by
  rcases h with ⟨rfl, rfl, rfl, rfl⟩ | ⟨x, rfl, hl, hm, hz, hc, hw⟩
  · exact ⟨[], Rd.zero, fun z hz => by cases hz⟩
  · refine ⟨zs.take len, ⟨by simp [I64]; omega, ?_⟩, fun z hz => hw z (List.mem_of_mem_take hz)⟩
    rcases Nat.eq_zero_or_pos len with h0 | h0
    · exact .inl h0
    · obtain ⟨b, off, spot⟩ := x
      have h1 := hc 0 (by omega)
      have hspot : spot = none := by simpa [Addr.add] using World.cell?_spot h1
      subst hspot
      refine .inr ⟨b, off, rfl, ?_, fun j u hu => ?_⟩
      · have := World.block_lt_of_cell? w _ h1
        rwa [block_of_add] at this
      · have hj : j < len := by
          have := (List.getElem?_eq_some_iff.1 hu).1
          simp [I64] at this
          omega
        have h2 := hc j (by omega)
        have e : (⟨b, off, none⟩ : Addr).add j = ⟨b, off + j, none⟩ := by
          unfold Addr.add
          split
          · rename_i h0; subst h0; rfl
          · rfl
        rw [e] at h2
        rw [h2]
        have hx : (I64 (zs.take len))[j]? = some (.int .i64 (zs.getD j 0)) := by
          simp [I64, List.getElem?_take, hj]
          rw [List.getElem?_eq_getElem (by omega)]
          simp
        rw [hx] at hu
        exact hu
end Go.Proofs.YtamhpgledbmnoaaGreat
namespace Go.Proofs.YtamhpgledbmnoaaGreat
set_option linter.unusedVariables false
set_option linter.unusedSimpArgs false
open Go.RowKit
section
variable {w : World} {ops : Array Oper} {rest : List Oper} {o : Oper} {a : Act} {Q : Exit → Act → World → Prop}
/-- A list behind a list. -/
theorem app_list (hgd : o.guard = none) (s x : Operand)
    (ho : o.op = .call { callee := .builtin .append, args := #[s, x], argTypes := #[22, 22] })
    (B : Nat) (v : Value) (n : Nat) (xs : List Int) (hs : a.eval s = v) (hown : w.ownsRow B 3 1 v n (I64 xs))
    (g m c : Nat) (ys : List Int) (B2 : Nat) (hx : a.eval x = .slice (some ⟨g, 0, none⟩) m c) (hown2 : w.ownsRow B2 3 1 (.slice (some ⟨g, 0, none⟩) m c) m (I64 ys)) (hn : n ≤ 1000000) (hm : m ≤ 1000000) (hB : B ≤ w.heap.size)
    (h : ∀ v' w', w'.ownsRow B 3 1 v' (n + m) (I64 (xs ++ ys)) → Below B w w' → wpList Tryz.prog ops Q rest (a.put o.dst v') w') :
    wpList Tryz.prog ops Q (o :: rest) a w := by
  obtain ⟨i0, hi0, hz0, hz1, hz2⟩ := info_parts int_info
  refine wpList_append_own _ hgd s x _ ho B 3 i0 _ 1 8 Tryz.underlying22 hi0 hz0 hz1 hz2 rfl (by decide) v n (I64 xs) hs hown ⟨g, 0, none⟩ m c (I64 ys) hx hown2.1
    (hown2.cells rfl) (fun u hu => ?_) (by simp only [maxLen]; omega) (by omega) hB
    (fun v' w' h2 h3 _ => h v' w' (by rw [I64_append]; exact h2) ((Below.refl _ _).grown h3 hB (fun k hk => (hown.lt k hk).1)))
  unfold I64 at hu
  obtain ⟨_, _, rfl⟩ := List.mem_map.1 hu
  rfl
end
theorem own_len {w : World} {B n : Nat} {v : Value} {xs : List Int} (h : w.ownsRow B 3 1 v n (I64 xs)) : xs.length = n := by
  have := h.1
  rw [I64_len] at this
  omega
end Go.Proofs.YtamhpgledbmnoaaGreat
