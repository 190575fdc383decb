/-
  The law FnExprValid: for every code it returns true.
  Conditions: none.
-/
import Derived.Test.YtnjcephddilalaaD7
namespace Go.Proofs.Ytnjcephddilalaa
set_option linter.unusedVariables false
set_option linter.unusedSimpArgs false
open Go.RowKit
set_option maxHeartbeats 2000000 in
theorem law_FnExprValid (a0 : Option Addr) (len0 cap0 : Nat) (z0 : List Int) (w : World) (w0 : IsRow .u8 w a0 len0 cap0 z0) :
    Calls Try.prog 4 #[.slice a0 len0 cap0] w fun e w' => e = .returned (.bool true) ∧ Below w.heap.size w w' := by
  obtain ⟨hc, hl, hm⟩ := code_of_row w0
  clear w0
  have hm' := hm
  unfold maxLen at hm'
  by_cases hbig : 1048576 < len0
  · have hbi : (1048576 : Int) < len0 := by omega
    go_enter Try.func4, Try.ntmps4
    go_wp2
    go_ret
    exact ⟨rfl, Below.refl _ _⟩
  have hbi : ¬ (1048576 : Int) < len0 := by omega
  go_enter Try.func4, Try.ntmps4
  go_wp2_with fail
  refine (spec_DrawExprValid a0 len0 cap0 _ hc hl hm).mono ?_
  rintro e v0 ⟨xs, g, c, rfl, own0, hlen, HB0⟩
  clear hc hl hm hm' hbig
  have r0 := rd_own own0
  have z0 := HB0.size
  have sw := fun A c B w' => impl_ExprValid A (xs.length + 1) c B (xs ++ [10]) w'
  have sn := fun A c B w' => impl_ExprValid A (xs.length + 1) c B (xs ++ [12]) w'
  have sx := fun A n c B w' => impl_ExprValid A n c B xs w'
  have sx' := fun A n c B w' => spec_ExprValid A n c B xs w'
  have sw10 : Pl.exprValid xs = true → Pl.exprValid (xs ++ [10]) = false := Pl.valid_word
  have sn12 : Pl.exprValid xs = true → xs.length < 24 → Pl.exprValid (xs ++ [12]) = true := Pl.valid_not
  have hle : Pl.exprValid xs = true → xs.length ≤ 24 := fun h => (Pl.valid_t h).2.1
  generalize Pl.exprValid xs = ok at *
  generalize Pl.exprValid (xs ++ [10]) = ok1 at *
  generalize Pl.exprValid (xs ++ [12]) = ok2 at *
  have hoo : (ok != ok) = false := by simp
  go_wp2_with fail
  refine (sx _ _ _ _ _ r0 (by omega)).mono ?_
  rintro e w' ⟨rfl, rfl⟩
  go_wp2_with fail
  refine (sx' _ _ _ _ _ r0 (by omega)).mono ?_
  rintro e w' ⟨rfl, rfl⟩
  clear sx sx' r0
  cases ok
  · clear sw10 sn12 hle
    go_wp2_with (first
      | (at_builtin; refine app_list rfl (.tmp 18) (.tmp 19) rfl v0.heap.size (.slice (some ⟨v0.heap.size, 0, none⟩) 0 0) 0 [] rfl (World.ownsRow_made _ _ 0 (Nat.le_refl _) (by simp [maxLen]) rfl) g xs.length c xs w.heap.size rfl (own0.alloc _) (by omega) (by omega) (by simp) ?_; intro v1 w1 own1 hb1)
      | (at_builtin; refine app_int rfl (.tmp 20) (.tmp 21) rfl v0.heap.size v1 (0 + xs.length) _ (.int .i64 12) rfl own1 rfl rfl (by omega) (by have := hb1.size; simp at this; omega) ?_; intro v2 w2 own2 hb2)
      | (at_builtin; refine app_list rfl (.tmp 23) (.tmp 24) rfl w2.heap.size (.slice (some ⟨w2.heap.size, 0, none⟩) 0 0) 0 [] rfl (World.ownsRow_made _ _ 0 (Nat.le_refl _) (by simp [maxLen]) rfl) g xs.length c xs w.heap.size rfl ((own_below own0 ((((Below.refl v0.heap.size v0).alloc (Nat.le_refl _) _).trans hb1).trans hb2)).alloc _) (by omega) (by omega) (by simp) ?_; intro v3 w3 own3 hb3)
      | (at_builtin; refine app_int rfl (.tmp 25) (.tmp 26) rfl w2.heap.size v3 (0 + xs.length) _ (.int .i64 10) rfl own3 rfl rfl (by omega) (by have := hb3.size; simp at this; omega) ?_; intro v4 w4 own4 hb4)
      | fail)
    have hb02 : Below v0.heap.size v0 w2 := (((Below.refl v0.heap.size v0).alloc (Nat.le_refl _) _).trans hb1).trans hb2
    have hb24 : Below w2.heap.size w2 w4 := (((Below.refl w2.heap.size w2).alloc (Nat.le_refl _) _).trans hb3).trans hb4
    have z2 := hb02.size
    have z4 := hb24.size
    obtain ⟨A2, c2, rfl, _⟩ := Rd.of_own own2
    obtain ⟨A4, c4, rfl, _⟩ := Rd.of_own own4
    have rt : Rd w4 w2.heap.size A2 (0 + xs.length + 1) (I64 (xs ++ [12])) := by
      have h := (rd_own own2).below hb24
      rw [I64_append]
      exact h
    have rw4 : Rd w4 w4.heap.size A4 (0 + xs.length + 1) (I64 (xs ++ [10])) := by
      have h := rd_own own4
      rw [I64_append]
      exact h
    rw [Nat.zero_add] at rt rw4
    have HB4 := below_step (below_step HB0 hb02 z0) hb24 (by omega)
    clear own0 own1 own2 own3 own4 hb1 hb2 hb3 hb4 hb02 hb24
    rw [Nat.zero_add]
    refine (impl_ExprValid none 0 0 0 [] _ Rd.zero (by omega)).mono ?_
    rw [Pl.valid_nil]
    rintro e w' ⟨rfl, rfl⟩
    go_wp2_with fail
    refine (laws_alive _).mono ?_
    rintro e w5 ⟨rfl, hb5⟩
    have HB5 := below_step HB4 hb5 HB4.size
    go_wp2_with fail
    all_goals (go_ret; exact ⟨rfl, HB5⟩)
  · have h1 := sw10 rfl
    subst h1
    have hl24 := hle rfl
    have H2 := Lib.hid (sn12 rfl)
    clear sw10 sn12 hle
    go_wp2_with (first
      | (at_builtin; refine app_list rfl (.tmp 18) (.tmp 19) rfl v0.heap.size (.slice (some ⟨v0.heap.size, 0, none⟩) 0 0) 0 [] rfl (World.ownsRow_made _ _ 0 (Nat.le_refl _) (by simp [maxLen]) rfl) g xs.length c xs w.heap.size rfl (own0.alloc _) (by omega) (by omega) (by simp) ?_; intro v1 w1 own1 hb1)
      | (at_builtin; refine app_int rfl (.tmp 20) (.tmp 21) rfl v0.heap.size v1 (0 + xs.length) _ (.int .i64 12) rfl own1 rfl rfl (by omega) (by have := hb1.size; simp at this; omega) ?_; intro v2 w2 own2 hb2)
      | (at_builtin; refine app_list rfl (.tmp 23) (.tmp 24) rfl w2.heap.size (.slice (some ⟨w2.heap.size, 0, none⟩) 0 0) 0 [] rfl (World.ownsRow_made _ _ 0 (Nat.le_refl _) (by simp [maxLen]) rfl) g xs.length c xs w.heap.size rfl ((own_below own0 ((((Below.refl v0.heap.size v0).alloc (Nat.le_refl _) _).trans hb1).trans hb2)).alloc _) (by omega) (by omega) (by simp) ?_; intro v3 w3 own3 hb3)
      | (at_builtin; refine app_int rfl (.tmp 25) (.tmp 26) rfl w2.heap.size v3 (0 + xs.length) _ (.int .i64 10) rfl own3 rfl rfl (by omega) (by have := hb3.size; simp at this; omega) ?_; intro v4 w4 own4 hb4)
      | fail)
    have hb02 : Below v0.heap.size v0 w2 := (((Below.refl v0.heap.size v0).alloc (Nat.le_refl _) _).trans hb1).trans hb2
    have hb24 : Below w2.heap.size w2 w4 := (((Below.refl w2.heap.size w2).alloc (Nat.le_refl _) _).trans hb3).trans hb4
    have z2 := hb02.size
    have z4 := hb24.size
    obtain ⟨A2, c2, rfl, _⟩ := Rd.of_own own2
    obtain ⟨A4, c4, rfl, _⟩ := Rd.of_own own4
    have rt : Rd w4 w2.heap.size A2 (0 + xs.length + 1) (I64 (xs ++ [12])) := by
      have h := (rd_own own2).below hb24
      rw [I64_append]
      exact h
    have rw4 : Rd w4 w4.heap.size A4 (0 + xs.length + 1) (I64 (xs ++ [10])) := by
      have h := rd_own own4
      rw [I64_append]
      exact h
    rw [Nat.zero_add] at rt rw4
    have HB4 := below_step (below_step HB0 hb02 z0) hb24 (by omega)
    clear own0 own1 own2 own3 own4 hb1 hb2 hb3 hb4 hb02 hb24
    rw [Nat.zero_add]
    refine (sw _ _ _ _ rw4 (by omega)).mono ?_
    rintro e w' ⟨rfl, rfl⟩
    by_cases h24 : xs.length = 24
    · have h24' : ((xs.length : Int) == 24) = true := by rw [beq_iff_eq]; omega
      go_wp2_with fail
      refine (impl_ExprValid none 0 0 0 [] _ Rd.zero (by omega)).mono ?_
      rw [Pl.valid_nil]
      rintro e w' ⟨rfl, rfl⟩
      go_wp2_with fail
      refine (laws_alive _).mono ?_
      rintro e w5 ⟨rfl, hb5⟩
      have HB5 := below_step HB4 hb5 HB4.size
      go_wp2_with fail
      all_goals (go_ret; exact ⟨rfl, HB5⟩)
    · have h24' : ((xs.length : Int) == 24) = false := by rw [beq_eq_false_iff_ne]; omega
      have h2 := H2.out (by omega)
      subst h2
      go_wp2_with fail
      refine (sn _ _ w2.heap.size _ rt (by omega)).mono ?_
      rintro e w' ⟨rfl, rfl⟩
      go_wp2_with fail
      refine (impl_ExprValid none 0 0 0 [] _ Rd.zero (by omega)).mono ?_
      rw [Pl.valid_nil]
      rintro e w' ⟨rfl, rfl⟩
      go_wp2_with fail
      refine (laws_alive _).mono ?_
      rintro e w5 ⟨rfl, hb5⟩
      have HB5 := below_step HB4 hb5 HB4.size
      go_wp2_with fail
      all_goals (go_ret; exact ⟨rfl, HB5⟩)
end Go.Proofs.Ytnjcephddilalaa
