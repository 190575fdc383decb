/-
  The law FnLanesValid: for every code it returns true.
  Conditions: none.
-/
import Derived.Test.YtanaafdnnjkimaaLa
namespace Go.Proofs.Ytanaafdnnjkimaa
set_option linter.unusedVariables false
set_option linter.unusedSimpArgs false
open Go.RowKit
set_option maxHeartbeats 1000000 in
theorem law_FnLanesValid (a0 : Option Addr) (len0 cap0 : Nat) (z0 : List Int) (w : World) (w0 : IsRow .u8 w a0 len0 cap0 z0) :
    Calls Try.prog 3 #[.slice a0 len0 cap0] w fun e w' => e = .returned (.bool true) ∧ Below w.heap.size w w' := by
  obtain ⟨hc, hl, hm⟩ := code_of_row w0
  clear w0
  have hm' := hm
  unfold maxLen at hm'
  by_cases hbig : 1048576 < len0
  · have hbi : (1048576 : Int) < len0 := by omega
    go_enter Try.func3, Try.ntmps3
    go_wp2
    go_ret
    exact ⟨rfl, Below.refl _ _⟩
  have hbi : ¬ (1048576 : Int) < len0 := by omega
  go_enter Try.func3, Try.ntmps3
  go_wp2_with fail
  refine (spec_DrawLanesValid a0 len0 cap0 _ hc hl hm).mono ?_
  rintro e v0 ⟨k, l, rfl, k0, k1, c0, c1, HB0⟩
  clear hc hl hm hm' hbig
  by_cases h0 : 1 ≤ k
  rotate_left
  · have e1 : Pl.lv k 1 = false := Pl.lv_no (by omega)
    have e2 : Pl.lv k k = false := Pl.lv_no (by omega)
    go_wp2_with fail
    refine (impl_LanesValid k l _).mono ?_
    rintro e w' ⟨rfl, rfl⟩
    go_wp2_with fail
    refine (spec_LanesValid k l _).mono ?_
    rintro e w' ⟨rfl, rfl⟩
    go_wp2_with fail
    refine (impl_LanesValid k 1 _).mono ?_
    rintro e w' ⟨rfl, rfl⟩
    go_wp2_with fail
    refine (impl_LanesValid k k _).mono ?_
    rintro e w' ⟨rfl, rfl⟩
    go_wp2_with fail
    refine (laws_alive _).mono ?_
    rintro e w1 ⟨rfl, hb1⟩
    have HB1 := below_step HB0 hb1 HB0.size
    clear hb1
    go_wp2
    all_goals (go_ret; exact ⟨ret_bool (by first | rfl | (simp; done) | (simp; omega)), HB1⟩)
  · by_cases h1 : k ≤ 12
    rotate_left
    · have e1 : Pl.lv k 1 = false := Pl.lv_no (by omega)
      have e2 : Pl.lv k k = false := Pl.lv_no (by omega)
      go_wp2_with fail
      refine (impl_LanesValid k l _).mono ?_
      rintro e w' ⟨rfl, rfl⟩
      go_wp2_with fail
      refine (spec_LanesValid k l _).mono ?_
      rintro e w' ⟨rfl, rfl⟩
      go_wp2_with fail
      refine (impl_LanesValid k 1 _).mono ?_
      rintro e w' ⟨rfl, rfl⟩
      go_wp2_with fail
      refine (impl_LanesValid k k _).mono ?_
      rintro e w' ⟨rfl, rfl⟩
      go_wp2_with fail
      refine (laws_alive _).mono ?_
      rintro e w1 ⟨rfl, hb1⟩
      have HB1 := below_step HB0 hb1 HB0.size
      clear hb1
      go_wp2
      all_goals (go_ret; exact ⟨ret_bool (by first | rfl | (simp; done) | (simp; omega)), HB1⟩)
    have e1 : Pl.lv k 1 = true := by rw [Pl.lv_rest h0 h1 (by omega)]; simp
    have e2 : Pl.lv k k = true := by rw [Pl.lv_rest h0 h1 (by omega)]; simp
    go_wp2_with fail
    refine (impl_LanesValid k l _).mono ?_
    rintro e w' ⟨rfl, rfl⟩
    go_wp2_with fail
    refine (spec_LanesValid k l _).mono ?_
    rintro e w' ⟨rfl, rfl⟩
    go_wp2_with fail
    refine (impl_LanesValid k 1 _).mono ?_
    rintro e w' ⟨rfl, rfl⟩
    go_wp2_with fail
    refine (impl_LanesValid k k _).mono ?_
    rintro e w' ⟨rfl, rfl⟩
    go_wp2_with fail
    refine (laws_alive _).mono ?_
    rintro e w1 ⟨rfl, hb1⟩
    have HB1 := below_step HB0 hb1 HB0.size
    clear hb1
    go_wp2
    all_goals (go_ret; exact ⟨ret_bool (by first | rfl | (simp; done) | (simp; omega)), HB1⟩)
end Go.Proofs.Ytanaafdnnjkimaa
