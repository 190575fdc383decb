/-
  The law FnLeastOf: for every code it returns true.
  Conditions: none.
-/
import Derived.Test.YtanaafdnnjkimaaLa
namespace Go.Proofs.Ytanaafdnnjkimaa
set_option linter.unusedVariables false
set_option linter.unusedSimpArgs false
open Go.RowKit
set_option maxHeartbeats 1000000 in
theorem law_FnLeastOf (a0 : Option Addr) (len0 cap0 : Nat) (z0 : List Int) (w : World) (w0 : IsRow .u8 w a0 len0 cap0 z0) :
    Calls Try.prog 7 #[.slice a0 len0 cap0] w fun e w' => e = .returned (.bool true) ∧ Below w.heap.size w w' := by
  obtain ⟨hc, hl, hm⟩ := code_of_row w0
  clear w0
  have hm' := hm
  unfold maxLen at hm'
  by_cases hbig : 1048576 < len0
  · have hbi : (1048576 : Int) < len0 := by omega
    go_enter Try.func7, Try.ntmps7
    go_wp2
    go_ret
    exact ⟨rfl, Below.refl _ _⟩
  have hbi : ¬ (1048576 : Int) < len0 := by omega
  go_enter Try.func7, Try.ntmps7
  go_wp2_with fail
  refine (spec_DrawLeastOf a0 len0 cap0 _ hc hl hm).mono ?_
  rintro e v0 ⟨k, a, b, rfl, k0, k1, x0, x1, y0, y1, HB0⟩
  clear hc hl hm hm' hbig
  rcases three (Pl.v2 k a b) (a ≤ b) with hv | ⟨hv, hab⟩ | ⟨hv, hab⟩
  · have e1 : Pl.leastOf k a b = -1 := by simp [Pl.leastOf, hv]
    go_wp2_with fail
    refine (impl_LeastOf k a b _).mono ?_
    rintro e w1 ⟨rfl, hb1⟩
    have HB1 := below_step HB0 hb1 HB0.size
    clear hb1
    go_wp2_with fail
    refine (spec_LeastOf k a b _).mono ?_
    rintro e w' ⟨rfl, rfl⟩
    go_wp2_with fail
    refine (laws_alive _).mono ?_
    rintro e w2 ⟨rfl, hb2⟩
    have HB2 := below_step HB1 hb2 HB1.size
    clear hb2
    go_wp2
    all_goals (go_ret; exact ⟨ret_bool (by first | rfl | (simp; done) | (simp; omega)), HB2⟩)
  · obtain ⟨h0, h1, h2, h3, h4, h5⟩ := Pl.v2_t hv
    have hp := Pl.pw_lt k h1
    have hp0 := Pl.pw_pos k
    have e1 : Pl.leastOf k a b = a := by simp [Pl.leastOf, hv]; omega
    go_wp2_with fail
    refine (impl_LeastOf k a b _).mono ?_
    rintro e w1 ⟨rfl, hb1⟩
    have HB1 := below_step HB0 hb1 HB0.size
    clear hb1
    go_wp2_with fail
    refine (spec_LeastOf k a b _).mono ?_
    rintro e w' ⟨rfl, rfl⟩
    go_wp2
    all_goals (go_ret; exact ⟨ret_bool (by first | rfl | (simp; done) | (simp; omega)), HB1⟩)
  · obtain ⟨h0, h1, h2, h3, h4, h5⟩ := Pl.v2_t hv
    have hp := Pl.pw_lt k h1
    have hp0 := Pl.pw_pos k
    have e1 : Pl.leastOf k a b = b := by simp [Pl.leastOf, hv]; omega
    go_wp2_with fail
    refine (impl_LeastOf k a b _).mono ?_
    rintro e w1 ⟨rfl, hb1⟩
    have HB1 := below_step HB0 hb1 HB0.size
    clear hb1
    go_wp2_with fail
    refine (spec_LeastOf k a b _).mono ?_
    rintro e w' ⟨rfl, rfl⟩
    go_wp2
    all_goals (go_ret; exact ⟨ret_bool (by first | rfl | (simp; done) | (simp; omega)), HB1⟩)
end Go.Proofs.Ytanaafdnnjkimaa
