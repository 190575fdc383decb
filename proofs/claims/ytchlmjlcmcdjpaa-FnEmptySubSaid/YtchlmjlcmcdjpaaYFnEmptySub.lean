/-
  The law FnEmptySub: for every code it returns true.
  Conditions: none.
-/
import Derived.Test.YtchlmjlcmcdjpaaLa
namespace Go.Proofs.Ytchlmjlcmcdjpaa
set_option linter.unusedVariables false
set_option linter.unusedSimpArgs false
open Go.RowKit
set_option maxHeartbeats 1000000 in
theorem law_FnEmptySub (a0 : Option Addr) (len0 cap0 : Nat) (z0 : List Int) (w : World) (w0 : IsRow .u8 w a0 len0 cap0 z0) :
    Calls Try.prog 13 #[.slice a0 len0 cap0] w fun e w' => e = .returned (.bool true) ∧ Below w.heap.size w w' := by
  obtain ⟨hc, hl, hm⟩ := code_of_row w0
  clear w0
  have hm' := hm
  unfold maxLen at hm'
  by_cases hbig : 1048576 < len0
  · have hbi : (1048576 : Int) < len0 := by omega
    go_enter Try.func13, Try.ntmps13
    go_wp2
    go_ret
    exact ⟨rfl, Below.refl _ _⟩
  have hbi : ¬ (1048576 : Int) < len0 := by omega
  go_enter Try.func13, Try.ntmps13
  go_wp2_with fail
  refine (spec_DrawEmptySub a0 len0 cap0 _ hc hl hm).mono ?_
  rintro e v0 ⟨k, a, b, rfl, k0, k1, x0, x1, y0, y1, HB0⟩
  clear hc hl hm hm' hbig
  rcases three (Pl.v2 k a b) (b ≤ a) with hv | ⟨hv, hab⟩ | ⟨hv, hab⟩
  · have e1 : Pl.emptySub k a b = -1 := by simp [Pl.emptySub, hv]
    go_wp2_with fail
    refine (impl_EmptySub k a b _).mono ?_
    rintro e w1 ⟨rfl, hb1⟩
    have HB1 := below_step HB0 hb1 HB0.size
    clear hb1
    go_wp2_with fail
    refine (spec_EmptySub k a b _).mono ?_
    rintro e w' ⟨rfl, q2, rfl⟩
    have HB2 := below_drewN HB1 q2
    go_wp2_with fail
    refine (laws_alive _).mono ?_
    rintro e w3 ⟨rfl, hb3⟩
    have HB3 := below_step HB2 hb3 HB2.size
    clear hb3
    go_wp2
    all_goals (go_ret; exact ⟨ret_bool (by first | rfl | (simp; done) | (simp; omega)), HB3⟩)
  · obtain ⟨h0, h1, h2, h3, h4, h5⟩ := Pl.v2_t hv
    have hp := Pl.pw_lt k h1
    have hp0 := Pl.pw_pos k
    have e1 : Pl.emptySub k a b = a - b := by simp [Pl.emptySub, hv]; omega
    have e2 : Pl.wordNot k a = Pl.pw k - 1 - a := by simp [Pl.wordNot, Pl.v2_l hv]
    have hva := Pl.v2_mk (Pl.wv_mk h0 h1 (x := Pl.pw k - 1 - a) (by omega) (by omega)) (Pl.v2_r hv)
    have e3 : Pl.fullAdd k (Pl.pw k - 1 - a) b = min (Pl.pw k - 1 - a + b) (Pl.pw k - 1) := by simp [Pl.fullAdd, hva]
    have e4 : min (Pl.pw k - 1 - a + b) (Pl.pw k - 1) = Pl.pw k - 1 - a + b := by omega
    rw [e4] at e3
    have e5 : Pl.wordNot k (Pl.pw k - 1 - a + b) = a - b := by simp [Pl.wordNot, Pl.wv_mk h0 h1 (x := Pl.pw k - 1 - a + b) (by omega) (by omega)]; omega
    clear e4
    go_wp2_with fail
    refine (impl_EmptySub k a b _).mono ?_
    rintro e w1 ⟨rfl, hb1⟩
    have HB1 := below_step HB0 hb1 HB0.size
    clear hb1
    go_wp2_with fail
    refine (spec_EmptySub k a b _).mono ?_
    rintro e w' ⟨rfl, q2, rfl⟩
    have HB2 := below_drewN HB1 q2
    go_wp2_with fail
    refine (impl_WordNot _ _ _).mono ?_
    rintro e w3 ⟨rfl, hb3⟩
    have HB3 := below_step HB2 hb3 HB2.size
    clear hb3
    go_wp2_with fail
    refine (impl_FullAdd _ _ _ _).mono ?_
    rintro e w4 ⟨rfl, hb4⟩
    have HB4 := below_step HB3 hb4 HB3.size
    clear hb4
    go_wp2_with fail
    refine (impl_WordNot _ _ _).mono ?_
    rintro e w5 ⟨rfl, hb5⟩
    have HB5 := below_step HB4 hb5 HB4.size
    clear hb5
    go_wp2
    all_goals (go_ret; exact ⟨ret_bool (by first | rfl | (simp; done) | (simp; omega)), HB5⟩)
  · obtain ⟨h0, h1, h2, h3, h4, h5⟩ := Pl.v2_t hv
    have hp := Pl.pw_lt k h1
    have hp0 := Pl.pw_pos k
    have e1 : Pl.emptySub k a b = 0 := by simp [Pl.emptySub, hv]; omega
    have e2 : Pl.wordNot k a = Pl.pw k - 1 - a := by simp [Pl.wordNot, Pl.v2_l hv]
    have hva := Pl.v2_mk (Pl.wv_mk h0 h1 (x := Pl.pw k - 1 - a) (by omega) (by omega)) (Pl.v2_r hv)
    have e3 : Pl.fullAdd k (Pl.pw k - 1 - a) b = min (Pl.pw k - 1 - a + b) (Pl.pw k - 1) := by simp [Pl.fullAdd, hva]
    have e4 : min (Pl.pw k - 1 - a + b) (Pl.pw k - 1) = Pl.pw k - 1 := by omega
    rw [e4] at e3
    have e5 : Pl.wordNot k (Pl.pw k - 1) = 0 := by simp [Pl.wordNot, Pl.wv_mk h0 h1 (x := Pl.pw k - 1) (by omega) (by omega)]
    clear e4
    go_wp2_with fail
    refine (impl_EmptySub k a b _).mono ?_
    rintro e w1 ⟨rfl, hb1⟩
    have HB1 := below_step HB0 hb1 HB0.size
    clear hb1
    go_wp2_with fail
    refine (spec_EmptySub k a b _).mono ?_
    rintro e w' ⟨rfl, q2, rfl⟩
    have HB2 := below_drewN HB1 q2
    go_wp2_with fail
    refine (impl_WordNot _ _ _).mono ?_
    rintro e w3 ⟨rfl, hb3⟩
    have HB3 := below_step HB2 hb3 HB2.size
    clear hb3
    go_wp2_with fail
    refine (impl_FullAdd _ _ _ _).mono ?_
    rintro e w4 ⟨rfl, hb4⟩
    have HB4 := below_step HB3 hb4 HB3.size
    clear hb4
    go_wp2_with fail
    refine (impl_WordNot _ _ _).mono ?_
    rintro e w5 ⟨rfl, hb5⟩
    have HB5 := below_step HB4 hb5 HB4.size
    clear hb5
    go_wp2
    all_goals (go_ret; exact ⟨ret_bool (by first | rfl | (simp; done) | (simp; omega)), HB5⟩)
end Go.Proofs.Ytchlmjlcmcdjpaa
