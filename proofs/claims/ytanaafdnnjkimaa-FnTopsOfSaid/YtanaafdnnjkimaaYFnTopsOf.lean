/-
  The law FnTopsOf: for every code it returns true.
  Conditions: none.
-/
import Derived.Test.YtanaafdnnjkimaaLa
import Derived.Test.YtanaafdnnjkimaaW5
import Derived.Test.YtanaafdnnjkimaaW7
import Derived.Test.YtanaafdnnjkimaaW8
namespace Go.Proofs.Ytanaafdnnjkimaa
set_option linter.unusedVariables false
set_option linter.unusedSimpArgs false
open Go.RowKit
set_option maxHeartbeats 1000000 in
theorem law_FnTopsOf (a0 : Option Addr) (len0 cap0 : Nat) (z0 : List Int) (w : World) (w0 : IsRow .u8 w a0 len0 cap0 z0) :
    Calls Try.prog 6 #[.slice a0 len0 cap0] w fun e w' => e = .returned (.bool true) ∧ Below w.heap.size w w' := by
  obtain ⟨hc, hl, hm⟩ := code_of_row w0
  clear w0
  have hm' := hm
  unfold maxLen at hm'
  by_cases hbig : 1048576 < len0
  · have hbi : (1048576 : Int) < len0 := by omega
    go_enter Try.func6, Try.ntmps6
    go_wp2
    go_ret
    exact ⟨rfl, Below.refl _ _⟩
  have hbi : ¬ (1048576 : Int) < len0 := by omega
  go_enter Try.func6, Try.ntmps6
  go_wp2_with fail
  refine (spec_DrawTopsOf a0 len0 cap0 _ hc hl hm).mono ?_
  rintro e v0 ⟨k, l, rfl, k0, k1, l0, l1, HB0⟩
  clear hc hl hm hm' hbig
  cases hv : Pl.lv k l
  · have e1 : Pl.topsOf k l = -1 := by unfold Pl.topsOf; simp [hv]
    go_wp2_with fail
    refine (impl_TopsOf k l _).mono ?_
    rintro e w1 ⟨rfl, hb1⟩
    go_wp2_with fail
    refine (spec_TopsOf k l _).mono ?_
    rintro e w' ⟨rfl, rfl⟩
    have HB2 := below_step HB0 hb1 HB0.size
    clear hb1
    go_wp2_with fail
    refine (laws_alive _).mono ?_
    rintro e w4 ⟨rfl, hb4⟩
    have HB4 := below_step HB2 hb4 HB2.size
    go_wp2
    all_goals (go_ret; exact ⟨rfl, HB4⟩)
  · obtain ⟨h0, h1, h2, h3, h4⟩ := Pl.lv_t hv
    have hp := Pl.pw_lt k h1
    obtain ⟨t0, t1⟩ := Pl.topsOf_t hv
    have hw := Pl.wv_mk h0 h1 t0 t1
    obtain ⟨c0, c1⟩ := Pl.tops_case hv
    have e3 := Pl.many_int hv
    rw [← e3] at c0
    clear hv h4 e3
    go_wp2_with fail
    refine (impl_TopsOf k l _).mono ?_
    rintro e w1 ⟨rfl, hb1⟩
    have HB2 := below_step HB0 hb1 HB0.size
    clear hb1
    go_wp2_with fail
    refine (spec_TopsOf k l _).mono ?_
    rintro e w' ⟨rfl, rfl⟩
    generalize Pl.topsOf k l = t at *
    have HT := Lib.hid c0
    have HW := Lib.hid hw
    clear c0 hw
    go_wp2_with fail
    go_quiet (((go_at_call 25; first | exact quiet_left (impl_OnesOf k t (k / l) _ HW.out HT.out) | exact quiet_add_left (impl_OnesOf k t (k / l) _ HW.out HT.out))))
    all_goals go_wp2
    all_goals (go_ret; exact ⟨ret_bool (by first | rfl | (simp; done) | (simp; omega)), below_drewN HB2 _⟩)
end Go.Proofs.Ytanaafdnnjkimaa
