/-
  The law FnLanesNone: for every code it returns true.
  Conditions: none.
-/
import Derived.Test.YtanaafdnnjkimaaLa
import Derived.Test.YtanaafdnnjkimaaPj
import Derived.Test.YtanaafdnnjkimaaW6
import Derived.Test.YtanaafdnnjkimaaW7
namespace Go.Proofs.Ytanaafdnnjkimaa
set_option linter.unusedVariables false
set_option linter.unusedSimpArgs false
open Go.RowKit
set_option maxHeartbeats 1000000 in
theorem law_FnLanesNone (a0 : Option Addr) (len0 cap0 : Nat) (z0 : List Int) (w : World) (w0 : IsRow .u8 w a0 len0 cap0 z0) :
    Calls Try.prog 10 #[.slice a0 len0 cap0] w fun e w' => e = .returned (.bool true) ∧ Below w.heap.size w w' := by
  obtain ⟨hc, hl, hm⟩ := code_of_row w0
  clear w0
  have hm' := hm
  unfold maxLen at hm'
  by_cases hbig : 1048576 < len0
  · have hbi : (1048576 : Int) < len0 := by omega
    go_enter Try.func10, Try.ntmps10
    go_wp2
    go_ret
    exact ⟨rfl, Below.refl _ _⟩
  have hbi : ¬ (1048576 : Int) < len0 := by omega
  go_enter Try.func10, Try.ntmps10
  go_wp2_with fail
  refine (spec_DrawLanesNone a0 len0 cap0 _ hc hl hm).mono ?_
  rintro e v0 ⟨k, l, x, rfl, k0, k1, l0, l1, x0, x1, HB0⟩
  clear hc hl hm hm' hbig
  by_cases hh : Pl.lv k l = true ∧ Pl.wvB k x = true
  rotate_left
  · have e1 : Pl.lanesNone k l x = -1 := by unfold Pl.lanesNone; rw [if_neg hh]
    clear hh
    go_wp2_with fail
    refine (impl_LanesNone k l x _).mono ?_
    rintro e w1 ⟨rfl, hb1⟩
    go_wp2_with fail
    refine (spec_LanesNone k l x _).mono ?_
    rintro e w' ⟨rfl, rfl⟩
    have HB2 := below_step HB0 hb1 HB0.size
    clear hb1
    go_wp2_with fail
    refine (laws_alive _).mono ?_
    rintro e w4 ⟨rfl, hb4⟩
    have HB4 := below_step HB2 hb4 HB2.size
    go_wp2
    all_goals (go_ret; exact ⟨rfl, HB4⟩)
  · obtain ⟨hv, hx⟩ := hh
    obtain ⟨h0, h1, h2, h3, h4⟩ := Pl.lv_t hv
    obtain ⟨_, _, x2, x3⟩ := Pl.wv_t hx
    have hmp := Pl.many_pos hv
    have hp := Pl.pw_lt k h1
    have e1 := Pl.lanesOf_t hv hx
    have e2 := Pl.lanes_len l x (Pl.many k l)
    have e3 := Pl.many_int hv
    have e4 := Pl.lanesNone_t hv hx
    obtain ⟨b0, b1⟩ := Pl.joinI_bd k l _ hv (Pl.noneL_lt h2 x)
    have HV := Lib.hid hv
    have HX := Lib.hid hx
    have H4 := Lib.hid h4
    clear hv hx h4
    go_wp2_with fail
    refine (impl_LanesNone k l x _).mono ?_
    rw [e4]
    rintro e w1 ⟨rfl, hb1⟩
    go_wp2_with fail
    refine (spec_LanesNone k l x _).mono ?_
    rw [e4]
    rintro e w' ⟨rfl, rfl⟩
    go_wp2_with fail
    refine (impl_LanesOf k l x _).mono ?_
    rintro e w2 hh
    rw [e1] at hh
    obtain ⟨A, c, rfl, own1, hb2⟩ := ownInts_n hh e2
    have r1 := rd_own own1
    have HB2 := below_step (below_step HB0 hb1 HB0.size) hb2 (by have := HB0.size; have := hb1.size; omega)
    obtain ⟨b, off, rfl, _, hc⟩ := r1.pos (by omega)
    have HC := Lib.hid hc
    have HB3 := Lib.hid HB2
    clear hc r1 HB2 HB0 hb1 hb2 own1 hh e1 e2 e4
    have hat : ∀ j, j ≤ Pl.many k l → 0 ≤ (j : Int) * l ∧ (j : Int) * l ≤ k := fun j hj => Pl.at_bd HV.out hj
    have hbd : ∀ j, j ≤ Pl.many k l → 0 ≤ Pl.joinI l (Pl.noneL l x) j ∧ Pl.joinI l (Pl.noneL l x) j < 4096 := fun j hj => by
      have q1 := Pl.joinI_lt l (Pl.noneL l x) (by omega) (Pl.noneL_lt h2 x) j
      have q2 := Pl.pw_le _ _ (hat j hj).2
      omega
    have HAT := Lib.hid hat
    have HBD := Lib.hid hbd
    clear hat hbd
    generalize hm : Pl.many k l = m at *
    have HM := Lib.hid hm
    clear hm
    have hE := Lib.hid e3
    clear e3
    go_wp2_with fail
    go_loop [8, 9] (fun v i => ∃ j : Nat, j ≤ m ∧ i = .int .i64 j ∧ v = .int .i64 (Pl.joinI l (Pl.noneL l x) j)) (fun _ i => m - (intOf i).toNat)
    case atStart => exact ⟨0, by omega, rfl, rfl⟩
    case round =>
      obtain ⟨j, hj, rfl, rfl⟩ := hrel
      by_cases hlt : j < m
      · have hin : (j : Int) < (m : Int) := by omega
        have hj0 : (0 : Int) ≤ j := by omega
        obtain ⟨a0, a1⟩ := HAT.out j hj
        have hs := Pl.none_step l x j h2
        obtain ⟨g0, g1⟩ := HBD.out j hj
        obtain ⟨g2, g3⟩ := HBD.out (j + 1) hlt
        have hw := Pl.wrap_pw ((j : Int) * l + l - 1) (by omega) (by omega)
        have c1 : w2.cell? ⟨b, off + j, none⟩ = some (.int .i64 (Pl.lane l x j)) := HC.out j _ (I64_get (Pl.lanes_get _ _ _ _ (by omega)))
        by_cases hz : Pl.lane l x j = 0
        · rw [if_pos hz] at hs
          rw [hz] at c1
          rw [hs] at g2 g3
          have HS := Lib.hid hs
          have hw2 : wrap64 (2 ^ (((j : Int) * l + l).toNat - 1)) = Pl.pw ((j : Int) * l + l - 1) := by rw [← hw, show ((j : Int) * l + l - 1).toNat = ((j : Int) * l + l).toNat - 1 by omega]
          have HW := Lib.hid hw2
          clear hs hz hw hw2
          go_wp2_with fail
          go_round
          case rel => exact ⟨j + 1, by omega, by go_num, by rw [HS.out, HW.out]; exact congrArg (Value.int .i64) (Pl.wrap64_small _ (by omega) (by omega))⟩
          case measure => simp [intOf]; omega
        · rw [if_neg hz] at hs
          have HS := Lib.hid hs
          clear hs
          go_wp2_with fail
          go_round
          case rel => exact ⟨j + 1, by omega, by go_num, by rw [HS.out]⟩
          case measure => simp [intOf]; omega
      · obtain rfl : j = m := by omega
        have e3 := hE.out
        go_wp2_with fail
        go_ret
        exact ⟨rfl, HB3.out⟩
end Go.Proofs.Ytanaafdnnjkimaa
