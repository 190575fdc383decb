/-
  The law FnLanesSub: for every code it returns true.
  Conditions: none.
-/
import Derived.Test.YtanaafdnnjkimaaLa
import Derived.Test.YtanaafdnnjkimaaPj
import Derived.Test.YtanaafdnnjkimaaW6
import Derived.Test.YtanaafdnnjkimaaW7
namespace Go.Proofs.Ytanaafdnnjkimaa
set_option linter.unusedVariables false
set_option linter.unusedSimpArgs false
open Go.RowKit
set_option maxHeartbeats 1000000 in
theorem law_FnLanesSub (a0 : Option Addr) (len0 cap0 : Nat) (z0 : List Int) (w : World) (w0 : IsRow .u8 w a0 len0 cap0 z0) :
    Calls Try.prog 9 #[.slice a0 len0 cap0] w fun e w' => e = .returned (.bool true) ∧ Below w.heap.size w w' := by
  obtain ⟨hc, hl, hm⟩ := code_of_row w0
  clear w0
  have hm' := hm
  unfold maxLen at hm'
  by_cases hbig : 1048576 < len0
  · have hbi : (1048576 : Int) < len0 := by omega
    go_enter Try.func9, Try.ntmps9
    go_wp2
    go_ret
    exact ⟨rfl, Below.refl _ _⟩
  have hbi : ¬ (1048576 : Int) < len0 := by omega
  go_enter Try.func9, Try.ntmps9
  go_wp2_with fail
  refine (spec_DrawLanesSub a0 len0 cap0 _ hc hl hm).mono ?_
  rintro e v0 ⟨k, l, x, y, rfl, k0, k1, l0, l1, x0, x1, y0, y1, HB0⟩
  clear hc hl hm hm' hbig
  by_cases hh : Pl.lv k l = true ∧ Pl.v2 k x y = true
  rotate_left
  · have e1 : Pl.lanesSub k l x y = -1 := by unfold Pl.lanesSub; rw [if_neg hh]
    clear hh
    go_wp2_with fail
    refine (impl_LanesSub k l x y _).mono ?_
    rintro e w1 ⟨rfl, hb1⟩
    go_wp2_with fail
    refine (spec_LanesSub k l x y _).mono ?_
    rintro e w' ⟨rfl, rfl⟩
    have HB2 := below_step HB0 hb1 HB0.size
    clear hb1
    go_wp2_with fail
    refine (laws_alive _).mono ?_
    rintro e w4 ⟨rfl, hb4⟩
    have HB4 := below_step HB2 hb4 HB2.size
    go_wp2
    all_goals (go_ret; exact ⟨rfl, HB4⟩)
  · obtain ⟨hv, hx⟩ := hh
    obtain ⟨h0, h1, h2, h3, h4⟩ := Pl.lv_t hv
    have hmp := Pl.many_pos hv
    have hp := Pl.pw_lt k h1
    have hz := Pl.sub_word hv hx
    have e1 := Pl.lanesOf_t hv (Pl.v2_l hx)
    have e2 := Pl.lanesOf_t hv (Pl.v2_r hx)
    have e3 := Pl.lanesOf_t hv hz
    have hL := fun i hi => Pl.sub_lane hv hx i hi
    obtain ⟨_, _, b0, b1⟩ := Pl.wv_t hz
    have hmz : ((Pl.many k l : Int) == 0) = false := by rw [beq_eq_false_iff_ne]; omega
    have hbk := Lib.hid (Pl.sub_back hv hx)
    have HL := Lib.hid hL
    clear hv hx hz h4 hL
    generalize hz : Pl.lanesSub k l x y = z at *
    have HZ := Lib.hid hz
    clear hz
    go_wp2_with fail
    refine (impl_LanesSub k l x y _).mono ?_
    rw [HZ.out]
    rintro e w1 ⟨rfl, hb1⟩
    go_wp2_with fail
    refine (spec_LanesSub k l x y _).mono ?_
    rw [HZ.out]
    rintro e w' ⟨rfl, rfl⟩
    go_wp2_with fail
    refine (impl_LanesOf k l x _).mono ?_
    rintro e w2 hh
    rw [e1] at hh
    obtain ⟨A1, c1, rfl, own1, hb2⟩ := ownInts_n hh (Pl.lanes_len l x (Pl.many k l))
    go_wp2_with fail
    refine (impl_LanesOf k l y _).mono ?_
    rintro e w3 hh2
    rw [e2] at hh2
    obtain ⟨A2, c2, rfl, own2, hb3⟩ := ownInts_n hh2 (Pl.lanes_len l y (Pl.many k l))
    go_wp2_with fail
    refine (impl_LanesOf k l z _).mono ?_
    rintro e w4 hh3
    rw [e3] at hh3
    obtain ⟨A3, c3, rfl, own3, hb4⟩ := ownInts_n hh3 (Pl.lanes_len l z (Pl.many k l))
    have z0 := HB0.size
    have z1 := hb1.size
    have z2 := hb2.size
    have z3 := hb3.size
    have z4 := hb4.size
    have r1 := (((rd_own own1).below hb3).more z3).below hb4 |>.more z4
    have r2 := ((rd_own own2).below hb4).more z4
    have r3 := rd_own own3
    have HB2 := below_step (below_step (below_step (below_step HB0 hb1 z0) hb2 (by omega)) hb3 (by omega)) hb4 (by omega)
    obtain ⟨g1, o1, rfl, gl1, hc1⟩ := r1.pos (by omega)
    obtain ⟨g2, o2, rfl, gl2, hc2⟩ := r2.pos (by omega)
    obtain ⟨g3, o3, rfl, gl3, hc3⟩ := r3.pos (by omega)
    have HC1 := Lib.hid hc1
    have HC2 := Lib.hid hc2
    have HC3 := Lib.hid hc3
    have HB3 := Lib.hid HB2
    clear hc1 hc2 hc3 r1 r2 r3 HB2 HB0 hb1 hb2 hb3 hb4 own1 own2 own3 hh hh2 hh3 e1 e2 e3 z0 z1 z2 z3 z4
    generalize hm : Pl.many k l = m at *
    have HM := Lib.hid hm
    clear hm
    go_wp2_with fail
    go_loopw [11] (fun i wr => ∃ j : Nat, j ≤ m ∧ i = .int .i64 j ∧ Below w4.heap.size w4 wr) (fun i _ => m - (intOf i).toNat)
    case atStart => exact ⟨0, by omega, rfl, Below.refl _ _⟩
    case round =>
      obtain ⟨j, hj, rfl, hb5⟩ := hrel
      by_cases hlt : j < m
      · have hin : (j : Int) < (m : Int) := by omega
        have hj0 : (0 : Int) ≤ j := by omega
        have d1 : wr.cell? ⟨g1, o1 + j, none⟩ = some (.int .i64 (Pl.lane l x j)) := (hb5.cell (p := ⟨g1, o1 + j, none⟩) gl1).trans (HC1.out j _ (I64_get (Pl.lanes_get _ _ _ _ hlt)))
        have d2 : wr.cell? ⟨g2, o2 + j, none⟩ = some (.int .i64 (Pl.lane l y j)) := (hb5.cell (p := ⟨g2, o2 + j, none⟩) gl2).trans (HC2.out j _ (I64_get (Pl.lanes_get _ _ _ _ hlt)))
        have d3 : wr.cell? ⟨g3, o3 + j, none⟩ = some (.int .i64 (Pl.lane l z j)) := (hb5.cell (p := ⟨g3, o3 + j, none⟩) gl3).trans (HC3.out j _ (I64_get (Pl.lanes_get _ _ _ _ hlt)))
        have hq := HL.out j hlt
        have hz5 := hb5.size
        rw [hq] at d3
        have HQ := Lib.hid hq
        clear hq
        go_wp2_with fail
        go_region_held3 (fun w' => w'.cell? ⟨g1, o1 + j, none⟩ = some (.int .i64 (Pl.lane l x j)) ∧ w'.cell? ⟨g2, o2 + j, none⟩ = some (.int .i64 (Pl.lane l y j)) ∧ w'.cell? ⟨g3, o3 + j, none⟩ = some (.int .i64 (Pl.wordSub l (Pl.lane l x j) (Pl.lane l y j)))) (first | go_keep | (exact ⟨(hb6.cell (p := ⟨g1, o1 + j, none⟩) (show g1 < wr.heap.size by omega)).trans d1, (hb6.cell (p := ⟨g2, o2 + j, none⟩) (show g2 < wr.heap.size by omega)).trans d2, (hb6.cell (p := ⟨g3, o3 + j, none⟩) (show g3 < wr.heap.size by omega)).trans d3⟩)) ((go_at_call 34; refine (impl_WordSub l (Pl.lane l x j) (Pl.lane l y j) _).mono ?_; rintro e w6 ⟨rfl, hb6⟩))
        all_goals go_wp2_with fail
        all_goals go_roundw
        case rel => exact ⟨j + 1, by omega, by go_num, hb5.trans ((⟨hb6.os, hb6.tape, hb6.output, hb6.size, hb6.block⟩ : Below wr.heap.size wr w6).mono hz5)⟩
        case measure => simp [intOf]; omega
      · obtain rfl : j = m := by omega
        have HB5 := below_step HB3.out hb5 (HB3.out.size)
        go_wp2_with fail
        refine (impl_LanesAdd k l z y _).mono ?_
        rw [hbk.out]
        rintro e w7 ⟨rfl, hb7⟩
        have HB7 := below_step HB5 hb7 HB5.size
        go_wp2_with fail
        go_ret
        exact ⟨ret_bool (by simp), HB7⟩
end Go.Proofs.Ytanaafdnnjkimaa
