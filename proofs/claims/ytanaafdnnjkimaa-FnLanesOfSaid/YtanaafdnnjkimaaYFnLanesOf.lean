/-
  The law FnLanesOf: for every code it returns true.
  Conditions: none.
-/
import Derived.Test.YtanaafdnnjkimaaLa
import Derived.Test.YtanaafdnnjkimaaPj
namespace Go.Proofs.Ytanaafdnnjkimaa
set_option linter.unusedVariables false
set_option linter.unusedSimpArgs false
open Go.RowKit
set_option maxHeartbeats 1000000 in
theorem law_FnLanesOf (a0 : Option Addr) (len0 cap0 : Nat) (z0 : List Int) (w : World) (w0 : IsRow .u8 w a0 len0 cap0 z0) :
    Calls Try.prog 5 #[.slice a0 len0 cap0] w fun e w' => e = .returned (.bool true) ∧ Below w.heap.size w w' := by
  obtain ⟨hc, hl, hm⟩ := code_of_row w0
  clear w0
  have hm' := hm
  unfold maxLen at hm'
  by_cases hbig : 1048576 < len0
  · have hbi : (1048576 : Int) < len0 := by omega
    go_enter Try.func5, Try.ntmps5
    go_wp2
    go_ret
    exact ⟨rfl, Below.refl _ _⟩
  have hbi : ¬ (1048576 : Int) < len0 := by omega
  go_enter Try.func5, Try.ntmps5
  go_wp2_with fail
  refine (spec_DrawLanesOf a0 len0 cap0 _ hc hl hm).mono ?_
  rintro e v0 ⟨k, l, x, rfl, k0, k1, l0, l1, x0, x1, HB0⟩
  clear hc hl hm hm' hbig
  rcases three (Pl.lv k l) (Pl.wvB k x = true) with hv | ⟨hv, hx⟩ | ⟨hv, hx⟩
  · have e1 : Pl.lanesOf k l x = [] := Pl.lanesOf_f (by simp [hv])
    go_wp2_with fail
    refine (impl_LanesOf k l x _).mono ?_
    rintro e w1 ⟨A, c, rfl, own1, hb1⟩
    go_wp2_with fail
    refine (spec_LanesOf k l x _).mono ?_
    rintro e w2 ⟨A2, c2, rfl, own2, hb2⟩
    rw [e1] at *
    have HB2 := below_step (below_step HB0 hb1 HB0.size) hb2 (by have := HB0.size; have := hb1.size; omega)
    clear hb1 hb2 own1 own2
    go_wp2_with fail
    refine (laws_sameInts _ _ _ _ _ _ 0 [] [] _ Rd.zero Rd.zero (by simp) (by simp)).mono ?_
    rintro e w3 ⟨rfl, q, rfl⟩
    go_wp2_with fail
    refine (laws_alive _).mono ?_
    rintro e w4 ⟨rfl, hb4⟩
    have HB4 := below_step (below_drewN HB2 q) hb4 (by simpa using HB2.size)
    go_wp2
    all_goals (go_ret; exact ⟨rfl, HB4⟩)
  · obtain ⟨h0, h1, h2, h3, h4⟩ := Pl.lv_t hv
    obtain ⟨_, _, x2, x3⟩ := Pl.wv_t hx
    have hmp := Pl.many_pos hv
    have hp := Pl.pw_lt k h1
    have e1 := Pl.lanesOf_t hv hx
    have e2 := Pl.lanes_len l x (Pl.many k l)
    have e3 := Pl.many_int hv
    have HV := Lib.hid hv
    have HX := Lib.hid hx
    have H4 := Lib.hid h4
    clear hv hx h4
    go_wp2_with fail
    refine (impl_LanesOf k l x _).mono ?_
    rintro e w1 hh
    rw [e1] at hh
    obtain ⟨A, c, rfl, own1, hb1⟩ := ownInts_n hh e2
    go_wp2_with fail
    refine (spec_LanesOf k l x _).mono ?_
    rintro e w2 hh2
    rw [e1] at hh2
    obtain ⟨A2, c2, rfl, own2, hb2⟩ := ownInts_n hh2 e2
    have r1 := ((rd_own own1).below hb2).more hb2.size
    have r2 := rd_own own2
    have HB2 := below_step (below_step HB0 hb1 HB0.size) hb2 (by have := HB0.size; have := hb1.size; omega)
    clear hb1 hb2 own1 own2 hh hh2 e1
    have E2 := Lib.hid e2
    clear e2
    go_wp2_with fail
    refine (laws_sameInts _ _ _ _ _ _ _ _ _ _ r1 r2 (by omega) (by omega)).mono ?_
    rintro e w3 ⟨rfl, q, rfl⟩
    obtain ⟨b, off, rfl, _, hc⟩ := r1.pos (by omega)
    have HC := Lib.hid hc
    have HB3 := Lib.hid HB2
    clear hc r1 r2 HB2 HB0
    generalize hm : Pl.many k l = m at *
    have HM := Lib.hid hm
    clear hm
    have hmz : ((m : Int) == 0) = false := by rw [beq_eq_false_iff_ne]; omega
    have hE := Lib.hid e3
    clear e3
    have hT := Lib.hid (Pl.sum_top k l x HV.out HX.out)
    go_wp2_with fail
    go_loopw [7, 8] (fun v i wr => ∃ (t : Int) (j q : Nat), j ≤ m ∧ t + 1 = j ∧ i = .int .i64 t ∧ v = .int .i64 (x / Pl.pw (j * l)) ∧ wr = w2.drewN q) (fun _ i _ => (intOf i + 1).toNat)
    case atStart => exact ⟨m - 1, m, q, Nat.le_refl _, by omega, rfl, by have := hT.out; rw [HM.out] at this; rw [this], rfl⟩
    case round =>
      obtain ⟨t, j, q1, hj, htj, rfl, rfl, rfl⟩ := hrel
      by_cases ht : 0 ≤ t
      · obtain ⟨i, rfl⟩ := Int.eq_ofNat_of_zero_le ht
        obtain rfl : j = i + 1 := by omega
        clear htj
        have hin : (i : Int) < (m : Int) := by omega
        have hl0 : (0 : Int) ≤ l := by omega
        have c1 : w2.cell? ⟨b, off + i, none⟩ = some (.int .i64 (Pl.lane l x i)) := HC.out i _ (I64_get (Pl.lanes_get _ _ _ _ (by omega)))
        go_wp2_with fail
        go_quiet (fail)
        go_wp2_with fail
        refine (impl_WordValid _ _ _).mono ?_
        rintro e w' ⟨rfl, rfl⟩
        have hw := Pl.lane_word HV.out x i
        go_wp2_with fail
        go_roundw
        case rel =>
          refine ⟨(i : Int) - 1, i, q1 + nq, by omega, by omega, by go_num, ?_, by first | rfl | rw [World.drewN_drewN]⟩
          exact congrArg (Value.int .i64) (Pl.sum_wrap l x i hl0 x2 x1)
        case measure => simp [intOf]; try omega
      · obtain rfl : j = 0 := by omega
        have hend := Pl.sum_end l x
        rw [hend]
        clear hend htj
        go_wp2_with fail
        go_ret
        exact ⟨ret_bool (by rw [hE.out]; simp), below_drewN HB3.out _⟩
  · have e1 : Pl.lanesOf k l x = [] := Pl.lanesOf_f (fun h => hx h.2)
    clear hx
    go_wp2_with fail
    refine (impl_LanesOf k l x _).mono ?_
    rintro e w1 ⟨A, c, rfl, own1, hb1⟩
    go_wp2_with fail
    refine (spec_LanesOf k l x _).mono ?_
    rintro e w2 ⟨A2, c2, rfl, own2, hb2⟩
    rw [e1] at *
    have HB2 := below_step (below_step HB0 hb1 HB0.size) hb2 (by have := HB0.size; have := hb1.size; omega)
    clear hb1 hb2 own1 own2
    go_wp2_with fail
    refine (laws_sameInts _ _ _ _ _ _ 0 [] [] _ Rd.zero Rd.zero (by simp) (by simp)).mono ?_
    rintro e w3 ⟨rfl, q, rfl⟩
    go_wp2_with fail
    refine (laws_alive _).mono ?_
    rintro e w4 ⟨rfl, hb4⟩
    have HB4 := below_step (below_drewN HB2 q) hb4 (by simpa using HB2.size)
    go_wp2
    all_goals (go_ret; exact ⟨rfl, HB4⟩)
end Go.Proofs.Ytanaafdnnjkimaa
