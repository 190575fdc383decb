/-
  The exact law of BenchValue: for every bench the program and the reference agree, and the bench is as it was.
  Conditions: none.
-/
import Derived.Test.YtfnolajhhdnpoaaB7
namespace Go.Proofs.Ytfnolajhhdnpoaa
set_option linter.unusedVariables false
set_option linter.unusedSimpArgs false
open Go.RowKit
set_option maxHeartbeats 4000000 in
theorem law_FnExactBenchValue (v0 : Value) (w : World) (w0 : IsBench w v0) :
    Calls Try.prog 4 #[v0] w fun e w' => e = .returned (.bool true) ∧ Below w.heap.size w w' := by
  obtain ⟨b, A, P, n, c, m, d, rfl, hx, hp, hn, hm, hs⟩ := w0
  obtain ⟨wb, hwb⟩ : ∃ wb, wb = w.alloc (.cells #[.int .i64 b.k, .int .i64 b.x, .int .i64 b.y, .slice A n c, .slice P m d] 25) := ⟨_, rfl⟩
  have hzb : wb.heap.size = w.heap.size + 1 := by rw [hwb]; simp
  have HBB : Below w.heap.size w wb := by rw [hwb]; exact (Below.refl _ _).alloc (Nat.le_refl _) _
  have K0 : Blk wb w.heap.size 25 #[.int .i64 b.k, .int .i64 b.x, .int .i64 b.y, .slice A n c, .slice P m d] := by rw [hwb]; exact Blk.new w _ _
  have HX := Lib.hid hx
  have HP := Lib.hid hp
  have CSZ := Lib.hid (fun w' h hB => laws_szBench b.k b.x b.y A P n c m d w.heap.size b.past w' h hB hn hm hs)
  have hf := Lib.hid (fun (h : 0 ≤ szB n b.past) => szB_f (n := n) (ts := b.past) (by omega))
  have lp : b.past.length = m := by have := hp.len; rwa [Tx_len] at this
  clear hs hx hp
  show Calls _ _ #[.agg #[.int .i64 b.k, .int .i64 b.x, .int .i64 b.y, .slice A n c, .slice P m d]] _ _
  go_enter Try.func4, Try.ntmps4
  go_wp2_with fail
  rw [← hwb]
  clear hwb
  refine (CSZ.out _ (HP.out.below HBB) (by omega)).mono ?_
  rintro e w1 ⟨rfl, hb1⟩
  have hz1 := hb1.size
  have K0 := K0.below hb1 (by omega)
  have HB1 := HBB.trans (hb1.mono (by omega))
  by_cases hneg : szB n b.past < 0
  · clear K0
    go_wp2_with fail
    go_ret
    exact ⟨rfl, HB1⟩
  · obtain ⟨n0, m0, s0⟩ := hf.out (by omega)
    have HS := Lib.hid s0
    rw [lp] at m0
    have a0 : w1.cell? ⟨w.heap.size, 0, none⟩ = some (.int .i64 b.k) := K0.cell 0
    have a1 : w1.cell? ⟨w.heap.size, 1, none⟩ = some (.int .i64 b.x) := K0.cell 1
    have a2 : w1.cell? ⟨w.heap.size, 2, none⟩ = some (.int .i64 b.y) := K0.cell 2
    have a3 : w1.cell? ⟨w.heap.size, 3, none⟩ = some (.slice A n c) := K0.cell 3
    have a4 : w1.cell? ⟨w.heap.size, 4, none⟩ = some (.slice P m d) := K0.cell 4
    clear s0 hf CSZ
    go_wp2_with fail
    refine (laws_toBench b A P n c m d w.heap.size w1 (HX.out.below HB1) (HP.out.below HB1) (by omega) (by omega) (by omega)).mono ?_
    rintro e w2 ⟨A2, P2, c2, d2, rfl, own2, ownp2, hb2⟩
    have hz2 := hb2.size
    have HB2 := HB1.trans (hb2.mono (by omega))
    have K0 := K0.below hb2 (by omega)
    clear a0 a1 a2 a3 a4
    go_wp2_with fail
    refine (spec_BenchValue b A2 P2 n c2 m d2 w2.heap.size w2 (rd_own own2) (rd_own ownp2) (Nat.le_refl _) (by omega) (by omega) (fun s hs => by have := HS.out s hs; omega)).mono ?_
    rintro e w3 ⟨rfl, hb3⟩
    have hz3 := hb3.size
    have HB3 := HB2.trans (hb3.mono (by omega))
    have K0 := K0.below hb3 (by omega)
    have a0 : w3.cell? ⟨w.heap.size, 0, none⟩ = some (.int .i64 b.k) := K0.cell 0
    have a1 : w3.cell? ⟨w.heap.size, 1, none⟩ = some (.int .i64 b.x) := K0.cell 1
    have a2 : w3.cell? ⟨w.heap.size, 2, none⟩ = some (.int .i64 b.y) := K0.cell 2
    have a3 : w3.cell? ⟨w.heap.size, 3, none⟩ = some (.slice A n c) := K0.cell 3
    have a4 : w3.cell? ⟨w.heap.size, 4, none⟩ = some (.slice P m d) := K0.cell 4
    clear own2 ownp2
    go_wp2_with fail
    refine (laws_toBench b A P n c m d w.heap.size w3 (HX.out.below HB3) (HP.out.below HB3) (by omega) (by omega) (by omega)).mono ?_
    rintro e w4 ⟨A4, P4, c4, d4, rfl, own4, ownp4, hb4⟩
    have hz4 := hb4.size
    have HB4 := HB3.trans (hb4.mono (by omega))
    have K0 := K0.below hb4 (by omega)
    clear a0 a1 a2 a3 a4
    unfold benchV
    go_wp2_with fail
    have hw5 : Below w4.heap.size w4 (w4.alloc (.cells #[.int .i64 b.k, .int .i64 b.x, .int .i64 b.y, .slice A4 n c4, .slice P4 m d4] 28)) := (Below.refl _ _).alloc (Nat.le_refl _) _
    have KX := Blk.new w4 28 #[.int .i64 b.k, .int .i64 b.x, .int .i64 b.y, .slice A4 n c4, .slice P4 m d4]
    have K0 := K0.below hw5 (by omega)
    refine (impl_BenchValue b A4 P4 n c4 m d4 w4.heap.size _ ((rd_own own4).below hw5) ((rd_own ownp4).below hw5) (by simp) (by omega) (by omega) (fun s hs => by have := HS.out s hs; omega)).mono ?_
    rintro e w5 ⟨rfl, hb5⟩
    have hz5 : w4.heap.size + 1 ≤ w5.heap.size := by have := hb5.size; simpa using this
    have HB45 := hw5.trans (hb5.mono (by simp))
    have HB5 := HB4.trans (HB45.mono (by omega))
    have K0 := K0.below hb5 (by simp; omega)
    have KX := KX.below hb5 (by simp)
    have own5 := own_below own4 HB45
    have ownp5 := own_below ownp4 HB45
    have a0 : w5.cell? ⟨w.heap.size, 0, none⟩ = some (.int .i64 b.k) := K0.cell 0
    have a1 : w5.cell? ⟨w.heap.size, 1, none⟩ = some (.int .i64 b.x) := K0.cell 1
    have a2 : w5.cell? ⟨w.heap.size, 2, none⟩ = some (.int .i64 b.y) := K0.cell 2
    have a3 : w5.cell? ⟨w.heap.size, 3, none⟩ = some (.slice A n c) := K0.cell 3
    have a4 : w5.cell? ⟨w.heap.size, 4, none⟩ = some (.slice P m d) := K0.cell 4
    have e0 : w5.cell? ⟨w4.heap.size, 0, none⟩ = some (.int .i64 b.k) := KX.cell 0
    have e1 : w5.cell? ⟨w4.heap.size, 1, none⟩ = some (.int .i64 b.x) := KX.cell 1
    have e2 : w5.cell? ⟨w4.heap.size, 2, none⟩ = some (.int .i64 b.y) := KX.cell 2
    have e3 : w5.cell? ⟨w4.heap.size, 3, none⟩ = some (.slice A4 n c4) := KX.cell 3
    have e4 : w5.cell? ⟨w4.heap.size, 4, none⟩ = some (.slice P4 m d4) := KX.cell 4
    have hvv : (Pl.benchValue b != Pl.benchValue b) = false := by simp
    have CT := Lib.hid (laws_toBench b A P n c m d w.heap.size w5.drew (HX.out.below (HB5.trans (Below.refl _ _).drew)) (HP.out.below (HB5.trans (Below.refl _ _).drew)) (show w.heap.size ≤ w5.heap.size by omega) (by omega) (by omega))
    have O5 := Lib.hid own5
    have OP5 := Lib.hid ownp5
    have HBX := Lib.hid HB5
    clear K0 KX own4 ownp4 own5 ownp5 hb5 hw5 HB45 HB5 hb4 hb3 hb2 hb1 HB1 HB2 HB3 HB4 HBB
    generalize Pl.benchValue b = V at *
    go_wp2_with fail
    go_region_held3 (fun w' => w'.cell? ⟨w4.heap.size, 0, none⟩ = some (.int .i64 b.k) ∧ w'.cell? ⟨w4.heap.size, 1, none⟩ = some (.int .i64 b.x) ∧ w'.cell? ⟨w4.heap.size, 2, none⟩ = some (.int .i64 b.y) ∧ w'.cell? ⟨w4.heap.size, 3, none⟩ = some (.slice A4 n c4) ∧ w'.cell? ⟨w4.heap.size, 4, none⟩ = some (.slice P4 m d4) ∧ w'.cell? ⟨w.heap.size, 0, none⟩ = some (.int .i64 b.k) ∧ w'.cell? ⟨w.heap.size, 1, none⟩ = some (.int .i64 b.x) ∧ w'.cell? ⟨w.heap.size, 2, none⟩ = some (.int .i64 b.y) ∧ w'.cell? ⟨w.heap.size, 3, none⟩ = some (.slice A n c) ∧ w'.cell? ⟨w.heap.size, 4, none⟩ = some (.slice P m d)) (first | go_keep | (exact ⟨(hbc.cell (p := ⟨w4.heap.size, 0, none⟩) (show w4.heap.size < w5.heap.size by omega)).trans e0, (hbc.cell (p := ⟨w4.heap.size, 1, none⟩) (show w4.heap.size < w5.heap.size by omega)).trans e1, (hbc.cell (p := ⟨w4.heap.size, 2, none⟩) (show w4.heap.size < w5.heap.size by omega)).trans e2, (hbc.cell (p := ⟨w4.heap.size, 3, none⟩) (show w4.heap.size < w5.heap.size by omega)).trans e3, (hbc.cell (p := ⟨w4.heap.size, 4, none⟩) (show w4.heap.size < w5.heap.size by omega)).trans e4, (hbc.cell (p := ⟨w.heap.size, 0, none⟩) (show w.heap.size < w5.heap.size by omega)).trans a0, (hbc.cell (p := ⟨w.heap.size, 1, none⟩) (show w.heap.size < w5.heap.size by omega)).trans a1, (hbc.cell (p := ⟨w.heap.size, 2, none⟩) (show w.heap.size < w5.heap.size by omega)).trans a2, (hbc.cell (p := ⟨w.heap.size, 3, none⟩) (show w.heap.size < w5.heap.size by omega)).trans a3, (hbc.cell (p := ⟨w.heap.size, 4, none⟩) (show w.heap.size < w5.heap.size by omega)).trans a4⟩)) (first
      | (go_at_call 9; refine (CT.out).mono ?_; rintro e w6 ⟨A6, P6, c6, d6, rfl, own6, ownp6, hb6⟩; have hb6 : Below w5.heap.size w5 w6 := ⟨hb6.os, hb6.tape, hb6.output, hb6.size, hb6.block⟩; have hz6 : w5.heap.size ≤ w6.heap.size := hb6.size; have hbc := hb6; have rx := Lib.hid (((rd_own O5.out).below hb6).more hz6); have rp := Lib.hid (((rd_own OP5.out).below hb6).more hz6); have rx' := Lib.hid (rd_own own6); have rp' := Lib.hid (rd_own ownp6); have HB6 := Lib.hid (HBX.out.trans (hb6.mono (by omega))); unfold benchV)
      | (go_at_call 11; refine (laws_eqBench b b A4 A6 P4 P6 n c4 m d4 n c6 m d6 w6.heap.size _ rx.out rp.out rx'.out rp'.out (by exact Nat.le_refl _) (by omega) (by omega) (by omega) (by omega)).mono ?_; rintro e w7 ⟨rfl, hb7⟩; have hbc := hb6.trans ((⟨hb7.os, hb7.tape, hb7.output, hb7.size, hb7.block⟩ : Below w6.heap.size w6 w7).mono hz6)))
    all_goals go_wp2_with fail
    all_goals go_ret
    all_goals exact ⟨by first | rfl | (simp; done), HBX.out.trans (hbc.mono (by omega))⟩
end Go.Proofs.Ytfnolajhhdnpoaa
