/-
  A drawn bench and a drawn list of deeds (DrawBenchRun).
  Conditions: none but those of the model.
-/
import Derived.Test.YtamhpgledbmnoaaGreatD17
import Derived.Deep.DeepMust
namespace Go.Proofs.YtamhpgledbmnoaaGreat
set_option linter.unusedVariables false
set_option linter.unusedSimpArgs false
open Go.RowKit
/-- A small bench of the call's own, and a list of deeds with short texts. -/
def OutBL (w : World) (e : Ending) (w' : World) : Prop := ∃ (v : Value) (b : Pl.Bn) (G n c : Nat) (ds : List Pl.Dd), e = .returned (.tuple #[v, .slice (some ⟨G, 0, none⟩) n c]) ∧ BnO w' w.heap.size v b ∧ Small b ∧ w'.ownsRow w.heap.size 34 3 (.slice (some ⟨G, 0, none⟩) n c) n (D3 ds) ∧ n ≤ 41 ∧ (∀ D ∈ ds, D.t.length ≤ 70) ∧ Below w.heap.size w w'
theorem code8_below3 {w w' : World} {a : Option Addr} {n : Nat} (h : Code8 w a n) (hb : Below w.heap.size w w') : Code8 w' a n := by
  obtain ⟨zs, h1, h2⟩ := h
  exact ⟨zs, (h1.below hb).more hb.size, h2⟩
def cells41 : Array Value := madeCells (Value.agg #[.int .i64 0, .int .i64 0, .string ByteArray.empty]).cells (41 * 3)
theorem cells41_is : cells41.toList = D3 (List.replicate 41 ⟨0, 0, []⟩) := by kernel_rfl
theorem cells41_size : cells41.size = 41 * 3 := size_madeCells _ _
theorem own_base {w : World} {base B size n : Nat} {e : TypeId} {v : Value} {xs : List Value} (h : w.ownsRow base e size v n xs) (hB : B ≤ base) : w.ownsRow B e size v n xs := by
  obtain ⟨h1, h2⟩ := h
  refine ⟨h1, ?_⟩
  rcases h2 with h2 | ⟨g, cap, cur, rfl, a, b, d⟩
  · exact .inl h2
  · exact .inr ⟨g, cap, cur, rfl, by omega, b, d⟩
theorem made41 (w : World) : (Instr.makeSlice 40 (.int .i64 41) (.int .i64 41)).run Tryz.prog w = .ok (.slice (some ⟨w.heap.size, 0, none⟩) 41 41) (w.alloc (.cells cells41 34)) := by
  obtain ⟨i0, hi0, hz0, hz1, hz2⟩ := info_parts deed_infoA
  have := run_make (P := Tryz.prog) (w := w) 40 34 i0 _ Tryz.underlying40 hi0 hz0 .i64 .i64 41 41 (by omega) (by omega) (by rw [hz2]; omega) (by omega)
  rw [hz1] at this
  exact this
theorem made41_own (w : World) (B : Nat) (hB : B ≤ w.heap.size) : (w.alloc (.cells cells41 34)).ownsRow B 34 3 (.slice (some ⟨w.heap.size, 0, none⟩) 41 41) 41 (D3 (List.replicate 41 ⟨0, 0, []⟩)) := by
  rw [← cells41_is]
  exact World.ownsRow_lit w cells41 41 hB (by simp [maxLen]) cells41_size
set_option maxRecDepth 100000 in
set_option maxHeartbeats 4000000 in
theorem spec_DrawBenchRun (a : Option Addr) (n c : Nat) (w : World) (h : Code8 w a n) (hc : n ≤ c) (hm : c ≤ maxLen) :
    Calls Tryz.prog 15 #[.slice a n c] w (OutBL w) := by
  obtain ⟨g, hg⟩ : ∃ g, w.heap.size = g := ⟨_, rfl⟩
  obtain ⟨w0, hw0⟩ : ∃ w0, w0 = w.alloc (.cells #[.int .i64 0, .int .i64 0, .int .i64 0, .slice none 0 0, .slice none 0 0] 30) := ⟨_, rfl⟩
  have hz0 : w0.heap.size = g + 1 := by rw [hw0, ← hg]; simp
  have HB0 : Below w.heap.size w w0 := by rw [hw0]; exact (Below.refl _ _).alloc (Nat.le_refl _) _
  have h0 := code8_below3 h HB0
  have K0 : Blk w0 g 30 #[.int .i64 0, .int .i64 0, .int .i64 0, .slice none 0 0, .slice none 0 0] := by rw [hw0, ← hg]; exact Blk.new w _ _
  clear h
  go_enter Tryz.func15, Tryz.ntmps15
  go_upto_region 1 with (fail)
  rw [← hw0]
  clear hw0
  go_wp2_with (with_reducible refine AtEnd.of ?_)
  refine (spec_l20Open a n c w0 h0 hc hm).mono ?_
  rintro e w1 ⟨R, rfl, hR, hr, hb⟩
  have K0 := K0.below hb (by omega)
  have HB1 := HB0.trans (hb.mono (by omega))
  have hz1 := hb.size
  clear hb h0
  go_wp2_with (with_reducible refine AtEnd.of ?_)
  refine (spec_l20Bench R 0 12 _ hr (by omega) (by omega)).mono ?_
  rintro e w2 ⟨v, ⟨k, x, y, E, ts⟩, rfl, ⟨A, P, n1, c1, m, d, rfl, o, p⟩, SM, hr2, hg2⟩
  have K0 := K0.grown hg2 (by intro e; injection e; omega)
  have HB2 := HB1.grown hg2 HB1.size (fun k hk => by injection hk with hk; omega)
  have hz2 := hg2.size
  have hgR' : R < w1.heap.size := hr.lt
  have hgR : g + 1 ≤ R := by omega
  have SM := Lib.hid SM
  clear HB1 hr hg2
  unfold benchV
  obtain ⟨D, hD⟩ : ∃ D, w2.heap.size = D := ⟨_, rfl⟩
  obtain ⟨w3, hw3⟩ : ∃ w3, w3 = w2.alloc (.cells #[.int .i64 k, .int .i64 x, .int .i64 y, .slice A n1 c1, .slice P m d] 30) := ⟨_, rfl⟩
  go_upto_region 3 with (fail)
  rw [← hw3]
  have KD : Blk w3 D 30 #[.int .i64 k, .int .i64 x, .int .i64 y, .slice A n1 c1, .slice P m d] := by rw [hw3, ← hD]; exact Blk.new w2 _ _
  have K0 : Blk w3 g 30 #[.int .i64 0, .int .i64 0, .int .i64 0, .slice none 0 0, .slice none 0 0] := by rw [hw3]; exact K0.alloc _
  have o3 : ORow w3 w1.heap.size 3 A n1 c1 (I64 E) := by rw [hw3]; exact o.alloc _
  have p3 : ORow w3 w1.heap.size 9 P m d (Tx ts) := by rw [hw3]; exact p.alloc _
  have hr3 : Rdr w3 R (0 + 1400) := by rw [hw3]; exact hr2.alloc _
  have HB3 : Below w.heap.size w w3 := by rw [hw3]; exact HB2.alloc (by omega) _
  have hDR : D ≠ R := by have := hr2.lt; omega
  have hz3 : w3.heap.size = D + 1 := by rw [hw3, ← hD]; simp
  clear hw3 HB2 hr2 o p
  go_wp2_with (with_reducible refine AtEnd.of ?_)
  refine (spec_odd R (0 + 1400) 30 _ hr3 (by omega) (by omega)).mono ?_
  rintro e w4 ⟨od, rfl, _, hr4, hg4⟩
  have KD := KD.grown hg4 (by intro e; injection e; omega)
  have K0 := K0.grown hg4 (by intro e; injection e; omega)
  have o4 := o3.grown hg4 (by omega)
  have p4 := p3.grown hg4 (by omega)
  have HB4 := HB3.grown hg4 (by omega) (fun k hk => by injection hk with hk; omega)
  have hz4 := hg4.size
  have hDw : D < w4.heap.size := KD.lt
  have hgD : g ≠ D := by omega
  clear hg4 hr3 o3 p3 HB3
  cases od
  · -- a list is drawn
    have CD := Lib.hid (fun w' h o p hB => spec_l20Deeds R (0 + 1400 + 1) ⟨k, x, y, E, ts⟩ A P n1 c1 m d w1.heap.size w' h (by omega) o p hgR' hB SM.out)
    have hr4h := Lib.hid hr4
    have o4h := Lib.hid o4
    have p4h := Lib.hid p4
    have KDh := Lib.hid KD
    have K0h := Lib.hid K0
    have HB4h := Lib.hid HB4
    obtain ⟨x0, x1, x2, x3, x4⟩ := blk5c KD
    clear o4 p4 KD K0 hr4 HB4
    go_upto_region 5 with (fail)
    go_region_with (first
      | (go_at_call 49; go_must (refine (CD.out _ (by exact hr4h.out) (by exact o4h.out) (by exact p4h.out) (by first | omega | (simp; omega))).mono ?_; rintro e w5 ⟨L, ln, lc, ds, rfl, OL, hln, hts, hr5, hg5⟩; have HG5 : Hid (w4.grownBy w5 (some R)) := Lib.hid (by first | exact hg5 | exact grown_e0 hg5); have KD5 := KDh.out.grown HG5.out (by intro e; injection e; omega); have K05 := Lib.hid (K0h.out.grown HG5.out (by intro e; injection e; omega)); obtain ⟨y0, y1, y2, y3, y4⟩ := blk5c KD5; obtain ⟨v0, v1, v2, v3, v4⟩ := blk5c K05.out; (have f0 := K05.out.frozen 0); (have f1 := K05.out.frozen 1); (have f2 := K05.out.frozen 2); (have f3 := K05.out.frozen 3); (have f4 := K05.out.frozen 4); have HL5 := Lib.hid OL; have HTS := Lib.hid hts; clear hr5 hg5 hts KD5 OL)))
    all_goals go_wp2_with (with_reducible refine AtEnd.of ?_)
    all_goals (
      have KF := put5_blk (v0 := .int .i64 k) (v1 := .int .i64 x) (v2 := .int .i64 y) (v3 := .slice A n1 c1) (v4 := .slice P m d) K05.out
      have oF := put5_orow_ne (v0 := .int .i64 k) (v1 := .int .i64 x) (v2 := .int .i64 y) (v3 := .slice A n1 c1) (v4 := .slice P m d) (o4h.out.grown HG5.out hgR') K05.out (by decide)
      have pF := put5_orow_ne (v0 := .int .i64 k) (v1 := .int .i64 x) (v2 := .int .i64 y) (v3 := .slice A n1 c1) (v4 := .slice P m d) (p4h.out.grown HG5.out hgR') K05.out (by decide)
      have lF := own_put5 (u0 := .int .i64 k) (u1 := .int .i64 x) (u2 := .int .i64 y) (u3 := .slice A n1 c1) (u4 := .slice P m d) HL5.out K05.out (by decide)
      have bF := put5_below (v0 := .int .i64 k) (v1 := .int .i64 x) (v2 := .int .i64 y) (v3 := .slice A n1 c1) (v4 := .slice P m d) (HB4h.out.grown HG5.out HB4h.out.size (fun k hk => by injection hk with hk; omega)) (show w.heap.size ≤ g by omega)
      exact atEnd_ret (results_cell_tmp Tryz.results15 rfl (load_bench KF) rfl) rfl ⟨_, ⟨k, x, y, E, ts⟩, L, ln, lc, ds, rfl, ⟨A, P, n1, c1, m, d, rfl, oF.mono (by omega), pF.mono (by omega)⟩, SM.out, own_base lF (by have := HB4h.out.size; first | exact this | (simp; exact this)), by omega, HTS.out, bF⟩)
  · -- a list of too many deeds
    have MM := made41
    obtain ⟨x0, x1, x2, x3, x4⟩ := blk5c KD
    obtain ⟨v0, v1, v2, v3, v4⟩ := blk5c K0
    have f0 := K0.frozen 0
    have f1 := K0.frozen 1
    have f2 := K0.frozen 2
    have f3 := K0.frozen 3
    have f4 := K0.frozen 4
    have hgl : g < w4.heap.size := K0.lt
    have KF := (put5_blk (v0 := .int .i64 k) (v1 := .int .i64 x) (v2 := .int .i64 y) (v3 := .slice A n1 c1) (v4 := .slice P m d) K0).alloc (.cells cells41 34)
    have oF := (put5_orow_ne (v0 := .int .i64 k) (v1 := .int .i64 x) (v2 := .int .i64 y) (v3 := .slice A n1 c1) (v4 := .slice P m d) o4 K0 (by decide)).alloc (.cells cells41 34)
    have pF := (put5_orow_ne (v0 := .int .i64 k) (v1 := .int .i64 x) (v2 := .int .i64 y) (v3 := .slice A n1 c1) (v4 := .slice P m d) p4 K0 (by decide)).alloc (.cells cells41 34)
    have hz5 : (put5 w4 g (.int .i64 k) (.int .i64 x) (.int .i64 y) (.slice A n1 c1) (.slice P m d)).heap.size = w4.heap.size := by simp [put5, World.setCell]
    have lF := made41_own (put5 w4 g (.int .i64 k) (.int .i64 x) (.int .i64 y) (.slice A n1 c1) (.slice P m d)) w.heap.size (by rw [hz5]; exact HB4.size)
    rw [hz5] at lF
    have bF := (put5_below (v0 := .int .i64 k) (v1 := .int .i64 x) (v2 := .int .i64 y) (v3 := .slice A n1 c1) (v4 := .slice P m d) HB4 (show w.heap.size ≤ g by omega)).alloc (by rw [hz5]; exact HB4.size) (.cells cells41 34)
    have KFh := Lib.hid KF
    have oFh := Lib.hid oF
    have pFh := Lib.hid pF
    have lFh := Lib.hid lF
    have bFh := Lib.hid bF
    clear KD K0 o4 p4 HB4 hr4 KF oF pF lF bF hz5
    go_upto_region 4 with (fail)
    go_region
    all_goals go_wp2_with (with_reducible refine AtEnd.of ?_)
    all_goals exact atEnd_ret (results_cell_tmp Tryz.results15 rfl (load_bench KFh.out) rfl) rfl ⟨_, ⟨k, x, y, E, ts⟩, _, 41, 41, List.replicate 41 ⟨0, 0, []⟩, rfl, ⟨A, P, n1, c1, m, d, rfl, oFh.out.mono (by omega), pFh.out.mono (by omega)⟩, SM.out, lFh.out, by omega, fun D hD => by rw [List.eq_of_mem_replicate hD]; simp, by first | exact bFh.out | exact ⟨bFh.out.os, bFh.out.tape, bFh.out.output, bFh.out.size, bFh.out.block⟩⟩
end Go.Proofs.YtamhpgledbmnoaaGreat
