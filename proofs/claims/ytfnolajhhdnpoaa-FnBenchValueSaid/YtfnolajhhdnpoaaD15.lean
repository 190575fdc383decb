/-
  The drawn benches of two laws (DrawBenchValid, DrawBenchValue).
  Conditions: none but those of the model.
-/
import Derived.Test.YtfnolajhhdnpoaaD14
namespace Go.Proofs.Ytfnolajhhdnpoaa
set_option linter.unusedVariables false
set_option linter.unusedSimpArgs false
open Go.RowKit
/-- A small bench of the call's own. -/
def OutSB (w : World) (e : Ending) (w' : World) : Prop := ∃ v b, e = .returned v ∧ BnO w' w.heap.size v b ∧ Small b ∧ Below w.heap.size w w'
theorem code8_below' {w w' : World} {a : Option Addr} {n : Nat} (h : Code8 w a n) (hb : Below w.heap.size w w') : Code8 w' a n := by
  obtain ⟨zs, h1, h2⟩ := h
  exact ⟨zs, (h1.below hb).more hb.size, h2⟩
theorem small_sizes {b : Pl.Bn} (h : Small b) : ∀ s ∈ b.past, s.length ≤ 2000000 := fun s hs => by have := h.2.2.2.2 s hs; omega
set_option maxRecDepth 100000 in
set_option maxHeartbeats 4000000 in
theorem spec_DrawBenchValid (a : Option Addr) (n c : Nat) (w : World) (h : Code8 w a n) (hc : n ≤ c) (hm : c ≤ maxLen) :
    Calls Try.prog 14 #[.slice a n c] w (OutSB w) := by
  obtain ⟨g, hg⟩ : ∃ g, w.heap.size = g := ⟨_, rfl⟩
  obtain ⟨w0, hw0⟩ : ∃ w0, w0 = w.alloc (.cells #[.int .i64 0, .int .i64 0, .int .i64 0, .slice none 0 0, .slice none 0 0] 28) := ⟨_, rfl⟩
  have hz0 : w0.heap.size = g + 1 := by rw [hw0, ← hg]; simp
  have HB0 : Below w.heap.size w w0 := by rw [hw0]; exact (Below.refl _ _).alloc (Nat.le_refl _) _
  have h0 := code8_below' h HB0
  have K0 : Blk w0 g 28 #[.int .i64 0, .int .i64 0, .int .i64 0, .slice none 0 0, .slice none 0 0] := by rw [hw0, ← hg]; exact Blk.new w _ _
  clear h
  go_enter Try.func14, Try.ntmps14
  go_upto_region 1 with (fail)
  rw [← hw0]
  clear hw0
  go_wp2_with (with_reducible refine AtEnd.of ?_)
  refine (spec_l20Open a n c w0 h0 hc hm).mono ?_
  rintro e w1 ⟨R, rfl, hR, hr, hb⟩
  have K0 := K0.below hb (by omega)
  have HB1 := HB0.trans (hb.mono (by omega))
  have hz1 := hb.size
  clear hb h0
  go_wp2_with (with_reducible refine AtEnd.of ?_)
  refine (spec_l20Bench R 0 2 _ hr (by omega) (by omega)).mono ?_
  rintro e w2 ⟨v, ⟨k, x, y, E, ts⟩, rfl, ⟨A, P, n1, c1, m, d, rfl, o, p⟩, SM, hr2, hg2⟩
  have K0 := K0.grown hg2 (by intro e; injection e; omega)
  have HB2 := Lib.hid (HB1.grown hg2 HB1.size (fun k hk => by injection hk with hk; omega))
  obtain ⟨v0, v1, v2, v3, v4⟩ := blk5c K0
  have f0 := K0.frozen 0
  have f1 := K0.frozen 1
  have f2 := K0.frozen 2
  have f3 := K0.frozen 3
  have f4 := K0.frozen 4
  have SM := Lib.hid SM
  have O := Lib.hid (o.mono (show g ≤ w1.heap.size by omega))
  have PP := Lib.hid (p.mono (show g ≤ w1.heap.size by omega))
  have hgR : g + 1 ≤ R := by omega
  clear HB1 hr hr2 hg2 o p
  unfold benchV
  go_wp2_with (with_reducible refine AtEnd.of ?_)
  have KF := put5_blk (v0 := .int .i64 k) (v1 := .int .i64 x) (v2 := .int .i64 y) (v3 := .slice A n1 c1) (v4 := .slice P m d) K0
  have oF := put5_orow_ne (v0 := .int .i64 k) (v1 := .int .i64 x) (v2 := .int .i64 y) (v3 := .slice A n1 c1) (v4 := .slice P m d) O.out K0 (by decide)
  have pF := put5_orow_ne (v0 := .int .i64 k) (v1 := .int .i64 x) (v2 := .int .i64 y) (v3 := .slice A n1 c1) (v4 := .slice P m d) PP.out K0 (by decide)
  have bF := put5_below (v0 := .int .i64 k) (v1 := .int .i64 x) (v2 := .int .i64 y) (v3 := .slice A n1 c1) (v4 := .slice P m d) HB2.out (show w.heap.size ≤ g by omega)
  exact atEnd_ret (results_cell Try.results14 rfl (load_bench KF)) rfl ⟨_, ⟨k, x, y, E, ts⟩, rfl, ⟨A, P, n1, c1, m, d, rfl, oF.mono (by omega), pF.mono (by omega)⟩, SM.out, bF⟩
set_option maxRecDepth 100000 in
set_option maxHeartbeats 4000000 in
theorem spec_DrawBenchValue (a : Option Addr) (n c : Nat) (w : World) (h : Code8 w a n) (hc : n ≤ c) (hm : c ≤ maxLen) :
    Calls Try.prog 16 #[.slice a n c] w (OutSB w) := by
  obtain ⟨g, hg⟩ : ∃ g, w.heap.size = g := ⟨_, rfl⟩
  obtain ⟨w0, hw0⟩ : ∃ w0, w0 = w.alloc (.cells #[.int .i64 0, .int .i64 0, .int .i64 0, .slice none 0 0, .slice none 0 0] 28) := ⟨_, rfl⟩
  have hz0 : w0.heap.size = g + 1 := by rw [hw0, ← hg]; simp
  have HB0 : Below w.heap.size w w0 := by rw [hw0]; exact (Below.refl _ _).alloc (Nat.le_refl _) _
  have h0 := code8_below' h HB0
  have K0 : Blk w0 g 28 #[.int .i64 0, .int .i64 0, .int .i64 0, .slice none 0 0, .slice none 0 0] := by rw [hw0, ← hg]; exact Blk.new w _ _
  clear h
  go_enter Try.func16, Try.ntmps16
  go_upto_region 1 with (fail)
  rw [← hw0]
  clear hw0
  go_wp2_with (with_reducible refine AtEnd.of ?_)
  refine (spec_l20Open a n c w0 h0 hc hm).mono ?_
  rintro e w1 ⟨R, rfl, hR, hr, hb⟩
  have K0 := K0.below hb (by omega)
  have HB1 := HB0.trans (hb.mono (by omega))
  have hz1 := hb.size
  clear hb h0
  go_wp2_with (with_reducible refine AtEnd.of ?_)
  refine (spec_l20Bench R 0 9 _ hr (by omega) (by omega)).mono ?_
  rintro e w2 ⟨v, ⟨k, x, y, E, ts⟩, rfl, ⟨A, P, n1, c1, m, d, rfl, o, p⟩, SM, hr2, hg2⟩
  have K0 := K0.grown hg2 (by intro e; injection e; omega)
  have HB2 := Lib.hid (HB1.grown hg2 HB1.size (fun k hk => by injection hk with hk; omega))
  obtain ⟨v0, v1, v2, v3, v4⟩ := blk5c K0
  have f0 := K0.frozen 0
  have f1 := K0.frozen 1
  have f2 := K0.frozen 2
  have f3 := K0.frozen 3
  have f4 := K0.frozen 4
  have SM := Lib.hid SM
  have O := Lib.hid (o.mono (show g ≤ w1.heap.size by omega))
  have PP := Lib.hid (p.mono (show g ≤ w1.heap.size by omega))
  have hgR : g + 1 ≤ R := by omega
  clear HB1 hr hr2 hg2 o p
  unfold benchV
  go_wp2_with (with_reducible refine AtEnd.of ?_)
  have KF := put5_blk (v0 := .int .i64 k) (v1 := .int .i64 x) (v2 := .int .i64 y) (v3 := .slice A n1 c1) (v4 := .slice P m d) K0
  have oF := put5_orow_ne (v0 := .int .i64 k) (v1 := .int .i64 x) (v2 := .int .i64 y) (v3 := .slice A n1 c1) (v4 := .slice P m d) O.out K0 (by decide)
  have pF := put5_orow_ne (v0 := .int .i64 k) (v1 := .int .i64 x) (v2 := .int .i64 y) (v3 := .slice A n1 c1) (v4 := .slice P m d) PP.out K0 (by decide)
  have bF := put5_below (v0 := .int .i64 k) (v1 := .int .i64 x) (v2 := .int .i64 y) (v3 := .slice A n1 c1) (v4 := .slice P m d) HB2.out (show w.heap.size ≤ g by omega)
  exact atEnd_ret (results_cell Try.results16 rfl (load_bench KF)) rfl ⟨_, ⟨k, x, y, E, ts⟩, rfl, ⟨A, P, n1, c1, m, d, rfl, oF.mono (by omega), pF.mono (by omega)⟩, SM.out, bF⟩
end Go.Proofs.Ytfnolajhhdnpoaa
