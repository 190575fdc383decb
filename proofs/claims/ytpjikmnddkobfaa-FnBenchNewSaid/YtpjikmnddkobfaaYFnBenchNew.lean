/-
  The law FnBenchNew: for every code it returns true.
  Conditions: none.
-/
import Derived.Test.YtpjikmnddkobfaaB2
namespace Go.Proofs.Ytpjikmnddkobfaa
set_option linter.unusedVariables false
set_option linter.unusedSimpArgs false
open Go.RowKit
set_option maxHeartbeats 2000000 in
theorem law_FnBenchNew (a0 : Option Addr) (len0 cap0 : Nat) (z0 : List Int) (w : World) (w0 : IsRow .u8 w a0 len0 cap0 z0) :
    Calls Try.prog 4 #[.slice a0 len0 cap0] w fun e w' => e = .returned (.bool true) ∧ Below w.heap.size w w' := by
  obtain ⟨hc, hl, hm⟩ := code_of_row w0
  clear w0
  have hm' := hm
  unfold maxLen at hm'
  by_cases hbig : 1048576 < len0
  · have hbi : (1048576 : Int) < len0 := by omega
    go_enter Try.func4, Try.ntmps4
    go_wp2
    go_ret
    exact ⟨rfl, Below.refl _ _⟩
  have hbi : ¬ (1048576 : Int) < len0 := by omega
  go_enter Try.func4, Try.ntmps4
  go_wp2_with fail
  refine (spec_DrawBenchNew a0 len0 cap0 _ hc hl hm).mono ?_
  rintro e v0 ⟨k, rfl, k0, k1, HB0⟩
  clear hc hl hm hm' hbig
  have cs := Lib.hid (fun w => spec_BenchNew k w)
  have ci := Lib.hid (fun w => impl_BenchNew k w)
  unfold OutB at cs ci
  have hlen := newE_len2 k
  by_cases hk : 1 ≤ k ∧ k ≤ 12
  · have e1 : newE k = [10] := by unfold newE; rw [if_pos hk]
    have e2 : newW k = k := by unfold newW; rw [if_pos hk]
    rw [e1, e2] at cs ci
    obtain ⟨h0, h1⟩ := hk
    clear e1 e2 hlen
    go_wp2_with fail
    refine (ci.out _).mono ?_
    rintro e w1 ⟨A1, c1, P1, p1, rfl, own1, hb1⟩
    have z1 := hb1.size
    have bl := Blk.new w1 25 #[.int .i64 k, .int .i64 0, .int .i64 0, .slice A1 1 c1, .slice P1 0 p1]
    have r1 := (rd_own own1).alloc (Nat.le_refl _) (.cells #[.int .i64 k, .int .i64 0, .int .i64 0, .slice A1 1 c1, .slice P1 0 p1] 25)
    have HB1 := (below_step HB0 hb1 HB0.size).alloc (by have := HB0.size; omega) (.cells #[.int .i64 k, .int .i64 0, .int .i64 0, .slice A1 1 c1, .slice P1 0 p1] 25)
    have z0 := HB1.size
    obtain ⟨x0, x1, x2, x3, x4⟩ := bench_cells bl
    clear own1 hb1
    unfold benchV
    go_wp2_with fail
    go_region_held3 (fun w' => w'.cell? ⟨w1.heap.size, 0, none⟩ = some (.int .i64 k) ∧ w'.cell? ⟨w1.heap.size, 1, none⟩ = some (.int .i64 0) ∧ w'.cell? ⟨w1.heap.size, 2, none⟩ = some (.int .i64 0) ∧ w'.cell? ⟨w1.heap.size, 3, none⟩ = some (.slice A1 1 c1) ∧ w'.cell? ⟨w1.heap.size, 4, none⟩ = some (.slice P1 0 p1))
      (first | (exact bench_cells ((bl.drew.below hb2 bl.lt).below hb3 (by have := hb2.size; have := bl.lt; exact Nat.lt_of_lt_of_le bl.lt hb2.size))) | (exact bench_cells (bl.drew.below hb2 bl.lt)) | go_keep)
      (first
        | (go_at_call 5; refine (cs.out _).mono ?_; rintro e w2 ⟨A2, c2, P2, p2, rfl, own2, hb2⟩)
        | (go_at_call 11; refine (laws_sameBench k 0 0 A1 A2 P1 P2 1 0 c1 c2 p1 p2 w2.heap.size [10] _ (((r1.drewN 1).below (hb2.mono (by show w1.heap.size ≤ (w1.alloc _).heap.size; simp))).more (by have := hb2.size; have h3 : (w1.alloc (.cells #[.int .i64 k, .int .i64 0, .int .i64 0, .slice A1 1 c1, .slice P1 0 p1] 25)).heap.size ≤ w2.heap.size := hb2.size; simp at h3; omega)) (rd_own own2) (Nat.le_refl _) (by omega)).mono ?_; rintro e w3 ⟨rfl, hb3⟩))
    have h2z : (w1.alloc (.cells #[.int .i64 k, .int .i64 0, .int .i64 0, .slice A1 1 c1, .slice P1 0 p1] 25)).heap.size ≤ w2.heap.size := hb2.size
    have h2z' : w1.heap.size + 1 ≤ w2.heap.size := by simpa using h2z
    have h3z := hb3.size
    have bl3 := (bl.drew.below hb2 bl.lt).below hb3 (by omega)
    have r3 := (((r1.drewN 1).below (hb2.mono (by show w1.heap.size ≤ (w1.alloc _).heap.size; simp))).below (hb3.mono (by omega)))
    have HB3 := below_step (below_step (below_drewN HB1 1) hb2 HB1.size) hb3 (by omega)
    clear bl r1 HB1 own2 hb2 hb3 x0 x1 x2 x3 x4
    obtain ⟨x0, x1, x2, x3, x4⟩ := bench_cells bl3
    have hkk : (k == k) = true := by simp
    go_wp2_with fail
    refine (impl_BenchValid0 k A1 P1 c1 p1 _ _ h0 h1 r3 (by omega)).mono ?_
    rintro e w4 ⟨rfl, hb4⟩
    have bl4 := bl3.below hb4 (by omega)
    have r4 := r3.below (hb4.mono (by omega))
    have HB4 := below_step HB3 hb4 HB3.size
    have h4z := hb4.size
    clear bl3 r3 HB3 hb4 x0 x1 x2 x3 x4
    obtain ⟨x0, x1, x2, x3, x4⟩ := bench_cells bl4
    go_wp2_with fail
    refine (impl_BenchValue0 k A1 P1 c1 p1 _ _ h0 h1 r4 (by omega)).mono ?_
    rintro e w5 ⟨rfl, hb5⟩
    have bl5 := bl4.below hb5 (by omega)
    have HB5 := below_step HB4 hb5 HB4.size
    clear bl4 r4 HB4 hb5 x0 x1 x2 x3 x4
    obtain ⟨x0, x1, x2, x3, x4⟩ := bench_cells bl5
    go_wp2_with fail
    go_ret
    exact ⟨rfl, HB5⟩
  · have e1 : newE k = [] := by unfold newE; rw [if_neg hk]
    have e2 : newW k = 0 := by unfold newW; rw [if_neg hk]
    rw [e1, e2] at cs ci
    clear e1 e2 hlen
    go_wp2_with fail
    refine (ci.out _).mono ?_
    rintro e w1 ⟨A1, c1, P1, p1, rfl, own1, hb1⟩
    have z1 := hb1.size
    have bl := Blk.new w1 25 #[.int .i64 0, .int .i64 0, .int .i64 0, .slice A1 0 c1, .slice P1 0 p1]
    have r1 := (rd_own own1).alloc (Nat.le_refl _) (.cells #[.int .i64 0, .int .i64 0, .int .i64 0, .slice A1 0 c1, .slice P1 0 p1] 25)
    have HB1 := (below_step HB0 hb1 HB0.size).alloc (by have := HB0.size; omega) (.cells #[.int .i64 0, .int .i64 0, .int .i64 0, .slice A1 0 c1, .slice P1 0 p1] 25)
    have z0 := HB1.size
    obtain ⟨x0, x1, x2, x3, x4⟩ := bench_cells bl
    clear own1 hb1
    unfold benchV
    go_wp2_with fail
    go_region_held3 (fun w' => w'.cell? ⟨w1.heap.size, 0, none⟩ = some (.int .i64 0) ∧ w'.cell? ⟨w1.heap.size, 1, none⟩ = some (.int .i64 0) ∧ w'.cell? ⟨w1.heap.size, 2, none⟩ = some (.int .i64 0) ∧ w'.cell? ⟨w1.heap.size, 3, none⟩ = some (.slice A1 0 c1) ∧ w'.cell? ⟨w1.heap.size, 4, none⟩ = some (.slice P1 0 p1))
      (first | (exact bench_cells ((bl.drew.below hb2 bl.lt).below hb3 (by have := hb2.size; have := bl.lt; exact Nat.lt_of_lt_of_le bl.lt hb2.size))) | (exact bench_cells (bl.drew.below hb2 bl.lt)) | go_keep)
      (first
        | (go_at_call 5; refine (cs.out _).mono ?_; rintro e w2 ⟨A2, c2, P2, p2, rfl, own2, hb2⟩)
        | (go_at_call 11; refine (laws_sameBench 0 0 0 A1 A2 P1 P2 0 0 c1 c2 p1 p2 w2.heap.size [] _ (((r1.drewN 1).below (hb2.mono (by show w1.heap.size ≤ (w1.alloc _).heap.size; simp))).more (by have := hb2.size; have h3 : (w1.alloc (.cells #[.int .i64 0, .int .i64 0, .int .i64 0, .slice A1 0 c1, .slice P1 0 p1] 25)).heap.size ≤ w2.heap.size := hb2.size; simp at h3; omega)) (rd_own own2) (Nat.le_refl _) (by omega)).mono ?_; rintro e w3 ⟨rfl, hb3⟩))
    have h2z : (w1.alloc (.cells #[.int .i64 0, .int .i64 0, .int .i64 0, .slice A1 0 c1, .slice P1 0 p1] 25)).heap.size ≤ w2.heap.size := hb2.size
    have h2z' : w1.heap.size + 1 ≤ w2.heap.size := by simpa using h2z
    have h3z := hb3.size
    have bl3 := (bl.drew.below hb2 bl.lt).below hb3 (by omega)
    have r3 := (((r1.drewN 1).below (hb2.mono (by show w1.heap.size ≤ (w1.alloc _).heap.size; simp))).below (hb3.mono (by omega)))
    have HB3 := below_step (below_step (below_drewN HB1 1) hb2 HB1.size) hb3 (by omega)
    clear bl r1 HB1 own2 hb2 hb3 x0 x1 x2 x3 x4
    obtain ⟨x0, x1, x2, x3, x4⟩ := bench_cells bl3
    have hcase : k < 1 ∨ (1 ≤ k ∧ 12 < k) := by omega
    rcases hcase with hk1 | ⟨hk1, hk2⟩
    · go_wp2_with fail
      refine (laws_noBench A1 P1 c1 p1 _).mono ?_
      rintro e w4 ⟨rfl, hb4⟩
      have HB4 := below_step HB3 hb4 HB3.size
      go_wp2_with fail
      refine (laws_alive _).mono ?_
      rintro e w5 ⟨rfl, hb5⟩
      have HB5 := below_step HB4 hb5 HB4.size
      go_wp2_with fail
      go_ret
      exact ⟨rfl, HB5⟩
    · go_wp2_with fail
      refine (laws_noBench A1 P1 c1 p1 _).mono ?_
      rintro e w4 ⟨rfl, hb4⟩
      have HB4 := below_step HB3 hb4 HB3.size
      go_wp2_with fail
      refine (laws_alive _).mono ?_
      rintro e w5 ⟨rfl, hb5⟩
      have HB5 := below_step HB4 hb5 HB4.size
      go_wp2_with fail
      go_ret
      exact ⟨rfl, HB5⟩
end Go.Proofs.Ytpjikmnddkobfaa
