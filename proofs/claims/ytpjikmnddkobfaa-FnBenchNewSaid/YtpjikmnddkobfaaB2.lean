/-
  Benches without texts of before: whether they are valid, and their value; the zero bench; the drawn width.
  Conditions: as stated at each.
-/
import Derived.Test.YtpjikmnddkobfaaB1
import Derived.Test.YtpjikmnddkobfaaE3
import Derived.Test.YtpjikmnddkobfaaD3
import Derived.Test.YtpjikmnddkobfaaLa
namespace Go.Proofs.Ytpjikmnddkobfaa
set_option linter.unusedVariables false
set_option linter.unusedSimpArgs false
open Go.RowKit
theorem newE_len2 (k : Int) : (newE k).length ≤ 1 := by unfold newE; split <;> simp
theorem bench_cells {w : World} {g : Nat} {T : TypeId} {a b c d e : Value} (h : Blk w g T #[a, b, c, d, e]) :
    w.cell? ⟨g, 0, none⟩ = some a ∧ w.cell? ⟨g, 1, none⟩ = some b ∧ w.cell? ⟨g, 2, none⟩ = some c ∧ w.cell? ⟨g, 3, none⟩ = some d ∧ w.cell? ⟨g, 4, none⟩ = some e :=
  ⟨(h.cell 0).trans rfl, (h.cell 1).trans rfl, (h.cell 2).trans rfl, (h.cell 3).trans rfl, (h.cell 4).trans rfl⟩
set_option maxHeartbeats 400000 in
theorem indexFunc0 (P : Option Addr) (c : Nat) (F : Value) (w : World) : Calls Try.prog 46 #[.slice P 0 c, F] w fun e w' => e = .returned (.int .i64 (-1)) ∧ w = w' := by
  go_enter Try.func46, Try.ntmps46
  go_wp2
  refine wp_loop_rounds 1 ?_
  rw [rounds_succ]
  go_wp2
  go_ret
  exact ⟨rfl, rfl⟩
set_option maxHeartbeats 400000 in
theorem containsFunc0 (P : Option Addr) (c : Nat) (F : Value) (w : World) : Calls Try.prog 32 #[.slice P 0 c, F] w fun e w' => e = .returned (.bool false) ∧ w = w' := by
  go_enter Try.func32, Try.ntmps32
  go_wp2_with fail
  refine (indexFunc0 _ _ _ _).mono ?_
  rintro e w' ⟨rfl, rfl⟩
  go_wp2_with fail
  go_ret
  exact ⟨rfl, rfl⟩
set_option maxHeartbeats 1000000 in
theorem laws_noBench (A P : Option Addr) (c pc : Nat) (w : World) :
    Calls Try.prog 12 #[benchV 0 0 0 A 0 c P 0 pc] w fun e w' => e = .returned (.bool true) ∧ Below w.heap.size w w' := by
  unfold benchV
  go_enter Try.func12, Try.ntmps12
  go_wp2_with fail
  refine (laws_sameBench 0 0 0 A none P none 0 0 c 0 pc 0 0 [] _ Rd.zero Rd.zero (by omega) (by omega)).mono ?_
  rintro e w1 ⟨rfl, hb1⟩
  go_wp2_with fail
  go_ret
  exact ⟨rfl, ((Below.refl _ _).alloc (Nat.le_refl _) _).trans (hb1.mono (by simp))⟩
set_option maxHeartbeats 1000000 in
theorem impl_BenchValid0 (k : Int) (A P : Option Addr) (c pc B : Nat) (w : World) (h0 : 1 ≤ k) (h1 : k ≤ 12) (hx : Rd w B A 1 (I64 [10])) (hB : B ≤ w.heap.size) :
    Calls Try.prog 14 #[benchV k 0 0 A 1 c P 0 pc] w fun e w' => e = .returned (.bool true) ∧ Below w.heap.size w w' := by
  have hp0 := Pl.pw_pos k
  have h2 : Pl.v2 k 0 0 = true := Pl.v2_mk (Pl.wv_mk h0 h1 (Int.le_refl 0) (by omega)) (Pl.wv_mk h0 h1 (Int.le_refl 0) (by omega))
  unfold benchV
  go_enter Try.func14, Try.ntmps14
  go_wp2_with (go_at_call 30; refine (impl_allValid2 _ 0 0 _ _ (by go_simp) (by go_simp)).mono ?_; rintro e w' ⟨rfl, rfl⟩)
  refine (impl_ExprValid A 1 c B [10] _ ((hx.alloc hB _).alloc (by simp; omega) _) (by omega)).mono ?_
  rw [show Pl.exprValid [10] = true by decide]
  rintro e w' ⟨rfl, rfl⟩
  go_wp2_with fail
  refine (containsFunc0 _ _ _ _).mono ?_
  rintro e w' ⟨rfl, rfl⟩
  go_wp2_with fail
  go_ret
  exact ⟨rfl, by go_grown⟩
set_option maxHeartbeats 1000000 in
theorem impl_BenchValue0 (k : Int) (A P : Option Addr) (c pc B : Nat) (w : World) (h0 : 1 ≤ k) (h1 : k ≤ 12) (hx : Rd w B A 1 (I64 [10])) (hB : B ≤ w.heap.size) :
    Calls Try.prog 15 #[benchV k 0 0 A 1 c P 0 pc] w fun e w' => e = .returned (.int .i64 0) ∧ Below w.heap.size w w' := by
  have hp0 := Pl.pw_pos k
  have h2 : Pl.v2 k 0 0 = true := Pl.v2_mk (Pl.wv_mk h0 h1 (Int.le_refl 0) (by omega)) (Pl.wv_mk h0 h1 (Int.le_refl 0) (by omega))
  have hv : Pl.value k [10] 0 0 = 0 := by simp [Pl.value, Pl.evalS, Pl.pushS, Pl.takes, Pl.leafv]
  have bl := Blk.new w 25 #[.int .i64 k, .int .i64 0, .int .i64 0, .slice A 1 c, .slice P 0 pc]
  have hx1 := hx.alloc hB (.cells #[.int .i64 k, .int .i64 0, .int .i64 0, .slice A 1 c, .slice P 0 pc] 25)
  unfold benchV
  go_enter Try.func15, Try.ntmps15
  go_wp2_with fail
  refine (impl_BenchValid0 k A P c pc B _ h0 h1 hx1 (by simp; omega)).mono ?_
  rintro e w1 ⟨rfl, hb1⟩
  have z1 := hb1.size
  have z1' : w.heap.size + 1 ≤ w1.heap.size := by simpa using z1
  obtain ⟨x0, x1, x2, x3, x4⟩ := bench_cells (bl.below hb1 bl.lt)
  go_wp2_with fail
  refine (impl_value k 0 0 A 1 c B [10] _ (hx1.below (hb1.mono (by simp; omega))) (by omega) (by decide) h2).mono ?_
  rw [hv]
  rintro e w2 ⟨rfl, hb2⟩
  go_wp2_with fail
  go_ret
  exact ⟨rfl, (((Below.refl _ _).alloc (Nat.le_refl _) _).trans (hb1.mono (by simp))).trans (hb2.mono (by omega))⟩
set_option maxHeartbeats 1000000 in
theorem spec_DrawBenchNew (a : Option Addr) (n c : Nat) (w : World) (h : Code8 w a n) (hc : n ≤ c) (hm : c ≤ maxLen) :
    Calls Try.prog 10 #[.slice a n c] w fun e w' => ∃ k : Int, e = .returned (.int .i64 k) ∧ -1 ≤ k ∧ k ≤ 13 ∧ Below w.heap.size w w' := by
  go_enter Try.func10, Try.ntmps10
  go_wp2_with fail
  refine (spec_l20Open a n c w h hc hm).mono ?_
  rintro e w0 ⟨R, rfl, hR, hr, hb⟩
  go_wp2_with fail
  refine (spec_l20Width R 0 5 _ hr (by omega) (by omega)).mono ?_
  rintro e w1 ⟨k, rfl, k0, k1, hr2, hg⟩
  have HB := Lib.hid (open_below hb hg hR)
  clear hg hb
  go_wp2_with fail
  go_ret
  exact ⟨k, rfl, k0, k1, HB.out⟩
end Go.Proofs.Ytpjikmnddkobfaa
