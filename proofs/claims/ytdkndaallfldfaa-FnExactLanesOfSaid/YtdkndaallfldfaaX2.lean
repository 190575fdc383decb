/-
  The exact law of LanesOf: the program's list and the reference's are equal, and the program's memory is its own.
  Conditions: none.
-/
import Derived.Test.YtdkndaallfldfaaW4
namespace Go.Proofs.Ytdkndaallfldfaa
set_option linter.unusedVariables false
set_option linter.unusedSimpArgs false
open Go.RowKit

theorem lanesOf_len (k l x : Int) : (Pl.lanesOf k l x).length ≤ 12 := by
  unfold Pl.lanesOf
  split
  · rename_i h
    rw [Pl.lanes_len]
    exact (Pl.many_pos h.1).2
  · simp

set_option maxHeartbeats 1000000 in
theorem law_FnExactLanesOf (a0 : Int) (a1 : Int) (a2 : Int) (w0 : (Lit.int .i64 a0).wf = true) (w1 : (Lit.int .i64 a1).wf = true) (w2 : (Lit.int .i64 a2).wf = true) (w : World) :
    Calls Try.prog 7 #[.int .i64 a0, .int .i64 a1, .int .i64 a2] w fun e w' => e = .returned (.bool true) ∧ Below w.heap.size w w' := by
  have hlen := lanesOf_len a0 a1 a2
  have cs := fun w => spec_LanesOf a0 a1 a2 w
  have ci := fun w => impl_LanesOf a0 a1 a2 w
  generalize Pl.lanesOf a0 a1 a2 = X at *
  have CS := Lib.hid cs
  have CI := Lib.hid ci
  clear cs ci
  go_enter Try.func7, Try.ntmps7
  go_wp2_with fail
  refine (CS.out _).mono ?_
  rintro e w1 ⟨A, c, rfl, own0, hb0⟩
  go_wp2_with fail
  refine (CI.out _).mono ?_
  rintro e w2 ⟨A1, c1, rfl, own1, hb1⟩
  have r0 := (rd_own own0).below hb1
  have hz1 := hb0.size
  have hz2 := hb1.size
  go_wp2_with fail
  refine (laws_eqIntS _ _ _ _ _ _ _ X X _ (rd_own own1) (r0.more hz2) (by omega) (by omega)).mono ?_
  rintro e w3 ⟨rfl, q, rfl⟩
  go_wp2_with fail
  refine (laws_markIntS w1.heap.size _ _ _ _ 1 _ A1 rfl (by exact own1) (by omega) (by omega) (by omega)).mono ?_
  rintro e w3 ⟨rfl, own2, hg⟩
  have hb3 : Below w1.heap.size (w2.drewN q) w3 := grown_below (w := w2.drewN q) own1 hz2 hg
  have r0' := (r0.drewN q).below hb3
  have hz3 : w2.heap.size ≤ w3.heap.size := hb3.size
  clear hg
  go_wp2_with fail
  refine (laws_heldIntS A1 _ _ _ 1 _ (rd_own own2) (by omega) (by omega) (by omega)).mono ?_
  rintro e w' ⟨rfl, rfl⟩
  go_wp2_with fail
  refine (CI.out _).mono ?_
  rintro e w4 ⟨A2, c2, rfl, own3, hb4⟩
  have hz4 := hb4.size
  go_wp2_with fail
  refine (laws_eqIntS _ _ _ _ _ _ _ X X _ (rd_own own3) ((r0'.more (by omega)).below hb4 |>.more hz4) (by omega) (by omega)).mono ?_
  rintro e w' ⟨rfl, q2, rfl⟩
  go_wp2_with fail
  refine (laws_heldIntS A1 _ _ _ 1 _ (((rd_own own2).below hb4).drewN q2) (by omega) (by omega) (by omega)).mono ?_
  rintro e w' ⟨rfl, rfl⟩
  go_wp2
  go_ret
  exact ⟨rfl, below_drewN (((hb0.trans (hb1.mono hz1)).trans (below_drewN (Below.refl _ _) q)).trans ((hb3.mono hz1).trans (hb4.mono (by omega)))) q2⟩
end Go.Proofs.Ytdkndaallfldfaa
