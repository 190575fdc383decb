/-
  The exact law of ValueOf.
  Conditions: none.
-/
import Derived.Test.YtnjcephddilalaaE4
import Derived.Test.YtnjcephddilalaaX4
namespace Go.Proofs.Ytnjcephddilalaa
set_option linter.unusedVariables false
set_option linter.unusedSimpArgs false
open Go.RowKit
set_option maxHeartbeats 1000000 in
theorem law_FnExactValueOf (k : Int) (a0 : Option Addr) (len0 cap0 : Nat) (z0 : List Int) (x y : Int) (w : World) (wk : (Lit.int .i64 k).wf = true) (w0 : IsRow .i64 w a0 len0 cap0 z0) (wx : (Lit.int .i64 x).wf = true) (wy : (Lit.int .i64 y).wf = true) :
    Calls Try.prog 8 #[.int .i64 k, .slice a0 len0 cap0, .int .i64 x, .int .i64 y] w fun e w' => e = .returned (.bool true) ∧ Below w.heap.size w w' := by
  obtain ⟨xs, hr, _⟩ := ints_of_row w0
  clear w0
  by_cases hbig : 1048576 < len0
  · have hbi : (1048576 : Int) < len0 := by omega
    go_enter Try.func8, Try.ntmps8
    go_wp2
    go_ret
    exact ⟨rfl, Below.refl _ _⟩
  have hbi : ¬ (1048576 : Int) < len0 := by omega
  have lx : xs.length = len0 := by have := hr.len; rwa [I64_len] at this
  have cs := Lib.hid (fun A n c B w => spec_ValueOf k x y A n c B xs w)
  have ci := Lib.hid (fun A n c B w => impl_ValueOf k x y A n c B xs w)
  generalize Pl.valueOf k xs x y = V at *
  go_enter Try.func8, Try.ntmps8
  go_wp2_with fail
  refine (laws_toIntS a0 len0 cap0 _ xs _ hr (Nat.le_refl _) (by omega)).mono ?_
  rintro e w1 hh
  obtain ⟨A1, c1, rfl, own1, hb1⟩ := ownInts_n hh lx
  clear hh
  go_wp2_with fail
  refine (cs.out _ _ _ _ _ (rd_own own1) (Nat.le_refl _) (by omega)).mono ?_
  rintro e w2 ⟨rfl, hb2⟩
  have q1 := hb1.size
  have q2 := hb2.size
  have r2 := (hr.below hb1).below (hb2.mono q1)
  go_wp2_with fail
  refine (laws_toIntS a0 len0 cap0 _ xs _ r2 (by omega) (by omega)).mono ?_
  rintro e w3 hh
  obtain ⟨A3, c3, rfl, own3, hb3⟩ := ownInts_n hh lx
  have q3 := hb3.size
  clear hh own1
  go_wp2_with fail
  refine (ci.out _ _ _ _ _ (rd_own own3) (Nat.le_refl _) (by omega)).mono ?_
  rintro e w4 ⟨rfl, hb4⟩
  have q4 := hb4.size
  have r4 := (r2.below (hb3.mono (by omega))).below (hb4.mono (by omega))
  go_wp2_with fail
  refine (laws_toIntS a0 len0 cap0 _ xs _ r4 (by omega) (by omega)).mono ?_
  rintro e w5 hh
  obtain ⟨A5, c5, rfl, own5, hb5⟩ := ownInts_n hh lx
  have q5 := hb5.size
  clear hh
  go_wp2_with fail
  refine (laws_eqIntS _ _ _ _ _ _ _ xs xs _ ((((rd_own own3).below hb4).below (hb5.mono q4)).more (by omega)) (rd_own own5) (by omega) (by omega)).mono ?_
  rintro e w6 ⟨rfl, q, rfl⟩
  have HB := Lib.hid (below_drewN (below_step (below_step (below_step (below_step hb1 hb2 q1) hb3 (by omega)) hb4 (by omega)) hb5 (by omega)) q)
  clear hb1 hb2 hb3 hb4 hb5 own3 own5 r2 r4 hr cs ci
  go_wp2_with fail
  all_goals (go_ret; exact ⟨ret_bool (by first | rfl | (simp; done)), HB.out⟩)
end Go.Proofs.Ytnjcephddilalaa
