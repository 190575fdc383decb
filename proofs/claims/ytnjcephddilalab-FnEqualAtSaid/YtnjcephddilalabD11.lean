/-
  A width and two drawn expressions that are often equal (DrawEqualAt).
  Conditions: none but those of the model.
-/
import Derived.Test.YtnjcephddilalabD10
namespace Go.Proofs.Ytnjcephddilalab
set_option linter.unusedVariables false
set_option linter.unusedSimpArgs false
open Go.RowKit
/-- A width and two slices that read as short lists. -/
def OutQ (w : World) (e : Ending) (w' : World) : Prop := ∃ (k : Int) (A A' : Option Addr) (xs ys : List Int) (c c' : Nat),
  e = .returned (.tuple #[.int .i64 k, .slice A xs.length c, .slice A' ys.length c']) ∧ 1 ≤ k ∧ k ≤ 8 ∧ Rd w' w'.heap.size A xs.length (I64 xs) ∧ Rd w' w'.heap.size A' ys.length (I64 ys) ∧
  xs.length ≤ 25 ∧ ys.length ≤ 25 ∧ xs.length ≤ c ∧ ys.length ≤ c' ∧ Below w.heap.size w w'
set_option maxHeartbeats 1000000 in
theorem spec_DrawEqualAt (a : Option Addr) (n c : Nat) (w : World) (h : Code8 w a n) (hc : n ≤ c) (hm : c ≤ maxLen) :
    Calls Try.prog 35 #[.slice a n c] w (OutQ w) := by
  go_enter Try.func35, Try.ntmps35
  go_wp2_with fail
  refine (spec_l20Open a n c w h hc hm).mono ?_
  rintro e w0 ⟨R, rfl, hR, hr, hb⟩
  go_wp2_with fail
  refine (spec_l20Equals R 0 _ hr (by omega)).mono ?_
  rintro e w1 ⟨v, v', rfl, X, Y, hr1, hg⟩
  have hb1 := open_below hb hg hR
  have X1 := Lib.hid X
  have Y1 := Lib.hid Y
  clear hb hg hr X Y
  go_wp2_with fail
  refine (spec_pick R _ 4 _ hr1 (by omega) (by omega)).mono ?_
  rintro e w2 ⟨p, rfl, hp, hr2, hg2⟩
  obtain ⟨p0, p1⟩ := hp.2 (by omega)
  have hb2 := open_below hb1 hg2 hR
  have X2 := Lib.hid (X1.out.grown hg2)
  have Y2 := Lib.hid (Y1.out.grown hg2)
  clear hb1 hg2 hr1 X1 Y1 hp
  go_wp2_with fail
  refine (spec_pick R _ 30 _ hr2 (by omega) (by omega)).mono ?_
  rintro e w3 ⟨q, rfl, hq, hr3, hg3⟩
  obtain ⟨q0, q1⟩ := hq.2 (by omega)
  have hb3 := open_below hb2 hg3 hR
  have X3 := Lib.hid (X2.out.grown hg3)
  have Y3 := Lib.hid (Y2.out.grown hg3)
  clear hb2 hg3 hr2 X2 Y2 hq
  go_wp2_with fail
  obtain ⟨A, xs, c1, rfl, l1, m1, r1⟩ := X3.out.rd
  obtain ⟨A', ys, c2, rfl, l2, m2, r2⟩ := Y3.out.rd
  refine bodyPost_ret (results_tmp3 rfl _ _ _) rfl ?_
  exact ⟨1 + p + q / 29 * 4, A, A', xs, ys, c1, c2, rfl, by omega, by omega, r1, r2, l1, l2, m1, m2, hb3⟩
end Go.Proofs.Ytnjcephddilalab
