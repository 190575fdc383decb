/-
  An expression that is drawn for ShortFor (DrawShortFor).
  Conditions: none but those of the model.
-/
import Derived.Test.YtnjcephddilalabD10
namespace Go.Proofs.Ytnjcephddilalab
set_option linter.unusedVariables false
set_option linter.unusedSimpArgs false
open Go.RowKit
/-- A slice that reads as a short list. -/
def OutX (w : World) (e : Ending) (w' : World) : Prop := ∃ (A : Option Addr) (xs : List Int) (c : Nat),
  e = .returned (.slice A xs.length c) ∧ Rd w' w'.heap.size A xs.length (I64 xs) ∧ xs.length ≤ 25 ∧ xs.length ≤ c ∧ Below w.heap.size w w'
set_option maxHeartbeats 1000000 in
theorem spec_DrawShortFor (a : Option Addr) (n c : Nat) (w : World) (h : Code8 w a n) (hc : n ≤ c) (hm : c ≤ maxLen) :
    Calls Try.prog 39 #[.slice a n c] w (OutX w) := by
  go_enter Try.func39, Try.ntmps39
  go_wp2_with fail
  refine (spec_l20Open a n c w h hc hm).mono ?_
  rintro e w0 ⟨R, rfl, hR, hr, hb⟩
  go_wp2_with fail
  refine (spec_pick R 0 2 _ hr (by omega) (by omega)).mono ?_
  rintro e w1 ⟨p, rfl, hp, hr1, hg1⟩
  obtain ⟨p0, p1⟩ := hp.2 (by omega)
  have hb1 := open_below hb hg1 hR
  clear hb hg1 hr hp
  by_cases hp0 : p = 0
  · subst hp0
    go_wp2_with fail
    refine (spec_l20Equals R _ _ hr1 (by omega)).mono ?_
    rintro e w2 ⟨v, v', rfl, X, Y, hr2, hg⟩
    have hb2 := open_below hb1 hg hR
    have X1 := Lib.hid X
    have Y1 := Lib.hid Y
    clear hb1 hg hr1 X Y
    go_wp2_with fail
    refine (spec_pick R _ 2 _ hr2 (by omega) (by omega)).mono ?_
    rintro e w3 ⟨q, rfl, hq, hr3, hg3⟩
    obtain ⟨q0, q1⟩ := hq.2 (by omega)
    have hb3 := open_below hb2 hg3 hR
    have X2 := Lib.hid (X1.out.grown hg3)
    have Y2 := Lib.hid (Y1.out.grown hg3)
    clear hb2 hg3 hr2 X1 Y1 hq
    by_cases hq0 : q = 0
    · subst hq0
      obtain ⟨A, xs, c1, rfl, l1, m1, r1⟩ := X2.out.rd
      go_wp2_with fail
      go_ret
      exact ⟨A, xs, c1, rfl, r1, l1, m1, hb3⟩
    · have hqq : (q == 0) = false := by rw [beq_eq_false_iff_ne]; exact hq0
      obtain ⟨A, xs, c1, rfl, l1, m1, r1⟩ := Y2.out.rd
      go_wp2_with fail
      go_ret
      exact ⟨A, xs, c1, rfl, r1, l1, m1, hb3⟩
  · have hpp : (p == 0) = false := by rw [beq_eq_false_iff_ne]; exact hp0
    go_wp2_with fail
    refine (spec_l20Expr R _ 3 12 _ hr1 (by omega) (by omega) (by omega)).mono ?_
    rintro e w2 hx
    obtain ⟨v, rfl, xs, g, c', e', hown, hlen, hb2⟩ := outE_mk hb1 hR hx
    injection e' with e'
    subst e'
    have HO := Lib.hid hown
    have HB := Lib.hid hb2
    clear hx hr1 hb1 hown hb2
    go_wp2_with fail
    go_ret
    exact ⟨_, xs, c', rfl, rd_own HO.out, hlen, own_cap HO.out, HB.out⟩
end Go.Proofs.Ytnjcephddilalab
