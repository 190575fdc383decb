/-
  The drawn expressions of the laws, and what the laws make of them.
  Conditions: none but those of the model.
-/
import Derived.Test.YtnjcephddilalabD5
namespace Go.Proofs.Ytnjcephddilalab
set_option linter.unusedVariables false
set_option linter.unusedSimpArgs false
open Go.RowKit

/-- An expression that was drawn: a row of the call's own. -/
def OutE (w : World) (e : Ending) (w' : World) : Prop := ∃ xs g c, e = .returned (.slice (some ⟨g, 0, none⟩) xs.length c) ∧ w'.ownsRow w.heap.size 3 1 (.slice (some ⟨g, 0, none⟩) xs.length c) xs.length (I64 xs) ∧ xs.length ≤ 25 ∧ Below w.heap.size w w'
theorem row_some {w : World} {B d : Nat} {v : Value} (h : IntRow w B v d) (h0 : d = 0 → ∃ g c, v = .slice (some ⟨g, 0, none⟩) 0 c) :
    ∃ xs : List Int, ∃ g c, d = xs.length ∧ v = .slice (some ⟨g, 0, none⟩) d c ∧ w.ownsRow B 3 1 v d (I64 xs) := by
  obtain ⟨ys, e, h⟩ := h
  rcases Nat.eq_zero_or_pos d with hd | hd
  · obtain ⟨g, c, rfl⟩ := h0 hd
    exact ⟨ys, g, c, e.symm, by rw [hd], h⟩
  · obtain ⟨g, c, rfl, _, _⟩ := own_lt h hd
    exact ⟨ys, g, c, e.symm, rfl, h⟩
theorem outE_mk {w w1 w2 : World} {R N : Nat} {e : Ending} (hb : Below w.heap.size w w1) (hR : w.heap.size ≤ R) (h : Expred R N w1 e w2) : ∃ v, e = .returned v ∧ OutE w (.returned v) w2 := by
  obtain ⟨d, v, rfl, row, hd, hr, hg, h0⟩ := h
  obtain ⟨xs, g, c, rfl, rfl, hown⟩ := row_some row h0
  exact ⟨_, rfl, xs, g, c, rfl, hown.mono hb.size, hd, open_below hb hg hR⟩
set_option maxHeartbeats 1000000 in
theorem spec_DrawCodeOf (a : Option Addr) (n c : Nat) (w : World) (h : Code8 w a n) (hc : n ≤ c) (hm : c ≤ maxLen) :
    Calls Try.prog 9 #[.slice a n c] w (OutE w) := by
  go_enter Try.func9, Try.ntmps9
  go_wp2_with fail
  refine (spec_l20Open a n c w h hc hm).mono ?_
  rintro e w0 ⟨R, rfl, hR, hr, hb⟩
  go_wp2_with fail
  refine (spec_l20Expr R 0 7 9 _ hr (by omega) (by omega) (by omega)).mono ?_
  rintro e w1 hx
  obtain ⟨v, rfl, HO⟩ := outE_mk hb hR hx
  clear hx hr hb
  go_wp2_with fail
  go_ret
  exact HO
set_option maxHeartbeats 1000000 in
theorem spec_DrawExprSimple (a : Option Addr) (n c : Nat) (w : World) (h : Code8 w a n) (hc : n ≤ c) (hm : c ≤ maxLen) :
    Calls Try.prog 31 #[.slice a n c] w (OutE w) := by
  go_enter Try.func31, Try.ntmps31
  go_wp2_with fail
  refine (spec_l20Open a n c w h hc hm).mono ?_
  rintro e w0 ⟨R, rfl, hR, hr, hb⟩
  go_wp2_with fail
  refine (spec_l20Expr R 0 7 9 _ hr (by omega) (by omega) (by omega)).mono ?_
  rintro e w1 hx
  obtain ⟨v, rfl, HO⟩ := outE_mk hb hR hx
  clear hx hr hb
  go_wp2_with fail
  go_ret
  exact HO
/-- A width, an expression and two words that were drawn. -/
def OutV (w : World) (e : Ending) (w' : World) : Prop := ∃ (k x y : Int) (xs : List Int) (g c : Nat), e = .returned (.tuple #[.int .i64 k, .slice (some ⟨g, 0, none⟩) xs.length c, .int .i64 x, .int .i64 y]) ∧ -1 ≤ k ∧ k ≤ 13 ∧ -2 ≤ x ∧ x ≤ 4096 ∧ -2 ≤ y ∧ y ≤ 4096 ∧
  w'.ownsRow w.heap.size 3 1 (.slice (some ⟨g, 0, none⟩) xs.length c) xs.length (I64 xs) ∧ xs.length ≤ 25 ∧ Below w.heap.size w w'
set_option maxHeartbeats 1000000 in
theorem spec_DrawValueOf (a : Option Addr) (n c : Nat) (w : World) (h : Code8 w a n) (hc : n ≤ c) (hm : c ≤ maxLen) :
    Calls Try.prog 15 #[.slice a n c] w (OutV w) := by
  go_enter Try.func15, Try.ntmps15
  go_wp2_with fail
  refine (spec_l20Open a n c w h hc hm).mono ?_
  rintro e w0 ⟨R, rfl, hR, hr, hb⟩
  go_wp2_with fail
  refine (spec_l20Two R 0 14 _ hr (by omega) (by omega) (by omega)).mono ?_
  rintro e w1 ⟨k, x, y, rfl, k0, k1, x0, x1, y0, y1, hr2, hg⟩
  have hb1 := open_below hb hg hR
  go_wp2_with fail
  refine (spec_l20Expr R _ 6 14 _ hr2 (by omega) (by omega) (by omega)).mono ?_
  rintro e w2 hx
  obtain ⟨v, rfl, xs, g, c', e', hown, hlen, hb2⟩ := outE_mk hb1 hR hx
  injection e' with e'
  subst e'
  have HO := Lib.hid hown
  have HB := Lib.hid hb2
  clear hx hr hb hr2 hg hb1 hown hb2
  go_wp2_with fail
  refine bodyPost_ret (results_tmp4 rfl _ _ _) rfl ?_
  exact ⟨k, x, y, xs, g, c', rfl, k0, k1, by omega, x1, by omega, y1, HO.out, hlen, HB.out⟩
end Go.Proofs.Ytnjcephddilalab
