/-
  The exact law of ExprText: for every list of numbers the program and the reference agree, and what was given is as it was.
  Conditions: none.
-/
import Derived.Test.YtnjcephddilalaaX4
import Derived.Test.YtnjcephddilalaaT4
namespace Go.Proofs.Ytnjcephddilalaa
set_option linter.unusedVariables false
set_option linter.unusedSimpArgs false
open Go.RowKit
theorem own_cap {w : World} {base n c : Nat} {e : TypeId} {A : Option Addr} {xs : List Value} (h : w.ownsRow base e 1 (.slice A n c) n xs) : n ≤ c := by
  obtain ⟨A', c', e0, h1, _, _⟩ := Rd.of_own h
  injection e0 with _ _ e3
  omega
set_option maxRecDepth 100000 in
set_option maxHeartbeats 1000000 in
theorem law_FnExactExprText (a0 : Option Addr) (len0 cap0 : Nat) (z0 : List Int) (w : World) (w0 : IsRow .i64 w a0 len0 cap0 z0) :
    Calls Try.prog 5 #[.slice a0 len0 cap0] w fun e w' => e = .returned (.bool true) ∧ Below w.heap.size w w' := by
  obtain ⟨xs, hr, _⟩ := ints_of_row w0
  clear w0
  by_cases hbig : 1048576 < len0
  · have hbi : (1048576 : Int) < len0 := by omega
    go_enter Try.func5, Try.ntmps5
    go_wp2
    go_ret
    exact ⟨rfl, Below.refl _ _⟩
  have hbi : ¬ (1048576 : Int) < len0 := by omega
  have lx : xs.length = len0 := by have := hr.len; rwa [I64_len] at this
  go_enter Try.func5, Try.ntmps5
  go_wp2_with fail
  refine (laws_toIntS a0 len0 cap0 _ xs _ hr (Nat.le_refl _) (by omega)).mono ?_
  rintro e w1 hh
  obtain ⟨A1, c1, rfl, own1, hb1⟩ := ownInts_n hh lx
  have q1 := hb1.size
  clear hh
  go_wp2_with fail
  refine (spec_ExprText _ _ _ _ xs _ (rd_own own1) (Nat.le_refl _) (by omega) (own_cap own1)).mono ?_
  rintro e w2 ⟨rfl, hb2⟩
  have q2 := hb2.size
  have HB2 := below_step hb1 hb2 q1
  have r2 := hr.below HB2
  clear hb1 hb2 own1
  go_wp2_with fail
  refine (laws_toIntS a0 len0 cap0 _ xs _ r2 (by omega) (by omega)).mono ?_
  rintro e w3 hh
  obtain ⟨A3, c3, rfl, own3, hb3⟩ := ownInts_n hh lx
  have q3 := hb3.size
  have HB3 := below_step HB2 hb3 (by omega)
  have r3 := hr.below HB3
  clear hh hb3 r2 HB2
  go_wp2_with fail
  refine (impl_ExprText _ _ _ _ xs _ (rd_own own3) (Nat.le_refl _) (by omega)).mono ?_
  rintro e w4 ⟨rfl, hb4⟩
  have q4 := hb4.size
  have HB4 := below_step HB3 hb4 (by omega)
  have r4 := hr.below HB4
  have own4 := own_below own3 hb4
  have d4 := (rd_own own3).below hb4
  clear hb4 r3 HB3 own3
  go_wp2_with fail
  refine (laws_toIntS a0 len0 cap0 _ xs _ r4 (by omega) (by omega)).mono ?_
  rintro e w5 hh
  obtain ⟨A5, c5, rfl, own5, hb5⟩ := ownInts_n hh lx
  have q5 := hb5.size
  have HB5 := below_step HB4 hb5 (by omega)
  have d5 := (d4.more q4).below hb5
  clear hh hb5 r4 HB4 d4
  go_wp2_with fail
  refine (laws_eqIntS _ _ _ _ _ _ _ xs xs _ (d5.more q5) (rd_own own5) (by omega) (by omega)).mono ?_
  rintro e w6 ⟨rfl, q, rfl⟩
  have HB := Lib.hid (below_drewN HB5 q)
  clear HB5 own5 own4 d5 hr
  go_wp2_with fail
  all_goals (go_ret; exact ⟨ret_bool (by first | rfl | (simp; done)), HB.out⟩)
end Go.Proofs.Ytnjcephddilalaa
