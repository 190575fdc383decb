/-
  What the laws draw out of their codes: a width and words, always numbers in a small range; nothing that was there turns.
  Conditions: none but those of the model.
-/
import Derived.Test.YtanaafdnnjkimaaD2
namespace Go.Proofs.Ytanaafdnnjkimaa
set_option linter.unusedVariables false
set_option linter.unusedSimpArgs false
open Go.RowKit

theorem open_below {w w1 w2 : World} {R : Nat} (h : Below w.heap.size w w1) (hg : w1.grownBy w2 (some R)) (hR : w.heap.size ≤ R) : Below w.heap.size w w2 :=
  h.grown hg h.size (fun k hk => by injection hk with hk; omega)
def Out2 (w : World) (e : Ending) (w' : World) : Prop := ∃ k x : Int, e = .returned (.tuple #[.int .i64 k, .int .i64 x]) ∧ -1 ≤ k ∧ k ≤ 13 ∧ -2 ≤ x ∧ x ≤ 4096 ∧ Below w.heap.size w w'
def Out3 (w : World) (e : Ending) (w' : World) : Prop := ∃ k x y : Int, e = .returned (.tuple #[.int .i64 k, .int .i64 x, .int .i64 y]) ∧ -1 ≤ k ∧ k ≤ 13 ∧ -2 ≤ x ∧ x ≤ 4096 ∧ -2 ≤ y ∧ y ≤ 4096 ∧ Below w.heap.size w w'
def Out4 (w : World) (e : Ending) (w' : World) : Prop := ∃ k x y z : Int, e = .returned (.tuple #[.int .i64 k, .int .i64 x, .int .i64 y, .int .i64 z]) ∧ -1 ≤ k ∧ k ≤ 13 ∧ -2 ≤ x ∧ x ≤ 4096 ∧ -2 ≤ y ∧ y ≤ 4096 ∧ -2 ≤ z ∧ z ≤ 4096 ∧ Below w.heap.size w w'
theorem results_tmp4 {fn : Func} {t u v x : Tmp} (h : fn.results = #[.tmp t, .tmp u, .tmp v, .tmp x]) (tmps : Array Value) (P : Program) (w : World) :
    (results fn tmps).run P w = .ok (.tuple #[tmps.getD t undef, tmps.getD u undef, tmps.getD v undef, tmps.getD x undef]) w := by simp [results, h]






set_option maxHeartbeats 1000000 in
theorem spec_DrawLessByCarry (a : Option Addr) (n c : Nat) (w : World) (h : Code8 w a n) (hc : n ≤ c) (hm : c ≤ maxLen) :
    Calls Try.prog 59 #[.slice a n c] w (Out3 w) := by
  go_enter Try.func59, Try.ntmps59
  go_wp2_with fail
  refine (spec_l20Open a n c w h hc hm).mono ?_
  rintro e w0 ⟨R, rfl, hR, hr, hb⟩
  go_wp2_with fail
  refine (spec_l20Two R 0 9 _ hr (by omega) (by omega) (by omega)).mono ?_
  rintro e w1 ⟨k, x, y, rfl, k0, k1, x0, x1, y0, y1, hr2, hg⟩
  have HG := Lib.hid hg
  clear hg
  go_wp2_with fail
  refine (spec_pick R (0 + 10) 6 _ hr2 (by omega) (by omega)).mono ?_
  rintro e w2 ⟨v, rfl, hv, hr3, hg2⟩
  obtain ⟨v0, v1⟩ := hv.2 (by omega)
  have HB := Lib.hid (open_below hb (HG.out.trans hg2) hR)
  clear hg2 hb hv
  by_cases hv0 : v = 0
  · subst hv0
    go_wp2
    go_ret3
    exact ⟨k, x, x, rfl, k0, k1, by omega, x1, by omega, x1, HB.out⟩
  · have hvb : (v == 0) = false := by simpa using hv0
    clear hv0
    go_wp2
    go_ret3
    exact ⟨k, x, y, rfl, k0, k1, by omega, x1, by omega, y1, HB.out⟩


set_option maxHeartbeats 1000000 in
theorem spec_DrawLeastOf (a : Option Addr) (n c : Nat) (w : World) (h : Code8 w a n) (hc : n ≤ c) (hm : c ≤ maxLen) :
    Calls Try.prog 26 #[.slice a n c] w (Out3 w) := by
  go_enter Try.func26, Try.ntmps26
  go_wp2_with fail
  refine (spec_DrawLessByCarry a n c w h hc hm).mono ?_
  rintro e w1 ⟨k, x, y, rfl, k0, k1, x0, x1, y0, y1, HB⟩
  go_wp2
  go_ret3
  exact ⟨k, x, y, rfl, k0, k1, by omega, x1, by omega, y1, HB⟩


set_option maxHeartbeats 1000000 in
theorem spec_DrawTopsOf (a : Option Addr) (n c : Nat) (w : World) (h : Code8 w a n) (hc : n ≤ c) (hm : c ≤ maxLen) :
    Calls Try.prog 22 #[.slice a n c] w (Out2 w) := by
  go_enter Try.func22, Try.ntmps22
  go_wp2_with fail
  refine (spec_l20Open a n c w h hc hm).mono ?_
  rintro e w0 ⟨R, rfl, hR, hr, hb⟩
  go_wp2_with fail
  refine (spec_l20Lane R 0 _ hr (by omega)).mono ?_
  rintro e w1 ⟨k, x, rfl, k0, k1, x0, x1, hr2, hg⟩
  have HB := Lib.hid (open_below hb hg hR)
  clear hg hb
  go_wp2
  go_ret2
  exact ⟨k, x, rfl, k0, k1, by omega, x1, HB.out⟩


set_option maxHeartbeats 1000000 in
theorem spec_DrawLanesValid (a : Option Addr) (n c : Nat) (w : World) (h : Code8 w a n) (hc : n ≤ c) (hm : c ≤ maxLen) :
    Calls Try.prog 11 #[.slice a n c] w (Out2 w) := by
  go_enter Try.func11, Try.ntmps11
  go_wp2_with fail
  refine (spec_l20Open a n c w h hc hm).mono ?_
  rintro e w0 ⟨R, rfl, hR, hr, hb⟩
  go_wp2_with fail
  refine (spec_l20Width R 0 9 _ hr (by omega) (by omega)).mono ?_
  rintro e w1 ⟨k, rfl, k0, k1, hr2, hg⟩
  have HG := Lib.hid hg
  clear hg
  go_wp2_with fail
  refine (spec_pick R _ 9 _ hr2 (by omega) (by omega)).mono ?_
  rintro e w2 ⟨x, rfl, hx, hr3, hg2⟩
  obtain ⟨x0, x1⟩ := hx.2 (by omega)
  have HB := Lib.hid (open_below hb (HG.out.trans hg2) hR)
  clear hg2 hb hx
  go_wp2
  go_ret2
  exact ⟨k, x, rfl, k0, k1, by omega, by omega, HB.out⟩

set_option maxHeartbeats 1000000 in
theorem spec_DrawLanesOf (a : Option Addr) (n c : Nat) (w : World) (h : Code8 w a n) (hc : n ≤ c) (hm : c ≤ maxLen) :
    Calls Try.prog 17 #[.slice a n c] w (Out3 w) := by
  go_enter Try.func17, Try.ntmps17
  go_wp2_with fail
  refine (spec_l20Open a n c w h hc hm).mono ?_
  rintro e w0 ⟨R, rfl, hR, hr, hb⟩
  go_wp2_with fail
  refine (spec_l20Lane R 0 _ hr (by omega)).mono ?_
  rintro e w1 ⟨k, l, rfl, k0, k1, l0, l1, hr2, hg⟩
  have HG := Lib.hid hg
  clear hg
  go_wp2_with fail
  refine (spec_l20Word R _ k 14 _ hr2 (by omega) (by omega)).mono ?_
  rintro e w2 ⟨x, rfl, x0, x1, hr3, hg2⟩
  have HB := Lib.hid (open_below hb (HG.out.trans hg2) hR)
  clear hg2 hb
  go_wp2
  go_ret3
  exact ⟨k, l, x, rfl, k0, k1, by omega, by omega, by omega, by omega, HB.out⟩

set_option maxHeartbeats 1000000 in
theorem spec_DrawLanesAdd (a : Option Addr) (n c : Nat) (w : World) (h : Code8 w a n) (hc : n ≤ c) (hm : c ≤ maxLen) :
    Calls Try.prog 29 #[.slice a n c] w (Out4 w) := by
  go_enter Try.func29, Try.ntmps29
  go_wp2_with fail
  refine (spec_l20Open a n c w h hc hm).mono ?_
  rintro e w0 ⟨R, rfl, hR, hr, hb⟩
  go_wp2_with fail
  refine (spec_l20Lane R 0 _ hr (by omega)).mono ?_
  rintro e w1 ⟨k, l, rfl, k0, k1, l0, l1, hr2, hg⟩
  have HG := Lib.hid hg
  clear hg
  go_wp2_with fail
  refine (spec_l20Word R _ k 14 _ hr2 (by omega) (by omega)).mono ?_
  rintro e w2 ⟨x, rfl, x0, x1, hr3, hg2⟩
  have HG2 := Lib.hid (HG.out.trans hg2)
  clear hg2
  go_wp2_with fail
  refine (spec_l20Word R _ k 14 _ hr3 (by omega) (by omega)).mono ?_
  rintro e w3 ⟨y, rfl, y0, y1, hr4, hg3⟩
  have HB := Lib.hid (open_below hb (HG2.out.trans hg3) hR)
  clear hg3 hb
  go_wp2
  refine bodyPost_ret (results_tmp4 rfl _ _ _) rfl ?_
  exact ⟨k, l, x, y, rfl, k0, k1, by omega, by omega, by omega, by omega, by omega, by omega, HB.out⟩

set_option maxHeartbeats 1000000 in
theorem spec_DrawLanesSub (a : Option Addr) (n c : Nat) (w : World) (h : Code8 w a n) (hc : n ≤ c) (hm : c ≤ maxLen) :
    Calls Try.prog 31 #[.slice a n c] w (Out4 w) := by
  go_enter Try.func31, Try.ntmps31
  go_wp2_with fail
  refine (spec_DrawLanesAdd a n c w h hc hm).mono ?_
  rintro e w1 ⟨k, l, x, y, rfl, hh⟩
  have HH := Lib.hid hh
  clear hh
  go_wp2
  refine bodyPost_ret (results_tmp4 rfl _ _ _) rfl ?_
  exact ⟨k, l, x, y, rfl, HH.out⟩


set_option maxHeartbeats 1000000 in
theorem spec_DrawLanesNone (a : Option Addr) (n c : Nat) (w : World) (h : Code8 w a n) (hc : n ≤ c) (hm : c ≤ maxLen) :
    Calls Try.prog 35 #[.slice a n c] w (Out3 w) := by
  go_enter Try.func35, Try.ntmps35
  go_wp2_with fail
  refine (spec_l20Open a n c w h hc hm).mono ?_
  rintro e w0 ⟨R, rfl, hR, hr, hb⟩
  go_wp2_with fail
  refine (spec_l20Lane R 0 _ hr (by omega)).mono ?_
  rintro e w1 ⟨k, l, rfl, k0, k1, l0, l1, hr2, hg⟩
  have HG := Lib.hid hg
  clear hg
  go_wp2_with fail
  refine (spec_l20Word R _ k 14 _ hr2 (by omega) (by omega)).mono ?_
  rintro e w2 ⟨x, rfl, x0, x1, hr3, hg2⟩
  have HG2 := Lib.hid (HG.out.trans hg2)
  clear hg2
  by_cases hx : 0 < x
  · go_wp2_with fail
    refine (spec_pick R _ 2 _ hr3 (by omega) (by omega)).mono ?_
    rintro e w3 ⟨v, rfl, hv, hr4, hg3⟩
    obtain ⟨v0, v1⟩ := hv.2 (by omega)
    have HG3 := Lib.hid (HG2.out.trans hg3)
    clear hg3 hv
    by_cases hv0 : v = 0
    · subst hv0
      go_wp2_with fail
      refine (spec_l20WordL R _ k 0 _ hr4 (by omega) (by omega) 0 (by omega)).mono ?_
      rintro e w4 ⟨y, rfl, y0, y1, hr5, hg4⟩
      have HB := Lib.hid (open_below hb (HG3.out.trans hg4) hR)
      have a0 := Pl.land_nonneg x y
      have a1 := Pl.land_le_r x y y0
      clear hg4 hb
      go_wp2_with (first | (go_at_call 46; refine (spec_l1And _ _ _ (by omega) (by omega) (by omega) (by omega)).mono ?_; rintro e w' ⟨rfl, rfl⟩))
      go_ret3
      exact ⟨k, l, _, rfl, k0, k1, by omega, by omega, by omega, by omega, HB.out⟩
    · have hvb : (v == 0) = false := by simpa using hv0
      clear hv0
      have HB := Lib.hid (open_below hb HG3.out hR)
      clear hb
      go_wp2
      go_ret3
      exact ⟨k, l, x, rfl, k0, k1, by omega, by omega, by omega, by omega, HB.out⟩
  · have HB := Lib.hid (open_below hb HG2.out hR)
    clear hb
    go_wp2
    go_ret3
    exact ⟨k, l, x, rfl, k0, k1, by omega, by omega, by omega, by omega, HB.out⟩

end Go.Proofs.Ytanaafdnnjkimaa
