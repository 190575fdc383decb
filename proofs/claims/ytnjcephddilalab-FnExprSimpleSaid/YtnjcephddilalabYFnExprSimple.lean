/-
  The law FnExprSimple: for all codes it returns true.
  Conditions: none.
-/
import Derived.Test.YtnjcephddilalabD7
import Derived.Test.YtnjcephddilalabE4
import Derived.Test.YtnjcephddilalabS8
import Derived.Test.YtnjcephddilalabLa
namespace Go.Proofs.Ytnjcephddilalab
set_option linter.unusedVariables false
set_option linter.unusedSimpArgs false
open Go.RowKit
theorem code8_b {w w' : World} {a : Option Addr} {n : Nat} (h : Code8 w a n) (hb : Below w.heap.size w w') : Code8 w' a n := by
  obtain ⟨zs, h1, h2⟩ := h
  exact ⟨zs, (h1.below hb).more hb.size, h2⟩
set_option maxRecDepth 100000 in
set_option maxHeartbeats 4000000 in
theorem law_FnExprSimple (a0 : Option Addr) (len0 cap0 : Nat) (z0 : List Int) (a1 : Option Addr) (len1 cap1 : Nat) (z1 : List Int) (w : World) (w0 : IsRow .u8 w a0 len0 cap0 z0) (w1 : IsRow .u8 w a1 len1 cap1 z1) :
    Calls Try.prog 6 #[.slice a0 len0 cap0, .slice a1 len1 cap1] w fun e w' => e = .returned (.bool true) ∧ Below w.heap.size w w' := by
  obtain ⟨hc, hl, hm⟩ := code_of_row w0
  obtain ⟨hc', hl', hm'⟩ := code_of_row w1
  clear w0 w1
  have hm2 := hm
  have hm3 := hm'
  unfold maxLen at hm2 hm3
  by_cases hbig : 1048576 < len0
  · have hbi : (1048576 : Int) < len0 := by omega
    go_enter Try.func6, Try.ntmps6
    go_wp2
    go_ret
    exact ⟨rfl, Below.refl _ _⟩
  have hbi : ¬ (1048576 : Int) < len0 := by omega
  by_cases hbig1 : 1048576 < len1
  · have hbi1 : (1048576 : Int) < len1 := by omega
    go_enter Try.func6, Try.ntmps6
    go_wp2
    go_ret
    exact ⟨rfl, Below.refl _ _⟩
  have hbi1 : ¬ (1048576 : Int) < len1 := by omega
  go_enter Try.func6, Try.ntmps6
  go_wp2_with fail
  refine (spec_DrawExprSimple a0 len0 cap0 _ hc hl hm).mono ?_
  rintro e v0 ⟨xs, g, c, rfl, own0, hlen, HB0⟩
  have hc1 := Lib.hid (fun w' h => code8_b (w' := w') hc' h)
  clear hc hl hm hbig hbig1 hm2 hc'
  have y0 := HB0.size
  have hcc := own_cap own0
  have r0 := rd_own own0
  have cs := Lib.hid (fun A n c B w => spec_ExprSimple A n c B xs w)
  have ci := Lib.hid (fun A n c B w => impl_ExprSimple A n c B xs w)
  have sx := Lib.hid (fun A n c B w => spec_ExprValid A n c B xs w)
  have cv := Lib.hid (fun k x y A n c B w => impl_ValueOf k x y A n c B xs w)
  have cX := Lib.hid (fun A n c B w => impl_ExprValid A n c B (Pl.exprSimple xs) w)
  have cvX := Lib.hid (fun k x y A n c B w => impl_ValueOf k x y A n c B (Pl.exprSimple xs) w)
  have ciX := Lib.hid (fun A n c B w => impl_ExprSimple A n c B (Pl.exprSimple xs) w)
  have hbad : Pl.exprValid xs = false → Pl.exprSimple xs = [] := Pl.exprSimple_f
  have hgood : Pl.exprValid xs = true → Pl.exprValid (Pl.exprSimple xs) = true ∧ Pl.exprSimple (Pl.exprSimple xs) = Pl.exprSimple xs ∧ ∀ k x y, Pl.valueOf k (Pl.exprSimple xs) x y = Pl.valueOf k xs x y :=
    fun h => ⟨Pl.simple_valid h, Pl.simple_again h, fun k x y => Pl.simple_value' h⟩
  have hxl := Pl.simple_len (e := xs)
  generalize Pl.exprValid xs = ok at *
  generalize Pl.exprSimple xs = X at *
  go_wp2_with fail
  refine (ci.out _ _ _ _ _ r0 (Nat.le_refl _) (by omega)).mono ?_
  rintro e v1 ⟨A1, c1, rfl, own1, hb1⟩
  have y1 := hb1.size
  have r1 := r0.below hb1
  have HB1 := below_step HB0 hb1 y0
  clear hb1 HB0
  go_wp2_with fail
  refine (cs.out _ _ _ _ _ r1 y1 (by omega) hcc).mono ?_
  rintro e v2 ⟨A2, c2, rfl, own2, hb2⟩
  have y2 := hb2.size
  have r2 := r1.below (hb2.mono y1)
  have HB2 := below_step HB1 hb2 (by omega)
  have own1' := own_below own1 hb2
  clear hb2 HB1 own1 r0 r1
  go_wp2_with fail
  refine (laws_sameInts _ _ _ _ _ _ v2.heap.size X X _ (rd_own own1') (rd_own own2) (by omega) (by omega)).mono ?_
  rintro e v3 ⟨rfl, q, rfl⟩
  have HB3 := below_drewN HB2 q
  go_wp2_with fail
  refine (sx.out _ _ _ _ _ (r2.drewN q) (by omega)).mono ?_
  rintro e w' ⟨rfl, rfl⟩
  clear own2 HB2
  cases ok with
  | false =>
    have hX := hbad rfl
    subst hX
    clear hbad hgood
    go_wp2_with fail
    refine (laws_alive _).mono ?_
    rintro e v4 ⟨rfl, hb4⟩
    have HB4 := below_step HB3 hb4 HB3.size
    go_wp2_with fail
    all_goals (go_ret; exact ⟨rfl, HB4⟩)
  | true =>
    obtain ⟨g1, g2, g3⟩ := hgood rfl
    rw [g1] at cX
    rw [g2] at ciX
    have G3 := Lib.hid g3
    have hle : (X.length : Int) ≤ (xs.length : Int) := by omega
    clear hbad hgood g1 g2 g3
    go_wp2_with fail
    refine (spec_DrawValueOf a1 len1 cap1 _ (hc1.out _ HB3) hl' hm').mono ?_
    rintro e v4 ⟨k, x, y, es, g', c', rfl, k0, k1, x0, x1, y0', y1', own4, hes, hb4⟩
    have y4 : v2.heap.size ≤ v4.heap.size := hb4.size
    have HB4 := below_step HB3 hb4 HB3.size
    have rx := (r2.drewN q).below (hb4.mono (show v0.heap.size ≤ v2.heap.size by omega))
    have rX := ((rd_own own1').drewN q).below hb4
    clear own4 hb4 HB3 r2 own1'
    go_wp2_with fail
    refine (cX.out _ _ _ _ _ rX (by omega)).mono ?_
    rintro e w' ⟨rfl, rfl⟩
    go_wp2_with fail
    refine (cvX.out k x y _ _ _ _ _ rX y4 (by omega)).mono ?_
    rw [G3.out]
    rintro e v5 ⟨rfl, hb5⟩
    have y5 := hb5.size
    have HB5 := below_step HB4 hb5 (by omega)
    have rx5 := rx.below (hb5.mono (by omega))
    have rX5 := rX.below (hb5.mono y4)
    clear hb5 HB4 rx rX
    go_wp2_with fail
    refine (cv.out k x y _ _ _ _ _ rx5 (by omega) (by omega)).mono ?_
    rintro e v6 ⟨rfl, hb6⟩
    have y6 := hb6.size
    have HB6 := below_step HB5 hb6 (by omega)
    have rX6 := rX5.below (hb6.mono (by omega))
    clear hb6 HB5 rx5 rX5
    generalize Pl.valueOf k xs x y = V at *
    have hVV : (V == V) = true := by simp
    go_wp2_with fail
    refine (ciX.out _ _ _ _ _ rX6 (by omega) (by omega)).mono ?_
    rintro e v7 ⟨A7, c7, rfl, own7, hb7⟩
    have y7 := hb7.size
    have HB7 := below_step HB6 hb7 (by omega)
    have rX7 := rX6.below (hb7.mono (by omega))
    clear hb7 HB6 rX6
    go_wp2_with fail
    refine (laws_sameInts _ _ _ _ _ _ v7.heap.size X X _ (rd_own own7) (rX7.more (by omega)) (by omega) (by omega)).mono ?_
    rintro e v8 ⟨rfl, q8, rfl⟩
    have HB8 := below_drewN HB7 q8
    clear HB7 own7 rX7
    go_wp2_with fail
    all_goals (go_ret; exact ⟨ret_bool (by first | rfl | (simp; done)), HB8⟩)
end Go.Proofs.Ytnjcephddilalab
