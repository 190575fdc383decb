/-
  The law FnCodeRun: for every code it returns true.
  Conditions: none.
-/
import Derived.Test.YtnjcephddilalaaD8
import Derived.Test.YtnjcephddilalaaE7
import Derived.Test.YtnjcephddilalaaE8
import Derived.Test.YtnjcephddilalaaLa
namespace Go.Proofs.Ytnjcephddilalaa
set_option linter.unusedVariables false
set_option linter.unusedSimpArgs false
open Go.RowKit
theorem codeRun_word {k num x y : Int} {code : List Pl.Op3} (h : Pl.v2 k x y = true) : Pl.codeRun k code num x y = -1 ∨ Pl.wvB k (Pl.codeRun k code num x y) = true := by
  unfold Pl.codeRun
  split
  · split
    · rename_i vals hv
      split
      · refine .inr ?_
        have key : ∀ (c : List Pl.Op3) (a b : List Int), Pl.Words k a → Pl.runC k x y c a = some b → Pl.Words k b := by
          intro c
          induction c with
          | nil => intro a b ha hb; simp [Pl.runC] at hb; subst hb; exact ha
          | cons o t ih =>
            intro a b ha hb
            unfold Pl.runC at hb
            split at hb
            · exact ih _ _ (Pl.words_doOp h ha) hb
            · cases hb
        exact Pl.atv_word h (key code [] vals (fun v hv => absurd hv (List.not_mem_nil)) hv)
      · exact .inl rfl
    · exact .inl rfl
  · exact .inl rfl
theorem codeRun_x {k x y : Int} (h : Pl.v2 k x y = true) : Pl.codeRun k [] 10 x y = x := by
  rw [Pl.codeRun_end h (by simp) rfl]; rfl
theorem codeRun_y {k x y : Int} (h : Pl.v2 k x y = true) : Pl.codeRun k [] 11 x y = y := by
  rw [Pl.codeRun_end h (by simp) rfl]; rfl
set_option maxHeartbeats 2000000 in
theorem law_FnCodeRun (a0 : Option Addr) (len0 cap0 : Nat) (z0 : List Int) (w : World) (w0 : IsRow .u8 w a0 len0 cap0 z0) :
    Calls Try.prog 14 #[.slice a0 len0 cap0] w fun e w' => e = .returned (.bool true) ∧ Below w.heap.size w w' := by
  obtain ⟨hc, hl, hm⟩ := code_of_row w0
  clear w0
  have hm' := hm
  unfold maxLen at hm'
  by_cases hbig : 1048576 < len0
  · have hbi : (1048576 : Int) < len0 := by omega
    go_enter Try.func14, Try.ntmps14
    go_wp2
    go_ret
    exact ⟨rfl, Below.refl _ _⟩
  have hbi : ¬ (1048576 : Int) < len0 := by omega
  go_enter Try.func14, Try.ntmps14
  go_wp2_with fail
  refine (spec_DrawCodeRun a0 len0 cap0 _ hc hl hm).mono ?_
  rintro e v0 ⟨k, num, x, y, code, n, A, c, rfl, own0, hn, HB0⟩
  clear hc hl hm hm' hbig
  have r0 := rdI_own own0
  have z0 := HB0.size
  have ci := Lib.hid (fun A n c B w => impl_CodeRun k num x y A n c B code w)
  have cs := Lib.hid (fun A n c B w => spec_CodeRun k num x y A n c B code w)
  have hcase : Pl.codeRun k code num x y = -1 ∨ (Pl.v2 k x y = true ∧ Pl.wvB k (Pl.codeRun k code num x y) = true) := by
    cases hv : Pl.v2 k x y
    · exact .inl (Pl.codeRun_f (by simp [hv]))
    · exact (codeRun_word hv).imp id (fun h => ⟨rfl, h⟩)
  generalize Pl.codeRun k code num x y = V at *
  have hvv : (V != V) = false := by simp
  go_wp2_with fail
  refine (ci.out _ _ _ _ _ r0 (Nat.le_refl _) (by omega)).mono ?_
  rintro e w1 ⟨rfl, hb1⟩
  have z1 := hb1.size
  go_wp2_with fail
  refine (cs.out _ _ _ _ _ (r0.below hb1) z1 (by omega)).mono ?_
  rintro e w2 ⟨rfl, hb2⟩
  have HB2 := below_step (below_step HB0 hb1 z0) hb2 (by omega)
  clear ci cs hb1 hb2 own0 r0 HB0
  rcases hcase with rfl | ⟨hv, hw⟩
  · go_wp2_with fail
    refine (laws_alive _).mono ?_
    rintro e w4 ⟨rfl, hb4⟩
    have HB4 := below_step HB2 hb4 HB2.size
    go_wp2_with fail
    go_ret
    exact ⟨rfl, HB4⟩
  · obtain ⟨_, _, v0', v1'⟩ := Pl.wv_t hw
    have hx := codeRun_x hv
    have hy := codeRun_y hv
    have hxx : (x == x) = true := by simp
    have hyy : (y == y) = true := by simp
    go_wp2_with fail
    refine (impl_WordValid _ _ _).mono ?_
    rw [hw]
    rintro e w' ⟨rfl, rfl⟩
    go_wp2_with fail
    refine (impl_CodeRun k 10 x y none 0 0 0 [] _ RdI.zero (by omega) (by omega)).mono ?_
    rw [hx]
    rintro e w4 ⟨rfl, hb4⟩
    have HB4 := below_step HB2 hb4 HB2.size
    go_wp2_with fail
    refine (impl_CodeRun k 11 x y none 0 0 0 [] _ RdI.zero (by omega) (by omega)).mono ?_
    rw [hy]
    rintro e w5 ⟨rfl, hb5⟩
    have HB5 := below_step HB4 hb5 HB4.size
    go_wp2_with fail
    go_ret
    exact ⟨rfl, HB5⟩
end Go.Proofs.Ytnjcephddilalaa
