/-
  The law FnShortFor: for all codes it returns true.
  Conditions: none.
-/
import Derived.Test.YtnjcephddilalabD12
import Derived.Test.YtnjcephddilalabH5
import Derived.Test.YtnjcephddilalabE14
import Derived.Test.YtnjcephddilalabKD
namespace Go.Proofs.Ytnjcephddilalab
set_option linter.unusedVariables false
set_option linter.unusedSimpArgs false
open Go.RowKit
set_option maxRecDepth 100000 in
set_option maxHeartbeats 4000000 in
theorem law_FnShortFor (a0 : Option Addr) (len0 cap0 : Nat) (z0 : List Int) (w : World) (w0 : IsRow .u8 w a0 len0 cap0 z0) :
    Calls Try.prog 8 #[.slice a0 len0 cap0] w fun e w' => e = .returned (.bool true) ∧ Below w.heap.size w w' := by
  obtain ⟨hc, hl, hm⟩ := code_of_row w0
  clear w0
  have hm2 := hm
  unfold maxLen at hm2
  by_cases hbig : 1048576 < len0
  · have hbi : (1048576 : Int) < len0 := by omega
    go_enter Try.func8, Try.ntmps8
    go_wp2
    go_ret
    exact ⟨rfl, Below.refl _ _⟩
  have hbi : ¬ (1048576 : Int) < len0 := by omega
  go_enter Try.func8, Try.ntmps8
  go_wp2_with fail
  refine (spec_DrawShortFor a0 len0 cap0 _ hc hl hm).mono ?_
  rintro e v0 ⟨A0, xs, c0, rfl, r0, hlen, hcc, HB0⟩
  clear hc hl hm hbig hm2
  have y0 := HB0.size
  have ci := fun A n c B w => impl_ShortFor A n c B xs w
  have cs := fun A n c B w => spec_ShortFor A n c B xs w
  cases hs : Pl.shortFor xs with
  | none =>
    simp only [hs, Option.getD, Option.isSome] at ci cs
    have CI := Lib.hid ci
    have CS := Lib.hid cs
    clear ci cs hs
    go_wp2_with fail
    refine (CI.out _ _ _ _ _ r0 (Nat.le_refl _) (by omega)).mono ?_
    rintro e v1 ⟨A1, c1, rfl, own1, hb1⟩
    have y1 := hb1.size
    have r1 := r0.below hb1
    have HB1 := below_step HB0 hb1 y0
    clear hb1 HB0
    go_wp2_with fail
    refine (CS.out _ _ _ _ _ r1 y1 (by omega)).mono ?_
    rintro e v2 ⟨A2, c2, rfl, own2, hb2⟩
    have HB2 := below_step HB1 hb2 (by omega)
    have own1' := own_below own1 hb2
    clear hb2 HB1 own1 r1
    go_wp2_with fail
    refine (laws_sameInts _ _ _ _ _ _ v2.heap.size [] [] _ (rd_own own1') (rd_own own2) (by simp) (by simp)).mono ?_
    rintro e v3 ⟨rfl, q, rfl⟩
    have HB3 := below_drewN HB2 q
    go_wp2_with fail
    refine (laws_alive _).mono ?_
    rintro e v4 ⟨rfl, hb4⟩
    have HB4 := below_step HB3 hb4 HB3.size
    go_wp2_with fail
    all_goals (go_ret; exact ⟨rfl, HB4⟩)
  | some f =>
    obtain ⟨h1, h2, ⟨h3, h4, h5⟩, h6⟩ := Pl.short_some hs
    simp only [hs, Option.getD, Option.isSome] at ci cs
    have cf := fun A n c B w => impl_ShortFor A n c B f w
    simp only [h6, Option.getD, Option.isSome] at cf
    obtain ⟨p, q, hpq⟩ := equalAt_same xs f
    have ce := fun A A' n c n' c' B w => impl_EqualAt 3 A A' n c n' c' B xs f w
    rw [hpq, h2] at ce
    have cw := fun A n c B w => laws_works A n c B f w
    have CI := Lib.hid ci
    have CS := Lib.hid cs
    have CF := Lib.hid cf
    have CE := Lib.hid ce
    have hwl : ((Pl.worksL f : Nat) : Int) ≤ 2 := by omega
    generalize Pl.worksL f = wl at *
    have CW := Lib.hid cw
    clear ci cs cf ce cw hs h1 h2 h3 h6 hpq
    go_wp2_with fail
    refine (CI.out _ _ _ _ _ r0 (Nat.le_refl _) (by omega)).mono ?_
    rintro e v1 ⟨A1, c1, rfl, own1, hb1⟩
    have y1 := hb1.size
    have r1 := r0.below hb1
    have HB1 := below_step HB0 hb1 y0
    clear hb1 HB0 r0
    go_wp2_with fail
    refine (CS.out _ _ _ _ _ r1 y1 (by omega)).mono ?_
    rintro e v2 ⟨A2, c2, rfl, own2, hb2⟩
    have y2 := hb2.size
    have r2 := r1.below (hb2.mono y1)
    have HB2 := below_step HB1 hb2 (by omega)
    have own1' := own_below own1 hb2
    clear hb2 HB1 own1 r1
    go_wp2_with fail
    refine (laws_sameInts _ _ _ _ _ _ v2.heap.size f f _ (rd_own own1') (rd_own own2) (by omega) (by omega)).mono ?_
    rintro e v3 ⟨rfl, q3, rfl⟩
    have HB3 := below_drewN HB2 q3
    have r3 := (r2.drewN q3).more (B' := v2.heap.size) (by omega)
    have rf3 := (rd_own own1').drewN q3
    clear HB2 r2 own1' own2
    go_wp2_with fail
    refine (CE.out _ _ _ _ _ _ _ _ r3 rf3 (Nat.le_refl _) (by omega) (by omega)).mono ?_
    rintro e v4 ⟨rfl, hb4⟩
    have y4 : v2.heap.size ≤ v4.heap.size := hb4.size
    have HB4 := below_step HB3 hb4 HB3.size
    have rf4 := rf3.below hb4
    clear HB3 hb4 r3 rf3
    go_wp2_with fail
    refine (CF.out _ _ _ _ _ rf4 y4 (by omega)).mono ?_
    rintro e v5 ⟨A5, c5, rfl, own5, hb5⟩
    have y5 := hb5.size
    have HB5 := below_step HB4 hb5 (by omega)
    have rf5 := rf4.below (hb5.mono y4)
    clear HB4 hb5 rf4
    go_wp2_with fail
    refine (CW.out _ _ _ _ _ rf5 (by omega)).mono ?_
    rintro e w' ⟨rfl, rfl⟩
    go_wp2_with fail
    refine (laws_sameInts _ _ _ _ _ _ v5.heap.size f f _ (rd_own own5) (rf5.more (by omega)) (by omega) (by omega)).mono ?_
    rintro e v6 ⟨rfl, q6, rfl⟩
    have HB6 := below_drewN HB5 q6
    clear HB5 rf5 own5
    go_wp2_with fail
    all_goals (go_ret; exact ⟨ret_bool (by first | rfl | (simp; done)), HB6⟩)
end Go.Proofs.Ytnjcephddilalab
