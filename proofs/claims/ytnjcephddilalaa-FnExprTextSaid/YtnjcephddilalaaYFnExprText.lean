/-
  The law FnExprText: for every code it returns true.
  Conditions: none.
-/
import Derived.Test.YtnjcephddilalaaD7
import Derived.Test.YtnjcephddilalaaT7
namespace Go.Proofs.Ytnjcephddilalaa
set_option linter.unusedVariables false
set_option linter.unusedSimpArgs false
open Go.RowKit
set_option maxRecDepth 100000 in
set_option maxHeartbeats 2000000 in
theorem law_FnExprText (a0 : Option Addr) (len0 cap0 : Nat) (z0 : List Int) (w : World) (w0 : IsRow .u8 w a0 len0 cap0 z0) :
    Calls Try.prog 12 #[.slice a0 len0 cap0] w fun e w' => e = .returned (.bool true) ∧ Below w.heap.size w w' := by
  obtain ⟨hc, hl, hm⟩ := code_of_row w0
  clear w0
  have hm' := hm
  unfold maxLen at hm'
  by_cases hbig : 1048576 < len0
  · have hbi : (1048576 : Int) < len0 := by omega
    go_enter Try.func12, Try.ntmps12
    go_wp2
    go_ret
    exact ⟨rfl, Below.refl _ _⟩
  have hbi : ¬ (1048576 : Int) < len0 := by omega
  go_enter Try.func12, Try.ntmps12
  go_wp2_with fail
  refine (spec_DrawExprText a0 len0 cap0 _ hc hl hm).mono ?_
  rintro e v0 ⟨xs, g, c, rfl, own0, hlen, HB0⟩
  clear hc hl hm hm' hbig
  have z0 := HB0.size
  go_wp2_with fail
  refine (impl_ExprText _ _ _ _ xs _ (rd_own own0) (Nat.le_refl _) (by omega)).mono ?_
  rintro e v1 ⟨rfl, hb1⟩
  have HB1 := below_step HB0 hb1 z0
  have own1 := own_below own0 hb1
  have z1 := HB1.size
  clear hb1 own0
  go_wp2_with fail
  refine (spec_ExprText _ _ _ _ xs _ (rd_own own1) (Nat.le_refl _) (by omega) (own_cap own1)).mono ?_
  rintro e v2 ⟨rfl, hb2⟩
  have HB2 := below_step HB1 hb2 z1
  have own2 := own_below own1 hb2
  have z2 := HB2.size
  clear hb2 own1
  have hbl := Ba_list (Pl.exprText xs)
  cases hv : Pl.exprValid xs with
  | false =>
    have ht := exprText_f hv
    rw [ht] at hbl ⊢
    have HV := Lib.hid hv
    clear hv ht
    go_wp2_with fail
    refine (impl_ExprValid _ _ _ _ xs _ (rd_own own2) (by omega)).mono ?_
    rw [HV.out]
    rintro e w' ⟨rfl, rfl⟩
    go_wp2_with fail
    refine (laws_alive _).mono ?_
    rintro e v3 ⟨rfl, hb3⟩
    have HB3 := below_step HB2 hb3 z2
    go_wp2_with fail
    all_goals (go_ret; exact ⟨rfl, HB3⟩)
  | true =>
    have ht := Pl.text_pos hv
    have hR := Lib.hid (Pl.readE_text hv)
    have htl := Pl.text_len hv
    generalize Pl.exprText xs = x at *
    have hx1 : (x == []) = false := by simpa using ht
    have hx2 : x.isEmpty = false := by simpa using ht
    clear ht hv
    go_wp2_with fail
    refine (impl_ReadExpr x _ (by omega)).mono ?_
    rw [hR.out]
    rintro e v3 ⟨ys, A, cc, rfl, rfl, own3, hb3⟩
    have HB3 := below_step HB2 hb3 z2
    have r0 := (rd_own own2).below hb3
    go_wp2_with fail
    refine (laws_sameInts _ _ _ _ _ _ _ ys ys _ (rd_own own3) (r0.more hb3.size) (by omega) (by omega)).mono ?_
    rintro e v4 ⟨rfl, q, rfl⟩
    have HB := below_drewN HB3 q
    clear HB3 r0 own3 hb3 own2
    go_wp2_with fail
    all_goals (go_ret; exact ⟨ret_bool (by first | rfl | (simp; done)), HB⟩)
end Go.Proofs.Ytnjcephddilalaa
