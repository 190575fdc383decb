/-
  The law FnMaskOf: for every code it returns true.
  Conditions: none.
-/
import Derived.Test.YtchlmjlcmcdjpaaLa
namespace Go.Proofs.Ytchlmjlcmcdjpaa
set_option linter.unusedVariables false
set_option linter.unusedSimpArgs false
open Go.RowKit
set_option maxHeartbeats 1000000 in
theorem law_FnMaskOf (a0 : Option Addr) (len0 cap0 : Nat) (z0 : List Int) (w : World) (w0 : IsRow .u8 w a0 len0 cap0 z0) :
    Calls Try.prog 4 #[.slice a0 len0 cap0] w fun e w' => e = .returned (.bool true) ∧ Below w.heap.size w w' := by
  obtain ⟨hc, hl, hm⟩ := code_of_row w0
  clear w0
  have hm' := hm
  unfold maxLen at hm'
  by_cases hbig : 1048576 < len0
  · have hbi : (1048576 : Int) < len0 := by omega
    go_enter Try.func4, Try.ntmps4
    go_wp2
    go_ret
    exact ⟨rfl, Below.refl _ _⟩
  have hbi : ¬ (1048576 : Int) < len0 := by omega
  go_enter Try.func4, Try.ntmps4
  go_wp2_with fail
  refine (spec_DrawMaskOf a0 len0 cap0 _ hc hl hm).mono ?_
  rintro e v0 ⟨k, c, rfl, k0, k1, c0, c1, HB0⟩
  clear hc hl hm hm' hbig
  rcases three (decide (1 ≤ k ∧ k ≤ 12)) (c = 0 ∨ c = 1) with hv | ⟨hv, rfl | rfl⟩ | ⟨hv, hc⟩
  · have e1 : Pl.maskOf k c = -1 := Pl.maskOf_f (fun x => of_decide_eq_false hv x.1)
    clear hv
    go_wp2_with fail
    refine (impl_MaskOf k c _).mono ?_
    rintro e w' ⟨rfl, rfl⟩
    go_wp2_with fail
    refine (spec_MaskOf k c _).mono ?_
    rintro e w' ⟨rfl, rfl⟩
    go_wp2_with fail
    refine (laws_alive _).mono ?_
    rintro e w1 ⟨rfl, hb1⟩
    have HB1 := below_step HB0 hb1 HB0.size
    clear hb1
    go_wp2
    all_goals (go_ret; exact ⟨ret_bool (by first | rfl | (simp; done) | (simp; omega)), HB1⟩)
  · obtain ⟨h0, h1⟩ := of_decide_eq_true hv
    have hp := Pl.pw_lt k h1
    have hp0 := Pl.pw_pos k
    have hw := Pl.wrap_pw k (by omega) (by omega)
    have e1 : Pl.maskOf k 0 = 0 := by rw [Pl.maskOf_t h0 h1 (.inl rfl), Int.zero_mul]
    have e2 : Pl.maskOf k 1 = Pl.pw k - 1 := by rw [Pl.maskOf_t h0 h1 (.inr rfl), Int.one_mul]
    have e3 : Pl.wordNot k 0 = Pl.pw k - 1 := by simp [Pl.wordNot, Pl.wv_mk h0 h1 (x := 0) (by omega) (by omega)]
    clear hv
    go_wp2_with fail
    refine (impl_MaskOf k 0 _).mono ?_
    rintro e w' ⟨rfl, rfl⟩
    go_wp2_with fail
    refine (spec_MaskOf k 0 _).mono ?_
    rintro e w' ⟨rfl, rfl⟩
    go_wp2_with fail
    refine (impl_MaskOf k 1 _).mono ?_
    rintro e w' ⟨rfl, rfl⟩
    go_wp2_with fail
    refine (impl_WordNot k 0 _).mono ?_
    rintro e w1 ⟨rfl, hb1⟩
    have HB1 := below_step HB0 hb1 HB0.size
    clear hb1
    go_wp2
    all_goals (go_ret; exact ⟨ret_bool (by first | rfl | (simp; done) | (simp; omega)), HB1⟩)
  · obtain ⟨h0, h1⟩ := of_decide_eq_true hv
    have hp := Pl.pw_lt k h1
    have hp0 := Pl.pw_pos k
    have hw := Pl.wrap_pw k (by omega) (by omega)
    have e1 : Pl.maskOf k 0 = 0 := by rw [Pl.maskOf_t h0 h1 (.inl rfl), Int.zero_mul]
    have e2 : Pl.maskOf k 1 = Pl.pw k - 1 := by rw [Pl.maskOf_t h0 h1 (.inr rfl), Int.one_mul]
    have e3 : Pl.wordNot k (Pl.pw k - 1) = 0 := by simp [Pl.wordNot, Pl.wv_mk h0 h1 (x := Pl.pw k - 1) (by omega) (by omega)]
    clear hv
    go_wp2_with fail
    refine (impl_MaskOf k 1 _).mono ?_
    rintro e w' ⟨rfl, rfl⟩
    go_wp2_with fail
    refine (spec_MaskOf k 1 _).mono ?_
    rintro e w' ⟨rfl, rfl⟩
    go_wp2_with fail
    refine (impl_MaskOf k 0 _).mono ?_
    rintro e w' ⟨rfl, rfl⟩
    go_wp2_with fail
    refine (impl_WordNot _ _ _).mono ?_
    rintro e w1 ⟨rfl, hb1⟩
    have HB1 := below_step HB0 hb1 HB0.size
    clear hb1
    go_wp2
    all_goals (go_ret; exact ⟨ret_bool (by first | rfl | (simp; done) | (simp; omega)), HB1⟩)
  · have e1 : Pl.maskOf k c = -1 := Pl.maskOf_f (fun x => hc x.2)
    clear hc hv
    go_wp2_with fail
    refine (impl_MaskOf k c _).mono ?_
    rintro e w' ⟨rfl, rfl⟩
    go_wp2_with fail
    refine (spec_MaskOf k c _).mono ?_
    rintro e w' ⟨rfl, rfl⟩
    go_wp2_with fail
    refine (laws_alive _).mono ?_
    rintro e w1 ⟨rfl, hb1⟩
    have HB1 := below_step HB0 hb1 HB0.size
    clear hb1
    go_wp2
    all_goals (go_ret; exact ⟨ret_bool (by first | rfl | (simp; done) | (simp; omega)), HB1⟩)
end Go.Proofs.Ytchlmjlcmcdjpaa
