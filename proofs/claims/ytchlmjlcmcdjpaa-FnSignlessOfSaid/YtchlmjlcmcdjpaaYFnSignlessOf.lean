/-
  The law FnSignlessOf: for every code it returns true.
  Conditions: none.
-/
import Derived.Test.YtchlmjlcmcdjpaaLa
namespace Go.Proofs.Ytchlmjlcmcdjpaa
set_option linter.unusedVariables false
set_option linter.unusedSimpArgs false
open Go.RowKit
set_option maxHeartbeats 1000000 in
theorem law_FnSignlessOf (a0 : Option Addr) (len0 cap0 : Nat) (z0 : List Int) (w : World) (w0 : IsRow .u8 w a0 len0 cap0 z0) :
    Calls Try.prog 12 #[.slice a0 len0 cap0] w fun e w' => e = .returned (.bool true) ∧ Below w.heap.size w w' := by
  obtain ⟨hc, hl, hm⟩ := code_of_row w0
  clear w0
  have hm' := hm
  unfold maxLen at hm'
  by_cases hbig : 1048576 < len0
  · have hbi : (1048576 : Int) < len0 := by omega
    go_enter Try.func12, Try.ntmps12
    go_wp2
    go_ret
    exact ⟨rfl, Below.refl _ _⟩
  have hbi : ¬ (1048576 : Int) < len0 := by omega
  go_enter Try.func12, Try.ntmps12
  go_wp2_with fail
  refine (spec_DrawSignlessOf a0 len0 cap0 _ hc hl hm).mono ?_
  rintro e v0 ⟨k, x, rfl, k0, k1, x0, x1, HB0⟩
  clear hc hl hm hm' hbig
  rcases three (Pl.wvB k x) (Pl.pw (k - 1) ≤ x) with hv | ⟨hv, hx⟩ | ⟨hv, hx⟩
  · have e1 : Pl.signlessOf k x = -1 := by simp [Pl.signlessOf, hv]
    go_wp2_with fail
    refine (impl_SignlessOf k x _).mono ?_
    rintro e w1 ⟨rfl, hb1⟩
    have HB1 := below_step HB0 hb1 HB0.size
    clear hb1
    go_wp2_with fail
    refine (spec_SignlessOf k x _).mono ?_
    rintro e w' ⟨rfl, rfl⟩
    go_wp2_with fail
    refine (laws_alive _).mono ?_
    rintro e w2 ⟨rfl, hb2⟩
    have HB2 := below_step HB1 hb2 HB1.size
    clear hb2
    go_wp2
    all_goals (go_ret; exact ⟨ret_bool (by first | rfl | (simp; done) | (simp; omega)), HB2⟩)
  · obtain ⟨h0, h1, h2, h3⟩ := Pl.wv_t hv
    have hp := Pl.pw_lt k h1
    have hh := Pl.pw_half k h0
    have hp0 := Pl.pw_pos (k - 1)
    have ht := Pl.bt_top k x hv
    rw [if_pos hx] at ht
    have e1 : Pl.signlessOf k x = Pl.pw k - x := by simp [Pl.signlessOf, hv, ht]
    have e2 : Pl.signedOf k x = x - Pl.pw k := by simp [Pl.signedOf, hv, ht]
    have hh1 : Pl.pw k ≤ 2 * Pl.pw (k - 1) := by omega
    have hh2 : 2 * Pl.pw (k - 1) ≤ Pl.pw k := by omega
    have hw := Pl.wrap_pw (k - 1) (by omega) (by omega)
    have hw2 : wrap64 (2 ^ (k.toNat - 1)) = Pl.pw (k - 1) := by rw [← hw, show (k - 1).toNat = k.toNat - 1 by omega]
    clear hh ht
    go_wp2_with fail
    refine (impl_SignlessOf k x _).mono ?_
    rintro e w1 ⟨rfl, hb1⟩
    have HB1 := below_step HB0 hb1 HB0.size
    clear hb1
    go_wp2_with fail
    refine (spec_SignlessOf k x _).mono ?_
    rintro e w' ⟨rfl, rfl⟩
    go_wp2_with fail
    refine (impl_SignedOf k x _).mono ?_
    rintro e w2 ⟨rfl, hb2⟩
    have HB2 := below_step HB1 hb2 HB1.size
    clear hb2
    go_wp2
    all_goals (go_ret; exact ⟨ret_bool (by first | rfl | (simp; done) | (simp; omega)), HB2⟩)
  · obtain ⟨h0, h1, h2, h3⟩ := Pl.wv_t hv
    have hp := Pl.pw_lt k h1
    have hh := Pl.pw_half k h0
    have hp0 := Pl.pw_pos (k - 1)
    have ht := Pl.bt_top k x hv
    rw [if_neg hx] at ht
    have e1 : Pl.signlessOf k x = x := by simp [Pl.signlessOf, hv, ht]
    have e2 : Pl.signedOf k x = x := by simp [Pl.signedOf, hv, ht]
    have hh1 : Pl.pw k ≤ 2 * Pl.pw (k - 1) := by omega
    have hh2 : 2 * Pl.pw (k - 1) ≤ Pl.pw k := by omega
    have hw := Pl.wrap_pw (k - 1) (by omega) (by omega)
    have hw2 : wrap64 (2 ^ (k.toNat - 1)) = Pl.pw (k - 1) := by rw [← hw, show (k - 1).toNat = k.toNat - 1 by omega]
    clear hh ht
    go_wp2_with fail
    refine (impl_SignlessOf k x _).mono ?_
    rintro e w1 ⟨rfl, hb1⟩
    have HB1 := below_step HB0 hb1 HB0.size
    clear hb1
    go_wp2_with fail
    refine (spec_SignlessOf k x _).mono ?_
    rintro e w' ⟨rfl, rfl⟩
    go_wp2_with fail
    refine (impl_SignedOf k x _).mono ?_
    rintro e w2 ⟨rfl, hb2⟩
    have HB2 := below_step HB1 hb2 HB1.size
    clear hb2
    go_wp2
    all_goals (go_ret; exact ⟨ret_bool (by first | rfl | (simp; done) | (simp; omega)), HB2⟩)
end Go.Proofs.Ytchlmjlcmcdjpaa
