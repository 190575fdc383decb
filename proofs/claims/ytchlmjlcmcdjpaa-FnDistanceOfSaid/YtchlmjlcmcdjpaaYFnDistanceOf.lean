/-
  The law FnDistanceOf: for every code it returns true.
  Conditions: none.
-/
import Derived.Test.YtchlmjlcmcdjpaaLa
namespace Go.Proofs.Ytchlmjlcmcdjpaa
set_option linter.unusedVariables false
set_option linter.unusedSimpArgs false
open Go.RowKit
set_option maxHeartbeats 1000000 in
theorem law_FnDistanceOf (a0 : Option Addr) (len0 cap0 : Nat) (z0 : List Int) (a1 : Option Addr) (len1 cap1 : Nat) (z1 : List Int) (w : World) (w0 : IsRow .u8 w a0 len0 cap0 z0) (w1 : IsRow .u8 w a1 len1 cap1 z1) :
    Calls Try.prog 14 #[.slice a0 len0 cap0, .slice a1 len1 cap1] w fun e w' => e = .returned (.bool true) ∧ Below w.heap.size w w' := by
  obtain ⟨hc, hl, hm⟩ := code_of_row w0
  clear w0
  obtain ⟨hc1, hl1, hm1⟩ := code_of_row w1
  clear w1 hc1
  have hm1' := hm1
  unfold maxLen at hm1'
  have hm' := hm
  unfold maxLen at hm'
  by_cases hbig : 1048576 < len0
  · have hbi : (1048576 : Int) < len0 := by omega
    go_enter Try.func14, Try.ntmps14
    go_wp2
    go_ret
    exact ⟨rfl, Below.refl _ _⟩
  have hbi : ¬ (1048576 : Int) < len0 := by omega
  by_cases hbig1 : 1048576 < len1
  · have hbi1 : (1048576 : Int) < len1 := by omega
    go_enter Try.func14, Try.ntmps14
    go_wp2
    go_ret
    exact ⟨rfl, Below.refl _ _⟩
  have hbi1 : ¬ (1048576 : Int) < len1 := by omega
  go_enter Try.func14, Try.ntmps14
  go_wp2_with fail
  refine (spec_DrawDistanceOf a0 len0 cap0 _ hc hl hm).mono ?_
  rintro e v0 ⟨k, a, b, rfl, k0, k1, x0, x1, y0, y1, HB0⟩
  clear hc hl hm hm' hbig hm1 hl1
  rcases four (Pl.v2 k a b) a b with hv | ⟨hv, hab⟩ | ⟨hv, rfl⟩ | ⟨hv, hab⟩
  · have e1 : Pl.distanceOf k a b = -1 := by simp [Pl.distanceOf, hv]
    go_wp2_with fail
    refine (impl_DistanceOf k a b _).mono ?_
    rintro e w1 ⟨rfl, hb1⟩
    have HB1 := below_step HB0 hb1 HB0.size
    clear hb1
    go_wp2_with fail
    refine (spec_DistanceOf k a b _).mono ?_
    rintro e w' ⟨rfl, rfl⟩
    go_wp2_with fail
    refine (laws_alive _).mono ?_
    rintro e w2 ⟨rfl, hb2⟩
    have HB2 := below_step HB1 hb2 HB1.size
    clear hb2
    go_wp2
    all_goals (go_ret; exact ⟨ret_bool (by first | rfl | (simp; done) | (simp; omega)), HB2⟩)
  · obtain ⟨h0, h1, h2, h3, h4, h5⟩ := Pl.v2_t hv
    have hp := Pl.pw_lt k h1
    have hp0 := Pl.pw_pos k
    have e1 : Pl.distanceOf k a b = b - a := by simp [Pl.distanceOf, hv]; try omega
    have hC0 : 0 ≤ (len1 : Int) * 73 % Pl.pw k := Int.emod_nonneg _ (by omega)
    have hC1 : (len1 : Int) * 73 % Pl.pw k < Pl.pw k := Int.emod_lt_of_pos _ (by omega)
    have hw := Pl.wrap_pw k (by omega) (by omega)
    have hC : Pl.wvB k ((len1 : Int) * 73 % Pl.pw k) = true := Pl.wv_mk h0 h1 hC0 hC1
    have e2 := Pl.dist_eq k a _ (Pl.v2_mk (Pl.v2_l hv) hC)
    have e3 := Pl.dist_eq k _ b (Pl.v2_mk hC (Pl.v2_r hv))
    have b2 := Pl.dist_bd k a _ (Pl.v2_mk (Pl.v2_l hv) hC)
    have b3 := Pl.dist_bd k _ b (Pl.v2_mk hC (Pl.v2_r hv))
    have b4 := Pl.dist_tri k a b _ hv hC
    rw [e1] at b4
    clear e2 e3
    go_wp2_with fail
    refine (impl_DistanceOf k a b _).mono ?_
    rintro e w1 ⟨rfl, hb1⟩
    have HB1 := below_step HB0 hb1 HB0.size
    clear hb1
    go_wp2_with fail
    refine (spec_DistanceOf k a b _).mono ?_
    rintro e w' ⟨rfl, rfl⟩
    go_wp2_with fail
    refine (impl_DistanceOf _ _ _ _).mono ?_
    rintro e w2 ⟨rfl, hb2⟩
    have HB2 := below_step HB1 hb2 HB1.size
    clear hb2
    go_wp2_with fail
    refine (impl_DistanceOf _ _ _ _).mono ?_
    rintro e w3 ⟨rfl, hb3⟩
    have HB3 := below_step HB2 hb3 HB2.size
    clear hb3
    go_wp2
    all_goals (go_ret; exact ⟨ret_bool (by first | rfl | (simp; done) | (simp; omega)), HB3⟩)
  · obtain ⟨h0, h1, h2, h3, h4, h5⟩ := Pl.v2_t hv
    have hp := Pl.pw_lt k h1
    have hp0 := Pl.pw_pos k
    have e1 : Pl.distanceOf k a a = 0 := by simp [Pl.distanceOf, hv]; try omega
    have hC0 : 0 ≤ (len1 : Int) * 73 % Pl.pw k := Int.emod_nonneg _ (by omega)
    have hC1 : (len1 : Int) * 73 % Pl.pw k < Pl.pw k := Int.emod_lt_of_pos _ (by omega)
    have hw := Pl.wrap_pw k (by omega) (by omega)
    have hC : Pl.wvB k ((len1 : Int) * 73 % Pl.pw k) = true := Pl.wv_mk h0 h1 hC0 hC1
    have e2 := Pl.dist_eq k a _ (Pl.v2_mk (Pl.v2_l hv) hC)
    have e3 := Pl.dist_eq k _ a (Pl.v2_mk hC (Pl.v2_r hv))
    have b2 := Pl.dist_bd k a _ (Pl.v2_mk (Pl.v2_l hv) hC)
    have b3 := Pl.dist_bd k _ a (Pl.v2_mk hC (Pl.v2_r hv))
    have b4 := Pl.dist_tri k a a _ hv hC
    rw [e1] at b4
    clear e2 e3
    go_wp2_with fail
    refine (impl_DistanceOf k a a _).mono ?_
    rintro e w1 ⟨rfl, hb1⟩
    have HB1 := below_step HB0 hb1 HB0.size
    clear hb1
    go_wp2_with fail
    refine (spec_DistanceOf k a a _).mono ?_
    rintro e w' ⟨rfl, rfl⟩
    go_wp2_with fail
    refine (impl_DistanceOf _ _ _ _).mono ?_
    rintro e w2 ⟨rfl, hb2⟩
    have HB2 := below_step HB1 hb2 HB1.size
    clear hb2
    go_wp2_with fail
    refine (impl_DistanceOf _ _ _ _).mono ?_
    rintro e w3 ⟨rfl, hb3⟩
    have HB3 := below_step HB2 hb3 HB2.size
    clear hb3
    go_wp2
    all_goals (go_ret; exact ⟨ret_bool (by first | rfl | (simp; done) | (simp; omega)), HB3⟩)
  · obtain ⟨h0, h1, h2, h3, h4, h5⟩ := Pl.v2_t hv
    have hp := Pl.pw_lt k h1
    have hp0 := Pl.pw_pos k
    have e1 : Pl.distanceOf k a b = a - b := by simp [Pl.distanceOf, hv]; try omega
    have hC0 : 0 ≤ (len1 : Int) * 73 % Pl.pw k := Int.emod_nonneg _ (by omega)
    have hC1 : (len1 : Int) * 73 % Pl.pw k < Pl.pw k := Int.emod_lt_of_pos _ (by omega)
    have hw := Pl.wrap_pw k (by omega) (by omega)
    have hC : Pl.wvB k ((len1 : Int) * 73 % Pl.pw k) = true := Pl.wv_mk h0 h1 hC0 hC1
    have e2 := Pl.dist_eq k a _ (Pl.v2_mk (Pl.v2_l hv) hC)
    have e3 := Pl.dist_eq k _ b (Pl.v2_mk hC (Pl.v2_r hv))
    have b2 := Pl.dist_bd k a _ (Pl.v2_mk (Pl.v2_l hv) hC)
    have b3 := Pl.dist_bd k _ b (Pl.v2_mk hC (Pl.v2_r hv))
    have b4 := Pl.dist_tri k a b _ hv hC
    rw [e1] at b4
    clear e2 e3
    go_wp2_with fail
    refine (impl_DistanceOf k a b _).mono ?_
    rintro e w1 ⟨rfl, hb1⟩
    have HB1 := below_step HB0 hb1 HB0.size
    clear hb1
    go_wp2_with fail
    refine (spec_DistanceOf k a b _).mono ?_
    rintro e w' ⟨rfl, rfl⟩
    go_wp2_with fail
    refine (impl_DistanceOf _ _ _ _).mono ?_
    rintro e w2 ⟨rfl, hb2⟩
    have HB2 := below_step HB1 hb2 HB1.size
    clear hb2
    go_wp2_with fail
    refine (impl_DistanceOf _ _ _ _).mono ?_
    rintro e w3 ⟨rfl, hb3⟩
    have HB3 := below_step HB2 hb3 HB2.size
    clear hb3
    go_wp2
    all_goals (go_ret; exact ⟨ret_bool (by first | rfl | (simp; done) | (simp; omega)), HB3⟩)
end Go.Proofs.Ytchlmjlcmcdjpaa
