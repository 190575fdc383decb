/-
  The law FnChoose: for every code it returns true.
  Conditions: none.
-/
import Derived.Test.YtchlmjlcmcdjpaaLa
namespace Go.Proofs.Ytchlmjlcmcdjpaa
set_option linter.unusedVariables false
set_option linter.unusedSimpArgs false
open Go.RowKit
set_option maxHeartbeats 1000000 in
theorem law_FnChoose (a0 : Option Addr) (len0 cap0 : Nat) (z0 : List Int) (w : World) (w0 : IsRow .u8 w a0 len0 cap0 z0) :
    Calls Try.prog 11 #[.slice a0 len0 cap0] w fun e w' => e = .returned (.bool true) ∧ Below w.heap.size w w' := by
  obtain ⟨hc, hl, hm⟩ := code_of_row w0
  clear w0
  have hm' := hm
  unfold maxLen at hm'
  by_cases hbig : 1048576 < len0
  · have hbi : (1048576 : Int) < len0 := by omega
    go_enter Try.func11, Try.ntmps11
    go_wp2
    go_ret
    exact ⟨rfl, Below.refl _ _⟩
  have hbi : ¬ (1048576 : Int) < len0 := by omega
  go_enter Try.func11, Try.ntmps11
  go_wp2_with fail
  refine (spec_DrawChoose a0 len0 cap0 _ hc hl hm).mono ?_
  rintro e v0 ⟨k, c, a, b, rfl, k0, k1, c0, c1, x0, x1, y0, y1, HB0⟩
  clear hc hl hm hm' hbig
  rcases three (Pl.v2 k a b) (c = 0 ∨ c = 1) with hv | ⟨hv, rfl | rfl⟩ | ⟨hv, hc⟩
  · have e1 : Pl.choose k c a b = -1 := Pl.choose_f (by simp [hv])
    go_wp2_with fail
    refine (impl_Choose k c a b _).mono ?_
    rintro e w1 ⟨rfl, hb1⟩
    have HB1 := below_step HB0 hb1 HB0.size
    clear hb1
    go_wp2_with fail
    refine (spec_Choose k c a b _).mono ?_
    rintro e w' ⟨rfl, rfl⟩
    go_wp2_with fail
    refine (laws_alive _).mono ?_
    rintro e w2 ⟨rfl, hb2⟩
    have HB2 := below_step HB1 hb2 HB1.size
    clear hb2
    go_wp2
    all_goals (go_ret; exact ⟨ret_bool (by first | rfl | (simp; done) | (simp; omega)), HB2⟩)
  · obtain ⟨h0, h1, h2, h3, h4, h5⟩ := Pl.v2_t hv
    have hp := Pl.pw_lt k h1
    have hp0 := Pl.pw_pos k
    have e1 : Pl.choose k 0 a b = b := Pl.choose_0 hv
    have e2 : Pl.choose k 1 b a = b := Pl.choose_1 (Pl.v2_mk (Pl.v2_r hv) (Pl.v2_l hv))
    go_wp2_with fail
    refine (impl_Choose k 0 a b _).mono ?_
    rintro e w1 ⟨rfl, hb1⟩
    have HB1 := below_step HB0 hb1 HB0.size
    clear hb1
    go_wp2_with fail
    refine (spec_Choose k 0 a b _).mono ?_
    rintro e w' ⟨rfl, rfl⟩
    go_wp2_with fail
    refine (impl_Choose k 1 b a _).mono ?_
    rintro e w2 ⟨rfl, hb2⟩
    have HB2 := below_step HB1 hb2 HB1.size
    clear hb2
    go_wp2
    all_goals (go_ret; exact ⟨ret_bool (by first | rfl | (simp; done) | (simp; omega)), HB2⟩)
  · obtain ⟨h0, h1, h2, h3, h4, h5⟩ := Pl.v2_t hv
    have hp := Pl.pw_lt k h1
    have hp0 := Pl.pw_pos k
    have e1 : Pl.choose k 1 a b = a := Pl.choose_1 hv
    have e2 : Pl.choose k 0 b a = a := Pl.choose_0 (Pl.v2_mk (Pl.v2_r hv) (Pl.v2_l hv))
    go_wp2_with fail
    refine (impl_Choose k 1 a b _).mono ?_
    rintro e w1 ⟨rfl, hb1⟩
    have HB1 := below_step HB0 hb1 HB0.size
    clear hb1
    go_wp2_with fail
    refine (spec_Choose k 1 a b _).mono ?_
    rintro e w' ⟨rfl, rfl⟩
    go_wp2_with fail
    refine (impl_Choose k 0 b a _).mono ?_
    rintro e w2 ⟨rfl, hb2⟩
    have HB2 := below_step HB1 hb2 HB1.size
    clear hb2
    go_wp2
    all_goals (go_ret; exact ⟨ret_bool (by first | rfl | (simp; done) | (simp; omega)), HB2⟩)
  · have e1 : Pl.choose k c a b = -1 := Pl.choose_f (fun x => hc x.1)
    clear hc
    go_wp2_with fail
    refine (impl_Choose k c a b _).mono ?_
    rintro e w1 ⟨rfl, hb1⟩
    have HB1 := below_step HB0 hb1 HB0.size
    clear hb1
    go_wp2_with fail
    refine (spec_Choose k c a b _).mono ?_
    rintro e w' ⟨rfl, rfl⟩
    go_wp2_with fail
    refine (laws_alive _).mono ?_
    rintro e w2 ⟨rfl, hb2⟩
    have HB2 := below_step HB1 hb2 HB1.size
    clear hb2
    go_wp2
    all_goals (go_ret; exact ⟨ret_bool (by first | rfl | (simp; done) | (simp; omega)), HB2⟩)
end Go.Proofs.Ytchlmjlcmcdjpaa
