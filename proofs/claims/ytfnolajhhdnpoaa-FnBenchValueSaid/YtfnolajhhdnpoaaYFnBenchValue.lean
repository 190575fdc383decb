/-
  The law FnBenchValue: for all codes it returns true.
  Conditions: none.
-/
import Derived.Test.YtfnolajhhdnpoaaD15
import Derived.Test.YtfnolajhhdnpoaaKD
import Derived.Test.YtfnolajhhdnpoaaB7
import Derived.Test.YtfnolajhhdnpoaaE8
import Derived.Test.YtfnolajhhdnpoaaKC
import Derived.Test.YtfnolajhhdnpoaaE14
namespace Go.Proofs.Ytfnolajhhdnpoaa
set_option linter.unusedVariables false
set_option linter.unusedSimpArgs false
open Go.RowKit
theorem codeOf_len {e : List Int} (he : Pl.exprValid e = true) : (Pl.codeOf e).1.length ≤ e.length := by
  have h := (Pl.code_short e e.length (Nat.le_refl _)).1
  rw [List.take_length] at h
  have h2 : (Pl.codeOf e).1 = (Pl.codeS e).1 := by unfold Pl.codeOf; rw [if_pos he]
  rw [h2]
  have : Pl.worksL e ≤ e.length := List.length_filter_le _ _
  omega
set_option maxRecDepth 100000 in
set_option maxHeartbeats 4000000 in
theorem law_FnBenchValue (a0 : Option Addr) (len0 cap0 : Nat) (z0 : List Int) (w : World) (w0 : IsRow .u8 w a0 len0 cap0 z0) :
    Calls Try.prog 6 #[.slice a0 len0 cap0] w fun e w' => e = .returned (.bool true) ∧ Below w.heap.size w w' := by
  obtain ⟨hc, hl, hm⟩ := code_of_row w0
  clear w0
  have hm2 := hm
  unfold maxLen at hm2
  by_cases hbig : 1048576 < len0
  · have hbi : (1048576 : Int) < len0 := by omega
    go_enter Try.func6, Try.ntmps6
    go_wp2
    go_ret
    exact ⟨rfl, Below.refl _ _⟩
  have hbi : ¬ (1048576 : Int) < len0 := by omega
  go_enter Try.func6, Try.ntmps6
  go_wp2_with fail
  refine (spec_DrawBenchValue a0 len0 cap0 _ hc hl hm).mono ?_
  rintro e v0 ⟨v, ⟨k, x, y, E, ts⟩, rfl, ⟨A, P, n, c, m, d, rfl, o, p⟩, ⟨_, _, s3, s4, s5⟩, HB0⟩
  have ln : E.length = n := by have := o.len; rwa [I64_len] at this
  have lm : ts.length = m := by have := p.len; rwa [Tx_len] at this
  have s3 : E.length ≤ 24 := s3
  have s4 : ts.length ≤ 21 := s4
  have hs1 : ∀ s ∈ ts, s.length ≤ 1000000000000 := fun s hs => by have := s5 s hs; omega
  have hs2 : ∀ s ∈ ts, s.length ≤ 2000000 := fun s hs => by have := s5 s hs; omega
  have z0 := HB0.size
  obtain ⟨D, hD⟩ : ∃ D, v0.heap.size = D := ⟨_, rfl⟩
  obtain ⟨v1, hv1⟩ : ∃ v1, v1 = v0.alloc (.cells #[.int .i64 k, .int .i64 x, .int .i64 y, .slice A n c, .slice P m d] 28) := ⟨_, rfl⟩
  have KD : Blk v1 D 28 #[.int .i64 k, .int .i64 x, .int .i64 y, .slice A n c, .slice P m d] := by rw [hv1, ← hD]; exact Blk.new v0 _ _
  have rx : Rd v1 v1.heap.size A n (I64 E) := by rw [hv1]; exact (o.alloc _).rd
  have rp : Rd v1 v1.heap.size P m (Tx ts) := by rw [hv1]; exact (p.alloc _).rd
  have HB1 : Below w.heap.size w v1 := by rw [hv1]; exact HB0.alloc z0 _
  have z1 : w.heap.size ≤ v1.heap.size := HB1.size
  clear hc hl hm hbig hm2 HB0 o p s5
  unfold benchV
  go_upto_region 4 with (fail)
  rw [← hv1]
  clear hv1
  have ci := Lib.hid (fun w' B h h' hB => impl_BenchValue ⟨k, x, y, E, ts⟩ A P n c m d B w' h h' hB (by omega) (by omega) hs2)
  have cs := Lib.hid (fun w' B h h' hB => spec_BenchValue ⟨k, x, y, E, ts⟩ A P n c m d B w' h h' hB (by omega) (by omega) hs2)
  have cv := Lib.hid (fun w' B h h' hB => impl_BenchValid ⟨k, x, y, E, ts⟩ A P n c m d B w' h h' hB (by omega) (by omega) hs1)
  have co := Lib.hid (fun w' B h hB => impl_CodeOf A n c B E w' h hB (by omega))
  have facts : (Pl.benchValid ⟨k, x, y, E, ts⟩ = false ∧ Pl.benchValue ⟨k, x, y, E, ts⟩ = -1) ∨ (Pl.benchValid ⟨k, x, y, E, ts⟩ = true ∧ 0 ≤ Pl.benchValue ⟨k, x, y, E, ts⟩ ∧ Pl.wvB k (Pl.benchValue ⟨k, x, y, E, ts⟩) = true ∧ Pl.codeRun k (Pl.codeOf E).1 (Pl.codeOf E).2 x y = Pl.benchValue ⟨k, x, y, E, ts⟩ ∧ (Pl.codeOf E).1.length ≤ 24) := by
    cases hv : Pl.benchValid ⟨k, x, y, E, ts⟩
    · exact .inl ⟨rfl, Pl.bval_f hv⟩
    · obtain ⟨h1, h2, _, _⟩ := Pl.bv_parts hv
      have hw := Pl.value_word h2 h1
      have hb := Pl.bval_t hv
      have ho := Pl.bval_o hv
      refine .inr ⟨rfl, ?_, ?_, ?_, ?_⟩
      · rw [hb]; exact (Pl.wv_t hw).2.2.1
      · rw [hb]; exact hw
      · rw [← ho]; exact Pl.code_law h1 h2
      · have h4 : (Pl.codeOf E).1.length ≤ E.length := codeOf_len h2
        omega
  have HX := Lib.hid rx
  have HP := Lib.hid rp
  have HBX := Lib.hid HB1
  have hDl := KD.lt
  obtain ⟨u0, u1, u2, u3, u4⟩ := blk5c KD
  clear rx rp HB1 hs1 hs2
  unfold OutC at co
  generalize Pl.benchValue ⟨k, x, y, E, ts⟩ = V at *
  generalize Pl.benchValid ⟨k, x, y, E, ts⟩ = ok at *
  generalize Pl.codeOf E = r at *
  obtain ⟨code, num⟩ := r
  simp only at co facts
  go_wp2_with fail
  refine (ci.out _ _ HX.out HP.out (by exact Nat.le_refl _)).mono ?_
  rintro e v2 ⟨rfl, hb2⟩
  have z2 := hb2.size
  have KD2 := KD.below hb2 hDl
  have HX2 := Lib.hid (HX.out.below hb2)
  have HP2 := Lib.hid (HP.out.below hb2)
  have HB2 := Lib.hid (below_step HBX.out hb2 z1)
  clear u0 u1 u2 u3 u4 hb2
  obtain ⟨u0, u1, u2, u3, u4⟩ := blk5c KD2
  have hVV : (V != V) = false := by simp
  go_wp2_with fail
  refine (cs.out _ _ HX2.out HP2.out (by exact z2)).mono ?_
  rintro e v3 ⟨rfl, hb3⟩
  have z3 := hb3.size
  have KD3 := KD2.below hb3 (by omega)
  have HX3 := Lib.hid (HX2.out.below (hb3.mono z2))
  have HP3 := Lib.hid (HP2.out.below (hb3.mono z2))
  have HB3 := Lib.hid (below_step HB2.out hb3 (by omega))
  clear u0 u1 u2 u3 u4 hb3
  obtain ⟨u0, u1, u2, u3, u4⟩ := blk5c KD3
  have z13 : v1.heap.size ≤ v3.heap.size := by omega
  rcases facts with ⟨rfl, rfl⟩ | ⟨rfl, hV0, hVw, hrun, hlen⟩
  · go_wp2_with fail
    refine (cv.out _ _ HX3.out HP3.out (by exact z13)).mono ?_
    rintro e v4 ⟨rfl, hb4⟩
    have z4 := hb4.size
    have HB4 := Lib.hid (below_step HB3.out hb4 (by omega))
    go_wp2_with fail
    refine (laws_alive _).mono ?_
    rintro e v5 ⟨rfl, hb5⟩
    have HB5 := Lib.hid (below_step HB4.out hb5 (by omega))
    go_wp2_with fail
    go_ret
    exact ⟨rfl, HB5.out⟩
  · have hVn : ¬ V < 0 := by omega
    have HR := Lib.hid hrun
    have HW := Lib.hid hVw
    clear hrun hVw
    go_wp2_with fail
    refine (co.out _ _ HX3.out (by exact z13)).mono ?_
    rintro e v4 ⟨A4, c4, rfl, own4, hb4⟩
    have z4 := hb4.size
    have KD4 := KD3.below hb4 (by omega)
    have HB4 := Lib.hid (below_step HB3.out hb4 (by omega))
    have RI := Lib.hid (rdI_own own4)
    clear u0 u1 u2 u3 u4 hb4 own4
    obtain ⟨u0, u1, u2, u3, u4⟩ := blk5c KD4
    go_wp2_with fail
    refine (impl_CodeRun k num x y A4 code.length c4 _ code _ RI.out (by first | exact Nat.le_refl _ | omega) (by omega)).mono ?_
    rw [HR.out]
    rintro e v5 ⟨rfl, hb5⟩
    have z5 := hb5.size
    have KD5 := KD4.below hb5 (by omega)
    have HB5 := Lib.hid (below_step HB4.out hb5 (by omega))
    clear u0 u1 u2 u3 u4 hb5
    obtain ⟨u0, u1, u2, u3, u4⟩ := blk5c KD5
    have hVe : (V == V) = true := by simp
    go_wp2_with fail
    refine (impl_WordValid k V _).mono ?_
    rw [HW.out]
    rintro e w' ⟨rfl, rfl⟩
    go_wp2_with fail
    go_ret
    exact ⟨by first | rfl | simp, HB5.out⟩
end Go.Proofs.Ytfnolajhhdnpoaa
