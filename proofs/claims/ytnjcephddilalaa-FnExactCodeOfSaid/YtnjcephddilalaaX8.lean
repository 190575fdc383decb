/-
  The exact law of CodeOf.
  Conditions: none.
-/
import Derived.Test.YtnjcephddilalaaE12
import Derived.Test.YtnjcephddilalaaE13
import Derived.Deep.Onto
namespace Go.Proofs.Ytnjcephddilalaa
set_option linter.unusedVariables false
set_option linter.unusedSimpArgs false
open Go.RowKit
theorem codeOf_len3 (e : List Int) : (Pl.codeOf e).1.length ≤ 24 := by
  unfold Pl.codeOf
  split
  · rename_i hv
    have hv := Pl.valid_t hv
    have key : ∀ (e : List Int) (c : List Pl.Op3 × List Int), (e.foldl Pl.codeStep c).1.length ≤ c.1.length + e.length := by
      intro e
      induction e with
      | nil => intro c; simp
      | cons s t ih =>
        intro c
        have h0 := ih (Pl.codeStep c s)
        have h1 : (Pl.codeStep c s).1.length ≤ c.1.length + 1 := by
          unfold Pl.codeStep
          split
          · simp
          · simp only
            split
            · omega
            · rw [List.length_append]; simp
        rw [List.foldl_cons, List.length_cons]
        omega
    have := key e ([], [])
    show (Pl.codeS e).1.length ≤ _
    unfold Pl.codeS
    simp at this
    omega
  · simp
set_option maxHeartbeats 1000000 in
theorem law_FnExactCodeOf (a0 : Option Addr) (len0 cap0 : Nat) (z0 : List Int) (w : World) (w0 : IsRow .i64 w a0 len0 cap0 z0) :
    Calls Try.prog 6 #[.slice a0 len0 cap0] w fun e w' => e = .returned (.bool true) ∧ Below w.heap.size w w' := by
  obtain ⟨xs, hr, _⟩ := ints_of_row w0
  clear w0
  by_cases hbig : 1048576 < len0
  · have hbi : (1048576 : Int) < len0 := by omega
    go_enter Try.func6, Try.ntmps6
    go_wp2
    go_ret
    exact ⟨rfl, Below.refl _ _⟩
  have hbi : ¬ (1048576 : Int) < len0 := by omega
  have lx : xs.length = len0 := by have := hr.len; rwa [I64_len] at this
  have cs := Lib.hid (fun A n c B w => spec_CodeOf A n c B xs w)
  have ci := Lib.hid (fun A n c B w => impl_CodeOf A n c B xs w)
  have hcl := codeOf_len3 xs
  generalize Pl.codeOf xs = r at *
  obtain ⟨code, num⟩ := r
  unfold OutC at cs ci
  simp only at cs ci hcl
  have hnn : (num != num) = false := by simp
  have hneg : ¬ (1 : Int) + (len0 : Int) < 0 := by omega
  have hneg3 : ¬ (1 : Int) + 3 * (code.length : Int) < 0 := by omega
  have hmm : ((1 : Int) + 3 * (code.length : Int) != 1 + 3 * (code.length : Int)) = false := by simp
  go_enter Try.func6, Try.ntmps6
  go_wp2_with fail
  refine (laws_toIntS a0 len0 cap0 _ xs _ hr (Nat.le_refl _) (by omega)).mono ?_
  rintro e w1 hh
  obtain ⟨A1, c1, rfl, own1, HB1⟩ := ownInts_n hh lx
  have z1 := HB1.size
  clear hh
  go_wp2_with fail
  refine (cs.out _ _ _ _ _ (rd_own own1) (Nat.le_refl _) (by omega)).mono ?_
  rintro e w2 ⟨A2, c2, rfl, own2, hb2⟩
  have z2 := hb2.size
  have HB2 := below_step HB1 hb2 z1
  clear own1 hb2 HB1
  go_wp2_with fail
  refine (laws_toIntS a0 len0 cap0 _ xs _ (hr.below HB2) (by omega) (by omega)).mono ?_
  rintro e w3 hh
  obtain ⟨A3, c3, rfl, own3, hb3⟩ := ownInts_n hh lx
  have z3 := hb3.size
  have HB3 := below_step HB2 hb3 (by omega)
  have H23 := hb3
  clear hh hb3 HB2
  go_wp2_with fail
  refine (ci.out _ _ _ _ _ (rd_own own3) (Nat.le_refl _) (by omega)).mono ?_
  rintro e w4 ⟨A4, c4, rfl, own4, hb4⟩
  have z4 := hb4.size
  have HB4 := below_step HB3 hb4 (by omega)
  have H24 := H23.trans (hb4.mono z3)
  have own3' := own_below own3 hb4
  clear hb4 HB3 H23 own3
  go_wp2_with fail
  refine (laws_eqInsS A4 A2 code.length c4 c2 w4.heap.size code _ (rdI_own own4) (((rdI_own own2).below H24).more (by omega)) (Nat.le_refl _) (by omega)).mono ?_
  rintro e w5 ⟨rfl, hb5⟩
  have z5 := hb5.size
  have HB5 := below_step HB4 hb5 (by omega)
  have H25 := H24.trans (hb5.mono (by omega))
  have own4a := own_below own4 hb5
  have own3a := own_below own3' hb5
  clear hb5 HB4 H24 own4 own3'
  go_wp2_with fail
  refine (laws_toIntS a0 len0 cap0 _ xs _ (hr.below HB5) (by omega) (by omega)).mono ?_
  rintro e w6 hh
  obtain ⟨A6, c6, rfl, own6, hb6⟩ := ownInts_n hh lx
  have z6 := hb6.size
  have HB6 := below_step HB5 hb6 (by omega)
  have H26 := H25.trans (hb6.mono (by omega))
  have own4b := own_below own4a hb6
  have own3b := own_below own3a hb6
  clear hh hb6 HB5 H25 own4a own3a
  go_wp2_with fail
  refine (laws_eqIntS _ _ _ _ _ _ _ xs xs _ (rd_own own3b) (rd_own own6) (by omega) (by omega)).mono ?_
  rintro e w7 ⟨rfl, q, rfl⟩
  clear own6
  go_wp2_with fail
  refine (laws_markIntS w2.heap.size _ _ _ _ 1 _ A3 rfl (by exact own3b) (by omega) (by omega) (by omega)).mono ?_
  rintro e w8 ⟨rfl, own8, hg8⟩
  have hb8 : Below w2.heap.size (w6.drewN q) w8 := grown_below (w := w6.drewN q) own3b (show w2.heap.size ≤ w6.heap.size by omega) hg8
  have own4c : w8.ownsRow w3.heap.size 68 3 (.slice A4 code.length c4) code.length (I3 code) :=
    World.ownsRow.kept (w := w6.drewN q) (by exact own4b) hg8 (rows_apart (own4b.mono z3) own3b (by decide))
  have z8 : w6.heap.size ≤ w8.heap.size := hb8.size
  have HB8 := (below_drewN HB6 q).trans (hb8.mono (by omega))
  have H28 := (below_drewN H26 q).trans hb8
  clear hg8 hb8 own8 own4b own3b HB6 H26
  go_wp2_with fail
  refine (laws_eqInsS A4 A2 code.length c4 c2 w8.heap.size code _ (rdI_own own4c) (((rdI_own own2).below H28).more (by omega)) (Nat.le_refl _) (by omega)).mono ?_
  rintro e w9 ⟨rfl, hb9⟩
  have z9 := hb9.size
  have HB9 := below_step HB8 hb9 (by omega)
  have H29 := H28.trans (hb9.mono (by omega))
  have own4d := own_below own4c hb9
  clear hb9 HB8 H28 own4c
  go_wp2_with fail
  refine (laws_markInsS w3.heap.size code.length c4 A4 _ 1 _ own4d (by omega) (by omega) (by omega) (by omega)).mono ?_
  rintro e w10 ⟨rfl, rm10, hb10⟩
  have z10 := hb10.size
  have HB10 := HB9.trans (hb10.mono (by omega))
  have H210 := H29.trans (hb10.mono z3)
  clear hb10 HB9 H29 own4d
  go_wp2_with fail
  refine (laws_heldInsS A4 code.length c4 _ 1 _ rm10 (by omega) (by omega) (by omega)).mono ?_
  rintro e w' ⟨rfl, rfl⟩
  go_wp2_with fail
  refine (laws_toIntS a0 len0 cap0 _ xs _ (hr.below HB10) (by omega) (by omega)).mono ?_
  rintro e w11 hh
  obtain ⟨A11, c11, rfl, own11, hb11⟩ := ownInts_n hh lx
  have z11 := hb11.size
  have HB11 := below_step HB10 hb11 (by omega)
  have H211 := H210.trans (hb11.mono (by omega))
  have rm11 := rm10.below hb11
  clear hh hb11 HB10 H210
  go_wp2_with fail
  refine (ci.out _ _ _ _ _ (rd_own own11) (Nat.le_refl _) (by omega)).mono ?_
  rintro e w12 ⟨A12, c12, rfl, own12, hb12⟩
  have z12 := hb12.size
  have HB12 := below_step HB11 hb12 (by omega)
  have H212 := H211.trans (hb12.mono (by omega))
  have rm12 := rm11.below (hb12.mono z11)
  clear hb12 HB11 H211 own11 rm11
  go_wp2_with fail
  refine (laws_eqInsS A12 A2 code.length c12 c2 w12.heap.size code _ (rdI_own own12) (((rdI_own own2).below H212).more (by omega)) (Nat.le_refl _) (by omega)).mono ?_
  rintro e w13 ⟨rfl, hb13⟩
  have HB13 := below_step HB12 hb13 (by omega)
  have rm13 := rm12.below (hb13.mono (by omega))
  clear hb13 HB12 H212 own12 rm12
  go_wp2_with fail
  refine (laws_heldInsS A4 code.length c4 _ 1 _ rm13 (by omega) (by omega) (by omega)).mono ?_
  rintro e w' ⟨rfl, rfl⟩
  go_wp2_with fail
  go_ret
  exact ⟨rfl, HB13⟩
end Go.Proofs.Ytnjcephddilalaa
