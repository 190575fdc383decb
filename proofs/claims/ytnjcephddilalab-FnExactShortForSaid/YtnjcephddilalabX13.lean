/-
  The exact law of ShortFor.
  Conditions: none.
-/
import Derived.Test.YtnjcephddilalabH5
import Derived.Test.YtnjcephddilalabKE
namespace Go.Proofs.Ytnjcephddilalab
set_option linter.unusedVariables false
set_option linter.unusedSimpArgs false
open Go.RowKit
theorem shortFor_le (e : List Int) : ((Pl.shortFor e).getD []).length ≤ 5 := by
  cases h : Pl.shortFor e with
  | none => simp
  | some f => exact (Pl.short_some h).2.2.1.2.2
set_option maxRecDepth 100000 in
set_option maxHeartbeats 2000000 in
theorem law_FnExactShortFor (a0 : Option Addr) (len0 cap0 : Nat) (z0 : List Int) (w : World) (w0 : IsRow .i64 w a0 len0 cap0 z0) :
    Calls Try.prog 4 #[.slice a0 len0 cap0] w fun e w' => e = .returned (.bool true) ∧ Below w.heap.size w w' := by
  obtain ⟨xs, hr, _⟩ := ints_of_row w0
  clear w0
  by_cases hbig : 1048576 < len0
  · have hbi : (1048576 : Int) < len0 := by omega
    go_enter Try.func4, Try.ntmps4
    go_wp2
    go_ret
    exact ⟨rfl, Below.refl _ _⟩
  have hbi : ¬ (1048576 : Int) < len0 := by omega
  have lx : xs.length = len0 := by have := hr.len; rwa [I64_len] at this
  have cs := Lib.hid (fun A n c B w => spec_ShortFor A n c B xs w)
  have ci := Lib.hid (fun A n c B w => impl_ShortFor A n c B xs w)
  have hcl := shortFor_le xs
  generalize (Pl.shortFor xs).isSome = ok at *
  generalize (Pl.shortFor xs).getD [] = X at *
  have hoo : (ok != ok) = false := by simp
  have hneg : ¬ (1 : Int) + (len0 : Int) < 0 := by omega
  have hneg3 : ¬ (1 : Int) + (X.length : Int) < 0 := by omega
  have hmm : ((1 : Int) + (X.length : Int) != 1 + (X.length : Int)) = false := by simp
  go_enter Try.func4, Try.ntmps4
  go_wp2_with fail
  refine (laws_toIntS a0 len0 cap0 _ xs _ hr (Nat.le_refl _) (by omega)).mono ?_
  rintro e w1 hh
  obtain ⟨A1, c1, rfl, own1, HB1⟩ := ownInts_n hh lx
  have z1 := HB1.size
  clear hh
  go_wp2_with fail
  refine (cs.out _ _ _ _ _ (rd_own own1) (Nat.le_refl _) (by omega)).mono ?_
  rintro e w2 ⟨A2, c2, rfl, own2, hb2⟩
  have z2 := hb2.size
  have HB2 := below_step HB1 hb2 z1
  clear own1 hb2 HB1
  go_wp2_with fail
  refine (laws_toIntS a0 len0 cap0 _ xs _ (hr.below HB2) (by omega) (by omega)).mono ?_
  rintro e w3 hh
  obtain ⟨A3, c3, rfl, own3, hb3⟩ := ownInts_n hh lx
  have z3 := hb3.size
  have HB3 := below_step HB2 hb3 (by omega)
  have H23 := hb3
  clear hh hb3 HB2
  go_wp2_with fail
  refine (ci.out _ _ _ _ _ (rd_own own3) (Nat.le_refl _) (by omega)).mono ?_
  rintro e w4 ⟨A4, c4, rfl, own4, hb4⟩
  have z4 := hb4.size
  have HB4 := below_step HB3 hb4 (by omega)
  have H24 := H23.trans (hb4.mono z3)
  have own3' := own_below own3 hb4
  have lt3 : ∀ k, (Value.slice A3 len0 c3).ownBlock = some k → k < w3.heap.size := fun k hk => (own3.lt k hk).2
  clear hb4 HB3 H23 own3
  go_wp2_with fail
  refine (laws_eqIntS _ _ _ _ _ _ w4.heap.size X X _ (rd_own own4) (((rd_own own2).below H24).more (by omega)) (by omega) (by omega)).mono ?_
  rintro e w5 ⟨rfl, q5, rfl⟩
  have HB5 := below_drewN HB4 q5
  have H25 := below_drewN H24 q5
  go_wp2_with fail
  refine (laws_toIntS a0 len0 cap0 _ xs _ (hr.below HB5) (show w.heap.size ≤ w4.heap.size by omega) (by omega)).mono ?_
  rintro e w6 hh
  obtain ⟨A6, c6, rfl, own6, hb6⟩ := ownInts_n hh lx
  have z6 : w4.heap.size ≤ w6.heap.size := hb6.size
  have HB6 := below_step HB5 hb6 (show w.heap.size ≤ w4.heap.size by omega)
  have H26 := H25.trans (hb6.mono (show w2.heap.size ≤ w4.heap.size by omega))
  have own4b := own_below (w := w4.drewN q5) (by exact own4) hb6
  have own3b := own_below (w := w4.drewN q5) (by exact own3') hb6
  clear hh hb6 HB5 H25 own4 own3' HB4 H24
  go_wp2_with fail
  refine (laws_eqIntS _ _ _ _ _ _ _ xs xs _ (rd_own own3b) (rd_own own6) (by omega) (by omega)).mono ?_
  rintro e w7 ⟨rfl, q, rfl⟩
  clear own6
  go_wp2_with fail
  refine (laws_markIntS w2.heap.size _ _ _ _ 1 _ A3 rfl (by exact own3b) (by omega) (by omega) (by omega)).mono ?_
  rintro e w8 ⟨rfl, own8, hg8⟩
  have hb8 : Below w2.heap.size (w6.drewN q) w8 := grown_below (w := w6.drewN q) own3b (show w2.heap.size ≤ w6.heap.size by omega) hg8
  have own4c : w8.ownsRow w3.heap.size 3 1 (.slice A4 X.length c4) X.length (I64 X) :=
    World.ownsRow.kept (w := w6.drewN q) (by exact own4b) hg8 (by
      cases hv : (Value.slice A4 X.length c4).ownBlock with
      | none => exact .inl rfl
      | some k => exact .inr (fun e => by have h1 := (own4b.lt k hv).1; have h2 := lt3 k e.symm; omega))
  have z8 : w6.heap.size ≤ w8.heap.size := hb8.size
  have HB8 := (below_drewN HB6 q).trans (hb8.mono (by omega))
  have H28 := (below_drewN H26 q).trans hb8
  clear hg8 hb8 own8 own4b own3b HB6 H26
  go_wp2_with fail
  refine (laws_eqIntS _ _ _ _ _ _ w8.heap.size X X _ (rd_own own4c) (((rd_own own2).below H28).more (by omega)) (by omega) (by omega)).mono ?_
  rintro e w9 ⟨rfl, q9, rfl⟩
  have HB9 := below_drewN HB8 q9
  have H29 := below_drewN H28 q9
  clear HB8 H28
  go_wp2_with fail
  refine (laws_markIntS w3.heap.size _ _ _ _ 1 _ A4 rfl (by exact own4c) (by omega) (by omega) (by omega)).mono ?_
  rintro e w10 ⟨rfl, own10, hg10⟩
  have hb10 : Below w3.heap.size (w8.drewN q9) w10 := grown_below (w := w8.drewN q9) own4c (show w3.heap.size ≤ w8.heap.size by omega) hg10
  have z10 : w8.heap.size ≤ w10.heap.size := hb10.size
  have HB10 := HB9.trans (hb10.mono (by omega))
  have H210 := H29.trans (hb10.mono z3)
  have rm10 := rd_own own10
  clear hg10 hb10 own10 own4c HB9 H29
  go_wp2_with fail
  refine (laws_heldIntS A4 _ _ _ 1 _ rm10 (by omega) (by omega) (by omega)).mono ?_
  rintro e w' ⟨rfl, rfl⟩
  go_wp2_with fail
  refine (laws_toIntS a0 len0 cap0 _ xs _ (hr.below HB10) (by omega) (by omega)).mono ?_
  rintro e w11 hh
  obtain ⟨A11, c11, rfl, own11, hb11⟩ := ownInts_n hh lx
  have z11 := hb11.size
  have HB11 := below_step HB10 hb11 (by omega)
  have H211 := H210.trans (hb11.mono (by omega))
  have rm11 := rm10.below hb11
  clear hh hb11 HB10 H210
  go_wp2_with fail
  refine (ci.out _ _ _ _ _ (rd_own own11) (Nat.le_refl _) (by omega)).mono ?_
  rintro e w12 ⟨A12, c12, rfl, own12, hb12⟩
  have z12 := hb12.size
  have HB12 := below_step HB11 hb12 (by omega)
  have H212 := H211.trans (hb12.mono (by omega))
  have rm12 := rm11.below (hb12.mono z11)
  clear hb12 HB11 H211 own11 rm11
  go_wp2_with fail
  refine (laws_eqIntS _ _ _ _ _ _ w12.heap.size X X _ (rd_own own12) (((rd_own own2).below H212).more (by omega)) (by omega) (by omega)).mono ?_
  rintro e w13 ⟨rfl, q13, rfl⟩
  have HB13 := below_drewN HB12 q13
  have rm13 := rm12.drewN q13
  clear HB12 H212 own12 rm12
  go_wp2_with fail
  refine (laws_heldIntS A4 _ _ _ 1 _ rm13 (by omega) (by omega) (by omega)).mono ?_
  rintro e w' ⟨rfl, rfl⟩
  go_wp2_with fail
  go_ret
  exact ⟨rfl, HB13⟩
end Go.Proofs.Ytnjcephddilalab
