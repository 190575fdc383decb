/-
  The law FnCodeOf: for all codes it returns true.
  Conditions: none.
-/
import Derived.Test.YtnjcephddilalabD7
import Derived.Test.YtnjcephddilalabE4
import Derived.Test.YtnjcephddilalabE8
import Derived.Test.YtnjcephddilalabE12
import Derived.Test.YtnjcephddilalabE14
import Derived.Test.YtnjcephddilalabLa
namespace Go.Proofs.Ytnjcephddilalab
set_option linter.unusedVariables false
set_option linter.unusedSimpArgs false
open Go.RowKit
theorem code8_below {w w' : World} {a : Option Addr} {n : Nat} (h : Code8 w a n) (hb : Below w.heap.size w w') : Code8 w' a n := by
  obtain ⟨zs, h1, h2⟩ := h
  exact ⟨zs, (h1.below hb).more hb.size, h2⟩
theorem code_facts {e : List Int} (he : Pl.exprValid e = true) :
    (Pl.codeOf e).1.length ≤ Pl.worksL e ∧ (∀ (a b : Nat) (c : Pl.Op3), a < b → (Pl.codeOf e).1[a]? = some c → (Pl.codeOf e).1[b]? ≠ some c) := by
  have h := Pl.code_short e e.length (Nat.le_refl _)
  rw [List.take_length] at h
  have h2 : (Pl.codeOf e).1 = (Pl.codeS e).1 := by unfold Pl.codeOf; rw [if_pos he]
  rw [h2]
  exact h
theorem works_le (e : List Int) : Pl.worksL e ≤ e.length := List.length_filter_le _ _
set_option maxRecDepth 100000 in
set_option maxHeartbeats 4000000 in
theorem law_FnCodeOf (a0 : Option Addr) (len0 cap0 : Nat) (z0 : List Int) (a1 : Option Addr) (len1 cap1 : Nat) (z1 : List Int) (w : World) (w0 : IsRow .u8 w a0 len0 cap0 z0) (w1 : IsRow .u8 w a1 len1 cap1 z1) :
    Calls Try.prog 3 #[.slice a0 len0 cap0, .slice a1 len1 cap1] w fun e w' => e = .returned (.bool true) ∧ Below w.heap.size w w' := by
  obtain ⟨hc, hl, hm⟩ := code_of_row w0
  obtain ⟨hc', hl', hm'⟩ := code_of_row w1
  clear w0 w1
  have hm2 := hm
  have hm3 := hm'
  unfold maxLen at hm2 hm3
  by_cases hbig : 1048576 < len0
  · have hbi : (1048576 : Int) < len0 := by omega
    go_enter Try.func3, Try.ntmps3
    go_wp2
    go_ret
    exact ⟨rfl, Below.refl _ _⟩
  have hbi : ¬ (1048576 : Int) < len0 := by omega
  by_cases hbig1 : 1048576 < len1
  · have hbi1 : (1048576 : Int) < len1 := by omega
    go_enter Try.func3, Try.ntmps3
    go_wp2
    go_ret
    exact ⟨rfl, Below.refl _ _⟩
  have hbi1 : ¬ (1048576 : Int) < len1 := by omega
  go_enter Try.func3, Try.ntmps3
  go_wp2_with fail
  refine (spec_DrawCodeOf a0 len0 cap0 _ hc hl hm).mono ?_
  rintro e v0 ⟨xs, g, c, rfl, own0, hlen, HB0⟩
  clear hc hl hm hbig hbig1 hm2
  have z0' := HB0.size
  have r0 := rd_own own0
  have ci := Lib.hid (fun A n c B w => impl_CodeOf A n c B xs w)
  have cs := Lib.hid (fun A n c B w => spec_CodeOf A n c B xs w)
  have sx := Lib.hid (fun A n c B w => spec_ExprValid A n c B xs w)
  have cw := Lib.hid (fun A n c B w => laws_works A n c B xs w)
  have cv := Lib.hid (fun k x y A n c B w => impl_ValueOf k x y A n c B xs w)
  have hfacts : Pl.exprValid xs = true → (Pl.codeOf xs).1.length ≤ Pl.worksL xs ∧ (∀ (a b : Nat) (c : Pl.Op3), a < b → (Pl.codeOf xs).1[a]? = some c → (Pl.codeOf xs).1[b]? ≠ some c) ∧
      (∀ k x y, Pl.v2 k x y = true → Pl.codeRun k (Pl.codeOf xs).1 (Pl.codeOf xs).2 x y = Pl.valueOf k xs x y) := fun he => ⟨(code_facts he).1, (code_facts he).2, fun k x y hv => Pl.code_law hv he⟩
  have hbad : Pl.exprValid xs = false → Pl.codeOf xs = ([], -1) := codeOf_f
  have hwl := works_le xs
  have hcl : (Pl.codeOf xs).1.length ≤ 25 := by
    cases he : Pl.exprValid xs
    · rw [hbad he]; simp
    · have := (hfacts he).1; omega
  unfold OutC at ci cs
  generalize Pl.exprValid xs = ok at *
  generalize Pl.codeOf xs = r at *
  obtain ⟨code, num⟩ := r
  simp only at ci cs hfacts hcl
  have hnn : (num != num) = false := by simp
  go_wp2_with fail
  refine (ci.out _ _ _ _ _ r0 (Nat.le_refl _) (by omega)).mono ?_
  rintro e v1 ⟨A1, c1, rfl, own1, hb1⟩
  have z1' := hb1.size
  go_wp2_with fail
  refine (cs.out _ _ _ _ _ (r0.below hb1) z1' (by omega)).mono ?_
  rintro e v2 ⟨A2, c2, rfl, own2, hb2⟩
  have z2' := hb2.size
  have own1' := own_below own1 hb2
  have r2 := (r0.below hb1).below (hb2.mono z1')
  have HB2 := below_step (below_step HB0 hb1 z0') hb2 (by omega)
  clear own0 own1 hb1 hb2 HB0 r0
  go_wp2_with fail
  refine (laws_sameCode A1 A2 code.length c1 c2 v2.heap.size code _ (rdI_own own1') (rdI_own own2) (by omega)).mono ?_
  rintro e w' ⟨rfl, q, rfl⟩
  clear own2
  go_wp2_with fail
  refine (sx.out _ _ _ _ _ (r2.drewN q) (by omega)).mono ?_
  rintro e w' ⟨rfl, rfl⟩
  cases ok
  · have hb := hbad rfl
    injection hb with hb1 hb2
    subst hb1 hb2
    go_wp2_with fail
    refine (laws_alive _).mono ?_
    rintro e w4 ⟨rfl, hb4⟩
    have HB4 := below_step (below_drewN HB2 q) hb4 HB2.size
    go_wp2_with fail
    go_ret
    exact ⟨rfl, HB4⟩
  · obtain ⟨f1, f2, f3⟩ := hfacts rfl
    have F2 := Lib.hid f2
    have F3 := Lib.hid f3
    obtain ⟨n, hn⟩ : ∃ n, code.length = n := ⟨_, rfl⟩
    have HLN := Lib.hid hn
    have rdI1 := rdI_own own1'
    have R2 := Lib.hid r2
    have HB2' := Lib.hid HB2
    have HC := Lib.hid (code8_below hc' HB2)
    have hz2 := HB2.size
    clear hfacts hbad f2 f3 own1' ci cs sx r2 HB2 hc'
    rw [hn] at rdI1 f1 hcl ⊢
    have RD := Lib.hid rdI1
    clear hn rdI1
    go_wp2_with fail
    go_loopw [10] (fun i wr => ∃ k q : Nat, k ≤ n ∧ i = .int .i64 k ∧ wr = v2.drewN q) (fun i _ => n - (intOf i).toNat)
    case atStart => exact ⟨0, q, by omega, rfl, rfl⟩
    case round =>
      obtain ⟨k, q1, hk, rfl, rfl⟩ := hrel
      by_cases hkn : k < n
      · have hkn' : (k : Int) < (n : Int) := by omega
        have hk0 : (0 : Int) ≤ (k : Int) := by omega
        go_wp2_with fail
        go_loopw [11] (fun i wr => ∃ j q : Nat, j ≤ k ∧ i = .int .i64 j ∧ wr = v2.drewN q) (fun i _ => k - (intOf i).toNat)
        case atStart => exact ⟨0, q1, by omega, rfl, rfl⟩
        case round =>
          obtain ⟨j, q2, hj, rfl, rfl⟩ := hrel
          by_cases hjk : j < k
          · obtain ⟨b, off, rfl, hbl, hcells⟩ := RD.out.pos (by omega)
            obtain ⟨⟨p, pa, pb⟩, eo⟩ : ∃ o, code[j]? = some o := ⟨_, List.getElem?_eq_getElem (by have := HLN.out; omega)⟩
            obtain ⟨⟨r, ra, rb⟩, eo'⟩ : ∃ o, code[k]? = some o := ⟨_, List.getElem?_eq_getElem (by have := HLN.out; omega)⟩
            obtain ⟨u1, u2, u3⟩ := hcells j _ eo
            obtain ⟨v1', v2', v3'⟩ := hcells k _ eo'
            have hne := F2.out j k _ hjk eo
            rw [eo'] at hne
            have hjn' : (j : Int) < (n : Int) := by omega
            have hj0 : (0 : Int) ≤ (j : Int) := by omega
            have hjk' : (j : Int) < (k : Int) := by omega
            clear hcells eo eo'
            by_cases e1 : p = r
            · subst e1
              by_cases e2 : pa = ra
              · subst e2
                by_cases e3 : pb = rb
                · subst e3; exact absurd rfl hne
                · clear hne
                  go_wp2_with fail
                  go_quiet (fail)
                  go_wp2_with fail
                  go_roundw
                  case rel => exact ⟨j + 1, q2 + nq, by omega, by go_num, by first | rfl | rw [World.drewN_drewN]⟩
                  case measure => simp [intOf]; omega
              · clear hne
                go_wp2_with fail
                go_quiet (fail)
                go_wp2_with fail
                go_roundw
                case rel => exact ⟨j + 1, q2 + nq, by omega, by go_num, by first | rfl | rw [World.drewN_drewN]⟩
                case measure => simp [intOf]; omega
            · clear hne
              go_wp2_with fail
              go_quiet (fail)
              go_wp2_with fail
              go_roundw
              case rel => exact ⟨j + 1, q2 + nq, by omega, by go_num, by first | rfl | rw [World.drewN_drewN]⟩
              case measure => simp [intOf]; omega
          · obtain rfl : j = k := by omega
            go_wp2_with fail
            go_roundw
            case rel => exact ⟨j + 1, q2, by omega, by go_num, rfl⟩
            case measure => simp [intOf]; omega
      · obtain rfl : k = n := by omega
        go_wp2_with fail
        refine (spec_DrawValueOf a1 len1 cap1 _ (by exact HC.out) hl' hm').mono ?_
        rintro e v3 ⟨W, x, y, ys, g3, c3', rfl, _, _, _, _, _, _, own3, _, hb3⟩
        have HB3 := (below_drewN HB2'.out q1).trans (Below.mono hb3 hz2)
        have R3 := R2.out.below (Below.mono (show Below v2.heap.size v2 v3 from ⟨hb3.os, hb3.tape, hb3.output, hb3.size, hb3.block⟩) (by omega))
        have RI3 := RD.out.below (show Below v2.heap.size v2 v3 from ⟨hb3.os, hb3.tape, hb3.output, hb3.size, hb3.block⟩)
        have z3 : v2.heap.size ≤ v3.heap.size := hb3.size
        clear own3 hb3
        go_wp2_with fail
        refine (cw.out _ _ _ _ _ R3 (by omega)).mono ?_
        rintro e w' ⟨rfl, rfl⟩
        have hle : (k : Int) ≤ (Pl.worksL xs : Int) := by omega
        go_wp2_with fail
        refine (spec_WordValid _ _ _).mono ?_
        cases ha : Pl.wvB W x
        · rintro e w' ⟨rfl, rfl⟩
          go_wp2_with fail
          go_ret
          exact ⟨rfl, HB3⟩
        · rintro e w' ⟨rfl, rfl⟩
          go_wp2_with fail
          refine (spec_WordValid _ _ _).mono ?_
          cases hb : Pl.wvB W y
          · rintro e w' ⟨rfl, rfl⟩
            go_wp2_with fail
            go_ret
            exact ⟨rfl, HB3⟩
          · rintro e w' ⟨rfl, rfl⟩
            have hlaw := F3.out W x y (Pl.v2_mk ha hb)
            go_wp2_with fail
            refine (impl_CodeRun W num x y A1 k c1 _ code _ RI3 z3 (by omega)).mono ?_
            rw [hlaw]
            rintro e w5 ⟨rfl, hb5⟩
            have HB5 := below_step HB3 hb5 HB3.size
            have z5 := hb5.size
            have R5 := R3.below (hb5.mono (by omega))
            go_wp2_with fail
            refine (cv.out W x y _ _ _ _ _ R5 (by omega) (by omega)).mono ?_
            rintro e w6 ⟨rfl, hb6⟩
            have HB6 := below_step HB5 hb6 HB5.size
            go_wp2_with fail
            go_ret
            exact ⟨by first | rfl | simp, HB6⟩
end Go.Proofs.Ytnjcephddilalab
