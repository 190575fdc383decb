/-
  The law FnValueOf: for every code it returns true.
  Conditions: none.
-/
import Derived.Test.YtnjcephddilalaaD7
namespace Go.Proofs.Ytnjcephddilalaa
set_option linter.unusedVariables false
set_option linter.unusedSimpArgs false
open Go.RowKit
set_option maxHeartbeats 1000000 in
theorem laws_hasInt (A : Option Addr) (n c B : Nat) (xs : List Int) (v : Int) (w : World) (hx : Rd w B A n (I64 xs)) (hn : n ≤ 1000000000000) :
    Calls Try.prog 45 #[.slice A n c, .int .i64 v] w fun e w' => e = .returned (.bool (decide (v ∈ xs))) ∧ w = w' := by
  have lx : xs.length = n := by have := hx.len; rwa [I64_len] at this
  rcases Nat.eq_zero_or_pos n with h0 | h0
  · subst h0
    have he : xs = [] := List.eq_nil_of_length_eq_zero lx
    subst he
    clear lx hx
    go_enter Try.func45, Try.ntmps45
    go_wp2
    refine wp_loop_rounds 1 ?_
    rw [rounds_succ]
    go_wp2
    go_ret
    exact ⟨ret_bool (by simp), rfl⟩
  · obtain ⟨b, off, rfl, _, hc⟩ := hx.pos h0
    have HC := Lib.hid hc
    have hL := Lib.hid lx
    clear hc lx hx
    go_enter Try.func45, Try.ntmps45
    go_wp2
    go_loop [5] (fun i => ∃ j : Nat, j ≤ n ∧ i = .int .i64 j ∧ Hid (∀ t : Nat, t < j → xs[t]? ≠ some v)) (fun i => n - (intOf i).toNat)
    case atStart => exact ⟨0, by omega, rfl, fun t ht => absurd ht (by omega)⟩
    case round =>
      obtain ⟨j, hj, rfl, hs⟩ := hrel
      by_cases hlt : j < n
      · obtain ⟨x, ex⟩ : ∃ x, xs[j]? = some x := ⟨_, List.getElem?_eq_getElem (by have := hL.out; omega)⟩
        have c1 : w.cell? ⟨b, off + j, none⟩ = some (.int .i64 x) := HC.out j _ (I64_get ex)
        have EX := Lib.hid ex
        have hin : (j : Int) < (n : Int) := by omega
        have hj0 : (0 : Int) ≤ j := by omega
        clear ex
        by_cases hxv : x = v
        · subst hxv
          have hm := Lib.hid (List.mem_of_getElem? EX.out)
          go_wp2
          go_ret
          exact ⟨ret_bool (by simp [hm.out]), rfl⟩
        · have hne : (x == v) = false := by rw [beq_eq_false_iff_ne]; exact hxv
          have HX := Lib.hid hxv
          clear hxv
          go_wp2
          go_round
          case rel =>
            refine ⟨j + 1, by omega, by go_num, fun t ht => ?_⟩
            rcases Nat.lt_or_ge t j with h | h
            · exact hs.out t h
            · obtain rfl : t = j := by omega
              rw [EX.out]
              exact fun e => HX.out (by injection e)
          case measure => simp [intOf]; omega
      · obtain rfl : j = n := by omega
        have hm : ¬ v ∈ xs := fun hm => by
          obtain ⟨t, ht⟩ := List.mem_iff_getElem?.1 hm
          have hl := (List.getElem?_eq_some_iff.1 ht).1
          exact hs.out t (by have := hL.out; omega) ht
        have HM := Lib.hid hm
        clear hm
        go_wp2
        go_ret
        exact ⟨ret_bool (by simp [HM.out]), rfl⟩
set_option maxHeartbeats 2000000 in
theorem law_FnValueOf (a0 : Option Addr) (len0 cap0 : Nat) (z0 : List Int) (w : World) (w0 : IsRow .u8 w a0 len0 cap0 z0) :
    Calls Try.prog 13 #[.slice a0 len0 cap0] w fun e w' => e = .returned (.bool true) ∧ Below w.heap.size w w' := by
  obtain ⟨hc, hl, hm⟩ := code_of_row w0
  clear w0
  have hm' := hm
  unfold maxLen at hm'
  by_cases hbig : 1048576 < len0
  · have hbi : (1048576 : Int) < len0 := by omega
    go_enter Try.func13, Try.ntmps13
    go_wp2
    go_ret
    exact ⟨rfl, Below.refl _ _⟩
  have hbi : ¬ (1048576 : Int) < len0 := by omega
  go_enter Try.func13, Try.ntmps13
  go_wp2_with fail
  refine (spec_DrawValueOf a0 len0 cap0 _ hc hl hm).mono ?_
  rintro e v0 ⟨k, x, y, xs, g, c, rfl, k0, k1, x0, x1, y0, y1, own0, hlen, HB0⟩
  clear hc hl hm hm' hbig
  have r0 := rd_own own0
  have z0 := HB0.size
  by_cases hv : Pl.exprValid xs = true ∧ Pl.v2 k x y = true
  rotate_left
  · have e1 := Pl.valueOf_f hv
    have ci := fun A n c B w => impl_ValueOf k x y A n c B xs w
    have cs := fun A n c B w => spec_ValueOf k x y A n c B xs w
    rw [e1] at ci cs
    clear hv e1
    go_wp2_with fail
    refine (ci _ _ _ _ _ r0 (Nat.le_refl _) (by omega)).mono ?_
    rintro e w1 ⟨rfl, hb1⟩
    have z1 := hb1.size
    go_wp2_with fail
    refine (cs _ _ _ _ _ (r0.below hb1) z1 (by omega)).mono ?_
    rintro e w2 ⟨rfl, hb2⟩
    have HB2 := below_step (below_step HB0 hb1 z0) hb2 (by omega)
    clear ci cs hb1 hb2 own0 r0
    go_wp2_with fail
    refine (laws_alive _).mono ?_
    rintro e w4 ⟨rfl, hb4⟩
    have HB4 := below_step HB2 hb4 HB2.size
    go_wp2_with fail
    all_goals (go_ret; exact ⟨rfl, HB4⟩)
  · obtain ⟨he, h2⟩ := hv
    obtain ⟨h0, h1, a0', a1, b0, b1⟩ := Pl.v2_t h2
    have e1 := Pl.valueOf_t he h2
    have hword := Pl.value_word he h2
    obtain ⟨_, _, n0, n1⟩ := Pl.wv_t hword
    have hp := Pl.pw_lt k h1
    have ci := fun A n c B w => impl_ValueOf k x y A n c B xs w
    have cs := fun A n c B w => spec_ValueOf k x y A n c B xs w
    rw [e1] at ci cs
    have hnar : Pl.noRight xs → ∀ u : Int, 1 ≤ u → u < k → Pl.valueOf u xs (Pl.wmod u x) (Pl.wmod u y) = Pl.wmod u (Pl.value k xs x y) := fun hn u hu0 hu1 => by
      have q1 := Pl.wmod_lt u x
      have q2 := Pl.wmod_lt u y
      rw [Pl.valueOf_t he (Pl.v2_mk (Pl.wv_mk hu0 (by omega) q1.1 q1.2) (Pl.wv_mk hu0 (by omega) q2.1 q2.2))]
      exact Pl.value_narrow (by omega) (by omega) a0' a1 b0 b1 he hn
    have HN := Lib.hid hnar
    have HW := Lib.hid hword
    generalize Pl.value k xs x y = V at *
    have hvv : (V != V) = false := by simp
    clear hnar hword e1 he h2
    go_wp2_with fail
    refine (ci _ _ _ _ _ r0 (Nat.le_refl _) (by omega)).mono ?_
    rintro e w1 ⟨rfl, hb1⟩
    have z1 := hb1.size
    have r1 := r0.below hb1
    go_wp2_with fail
    refine (cs _ _ _ _ _ r1 z1 (by omega)).mono ?_
    rintro e w2 ⟨rfl, hb2⟩
    have z2 := hb2.size
    have r2 := r1.below (hb2.mono z1)
    have HB2 := below_step (below_step HB0 hb1 z0) hb2 (by omega)
    clear ci cs hb1 hb2 own0 r0 r1 HB0
    go_wp2_with fail
    go_loopw [8] (fun i wr => ∃ u : Int, 1 ≤ u ∧ i = .int .i64 u ∧ (u ≤ 13) ∧ Below w2.heap.size w2 wr) (fun i _ => (13 - intOf i).toNat)
    case atStart => exact ⟨1, by omega, rfl, by omega, Below.refl _ _⟩
    case round =>
      obtain ⟨u, u0, rfl, u1, hbr⟩ := hrel
      have zr := hbr.size
      have rr := r2.below (hbr.mono (by omega))
      by_cases huk : u < k
      · by_cases hm : (14 : Int) ∈ xs
        · have hd : decide ((14 : Int) ∈ xs) = true := by simp [hm]
          clear hm
          go_wp2_with fail
          refine (laws_hasInt _ _ _ _ xs 14 _ rr (by omega)).mono ?_
          rw [hd]
          rintro e w' ⟨rfl, rfl⟩
          go_wp2_with fail
          refine (impl_WordValid _ _ _).mono ?_
          rw [HW.out]
          rintro e w' ⟨rfl, rfl⟩
          have HB5 := below_step HB2 hbr HB2.size
          go_wp2_with fail
          go_ret
          exact ⟨rfl, HB5⟩
        · have hd : decide ((14 : Int) ∈ xs) = false := by simp [hm]
          have HNu := Lib.hid (HN.out (fun s hs e => hm (e ▸ hs)) u u0 huk)
          clear hm
          have hwp := Pl.wrapK_pw u (by omega) (by omega)
          have hpu := Pl.pw_pos u
          have hpn : ¬ Pl.pw u = 0 := by omega
          go_wp2_with fail
          refine (laws_hasInt _ _ _ _ xs 14 _ rr (by omega)).mono ?_
          rw [hd]
          rintro e w' ⟨rfl, rfl⟩
          clear hd
          go_wp2_with fail
          have tx : x.tmod (Pl.pw u) = Pl.wmod u x := Pl.tmod_wmod u x (by omega)
          have ty : y.tmod (Pl.pw u) = Pl.wmod u y := Pl.tmod_wmod u y (by omega)
          have tv : V.tmod (Pl.pw u) = Pl.wmod u V := Pl.tmod_wmod u V (by omega)
          go_region_law (first
            | (go_simp; go_at_call 33; refine (impl_ValueOf u (Pl.wmod u x) (Pl.wmod u y) _ _ _ _ xs _ (rr.drewN 1) (by show v0.heap.size ≤ wr.heap.size; omega) (by omega)).mono ?_; rw [HNu.out]; rintro e w5 ⟨rfl, hb5⟩; dsimp only))
          all_goals go_wp2
          all_goals go_roundw
          case rel => exact ⟨u + 1, by omega, by go_num, by omega, hbr.trans ((⟨hb5.os, hb5.tape, hb5.output, hb5.size, hb5.block⟩ : Below wr.heap.size wr w5).mono zr)⟩
          case measure => simp [intOf]; omega
      · go_wp2_with fail
        refine (impl_WordValid _ _ _).mono ?_
        rw [HW.out]
        rintro e w' ⟨rfl, rfl⟩
        have HB5 := below_step HB2 hbr HB2.size
        go_wp2_with fail
        go_ret
        exact ⟨rfl, HB5⟩
end Go.Proofs.Ytnjcephddilalaa
