/-
  The law FnEqualAt: for every code it returns true.
  Conditions: none.
-/
import Derived.Test.YtnjcephddilalabD11
import Derived.Test.YtnjcephddilalabE5
import Derived.Test.YtnjcephddilalabPo
import Derived.Test.YtnjcephddilalabLa
namespace Go.Proofs.Ytnjcephddilalab
set_option linter.unusedVariables false
set_option linter.unusedSimpArgs false
open Go.RowKit
set_option maxHeartbeats 1000000 in
theorem laws_hasInt (A : Option Addr) (n c B : Nat) (v : Int) (xs : List Int) (w : World) (hx : Rd w B A n (I64 xs)) (hn : n ≤ 1000000000000) :
    Calls Try.prog 38 #[.slice A n c, .int .i64 v] w fun e w' => e = .returned (.bool (decide (v ∈ xs))) ∧ ∃ q, w' = w.drewN q := by
  have lx : xs.length = n := by have := hx.len; rwa [I64_len] at this
  rcases Nat.eq_zero_or_pos n with h0 | h0
  · subst h0
    have he : xs = [] := List.eq_nil_of_length_eq_zero lx
    subst he
    clear lx hx
    go_enter Try.func38, Try.ntmps38
    go_wp2
    refine wp_loop_rounds 1 ?_
    rw [rounds_succ]
    go_wp2
    go_ret
    exact ⟨ret_bool (by simp), 0, rfl⟩
  · obtain ⟨b, off, rfl, _, hc⟩ := hx.pos h0
    have LX := Lib.hid lx
    have HC := Lib.hid hc
    clear hc lx hx
    go_enter Try.func38, Try.ntmps38
    go_wp2
    go_loopw [5] (fun i wr => ∃ k q : Nat, k ≤ n ∧ i = .int .i64 k ∧ (∀ j, j < k → xs[j]? ≠ some v) ∧ wr = w.drewN q) (fun i _ => n - (intOf i).toNat)
    case atStart => exact ⟨0, 0, by omega, rfl, fun j hj => absurd hj (by omega), rfl⟩
    case round =>
      obtain ⟨k, q, hk, rfl, hs, rfl⟩ := hrel
      have HS := Lib.hid hs
      clear hs
      by_cases hlt : k < n
      · obtain ⟨x, ex⟩ : ∃ x, xs[k]? = some x := ⟨_, List.getElem?_eq_getElem (by have := LX.out; omega)⟩
        have c1 : w.cell? ⟨b, off + k, none⟩ = some (.int .i64 x) := HC.out k _ (I64_get ex)
        have EX := Lib.hid ex
        clear ex
        have hkn : (k : Int) < n := by omega
        have hk0 : (0 : Int) ≤ k := by omega
        by_cases hxy : x = v
        · subst hxy
          have HD := Lib.hid (List.mem_of_getElem? EX.out)
          go_wp2_with fail
          go_ret
          exact ⟨ret_bool (by simp [HD.out]), q, rfl⟩
        · have hne : (x == v) = false := by rw [beq_eq_false_iff_ne]; exact hxy
          go_wp2_with fail
          go_roundw
          case rel =>
            refine ⟨k + 1, q, by omega, by go_num, fun j hj => ?_, rfl⟩
            rcases Nat.lt_or_ge j k with h | h
            · exact HS.out j h
            · obtain rfl : j = k := by omega
              rw [EX.out]
              exact fun h => hxy (Option.some.inj h)
          case measure => simp [intOf]; omega
      · have hkn : k = n := by omega
        have HK := Lib.hid hkn
        clear hkn
        go_wp2
        go_ret
        have hno : v ∉ xs := by
          intro hm
          obtain ⟨j, hj, e⟩ := List.mem_iff_getElem.1 hm
          exact HS.out j (by have := HK.out; have := LX.out; omega) (by rw [List.getElem?_eq_getElem hj, e])
        exact ⟨ret_bool (by simp [hno]), _, rfl⟩
set_option maxRecDepth 100000 in
set_option maxHeartbeats 4000000 in
theorem law_FnEqualAt (a0 : Option Addr) (len0 cap0 : Nat) (z0 : List Int) (w : World) (w0 : IsRow .u8 w a0 len0 cap0 z0) :
    Calls Try.prog 7 #[.slice a0 len0 cap0] w fun e w' => e = .returned (.bool true) ∧ Below w.heap.size w w' := by
  obtain ⟨hc, hl, hm⟩ := code_of_row w0
  clear w0
  have hm2 := hm
  unfold maxLen at hm2
  by_cases hbig : 1048576 < len0
  · have hbi : (1048576 : Int) < len0 := by omega
    go_enter Try.func7, Try.ntmps7
    go_wp2
    go_ret
    exact ⟨rfl, Below.refl _ _⟩
  have hbi : ¬ (1048576 : Int) < len0 := by omega
  go_enter Try.func7, Try.ntmps7
  go_wp2_with fail
  refine (spec_DrawEqualAt a0 len0 cap0 _ hc hl hm).mono ?_
  rintro e v0 ⟨k, A, A', xs, ys, c, c', rfl, k0, k8, rx, ry, lx, ly, cx, cy, HB0⟩
  clear hc hl hm hbig hbi hm2
  have y0 := HB0.size
  go_wp2_with fail
  refine (impl_EqualAt k A A' _ c _ c' v0.heap.size xs ys _ rx ry (Nat.le_refl _) (by omega) (by omega)).mono ?_
  rintro e v1 ⟨rfl, hb1⟩
  have y1 := hb1.size
  have rx1 := rx.below hb1
  have ry1 := ry.below hb1
  have HB1 := below_step HB0 hb1 y0
  clear hb1 HB0 rx ry
  go_wp2_with fail
  refine (spec_EqualAt k A A' _ c _ c' v0.heap.size xs ys _ rx1 ry1 y1 (by omega) (by omega)).mono ?_
  rintro e v2 ⟨rfl, hb2⟩
  have y2 := hb2.size
  have rx2 := rx1.below (hb2.mono y1)
  have ry2 := ry1.below (hb2.mono y1)
  have HB2 := below_step HB1 hb2 (by omega)
  clear hb2 HB1 rx1 ry1
  have hcase := Pl.eqa_cases k xs ys
  generalize Pl.equalAt k xs ys = r at *
  rcases hcase with rfl | ⟨x, y, rfl, x0, y0', hne⟩ | ⟨rfl, hall⟩
  · go_wp2_with fail
    refine (laws_alive _).mono ?_
    rintro e v4 ⟨rfl, hb4⟩
    have HB4 := below_step HB2 hb4 HB2.size
    go_wp2_with fail
    go_ret
    exact ⟨rfl, HB4⟩
  · go_wp2_with fail
    refine (impl_ValueOf k x y A _ c _ xs _ rx2 (by omega) (by omega)).mono ?_
    rintro e v3 ⟨rfl, hb3⟩
    have y3 := hb3.size
    have ry3 := ry2.below (hb3.mono (by omega))
    have HB3 := below_step HB2 hb3 (by omega)
    clear hb3 HB2 rx2 ry2
    go_wp2_with fail
    refine (impl_ValueOf k x y A' _ c' _ ys _ ry3 (by omega) (by omega)).mono ?_
    rintro e v4 ⟨rfl, hb4⟩
    have HB4 := below_step HB3 hb4 (by omega)
    have hbne : (Pl.valueOf k xs x y != Pl.valueOf k ys x y) = true := by rw [bne_iff_ne]; exact hne
    clear hb4 HB3 hne
    generalize Pl.valueOf k xs x y = V at *
    generalize Pl.valueOf k ys x y = V' at *
    go_wp2_with fail
    go_ret
    exact ⟨ret_bool (by first | exact hbne | (simp; done) | (simp [hbne]; done)), HB4⟩
  · have HALL := Lib.hid hall
    clear hall
    go_wp2_with fail
    go_loopw [12] (fun i wr => ∃ j : Nat, 1 ≤ j ∧ i = .int .i64 j ∧ Below w.heap.size w wr ∧ v0.heap.size ≤ wr.heap.size ∧ Rd wr v0.heap.size A xs.length (I64 xs) ∧ Rd wr v0.heap.size A' ys.length (I64 ys)) (fun i _ => 10 - (intOf i).toNat)
    case atStart => exact ⟨1, Nat.le_refl _, rfl, HB2, by omega, rx2, ry2⟩
    case round =>
      obtain ⟨j, hj, rfl, hB, hz, hx, hy⟩ := hrel
      clear HB2 rx2 ry2 y1 y2
      by_cases hjk : (j : Int) < k
      · go_wp2_with fail
        refine (laws_hasInt A _ c _ 14 xs _ hx (by omega)).mono ?_
        rintro e v3 ⟨rfl, q, rfl⟩
        have hB3 := below_drewN hB q
        have hx3 := hx.drewN q
        have hy3 := hy.drewN q
        clear hB hx hy
        by_cases h14 : 14 ∈ xs
        · have e14 : decide (14 ∈ xs) = true := by simp [h14]
          rw [e14]
          go_wp2_with fail
          go_ret
          exact ⟨rfl, hB3⟩
        · have e14 : decide (14 ∈ xs) = false := by simp [h14]
          rw [e14]
          go_wp2_with fail
          refine (laws_hasInt A' _ c' _ 14 ys _ hy3 (by omega)).mono ?_
          rintro e v4 ⟨rfl, q4, rfl⟩
          have hB4 := below_drewN hB3 q4
          have hx4 := hx3.drewN q4
          have hy4 := hy3.drewN q4
          have hz4 : v0.heap.size ≤ ((wr.drewN q).drewN q4).heap.size := hz
          clear hB3 hx3 hy3
          generalize (wr.drewN q).drewN q4 = W at *
          by_cases h15 : 14 ∈ ys
          · have e15 : decide (14 ∈ ys) = true := by simp [h15]
            rw [e15]
            go_wp2_with fail
            go_ret
            exact ⟨rfl, hB4⟩
          · have e15 : decide (14 ∈ ys) = false := by simp [h15]
            have hE := HALL.out j (by omega) hjk (fun s hs h => h14 (h ▸ hs)) (fun s hs h => h15 (h ▸ hs))
            rw [e15]
            go_wp2_with fail
            refine (impl_EqualAt j A A' _ c _ c' v0.heap.size xs ys _ hx4 hy4 hz4 (by omega) (by omega)).mono ?_
            rw [hE]
            rintro e v5 ⟨rfl, hb5⟩
            have y5 := hb5.size
            have hB5 := below_step hB4 hb5 (by omega)
            have hx5 := hx4.below (hb5.mono hz4)
            have hy5 := hy4.below (hb5.mono hz4)
            clear hb5 hB4 hx4 hy4 hE
            have hj8 : (j : Int) < 8 := by omega
            go_wp2_with fail
            go_roundw
            case rel => exact ⟨j + 1, by omega, by go_num, hB5, by omega, hx5, hy5⟩
            case measure => simp [intOf]; omega
      · go_wp2_with fail
        go_ret
        exact ⟨rfl, hB⟩
end Go.Proofs.Ytnjcephddilalab
