/-
  The reference's comparison of lists, and benches with another expression.
  Conditions: as stated at each.
-/
import Derived.Test.YtamhpgledbmnoaaGreatDoorO2
namespace Go.Proofs.YtamhpgledbmnoaaGreatDoor
set_option linter.unusedVariables false
set_option linter.unusedSimpArgs false
open Go.RowKit
set_option maxHeartbeats 2000000 in
theorem spec_l10Equal (A A' : Option Addr) (n m c c' B : Nat) (xs ys : List Int) (w : World) (hx : Rd w B A n (I64 xs)) (hy : Rd w B A' m (I64 ys)) (hn : n ≤ 1000000000000) (hm : m ≤ 1000000000000) :
    Calls Tryz.prog 65 #[.slice A n c, .slice A' m c'] w fun e w' => e = .returned (.bool (decide (xs = ys))) ∧ ∃ q, w' = w.drewN q := by
  have lx : xs.length = n := by have := hx.len; rwa [I64_len] at this
  have ly : ys.length = m := by have := hy.len; rwa [I64_len] at this
  have LX := Lib.hid lx
  have LY := Lib.hid ly
  have HX := Lib.hid hx
  have HY := Lib.hid hy
  clear lx ly hx hy
  go_enter Tryz.func65, Tryz.ntmps65
  go_wp2
  go_loopw [5] (fun i wr => ∃ k q : Nat, k ≤ n ∧ k ≤ m ∧ i = .int .i64 k ∧ Hid (∀ j, j < k → xs[j]? = ys[j]?) ∧ wr = w.drewN q) (fun i _ => n - (intOf i).toNat)
  case atStart => exact ⟨0, 0, by omega, by omega, rfl, fun j hj => absurd hj (by omega), rfl⟩
  case round =>
    obtain ⟨k, q, hk, hk', rfl, hs, rfl⟩ := hrel
    by_cases h1 : k < n
    · have i1 : (k : Int) < n := by omega
      by_cases h2 : k < m
      · have i2 : (k : Int) < m := by omega
        obtain ⟨b, off, rfl, _, hc⟩ := HX.out.pos (by omega)
        obtain ⟨b', off', rfl, _, hc'⟩ := HY.out.pos (by omega)
        obtain ⟨x, ex⟩ : ∃ x, xs[k]? = some x := ⟨_, List.getElem?_eq_getElem (by have := LX.out; omega)⟩
        obtain ⟨y, ey⟩ : ∃ y, ys[k]? = some y := ⟨_, List.getElem?_eq_getElem (by have := LY.out; omega)⟩
        have c1 : w.cell? ⟨b, off + k, none⟩ = some (.int .i64 x) := hc k _ (I64_get ex)
        have c2 : w.cell? ⟨b', off' + k, none⟩ = some (.int .i64 y) := hc' k _ (I64_get ey)
        have EX := Lib.hid ex
        have EY := Lib.hid ey
        have hk0 : (0 : Int) ≤ k := by omega
        clear ex ey hc hc'
        by_cases hxy : x = y
        · subst hxy
          have hxx : (x != x) = false := by simp
          go_wp2_with fail
          go_quiet (fail)
          go_wp2
          go_roundw
          case rel =>
            refine ⟨k + 1, q + nq, by omega, by omega, by go_num, fun j hj => ?_, rfl⟩
            rcases Nat.lt_or_ge j k with h | h
            · exact hs.out j h
            · obtain rfl : j = k := by omega
              rw [EX.out, EY.out]
          case measure => simp [intOf]; omega
        · have hne : (x != y) = true := by rw [bne_iff_ne]; exact hxy
          have HD := Lib.hid (lists_differ EX.out EY.out hxy)
          clear hxy
          go_wp2_with fail
          go_quiet (fail)
          go_wp2
          go_ret
          exact ⟨ret_bool (by simp [HD.out]), q + nq, by first | rfl | rw [World.drewN_drewN]⟩
      · obtain rfl : k = m := by omega
        have i2 : ((k : Int) == n) = false := by rw [beq_eq_false_iff_ne]; omega
        have i3 : ((n : Int) == k) = false := by rw [beq_eq_false_iff_ne]; omega
        have hne : xs ≠ ys := by
          rintro rfl
          have := LX.out
          have := LY.out
          omega
        have HD := Lib.hid hne
        clear hne
        go_wp2
        go_ret
        exact ⟨ret_bool (by simp [HD.out]), _, rfl⟩
    · obtain rfl : k = n := by omega
      by_cases h2 : k = m
      · subst h2
        have he := Lib.hid (lists_meet LX.out LY.out hs.out)
        go_wp2
        go_ret
        exact ⟨ret_bool (by simp [he.out]), _, rfl⟩
      · have i2 : ((k : Int) == m) = false := by rw [beq_eq_false_iff_ne]; omega
        have hne : xs ≠ ys := by
          rintro rfl
          have := LX.out
          have := LY.out
          omega
        have HD := Lib.hid hne
        clear hne
        go_wp2
        go_ret
        exact ⟨ret_bool (by simp [HD.out]), _, rfl⟩
end Go.Proofs.YtamhpgledbmnoaaGreatDoor
