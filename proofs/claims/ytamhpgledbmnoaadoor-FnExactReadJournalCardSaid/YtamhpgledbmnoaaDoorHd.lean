/-
  The law's look whether the marks on deeds stand.
  Conditions: the marks stand.
-/
import Derived.Test.YtamhpgledbmnoaaDoorM5
import Derived.Test.YtamhpgledbmnoaaDoorM1
import Derived.Deep.RegionHeld3
namespace Go.Proofs.YtamhpgledbmnoaaDoor
set_option linter.unusedVariables false
set_option linter.unusedSimpArgs false
open Go.RowKit
set_option maxRecDepth 100000 in
set_option maxHeartbeats 4000000 in
theorem laws_heldDeedS (A : Option Addr) (n c B k : Nat) (w : World) (hx : RdD w B A n (mkDs k n)) (hB : B ≤ w.heap.size) (hn : n ≤ 10000000) (hk0 : 1 ≤ k) (hk1 : k ≤ 10000000) :
    Calls Tryd.prog 22 #[.slice A n c, .int .i64 k] w fun e w' => e = .returned (.int .i64 ((k + 3 * n : Nat) : Int)) ∧ Below w.heap.size w w' := by
  rcases Nat.eq_zero_or_pos n with h0 | h0
  · subst h0
    clear hx
    go_enter Tryd.func22, Tryd.ntmps22
    go_wp2
    refine wp_loop_rounds 1 ?_
    rw [rounds_succ]
    go_wp2
    go_ret
    exact ⟨ret_int (by omega), Below.refl _ _⟩
  · obtain ⟨b, off, rfl, hbl, hc⟩ := hx.pos h0
    have HC := Lib.hid hc
    clear hc hx
    go_enter Tryd.func22, Tryd.ntmps22
    go_wp2
    go_loopw [1, 5] (fun v i wr => ∃ (j q : Nat), j ≤ n ∧ i = .int .i64 j ∧ v = .int .i64 q ∧ Hid (q = k + 3 * j) ∧ Below w.heap.size w wr) (fun _ i _ => n - (intOf i).toNat)
    case atStart => exact ⟨0, k, by omega, rfl, rfl, Lib.hid (by omega), Below.refl _ _⟩
    case round =>
      obtain ⟨j, q, hj, rfl, rfl, HQ, hb⟩ := hrel
      have hz := hb.size
      have hq1 : q ≤ 40000000 := by have := HQ.out; omega
      have hq0 : 1 ≤ q := by have := HQ.out; omega
      by_cases hlt : j < n
      · obtain ⟨u1, u2, u3⟩ := HC.out j _ (mkDs_get k n j hlt)
        rw [← HQ.out] at u1 u2 u3
        have hqi : (q : Int) + 1 = ((q + 1 : Nat) : Int) := by omega
        have c1 : wr.cell? ⟨b, off + j * 3, none⟩ = some (.int .i64 q) := (hb.cell (p := ⟨b, off + j * 3, none⟩) (show b < w.heap.size by omega)).trans u1
        have c2 : wr.cell? ⟨b, off + j * 3 + 1, none⟩ = some (.int .i64 ((q : Int) + 1)) := (hb.cell (p := ⟨b, off + j * 3 + 1, none⟩) (show b < w.heap.size by omega)).trans (by rw [hqi]; exact u2)
        have c3 : wr.cell? ⟨b, off + j * 3 + 2, none⟩ = some (.string (Ba (mkT (q + 2)))) := (hb.cell (p := ⟨b, off + j * 3 + 2, none⟩) (show b < w.heap.size by omega)).trans u3
        have hin : (j : Int) < (n : Int) := by omega
        have hj0 : (0 : Int) ≤ j := by omega
        have hqj : (q : Int) + 1 + 1 = ((q + 2 : Nat) : Int) := by omega
        have CM := Lib.hid (fun w' => laws_markText (q + 2) w' (by omega) (by omega))
        rw [← hqj] at CM
        obtain ⟨t, ht⟩ : ∃ t, mkT (q + 2) = t := ⟨_, rfl⟩
        rw [ht] at CM c3
        clear u1 u2 u3 hqi hqj ht
        go_upto_region 10 with (fail)
        go_region_held3 (fun w' => w'.cell? ⟨b, off + j * 3 + 2, none⟩ = some (.string (Ba t))) (first | go_keep | (exact (hbc.cell (p := ⟨b, off + j * 3 + 2, none⟩) (show b < wr.heap.size by omega)).trans c3)) ((go_at_call 35; refine (CM.out _).mono ?_; rintro e w1 ⟨rfl, hb1⟩; have hbc : Below wr.heap.size wr w1 := ⟨hb1.os, hb1.tape, hb1.output, hb1.size, hb1.block⟩))
        all_goals go_wp2_with fail
        all_goals go_roundw
        all_goals first
          | exact ⟨j + 1, q + 3, by omega, by go_num, by go_num, Lib.hid (by have := HQ.out; omega), hb.trans (hbc.mono hz)⟩
          | (simp [intOf]; omega)
      · obtain rfl : j = n := by omega
        have HR := Lib.hid (show (q : Int) = ((k + 3 * j : Nat) : Int) by have := HQ.out; omega)
        go_wp2_with fail
        go_ret
        exact ⟨by rw [← HR.out]; rfl, hb⟩
end Go.Proofs.YtamhpgledbmnoaaDoor
