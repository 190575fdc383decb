/-
  New benches: what the program and the reference make, and the laws' helpers on benches without texts of before.
  Conditions: as stated at each.
-/
import Derived.Test.YtpjikmnddkobfaaE1
import Derived.Test.YtpjikmnddkobfaaX4
namespace Go.Proofs.Ytpjikmnddkobfaa
set_option linter.unusedVariables false
set_option linter.unusedSimpArgs false
open Go.RowKit

/-- A bench as a value. -/
def benchV (W X Y : Int) (A : Option Addr) (n c : Nat) (P : Option Addr) (pn pc : Nat) : Value := .agg #[.int .i64 W, .int .i64 X, .int .i64 Y, .slice A n c, .slice P pn pc]
/-- The numbers of a new bench's expression. -/
def newE (k : Int) : List Int := if 1 ≤ k ∧ k ≤ 12 then [10] else []
def newW (k : Int) : Int := if 1 ≤ k ∧ k ≤ 12 then k else 0
def OutB (k : Int) (w : World) (e : Ending) (w' : World) : Prop :=
  ∃ A c P pc, e = .returned (benchV (newW k) 0 0 A (newE k).length c P 0 pc) ∧ w'.ownsRow w.heap.size 3 1 (.slice A (newE k).length c) (newE k).length (I64 (newE k)) ∧ Below w.heap.size w w'
set_option maxHeartbeats 1000000 in
theorem impl_BenchNew (k : Int) (w : World) : Calls Try.prog 6 #[.int .i64 k] w (OutB k w) := by
  by_cases h : 1 ≤ k ∧ k ≤ 12
  · have h1 := Lib.hid (show newE k = [10] by unfold newE; rw [if_pos h])
    have h2 := Lib.hid (show newW k = k by unfold newW; rw [if_pos h])
    obtain ⟨k0, k1⟩ := h
    go_enter Try.func6, Try.ntmps6
    go_wp2_with (first | (go_at_call 36; refine (impl_within_t _ _ _ _ (by omega)).mono ?_; rintro e w' ⟨rfl, rfl⟩) | go_in)
    refine bodyPost_ret (v := benchV k 0 0 (some ⟨w.heap.size + 1, 0, none⟩) 1 1 none 0 0) (by simp [results, Try.results6, benchV, go_sem]) rfl ?_
    unfold OutB
    rw [h1.out, h2.out]
    refine ⟨_, _, _, _, rfl, ?_, by go_grown⟩
    have h := World.ownsRow_lit (base := w.heap.size) (e := 3) (size := 1) (w.alloc (.cells #[.int .i64 k, .int .i64 0, .int .i64 0, .slice (some ⟨w.heap.size + 1, 0, none⟩) 1 1, .slice none 0 0] 25)) #[.int .i64 10] 1 (by simp) (by simp [maxLen]) rfl
    have h' : (w.alloc (.cells #[.int .i64 k, .int .i64 0, .int .i64 0, .slice (some ⟨w.heap.size + 1, 0, none⟩) 1 1, .slice none 0 0] 25)).heap.size = w.heap.size + 1 := by simp
    rw [h'] at h
    exact h
  · have h1 := Lib.hid (show newE k = [] by unfold newE; rw [if_neg h])
    have h2 := Lib.hid (show newW k = 0 by unfold newW; rw [if_neg h])
    go_enter Try.func6, Try.ntmps6
    go_wp2_with (first | (go_at_call 36; refine (impl_within_f _ _ _ _ (by omega)).mono ?_; rintro e w' ⟨rfl, rfl⟩) | go_in)
    refine bodyPost_ret (v := benchV 0 0 0 none 0 0 none 0 0) (by simp [results, Try.results6, benchV, go_sem]) rfl ?_
    unfold OutB
    rw [h1.out, h2.out]
    exact ⟨_, _, _, _, rfl, World.ownsRow_nil _ _ _ _, by go_grown⟩
set_option maxHeartbeats 1000000 in
theorem spec_BenchNew (k : Int) (w : World) : Calls Try.prog 5 #[.int .i64 k] w (OutB k w) := by
  by_cases h : 1 ≤ k ∧ k ≤ 12
  · have h1 := Lib.hid (show newE k = [10] by unfold newE; rw [if_pos h])
    have h2 := Lib.hid (show newW k = k by unfold newW; rw [if_pos h])
    obtain ⟨k0, k1⟩ := h
    go_enter Try.func5, Try.ntmps5
    go_wp2_with (first | (go_at_call 16; refine (spec_l1In_t _ _ _ _ (by omega)).mono ?_; rintro e w' ⟨rfl, rfl⟩) | go_in)
    refine bodyPost_ret (v := benchV k 0 0 (some ⟨w.heap.size + 1, 0, none⟩) 1 1 (some ⟨w.heap.size + 2, 0, none⟩) 0 0) (by simp [results, Try.results5, benchV, go_sem]) rfl ?_
    unfold OutB
    rw [h1.out, h2.out]
    refine ⟨_, _, _, _, rfl, ?_, by go_grown⟩
    have h := World.ownsRow_lit (base := w.heap.size) (e := 3) (size := 1) (w.alloc (.cells #[.int .i64 k, .int .i64 0, .int .i64 0, .slice (some ⟨w.heap.size + 1, 0, none⟩) 1 1, .slice (some ⟨w.heap.size + 2, 0, none⟩) 0 0] 25)) #[.int .i64 10] 1 (by simp) (by simp [maxLen]) rfl
    have h' : (w.alloc (.cells #[.int .i64 k, .int .i64 0, .int .i64 0, .slice (some ⟨w.heap.size + 1, 0, none⟩) 1 1, .slice (some ⟨w.heap.size + 2, 0, none⟩) 0 0] 25)).heap.size = w.heap.size + 1 := by simp
    rw [h'] at h
    exact h.alloc _
  · have h1 := Lib.hid (show newE k = [] by unfold newE; rw [if_neg h])
    have h2 := Lib.hid (show newW k = 0 by unfold newW; rw [if_neg h])
    go_enter Try.func5, Try.ntmps5
    go_wp2_with (first | (go_at_call 16; refine (spec_l1In_f _ _ _ _ (by omega)).mono ?_; rintro e w' ⟨rfl, rfl⟩) | go_in)
    refine bodyPost_ret (v := benchV 0 0 0 none 0 0 none 0 0) (by simp [results, Try.results5, benchV, go_sem]) rfl ?_
    unfold OutB
    rw [h1.out, h2.out]
    exact ⟨_, _, _, _, rfl, World.ownsRow_nil _ _ _ _, by go_grown⟩
set_option maxHeartbeats 400000 in
theorem laws_eqStringS0 (P P' : Option Addr) (c c' : Nat) (w : World) : Calls Try.prog 19 #[.slice P 0 c, .slice P' 0 c'] w fun e w' => e = .returned (.bool true) ∧ w = w' := by
  go_enter Try.func19, Try.ntmps19
  go_wp2
  refine wp_loop_rounds 1 ?_
  rw [rounds_succ]
  go_wp2
  go_ret
  exact ⟨rfl, rfl⟩
set_option maxHeartbeats 400000 in
theorem laws_sameTexts0 (P P' : Option Addr) (c c' : Nat) (w : World) : Calls Try.prog 27 #[.slice P 0 c, .slice P' 0 c'] w fun e w' => e = .returned (.bool true) ∧ w = w' := by
  go_enter Try.func27, Try.ntmps27
  go_wp2
  refine wp_loop_rounds 1 ?_
  rw [rounds_succ]
  go_wp2
  go_ret
  exact ⟨rfl, rfl⟩
set_option maxHeartbeats 400000 in
theorem laws_markStringS0 (P : Option Addr) (c : Nat) (k : Int) (w : World) : Calls Try.prog 21 #[.slice P 0 c, .int .i64 k] w fun e w' => e = .returned (.int .i64 k) ∧ w = w' := by
  go_enter Try.func21, Try.ntmps21
  go_wp2
  refine wp_loop_rounds 1 ?_
  rw [rounds_succ]
  go_wp2
  go_ret
  exact ⟨rfl, rfl⟩
set_option maxHeartbeats 400000 in
theorem laws_heldStringS0 (P : Option Addr) (c : Nat) (k : Int) (w : World) : Calls Try.prog 23 #[.slice P 0 c, .int .i64 k] w fun e w' => e = .returned (.int .i64 k) ∧ w = w' := by
  go_enter Try.func23, Try.ntmps23
  go_wp2
  refine wp_loop_rounds 1 ?_
  rw [rounds_succ]
  go_wp2
  go_ret
  exact ⟨rfl, rfl⟩
set_option maxHeartbeats 1000000 in
theorem laws_eqBench (W X Y : Int) (A A' P P' : Option Addr) (n m c c' pc pc' B : Nat) (xs : List Int) (w : World) (hx : Rd w B A n (I64 xs)) (hy : Rd w B A' n (I64 xs)) (hB : B ≤ w.heap.size) (hn : n ≤ 1000000) :
    Calls Try.prog 7 #[benchV W X Y A n c P 0 pc, benchV W X Y A' n c' P' 0 pc'] w fun e w' => e = .returned (.bool true) ∧ Below w.heap.size w w' := by
  have e1 : (W != W) = false := by simp
  have e2 : (X != X) = false := by simp
  have e3 : (Y != Y) = false := by simp
  unfold benchV
  go_enter Try.func7, Try.ntmps7
  go_wp2_with fail
  refine (laws_eqIntS A A' n n c c' B xs xs _ ((hx.alloc hB _).alloc (by simp; omega) _) ((hy.alloc hB _).alloc (by simp; omega) _) (by omega) (by omega)).mono ?_
  rintro e w1 ⟨rfl, q, rfl⟩
  go_wp2_with fail
  refine (laws_eqStringS0 P P' pc pc' _).mono ?_
  rintro e w' ⟨rfl, rfl⟩
  go_wp2_with fail
  go_ret
  exact ⟨by first | rfl | simp, below_drewN (by go_grown) q⟩
set_option maxHeartbeats 1000000 in
theorem laws_sameBench (W X Y : Int) (A A' P P' : Option Addr) (n m c c' pc pc' B : Nat) (xs : List Int) (w : World) (hx : Rd w B A n (I64 xs)) (hy : Rd w B A' n (I64 xs)) (hB : B ≤ w.heap.size) (hn : n ≤ 1000000) :
    Calls Try.prog 11 #[benchV W X Y A n c P 0 pc, benchV W X Y A' n c' P' 0 pc'] w fun e w' => e = .returned (.bool true) ∧ Below w.heap.size w w' := by
  have e1 : (W == W) = true := by simp
  have e2 : (X == X) = true := by simp
  have e3 : (Y == Y) = true := by simp
  unfold benchV
  go_enter Try.func11, Try.ntmps11
  go_wp2_with fail
  refine (laws_sameInts A A' n n c c' B xs xs _ ((hx.alloc hB _).alloc (by simp; omega) _) ((hy.alloc hB _).alloc (by simp; omega) _) (by omega) (by omega)).mono ?_
  rintro e w1 ⟨rfl, q, rfl⟩
  go_wp2_with fail
  refine (laws_sameTexts0 P P' pc pc' _).mono ?_
  rintro e w' ⟨rfl, rfl⟩
  go_wp2_with fail
  go_ret
  exact ⟨by first | rfl | simp, below_drewN (by go_grown) q⟩
set_option maxHeartbeats 1000000 in
theorem laws_markBench (W X Y k : Int) (A P : Option Addr) (n c pc base : Nat) (xs : List Value) (w : World) (hown : w.ownsRow base 3 1 (.slice A n c) n xs) (hB : base ≤ w.heap.size) (hn : n ≤ 1000000) (hk0 : 0 ≤ k) (hk1 : k ≤ 1000000) :
    Calls Try.prog 8 #[benchV W X Y A n c P 0 pc, .int .i64 k] w fun e w' => e = .returned (.int .i64 (k + n)) ∧ w'.ownsRow base 3 1 (.slice A n c) n (I64 (marks k n)) ∧ Below base w w' ∧ w.grownBy w' (Value.slice A n c).ownBlock := by
  unfold benchV
  go_enter Try.func8, Try.ntmps8
  go_wp2_with fail
  refine (laws_markIntS base n c (.slice A n c) xs k _ A rfl (hown.alloc _) (by omega) hk0 (by omega)).mono ?_
  rintro e w1 ⟨rfl, own1, hg1⟩
  have hz := hg1.size
  have c4 : w1.cell? ⟨w.heap.size, 4, none⟩ = some (.slice P 0 pc) := by
    have hne : (Value.slice A n c).ownBlock ≠ some w.heap.size := fun e => absurd (hown.lt _ e).2 (by omega)
    exact hg1.cell (by go_simp) (fun e => hne e.symm)
  go_wp2_with fail
  refine (laws_markStringS0 P pc _ _).mono ?_
  rintro e w' ⟨rfl, rfl⟩
  go_wp2_with fail
  go_ret
  exact ⟨rfl, own1, ((Below.refl base w).alloc hB _).trans (grown_below (hown.alloc _) (by simp; omega) hg1), (World.grownBy_alloc w _ _).trans hg1⟩
set_option maxHeartbeats 1000000 in
theorem laws_heldBench (W X Y k : Int) (A P : Option Addr) (n c pc B : Nat) (w : World) (hx : Rd w B A n (I64 (marks k n))) (hB : B ≤ w.heap.size) (hn : n ≤ 1000000) (hk0 : 0 ≤ k) (hk1 : k ≤ 1000000) :
    Calls Try.prog 9 #[benchV W X Y A n c P 0 pc, .int .i64 k] w fun e w' => e = .returned (.int .i64 (k + n)) ∧ Below w.heap.size w w' := by
  have hkn : ¬ k + (n : Int) < 0 := by omega
  unfold benchV
  go_enter Try.func9, Try.ntmps9
  go_wp2_with fail
  refine (laws_heldIntS A n c B k _ (hx.alloc hB _) (by omega) hk0 (by omega)).mono ?_
  rintro e w' ⟨rfl, rfl⟩
  go_wp2_with fail
  refine (laws_heldStringS0 P pc _ _).mono ?_
  rintro e w' ⟨rfl, rfl⟩
  go_wp2_with fail
  go_ret
  exact ⟨rfl, by go_grown⟩
end Go.Proofs.Ytpjikmnddkobfaa
