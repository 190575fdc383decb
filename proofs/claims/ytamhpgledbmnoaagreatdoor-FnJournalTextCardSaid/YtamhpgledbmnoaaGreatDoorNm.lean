/-
  Whether a deed names only what its kind asks.
  Conditions: none.
-/
import Derived.Test.YtamhpgledbmnoaaGreatDoorO0
import Derived.Test.YtamhpgledbmnoaaGreatDoorKT
namespace Go.Proofs.YtamhpgledbmnoaaGreatDoor
set_option linter.unusedVariables false
set_option linter.unusedSimpArgs false
open Go.RowKit
/-- Whether a deed names only what its kind asks. -/
def namedB (d : Pl.Dd) : Bool := if d.k = 0 ∨ d.k = 1 then decide (d.t = []) else if d.k = 2 then decide (d.n = 0) else if d.k = 3 ∨ d.k = 4 ∨ d.k = 5 then (decide (d.n = 0) && decide (d.t = [])) else false
theorem named_01 {k n : Int} {t : List UInt8} (h : k = 0 ∨ k = 1) : namedB ⟨k, n, t⟩ = decide (t = []) := by unfold namedB; rw [if_pos h]
theorem named_2 {n : Int} {t : List UInt8} : namedB ⟨2, n, t⟩ = decide (n = 0) := by unfold namedB; rw [if_neg (by dsimp only; omega), if_pos rfl]
theorem named_345 {k n : Int} {t : List UInt8} (h : k = 3 ∨ k = 4 ∨ k = 5) : namedB ⟨k, n, t⟩ = (decide (n = 0) && decide (t = [])) := by unfold namedB; rw [if_neg (by dsimp only; omega), if_neg (by dsimp only; omega), if_pos h]
theorem named_o {k n : Int} {t : List UInt8} (h0 : k ≠ 0) (h1 : k ≠ 1) (h2 : k ≠ 2) (h3 : k ≠ 3) (h4 : k ≠ 4) (h5 : k ≠ 5) : namedB ⟨k, n, t⟩ = false := by unfold namedB; rw [if_neg (by dsimp only; omega), if_neg (by dsimp only; omega), if_neg (by dsimp only; omega)]
set_option maxHeartbeats 4000000 in
theorem impl_named (D : Pl.Dd) (w : World) : Calls Tryz.prog 21 #[deedV D.k D.n D.t] w fun e w' => e = .returned (.bool (namedB D)) ∧ Below w.heap.size w w' := by
  obtain ⟨k, n, t⟩ := D
  have HB := Lib.hid ((Below.refl w.heap.size w).alloc (Nat.le_refl _) (.cells #[.int .i64 k, .int .i64 n, .string (Ba t)] 24))
  unfold deedV
  have htc : (t = [] ∧ (Ba t).toList.isEmpty = true) ∨ (t ≠ [] ∧ (Ba t).toList.isEmpty = false) := by
    rw [Ba_list]
    cases t with
    | nil => exact .inl ⟨rfl, rfl⟩
    | cons a r => exact .inr ⟨by simp, rfl⟩
  rcases (by omega : k = 0 ∨ k = 1 ∨ k = 2 ∨ k = 3 ∨ k = 4 ∨ k = 5 ∨ (k ≠ 0 ∧ k ≠ 1 ∧ k ≠ 2 ∧ k ≠ 3 ∧ k ≠ 4 ∧ k ≠ 5)) with rfl | rfl | rfl | rfl | rfl | rfl | ⟨h0, h1, h2, h3, h4, h5⟩
  · have hn := Lib.hid (named_01 (k := 0) (n := n) (t := t) (.inl rfl))
    rcases htc with ⟨ht, hb⟩ | ⟨ht, hb⟩
    all_goals
      have hd := Lib.hid ht
      clear ht
      go_enter Tryz.func21, Tryz.ntmps21
      go_wp2_with fail
      go_ret
      refine ⟨?_, HB.out⟩
      rw [hn.out]
      simp [hd.out]
  · have hn := Lib.hid (named_01 (k := 1) (n := n) (t := t) (.inr rfl))
    rcases htc with ⟨ht, hb⟩ | ⟨ht, hb⟩
    all_goals
      have hd := Lib.hid ht
      clear ht
      go_enter Tryz.func21, Tryz.ntmps21
      go_wp2_with fail
      go_ret
      refine ⟨?_, HB.out⟩
      rw [hn.out]
      simp [hd.out]
  · have hn := Lib.hid (named_2 (n := n) (t := t))
    clear htc
    by_cases hn0 : n = 0
    · subst hn0
      go_enter Tryz.func21, Tryz.ntmps21
      go_wp2_with fail
      go_ret
      refine ⟨?_, HB.out⟩
      rw [hn.out]
      rfl
    · have hb : (n == 0) = false := by rw [beq_eq_false_iff_ne]; exact hn0
      have hd := Lib.hid hn0
      clear hn0
      go_enter Tryz.func21, Tryz.ntmps21
      go_wp2_with fail
      go_ret
      refine ⟨?_, HB.out⟩
      rw [hn.out]
      simp [hd.out]
  · have hn := Lib.hid (named_345 (k := 3) (n := n) (t := t) (.inl rfl))
    by_cases hn0 : n = 0
    · subst hn0
      rcases htc with ⟨ht, hb⟩ | ⟨ht, hb⟩
      all_goals
        have hd := Lib.hid ht
        clear ht
        go_enter Tryz.func21, Tryz.ntmps21
        go_wp2_with fail
        go_ret
        refine ⟨?_, HB.out⟩
        rw [hn.out]
        simp [hd.out]
    · have hb : (n == 0) = false := by rw [beq_eq_false_iff_ne]; exact hn0
      have hd := Lib.hid hn0
      clear hn0 htc
      go_enter Tryz.func21, Tryz.ntmps21
      go_wp2_with fail
      go_ret
      refine ⟨?_, HB.out⟩
      rw [hn.out]
      simp [hd.out]
  · have hn := Lib.hid (named_345 (k := 4) (n := n) (t := t) (.inr (.inl rfl)))
    by_cases hn0 : n = 0
    · subst hn0
      rcases htc with ⟨ht, hb⟩ | ⟨ht, hb⟩
      all_goals
        have hd := Lib.hid ht
        clear ht
        go_enter Tryz.func21, Tryz.ntmps21
        go_wp2_with fail
        go_ret
        refine ⟨?_, HB.out⟩
        rw [hn.out]
        simp [hd.out]
    · have hb : (n == 0) = false := by rw [beq_eq_false_iff_ne]; exact hn0
      have hd := Lib.hid hn0
      clear hn0 htc
      go_enter Tryz.func21, Tryz.ntmps21
      go_wp2_with fail
      go_ret
      refine ⟨?_, HB.out⟩
      rw [hn.out]
      simp [hd.out]
  · have hn := Lib.hid (named_345 (k := 5) (n := n) (t := t) (.inr (.inr rfl)))
    by_cases hn0 : n = 0
    · subst hn0
      rcases htc with ⟨ht, hb⟩ | ⟨ht, hb⟩
      all_goals
        have hd := Lib.hid ht
        clear ht
        go_enter Tryz.func21, Tryz.ntmps21
        go_wp2_with fail
        go_ret
        refine ⟨?_, HB.out⟩
        rw [hn.out]
        simp [hd.out]
    · have hb : (n == 0) = false := by rw [beq_eq_false_iff_ne]; exact hn0
      have hd := Lib.hid hn0
      clear hn0 htc
      go_enter Tryz.func21, Tryz.ntmps21
      go_wp2_with fail
      go_ret
      refine ⟨?_, HB.out⟩
      rw [hn.out]
      simp [hd.out]
  · have hn := Lib.hid (named_o (n := n) (t := t) h0 h1 h2 h3 h4 h5)
    have b0 : (k == 0) = false := by rw [beq_eq_false_iff_ne]; exact h0
    have b1 : (k == 1) = false := by rw [beq_eq_false_iff_ne]; exact h1
    have b2 : (k == 2) = false := by rw [beq_eq_false_iff_ne]; exact h2
    have b3 : (k == 3) = false := by rw [beq_eq_false_iff_ne]; exact h3
    have b4 : (k == 4) = false := by rw [beq_eq_false_iff_ne]; exact h4
    have b5 : (k == 5) = false := by rw [beq_eq_false_iff_ne]; exact h5
    clear h0 h1 h2 h3 h4 h5 htc
    go_enter Tryz.func21, Tryz.ntmps21
    go_wp2_with fail
    go_ret
    refine ⟨?_, HB.out⟩
    rw [hn.out]
    rfl
end Go.Proofs.YtamhpgledbmnoaaGreatDoor
