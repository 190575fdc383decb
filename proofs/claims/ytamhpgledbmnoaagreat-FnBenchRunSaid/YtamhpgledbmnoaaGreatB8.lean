/-
  Whether two benches are the same, as the laws ask.
  Conditions: as stated.
-/
import Derived.Test.YtamhpgledbmnoaaGreatKN
namespace Go.Proofs.YtamhpgledbmnoaaGreat
set_option linter.unusedVariables false
set_option linter.unusedSimpArgs false
open Go.RowKit
set_option maxHeartbeats 4000000 in
theorem laws_sameBench (b b' : Pl.Bn) (A A' P P' : Option Addr) (n c m d n' c' m' d' B : Nat) (w : World) (hx : Rd w B A n (I64 b.e)) (hp : Rd w B P m (Tx b.past)) (hx' : Rd w B A' n' (I64 b'.e)) (hp' : Rd w B P' m' (Tx b'.past)) (hB : B ≤ w.heap.size)
    (hn : n ≤ 1000000000000) (hm : m ≤ 1000000000000) (hn' : n' ≤ 1000000000000) (hm' : m' ≤ 1000000000000) :
    Calls Tryz.prog 18 #[benchV b.k b.x b.y A n c P m d, benchV b'.k b'.x b'.y A' n' c' P' m' d'] w fun e w' => e = .returned (.bool (decide (b = b'))) ∧ Below w.heap.size w w' := by
  obtain ⟨k, x, y, E, ts⟩ := b
  obtain ⟨k', x', y', E', ts'⟩ := b'
  have ci := fun w1 h h' => laws_sameInts A A' n n' c c' B E E' w1 h h' hn hn'
  have ct := fun w1 h h' => laws_sameTexts P P' m m' d d' B ts ts' w1 h h' hm hm'
  have HX := Lib.hid hx
  have HP := Lib.hid hp
  have HX' := Lib.hid hx'
  have HP' := Lib.hid hp'
  obtain ⟨R, hR⟩ : ∃ R, R = decide ((⟨k, x, y, E, ts⟩ : Pl.Bn) = ⟨k', x', y', E', ts'⟩) := ⟨_, rfl⟩
  rw [← hR]
  unfold benchV
  clear hx hp hx' hp'
  by_cases h1 : k = k'
  · subst h1
    have q1 : (k == k) = true := by simp
    by_cases h2 : x = x'
    · subst h2
      have q2 : (x == x) = true := by simp
      by_cases h3 : y = y'
      · subst h3
        have q3 : (y == y) = true := by simp
        by_cases h4 : E = E'
        · by_cases h5 : ts = ts'
          · have hr := Lib.hid (hR.trans (bn_eq (b := ⟨k, x, y, E, ts⟩) (b' := ⟨k, x, y, E', ts'⟩) rfl rfl rfl h4 h5))
            rw [decide_eq_true h4] at ci
            rw [decide_eq_true h5] at ct
            clear h4 h5
            clear hR
            go_enter Tryz.func18, Tryz.ntmps18
            go_wp2_with fail
            refine (ci _ ((HX.out.alloc hB _).alloc (by simp; omega) _) ((HX'.out.alloc hB _).alloc (by simp; omega) _)).mono ?_
            rintro e w1 ⟨rfl, q, rfl⟩
            go_wp2_with fail
            refine (ct _ (((HP.out.alloc hB _).alloc (by simp; omega) _).drewN q) (((HP'.out.alloc hB _).alloc (by simp; omega) _).drewN q)).mono ?_
            rintro e w1 ⟨rfl, q', rfl⟩
            go_wp2_with fail
            go_ret
            rw [hr.out]
            exact ⟨rfl, below_drewN (below_two _ _ _) _⟩
          · have hr := Lib.hid (hR.trans (bn_ne (b := ⟨k, x, y, E, ts⟩) (b' := ⟨k, x, y, E', ts'⟩) (.inr (.inr (.inr (.inr h5))))))
            rw [decide_eq_true h4] at ci
            rw [decide_eq_false h5] at ct
            clear h4 h5
            clear hR
            go_enter Tryz.func18, Tryz.ntmps18
            go_wp2_with fail
            refine (ci _ ((HX.out.alloc hB _).alloc (by simp; omega) _) ((HX'.out.alloc hB _).alloc (by simp; omega) _)).mono ?_
            rintro e w1 ⟨rfl, q, rfl⟩
            go_wp2_with fail
            refine (ct _ (((HP.out.alloc hB _).alloc (by simp; omega) _).drewN q) (((HP'.out.alloc hB _).alloc (by simp; omega) _).drewN q)).mono ?_
            rintro e w1 ⟨rfl, q', rfl⟩
            go_wp2_with fail
            go_ret
            rw [hr.out]
            exact ⟨rfl, below_drewN (below_two _ _ _) _⟩
        · have hr := Lib.hid (hR.trans (bn_ne (b := ⟨k, x, y, E, ts⟩) (b' := ⟨k, x, y, E', ts'⟩) (.inr (.inr (.inr (.inl h4))))))
          rw [decide_eq_false h4] at ci
          clear h4
          clear hR
          go_enter Tryz.func18, Tryz.ntmps18
          go_wp2_with fail
          refine (ci _ ((HX.out.alloc hB _).alloc (by simp; omega) _) ((HX'.out.alloc hB _).alloc (by simp; omega) _)).mono ?_
          rintro e w1 ⟨rfl, q, rfl⟩
          go_wp2_with fail
          go_ret
          rw [hr.out]
          exact ⟨rfl, below_drewN (below_two _ _ _) q⟩
      · have hr := Lib.hid (hR.trans (bn_ne (b := ⟨k, x, y, E, ts⟩) (b' := ⟨k, x, y', E', ts'⟩) (.inr (.inr (.inl h3)))))
        have q3 : (y == y') = false := by rw [beq_eq_false_iff_ne]; exact h3
        clear h3
        clear hR
        go_enter Tryz.func18, Tryz.ntmps18
        go_wp2_with fail
        go_ret
        rw [hr.out]
        exact ⟨rfl, below_two _ _ _⟩
    · have hr := Lib.hid (hR.trans (bn_ne (b := ⟨k, x, y, E, ts⟩) (b' := ⟨k, x', y', E', ts'⟩) (.inr (.inl h2))))
      have q2 : (x == x') = false := by rw [beq_eq_false_iff_ne]; exact h2
      clear h2
      clear hR
      go_enter Tryz.func18, Tryz.ntmps18
      go_wp2_with fail
      go_ret
      rw [hr.out]
      exact ⟨rfl, below_two _ _ _⟩
  · have hr := Lib.hid (hR.trans (bn_ne (b := ⟨k, x, y, E, ts⟩) (b' := ⟨k', x', y', E', ts'⟩) (.inl h1)))
    have q1 : (k == k') = false := by rw [beq_eq_false_iff_ne]; exact h1
    clear h1
    clear hR
    go_enter Tryz.func18, Tryz.ntmps18
    go_wp2_with fail
    go_ret
    rw [hr.out]
    exact ⟨rfl, below_two _ _ _⟩
end Go.Proofs.YtamhpgledbmnoaaGreat
