/-
  Lanes of words as plain functions. No program is in sight.
-/
import Derived.Test.YtnjcephddilalabPw
namespace Go.Proofs.Ytnjcephddilalab
set_option linter.unusedVariables false
set_option linter.unusedSimpArgs false
open Go.RowKit
namespace Pl
/-- A width has lanes of so many bits. -/
def lv (k l : Int) : Bool := decide ((1 ≤ k ∧ k ≤ 12) ∧ 1 ≤ l ∧ k % l = 0)
theorem lv_t {k l : Int} (h : lv k l = true) : 1 ≤ k ∧ k ≤ 12 ∧ 1 ≤ l ∧ l ≤ k ∧ k = k / l * l := by
  obtain ⟨⟨h0, h1⟩, h2, h3⟩ := of_decide_eq_true h
  have h4 := Int.mul_ediv_add_emod k l
  rw [h3, Int.mul_comm] at h4
  have h5 : l ≤ k := Int.le_of_dvd (by omega) (Int.dvd_of_emod_eq_zero h3)
  exact ⟨h0, h1, h2, h5, by omega⟩
theorem lv_f {k l : Int} (h : lv k l = false) : ¬ ((1 ≤ k ∧ k ≤ 12) ∧ 1 ≤ l ∧ k % l = 0) := of_decide_eq_false h
/-- The i-th lane. -/
def lane (l x : Int) (i : Nat) : Int := wmod l (x / pw (i * l))
def lanes (l x : Int) (m : Nat) : List Int := (List.range m).map (lane l x)
theorem lanes_succ (l x : Int) (m : Nat) : lanes l x (m + 1) = lanes l x m ++ [lane l x m] := by simp [lanes, List.range_succ]
theorem lanes_len (l x : Int) (m : Nat) : (lanes l x m).length = m := by simp [lanes]
theorem lanes_get (l x : Int) (m i : Nat) (h : i < m) : (lanes l x m)[i]? = some (lane l x i) := by simp [lanes, h]
/-- How many lanes. -/
def many (k l : Int) : Nat := (k / l).toNat
theorem many_eq {k l : Int} (h : lv k l = true) : (many k l : Int) * l = k := by
  obtain ⟨h0, h1, h2, h3, h4⟩ := lv_t h
  unfold many
  rw [Int.toNat_of_nonneg (Int.ediv_nonneg (by omega) (by omega))]; omega
def lanesOf (k l x : Int) : List Int := if lv k l = true ∧ wvB k x = true then lanes l x (many k l) else []
theorem many_pos {k l : Int} (h : lv k l = true) : 1 ≤ many k l ∧ many k l ≤ 12 := by
  obtain ⟨h0, h1, h2, h3, h4⟩ := lv_t h
  have hm := many_eq h
  constructor
  · rcases Nat.eq_zero_or_pos (many k l) with h | h
    · rw [h] at hm; simp at hm; omega
    · exact h
  · have : (many k l : Int) * 1 ≤ (many k l : Int) * l := Int.mul_le_mul_of_nonneg_left h2 (by omega)
    omega
/-- Where the loop over lanes stands. -/
theorem at_lt {k l : Int} {i : Nat} (h : lv k l = true) : (i : Int) * l < k ↔ i < many k l := by
  obtain ⟨h0, h1, h2, h3, h4⟩ := lv_t h
  have hm := many_eq h
  generalize many k l = m at *
  constructor
  · intro hx
    rw [← hm] at hx
    have := Int.lt_of_mul_lt_mul_right hx (by omega)
    omega
  · intro hx
    rw [← hm]
    exact Int.mul_lt_mul_of_pos_right (by omega) (by omega)
theorem at_succ (l : Int) (i : Nat) : ((i + 1 : Nat) : Int) * l = i * l + l := by rw [Int.natCast_add, Int.add_mul]; simp
theorem at_bd {k l : Int} {i : Nat} (h : lv k l = true) (hi : i ≤ many k l) : 0 ≤ (i : Int) * l ∧ (i : Int) * l ≤ k := by
  obtain ⟨h0, h1, h2, h3, h4⟩ := lv_t h
  have hm := many_eq h
  generalize many k l = m at *
  constructor
  · exact Int.mul_nonneg (by omega) (by omega)
  · rw [← hm]; exact Int.mul_le_mul_of_nonneg_right (by omega) (by omega)
theorem lane_at (l x t : Int) (j : Nat) (h : t = j * l) : wmod l (x / 2 ^ t.toNat) = lane l x j := by unfold lane pw; rw [h]
theorem lv_rest {k l : Int} (h0 : 1 ≤ k) (h1 : k ≤ 12) (h2 : 1 ≤ l) : lv k l = (k % l == 0) := by
  unfold lv
  rw [Bool.eq_iff_iff]; simp; omega
theorem lv_no {k l : Int} (h : ¬ (1 ≤ k ∧ k ≤ 12 ∧ 1 ≤ l ∧ l ≤ k)) : lv k l = false := by
  cases e : lv k l
  · rfl
  · obtain ⟨h0, h1, h2, h3, _⟩ := lv_t e
    exact absurd ⟨h0, h1, h2, h3⟩ h
theorem lanesOf_t {k l x : Int} (h : lv k l = true) (h' : wvB k x = true) : lanesOf k l x = lanes l x (many k l) := by unfold lanesOf; rw [if_pos ⟨h, h'⟩]
theorem lanesOf_f {k l x : Int} (h : ¬ (lv k l = true ∧ wvB k x = true)) : lanesOf k l x = [] := by unfold lanesOf; rw [if_neg h]
theorem wrapK_pw (n : Int) (h0 : 0 ≤ n) (h : n ≤ 62) : IntKind.i64.wrap (2 ^ n.toNat) = pw n := by
  have e := shl1 n h0 h
  rwa [show min n.toNat 64 = n.toNat by omega] at e
theorem tmod_wmod (l n : Int) (h : 0 ≤ n) : n.tmod (pw l) = wmod l n := Int.tmod_eq_emod_of_nonneg h
end Pl
end Go.Proofs.Ytnjcephddilalab
