/-
  What is equal for wide words is equal for narrow ones.
  Conditions: none.
-/
import Derived.Test.YtnjcephddilalabPf
namespace Go.Proofs.Ytnjcephddilalab.Pl
set_option linter.unusedVariables false
theorem wmod_id {w x : Int} (h0 : 0 ≤ x) (h1 : x < pw w) : wmod w x = x := by
  unfold wmod
  exact Int.emod_eq_of_lt h0 h1
theorem pw_mono {w k : Int} (h0 : 0 ≤ w) (h1 : w ≤ k) : pw w ≤ pw k :=
  Int.le_of_dvd (pw_pos k) (pw_dvd h0 h1)
theorem eqa_cases (k : Int) (e f : List Int) : equalAt k e f = (false, -1, -1) ∨
    (∃ x y, equalAt k e f = (false, x, y) ∧ 0 ≤ x ∧ 0 ≤ y ∧ valueOf k e x y ≠ valueOf k f x y) ∨
    (equalAt k e f = (true, 0, 0) ∧ ∀ w, 1 ≤ w → w < k → noRight e → noRight f → equalAt w e f = (true, 0, 0)) := by
  by_cases hv : (1 ≤ k ∧ k ≤ 5) ∧ exprValid e = true ∧ exprValid f = true
  · right
    obtain ⟨⟨h0, h1⟩, he, hf⟩ := hv
    obtain ⟨P, hP⟩ := Int.eq_ofNat_of_zero_le (show 0 ≤ pw k by have := pw_pos k; omega)
    have hpp := pw_pos k
    have hp : 0 < P := by omega
    have hu1 : (List.range (P * P)).find? (diffAt k e f P) = none → equalAt k e f = (true, 0, 0) := by
      intro h
      unfold equalAt
      rw [if_pos ⟨⟨h0, h1⟩, he, hf⟩, hP, Int.toNat_natCast, h]
    have hu2 : ∀ c, (List.range (P * P)).find? (diffAt k e f P) = some c → equalAt k e f = (false, ((c / P : Nat) : Int), ((c % P : Nat) : Int)) := by
      intro c h
      unfold equalAt
      rw [if_pos ⟨⟨h0, h1⟩, he, hf⟩, hP, Int.toNat_natCast, h]
    match hn : (List.range (P * P)).find? (diffAt k e f P) with
    | none =>
      right
      refine ⟨hu1 hn, fun w w0 w1 hne hnf => ?_⟩
      have hpw := pw_mono (show 0 ≤ w by omega) (show w ≤ k by omega)
      obtain ⟨Q, hQ⟩ := Int.eq_ofNat_of_zero_le (show 0 ≤ pw w by have := pw_pos w; omega)
      refine equalAt_all w0 (by omega) he hf hQ fun x y hx hy => ?_
      have hxP : x < P := by omega
      have hyP : y < P := by omega
      have hlt : P * x + y < P * P := by
        have : P * (x + 1) ≤ P * P := Nat.mul_le_mul_left P hxP
        rw [Nat.mul_add, Nat.mul_one] at this
        omega
      have hd := (List.find?_eq_none.1 hn) (P * x + y) (List.mem_range.2 hlt)
      unfold diffAt at hd
      rw [show (P * x + y) / P = x by rw [Nat.mul_add_div hp, Nat.div_eq_of_lt hyP, Nat.add_zero], show (P * x + y) % P = y by rw [Nat.mul_add_mod, Nat.mod_eq_of_lt hyP]] at hd
      have hE : value k e x y = value k f x y := by simpa using hd
      have a := value_narrow (w := w) (k := k) (x := x) (y := y) (by omega) (by omega) (by omega) (by omega) (by omega) (by omega) he hne
      have b := value_narrow (w := w) (k := k) (x := x) (y := y) (by omega) (by omega) (by omega) (by omega) (by omega) (by omega) hf hnf
      rw [wmod_id (by omega) (by omega), wmod_id (by omega) (by omega)] at a b
      rw [a, b, hE]
    | some c =>
      left
      have hu := hu2 c hn
      have hc := List.find?_some hn
      have hm := List.mem_range.1 (List.mem_of_find?_eq_some hn)
      have hx : c / P < P := (Nat.div_lt_iff_lt_mul hp).2 hm
      have hy : c % P < P := Nat.mod_lt _ hp
      unfold diffAt at hc
      have hd := of_decide_eq_true hc
      clear hu1 hu2 hn hm hc
      generalize c / P = X at *
      generalize c % P = Y at *
      have hv2 : v2 k (X : Int) (Y : Int) = true := v2_mk (wv_mk h0 (by omega) (by omega) (by omega)) (wv_mk h0 (by omega) (by omega) (by omega))
      exact ⟨_, _, hu, by omega, by omega, by rw [valueOf_t he hv2, valueOf_t hf hv2]; exact hd⟩
  · exact .inl (equalAt_f hv)
end Go.Proofs.Ytnjcephddilalab.Pl
