/-
  More on expressions as lists: what stands behind a valid one, narrower words. No program is in sight.
-/
import Derived.Test.YtnjcephddilalabPe
namespace Go.Proofs.Ytnjcephddilalab
set_option linter.unusedVariables false
set_option linter.unusedSimpArgs false
open Go.RowKit
namespace Pl
theorem valid_not {e : List Int} (h : exprValid e = true) (hl : e.length < 24) : exprValid (e ++ [12]) = true := by
  obtain ⟨h0, h1, h2⟩ := valid_t h
  refine decide_eq_true ⟨by simp, by simp; omega, ?_⟩
  rw [scan_append, h2]; rfl
theorem valid_word {e : List Int} (h : exprValid e = true) : exprValid (e ++ [10]) = false := by
  obtain ⟨h0, h1, h2⟩ := valid_t h
  refine decide_eq_false (fun hx => ?_)
  have hs := hx.2.2
  rw [scan_append, h2] at hs
  exact absurd hs (by decide)
theorem valid_nil : exprValid [] = false := by decide
/-- An expression has no step to the right. -/
def noRight (e : List Int) : Prop := ∀ s ∈ e, s ≠ 14
theorem pw_dvd {w k : Int} (h0 : 0 ≤ w) (h1 : w ≤ k) : pw w ∣ pw k := by
  obtain ⟨d, rfl⟩ : ∃ d, k = w + d := ⟨k - w, by omega⟩
  rw [pw_add w d h0 (by omega)]
  exact Int.dvd_mul_right _ _
theorem wmod_wmod {w k n : Int} (h0 : 0 ≤ w) (h1 : w ≤ k) : wmod w (wmod k n) = wmod w n := by
  unfold wmod
  exact Int.emod_emod_of_dvd n (pw_dvd h0 h1)
theorem wmod_neg_all {w k a : Int} (h0 : 0 ≤ w) (h1 : w ≤ k) : wmod w (pw k - 1 - a) = pw w - 1 - wmod w a := by
  have hd := pw_dvd h0 h1
  obtain ⟨q, hq⟩ := hd
  have hp := pw_pos w
  have hl := wmod_lt w a
  unfold wmod at *
  have e1 := Int.mul_ediv_add_emod a (pw w)
  have e2 : pw k - 1 - a = (pw w - 1 - a % pw w) + pw w * (q - 1 - a / pw w) := by
    rw [hq, Int.mul_sub, Int.mul_sub, Int.mul_one]
    omega
  rw [e2, Int.add_mul_emod_self_left]
  exact Int.emod_eq_of_lt (by omega) (by omega)
theorem nat_land_mod (a b k : Nat) : (a &&& b) % 2 ^ k = (a % 2 ^ k) &&& (b % 2 ^ k) := by
  apply Nat.eq_of_testBit_eq
  intro i
  simp only [Nat.testBit_mod_two_pow, Nat.testBit_and]
  cases decide (i < k) <;> simp
theorem nat_lor_mod (a b k : Nat) : (a ||| b) % 2 ^ k = (a % 2 ^ k) ||| (b % 2 ^ k) := by
  apply Nat.eq_of_testBit_eq
  intro i
  simp only [Nat.testBit_mod_two_pow, Nat.testBit_or]
  cases decide (i < k) <;> simp
theorem nat_lxor_mod (a b k : Nat) : (a ^^^ b) % 2 ^ k = (a % 2 ^ k) ^^^ (b % 2 ^ k) := by
  apply Nat.eq_of_testBit_eq
  intro i
  simp only [Nat.testBit_mod_two_pow, Nat.testBit_xor]
  cases decide (i < k) <;> simp
theorem wmod_nat2 {w : Int} (h0 : 0 ≤ w) (n : Nat) : wmod w (n : Int) = ((n % 2 ^ w.toNat : Nat) : Int) := by
  obtain ⟨W, rfl⟩ := Int.eq_ofNat_of_zero_le h0
  unfold wmod
  rw [pw_nat, ← Int.natCast_emod, Int.toNat_natCast]
theorem wmod_land {w a b : Int} (h0 : 0 ≤ w) (ha : 0 ≤ a) (hb : 0 ≤ b) : wmod w (land a b) = land (wmod w a) (wmod w b) := by
  obtain ⟨a, rfl⟩ := Int.eq_ofNat_of_zero_le ha
  obtain ⟨b, rfl⟩ := Int.eq_ofNat_of_zero_le hb
  unfold land
  rw [wmod_nat2 h0, wmod_nat2 h0, wmod_nat2 h0]
  simp only [Int.toNat_natCast]
  rw [nat_land_mod]
theorem wmod_lor {w a b : Int} (h0 : 0 ≤ w) (ha : 0 ≤ a) (hb : 0 ≤ b) : wmod w (lor a b) = lor (wmod w a) (wmod w b) := by
  obtain ⟨a, rfl⟩ := Int.eq_ofNat_of_zero_le ha
  obtain ⟨b, rfl⟩ := Int.eq_ofNat_of_zero_le hb
  unfold lor
  rw [wmod_nat2 h0, wmod_nat2 h0, wmod_nat2 h0]
  simp only [Int.toNat_natCast]
  rw [nat_lor_mod]
theorem wmod_lxor {w a b : Int} (h0 : 0 ≤ w) (ha : 0 ≤ a) (hb : 0 ≤ b) : wmod w (lxor a b) = lxor (wmod w a) (wmod w b) := by
  obtain ⟨a, rfl⟩ := Int.eq_ofNat_of_zero_le ha
  obtain ⟨b, rfl⟩ := Int.eq_ofNat_of_zero_le hb
  unfold lxor
  rw [wmod_nat2 h0, wmod_nat2 h0, wmod_nat2 h0]
  simp only [Int.toNat_natCast]
  rw [nat_lxor_mod]
theorem opv_narrow {w k s a b : Int} (h0 : 0 ≤ w) (h1 : w ≤ k) (hs : s ≠ 14) (ha : 0 ≤ a) (hb : 0 ≤ b) : wmod w (opv k s a b) = opv w s (wmod w a) (wmod w b) := by
  unfold opv
  by_cases e1 : s = 12
  · rw [if_pos e1, if_pos e1]; exact wmod_neg_all h0 h1
  · rw [if_neg e1, if_neg e1]
    by_cases e2 : s = 13
    · rw [if_pos e2, if_pos e2, wmod_wmod h0 h1]
      unfold wmod
      rw [Int.mul_emod, Int.mul_emod 2 (a % pw w), Int.emod_emod]
    · rw [if_neg e2, if_neg e2, if_neg hs, if_neg hs]
      by_cases e4 : s = 15
      · rw [if_pos e4, if_pos e4, wmod_wmod h0 h1]; unfold wmod; rw [Int.add_emod]
      · rw [if_neg e4, if_neg e4]
        by_cases e5 : s = 16
        · rw [if_pos e5, if_pos e5, wmod_wmod h0 h1]; unfold wmod; rw [Int.sub_emod]
        · rw [if_neg e5, if_neg e5]
          by_cases e6 : s = 17
          · rw [if_pos e6, if_pos e6]; exact wmod_land h0 ha hb
          · rw [if_neg e6, if_neg e6]
            by_cases e7 : s = 18
            · rw [if_pos e7, if_pos e7]; exact wmod_lor h0 ha hb
            · rw [if_neg e7, if_neg e7]; exact wmod_lxor h0 ha hb
theorem leafv_narrow {w k s x y : Int} (h0 : 0 ≤ w) (h1 : w ≤ k) : wmod w (leafv k s x y) = leafv w s (wmod w x) (wmod w y) := by
  unfold leafv
  by_cases e1 : s = 10
  · rw [if_pos e1, if_pos e1]
  · rw [if_neg e1, if_neg e1]
    by_cases e2 : s = 11
    · rw [if_pos e2, if_pos e2]
    · rw [if_neg e2, if_neg e2]; exact wmod_wmod h0 h1
theorem map_getD (f : Int → Int) (st : List Int) (j : Nat) (h : j < st.length) : (st.map f).getD j 0 = f (st.getD j 0) := by
  simp [List.getD_eq_getElem?_getD, List.getElem?_eq_getElem h]
theorem push_narrow {w k x y s : Int} {st : List Int} (h0 : 0 ≤ w) (h1 : w ≤ k) (hs : s ≠ 14) (hw : Words k st) (ht : takes s ≤ st.length) :
    (pushS k x y st s).map (wmod w) = pushS w (wmod w x) (wmod w y) (st.map (wmod w)) s := by
  have hb := takes_bd s
  have g1 := words_get hw (st.length - 1)
  have g2 := words_get hw (st.length - 2)
  unfold pushS
  rw [List.length_map]
  by_cases e0 : takes s = 0
  · rw [if_pos e0, if_pos e0, List.map_append, List.map_singleton, leafv_narrow h0 h1]
  · rw [if_neg e0, if_neg e0]
    by_cases e1 : takes s = 1
    · rw [if_pos e1, if_pos e1, List.map_append, List.map_singleton, List.map_take, opv_narrow h0 h1 hs g1.1 (Int.le_refl 0), map_getD _ _ _ (by omega)]
      rw [show wmod w 0 = 0 from wmod_0 w]
    · rw [if_neg e1, if_neg e1, List.map_append, List.map_singleton, List.map_take, opv_narrow h0 h1 hs g2.1 g1.1, map_getD _ _ _ (by omega), map_getD _ _ _ (by omega)]
theorem value_narrow {w k x y : Int} {e : List Int} (h0 : 0 ≤ w) (h1 : w ≤ k) (hx0 : 0 ≤ x) (hx : x < pw k) (hy0 : 0 ≤ y) (hy : y < pw k) (he : exprValid e = true) (hn : noRight e) :
    value w e (wmod w x) (wmod w y) = wmod w (value k e x y) := by
  obtain ⟨v0, v1, v2⟩ := valid_t he
  have key : ∀ j, j ≤ e.length → (evalS k x y (e.take j)).map (wmod w) = evalS w (wmod w x) (wmod w y) (e.take j) := by
    intro j
    induction j with
    | zero => intro _; simp [evalS]
    | succ j ih =>
      intro hj
      have hs : e[j]? = some e[j] := List.getElem?_eq_getElem (by omega)
      obtain ⟨a1, a2⟩ := eval_at hx0 hx hy0 hy v2 j (by omega)
      have hc := scan_at v2 hs a2
      rw [evalS_snoc hs, evalS_snoc hs, push_narrow h0 h1 (hn _ (List.getElem_mem _)) a1 hc.2, ih (by omega)]
  have hk := key e.length (Nat.le_refl _)
  rw [List.take_length, (eval_end hx0 hx hy0 hy he).1] at hk
  unfold value at *
  rw [← hk]; rfl
end Pl
end Go.Proofs.Ytnjcephddilalab
