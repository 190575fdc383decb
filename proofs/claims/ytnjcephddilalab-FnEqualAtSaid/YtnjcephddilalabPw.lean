/-
  The operations on words as plain functions on integers (0 <= word < 2^width; -1 for other arguments). No program is in sight.
-/
import Derived.Test.YtnjcephddilalabPb
namespace Go.Proofs.Ytnjcephddilalab
set_option linter.unusedVariables false
set_option linter.unusedSimpArgs false
open Go.RowKit
namespace Pl
def fullAdd (k a b : Int) : Int := if v2 k a b = true then min (a + b) (pw k - 1) else -1
def emptySub (k a b : Int) : Int := if v2 k a b = true then max (a - b) 0 else -1
def distanceOf (k a b : Int) : Int := if v2 k a b = true then max a b - min a b else -1
def leastOf (k a b : Int) : Int := if v2 k a b = true then min a b else -1
def meanDown (k a b : Int) : Int := if v2 k a b = true then (a + b) / 2 else -1
def meanUp (k a b : Int) : Int := if v2 k a b = true then (a + b + 1) / 2 else -1
def lessBit (k a b : Int) : Int := if v2 k a b = true then (if a < b then 1 else 0) else -1
def wordAdd (k a b : Int) : Int := if v2 k a b = true then wmod k (a + b) else -1
def wordSub (k a b : Int) : Int := if v2 k a b = true then wmod k (a - b) else -1
def wordAnd (k a b : Int) : Int := if v2 k a b = true then land a b else -1
def wordOr (k a b : Int) : Int := if v2 k a b = true then lor a b else -1
def wordXor (k a b : Int) : Int := if v2 k a b = true then lxor a b else -1
def wordNot (k x : Int) : Int := if wvB k x = true then pw k - 1 - x else -1
def signlessOf (k x : Int) : Int := if wvB k x = true then (if bt x (k - 1) = 1 then pw k - x else x) else -1
def signedOf (k x : Int) : Int := if wvB k x = true then x - bt x (k - 1) * pw k else 0
def isW (k : Int) : Bool := decide (1 ≤ k ∧ k ≤ 12)
def isB (b : Int) : Bool := decide (b = 0 ∨ b = 1)
theorem isW_t {k : Int} (h : isW k = true) : 1 ≤ k ∧ k ≤ 12 := of_decide_eq_true h
theorem isB_t {k : Int} (h : isB k = true) : k = 0 ∨ k = 1 := of_decide_eq_true h
theorem isW_f {k : Int} (h : isW k = false) : ¬ (1 ≤ k ∧ k ≤ 12) := of_decide_eq_false h
theorem isB_f {k : Int} (h : isB k = false) : ¬ (k = 0 ∨ k = 1) := of_decide_eq_false h
def maskOf (k b : Int) : Int := if isW k = true ∧ isB b = true then b * (pw k - 1) else -1
def choose (k c a b : Int) : Int := if isB c = true ∧ v2 k a b = true then (if c = 1 then a else b) else -1

/-- The borrow out of the highest bit, by bits. -/
theorem less_law (k a b : Int) (h : v2 k a b = true) :
    bt (bits .or .i64 (bits .and .i64 (-a - 1) b) (bits .and .i64 (bits .or .i64 (-a - 1) b) (a - b))) (k - 1) = if a < b then 1 else 0 := by
  obtain ⟨h0, h1, h2, h3, h4, h5⟩ := v2_t h
  obtain ⟨n, hn⟩ := Int.eq_ofNat_of_zero_le (show 0 ≤ k - 1 by omega)
  have hk : n < 64 := by omega
  have hkk : k = (n : Int) + 1 := by omega
  rw [hn, bt_orb _ _ n hk, bt_and _ _ n hk, bt_and _ _ n hk, bt_orb _ _ n hk, bt_not]
  rw [hkk, pw_succ _ (by omega)] at h3 h5
  have hp := pw_pos (n : Int)
  have hsub : bt (a - b) n = if a < b then (if b - a ≤ pw n then 1 else 0) else (if pw n ≤ a - b then 1 else 0) := by
    unfold bt
    by_cases hab : a < b
    · rw [if_pos hab]
      split
      · rw [show (a - b) / pw n = -1 by rw [Int.ediv_eq_iff_of_pos (by omega)]; omega]; rfl
      · rw [show (a - b) / pw n = -2 by rw [Int.ediv_eq_iff_of_pos (by omega)]; omega]; rfl
    · rw [if_neg hab]
      split
      · rw [show (a - b) / pw n = 1 by rw [Int.ediv_eq_iff_of_pos (by omega)]; omega]; rfl
      · rw [show (a - b) / pw n = 0 by rw [Int.ediv_eq_iff_of_pos (by omega)]; omega]; rfl
  have hone : ∀ x : Int, 0 ≤ x → x < 2 * pw n → bt x n = if pw n ≤ x then 1 else 0 := by
    intro x hx0 hx1
    unfold bt
    split
    · rw [show x / pw n = 1 by rw [Int.ediv_eq_iff_of_pos (by omega)]; omega]; rfl
    · rw [show x / pw n = 0 by rw [Int.ediv_eq_iff_of_pos (by omega)]; omega]; rfl
  rw [hsub, hone a h2 h3, hone b h4 h5]
  by_cases c1 : pw n ≤ a <;> by_cases c2 : pw n ≤ b <;> by_cases c3 : a < b <;> by_cases c4 : b - a ≤ pw n <;> by_cases c5 : pw n ≤ a - b <;>
    simp only [c1, c2, c3, c4, c5, if_true, if_false] <;> omega
theorem bt_top (k x : Int) (h : wvB k x = true) : bt x (k - 1) = if pw (k - 1) ≤ x then 1 else 0 := by
  obtain ⟨h0, h1, h2, h3⟩ := wv_t h
  rw [show k = (k - 1) + 1 by omega, pw_succ _ (by omega)] at h3
  have hp := pw_pos (k - 1)
  unfold bt
  split
  · rw [show x / pw (k - 1) = 1 by rw [Int.ediv_eq_iff_of_pos (by omega)]; omega]; rfl
  · rw [show x / pw (k - 1) = 0 by rw [Int.ediv_eq_iff_of_pos (by omega)]; omega]; rfl
theorem pw_half (k : Int) (h : 1 ≤ k) : pw k = 2 * pw (k - 1) := by
  have := pw_succ (k - 1) (by omega)
  rwa [show k - 1 + 1 = k by omega] at this
theorem less_end (k a b : Int) (h : v2 k a b = true) :
    wmod k (bt (bits .or .i64 (bits .and .i64 (bits .xor .i64 (-1) a) b) (bits .and .i64 (bits .or .i64 (bits .xor .i64 (-1) a) b) (a - b))) (k - 1)) = if a < b then 1 else 0 := by
  obtain ⟨h0, h1, h2, h3, h4, h5⟩ := v2_t h
  have hp := pw_lt k h1
  have hp1 := pw_half k h0
  have hp2 := pw_pos (k - 1)
  rw [neg1_xor a (by omega) (by omega), less_law k a b h]
  split <;> exact wmod_small (by omega) (by omega)
theorem not_end (k x : Int) (h : wvB k x = true) : wmod k (bits .xor .i64 (-1) x) = wordNot k x := by
  obtain ⟨h0, h1, h2, h3⟩ := wv_t h
  have hp := pw_lt k h1
  unfold wordNot
  rw [neg1_xor x (by omega) (by omega), if_pos h, wmod_add (by omega) (by omega)]; omega
theorem signless_end (k x : Int) (h : wvB k x = true) : wmod k (bits .xor .i64 (x + -bt x (k - 1)) (-bt x (k - 1))) = signlessOf k x := by
  obtain ⟨h0, h1, h2, h3⟩ := wv_t h
  have hp := pw_lt k h1
  have ht := bt_top k x h
  have hp2 := pw_pos (k - 1)
  unfold signlessOf
  rw [if_pos h]
  rcases bt_or x (k - 1) with e | e <;> rw [e] at ht ⊢
  · rw [if_neg (by decide), show (-0 : Int) = 0 from rfl, xor_zero _ (by omega) (by omega), Int.add_zero]
    exact wmod_small (by omega) (by omega)
  · have hx : pw (k - 1) ≤ x := by
      rcases Int.lt_or_le x (pw (k - 1)) with hc | hc
      · rw [if_neg (by omega)] at ht; omega
      · exact hc
    rw [if_pos rfl, xor_neg1 _ (by omega) (by omega), wmod_add (by omega) (by omega)]; omega
theorem signed_end (k x : Int) (h : wvB k x = true) : wrap64 (x - wrap64 (bt x (k - 1) * pw k)) = signedOf k x := by
  obtain ⟨h0, h1, h2, h3⟩ := wv_t h
  have hp := pw_lt k h1
  have hp0 := pw_pos k
  unfold signedOf
  rw [if_pos h]
  rcases bt_or x (k - 1) with e | e <;> rw [e]
  · rw [Int.zero_mul, wrap64_small 0 (by omega) (by omega), wrap64_small _ (by omega) (by omega)]
  · rw [Int.one_mul, wrap64_small (pw k) (by omega) (by omega), wrap64_small _ (by omega) (by omega)]
theorem and_end (k a b : Int) (h : v2 k a b = true) : wmod k (bits .and .i64 a b) = land a b := by
  obtain ⟨h0, h1, h2, h3, h4, h5⟩ := v2_t h
  have hp := pw_lt k h1
  rw [i64_and a b h2 (by omega) h4 (by omega)]
  exact wmod_small (land_nonneg a b) (land_lt h4 h5)
theorem or_end (k a b : Int) (h : v2 k a b = true) : wmod k (bits .or .i64 a b) = lor a b := by
  obtain ⟨h0, h1, h2, h3, h4, h5⟩ := v2_t h
  have hp := pw_lt k h1
  rw [i64_or a b h2 (by omega) h4 (by omega)]
  exact wmod_small (lor_nonneg a b) (lor_lt h2 h3 h4 h5)
theorem xor_end (k a b : Int) (h : v2 k a b = true) : wmod k (bits .xor .i64 a b) = lxor a b := by
  obtain ⟨h0, h1, h2, h3, h4, h5⟩ := v2_t h
  have hp := pw_lt k h1
  rw [i64_xor a b h2 (by omega) h4 (by omega)]
  exact wmod_small (lxor_nonneg a b) (lxor_lt h2 h3 h4 h5)
theorem maskOf_t {k c : Int} (h0 : 1 ≤ k) (h1 : k ≤ 12) (hc : c = 0 ∨ c = 1) : maskOf k c = c * (pw k - 1) := by
  unfold maskOf; rw [if_pos ⟨decide_eq_true ⟨h0, h1⟩, decide_eq_true hc⟩]
theorem maskOf_f {k c : Int} (h : ¬ ((1 ≤ k ∧ k ≤ 12) ∧ (c = 0 ∨ c = 1))) : maskOf k c = -1 := by
  unfold maskOf; rw [if_neg (fun x => h ⟨of_decide_eq_true x.1, of_decide_eq_true x.2⟩)]
theorem wmod_0 (k : Int) : wmod k 0 = 0 := by have := pw_pos k; exact wmod_small (by omega) (by omega)
theorem wmod_m1 (k : Int) : wmod k (-1) = pw k - 1 := by
  have := pw_pos k
  rw [wmod_add (by omega) (by omega)]; omega
theorem choose_0 {k a b : Int} (h : v2 k a b = true) : choose k 0 a b = b := by simp [choose, h, isB]
theorem choose_1 {k a b : Int} (h : v2 k a b = true) : choose k 1 a b = a := by simp [choose, h, isB]
theorem choose_f {k c a b : Int} (h : ¬ ((c = 0 ∨ c = 1) ∧ v2 k a b = true)) : choose k c a b = -1 := by
  unfold choose; rw [if_neg (fun x => h ⟨of_decide_eq_true x.1, x.2⟩)]
theorem choose_less (k a b : Int) : choose k (lessBit k a b) a b = leastOf k a b := by
  cases hv : v2 k a b
  · rw [choose_f (by simp [hv])]; simp [leastOf, hv]
  · have e : leastOf k a b = min a b := by simp [leastOf, hv]
    have e2 : lessBit k a b = if a < b then 1 else 0 := by simp [lessBit, hv]
    rw [e, e2]
    split
    · rw [choose_1 hv]; omega
    · rw [choose_0 hv]; omega
/-- The bits of words by remainders: the reference's borrow. -/
theorem bt_land (a b : Int) (k : Nat) (h0 : 0 ≤ a) (h1 : a < 4096) (h2 : 0 ≤ b) (h3 : b < 4096) (hk : k < 64) : bt (land a b) k = bt a k * bt b k := by
  rw [← i64_and a b h0 (by omega) h2 (by omega), bt_and a b k hk]
theorem bt_lor (a b : Int) (k : Nat) (h0 : 0 ≤ a) (h1 : a < 4096) (h2 : 0 ≤ b) (h3 : b < 4096) (hk : k < 64) : bt (lor a b) k = bt a k + bt b k - bt a k * bt b k := by
  rw [← i64_or a b h0 (by omega) h2 (by omega), bt_orb a b k hk]
theorem bt_wmod (n : Int) (k : Nat) (j : Int) (hj : (k : Int) < j) : bt (wmod j n) k = bt n k := by
  obtain ⟨m, hm⟩ := Int.eq_ofNat_of_zero_le (show 0 ≤ j - k - 1 by omega)
  have e : pw j = pw k * (2 * pw m) := by
    rw [show j = (k : Int) + (m + 1) by omega, pw_add _ _ (by omega) (by omega), pw_succ _ (by omega)]
  have hp := pw_pos (k : Int)
  unfold bt wmod
  have h := Int.mul_ediv_add_emod n (pw j)
  have e2 : n % pw j = n + pw k * (2 * pw m * (-(n / pw j))) := by
    have h2 : pw k * (2 * pw m * (-(n / pw j))) = - (pw j * (n / pw j)) := by rw [← Int.mul_assoc, ← e, Int.mul_neg]
    rw [h2]; omega
  rw [e2, Int.add_mul_ediv_left _ _ (by omega), Int.mul_assoc, Int.add_mul_emod_self_left]
theorem less_spec (k a b : Int) (h : v2 k a b = true) :
    bt (lor (land (pw k - 1 - a) b) (land (lor (pw k - 1 - a) b) (wmod k (a - b)))) (k - 1) = lessBit k a b := by
  obtain ⟨h0, h1, h2, h3, h4, h5⟩ := v2_t h
  have hp := pw_lt k h1
  have hp0 := pw_pos k
  have e0 : lessBit k a b = if a < b then 1 else 0 := by simp [lessBit, h]
  rw [e0, ← less_law k a b h]
  obtain ⟨n, hn⟩ := Int.eq_ofNat_of_zero_le (show 0 ≤ k - 1 by omega)
  have hk : n < 64 := by omega
  have hm := wmod_lt k (a - b)
  have b1 := land_nonneg (pw k - 1 - a) b
  have b2 := land_lt (a := pw k - 1 - a) h4 h5
  have b3 := lor_nonneg (pw k - 1 - a) b
  have b4 := lor_lt (a := pw k - 1 - a) (b := b) (k := k) (by omega) (by omega) h4 h5
  have b5 := land_nonneg (lor (pw k - 1 - a) b) (wmod k (a - b))
  have b6 := land_lt (a := lor (pw k - 1 - a) b) hm.1 hm.2
  have hna : bt (pw k - 1 - a) n = bt (-a - 1) n := by
    have e : pw k - 1 - a = wmod k (-a - 1) := by rw [wmod_add (by omega) (by omega)]; omega
    rw [e, bt_wmod _ n k (by omega)]
  rw [hn, bt_lor _ _ n b1 (by omega) b5 (by omega) hk, bt_land _ _ n (by omega) (by omega) h4 (by omega) hk, bt_land _ _ n b3 (by omega) hm.1 (by omega) hk,
    bt_lor _ _ n (by omega) (by omega) h4 (by omega) hk, hna, bt_wmod _ n k (by omega), bt_orb _ _ n hk, bt_and _ _ n hk, bt_and _ _ n hk, bt_orb _ _ n hk]
theorem lessBit_t {k a b : Int} (h : v2 k a b = true) : lessBit k a b = if a < b then 1 else 0 := by simp [lessBit, h]
theorem mask_less {k a b : Int} (h : v2 k a b = true) : maskOf k (lessBit k a b) = if a < b then pw k - 1 else 0 := by
  obtain ⟨h0, h1, _⟩ := v2_t h
  rw [lessBit_t h]
  split
  · rw [maskOf_t h0 h1 (.inr rfl), Int.one_mul]
  · rw [maskOf_t h0 h1 (.inl rfl), Int.zero_mul]
theorem mask_lt {k a b : Int} (h : v2 k a b = true) : 0 ≤ maskOf k (lessBit k a b) ∧ maskOf k (lessBit k a b) < pw k := by
  have hp := pw_pos k
  rw [mask_less h]
  split <;> omega
theorem distance_spec (k a b : Int) (h : v2 k a b = true) : wmod k (lxor (wmod k (a - b)) (maskOf k (lessBit k a b)) - maskOf k (lessBit k a b)) = distanceOf k a b := by
  obtain ⟨h0, h1, h2, h3, h4, h5⟩ := v2_t h
  have hp := pw_pos k
  have e : distanceOf k a b = max a b - min a b := by simp [distanceOf, h]
  rw [mask_less h, e]
  split
  · rw [wmod_add (n := a - b) (by omega) (by omega), lxor_all k _ (by omega) (by omega), show pw k - 1 - (a - b + pw k) - (pw k - 1) = b - a - pw k by omega, wmod_add (by omega) (by omega)]; omega
  · rw [wmod_small (n := a - b) (by omega) (by omega), lxor_0 _ (by omega), Int.sub_zero, wmod_small (by omega) (by omega)]; omega
theorem full_spec (k a b : Int) (h : v2 k a b = true) : lor (wmod k (a + b)) (maskOf k (lessBit k (wmod k (a + b)) a)) = fullAdd k a b := by
  obtain ⟨h0, h1, h2, h3, h4, h5⟩ := v2_t h
  have hp := pw_pos k
  have hm := wmod_lt k (a + b)
  have hv2 := v2_mk (wv_mk h0 h1 hm.1 hm.2) (v2_l h)
  have e : fullAdd k a b = min (a + b) (pw k - 1) := by simp [fullAdd, h]
  rw [mask_less hv2, e]
  by_cases hc : a + b < pw k
  · rw [wmod_small (by omega) hc, if_neg (by omega), lor_0 _ (by omega)]; omega
  · rw [wmod_sub (by omega) (by omega), if_pos (by omega), lor_all k _ (by omega) (by omega)]; omega
theorem empty_spec (k a b : Int) (h : v2 k a b = true) : land (wmod k (a - b)) (pw k - 1 - maskOf k (lessBit k a b)) = emptySub k a b := by
  obtain ⟨h0, h1, h2, h3, h4, h5⟩ := v2_t h
  have hp := pw_pos k
  have e : emptySub k a b = max (a - b) 0 := by simp [emptySub, h]
  rw [mask_less h, e]
  split
  · rw [Int.sub_self, land_0]; omega
  · rw [wmod_small (by omega) (by omega), Int.sub_zero, land_all' k _ (by omega) (by omega)]; omega
theorem mask_bit {k x : Int} (h : wvB k x = true) : 0 ≤ maskOf k (bt x (k - 1)) ∧ maskOf k (bt x (k - 1)) < pw k := by
  obtain ⟨h0, h1, h2, h3⟩ := wv_t h
  have hp := pw_pos k
  rcases bt_or x (k - 1) with e | e <;> rw [e]
  · rw [maskOf_t h0 h1 (.inl rfl), Int.zero_mul]; omega
  · rw [maskOf_t h0 h1 (.inr rfl), Int.one_mul]; omega
theorem signless_spec (k x : Int) (h : wvB k x = true) : lxor (wmod k (x + maskOf k (bt x (k - 1)))) (maskOf k (bt x (k - 1))) = signlessOf k x := by
  obtain ⟨h0, h1, h2, h3⟩ := wv_t h
  have hp := pw_pos k
  have hp2 := pw_pos (k - 1)
  have ht := bt_top k x h
  unfold signlessOf
  rw [if_pos h]
  rcases bt_or x (k - 1) with e | e <;> rw [e] at ht ⊢
  · rw [maskOf_t h0 h1 (.inl rfl), Int.zero_mul, Int.add_zero, wmod_small h2 h3, lxor_0 _ h2, if_neg (by decide)]
  · have hx : pw (k - 1) ≤ x := by
      rcases Int.lt_or_le x (pw (k - 1)) with hc | hc
      · rw [if_neg (by omega)] at ht; omega
      · exact hc
    rw [maskOf_t h0 h1 (.inr rfl), Int.one_mul, wmod_sub (by omega) (by omega), lxor_all k _ (by omega) (by omega), if_pos rfl]; omega
theorem full_t {k a b : Int} (h : v2 k a b = true) : fullAdd k a b = min (a + b) (pw k - 1) := by simp [fullAdd, h]
theorem full_word {k a b : Int} (h : v2 k a b = true) : wvB k (fullAdd k a b) = true := by
  obtain ⟨h0, h1, h2, h3, h4, h5⟩ := v2_t h
  have hp := pw_pos k
  rw [full_t h]
  exact wv_mk h0 h1 (by omega) (by omega)
theorem full_assoc (k a b c : Int) (h : v2 k a b = true) (hc : wvB k c = true) : fullAdd k (fullAdd k a b) c = fullAdd k a (fullAdd k b c) := by
  obtain ⟨h0, h1, h2, h3, h4, h5⟩ := v2_t h
  obtain ⟨_, _, h6, h7⟩ := wv_t hc
  rw [full_t (v2_mk (full_word h) hc), full_t (v2_mk (v2_l h) (full_word (v2_mk (v2_r h) hc))), full_t h, full_t (v2_mk (v2_r h) hc)]
  omega
theorem dist_eq (k a b : Int) (h : v2 k a b = true) : distanceOf k a b = max a b - min a b := by simp [distanceOf, h]
theorem dist_bd (k a b : Int) (h : v2 k a b = true) : 0 ≤ distanceOf k a b ∧ distanceOf k a b < pw k := by
  obtain ⟨h0, h1, h2, h3, h4, h5⟩ := v2_t h
  rw [dist_eq k a b h]; omega
theorem dist_tri (k a b c : Int) (h : v2 k a b = true) (hc : wvB k c = true) : distanceOf k a b ≤ distanceOf k a c + distanceOf k c b := by
  rw [dist_eq k a b h, dist_eq k a c (v2_mk (v2_l h) hc), dist_eq k c b (v2_mk hc (v2_r h))]; omega
end Pl
end Go.Proofs.Ytnjcephddilalab
