/-
  Plain laws on words of bits as integers: powers of two, remainders, bits. No program is in sight.
  Conditions: as stated at each.
-/
import Derived.WalkKit
import Derived.Laws.BitsAllLaws
import Derived.Laws.BitsLemmas
namespace Go.Proofs.Ytnjcephddilalab
set_option linter.unusedVariables false
set_option linter.unusedSimpArgs false
open Go.RowKit
namespace Pl

/-- 2 to the power n, for n from 0 on. -/
def pw (n : Int) : Int := 2 ^ n.toNat
theorem pw_pos (n : Int) : 1 ≤ pw n := by
  unfold pw
  have : (0 : Int) < 2 ^ n.toNat := Int.pow_pos (by decide)
  omega
theorem pw_add (a b : Int) (ha : 0 ≤ a) (hb : 0 ≤ b) : pw (a + b) = pw a * pw b := by
  unfold pw
  rw [show (a + b).toNat = a.toNat + b.toNat by omega, Int.pow_add]
theorem pw_succ (a : Int) (ha : 0 ≤ a) : pw (a + 1) = 2 * pw a := by
  rw [pw_add a 1 ha (by omega)]; show pw a * 2 = _; omega
theorem pw_nat (n : Nat) : pw (n : Int) = ((2 ^ n : Nat) : Int) := by
  unfold pw; simp
theorem pw_le (a b : Int) (h : a ≤ b) : pw a ≤ pw b := by
  unfold pw
  have := Nat.pow_le_pow_right (n := 2) (by decide) (show a.toNat ≤ b.toNat by omega)
  exact_mod_cast this
theorem pw_lt (n : Int) (h : n ≤ 12) : pw n ≤ 4096 := by
  have := pw_le n 12 h
  have e : pw 12 = 4096 := by decide
  omega
theorem pw_62 (n : Int) (h : n ≤ 62) : pw n ≤ 4611686018427387904 := by
  have := pw_le n 62 h
  have e : pw 62 = 4611686018427387904 := by decide
  omega
/-- '1 << n' as the walk has it. -/
theorem shl1 (n : Int) (h0 : 0 ≤ n) (h : n ≤ 62) : IntKind.i64.wrap (2 ^ min n.toNat 64) = pw n := by
  have e : min n.toNat 64 = n.toNat := by omega
  rw [e]
  have h1 := pw_62 n h
  have h2 := pw_pos n
  unfold pw at *
  rw [IntKind.wrap_i64]; omega

theorem wrap_pw (n : Int) (h0 : 0 ≤ n) (h : n ≤ 62) : wrap64 (2 ^ n.toNat) = pw n := by
  have h1 := pw_62 n h
  have h2 := pw_pos n
  unfold pw at *
  unfold wrap64
  omega
theorem great_wrap (n : Int) (h0 : 0 ≤ n) (h : n ≤ 62) : wrap64 (wrap64 (2 ^ n.toNat) - 1) = pw n - 1 := by
  rw [wrap_pw n h0 h]
  have h1 := pw_62 n h
  have h2 := pw_pos n
  unfold wrap64
  omega

/-! ### bits of 64-bit numbers -/
theorem toInt_ofInt64 (x : Int) (h : -9223372036854775808 ≤ x) (h' : x ≤ 9223372036854775807) : (BitVec.ofInt 64 x).toInt = x := by
  rw [BitVec.toInt_ofInt]
  unfold Int.bmod
  simp only [show ((2 ^ 64 : Nat) : Int) = 18446744073709551616 from rfl]
  split <;> omega
theorem ofInt_toNat64 (x : Int) : ((BitVec.ofInt 64 x).toNat : Int) = x % 18446744073709551616 := by
  rw [BitVec.toNat_ofInt]
  omega
/-- 'x & (2^k - 1)' is the remainder. -/
theorem and_mask (x : Int) (k : Nat) (hk : k ≤ 62) : bits .and .i64 x ((2 ^ k : Nat) - 1 : Int) = x % (2 ^ k : Nat) := by
  have hp : (2 ^ k : Nat) ≤ 2 ^ 62 := Nat.pow_le_pow_right (by decide) hk
  have hp0 : 0 < (2 ^ k : Nat) := Nat.pow_pos (by decide)
  have hd : (2 ^ k : Nat) * 2 ^ (64 - k) = 2 ^ 64 := by rw [← Nat.pow_add]; congr 1; omega
  have e : (BitVec.ofInt 64 ((2 ^ k : Nat) - 1 : Int)).toNat = 2 ^ k - 1 := by
    have := ofInt_toNat64 ((2 ^ k : Nat) - 1 : Int)
    omega
  show IntKind.i64.wrap ((BitVec.ofInt 64 x &&& BitVec.ofInt 64 ((2 ^ k : Nat) - 1 : Int)).toNat : Int) = _
  rw [BitVec.toNat_and, e, Nat.and_two_pow_sub_one_eq_mod, Int.natCast_emod, ofInt_toNat64, IntKind.wrap_i64]
  have h1 : x % 18446744073709551616 % ((2 ^ k : Nat) : Int) = x % ((2 ^ k : Nat) : Int) := by
    apply Int.emod_emod_of_dvd
    exact ⟨((2 ^ (64 - k) : Nat) : Int), by rw [← Int.natCast_mul, hd]; rfl⟩
  rw [h1]
  have h2 := Int.emod_nonneg x (b := ((2 ^ k : Nat) : Int)) (by omega)
  have h3 := Int.emod_lt_of_pos x (b := ((2 ^ k : Nat) : Int)) (by omega)
  omega
theorem and_one (x : Int) : bits .and .i64 x 1 = x % 2 := and_mask x 1 (by decide)
theorem cut_eq (x k : Int) (h0 : 0 ≤ k) (h : k ≤ 62) : bits .and .i64 x (pw k - 1) = x % pw k := by
  obtain ⟨n, rfl⟩ := Int.eq_ofNat_of_zero_le h0
  rw [pw_nat]
  exact and_mask x n (by omega)

/-- Bit k of a number, as 0 or 1. -/
def bt (x k : Int) : Int := x / pw k % 2
theorem bt_01 (x k : Int) : 0 ≤ bt x k ∧ bt x k ≤ 1 := by unfold bt; omega
theorem bt_or (x k : Int) : bt x k = 0 ∨ bt x k = 1 := by have := bt_01 x k; omega
theorem testBit_bt (n : Nat) (k : Nat) : n.testBit k = decide (bt (n : Int) k = 1) := by
  rw [Nat.testBit_eq_decide_div_mod_eq]
  congr 1
  unfold bt
  rw [pw_nat]
  simp only [eq_iff_iff]
  omega
/-- A number and its remainder by 2^64 have the same bits below 64. -/
theorem bt_mod64 (x : Int) (k : Nat) (hk : k < 64) : bt (x % 18446744073709551616) k = bt x k := by
  unfold bt
  rw [pw_nat]
  have hp0 : 0 < (2 ^ k : Nat) := Nat.pow_pos (by decide)
  have hd : (2 ^ k : Nat) * (2 ^ (63 - k) * 2) = 18446744073709551616 := by
    rw [← Nat.mul_assoc, ← Nat.pow_add, show k + (63 - k) = 63 by omega]
  have h := Int.mul_ediv_add_emod x 18446744073709551616
  have hd' : (18446744073709551616 : Int) = ((2 ^ k : Nat) : Int) * (((2 ^ (63 - k) : Nat) : Int) * 2) := by
    have h1 : ((18446744073709551616 : Nat) : Int) = ((2 ^ k * (2 ^ (63 - k) * 2) : Nat) : Int) := by rw [hd]
    rw [Int.natCast_mul, Int.natCast_mul] at h1
    exact h1
  have e : x % 18446744073709551616 = x + ((2 ^ k : Nat) : Int) * (((2 ^ (63 - k) : Nat) : Int) * 2 * (-(x / 18446744073709551616))) := by
    have h2 : ((2 ^ k : Nat) : Int) * (((2 ^ (63 - k) : Nat) : Int) * 2 * (-(x / 18446744073709551616))) = - (18446744073709551616 * (x / 18446744073709551616)) := by
      rw [← Int.mul_assoc, ← hd', Int.mul_neg]
    rw [h2]; omega
  rw [e, Int.add_mul_ediv_left _ _ (by omega), Int.mul_assoc, Int.mul_left_comm, Int.add_mul_emod_self_left]
theorem bt_wrap (x : Int) (k : Nat) (hk : k < 64) : bt (IntKind.i64.wrap x) k = bt x k := by
  rw [← bt_mod64 _ k hk, ← bt_mod64 x k hk, IntKind.wrap_i64]
  congr 1
  omega
theorem getLsbD_bt (x : Int) (k : Nat) (hk : k < 64) : (BitVec.ofInt 64 x).getLsbD k = decide (bt x k = 1) := by
  rw [← bt_mod64 x k hk, ← ofInt_toNat64 x, ← testBit_bt]
  rfl
theorem bt_of_getLsbD (v : BitVec 64) (k : Nat) (hk : k < 64) : bt (IntKind.i64.wrap (v.toNat : Int)) k = if v.getLsbD k then 1 else 0 := by
  rw [bt_wrap _ k hk]
  have h : v.getLsbD k = decide (bt (v.toNat : Int) k = 1) := testBit_bt v.toNat k
  rw [h]
  rcases bt_or (v.toNat : Int) k with e | e <;> simp [e]
theorem bt_and (x y : Int) (k : Nat) (hk : k < 64) : bt (bits .and .i64 x y) k = bt x k * bt y k := by
  show bt (IntKind.i64.wrap ((BitVec.ofInt 64 x &&& BitVec.ofInt 64 y).toNat : Int)) k = _
  rw [bt_of_getLsbD _ k hk, BitVec.getLsbD_and, getLsbD_bt x k hk, getLsbD_bt y k hk]
  rcases bt_or x k with e | e <;> rcases bt_or y k with e' | e' <;> simp [e, e']
theorem bt_orb (x y : Int) (k : Nat) (hk : k < 64) : bt (bits .or .i64 x y) k = bt x k + bt y k - bt x k * bt y k := by
  show bt (IntKind.i64.wrap ((BitVec.ofInt 64 x ||| BitVec.ofInt 64 y).toNat : Int)) k = _
  rw [bt_of_getLsbD _ k hk, BitVec.getLsbD_or, getLsbD_bt x k hk, getLsbD_bt y k hk]
  rcases bt_or x k with e | e <;> rcases bt_or y k with e' | e' <;> simp [e, e']
theorem bt_not (x : Int) (k : Nat) : bt (-x - 1) k = 1 - bt x k := by
  unfold bt
  rw [pw_nat]
  have hp0 : 0 < (2 ^ k : Nat) := Nat.pow_pos (by decide)
  have hp : 0 < ((2 ^ k : Nat) : Int) := by omega
  generalize ((2 ^ k : Nat) : Int) = p at *
  have h1 : (-x - 1) / p = - (x / p) - 1 := by
    have h2 := Int.emod_nonneg x (b := p) (by omega)
    have h3 := Int.emod_lt_of_pos x (b := p) hp
    have h4 := Int.mul_ediv_add_emod x p
    have h5 : (-(x / p) - 1) * p = -(p * (x / p)) - p := by rw [Int.sub_mul, Int.neg_mul, Int.mul_comm, Int.one_mul]
    rw [Int.ediv_eq_iff_of_pos hp, h5]
    omega
  rw [h1]
  omega

/-! ### Go's remainder -/
theorem tmod_neg (n p : Int) (hp : 0 < p) (h : n.tmod p < 0) : n.tmod p + p = n % p := by
  rw [Int.tmod_eq_emod] at *
  have h2 := Int.emod_nonneg n (b := p) (by omega)
  have h3 := Int.emod_lt_of_pos n (b := p) hp
  split at h <;> rename_i hc
  · omega
  · rw [if_neg hc]; omega
theorem tmod_nn (n p : Int) (hp : 0 < p) (h : 0 ≤ n.tmod p) : n.tmod p = n % p := by
  rw [Int.tmod_eq_emod] at *
  have h2 := Int.emod_nonneg n (b := p) (by omega)
  have h3 := Int.emod_lt_of_pos n (b := p) hp
  split at h <;> rename_i hc
  · rw [if_pos hc]; omega
  · omega
theorem tmod_fix (n p : Int) (hp : 0 < p) (hp' : p ≤ 4611686018427387904) (h : n.tmod p < 0) : wrap64 (n.tmod p + p) = n % p := by
  have h1 := tmod_neg n p hp h
  have h2 := Int.emod_nonneg n (b := p) (by omega)
  have h3 := Int.emod_lt_of_pos n (b := p) hp
  rw [h1]
  unfold wrap64
  omega
theorem mod_lt (n k : Int) : 0 ≤ n % pw k ∧ n % pw k < pw k := by
  have := pw_pos k
  exact ⟨Int.emod_nonneg n (by omega), Int.emod_lt_of_pos n (by omega)⟩

/-! ### valid words -/
def wvB (k x : Int) : Bool := decide (1 ≤ k ∧ k ≤ 12 ∧ 0 ≤ x ∧ x < pw k)
theorem wv_t {k x : Int} (h : wvB k x = true) : 1 ≤ k ∧ k ≤ 12 ∧ 0 ≤ x ∧ x < pw k := of_decide_eq_true h
theorem wv_f {k x : Int} (h : wvB k x = false) : ¬ (1 ≤ k ∧ k ≤ 12 ∧ 0 ≤ x ∧ x < pw k) := of_decide_eq_false h

/-- Both words are valid. -/
def v2 (k a b : Int) : Bool := wvB k a && wvB k b
theorem v2_t {k a b : Int} (h : v2 k a b = true) : 1 ≤ k ∧ k ≤ 12 ∧ 0 ≤ a ∧ a < pw k ∧ 0 ≤ b ∧ b < pw k := by
  unfold v2 at h
  rw [Bool.and_eq_true] at h
  obtain ⟨h0, h1, h2, h3⟩ := wv_t h.1
  obtain ⟨_, _, h4, h5⟩ := wv_t h.2
  exact ⟨h0, h1, h2, h3, h4, h5⟩
theorem v2_mk {k a b : Int} (ha : wvB k a = true) (hb : wvB k b = true) : v2 k a b = true := by unfold v2; rw [ha, hb]; rfl
theorem wv_mk {k x : Int} (h0 : 1 ≤ k) (h1 : k ≤ 12) (h2 : 0 ≤ x) (h3 : x < pw k) : wvB k x = true := decide_eq_true ⟨h0, h1, h2, h3⟩
theorem v2_l {k a b : Int} (h : v2 k a b = true) : wvB k a = true := by unfold v2 at h; rw [Bool.and_eq_true] at h; exact h.1
theorem v2_r {k a b : Int} (h : v2 k a b = true) : wvB k b = true := by unfold v2 at h; rw [Bool.and_eq_true] at h; exact h.2
/-- The word of a number. -/
def wmod (k n : Int) : Int := n % pw k
theorem wmod_lt (k n : Int) : 0 ≤ wmod k n ∧ wmod k n < pw k := mod_lt n k
theorem wmod_small {k n : Int} (h0 : 0 ≤ n) (h1 : n < pw k) : wmod k n = n := Int.emod_eq_of_lt h0 h1
theorem wmod_add {k n : Int} (h0 : -pw k ≤ n) (h1 : n < 0) : wmod k n = n + pw k := by
  unfold wmod
  rw [← Int.add_emod_right, Int.emod_eq_of_lt (by omega) (by omega)]
theorem wmod_sub {k n : Int} (h0 : pw k ≤ n) (h1 : n < 2 * pw k) : wmod k n = n - pw k := by
  unfold wmod
  rw [← Int.sub_emod_right, Int.emod_eq_of_lt (by omega) (by omega)]

end Pl
end Go.Proofs.Ytnjcephddilalab
