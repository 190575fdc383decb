/-
  Plain facts of words, expressions, values, texts, codes and short expressions.
  Conditions: as stated at each.
-/
import Derived.WalkKit
import Derived.Laws.BitsAllLaws
import Derived.Laws.BitsLemmas
namespace Go.Proofs.YtamhpgledbmnoaaGreatDoor
set_option linter.unusedVariables false
set_option linter.unusedSimpArgs false
open Go.RowKit
namespace Pl

/-- 2 to the power n, for n from 0 on. -/
def pw (n : Int) : Int := 2 ^ n.toNat
theorem pw_pos (n : Int) : 1 ≤ pw n := by
  unfold pw
  have : (0 : Int) < 2 ^ n.toNat := Int.pow_pos (by decide)
  omega
theorem pw_add (a b : Int) (ha : 0 ≤ a) (hb : 0 ≤ b) : pw (a + b) = pw a * pw b := by
  unfold pw
  rw [show (a + b).toNat = a.toNat + b.toNat by omega, Int.pow_add]
theorem pw_succ (a : Int) (ha : 0 ≤ a) : pw (a + 1) = 2 * pw a := by
  rw [pw_add a 1 ha (by omega)]; show pw a * 2 = _; omega
theorem pw_nat (n : Nat) : pw (n : Int) = ((2 ^ n : Nat) : Int) := by
  unfold pw; simp
theorem pw_le (a b : Int) (h : a ≤ b) : pw a ≤ pw b := by
  unfold pw
  have := Nat.pow_le_pow_right (n := 2) (by decide) (show a.toNat ≤ b.toNat by omega)
  exact_mod_cast this
theorem pw_lt (n : Int) (h : n ≤ 12) : pw n ≤ 4096 := by
  have := pw_le n 12 h
  have e : pw 12 = 4096 := by decide
  omega
theorem pw_62 (n : Int) (h : n ≤ 62) : pw n ≤ 4611686018427387904 := by
  have := pw_le n 62 h
  have e : pw 62 = 4611686018427387904 := by decide
  omega
/-- '1 << n' as the walk has it. -/
theorem shl1 (n : Int) (h0 : 0 ≤ n) (h : n ≤ 62) : IntKind.i64.wrap (2 ^ min n.toNat 64) = pw n := by
  have e : min n.toNat 64 = n.toNat := by omega
  rw [e]
  have h1 := pw_62 n h
  have h2 := pw_pos n
  unfold pw at *
  rw [IntKind.wrap_i64]; omega

theorem wrap_pw (n : Int) (h0 : 0 ≤ n) (h : n ≤ 62) : wrap64 (2 ^ n.toNat) = pw n := by
  have h1 := pw_62 n h
  have h2 := pw_pos n
  unfold pw at *
  unfold wrap64
  omega
theorem great_wrap (n : Int) (h0 : 0 ≤ n) (h : n ≤ 62) : wrap64 (wrap64 (2 ^ n.toNat) - 1) = pw n - 1 := by
  rw [wrap_pw n h0 h]
  have h1 := pw_62 n h
  have h2 := pw_pos n
  unfold wrap64
  omega

/-! ### bits of 64-bit numbers -/
theorem toInt_ofInt64 (x : Int) (h : -9223372036854775808 ≤ x) (h' : x ≤ 9223372036854775807) : (BitVec.ofInt 64 x).toInt = x := by
  rw [BitVec.toInt_ofInt]
  unfold Int.bmod
  simp only [show ((2 ^ 64 : Nat) : Int) = 18446744073709551616 from rfl]
  split <;> omega
theorem ofInt_toNat64 (x : Int) : ((BitVec.ofInt 64 x).toNat : Int) = x % 18446744073709551616 := by
  rw [BitVec.toNat_ofInt]
  omega
/-- 'x & (2^k - 1)' is the remainder. -/
theorem and_mask (x : Int) (k : Nat) (hk : k ≤ 62) : bits .and .i64 x ((2 ^ k : Nat) - 1 : Int) = x % (2 ^ k : Nat) := by
  have hp : (2 ^ k : Nat) ≤ 2 ^ 62 := Nat.pow_le_pow_right (by decide) hk
  have hp0 : 0 < (2 ^ k : Nat) := Nat.pow_pos (by decide)
  have hd : (2 ^ k : Nat) * 2 ^ (64 - k) = 2 ^ 64 := by rw [← Nat.pow_add]; congr 1; omega
  have e : (BitVec.ofInt 64 ((2 ^ k : Nat) - 1 : Int)).toNat = 2 ^ k - 1 := by
    have := ofInt_toNat64 ((2 ^ k : Nat) - 1 : Int)
    omega
  show IntKind.i64.wrap ((BitVec.ofInt 64 x &&& BitVec.ofInt 64 ((2 ^ k : Nat) - 1 : Int)).toNat : Int) = _
  rw [BitVec.toNat_and, e, Nat.and_two_pow_sub_one_eq_mod, Int.natCast_emod, ofInt_toNat64, IntKind.wrap_i64]
  have h1 : x % 18446744073709551616 % ((2 ^ k : Nat) : Int) = x % ((2 ^ k : Nat) : Int) := by
    apply Int.emod_emod_of_dvd
    exact ⟨((2 ^ (64 - k) : Nat) : Int), by rw [← Int.natCast_mul, hd]; rfl⟩
  rw [h1]
  have h2 := Int.emod_nonneg x (b := ((2 ^ k : Nat) : Int)) (by omega)
  have h3 := Int.emod_lt_of_pos x (b := ((2 ^ k : Nat) : Int)) (by omega)
  omega
theorem and_one (x : Int) : bits .and .i64 x 1 = x % 2 := and_mask x 1 (by decide)
theorem cut_eq (x k : Int) (h0 : 0 ≤ k) (h : k ≤ 62) : bits .and .i64 x (pw k - 1) = x % pw k := by
  obtain ⟨n, rfl⟩ := Int.eq_ofNat_of_zero_le h0
  rw [pw_nat]
  exact and_mask x n (by omega)

/-- Bit k of a number, as 0 or 1. -/
def bt (x k : Int) : Int := x / pw k % 2
theorem bt_01 (x k : Int) : 0 ≤ bt x k ∧ bt x k ≤ 1 := by unfold bt; omega
theorem bt_or (x k : Int) : bt x k = 0 ∨ bt x k = 1 := by have := bt_01 x k; omega
theorem testBit_bt (n : Nat) (k : Nat) : n.testBit k = decide (bt (n : Int) k = 1) := by
  rw [Nat.testBit_eq_decide_div_mod_eq]
  congr 1
  unfold bt
  rw [pw_nat]
  simp only [eq_iff_iff]
  omega
/-- A number and its remainder by 2^64 have the same bits below 64. -/
theorem bt_mod64 (x : Int) (k : Nat) (hk : k < 64) : bt (x % 18446744073709551616) k = bt x k := by
  unfold bt
  rw [pw_nat]
  have hp0 : 0 < (2 ^ k : Nat) := Nat.pow_pos (by decide)
  have hd : (2 ^ k : Nat) * (2 ^ (63 - k) * 2) = 18446744073709551616 := by
    rw [← Nat.mul_assoc, ← Nat.pow_add, show k + (63 - k) = 63 by omega]
  have h := Int.mul_ediv_add_emod x 18446744073709551616
  have hd' : (18446744073709551616 : Int) = ((2 ^ k : Nat) : Int) * (((2 ^ (63 - k) : Nat) : Int) * 2) := by
    have h1 : ((18446744073709551616 : Nat) : Int) = ((2 ^ k * (2 ^ (63 - k) * 2) : Nat) : Int) := by rw [hd]
    rw [Int.natCast_mul, Int.natCast_mul] at h1
    exact h1
  have e : x % 18446744073709551616 = x + ((2 ^ k : Nat) : Int) * (((2 ^ (63 - k) : Nat) : Int) * 2 * (-(x / 18446744073709551616))) := by
    have h2 : ((2 ^ k : Nat) : Int) * (((2 ^ (63 - k) : Nat) : Int) * 2 * (-(x / 18446744073709551616))) = - (18446744073709551616 * (x / 18446744073709551616)) := by
      rw [← Int.mul_assoc, ← hd', Int.mul_neg]
    rw [h2]; omega
  rw [e, Int.add_mul_ediv_left _ _ (by omega), Int.mul_assoc, Int.mul_left_comm, Int.add_mul_emod_self_left]
theorem bt_wrap (x : Int) (k : Nat) (hk : k < 64) : bt (IntKind.i64.wrap x) k = bt x k := by
  rw [← bt_mod64 _ k hk, ← bt_mod64 x k hk, IntKind.wrap_i64]
  congr 1
  omega
theorem getLsbD_bt (x : Int) (k : Nat) (hk : k < 64) : (BitVec.ofInt 64 x).getLsbD k = decide (bt x k = 1) := by
  rw [← bt_mod64 x k hk, ← ofInt_toNat64 x, ← testBit_bt]
  rfl
theorem bt_of_getLsbD (v : BitVec 64) (k : Nat) (hk : k < 64) : bt (IntKind.i64.wrap (v.toNat : Int)) k = if v.getLsbD k then 1 else 0 := by
  rw [bt_wrap _ k hk]
  have h : v.getLsbD k = decide (bt (v.toNat : Int) k = 1) := testBit_bt v.toNat k
  rw [h]
  rcases bt_or (v.toNat : Int) k with e | e <;> simp [e]
theorem bt_and (x y : Int) (k : Nat) (hk : k < 64) : bt (bits .and .i64 x y) k = bt x k * bt y k := by
  show bt (IntKind.i64.wrap ((BitVec.ofInt 64 x &&& BitVec.ofInt 64 y).toNat : Int)) k = _
  rw [bt_of_getLsbD _ k hk, BitVec.getLsbD_and, getLsbD_bt x k hk, getLsbD_bt y k hk]
  rcases bt_or x k with e | e <;> rcases bt_or y k with e' | e' <;> simp [e, e']
theorem bt_orb (x y : Int) (k : Nat) (hk : k < 64) : bt (bits .or .i64 x y) k = bt x k + bt y k - bt x k * bt y k := by
  show bt (IntKind.i64.wrap ((BitVec.ofInt 64 x ||| BitVec.ofInt 64 y).toNat : Int)) k = _
  rw [bt_of_getLsbD _ k hk, BitVec.getLsbD_or, getLsbD_bt x k hk, getLsbD_bt y k hk]
  rcases bt_or x k with e | e <;> rcases bt_or y k with e' | e' <;> simp [e, e']
theorem bt_not (x : Int) (k : Nat) : bt (-x - 1) k = 1 - bt x k := by
  unfold bt
  rw [pw_nat]
  have hp0 : 0 < (2 ^ k : Nat) := Nat.pow_pos (by decide)
  have hp : 0 < ((2 ^ k : Nat) : Int) := by omega
  generalize ((2 ^ k : Nat) : Int) = p at *
  have h1 : (-x - 1) / p = - (x / p) - 1 := by
    have h2 := Int.emod_nonneg x (b := p) (by omega)
    have h3 := Int.emod_lt_of_pos x (b := p) hp
    have h4 := Int.mul_ediv_add_emod x p
    have h5 : (-(x / p) - 1) * p = -(p * (x / p)) - p := by rw [Int.sub_mul, Int.neg_mul, Int.mul_comm, Int.one_mul]
    rw [Int.ediv_eq_iff_of_pos hp, h5]
    omega
  rw [h1]
  omega

/-! ### Go's remainder -/
theorem tmod_neg (n p : Int) (hp : 0 < p) (h : n.tmod p < 0) : n.tmod p + p = n % p := by
  rw [Int.tmod_eq_emod] at *
  have h2 := Int.emod_nonneg n (b := p) (by omega)
  have h3 := Int.emod_lt_of_pos n (b := p) hp
  split at h <;> rename_i hc
  · omega
  · rw [if_neg hc]; omega
theorem tmod_nn (n p : Int) (hp : 0 < p) (h : 0 ≤ n.tmod p) : n.tmod p = n % p := by
  rw [Int.tmod_eq_emod] at *
  have h2 := Int.emod_nonneg n (b := p) (by omega)
  have h3 := Int.emod_lt_of_pos n (b := p) hp
  split at h <;> rename_i hc
  · rw [if_pos hc]; omega
  · omega
theorem tmod_fix (n p : Int) (hp : 0 < p) (hp' : p ≤ 4611686018427387904) (h : n.tmod p < 0) : wrap64 (n.tmod p + p) = n % p := by
  have h1 := tmod_neg n p hp h
  have h2 := Int.emod_nonneg n (b := p) (by omega)
  have h3 := Int.emod_lt_of_pos n (b := p) hp
  rw [h1]
  unfold wrap64
  omega
theorem mod_lt (n k : Int) : 0 ≤ n % pw k ∧ n % pw k < pw k := by
  have := pw_pos k
  exact ⟨Int.emod_nonneg n (by omega), Int.emod_lt_of_pos n (by omega)⟩

/-! ### valid words -/
def wvB (k x : Int) : Bool := decide (1 ≤ k ∧ k ≤ 12 ∧ 0 ≤ x ∧ x < pw k)
theorem wv_t {k x : Int} (h : wvB k x = true) : 1 ≤ k ∧ k ≤ 12 ∧ 0 ≤ x ∧ x < pw k := of_decide_eq_true h
theorem wv_f {k x : Int} (h : wvB k x = false) : ¬ (1 ≤ k ∧ k ≤ 12 ∧ 0 ≤ x ∧ x < pw k) := of_decide_eq_false h

/-- Both words are valid. -/
def v2 (k a b : Int) : Bool := wvB k a && wvB k b
theorem v2_t {k a b : Int} (h : v2 k a b = true) : 1 ≤ k ∧ k ≤ 12 ∧ 0 ≤ a ∧ a < pw k ∧ 0 ≤ b ∧ b < pw k := by
  unfold v2 at h
  rw [Bool.and_eq_true] at h
  obtain ⟨h0, h1, h2, h3⟩ := wv_t h.1
  obtain ⟨_, _, h4, h5⟩ := wv_t h.2
  exact ⟨h0, h1, h2, h3, h4, h5⟩
theorem v2_mk {k a b : Int} (ha : wvB k a = true) (hb : wvB k b = true) : v2 k a b = true := by unfold v2; rw [ha, hb]; rfl
theorem wv_mk {k x : Int} (h0 : 1 ≤ k) (h1 : k ≤ 12) (h2 : 0 ≤ x) (h3 : x < pw k) : wvB k x = true := decide_eq_true ⟨h0, h1, h2, h3⟩
theorem v2_l {k a b : Int} (h : v2 k a b = true) : wvB k a = true := by unfold v2 at h; rw [Bool.and_eq_true] at h; exact h.1
theorem v2_r {k a b : Int} (h : v2 k a b = true) : wvB k b = true := by unfold v2 at h; rw [Bool.and_eq_true] at h; exact h.2
/-- The word of a number. -/
def wmod (k n : Int) : Int := n % pw k
theorem wmod_lt (k n : Int) : 0 ≤ wmod k n ∧ wmod k n < pw k := mod_lt n k
theorem wmod_small {k n : Int} (h0 : 0 ≤ n) (h1 : n < pw k) : wmod k n = n := Int.emod_eq_of_lt h0 h1
theorem wmod_add {k n : Int} (h0 : -pw k ≤ n) (h1 : n < 0) : wmod k n = n + pw k := by
  unfold wmod
  rw [← Int.add_emod_right, Int.emod_eq_of_lt (by omega) (by omega)]
theorem wmod_sub {k n : Int} (h0 : pw k ≤ n) (h1 : n < 2 * pw k) : wmod k n = n - pw k := by
  unfold wmod
  rw [← Int.sub_emod_right, Int.emod_eq_of_lt (by omega) (by omega)]

end Pl
end Go.Proofs.YtamhpgledbmnoaaGreatDoor
namespace Go.Proofs.YtamhpgledbmnoaaGreatDoor
set_option linter.unusedVariables false
set_option linter.unusedSimpArgs false
open Go.RowKit
namespace Pl

def land (a b : Int) : Int := ((a.toNat &&& b.toNat : Nat) : Int)
def lor (a b : Int) : Int := ((a.toNat ||| b.toNat : Nat) : Int)
def lxor (a b : Int) : Int := ((a.toNat ^^^ b.toNat : Nat) : Int)

theorem ofInt_i64 (a : Nat) (ha : a < 9223372036854775808) : (BitVec.ofInt 64 (a : Int)).toNat = a := by
  rw [BitVec.ofInt_natCast, BitVec.toNat_ofNat]; exact Nat.mod_eq_of_lt (by omega)
theorem i64_and (a b : Int) (h0 : 0 ≤ a) (h1 : a < 9223372036854775808) (h2 : 0 ≤ b) (h3 : b < 9223372036854775808) : bits .and .i64 a b = land a b := by
  obtain ⟨a, rfl⟩ := Int.eq_ofNat_of_zero_le h0
  obtain ⟨b, rfl⟩ := Int.eq_ofNat_of_zero_le h2
  have hx : a &&& b < 2 ^ 63 := Nat.and_lt_two_pow _ (by omega)
  show IntKind.i64.wrap ((BitVec.ofInt 64 (a : Int) &&& BitVec.ofInt 64 (b : Int)).toNat : Int) = _
  rw [BitVec.toNat_and, ofInt_i64 a (by omega), ofInt_i64 b (by omega), IntKind.wrap_i64]
  unfold land; simp only [Int.toNat_natCast]; omega
theorem i64_or (a b : Int) (h0 : 0 ≤ a) (h1 : a < 9223372036854775808) (h2 : 0 ≤ b) (h3 : b < 9223372036854775808) : bits .or .i64 a b = lor a b := by
  obtain ⟨a, rfl⟩ := Int.eq_ofNat_of_zero_le h0
  obtain ⟨b, rfl⟩ := Int.eq_ofNat_of_zero_le h2
  have hx : a ||| b < 2 ^ 63 := Nat.or_lt_two_pow (by omega) (by omega)
  show IntKind.i64.wrap ((BitVec.ofInt 64 (a : Int) ||| BitVec.ofInt 64 (b : Int)).toNat : Int) = _
  rw [BitVec.toNat_or, ofInt_i64 a (by omega), ofInt_i64 b (by omega), IntKind.wrap_i64]
  unfold lor; simp only [Int.toNat_natCast]; omega
theorem i64_xor (a b : Int) (h0 : 0 ≤ a) (h1 : a < 9223372036854775808) (h2 : 0 ≤ b) (h3 : b < 9223372036854775808) : bits .xor .i64 a b = lxor a b := by
  obtain ⟨a, rfl⟩ := Int.eq_ofNat_of_zero_le h0
  obtain ⟨b, rfl⟩ := Int.eq_ofNat_of_zero_le h2
  have hx : a ^^^ b < 2 ^ 63 := Nat.xor_lt_two_pow (by omega) (by omega)
  show IntKind.i64.wrap ((BitVec.ofInt 64 (a : Int) ^^^ BitVec.ofInt 64 (b : Int)).toNat : Int) = _
  rw [BitVec.toNat_xor, ofInt_i64 a (by omega), ofInt_i64 b (by omega), IntKind.wrap_i64]
  unfold lxor; simp only [Int.toNat_natCast]; omega

/-! ### splits at a place -/
theorem nat_and_split (k a b c d : Nat) (ha : a < 2 ^ k) (hb : b < 2 ^ k) : (2 ^ k * c + a) &&& (2 ^ k * d + b) = 2 ^ k * (c &&& d) + (a &&& b) := by
  have hab : a &&& b < 2 ^ k := Nat.and_lt_two_pow _ hb
  apply Nat.eq_of_testBit_eq
  intro i
  rw [Nat.testBit_and, Nat.testBit_two_pow_mul_add _ ha, Nat.testBit_two_pow_mul_add _ hb, Nat.testBit_two_pow_mul_add _ hab]
  split <;> simp
theorem nat_or_split (k a b c d : Nat) (ha : a < 2 ^ k) (hb : b < 2 ^ k) : (2 ^ k * c + a) ||| (2 ^ k * d + b) = 2 ^ k * (c ||| d) + (a ||| b) := by
  have hab : a ||| b < 2 ^ k := Nat.or_lt_two_pow ha hb
  apply Nat.eq_of_testBit_eq
  intro i
  rw [Nat.testBit_or, Nat.testBit_two_pow_mul_add _ ha, Nat.testBit_two_pow_mul_add _ hb, Nat.testBit_two_pow_mul_add _ hab]
  split <;> simp
theorem nat_xor_split (k a b c d : Nat) (ha : a < 2 ^ k) (hb : b < 2 ^ k) : (2 ^ k * c + a) ^^^ (2 ^ k * d + b) = 2 ^ k * (c ^^^ d) + (a ^^^ b) := by
  have hab : a ^^^ b < 2 ^ k := Nat.xor_lt_two_pow ha hb
  apply Nat.eq_of_testBit_eq
  intro i
  rw [Nat.testBit_xor, Nat.testBit_two_pow_mul_add _ ha, Nat.testBit_two_pow_mul_add _ hb, Nat.testBit_two_pow_mul_add _ hab]
  split <;> simp
theorem nat_mod_succ (x k : Nat) : x % 2 ^ (k + 1) = 2 ^ k * (x / 2 ^ k % 2) + x % 2 ^ k := by
  rw [Nat.pow_succ, Nat.mod_mul]; omega
theorem nat_and_bits (a b : Nat) (ha : a < 2) (hb : b < 2) : a &&& b = a * b := by
  have h1 : a = 0 ∨ a = 1 := by omega
  have h2 : b = 0 ∨ b = 1 := by omega
  rcases h1 with rfl | rfl <;> rcases h2 with rfl | rfl <;> rfl
theorem nat_and_step (x y k : Nat) : (x % 2 ^ (k + 1)) &&& (y % 2 ^ (k + 1)) = (x % 2 ^ k &&& y % 2 ^ k) + 2 ^ k * ((x / 2 ^ k % 2) * (y / 2 ^ k % 2)) := by
  have hp : 0 < 2 ^ k := Nat.pow_pos (by decide)
  rw [nat_mod_succ, nat_mod_succ, nat_and_split _ _ _ _ _ (Nat.mod_lt _ hp) (Nat.mod_lt _ hp), nat_and_bits _ _ (by omega) (by omega)]; omega

theorem land_0 (a : Int) : land a 0 = 0 := by simp [land]
theorem zero_land (a : Int) : land 0 a = 0 := by simp [land]
theorem land_nonneg (a b : Int) : 0 ≤ land a b := by unfold land; omega
theorem lor_nonneg (a b : Int) : 0 ≤ lor a b := by unfold lor; omega
theorem lxor_nonneg (a b : Int) : 0 ≤ lxor a b := by unfold lxor; omega
theorem pw_natlt {a k : Int} (h0 : 0 ≤ a) (h : a < pw k) : a.toNat < 2 ^ k.toNat := by
  unfold pw at h
  have : ((2 ^ k.toNat : Nat) : Int) = 2 ^ k.toNat := by simp
  omega
theorem natlt_pw {a : Nat} {k : Int} (h : a < 2 ^ k.toNat) : (a : Int) < pw k := by
  unfold pw
  have : ((2 ^ k.toNat : Nat) : Int) = 2 ^ k.toNat := by simp
  omega
theorem land_lt {a b k : Int} (h2 : 0 ≤ b) (h3 : b < pw k) : land a b < pw k := natlt_pw (Nat.and_lt_two_pow _ (pw_natlt h2 h3))
theorem lor_lt {a b k : Int} (h0 : 0 ≤ a) (h1 : a < pw k) (h2 : 0 ≤ b) (h3 : b < pw k) : lor a b < pw k := natlt_pw (Nat.or_lt_two_pow (pw_natlt h0 h1) (pw_natlt h2 h3))
theorem lxor_lt {a b k : Int} (h0 : 0 ≤ a) (h1 : a < pw k) (h2 : 0 ≤ b) (h3 : b < pw k) : lxor a b < pw k := natlt_pw (Nat.xor_lt_two_pow (pw_natlt h0 h1) (pw_natlt h2 h3))
theorem land_le_l (a b : Int) (h0 : 0 ≤ a) : land a b ≤ a := by
  unfold land; have := Nat.and_le_left (n := a.toNat) (m := b.toNat); omega
theorem land_le_r (a b : Int) (h0 : 0 ≤ b) : land a b ≤ b := by
  unfold land; have := Nat.and_le_right (n := a.toNat) (m := b.toNat); omega

/-- a + b by their common bits. -/
theorem nat_xor_and (a b : Nat) : (a ^^^ b) + 2 * (a &&& b) = a + b := by
  induction a using Nat.strongRecOn generalizing b with
  | _ a ih =>
    by_cases h0 : a = 0
    · subst h0; simp
    · have h1 := ih (a / 2) (by omega) (b / 2)
      have ea : a = 2 ^ 1 * (a / 2) + a % 2 := by omega
      have eb : b = 2 ^ 1 * (b / 2) + b % 2 := by omega
      have h2 := nat_xor_split 1 (a % 2) (b % 2) (a / 2) (b / 2) (by omega) (by omega)
      have h3 := nat_and_split 1 (a % 2) (b % 2) (a / 2) (b / 2) (by omega) (by omega)
      rw [← ea, ← eb] at h2 h3
      have hx : a % 2 = 0 ∨ a % 2 = 1 := by omega
      have hy : b % 2 = 0 ∨ b % 2 = 1 := by omega
      rcases hx with hx | hx <;> rcases hy with hy | hy <;> simp only [hx, hy] at h2 h3 <;> simp at h2 h3 <;> omega
theorem nat_or_and (a b : Nat) : (a ||| b) + (a &&& b) = a + b := by
  induction a using Nat.strongRecOn generalizing b with
  | _ a ih =>
    by_cases h0 : a = 0
    · subst h0; simp
    · have h1 := ih (a / 2) (by omega) (b / 2)
      have ea : a = 2 ^ 1 * (a / 2) + a % 2 := by omega
      have eb : b = 2 ^ 1 * (b / 2) + b % 2 := by omega
      have h2 := nat_or_split 1 (a % 2) (b % 2) (a / 2) (b / 2) (by omega) (by omega)
      have h3 := nat_and_split 1 (a % 2) (b % 2) (a / 2) (b / 2) (by omega) (by omega)
      rw [← ea, ← eb] at h2 h3
      have hx : a % 2 = 0 ∨ a % 2 = 1 := by omega
      have hy : b % 2 = 0 ∨ b % 2 = 1 := by omega
      rcases hx with hx | hx <;> rcases hy with hy | hy <;> simp only [hx, hy] at h2 h3 <;> simp at h2 h3 <;> omega
theorem lxor_land (a b : Int) (h0 : 0 ≤ a) (h1 : 0 ≤ b) : lxor a b = a + b - 2 * land a b := by
  have := nat_xor_and a.toNat b.toNat
  unfold lxor land; omega
theorem lor_land (a b : Int) (h0 : 0 ≤ a) (h1 : 0 ≤ b) : lor a b = a + b - land a b := by
  have := nat_or_and a.toNat b.toNat
  unfold lor land; omega
theorem lxor_self_l (a b : Int) (h1 : 0 ≤ a) (h2 : 0 ≤ b) : lxor b (lxor a b) = a := by
  unfold lxor
  rw [Int.toNat_natCast, Nat.xor_comm a.toNat, ← Nat.xor_assoc, Nat.xor_self, Nat.zero_xor]
  omega
/-- 'and' with all bits. -/
theorem land_all (k a : Int) (h0 : 0 ≤ a) (h1 : a < pw k) : land (pw k - 1) a = a := by
  have h := pw_natlt h0 h1
  have e : (pw k - 1).toNat = 2 ^ k.toNat - 1 := by
    have hp : 0 < 2 ^ k.toNat := Nat.pow_pos (by decide)
    have : ((2 ^ k.toNat : Nat) : Int) = 2 ^ k.toNat := by simp
    unfold pw
    omega
  unfold land
  rw [e, Nat.and_comm, Nat.and_two_pow_sub_one_eq_mod, Nat.mod_eq_of_lt h]
  omega
theorem land_all' (k a : Int) (h0 : 0 ≤ a) (h1 : a < pw k) : land a (pw k - 1) = a := by
  have h := land_all k a h0 h1
  unfold land at *
  rwa [Nat.and_comm]
theorem land_self (a : Int) (h : 0 ≤ a) : land a a = a := by unfold land; rw [Nat.and_self]; omega
/-- xor with all bits is the negation. -/
theorem lxor_all (k a : Int) (h0 : 0 ≤ a) (h1 : a < pw k) : lxor a (pw k - 1) = pw k - 1 - a := by
  have hp := pw_pos k
  rw [lxor_land a _ h0 (by omega), land_all' k a h0 h1]; omega
theorem lxor_0 (a : Int) (h0 : 0 ≤ a) : lxor a 0 = a := by unfold lxor; simp; omega
theorem lor_all (k a : Int) (h0 : 0 ≤ a) (h1 : a < pw k) : lor a (pw k - 1) = pw k - 1 := by
  have hp := pw_pos k
  rw [lor_land a _ h0 (by omega), land_all' k a h0 h1]; omega
theorem lor_0 (a : Int) (h0 : 0 ≤ a) : lor a 0 = a := by unfold lor; simp; omega

/-- One round of the reference's 'and'. -/
theorem land_step (a b : Int) (k : Nat) (h0 : 0 ≤ a) (h1 : 0 ≤ b) :
    land (a % pw (k + 1)) (b % pw (k + 1)) = land (a % pw k) (b % pw k) + bt a k * bt b k * pw k := by
  obtain ⟨a, rfl⟩ := Int.eq_ofNat_of_zero_le h0
  obtain ⟨b, rfl⟩ := Int.eq_ofNat_of_zero_le h1
  have e1 : pw ((k : Int) + 1) = ((2 ^ (k + 1) : Nat) : Int) := pw_nat (k + 1)
  unfold bt land
  rw [e1, pw_nat k]
  have h := nat_and_step a b k
  simp only [← Int.natCast_emod, ← Int.natCast_ediv, Int.toNat_natCast]
  rw [h, Int.natCast_add, Int.natCast_mul, Int.natCast_mul, Int.mul_comm]
  rfl
theorem land_mod (a b : Int) (k : Int) (h0 : 0 ≤ a) (h1 : a < pw k) (h2 : 0 ≤ b) (h3 : b < pw k) : land (a % pw k) (b % pw k) = land a b := by
  rw [Int.emod_eq_of_lt h0 h1, Int.emod_eq_of_lt h2 h3]
theorem land_pw0 (a b : Int) : land (a % pw 0) (b % pw 0) = 0 := by
  show land (a % 1) (b % 1) = 0
  rw [Int.emod_one, Int.emod_one]; rfl

theorem wrap64_small (n : Int) (h : -9223372036854775808 ≤ n) (h' : n ≤ 9223372036854775807) : wrap64 n = n := by unfold wrap64; omega
theorem round_arith (x p u v : Int) (h0 : 0 ≤ x) (h1 : x ≤ 1073741824) (h2 : 0 ≤ p) (h3 : p ≤ 1073741824) (hu : u = 0 ∨ u = 1) (hv : v = 0 ∨ v = 1) :
    wrap64 (x + wrap64 (wrap64 (u * v) * p)) = x + u * v * p := by
  rcases hu with rfl | rfl <;> rcases hv with rfl | rfl <;>
    simp only [Int.zero_mul, Int.mul_zero, Int.one_mul, wrap64_small 0 (by omega) (by omega), wrap64_small 1 (by omega) (by omega), Int.add_zero] <;>
    first | exact wrap64_small _ (by omega) (by omega) | (rw [wrap64_small p (by omega) (by omega)]; exact wrap64_small _ (by omega) (by omega))
theorem and_round (a b : Int) (k : Nat) (hk : k < 30) (h0 : 0 ≤ a) (h1 : 0 ≤ b) :
    wrap64 (land (a % pw k) (b % pw k) + wrap64 (wrap64 (bt a k * bt b k) * 2 ^ k)) = land (a % pw (k + 1)) (b % pw (k + 1)) := by
  rw [land_step a b k h0 h1]
  have hm := mod_lt a k
  have hl := land_le_l (a % pw k) (b % pw k) hm.1
  have hl0 := land_nonneg (a % pw k) (b % pw k)
  have hp : pw k ≤ 1073741824 := by
    have h30 : pw 30 = 1073741824 := by decide
    have := pw_le k 30 (by omega)
    omega
  have hp0 := pw_pos k
  have e : (2 : Int) ^ k = pw k := by rw [pw_nat]; simp
  rw [e]
  exact round_arith _ _ _ _ hl0 (by omega) (by omega) hp (bt_or a k) (bt_or b k)

/-- Unary '^'. -/
theorem xor_neg1 (x : Int) (h : -9223372036854775808 ≤ x) (h' : x ≤ 9223372036854775807) : bits .xor .i64 x (-1) = -x - 1 := by
  show IntKind.i64.wrap ((BitVec.ofInt 64 x ^^^ BitVec.ofInt 64 (-1)).toNat : Int) = _
  have e : BitVec.ofInt 64 (-1) = BitVec.allOnes 64 := by decide
  rw [e, BitVec.xor_allOnes, BitVec.toNat_not, IntKind.wrap_i64]
  have h2 := ofInt_toNat64 x
  omega
theorem xor_zero (x : Int) (h : -9223372036854775808 ≤ x) (h' : x ≤ 9223372036854775807) : bits .xor .i64 x 0 = x := by
  show IntKind.i64.wrap ((BitVec.ofInt 64 x ^^^ BitVec.ofInt 64 0).toNat : Int) = _
  have e : BitVec.ofInt 64 0 = 0#64 := by decide
  rw [e, BitVec.xor_zero, IntKind.wrap_i64]
  have h2 := ofInt_toNat64 x
  omega

theorem neg1_xor (x : Int) (h : -9223372036854775808 ≤ x) (h' : x ≤ 9223372036854775807) : bits .xor .i64 (-1) x = -x - 1 := by
  rw [← xor_neg1 x h h']
  show IntKind.i64.wrap ((BitVec.ofInt 64 (-1) ^^^ BitVec.ofInt 64 x).toNat : Int) = IntKind.i64.wrap ((BitVec.ofInt 64 x ^^^ BitVec.ofInt 64 (-1)).toNat : Int)
  rw [BitVec.xor_comm]

end Pl
end Go.Proofs.YtamhpgledbmnoaaGreatDoor
namespace Go.Proofs.YtamhpgledbmnoaaGreatDoor
set_option linter.unusedVariables false
set_option linter.unusedSimpArgs false
open Go.RowKit
namespace Pl
def fullAdd (k a b : Int) : Int := if v2 k a b = true then min (a + b) (pw k - 1) else -1
def emptySub (k a b : Int) : Int := if v2 k a b = true then max (a - b) 0 else -1
def distanceOf (k a b : Int) : Int := if v2 k a b = true then max a b - min a b else -1
def leastOf (k a b : Int) : Int := if v2 k a b = true then min a b else -1
def meanDown (k a b : Int) : Int := if v2 k a b = true then (a + b) / 2 else -1
def meanUp (k a b : Int) : Int := if v2 k a b = true then (a + b + 1) / 2 else -1
def lessBit (k a b : Int) : Int := if v2 k a b = true then (if a < b then 1 else 0) else -1
def wordAdd (k a b : Int) : Int := if v2 k a b = true then wmod k (a + b) else -1
def wordSub (k a b : Int) : Int := if v2 k a b = true then wmod k (a - b) else -1
def wordAnd (k a b : Int) : Int := if v2 k a b = true then land a b else -1
def wordOr (k a b : Int) : Int := if v2 k a b = true then lor a b else -1
def wordXor (k a b : Int) : Int := if v2 k a b = true then lxor a b else -1
def wordNot (k x : Int) : Int := if wvB k x = true then pw k - 1 - x else -1
def signlessOf (k x : Int) : Int := if wvB k x = true then (if bt x (k - 1) = 1 then pw k - x else x) else -1
def signedOf (k x : Int) : Int := if wvB k x = true then x - bt x (k - 1) * pw k else 0
def isW (k : Int) : Bool := decide (1 ≤ k ∧ k ≤ 12)
def isB (b : Int) : Bool := decide (b = 0 ∨ b = 1)
theorem isW_t {k : Int} (h : isW k = true) : 1 ≤ k ∧ k ≤ 12 := of_decide_eq_true h
theorem isB_t {k : Int} (h : isB k = true) : k = 0 ∨ k = 1 := of_decide_eq_true h
theorem isW_f {k : Int} (h : isW k = false) : ¬ (1 ≤ k ∧ k ≤ 12) := of_decide_eq_false h
theorem isB_f {k : Int} (h : isB k = false) : ¬ (k = 0 ∨ k = 1) := of_decide_eq_false h
def maskOf (k b : Int) : Int := if isW k = true ∧ isB b = true then b * (pw k - 1) else -1
def choose (k c a b : Int) : Int := if isB c = true ∧ v2 k a b = true then (if c = 1 then a else b) else -1

/-- The borrow out of the highest bit, by bits. -/
theorem less_law (k a b : Int) (h : v2 k a b = true) :
    bt (bits .or .i64 (bits .and .i64 (-a - 1) b) (bits .and .i64 (bits .or .i64 (-a - 1) b) (a - b))) (k - 1) = if a < b then 1 else 0 := by
  obtain ⟨h0, h1, h2, h3, h4, h5⟩ := v2_t h
  obtain ⟨n, hn⟩ := Int.eq_ofNat_of_zero_le (show 0 ≤ k - 1 by omega)
  have hk : n < 64 := by omega
  have hkk : k = (n : Int) + 1 := by omega
  rw [hn, bt_orb _ _ n hk, bt_and _ _ n hk, bt_and _ _ n hk, bt_orb _ _ n hk, bt_not]
  rw [hkk, pw_succ _ (by omega)] at h3 h5
  have hp := pw_pos (n : Int)
  have hsub : bt (a - b) n = if a < b then (if b - a ≤ pw n then 1 else 0) else (if pw n ≤ a - b then 1 else 0) := by
    unfold bt
    by_cases hab : a < b
    · rw [if_pos hab]
      split
      · rw [show (a - b) / pw n = -1 by rw [Int.ediv_eq_iff_of_pos (by omega)]; omega]; rfl
      · rw [show (a - b) / pw n = -2 by rw [Int.ediv_eq_iff_of_pos (by omega)]; omega]; rfl
    · rw [if_neg hab]
      split
      · rw [show (a - b) / pw n = 1 by rw [Int.ediv_eq_iff_of_pos (by omega)]; omega]; rfl
      · rw [show (a - b) / pw n = 0 by rw [Int.ediv_eq_iff_of_pos (by omega)]; omega]; rfl
  have hone : ∀ x : Int, 0 ≤ x → x < 2 * pw n → bt x n = if pw n ≤ x then 1 else 0 := by
    intro x hx0 hx1
    unfold bt
    split
    · rw [show x / pw n = 1 by rw [Int.ediv_eq_iff_of_pos (by omega)]; omega]; rfl
    · rw [show x / pw n = 0 by rw [Int.ediv_eq_iff_of_pos (by omega)]; omega]; rfl
  rw [hsub, hone a h2 h3, hone b h4 h5]
  by_cases c1 : pw n ≤ a <;> by_cases c2 : pw n ≤ b <;> by_cases c3 : a < b <;> by_cases c4 : b - a ≤ pw n <;> by_cases c5 : pw n ≤ a - b <;>
    simp only [c1, c2, c3, c4, c5, if_true, if_false] <;> omega
theorem bt_top (k x : Int) (h : wvB k x = true) : bt x (k - 1) = if pw (k - 1) ≤ x then 1 else 0 := by
  obtain ⟨h0, h1, h2, h3⟩ := wv_t h
  rw [show k = (k - 1) + 1 by omega, pw_succ _ (by omega)] at h3
  have hp := pw_pos (k - 1)
  unfold bt
  split
  · rw [show x / pw (k - 1) = 1 by rw [Int.ediv_eq_iff_of_pos (by omega)]; omega]; rfl
  · rw [show x / pw (k - 1) = 0 by rw [Int.ediv_eq_iff_of_pos (by omega)]; omega]; rfl
theorem pw_half (k : Int) (h : 1 ≤ k) : pw k = 2 * pw (k - 1) := by
  have := pw_succ (k - 1) (by omega)
  rwa [show k - 1 + 1 = k by omega] at this
theorem less_end (k a b : Int) (h : v2 k a b = true) :
    wmod k (bt (bits .or .i64 (bits .and .i64 (bits .xor .i64 (-1) a) b) (bits .and .i64 (bits .or .i64 (bits .xor .i64 (-1) a) b) (a - b))) (k - 1)) = if a < b then 1 else 0 := by
  obtain ⟨h0, h1, h2, h3, h4, h5⟩ := v2_t h
  have hp := pw_lt k h1
  have hp1 := pw_half k h0
  have hp2 := pw_pos (k - 1)
  rw [neg1_xor a (by omega) (by omega), less_law k a b h]
  split <;> exact wmod_small (by omega) (by omega)
theorem not_end (k x : Int) (h : wvB k x = true) : wmod k (bits .xor .i64 (-1) x) = wordNot k x := by
  obtain ⟨h0, h1, h2, h3⟩ := wv_t h
  have hp := pw_lt k h1
  unfold wordNot
  rw [neg1_xor x (by omega) (by omega), if_pos h, wmod_add (by omega) (by omega)]; omega
theorem signless_end (k x : Int) (h : wvB k x = true) : wmod k (bits .xor .i64 (x + -bt x (k - 1)) (-bt x (k - 1))) = signlessOf k x := by
  obtain ⟨h0, h1, h2, h3⟩ := wv_t h
  have hp := pw_lt k h1
  have ht := bt_top k x h
  have hp2 := pw_pos (k - 1)
  unfold signlessOf
  rw [if_pos h]
  rcases bt_or x (k - 1) with e | e <;> rw [e] at ht ⊢
  · rw [if_neg (by decide), show (-0 : Int) = 0 from rfl, xor_zero _ (by omega) (by omega), Int.add_zero]
    exact wmod_small (by omega) (by omega)
  · have hx : pw (k - 1) ≤ x := by
      rcases Int.lt_or_le x (pw (k - 1)) with hc | hc
      · rw [if_neg (by omega)] at ht; omega
      · exact hc
    rw [if_pos rfl, xor_neg1 _ (by omega) (by omega), wmod_add (by omega) (by omega)]; omega
theorem signed_end (k x : Int) (h : wvB k x = true) : wrap64 (x - wrap64 (bt x (k - 1) * pw k)) = signedOf k x := by
  obtain ⟨h0, h1, h2, h3⟩ := wv_t h
  have hp := pw_lt k h1
  have hp0 := pw_pos k
  unfold signedOf
  rw [if_pos h]
  rcases bt_or x (k - 1) with e | e <;> rw [e]
  · rw [Int.zero_mul, wrap64_small 0 (by omega) (by omega), wrap64_small _ (by omega) (by omega)]
  · rw [Int.one_mul, wrap64_small (pw k) (by omega) (by omega), wrap64_small _ (by omega) (by omega)]
theorem and_end (k a b : Int) (h : v2 k a b = true) : wmod k (bits .and .i64 a b) = land a b := by
  obtain ⟨h0, h1, h2, h3, h4, h5⟩ := v2_t h
  have hp := pw_lt k h1
  rw [i64_and a b h2 (by omega) h4 (by omega)]
  exact wmod_small (land_nonneg a b) (land_lt h4 h5)
theorem or_end (k a b : Int) (h : v2 k a b = true) : wmod k (bits .or .i64 a b) = lor a b := by
  obtain ⟨h0, h1, h2, h3, h4, h5⟩ := v2_t h
  have hp := pw_lt k h1
  rw [i64_or a b h2 (by omega) h4 (by omega)]
  exact wmod_small (lor_nonneg a b) (lor_lt h2 h3 h4 h5)
theorem xor_end (k a b : Int) (h : v2 k a b = true) : wmod k (bits .xor .i64 a b) = lxor a b := by
  obtain ⟨h0, h1, h2, h3, h4, h5⟩ := v2_t h
  have hp := pw_lt k h1
  rw [i64_xor a b h2 (by omega) h4 (by omega)]
  exact wmod_small (lxor_nonneg a b) (lxor_lt h2 h3 h4 h5)
theorem maskOf_t {k c : Int} (h0 : 1 ≤ k) (h1 : k ≤ 12) (hc : c = 0 ∨ c = 1) : maskOf k c = c * (pw k - 1) := by
  unfold maskOf; rw [if_pos ⟨decide_eq_true ⟨h0, h1⟩, decide_eq_true hc⟩]
theorem maskOf_f {k c : Int} (h : ¬ ((1 ≤ k ∧ k ≤ 12) ∧ (c = 0 ∨ c = 1))) : maskOf k c = -1 := by
  unfold maskOf; rw [if_neg (fun x => h ⟨of_decide_eq_true x.1, of_decide_eq_true x.2⟩)]
theorem wmod_0 (k : Int) : wmod k 0 = 0 := by have := pw_pos k; exact wmod_small (by omega) (by omega)
theorem wmod_m1 (k : Int) : wmod k (-1) = pw k - 1 := by
  have := pw_pos k
  rw [wmod_add (by omega) (by omega)]; omega
theorem choose_0 {k a b : Int} (h : v2 k a b = true) : choose k 0 a b = b := by simp [choose, h, isB]
theorem choose_1 {k a b : Int} (h : v2 k a b = true) : choose k 1 a b = a := by simp [choose, h, isB]
theorem choose_f {k c a b : Int} (h : ¬ ((c = 0 ∨ c = 1) ∧ v2 k a b = true)) : choose k c a b = -1 := by
  unfold choose; rw [if_neg (fun x => h ⟨of_decide_eq_true x.1, x.2⟩)]
theorem choose_less (k a b : Int) : choose k (lessBit k a b) a b = leastOf k a b := by
  cases hv : v2 k a b
  · rw [choose_f (by simp [hv])]; simp [leastOf, hv]
  · have e : leastOf k a b = min a b := by simp [leastOf, hv]
    have e2 : lessBit k a b = if a < b then 1 else 0 := by simp [lessBit, hv]
    rw [e, e2]
    split
    · rw [choose_1 hv]; omega
    · rw [choose_0 hv]; omega
/-- The bits of words by remainders: the reference's borrow. -/
theorem bt_land (a b : Int) (k : Nat) (h0 : 0 ≤ a) (h1 : a < 4096) (h2 : 0 ≤ b) (h3 : b < 4096) (hk : k < 64) : bt (land a b) k = bt a k * bt b k := by
  rw [← i64_and a b h0 (by omega) h2 (by omega), bt_and a b k hk]
theorem bt_lor (a b : Int) (k : Nat) (h0 : 0 ≤ a) (h1 : a < 4096) (h2 : 0 ≤ b) (h3 : b < 4096) (hk : k < 64) : bt (lor a b) k = bt a k + bt b k - bt a k * bt b k := by
  rw [← i64_or a b h0 (by omega) h2 (by omega), bt_orb a b k hk]
theorem bt_wmod (n : Int) (k : Nat) (j : Int) (hj : (k : Int) < j) : bt (wmod j n) k = bt n k := by
  obtain ⟨m, hm⟩ := Int.eq_ofNat_of_zero_le (show 0 ≤ j - k - 1 by omega)
  have e : pw j = pw k * (2 * pw m) := by
    rw [show j = (k : Int) + (m + 1) by omega, pw_add _ _ (by omega) (by omega), pw_succ _ (by omega)]
  have hp := pw_pos (k : Int)
  unfold bt wmod
  have h := Int.mul_ediv_add_emod n (pw j)
  have e2 : n % pw j = n + pw k * (2 * pw m * (-(n / pw j))) := by
    have h2 : pw k * (2 * pw m * (-(n / pw j))) = - (pw j * (n / pw j)) := by rw [← Int.mul_assoc, ← e, Int.mul_neg]
    rw [h2]; omega
  rw [e2, Int.add_mul_ediv_left _ _ (by omega), Int.mul_assoc, Int.add_mul_emod_self_left]
theorem less_spec (k a b : Int) (h : v2 k a b = true) :
    bt (lor (land (pw k - 1 - a) b) (land (lor (pw k - 1 - a) b) (wmod k (a - b)))) (k - 1) = lessBit k a b := by
  obtain ⟨h0, h1, h2, h3, h4, h5⟩ := v2_t h
  have hp := pw_lt k h1
  have hp0 := pw_pos k
  have e0 : lessBit k a b = if a < b then 1 else 0 := by simp [lessBit, h]
  rw [e0, ← less_law k a b h]
  obtain ⟨n, hn⟩ := Int.eq_ofNat_of_zero_le (show 0 ≤ k - 1 by omega)
  have hk : n < 64 := by omega
  have hm := wmod_lt k (a - b)
  have b1 := land_nonneg (pw k - 1 - a) b
  have b2 := land_lt (a := pw k - 1 - a) h4 h5
  have b3 := lor_nonneg (pw k - 1 - a) b
  have b4 := lor_lt (a := pw k - 1 - a) (b := b) (k := k) (by omega) (by omega) h4 h5
  have b5 := land_nonneg (lor (pw k - 1 - a) b) (wmod k (a - b))
  have b6 := land_lt (a := lor (pw k - 1 - a) b) hm.1 hm.2
  have hna : bt (pw k - 1 - a) n = bt (-a - 1) n := by
    have e : pw k - 1 - a = wmod k (-a - 1) := by rw [wmod_add (by omega) (by omega)]; omega
    rw [e, bt_wmod _ n k (by omega)]
  rw [hn, bt_lor _ _ n b1 (by omega) b5 (by omega) hk, bt_land _ _ n (by omega) (by omega) h4 (by omega) hk, bt_land _ _ n b3 (by omega) hm.1 (by omega) hk,
    bt_lor _ _ n (by omega) (by omega) h4 (by omega) hk, hna, bt_wmod _ n k (by omega), bt_orb _ _ n hk, bt_and _ _ n hk, bt_and _ _ n hk, bt_orb _ _ n hk]
theorem lessBit_t {k a b : Int} (h : v2 k a b = true) : lessBit k a b = if a < b then 1 else 0 := by simp [lessBit, h]
theorem mask_less {k a b : Int} (h : v2 k a b = true) : maskOf k (lessBit k a b) = if a < b then pw k - 1 else 0 := by
  obtain ⟨h0, h1, _⟩ := v2_t h
  rw [lessBit_t h]
  split
  · rw [maskOf_t h0 h1 (.inr rfl), Int.one_mul]
  · rw [maskOf_t h0 h1 (.inl rfl), Int.zero_mul]
theorem mask_lt {k a b : Int} (h : v2 k a b = true) : 0 ≤ maskOf k (lessBit k a b) ∧ maskOf k (lessBit k a b) < pw k := by
  have hp := pw_pos k
  rw [mask_less h]
  split <;> omega
theorem distance_spec (k a b : Int) (h : v2 k a b = true) : wmod k (lxor (wmod k (a - b)) (maskOf k (lessBit k a b)) - maskOf k (lessBit k a b)) = distanceOf k a b := by
  obtain ⟨h0, h1, h2, h3, h4, h5⟩ := v2_t h
  have hp := pw_pos k
  have e : distanceOf k a b = max a b - min a b := by simp [distanceOf, h]
  rw [mask_less h, e]
  split
  · rw [wmod_add (n := a - b) (by omega) (by omega), lxor_all k _ (by omega) (by omega), show pw k - 1 - (a - b + pw k) - (pw k - 1) = b - a - pw k by omega, wmod_add (by omega) (by omega)]; omega
  · rw [wmod_small (n := a - b) (by omega) (by omega), lxor_0 _ (by omega), Int.sub_zero, wmod_small (by omega) (by omega)]; omega
theorem full_spec (k a b : Int) (h : v2 k a b = true) : lor (wmod k (a + b)) (maskOf k (lessBit k (wmod k (a + b)) a)) = fullAdd k a b := by
  obtain ⟨h0, h1, h2, h3, h4, h5⟩ := v2_t h
  have hp := pw_pos k
  have hm := wmod_lt k (a + b)
  have hv2 := v2_mk (wv_mk h0 h1 hm.1 hm.2) (v2_l h)
  have e : fullAdd k a b = min (a + b) (pw k - 1) := by simp [fullAdd, h]
  rw [mask_less hv2, e]
  by_cases hc : a + b < pw k
  · rw [wmod_small (by omega) hc, if_neg (by omega), lor_0 _ (by omega)]; omega
  · rw [wmod_sub (by omega) (by omega), if_pos (by omega), lor_all k _ (by omega) (by omega)]; omega
theorem empty_spec (k a b : Int) (h : v2 k a b = true) : land (wmod k (a - b)) (pw k - 1 - maskOf k (lessBit k a b)) = emptySub k a b := by
  obtain ⟨h0, h1, h2, h3, h4, h5⟩ := v2_t h
  have hp := pw_pos k
  have e : emptySub k a b = max (a - b) 0 := by simp [emptySub, h]
  rw [mask_less h, e]
  split
  · rw [Int.sub_self, land_0]; omega
  · rw [wmod_small (by omega) (by omega), Int.sub_zero, land_all' k _ (by omega) (by omega)]; omega
theorem mask_bit {k x : Int} (h : wvB k x = true) : 0 ≤ maskOf k (bt x (k - 1)) ∧ maskOf k (bt x (k - 1)) < pw k := by
  obtain ⟨h0, h1, h2, h3⟩ := wv_t h
  have hp := pw_pos k
  rcases bt_or x (k - 1) with e | e <;> rw [e]
  · rw [maskOf_t h0 h1 (.inl rfl), Int.zero_mul]; omega
  · rw [maskOf_t h0 h1 (.inr rfl), Int.one_mul]; omega
theorem signless_spec (k x : Int) (h : wvB k x = true) : lxor (wmod k (x + maskOf k (bt x (k - 1)))) (maskOf k (bt x (k - 1))) = signlessOf k x := by
  obtain ⟨h0, h1, h2, h3⟩ := wv_t h
  have hp := pw_pos k
  have hp2 := pw_pos (k - 1)
  have ht := bt_top k x h
  unfold signlessOf
  rw [if_pos h]
  rcases bt_or x (k - 1) with e | e <;> rw [e] at ht ⊢
  · rw [maskOf_t h0 h1 (.inl rfl), Int.zero_mul, Int.add_zero, wmod_small h2 h3, lxor_0 _ h2, if_neg (by decide)]
  · have hx : pw (k - 1) ≤ x := by
      rcases Int.lt_or_le x (pw (k - 1)) with hc | hc
      · rw [if_neg (by omega)] at ht; omega
      · exact hc
    rw [maskOf_t h0 h1 (.inr rfl), Int.one_mul, wmod_sub (by omega) (by omega), lxor_all k _ (by omega) (by omega), if_pos rfl]; omega
theorem full_t {k a b : Int} (h : v2 k a b = true) : fullAdd k a b = min (a + b) (pw k - 1) := by simp [fullAdd, h]
theorem full_word {k a b : Int} (h : v2 k a b = true) : wvB k (fullAdd k a b) = true := by
  obtain ⟨h0, h1, h2, h3, h4, h5⟩ := v2_t h
  have hp := pw_pos k
  rw [full_t h]
  exact wv_mk h0 h1 (by omega) (by omega)
theorem full_assoc (k a b c : Int) (h : v2 k a b = true) (hc : wvB k c = true) : fullAdd k (fullAdd k a b) c = fullAdd k a (fullAdd k b c) := by
  obtain ⟨h0, h1, h2, h3, h4, h5⟩ := v2_t h
  obtain ⟨_, _, h6, h7⟩ := wv_t hc
  rw [full_t (v2_mk (full_word h) hc), full_t (v2_mk (v2_l h) (full_word (v2_mk (v2_r h) hc))), full_t h, full_t (v2_mk (v2_r h) hc)]
  omega
theorem dist_eq (k a b : Int) (h : v2 k a b = true) : distanceOf k a b = max a b - min a b := by simp [distanceOf, h]
theorem dist_bd (k a b : Int) (h : v2 k a b = true) : 0 ≤ distanceOf k a b ∧ distanceOf k a b < pw k := by
  obtain ⟨h0, h1, h2, h3, h4, h5⟩ := v2_t h
  rw [dist_eq k a b h]; omega
theorem dist_tri (k a b c : Int) (h : v2 k a b = true) (hc : wvB k c = true) : distanceOf k a b ≤ distanceOf k a c + distanceOf k c b := by
  rw [dist_eq k a b h, dist_eq k a c (v2_mk (v2_l h) hc), dist_eq k c b (v2_mk hc (v2_r h))]; omega
end Pl
end Go.Proofs.YtamhpgledbmnoaaGreatDoor
namespace Go.Proofs.YtamhpgledbmnoaaGreatDoor
set_option linter.unusedVariables false
set_option linter.unusedSimpArgs false
open Go.RowKit
namespace Pl
/-- A width has lanes of so many bits. -/
def lv (k l : Int) : Bool := decide ((1 ≤ k ∧ k ≤ 12) ∧ 1 ≤ l ∧ k % l = 0)
theorem lv_t {k l : Int} (h : lv k l = true) : 1 ≤ k ∧ k ≤ 12 ∧ 1 ≤ l ∧ l ≤ k ∧ k = k / l * l := by
  obtain ⟨⟨h0, h1⟩, h2, h3⟩ := of_decide_eq_true h
  have h4 := Int.mul_ediv_add_emod k l
  rw [h3, Int.mul_comm] at h4
  have h5 : l ≤ k := Int.le_of_dvd (by omega) (Int.dvd_of_emod_eq_zero h3)
  exact ⟨h0, h1, h2, h5, by omega⟩
theorem lv_f {k l : Int} (h : lv k l = false) : ¬ ((1 ≤ k ∧ k ≤ 12) ∧ 1 ≤ l ∧ k % l = 0) := of_decide_eq_false h
/-- The i-th lane. -/
def lane (l x : Int) (i : Nat) : Int := wmod l (x / pw (i * l))
def lanes (l x : Int) (m : Nat) : List Int := (List.range m).map (lane l x)
theorem lanes_succ (l x : Int) (m : Nat) : lanes l x (m + 1) = lanes l x m ++ [lane l x m] := by simp [lanes, List.range_succ]
theorem lanes_len (l x : Int) (m : Nat) : (lanes l x m).length = m := by simp [lanes]
theorem lanes_get (l x : Int) (m i : Nat) (h : i < m) : (lanes l x m)[i]? = some (lane l x i) := by simp [lanes, h]
/-- How many lanes. -/
def many (k l : Int) : Nat := (k / l).toNat
theorem many_eq {k l : Int} (h : lv k l = true) : (many k l : Int) * l = k := by
  obtain ⟨h0, h1, h2, h3, h4⟩ := lv_t h
  unfold many
  rw [Int.toNat_of_nonneg (Int.ediv_nonneg (by omega) (by omega))]; omega
def lanesOf (k l x : Int) : List Int := if lv k l = true ∧ wvB k x = true then lanes l x (many k l) else []
theorem many_pos {k l : Int} (h : lv k l = true) : 1 ≤ many k l ∧ many k l ≤ 12 := by
  obtain ⟨h0, h1, h2, h3, h4⟩ := lv_t h
  have hm := many_eq h
  constructor
  · rcases Nat.eq_zero_or_pos (many k l) with h | h
    · rw [h] at hm; simp at hm; omega
    · exact h
  · have : (many k l : Int) * 1 ≤ (many k l : Int) * l := Int.mul_le_mul_of_nonneg_left h2 (by omega)
    omega
/-- Where the loop over lanes stands. -/
theorem at_lt {k l : Int} {i : Nat} (h : lv k l = true) : (i : Int) * l < k ↔ i < many k l := by
  obtain ⟨h0, h1, h2, h3, h4⟩ := lv_t h
  have hm := many_eq h
  generalize many k l = m at *
  constructor
  · intro hx
    rw [← hm] at hx
    have := Int.lt_of_mul_lt_mul_right hx (by omega)
    omega
  · intro hx
    rw [← hm]
    exact Int.mul_lt_mul_of_pos_right (by omega) (by omega)
theorem at_succ (l : Int) (i : Nat) : ((i + 1 : Nat) : Int) * l = i * l + l := by rw [Int.natCast_add, Int.add_mul]; simp
theorem at_bd {k l : Int} {i : Nat} (h : lv k l = true) (hi : i ≤ many k l) : 0 ≤ (i : Int) * l ∧ (i : Int) * l ≤ k := by
  obtain ⟨h0, h1, h2, h3, h4⟩ := lv_t h
  have hm := many_eq h
  generalize many k l = m at *
  constructor
  · exact Int.mul_nonneg (by omega) (by omega)
  · rw [← hm]; exact Int.mul_le_mul_of_nonneg_right (by omega) (by omega)
theorem lane_at (l x t : Int) (j : Nat) (h : t = j * l) : wmod l (x / 2 ^ t.toNat) = lane l x j := by unfold lane pw; rw [h]
theorem lv_rest {k l : Int} (h0 : 1 ≤ k) (h1 : k ≤ 12) (h2 : 1 ≤ l) : lv k l = (k % l == 0) := by
  unfold lv
  rw [Bool.eq_iff_iff]; simp; omega
theorem lv_no {k l : Int} (h : ¬ (1 ≤ k ∧ k ≤ 12 ∧ 1 ≤ l ∧ l ≤ k)) : lv k l = false := by
  cases e : lv k l
  · rfl
  · obtain ⟨h0, h1, h2, h3, _⟩ := lv_t e
    exact absurd ⟨h0, h1, h2, h3⟩ h
theorem lanesOf_t {k l x : Int} (h : lv k l = true) (h' : wvB k x = true) : lanesOf k l x = lanes l x (many k l) := by unfold lanesOf; rw [if_pos ⟨h, h'⟩]
theorem lanesOf_f {k l x : Int} (h : ¬ (lv k l = true ∧ wvB k x = true)) : lanesOf k l x = [] := by unfold lanesOf; rw [if_neg h]
theorem wrapK_pw (n : Int) (h0 : 0 ≤ n) (h : n ≤ 62) : IntKind.i64.wrap (2 ^ n.toNat) = pw n := by
  have e := shl1 n h0 h
  rwa [show min n.toNat 64 = n.toNat by omega] at e
theorem tmod_wmod (l n : Int) (h : 0 ≤ n) : n.tmod (pw l) = wmod l n := Int.tmod_eq_emod_of_nonneg h
end Pl
end Go.Proofs.YtamhpgledbmnoaaGreatDoor
namespace Go.Proofs.YtamhpgledbmnoaaGreatDoor
set_option linter.unusedVariables false
set_option linter.unusedSimpArgs false
open Go.RowKit
namespace Pl
/-- How many a step takes from the stack. -/
def takes (s : Int) : Int := if 15 ≤ s then 2 else if 12 ≤ s then 1 else 0
theorem takes_bd (s : Int) : 0 ≤ takes s ∧ takes s ≤ 2 := by
  unfold takes
  repeat' split
  all_goals omega
theorem takes_2 {s : Int} (h : 15 ≤ s) : takes s = 2 := by unfold takes; rw [if_pos h]
theorem takes_1 {s : Int} (h : 12 ≤ s) (h' : s < 15) : takes s = 1 := by unfold takes; rw [if_neg (by omega), if_pos h]
theorem takes_0 {s : Int} (h : s < 12) : takes s = 0 := by unfold takes; rw [if_neg (by omega), if_neg (by omega)]
/-- The depth of the stack behind some steps; none where a step fails. -/
def scan : List Int → Int → Option Int
  | [], d => some d
  | s :: t, d => if (0 ≤ s ∧ s ≤ 19) ∧ takes s ≤ d then scan t (d + 1 - takes s) else none
def exprValid (e : List Int) : Bool := decide (1 ≤ e.length ∧ e.length ≤ 24 ∧ scan e 0 = some 1)
theorem scan_append : ∀ (a b : List Int) (d : Int), scan (a ++ b) d = (scan a d).bind (scan b)
  | [], b, d => by simp [scan]
  | s :: t, b, d => by
    show scan (s :: (t ++ b)) d = _
    unfold scan
    split
    · exact scan_append t b _
    · rfl
theorem drop_cons {e : List Int} {j : Nat} {s : Int} (h : e[j]? = some s) : e.drop j = s :: e.drop (j + 1) := by
  obtain ⟨hj, he⟩ := List.getElem?_eq_some_iff.1 h
  rw [List.drop_eq_getElem_cons hj, he]
theorem take_snoc {e : List Int} {j : Nat} {s : Int} (h : e[j]? = some s) : e.take (j + 1) = e.take j ++ [s] := by
  rw [List.take_add_one, h]; rfl
/-- One more step of a scan that goes on from the front. -/
theorem scan_snoc {e : List Int} {j : Nat} {s d : Int} (h : e[j]? = some s) (hd : scan (e.take j) 0 = some d) (h0 : 0 ≤ s) (h1 : s ≤ 19) (ht : takes s ≤ d) :
    scan (e.take (j + 1)) 0 = some (d + 1 - takes s) := by
  rw [take_snoc h, scan_append, hd]
  show scan [s] d = _
  unfold scan
  rw [if_pos ⟨⟨h0, h1⟩, ht⟩]; rfl
theorem scan_split {e : List Int} {j : Nat} {d : Int} (hd : scan (e.take j) 0 = some d) : scan e 0 = scan (e.drop j) d := by
  have h := scan_append (e.take j) (e.drop j) 0
  rw [List.take_append_drop, hd] at h
  exact h
theorem scan_bad {e : List Int} {j : Nat} {s d : Int} (h : e[j]? = some s) (hd : scan (e.take j) 0 = some d) (hn : ¬ ((0 ≤ s ∧ s ≤ 19) ∧ takes s ≤ d)) : scan e 0 = none := by
  rw [scan_split hd, drop_cons h]
  unfold scan
  rw [if_neg hn]
theorem scan_nonneg : ∀ (e : List Int) (d r : Int), 0 ≤ d → scan e d = some r → 0 ≤ r ∧ r ≤ d + e.length
  | [], d, r, h, hr => by simp [scan] at hr; simp; omega
  | s :: t, d, r, h, hr => by
    unfold scan at hr
    split at hr
    · rename_i hc
      have hb := takes_bd s
      have := scan_nonneg t _ r (by omega) hr
      rw [List.length_cons]
      omega
    · cases hr
theorem valid_bad {e : List Int} {j : Nat} {s d : Int} (h : e[j]? = some s) (hd : scan (e.take j) 0 = some d) (hn : ¬ ((0 ≤ s ∧ s ≤ 19) ∧ takes s ≤ d)) : exprValid e = false := by
  unfold exprValid
  rw [scan_bad h hd hn]
  simp
theorem valid_end {e : List Int} {d : Int} (hd : scan (e.take e.length) 0 = some d) (h0 : 1 ≤ e.length) (h1 : e.length ≤ 24) : exprValid e = decide (d = 1) := by
  rw [List.take_length] at hd
  unfold exprValid
  rw [hd]
  simp [h0, h1]
theorem valid_len {e : List Int} (h : ¬ (1 ≤ e.length ∧ e.length ≤ 24)) : exprValid e = false := by
  unfold exprValid
  exact decide_eq_false (fun hx => h ⟨hx.1, hx.2.1⟩)
theorem valid_t {e : List Int} (h : exprValid e = true) : 1 ≤ e.length ∧ e.length ≤ 24 ∧ scan e 0 = some 1 := of_decide_eq_true h
/-- In a valid expression each step finds what it takes. -/
theorem scan_get {e : List Int} {r : Int} (h : scan e 0 = some r) : ∀ j, j ≤ e.length → ∃ d, scan (e.take j) 0 = some d ∧ 0 ≤ d ∧ d ≤ j := by
  intro j hj
  have hs := scan_append (e.take j) (e.drop j) 0
  rw [List.take_append_drop, h] at hs
  cases hd : scan (e.take j) 0 with
  | none => rw [hd] at hs; cases hs
  | some d =>
    have := scan_nonneg (e.take j) 0 d (by omega) hd
    rw [List.length_take] at this
    exact ⟨d, rfl, this.1, by omega⟩
theorem scan_at {e : List Int} {r : Int} (h : scan e 0 = some r) {j : Nat} {s d : Int} (hs : e[j]? = some s) (hd : scan (e.take j) 0 = some d) : (0 ≤ s ∧ s ≤ 19) ∧ takes s ≤ d := by
  rcases Classical.em ((0 ≤ s ∧ s ≤ 19) ∧ takes s ≤ d) with hc | hc
  · exact hc
  · rw [scan_bad hs hd hc] at h; cases h

/-- What a step makes of words. -/
def opv (k s a b : Int) : Int :=
  if s = 12 then pw k - 1 - a
  else if s = 13 then wmod k (2 * a)
  else if s = 14 then a / 2
  else if s = 15 then wmod k (a + b)
  else if s = 16 then wmod k (a - b)
  else if s = 17 then land a b
  else if s = 18 then lor a b
  else lxor a b
def leafv (k s x y : Int) : Int := if s = 10 then x else if s = 11 then y else wmod k s
theorem opv_lt {k s a b : Int} (ha0 : 0 ≤ a) (ha : a < pw k) (hb0 : 0 ≤ b) (hb : b < pw k) : 0 ≤ opv k s a b ∧ opv k s a b < pw k := by
  unfold opv
  have h1 := wmod_lt k (2 * a)
  have h2 := wmod_lt k (a + b)
  have h3 := wmod_lt k (a - b)
  have h4 := land_nonneg a b
  have h5 := land_lt (a := a) hb0 hb
  have h6 := lor_nonneg a b
  have h7 := lor_lt ha0 ha hb0 hb
  have h8 := lxor_nonneg a b
  have h9 := lxor_lt ha0 ha hb0 hb
  repeat' split
  all_goals omega
theorem leafv_lt {k s x y : Int} (hx0 : 0 ≤ x) (hx : x < pw k) (hy0 : 0 ≤ y) (hy : y < pw k) : 0 ≤ leafv k s x y ∧ leafv k s x y < pw k := by
  unfold leafv
  have := wmod_lt k s
  repeat' split
  all_goals omega
/-- One step on a stack whose top is at the end. -/
def pushS (k x y : Int) (st : List Int) (s : Int) : List Int :=
  if takes s = 0 then st ++ [leafv k s x y]
  else if takes s = 1 then st.take (st.length - 1) ++ [opv k s (st.getD (st.length - 1) 0) 0]
  else st.take (st.length - 2) ++ [opv k s (st.getD (st.length - 2) 0) (st.getD (st.length - 1) 0)]
def evalS (k x y : Int) (e : List Int) : List Int := e.foldl (pushS k x y) []
def value (k : Int) (e : List Int) (x y : Int) : Int := (evalS k x y e).headD 0
def valueOf (k : Int) (e : List Int) (x y : Int) : Int := if exprValid e = true ∧ v2 k x y = true then value k e x y else -1
theorem evalS_snoc {k x y : Int} {e : List Int} {j : Nat} {s : Int} (h : e[j]? = some s) : evalS k x y (e.take (j + 1)) = pushS k x y (evalS k x y (e.take j)) s := by
  unfold evalS
  rw [take_snoc h, List.foldl_append]; rfl
def Words (k : Int) (st : List Int) : Prop := ∀ v ∈ st, 0 ≤ v ∧ v < pw k
theorem words_get {k : Int} {st : List Int} (h : Words k st) (j : Nat) : 0 ≤ st.getD j 0 ∧ st.getD j 0 < pw k := by
  rcases Nat.lt_or_ge j st.length with hj | hj
  · rw [List.getD_eq_getElem?_getD, List.getElem?_eq_getElem hj]
    exact h _ (List.getElem_mem hj)
  · rw [List.getD_eq_getElem?_getD, List.getElem?_eq_none hj]
    have := pw_pos k
    exact ⟨Int.le_refl _, by simp; omega⟩
theorem words_push {k x y : Int} (hx0 : 0 ≤ x) (hx : x < pw k) (hy0 : 0 ≤ y) (hy : y < pw k) {st : List Int} (h : Words k st) (s : Int) : Words k (pushS k x y st s) := by
  have h1 := words_get h (st.length - 1)
  have h2 := words_get h (st.length - 2)
  have hp := pw_pos k
  unfold pushS
  intro v hv
  split at hv
  · rcases List.mem_append.1 hv with hv | hv
    · exact h v hv
    · rw [List.mem_singleton.1 hv]; exact leafv_lt hx0 hx hy0 hy
  · split at hv
    · rcases List.mem_append.1 hv with hv | hv
      · exact h v (List.mem_of_mem_take hv)
      · rw [List.mem_singleton.1 hv]; exact opv_lt h1.1 h1.2 (Int.le_refl _) (by omega)
    · rcases List.mem_append.1 hv with hv | hv
      · exact h v (List.mem_of_mem_take hv)
      · rw [List.mem_singleton.1 hv]; exact opv_lt h2.1 h2.2 h1.1 h1.2
theorem push_len {k x y s : Int} {st : List Int} (h : takes s ≤ st.length) : ((pushS k x y st s).length : Int) = st.length + 1 - takes s := by
  unfold pushS
  have hb := takes_bd s
  split
  · rename_i h0; rw [List.length_append, h0]; simp
  · split
    · rename_i h0 h1; rw [List.length_append, List.length_take, h1]; simp; omega
    · have : takes s = 2 := by omega
      rw [List.length_append, List.length_take, this]; simp; omega
/-- What is known of the stack on the way. -/
theorem eval_at {k x y : Int} (hx0 : 0 ≤ x) (hx : x < pw k) (hy0 : 0 ≤ y) (hy : y < pw k) {e : List Int} {r : Int} (h : scan e 0 = some r) :
    ∀ j, j ≤ e.length → Words k (evalS k x y (e.take j)) ∧ scan (e.take j) 0 = some ((evalS k x y (e.take j)).length : Int)
  | 0, _ => by
    refine ⟨fun v hv => ?_, ?_⟩
    · simp [evalS] at hv
    · simp [evalS, scan]
  | j + 1, hj => by
    obtain ⟨h1, h2⟩ := eval_at hx0 hx hy0 hy h j (by omega)
    have hs : e[j]? = some e[j] := List.getElem?_eq_getElem (by omega)
    have hc := scan_at h hs h2
    rw [evalS_snoc hs]
    exact ⟨words_push hx0 hx hy0 hy h1 _, by rw [scan_snoc hs h2 hc.1.1 hc.1.2 hc.2, push_len hc.2]⟩
theorem eval_end {k x y : Int} (hx0 : 0 ≤ x) (hx : x < pw k) (hy0 : 0 ≤ y) (hy : y < pw k) {e : List Int} (h : exprValid e = true) :
    evalS k x y e = [value k e x y] ∧ 0 ≤ value k e x y ∧ value k e x y < pw k := by
  obtain ⟨h0, h1, h2⟩ := valid_t h
  obtain ⟨h3, h4⟩ := eval_at hx0 hx hy0 hy h2 e.length (Nat.le_refl _)
  rw [List.take_length] at h3 h4
  rw [h2] at h4
  unfold value
  match hst : evalS k x y e with
  | [] => rw [hst] at h4; simp at h4
  | [v] => exact ⟨rfl, h3 v (by rw [hst]; simp)⟩
  | a :: b :: t => rw [hst] at h4; simp at h4; omega
def diffAt (k : Int) (e f : List Int) (P c : Nat) : Bool := decide (value k e ((c / P : Nat) : Int) ((c % P : Nat) : Int) ≠ value k f ((c / P : Nat) : Int) ((c % P : Nat) : Int))
/-- Whether two expressions have the same values, and the first two words for which they have not. -/
def equalAt (k : Int) (e f : List Int) : Bool × Int × Int :=
  if (1 ≤ k ∧ k ≤ 5) ∧ exprValid e = true ∧ exprValid f = true then
    match (List.range ((pw k).toNat * (pw k).toNat)).find? (diffAt k e f (pw k).toNat) with
    | none => (true, 0, 0)
    | some c => (false, ((c / (pw k).toNat : Nat) : Int), ((c % (pw k).toNat : Nat) : Int))
  else (false, -1, -1)
theorem equalAt_f {k : Int} {e f : List Int} (h : ¬ ((1 ≤ k ∧ k ≤ 5) ∧ exprValid e = true ∧ exprValid f = true)) : equalAt k e f = (false, -1, -1) := by
  unfold equalAt; rw [if_neg h]
theorem equalAt_all {k : Int} {e f : List Int} {P : Nat} (h0 : 1 ≤ k) (h1 : k ≤ 5) (he : exprValid e = true) (hf : exprValid f = true) (hP : pw k = P)
    (h : ∀ x y : Nat, x < P → y < P → value k e x y = value k f x y) : equalAt k e f = (true, 0, 0) := by
  unfold equalAt
  rw [if_pos ⟨⟨h0, h1⟩, he, hf⟩, hP, Int.toNat_natCast]
  have hn : (List.range (P * P)).find? (diffAt k e f P) = none := by
    rw [List.find?_eq_none]
    intro c hc
    have hc := List.mem_range.1 hc
    have hp : 0 < P := by
      rcases Nat.eq_zero_or_pos P with h0 | h0
      · subst h0; omega
      · exact h0
    rw [show diffAt k e f P c = false from decide_eq_false (fun hh => hh (h (c / P) (c % P) ((Nat.div_lt_iff_lt_mul hp).2 hc) (Nat.mod_lt _ hp)))]
    decide
  rw [hn]
theorem equalAt_at {k : Int} {e f : List Int} {P : Nat} (h0 : 1 ≤ k) (h1 : k ≤ 5) (he : exprValid e = true) (hf : exprValid f = true) (hP : pw k = P) {x y : Nat} (hx : x < P) (hy : y < P)
    (hb : ∀ x' : Nat, x' < x → ∀ y' : Nat, y' < P → value k e x' y' = value k f x' y') (hc : ∀ y' : Nat, y' < y → value k e x y' = value k f x y')
    (hd : value k e x y ≠ value k f x y) : equalAt k e f = (false, (x : Int), (y : Int)) := by
  unfold equalAt
  rw [if_pos ⟨⟨h0, h1⟩, he, hf⟩, hP, Int.toNat_natCast]
  have hp : 0 < P := by omega
  have d1 : (P * x + y) / P = x := by rw [Nat.mul_add_div hp, Nat.div_eq_of_lt hy, Nat.add_zero]
  have d2 : (P * x + y) % P = y := by rw [Nat.mul_add_mod, Nat.mod_eq_of_lt hy]
  have hlt : P * x + y < P * P := by
    have : P * (x + 1) ≤ P * P := Nat.mul_le_mul_left P hx
    rw [Nat.mul_add, Nat.mul_one] at this
    omega
  have hn : (List.range (P * P)).find? (diffAt k e f P) = some (P * x + y) := by
    rw [List.find?_range_eq_some]
    refine ⟨?_, List.mem_range.2 hlt, fun j hj => ?_⟩
    · unfold diffAt; rw [d1, d2]; simpa using hd
    · have hq : j / P < x ∨ (j / P = x ∧ j % P < y) := by
        have e1 := Nat.div_add_mod j P
        have e2 := Nat.mod_lt j hp
        rcases Nat.lt_trichotomy (j / P) x with q | q | q
        · exact .inl q
        · rw [q] at e1; exact .inr ⟨q, by omega⟩
        · have : P * (x + 1) ≤ P * (j / P) := Nat.mul_le_mul_left P q
          rw [Nat.mul_add, Nat.mul_one] at this
          omega
      rw [show diffAt k e f P j = false from decide_eq_false (fun hh => hh (by
        rcases hq with q | ⟨q, r⟩
        · exact hb _ q _ (Nat.mod_lt j hp)
        · rw [q]; exact hc _ r))]
      decide
  rw [hn]
  show (false, (((P * x + y) / P : Nat) : Int), (((P * x + y) % P : Nat) : Int)) = _
  rw [d1, d2]
theorem valueOf_t {k : Int} {e : List Int} {x y : Int} (h : exprValid e = true) (h' : v2 k x y = true) : valueOf k e x y = value k e x y := by unfold valueOf; rw [if_pos ⟨h, h'⟩]
theorem valueOf_f {k : Int} {e : List Int} {x y : Int} (h : ¬ (exprValid e = true ∧ v2 k x y = true)) : valueOf k e x y = -1 := by unfold valueOf; rw [if_neg h]
theorem value_word {k : Int} {e : List Int} {x y : Int} (h : exprValid e = true) (h' : v2 k x y = true) : wvB k (value k e x y) = true := by
  obtain ⟨h0, h1, x0, x1, y0, y1⟩ := v2_t h'
  have := (eval_end x0 x1 y0 y1 h).2
  exact wv_mk h0 h1 this.1 this.2
end Pl
end Go.Proofs.YtamhpgledbmnoaaGreatDoor
namespace Go.Proofs.YtamhpgledbmnoaaGreatDoor
set_option linter.unusedVariables false
set_option linter.unusedSimpArgs false
open Go.RowKit
namespace Pl
theorem valid_not {e : List Int} (h : exprValid e = true) (hl : e.length < 24) : exprValid (e ++ [12]) = true := by
  obtain ⟨h0, h1, h2⟩ := valid_t h
  refine decide_eq_true ⟨by simp, by simp; omega, ?_⟩
  rw [scan_append, h2]; rfl
theorem valid_word {e : List Int} (h : exprValid e = true) : exprValid (e ++ [10]) = false := by
  obtain ⟨h0, h1, h2⟩ := valid_t h
  refine decide_eq_false (fun hx => ?_)
  have hs := hx.2.2
  rw [scan_append, h2] at hs
  exact absurd hs (by decide)
theorem valid_nil : exprValid [] = false := by decide
/-- An expression has no step to the right. -/
def noRight (e : List Int) : Prop := ∀ s ∈ e, s ≠ 14
theorem pw_dvd {w k : Int} (h0 : 0 ≤ w) (h1 : w ≤ k) : pw w ∣ pw k := by
  obtain ⟨d, rfl⟩ : ∃ d, k = w + d := ⟨k - w, by omega⟩
  rw [pw_add w d h0 (by omega)]
  exact Int.dvd_mul_right _ _
theorem wmod_wmod {w k n : Int} (h0 : 0 ≤ w) (h1 : w ≤ k) : wmod w (wmod k n) = wmod w n := by
  unfold wmod
  exact Int.emod_emod_of_dvd n (pw_dvd h0 h1)
theorem wmod_neg_all {w k a : Int} (h0 : 0 ≤ w) (h1 : w ≤ k) : wmod w (pw k - 1 - a) = pw w - 1 - wmod w a := by
  have hd := pw_dvd h0 h1
  obtain ⟨q, hq⟩ := hd
  have hp := pw_pos w
  have hl := wmod_lt w a
  unfold wmod at *
  have e1 := Int.mul_ediv_add_emod a (pw w)
  have e2 : pw k - 1 - a = (pw w - 1 - a % pw w) + pw w * (q - 1 - a / pw w) := by
    rw [hq, Int.mul_sub, Int.mul_sub, Int.mul_one]
    omega
  rw [e2, Int.add_mul_emod_self_left]
  exact Int.emod_eq_of_lt (by omega) (by omega)
theorem nat_land_mod (a b k : Nat) : (a &&& b) % 2 ^ k = (a % 2 ^ k) &&& (b % 2 ^ k) := by
  apply Nat.eq_of_testBit_eq
  intro i
  simp only [Nat.testBit_mod_two_pow, Nat.testBit_and]
  cases decide (i < k) <;> simp
theorem nat_lor_mod (a b k : Nat) : (a ||| b) % 2 ^ k = (a % 2 ^ k) ||| (b % 2 ^ k) := by
  apply Nat.eq_of_testBit_eq
  intro i
  simp only [Nat.testBit_mod_two_pow, Nat.testBit_or]
  cases decide (i < k) <;> simp
theorem nat_lxor_mod (a b k : Nat) : (a ^^^ b) % 2 ^ k = (a % 2 ^ k) ^^^ (b % 2 ^ k) := by
  apply Nat.eq_of_testBit_eq
  intro i
  simp only [Nat.testBit_mod_two_pow, Nat.testBit_xor]
  cases decide (i < k) <;> simp
theorem wmod_nat2 {w : Int} (h0 : 0 ≤ w) (n : Nat) : wmod w (n : Int) = ((n % 2 ^ w.toNat : Nat) : Int) := by
  obtain ⟨W, rfl⟩ := Int.eq_ofNat_of_zero_le h0
  unfold wmod
  rw [pw_nat, ← Int.natCast_emod, Int.toNat_natCast]
theorem wmod_land {w a b : Int} (h0 : 0 ≤ w) (ha : 0 ≤ a) (hb : 0 ≤ b) : wmod w (land a b) = land (wmod w a) (wmod w b) := by
  obtain ⟨a, rfl⟩ := Int.eq_ofNat_of_zero_le ha
  obtain ⟨b, rfl⟩ := Int.eq_ofNat_of_zero_le hb
  unfold land
  rw [wmod_nat2 h0, wmod_nat2 h0, wmod_nat2 h0]
  simp only [Int.toNat_natCast]
  rw [nat_land_mod]
theorem wmod_lor {w a b : Int} (h0 : 0 ≤ w) (ha : 0 ≤ a) (hb : 0 ≤ b) : wmod w (lor a b) = lor (wmod w a) (wmod w b) := by
  obtain ⟨a, rfl⟩ := Int.eq_ofNat_of_zero_le ha
  obtain ⟨b, rfl⟩ := Int.eq_ofNat_of_zero_le hb
  unfold lor
  rw [wmod_nat2 h0, wmod_nat2 h0, wmod_nat2 h0]
  simp only [Int.toNat_natCast]
  rw [nat_lor_mod]
theorem wmod_lxor {w a b : Int} (h0 : 0 ≤ w) (ha : 0 ≤ a) (hb : 0 ≤ b) : wmod w (lxor a b) = lxor (wmod w a) (wmod w b) := by
  obtain ⟨a, rfl⟩ := Int.eq_ofNat_of_zero_le ha
  obtain ⟨b, rfl⟩ := Int.eq_ofNat_of_zero_le hb
  unfold lxor
  rw [wmod_nat2 h0, wmod_nat2 h0, wmod_nat2 h0]
  simp only [Int.toNat_natCast]
  rw [nat_lxor_mod]
theorem opv_narrow {w k s a b : Int} (h0 : 0 ≤ w) (h1 : w ≤ k) (hs : s ≠ 14) (ha : 0 ≤ a) (hb : 0 ≤ b) : wmod w (opv k s a b) = opv w s (wmod w a) (wmod w b) := by
  unfold opv
  by_cases e1 : s = 12
  · rw [if_pos e1, if_pos e1]; exact wmod_neg_all h0 h1
  · rw [if_neg e1, if_neg e1]
    by_cases e2 : s = 13
    · rw [if_pos e2, if_pos e2, wmod_wmod h0 h1]
      unfold wmod
      rw [Int.mul_emod, Int.mul_emod 2 (a % pw w), Int.emod_emod]
    · rw [if_neg e2, if_neg e2, if_neg hs, if_neg hs]
      by_cases e4 : s = 15
      · rw [if_pos e4, if_pos e4, wmod_wmod h0 h1]; unfold wmod; rw [Int.add_emod]
      · rw [if_neg e4, if_neg e4]
        by_cases e5 : s = 16
        · rw [if_pos e5, if_pos e5, wmod_wmod h0 h1]; unfold wmod; rw [Int.sub_emod]
        · rw [if_neg e5, if_neg e5]
          by_cases e6 : s = 17
          · rw [if_pos e6, if_pos e6]; exact wmod_land h0 ha hb
          · rw [if_neg e6, if_neg e6]
            by_cases e7 : s = 18
            · rw [if_pos e7, if_pos e7]; exact wmod_lor h0 ha hb
            · rw [if_neg e7, if_neg e7]; exact wmod_lxor h0 ha hb
theorem leafv_narrow {w k s x y : Int} (h0 : 0 ≤ w) (h1 : w ≤ k) : wmod w (leafv k s x y) = leafv w s (wmod w x) (wmod w y) := by
  unfold leafv
  by_cases e1 : s = 10
  · rw [if_pos e1, if_pos e1]
  · rw [if_neg e1, if_neg e1]
    by_cases e2 : s = 11
    · rw [if_pos e2, if_pos e2]
    · rw [if_neg e2, if_neg e2]; exact wmod_wmod h0 h1
theorem map_getD (f : Int → Int) (st : List Int) (j : Nat) (h : j < st.length) : (st.map f).getD j 0 = f (st.getD j 0) := by
  simp [List.getD_eq_getElem?_getD, List.getElem?_eq_getElem h]
theorem push_narrow {w k x y s : Int} {st : List Int} (h0 : 0 ≤ w) (h1 : w ≤ k) (hs : s ≠ 14) (hw : Words k st) (ht : takes s ≤ st.length) :
    (pushS k x y st s).map (wmod w) = pushS w (wmod w x) (wmod w y) (st.map (wmod w)) s := by
  have hb := takes_bd s
  have g1 := words_get hw (st.length - 1)
  have g2 := words_get hw (st.length - 2)
  unfold pushS
  rw [List.length_map]
  by_cases e0 : takes s = 0
  · rw [if_pos e0, if_pos e0, List.map_append, List.map_singleton, leafv_narrow h0 h1]
  · rw [if_neg e0, if_neg e0]
    by_cases e1 : takes s = 1
    · rw [if_pos e1, if_pos e1, List.map_append, List.map_singleton, List.map_take, opv_narrow h0 h1 hs g1.1 (Int.le_refl 0), map_getD _ _ _ (by omega)]
      rw [show wmod w 0 = 0 from wmod_0 w]
    · rw [if_neg e1, if_neg e1, List.map_append, List.map_singleton, List.map_take, opv_narrow h0 h1 hs g2.1 g1.1, map_getD _ _ _ (by omega), map_getD _ _ _ (by omega)]
theorem value_narrow {w k x y : Int} {e : List Int} (h0 : 0 ≤ w) (h1 : w ≤ k) (hx0 : 0 ≤ x) (hx : x < pw k) (hy0 : 0 ≤ y) (hy : y < pw k) (he : exprValid e = true) (hn : noRight e) :
    value w e (wmod w x) (wmod w y) = wmod w (value k e x y) := by
  obtain ⟨v0, v1, v2⟩ := valid_t he
  have key : ∀ j, j ≤ e.length → (evalS k x y (e.take j)).map (wmod w) = evalS w (wmod w x) (wmod w y) (e.take j) := by
    intro j
    induction j with
    | zero => intro _; simp [evalS]
    | succ j ih =>
      intro hj
      have hs : e[j]? = some e[j] := List.getElem?_eq_getElem (by omega)
      obtain ⟨a1, a2⟩ := eval_at hx0 hx hy0 hy v2 j (by omega)
      have hc := scan_at v2 hs a2
      rw [evalS_snoc hs, evalS_snoc hs, push_narrow h0 h1 (hn _ (List.getElem_mem _)) a1 hc.2, ih (by omega)]
  have hk := key e.length (Nat.le_refl _)
  rw [List.take_length, (eval_end hx0 hx hy0 hy he).1] at hk
  unfold value at *
  rw [← hk]; rfl
end Pl
end Go.Proofs.YtamhpgledbmnoaaGreatDoor
namespace Go.Proofs.YtamhpgledbmnoaaGreatDoor.Pl
set_option linter.unusedVariables false
theorem wmod_id {w x : Int} (h0 : 0 ≤ x) (h1 : x < pw w) : wmod w x = x := by
  unfold wmod
  exact Int.emod_eq_of_lt h0 h1
theorem pw_mono {w k : Int} (h0 : 0 ≤ w) (h1 : w ≤ k) : pw w ≤ pw k :=
  Int.le_of_dvd (pw_pos k) (pw_dvd h0 h1)
theorem eqa_cases (k : Int) (e f : List Int) : equalAt k e f = (false, -1, -1) ∨
    (∃ x y, equalAt k e f = (false, x, y) ∧ 0 ≤ x ∧ 0 ≤ y ∧ valueOf k e x y ≠ valueOf k f x y) ∨
    (equalAt k e f = (true, 0, 0) ∧ ∀ w, 1 ≤ w → w < k → noRight e → noRight f → equalAt w e f = (true, 0, 0)) := by
  by_cases hv : (1 ≤ k ∧ k ≤ 5) ∧ exprValid e = true ∧ exprValid f = true
  · right
    obtain ⟨⟨h0, h1⟩, he, hf⟩ := hv
    obtain ⟨P, hP⟩ := Int.eq_ofNat_of_zero_le (show 0 ≤ pw k by have := pw_pos k; omega)
    have hpp := pw_pos k
    have hp : 0 < P := by omega
    have hu1 : (List.range (P * P)).find? (diffAt k e f P) = none → equalAt k e f = (true, 0, 0) := by
      intro h
      unfold equalAt
      rw [if_pos ⟨⟨h0, h1⟩, he, hf⟩, hP, Int.toNat_natCast, h]
    have hu2 : ∀ c, (List.range (P * P)).find? (diffAt k e f P) = some c → equalAt k e f = (false, ((c / P : Nat) : Int), ((c % P : Nat) : Int)) := by
      intro c h
      unfold equalAt
      rw [if_pos ⟨⟨h0, h1⟩, he, hf⟩, hP, Int.toNat_natCast, h]
    match hn : (List.range (P * P)).find? (diffAt k e f P) with
    | none =>
      right
      refine ⟨hu1 hn, fun w w0 w1 hne hnf => ?_⟩
      have hpw := pw_mono (show 0 ≤ w by omega) (show w ≤ k by omega)
      obtain ⟨Q, hQ⟩ := Int.eq_ofNat_of_zero_le (show 0 ≤ pw w by have := pw_pos w; omega)
      refine equalAt_all w0 (by omega) he hf hQ fun x y hx hy => ?_
      have hxP : x < P := by omega
      have hyP : y < P := by omega
      have hlt : P * x + y < P * P := by
        have : P * (x + 1) ≤ P * P := Nat.mul_le_mul_left P hxP
        rw [Nat.mul_add, Nat.mul_one] at this
        omega
      have hd := (List.find?_eq_none.1 hn) (P * x + y) (List.mem_range.2 hlt)
      unfold diffAt at hd
      rw [show (P * x + y) / P = x by rw [Nat.mul_add_div hp, Nat.div_eq_of_lt hyP, Nat.add_zero], show (P * x + y) % P = y by rw [Nat.mul_add_mod, Nat.mod_eq_of_lt hyP]] at hd
      have hE : value k e x y = value k f x y := by simpa using hd
      have a := value_narrow (w := w) (k := k) (x := x) (y := y) (by omega) (by omega) (by omega) (by omega) (by omega) (by omega) he hne
      have b := value_narrow (w := w) (k := k) (x := x) (y := y) (by omega) (by omega) (by omega) (by omega) (by omega) (by omega) hf hnf
      rw [wmod_id (by omega) (by omega), wmod_id (by omega) (by omega)] at a b
      rw [a, b, hE]
    | some c =>
      left
      have hu := hu2 c hn
      have hc := List.find?_some hn
      have hm := List.mem_range.1 (List.mem_of_find?_eq_some hn)
      have hx : c / P < P := (Nat.div_lt_iff_lt_mul hp).2 hm
      have hy : c % P < P := Nat.mod_lt _ hp
      unfold diffAt at hc
      have hd := of_decide_eq_true hc
      clear hu1 hu2 hn hm hc
      generalize c / P = X at *
      generalize c % P = Y at *
      have hv2 : v2 k (X : Int) (Y : Int) = true := v2_mk (wv_mk h0 (by omega) (by omega) (by omega)) (wv_mk h0 (by omega) (by omega) (by omega))
      exact ⟨_, _, hu, by omega, by omega, by rw [valueOf_t he hv2, valueOf_t hf hv2]; exact hd⟩
  · exact .inl (equalAt_f hv)
end Go.Proofs.YtamhpgledbmnoaaGreatDoor.Pl
namespace Go.Proofs.YtamhpgledbmnoaaGreatDoor
set_option linter.unusedVariables false
set_option linter.unusedSimpArgs false
open Go.RowKit
namespace Pl
/-- An operation: its step and the numbers of what it takes. -/
abbrev Op3 := Int × Int × Int
/-- The operation that a step makes of the stack. -/
def mkOp (st : List Int) (s : Int) : Op3 :=
  (s, st.getD (st.length - (takes s).toNat) 0, if takes s = 2 then st.getD (st.length - 1) 0 else 0)
def codeStep (c : List Op3 × List Int) (s : Int) : List Op3 × List Int :=
  if takes s = 0 then (c.1, c.2 ++ [s])
  else
    (if c.1.idxOf (mkOp c.2 s) < c.1.length then c.1 else c.1 ++ [mkOp c.2 s],
      c.2.take (c.2.length - (takes s).toNat) ++ [100 + (c.1.idxOf (mkOp c.2 s) : Int)])
def codeS (e : List Int) : List Op3 × List Int := e.foldl codeStep ([], [])
def codeOf (e : List Int) : List Op3 × Int := if exprValid e = true then ((codeS e).1, (codeS e).2.headD 0) else ([], -1)
def there (n : Int) (m : Nat) : Bool := decide ((0 ≤ n ∧ n ≤ 11) ∨ (100 ≤ n ∧ n ≤ 99 + m))
def atv (k : Int) (vals : List Int) (n x y : Int) : Int := if 100 ≤ n then vals.getD (n - 100).toNat 0 else leafv k n x y
def opOk (c : Op3) (m : Nat) : Bool := decide (12 ≤ c.1 ∧ c.1 ≤ 19) && there c.2.1 m && there c.2.2 m && !(decide (takes c.1 = 1) && decide (c.2.2 ≠ 0))
def doOp (k x y : Int) (vals : List Int) (c : Op3) : List Int := vals ++ [opv k c.1 (atv k vals c.2.1 x y) (atv k vals c.2.2 x y)]
/-- What the first operations of a code leave; none if one of them cannot be done. -/
def runC (k x y : Int) : List Op3 → List Int → Option (List Int)
  | [], vals => some vals
  | c :: t, vals => if opOk c vals.length = true then runC k x y t (doOp k x y vals c) else none
def codeRun (k : Int) (code : List Op3) (n x y : Int) : Int :=
  if v2 k x y = true ∧ code.length ≤ 24 then
    match runC k x y code [] with
    | some vals => if there n vals.length = true then atv k vals n x y else -1
    | none => -1
  else -1
theorem runC_append (k x y : Int) : ∀ (a b : List Op3) (vals : List Int), runC k x y (a ++ b) vals = (runC k x y a vals).bind (runC k x y b)
  | [], b, vals => by simp [runC]
  | c :: t, b, vals => by
    show runC k x y (c :: (t ++ b)) vals = _
    unfold runC
    split
    · exact runC_append k x y t b _
    · rfl
theorem codeS_snoc {e : List Int} {j : Nat} {s : Int} (h : e[j]? = some s) : codeS (e.take (j + 1)) = codeStep (codeS (e.take j)) s := by
  unfold codeS
  rw [take_snoc h, List.foldl_append]; rfl
theorem there_mono {n : Int} {m m' : Nat} (h : there n m = true) (hm : m ≤ m') : there n m' = true := by
  unfold there at *
  have := of_decide_eq_true h
  exact decide_eq_true (by omega)
theorem atv_append {k x y n : Int} {vals more : List Int} (h : there n vals.length = true) : atv k (vals ++ more) n x y = atv k vals n x y := by
  have h := of_decide_eq_true h
  unfold atv
  split
  · rw [List.getD_eq_getElem?_getD, List.getD_eq_getElem?_getD, List.getElem?_append_left (by omega)]
  · rfl
theorem take_snoc3 {e : List Op3} {j : Nat} {s : Op3} (h : e[j]? = some s) : e.take (j + 1) = e.take j ++ [s] := by
  rw [List.take_add_one, h]; rfl
theorem drop_cons3 {e : List Op3} {j : Nat} {s : Op3} (h : e[j]? = some s) : e.drop j = s :: e.drop (j + 1) := by
  obtain ⟨hj, he⟩ := List.getElem?_eq_some_iff.1 h
  rw [List.drop_eq_getElem_cons hj, he]
theorem runC_snoc {k x y : Int} {code : List Op3} {j : Nat} {c : Op3} {vals : List Int} (h : code[j]? = some c) (hv : runC k x y (code.take j) [] = some vals) (hc : opOk c vals.length = true) :
    runC k x y (code.take (j + 1)) [] = some (doOp k x y vals c) := by
  rw [take_snoc3 h, runC_append, hv]
  show runC k x y [c] vals = _
  unfold runC
  rw [if_pos hc]; rfl
theorem runC_bad {k x y : Int} {code : List Op3} {j : Nat} {c : Op3} {vals : List Int} (h : code[j]? = some c) (hv : runC k x y (code.take j) [] = some vals) (hc : opOk c vals.length = false) :
    runC k x y code [] = none := by
  have e : runC k x y code [] = runC k x y (code.take j ++ code.drop j) [] := by rw [List.take_append_drop]
  rw [e, runC_append, hv, drop_cons3 h]
  show runC k x y (c :: code.drop (j + 1)) vals = none
  unfold runC
  rw [hc]; rfl
theorem codeRun_none {k : Int} {code : List Op3} {n x y : Int} (h : runC k x y code [] = none) : codeRun k code n x y = -1 := by
  unfold codeRun
  split
  · rw [h]
  · rfl
theorem codeRun_f {k : Int} {code : List Op3} {n x y : Int} (h : ¬ (v2 k x y = true ∧ code.length ≤ 24)) : codeRun k code n x y = -1 := by
  unfold codeRun; rw [if_neg h]
theorem codeRun_end {k : Int} {code : List Op3} {n x y : Int} {vals : List Int} (h : v2 k x y = true) (hl : code.length ≤ 24) (hv : runC k x y code [] = some vals) :
    codeRun k code n x y = if there n vals.length = true then atv k vals n x y else -1 := by
  unfold codeRun; rw [if_pos ⟨h, hl⟩, hv]
theorem atv_word {k x y n : Int} {vals : List Int} (h : v2 k x y = true) (hw : Words k vals) : wvB k (atv k vals n x y) = true := by
  obtain ⟨h0, h1, x0, x1, y0, y1⟩ := v2_t h
  unfold atv
  split
  · have := words_get hw (n - 100).toNat
    exact wv_mk h0 h1 this.1 this.2
  · have := leafv_lt (k := k) (s := n) x0 x1 y0 y1
    exact wv_mk h0 h1 this.1 this.2
theorem words_doOp {k x y : Int} {vals : List Int} {c : Op3} (h : v2 k x y = true) (hw : Words k vals) : Words k (doOp k x y vals c) := by
  intro v hv
  unfold doOp at hv
  rcases List.mem_append.1 hv with hv | hv
  · exact hw v hv
  · rw [List.mem_singleton.1 hv]
    obtain ⟨_, _, a0, a1⟩ := wv_t (atv_word (n := c.2.1) h hw)
    obtain ⟨_, _, b0, b1⟩ := wv_t (atv_word (n := c.2.2) h hw)
    exact opv_lt a0 a1 b0 b1
theorem opOk_t {c : Op3} {m : Nat} (h : opOk c m = true) : (12 ≤ c.1 ∧ c.1 ≤ 19) ∧ there c.2.1 m = true ∧ there c.2.2 m = true ∧ ¬ (takes c.1 = 1 ∧ c.2.2 ≠ 0) := by
  unfold opOk at h
  simp only [Bool.and_eq_true, Bool.not_eq_true', decide_eq_true_eq, Bool.and_eq_false_iff, decide_eq_false_iff_not] at h
  obtain ⟨⟨⟨h1, h2⟩, h3⟩, h4⟩ := h
  exact ⟨h1, h2, h3, fun hx => h4.elim (fun g => g hx.1) (fun g => g hx.2)⟩
theorem opOk_mk {c : Op3} {m : Nat} (h1 : 12 ≤ c.1 ∧ c.1 ≤ 19) (h2 : there c.2.1 m = true) (h3 : there c.2.2 m = true) (h4 : ¬ (takes c.1 = 1 ∧ c.2.2 ≠ 0)) : opOk c m = true := by
  unfold opOk
  rw [decide_eq_true h1, h2, h3]
  simp only [Bool.and_eq_true, Bool.not_eq_true', Bool.true_and, Bool.and_eq_false_iff, decide_eq_false_iff_not]
  rcases Classical.em (takes c.1 = 1) with g | g
  · exact .inr (fun hx => h4 ⟨g, hx⟩)
  · exact .inl g
theorem opOk_f {c : Op3} {m : Nat} (h : ¬ ((12 ≤ c.1 ∧ c.1 ≤ 19) ∧ there c.2.1 m = true ∧ there c.2.2 m = true ∧ ¬ (takes c.1 = 1 ∧ c.2.2 ≠ 0))) : opOk c m = false := by
  cases hc : opOk c m
  · rfl
  · exact absurd (opOk_t hc) h
end Pl
end Go.Proofs.YtamhpgledbmnoaaGreatDoor
namespace Go.Proofs.YtamhpgledbmnoaaGreatDoor
set_option linter.unusedVariables false
set_option linter.unusedSimpArgs false
open Go.RowKit
namespace Pl
def CInv (k x y : Int) (code : List Op3) (st vals ev : List Int) : Prop :=
  runC k x y code [] = some vals ∧ vals.length = code.length ∧ st.map (fun n => atv k vals n x y) = ev ∧ (∀ n ∈ st, there n vals.length = true) ∧
  (∀ (i : Nat) (c : Op3), code[i]? = some c → there c.2.1 vals.length = true ∧ there c.2.2 vals.length = true ∧ vals[i]? = some (opv k c.1 (atv k vals c.2.1 x y) (atv k vals c.2.2 x y)))
theorem cinv_0 {k x y s : Int} {code : List Op3} {st vals ev : List Int} (h : CInv k x y code st vals ev) (h0 : 0 ≤ s) (h1 : s < 12) : CInv k x y code (st ++ [s]) vals (ev ++ [leafv k s x y]) := by
  obtain ⟨a, b, c, d, e⟩ := h
  refine ⟨a, b, ?_, ?_, e⟩
  · rw [List.map_append, c]
    show ev ++ [atv k vals s x y] = _
    unfold atv
    rw [if_neg (by omega)]
  · intro n hn
    rcases List.mem_append.1 hn with hn | hn
    · exact d n hn
    · rw [List.mem_singleton.1 hn]
      exact decide_eq_true (.inl ⟨h0, by omega⟩)
theorem atv_100 {k x y : Int} {vals : List Int} {i : Nat} {v : Int} (h : vals[i]? = some v) : atv k vals (100 + (i : Int)) x y = v := by
  unfold atv
  rw [if_pos (by omega), show (100 + (i : Int) - 100).toNat = i by omega, List.getD_eq_getElem?_getD, h]; rfl
theorem cinv_op {k x y : Int} {code : List Op3} {st vals ev : List Int} {X : Op3} {m : Nat} (h : CInv k x y code st vals ev) (hX : opOk X vals.length = true) :
    ∃ vals', CInv k x y (if code.idxOf X < code.length then code else code ++ [X]) (st.take m ++ [100 + (code.idxOf X : Int)]) vals' (ev.take m ++ [opv k X.1 (atv k vals X.2.1 x y) (atv k vals X.2.2 x y)]) := by
  obtain ⟨a, b, c, d, e⟩ := h
  by_cases hf : code.idxOf X < code.length
  · rw [if_pos hf]
    have hg : code[code.idxOf X]? = some X := by rw [List.getElem?_eq_getElem hf, List.getElem_idxOf]
    obtain ⟨e1, e2, e3⟩ := e _ X hg
    refine ⟨vals, a, b, ?_, ?_, e⟩
    · rw [List.map_append, List.map_take, c]
      show ev.take m ++ [atv k vals (100 + (code.idxOf X : Int)) x y] = _
      rw [atv_100 e3]
    · intro n hn
      rcases List.mem_append.1 hn with hn | hn
      · exact d n (List.mem_of_mem_take hn)
      · rw [List.mem_singleton.1 hn]
        exact decide_eq_true (.inr ⟨by omega, by omega⟩)
  · rw [if_neg hf]
    have hI : code.idxOf X = code.length := by have := List.idxOf_le_length (a := X) (l := code); omega
    have hl : (doOp k x y vals X).length = vals.length + 1 := by unfold doOp; simp
    have hold : ∀ n, there n vals.length = true → atv k (doOp k x y vals X) n x y = atv k vals n x y := fun n hn => by unfold doOp; exact atv_append hn
    obtain ⟨_, t1, t2, _⟩ := opOk_t hX
    have hnew : (doOp k x y vals X)[vals.length]? = some (opv k X.1 (atv k vals X.2.1 x y) (atv k vals X.2.2 x y)) := by unfold doOp; simp
    refine ⟨doOp k x y vals X, ?_, ?_, ?_, ?_, ?_⟩
    · rw [runC_append, a]
      show runC k x y [X] vals = _
      unfold runC
      rw [if_pos hX]; rfl
    · rw [hl, b, List.length_append]; rfl
    · rw [List.map_append]
      congr 1
      · rw [← c, ← List.map_take]
        exact List.map_congr_left (fun n hn => hold n (d n (List.mem_of_mem_take hn)))
      · show [atv k (doOp k x y vals X) (100 + (code.idxOf X : Int)) x y] = _
        rw [hI, ← b, atv_100 hnew]
    · intro n hn
      rw [hl]
      rcases List.mem_append.1 hn with hn | hn
      · exact there_mono (d n (List.mem_of_mem_take hn)) (by omega)
      · rw [List.mem_singleton.1 hn, hI]
        exact decide_eq_true (.inr ⟨by omega, by omega⟩)
    · intro i c' hc
      rw [hl]
      rcases Nat.lt_or_ge i code.length with hi | hi
      · rw [List.getElem?_append_left hi] at hc
        obtain ⟨e1, e2, e3⟩ := e i c' hc
        refine ⟨there_mono e1 (by omega), there_mono e2 (by omega), ?_⟩
        rw [hold _ e1, hold _ e2]
        unfold doOp
        rw [List.getElem?_append_left (by omega)]
        exact e3
      · have hi' : i = code.length := by
          have := (List.getElem?_eq_some_iff.1 hc).1
          rw [List.length_append] at this
          simp at this
          omega
        subst hi'
        have hcX : c' = X := by
          rw [List.getElem?_append_right (Nat.le_refl _)] at hc
          simpa using hc.symm
        subst hcX
        refine ⟨there_mono t1 (by omega), there_mono t2 (by omega), ?_⟩
        rw [hold _ t1, hold _ t2, ← b]
        exact hnew
theorem atv_zero (k x y : Int) (vals : List Int) : atv k vals 0 x y = 0 := by
  unfold atv leafv
  rw [if_neg (by omega), if_neg (by omega), if_neg (by omega)]
  exact wmod_0 k
theorem getD_map {f : Int → Int} {st ev : List Int} (h : st.map f = ev) {i : Nat} (hi : i < st.length) : ev.getD i 0 = f (st.getD i 0) := by
  subst h
  simp [List.getD_eq_getElem?_getD, List.getElem?_eq_getElem hi]
theorem mem_getD {st : List Int} {i : Nat} (hi : i < st.length) : st.getD i 0 ∈ st := by
  rw [List.getD_eq_getElem?_getD, List.getElem?_eq_getElem hi]
  exact List.getElem_mem hi
theorem there_0 (m : Nat) : there 0 m = true := decide_eq_true (.inl ⟨by omega, by omega⟩)
theorem code_inv {k x y : Int} (hv : v2 k x y = true) {e : List Int} (he : exprValid e = true) : ∀ j, j ≤ e.length → ∃ vals, CInv k x y (codeS (e.take j)).1 (codeS (e.take j)).2 vals (evalS k x y (e.take j))
  | 0, _ => ⟨[], rfl, rfl, rfl, fun n hn => absurd hn (List.not_mem_nil), fun i c hc => by simp [codeS] at hc⟩
  | j + 1, hj => by
    obtain ⟨vals, hi⟩ := code_inv hv he j (by omega)
    obtain ⟨h0, h1, x0, x1, y0, y1⟩ := v2_t hv
    have hs : e[j]? = some e[j] := List.getElem?_eq_getElem (by omega)
    obtain ⟨w1, w2⟩ := eval_at x0 x1 y0 y1 (valid_t he).2.2 j (by omega)
    obtain ⟨⟨s0, s1⟩, ht⟩ := scan_at (valid_t he).2.2 hs w2
    rw [codeS_snoc hs, evalS_snoc hs]
    generalize e[j] = s at *
    generalize evalS k x y (e.take j) = ev at *
    generalize hcs : codeS (e.take j) = cs at *
    obtain ⟨code, st⟩ := cs
    simp only at hi
    have hlen : st.length = ev.length := by rw [← hi.2.2.1, List.length_map]
    have hmap := hi.2.2.1
    have hmem := hi.2.2.2.1
    by_cases t0 : s < 12
    · refine ⟨vals, ?_⟩
      unfold codeStep pushS
      rw [takes_0 t0]
      exact cinv_0 hi s0 t0
    · by_cases t1 : s < 15
      · have htk := takes_1 (by omega) t1
        rw [htk] at ht
        obtain ⟨m, hm⟩ : ∃ m, st.length = m + 1 := ⟨st.length - 1, by omega⟩
        have hX : opOk (s, st.getD m 0, 0) vals.length = true := opOk_mk ⟨by omega, by omega⟩ (hmem _ (mem_getD (by omega))) (there_0 _) (fun h => h.2 rfl)
        obtain ⟨vals', hn⟩ := cinv_op (m := m) hi hX
        refine ⟨vals', ?_⟩
        have e1 : codeStep (code, st) s = (if code.idxOf (s, st.getD m 0, 0) < code.length then code else code ++ [(s, st.getD m 0, 0)], st.take m ++ [100 + (code.idxOf (s, st.getD m 0, (0 : Int)) : Int)]) := by
          unfold codeStep mkOp
          simp only [htk, hm]
          rfl
        have e2 : pushS k x y ev s = ev.take m ++ [opv k s (ev.getD m 0) 0] := by
          unfold pushS
          rw [htk, ← hlen, hm]; rfl
        rw [e1, e2, getD_map hmap (by omega)]
        simp only [atv_zero] at hn
        exact hn
      · have htk := takes_2 (s := s) (by omega)
        rw [htk] at ht
        obtain ⟨m, hm⟩ : ∃ m, st.length = m + 2 := ⟨st.length - 2, by omega⟩
        have hX : opOk (s, st.getD m 0, st.getD (m + 1) 0) vals.length = true := opOk_mk ⟨by omega, by omega⟩ (hmem _ (mem_getD (by omega))) (hmem _ (mem_getD (by omega))) (fun h => by rw [htk] at h; omega)
        obtain ⟨vals', hn⟩ := cinv_op (m := m) hi hX
        refine ⟨vals', ?_⟩
        have e1 : codeStep (code, st) s = (if code.idxOf (s, st.getD m 0, st.getD (m + 1) 0) < code.length then code else code ++ [(s, st.getD m 0, st.getD (m + 1) 0)], st.take m ++ [100 + (code.idxOf (s, st.getD m 0, st.getD (m + 1) 0) : Int)]) := by
          unfold codeStep mkOp
          simp only [htk, hm]
          rfl
        have e2 : pushS k x y ev s = ev.take m ++ [opv k s (ev.getD m 0) (ev.getD (m + 1) 0)] := by
          unfold pushS
          rw [htk, ← hlen, hm]; rfl
        rw [e1, e2, getD_map hmap (by omega), getD_map hmap (by omega)]
        exact hn
/-- How many operations an expression has. -/
def worksL (e : List Int) : Nat := (e.filter (fun s => decide (12 ≤ s))).length
theorem works_snoc {e : List Int} {j : Nat} {s : Int} (h : e[j]? = some s) : worksL (e.take (j + 1)) = worksL (e.take j) + if 12 ≤ s then 1 else 0 := by
  unfold worksL
  rw [take_snoc h, List.filter_append, List.length_append]
  by_cases h12 : 12 ≤ s
  · simp [h12]
  · simp [h12]
theorem code_short (e : List Int) : ∀ j, j ≤ e.length → (codeS (e.take j)).1.length ≤ worksL (e.take j) ∧ (∀ (a b : Nat) (c : Op3), a < b → (codeS (e.take j)).1[a]? = some c → (codeS (e.take j)).1[b]? ≠ some c)
  | 0, _ => ⟨by simp [codeS], fun a b c hab h => by simp [codeS] at h⟩
  | j + 1, hj => by
    obtain ⟨h1, h2⟩ := code_short e j (by omega)
    have hs : e[j]? = some e[j] := List.getElem?_eq_getElem (by omega)
    rw [codeS_snoc hs, works_snoc hs]
    generalize e[j] = s at *
    generalize codeS (e.take j) = cs at *
    obtain ⟨code, st⟩ := cs
    simp only at h1 h2
    unfold codeStep
    by_cases t0 : takes s = 0
    · rw [if_pos t0]; exact ⟨by show code.length ≤ _; omega, h2⟩
    · rw [if_neg t0]
      have h12 : 12 ≤ s := by
        rcases Int.lt_or_le s 12 with h | h
        · exact absurd (takes_0 h) t0
        · exact h
      rw [if_pos h12]
      simp only
      generalize mkOp st s = X
      by_cases hf : code.idxOf X < code.length
      · rw [if_pos hf]; exact ⟨by omega, h2⟩
      · rw [if_neg hf]
        refine ⟨by rw [List.length_append]; simp; omega, fun a b c hab ha hb => ?_⟩
        have hbl := (List.getElem?_eq_some_iff.1 hb).1
        rw [List.length_append] at hbl
        simp at hbl
        rw [List.getElem?_append_left (by omega)] at ha
        rcases Nat.lt_or_ge b code.length with hb' | hb'
        · rw [List.getElem?_append_left hb'] at hb
          exact h2 a b c hab ha hb
        · rw [List.getElem?_append_right hb', show b - code.length = 0 by omega] at hb
          have hXc : X = c := by simpa using hb
          subst hXc
          have hmem := List.mem_of_getElem? ha
          exact hf (List.idxOf_lt_length_of_mem hmem)
/-- The law of codes. -/
theorem code_law {k x y : Int} (hv : v2 k x y = true) {e : List Int} (he : exprValid e = true) : codeRun k (codeOf e).1 (codeOf e).2 x y = valueOf k e x y := by
  obtain ⟨h0, h1, x0, x1, y0, y1⟩ := v2_t hv
  obtain ⟨vals, a, b, c, d, _⟩ := code_inv hv he e.length (Nat.le_refl _)
  obtain ⟨hs, _⟩ := code_short e e.length (Nat.le_refl _)
  rw [List.take_length] at a b c d hs
  rw [(eval_end x0 x1 y0 y1 he).1] at c
  have hw : worksL e ≤ e.length := List.length_filter_le _ _
  have hl := valid_t he
  unfold codeOf
  rw [if_pos he]
  show codeRun k (codeS e).1 ((codeS e).2.headD 0) x y = _
  generalize codeS e = cs at *
  obtain ⟨code, st⟩ := cs
  simp only at *
  obtain ⟨n, rfl⟩ : ∃ n, st = [n] := List.length_eq_one_iff.1 (by have h := congrArg List.length c; simpa using h)
  have hn : atv k vals n x y = value k e x y := by simpa using c
  rw [codeRun_end hv (by omega) a]
  show (if there n vals.length = true then atv k vals n x y else -1) = _
  rw [if_pos (d n (by simp)), hn, valueOf_t he hv]
end Pl
end Go.Proofs.YtamhpgledbmnoaaGreatDoor
namespace Go.Proofs.YtamhpgledbmnoaaGreatDoor
set_option linter.unusedVariables false
set_option linter.unusedSimpArgs false
namespace Pl
inductive Tr where
  | leaf (s : Int)
  | un (s : Int) (t : Tr)
  | bin (s : Int) (l r : Tr)
  deriving DecidableEq
def Tr.post : Tr → List Int
  | .leaf s => [s]
  | .un s t => t.post ++ [s]
  | .bin s l r => l.post ++ r.post ++ [s]
def Tr.ok : Tr → Prop
  | .leaf s => 0 ≤ s ∧ s < 12
  | .un s t => (12 ≤ s ∧ s < 15) ∧ t.ok
  | .bin s l r => (15 ≤ s ∧ s ≤ 19) ∧ l.ok ∧ r.ok
def Tr.top : Tr → Int
  | .leaf s => s
  | .un s _ => s
  | .bin s _ _ => s
theorem Tr.post_pos (t : Tr) : 0 < t.post.length := by cases t <;> simp [Tr.post] <;> omega
theorem Tr.post_last (t : Tr) : ∃ p, t.post = p ++ [t.top] := by
  cases t with
  | leaf s => exact ⟨[], rfl⟩
  | un s t => exact ⟨t.post, rfl⟩
  | bin s l r => exact ⟨l.post ++ r.post, rfl⟩
/-- One step on a stack of trees, its top ahead. -/
def stepR (ts : List Tr) (s : Int) : List Tr :=
  if s < 12 then .leaf s :: ts else if s < 15 then (match ts with | a :: r => .un s a :: r | [] => []) else (match ts with | b :: a :: r => .bin s a b :: r | _ => [])
theorem stepR_0 {ts : List Tr} {s : Int} (h : s < 12) : stepR ts s = .leaf s :: ts := by unfold stepR; rw [if_pos h]
theorem stepR_1 {r : List Tr} {a : Tr} {s : Int} (h : 12 ≤ s) (h' : s < 15) : stepR (a :: r) s = .un s a :: r := by unfold stepR; rw [if_neg (by omega), if_pos h']
theorem stepR_2 {r : List Tr} {a b : Tr} {s : Int} (h : 15 ≤ s) : stepR (b :: a :: r) s = .bin s a b :: r := by unfold stepR; rw [if_neg (by omega), if_neg (by omega)]
theorem run_post : ∀ (t : Tr), t.ok → ∀ ts, t.post.foldl stepR ts = t :: ts
  | .leaf s, h, ts => by
    show stepR ts s = _
    exact stepR_0 h.2
  | .un s t, h, ts => by
    show (t.post ++ [s]).foldl stepR ts = _
    rw [List.foldl_append, run_post t h.2 ts]
    exact stepR_1 h.1.1 h.1.2
  | .bin s l r, h, ts => by
    show (l.post ++ r.post ++ [s]).foldl stepR ts = _
    rw [List.foldl_append, List.foldl_append, run_post l h.2.1 ts, run_post r h.2.2]
    exact stepR_2 h.1.1
theorem post_inj {t t' : Tr} (h : t.ok) (h' : t'.ok) (he : t.post = t'.post) : t = t' := by
  have h1 := run_post t h []
  rw [he, run_post t' h' []] at h1
  simpa using h1.symm
/-- The posts of a stack, from its bottom on. -/
def posts (ts : List Tr) : List Int := ts.reverse.flatMap Tr.post
theorem posts_cons (t : Tr) (ts : List Tr) : posts (t :: ts) = posts ts ++ t.post := by simp [posts, List.flatMap_append]
theorem run_scan : ∀ (e : List Int) (d r : Int) (ts : List Tr), scan e d = some r → (ts.length : Int) = d → (∀ t ∈ ts, t.ok) →
    ((e.foldl stepR ts).length : Int) = r ∧ (∀ t ∈ e.foldl stepR ts, t.ok) ∧ posts (e.foldl stepR ts) = posts ts ++ e
  | [], d, r, ts, h, hl, ho => by
    simp [scan] at h
    refine ⟨by rw [← h]; exact hl, ho, by simp⟩
  | s :: e, d, r, ts, h, hl, ho => by
    unfold scan at h
    split at h
    · rename_i hc
      obtain ⟨⟨s0, s1⟩, ht⟩ := hc
      rw [List.foldl_cons]
      by_cases h0 : s < 12
      · rw [takes_0 h0] at h
        obtain ⟨g1, g2, g3⟩ := run_scan e _ r (stepR ts s) h (by rw [stepR_0 h0, List.length_cons]; omega) (by
          rw [stepR_0 h0]; intro t ht'
          rcases List.mem_cons.1 ht' with rfl | ht'
          · exact ⟨s0, h0⟩
          · exact ho t ht')
        refine ⟨g1, g2, ?_⟩
        rw [g3, stepR_0 h0, posts_cons]; simp [Tr.post]
      · by_cases h1 : s < 15
        · rw [takes_1 (by omega) h1] at h ht
          match ts, hl, ho with
          | a :: q, hl, ho =>
            rw [List.length_cons] at hl
            obtain ⟨g1, g2, g3⟩ := run_scan e _ r (stepR (a :: q) s) h (by rw [stepR_1 (by omega) h1, List.length_cons]; omega) (by
              rw [stepR_1 (by omega) h1]; intro t ht'
              rcases List.mem_cons.1 ht' with rfl | ht'
              · exact ⟨⟨by omega, h1⟩, ho a (List.mem_cons_self ..)⟩
              · exact ho t (List.mem_cons_of_mem _ ht'))
            refine ⟨g1, g2, ?_⟩
            rw [g3, stepR_1 (by omega) h1, posts_cons, posts_cons]; simp [Tr.post]
          | [], hl, ho => simp at hl; omega
        · rw [takes_2 (by omega)] at h ht
          match ts, hl, ho with
          | b :: a :: q, hl, ho =>
            rw [List.length_cons, List.length_cons] at hl
            obtain ⟨g1, g2, g3⟩ := run_scan e _ r (stepR (b :: a :: q) s) h (by rw [stepR_2 (by omega), List.length_cons]; omega) (by
              rw [stepR_2 (by omega)]; intro t ht'
              rcases List.mem_cons.1 ht' with rfl | ht'
              · exact ⟨⟨by omega, s1⟩, ho a (List.mem_cons_of_mem _ (List.mem_cons_self ..)), ho b (List.mem_cons_self ..)⟩
              · exact ho t (List.mem_cons_of_mem _ (List.mem_cons_of_mem _ ht')))
            refine ⟨g1, g2, ?_⟩
            rw [g3, stepR_2 (by omega), posts_cons, posts_cons, posts_cons]; simp [Tr.post]
          | [a], hl, ho => simp at hl; omega
          | [], hl, ho => simp at hl; omega
    · cases h
/-- The tree of a valid expression. -/
def tree (e : List Int) : Tr := (e.foldl stepR []).headD (.leaf 0)
theorem run_valid {e : List Int} (h : exprValid e = true) : e.foldl stepR [] = [tree e] ∧ (tree e).ok ∧ (tree e).post = e := by
  obtain ⟨_, _, hs⟩ := valid_t h
  obtain ⟨g1, g2, g3⟩ := run_scan e 0 1 [] hs rfl (by simp)
  unfold tree
  match hq : e.foldl stepR [], g1, g2, g3 with
  | [t], g1, g2, g3 =>
    refine ⟨rfl, g2 t (by simp), ?_⟩
    simpa [posts] using g3
  | [], g1, g2, g3 => simp at g1
  | a :: b :: r, g1, g2, g3 => simp at g1; omega
theorem tree_post {t : Tr} (h : t.ok) : tree t.post = t := by unfold tree; rw [run_post t h]; rfl
theorem scan_post : ∀ (t : Tr), t.ok → ∀ (d : Int), 0 ≤ d → scan t.post d = some (d + 1)
  | .leaf s, h, d, hd => by
    show scan [s] d = _
    unfold scan
    rw [takes_0 h.2, if_pos ⟨⟨h.1, by have := h.2; omega⟩, hd⟩]
    simp [scan]
  | .un s t, h, d, hd => by
    show scan (t.post ++ [s]) d = _
    rw [scan_append, scan_post t h.2 d hd]
    show scan [s] (d + 1) = _
    unfold scan
    rw [takes_1 h.1.1 h.1.2, if_pos ⟨⟨by have := h.1.1; omega, by have := h.1.2; omega⟩, by omega⟩]
    simp [scan]
  | .bin s l r, h, d, hd => by
    show scan (l.post ++ r.post ++ [s]) d = _
    rw [scan_append, scan_append, scan_post l h.2.1 d hd]
    show (scan r.post (d + 1)).bind _ = _
    rw [scan_post r h.2.2 _ (by omega)]
    show scan [s] (d + 1 + 1) = _
    unfold scan
    rw [takes_2 h.1.1, if_pos ⟨⟨by have := h.1.1; omega, h.1.2⟩, by omega⟩]
    simp [scan]; omega
theorem valid_post {t : Tr} (h : t.ok) (hn : t.post.length ≤ 24) : exprValid t.post = true := by
  have h1 := t.post_pos
  exact decide_eq_true ⟨by omega, hn, scan_post t h 0 (by omega)⟩

/-! Texts. -/
def leafCh (s : Int) : UInt8 := if s = 10 then 120 else if s = 11 then 121 else UInt8.ofNat (48 + s.toNat)
def signs : List UInt8 := [126, 60, 62, 43, 45, 38, 124, 94]
def signCh (s : Int) : UInt8 := signs.getD (s - 12).toNat 0
/-- Whether a tree ends with a step that takes two, but one. -/
def Tr.two : Tr → Int → Bool
  | .bin s _ _, but => s != but
  | _, _ => false
def brk (b : Bool) (x : List UInt8) : List UInt8 := if b = true then 40 :: (x ++ [41]) else x
def Tr.txt : Tr → List UInt8
  | .leaf s => [leafCh s]
  | .un s t => signCh s :: brk (t.two (-1)) t.txt
  | .bin s l r => brk (l.two s) l.txt ++ signCh s :: brk (r.two (-1)) r.txt
theorem brk_len (b : Bool) (x : List UInt8) : (brk b x).length ≤ x.length + 2 := by unfold brk; split <;> simp
theorem two_0 (t : Tr) (h : t.post.length = 1) (but : Int) : t.two but = false := by
  cases t with
  | leaf s => rfl
  | un s t => rfl
  | bin s l r =>
    have h1 := l.post_pos
    have h2 := r.post_pos
    simp [Tr.post] at h
    omega
theorem txt_len : ∀ (t : Tr), t.txt.length + 2 ≤ 3 * t.post.length
  | .leaf s => by simp [Tr.txt, Tr.post]
  | .un s t => by
    have := txt_len t
    have h2 := brk_len (t.two (-1)) t.txt
    simp [Tr.txt, Tr.post]; omega
  | .bin s l r => by
    have := txt_len l
    have := txt_len r
    have h2 := brk_len (l.two s) l.txt
    have h3 := brk_len (r.two (-1)) r.txt
    simp [Tr.txt, Tr.post]; omega
def exprText (e : List Int) : List UInt8 := if exprValid e = true then (tree e).txt else []
theorem txt_pos (t : Tr) : 0 < t.txt.length := by cases t <;> simp [Tr.txt] <;> omega
end Pl
/-- A text as the model has it. -/
def Ba (l : List UInt8) : ByteArray := ⟨l.toArray⟩
theorem Ba_size (l : List UInt8) : (Ba l).size = l.length := by simp [Ba, ByteArray.size]
theorem Ba_append (a b : List UInt8) : Ba a ++ Ba b = Ba (a ++ b) := by
  apply ByteArray.ext
  simp [Ba, ByteArray.data_append]
end Go.Proofs.YtamhpgledbmnoaaGreatDoor
namespace Go.Proofs.YtamhpgledbmnoaaGreatDoor
set_option linter.unusedVariables false
set_option linter.unusedSimpArgs false
namespace Pl
/-- What is still to come, seen from the end of a part. -/
def nd (n s : Int) : Int := n - 1 + takes s
theorem nd_run : ∀ (t : Tr), t.ok → ∀ n, t.post.reverse.foldl nd n = n - 1
  | .leaf s, h, n => by
    show nd n s = _
    unfold nd; rw [takes_0 h.2]; omega
  | .un s t, h, n => by
    show (t.post ++ [s]).reverse.foldl nd n = _
    rw [List.reverse_append, List.foldl_append]
    show t.post.reverse.foldl nd (nd n s) = _
    rw [nd_run t h.2]
    unfold nd; rw [takes_1 h.1.1 h.1.2]; omega
  | .bin s l r, h, n => by
    show (l.post ++ r.post ++ [s]).reverse.foldl nd n = _
    rw [List.reverse_append, List.reverse_append, List.foldl_append, List.foldl_append]
    show l.post.reverse.foldl nd (r.post.reverse.foldl nd (nd n s)) = _
    rw [nd_run r h.2.2, nd_run l h.2.1]
    unfold nd; rw [takes_2 h.1.1]; omega
theorem nd_ge : ∀ (t : Tr), t.ok → ∀ n k, k < t.post.length → n ≤ (t.post.reverse.take k).foldl nd n
  | .leaf s, h, n, k, hk => by
    simp [Tr.post] at hk; subst hk; simp
  | .un s t, h, n, k, hk => by
    simp [Tr.post] at hk
    rcases k with _ | k
    · simp
    · show n ≤ (((t.post ++ [s]).reverse).take (k + 1)).foldl nd n
      rw [List.reverse_append]
      show n ≤ (t.post.reverse.take k).foldl nd (nd n s)
      have := nd_ge t h.2 (nd n s) k (by omega)
      have h2 : nd n s = n := by unfold nd; rw [takes_1 h.1.1 h.1.2]; omega
      omega
  | .bin s l r, h, n, k, hk => by
    simp [Tr.post] at hk
    rcases k with _ | k
    · simp
    · show n ≤ (((l.post ++ r.post ++ [s]).reverse).take (k + 1)).foldl nd n
      rw [List.reverse_append, List.reverse_append]
      show n ≤ ((r.post.reverse ++ l.post.reverse).take k).foldl nd (nd n s)
      have h2 : nd n s = n + 1 := by unfold nd; rw [takes_2 h.1.1]; omega
      rw [h2, List.take_append, List.foldl_append]
      by_cases hr : k < r.post.length
      · have := nd_ge r h.2.2 (n + 1) k hr
        rw [show k - r.post.reverse.length = 0 by simp; omega]
        simp only [List.take_zero, List.foldl_nil]
        omega
      · rw [List.take_of_length_le (by simp; omega), nd_run r h.2.2]
        have := nd_ge l h.2.1 (n + 1 - 1) (k - r.post.reverse.length) (by simp; omega)
        omega
/-- What is still to come behind k steps from the end. -/
def ndk (e : List Int) (k : Nat) : Int := (e.reverse.take k).foldl nd 1
theorem ndk_0 (e : List Int) : ndk e 0 = 1 := by simp [ndk]
theorem ndk_pos {t : Tr} (h : t.ok) {k : Nat} (hk : k < t.post.length) : 0 < ndk t.post k := by have := nd_ge t h 1 k hk; unfold ndk; omega
theorem ndk_end {t : Tr} (h : t.ok) : ndk t.post t.post.length = 0 := by unfold ndk; rw [List.take_of_length_le (by simp), nd_run t h]; rfl
theorem ndk_succ {e : List Int} {k : Nat} {s : Int} (hk : k < e.length) (hs : e[e.length - 1 - k]? = some s) : ndk e (k + 1) = ndk e k - 1 + takes s := by
  unfold ndk
  have h1 : e.reverse[k]? = some s := by rw [List.getElem?_reverse hk]; exact hs
  rw [List.take_add_one, h1, List.foldl_append]
  rfl
theorem ndk_bd {e : List Int} : ∀ (k : Nat), k ≤ e.length → ndk e k ≤ k + 1 ∧ -(k : Int) ≤ ndk e k
  | 0, _ => by rw [ndk_0]; omega
  | k + 1, h => by
    have ih := ndk_bd (e := e) k (by omega)
    have hs : e[e.length - 1 - k]? = some (e[e.length - 1 - k]'(by omega)) := List.getElem?_eq_getElem _
    rw [ndk_succ (by omega) hs]
    have := takes_bd (e[e.length - 1 - k]'(by omega))
    omega

/-! Reading. -/
def dig (c : UInt8) : Option Int := if 48 ≤ c.toNat ∧ c.toNat ≤ 57 then some ((c.toNat : Int) - 48) else if c = 120 then some 10 else if c = 121 then some 11 else none
def unI (c : UInt8) : Option Int := if c = 126 then some 0 else if c = 60 then some 1 else if c = 62 then some 2 else none
def sgn (c : UInt8) : Option Int := if c = 43 then some 0 else if c = 45 then some 1 else if c = 38 then some 2 else if c = 124 then some 3 else if c = 94 then some 4 else none
abbrev Rs := Option (List Int × Nat)
def loopP (chk : Bool) (small : Nat → Rs) (s : List UInt8) : Nat → Int → List Int × Nat → Rs
  | 0, _, st => some st
  | m + 1, sg, st => match s[st.2]? with
    | none => some st
    | some c => match sgn c with
      | none => some st
      | some k => if chk = true ∧ 0 ≤ sg ∧ k ≠ sg then some st else match small (st.2 + 1) with
        | none => none
        | some st' => loopP chk small s m k (st.1 ++ st'.1 ++ [15 + k], st'.2)
def rowP (chk : Bool) (small : Nat → Rs) (s : List UInt8) (at_ : Nat) : Rs := match small at_ with
  | none => none
  | some st => loopP chk small s s.length (-1) st
def closeP (s : List UInt8) (st : List Int × Nat) : Rs := if s[st.2]? = some 41 then some (st.1, st.2 + 1) else none
def opP (chk : Bool) (s : List UInt8) : Nat → Nat → Rs
  | 0, _ => none
  | f + 1, at_ => match s[at_]? with
    | none => none
    | some c => match dig c with
      | some n => some ([n], at_ + 1)
      | none => match unI c with
        | some n => (opP chk s f (at_ + 1)).map fun st => (st.1 ++ [12 + n], st.2)
        | none => if c = 40 then (rowP chk (opP chk s f) s (at_ + 1)).bind (closeP s) else none
end Pl
end Go.Proofs.YtamhpgledbmnoaaGreatDoor
namespace Go.Proofs.YtamhpgledbmnoaaGreatDoor
set_option linter.unusedVariables false
set_option linter.unusedSimpArgs false
namespace Pl
theorem get_of_drop {s : List UInt8} {a : Nat} {c : UInt8} {tl : List UInt8} (h : s.drop a = c :: tl) : s[a]? = some c ∧ s.drop (a + 1) = tl ∧ a < s.length := by
  have h1 : a < s.length := by
    rcases Nat.lt_or_ge a s.length with h1 | h1
    · exact h1
    · rw [List.drop_eq_nil_of_le h1] at h; cases h
  rw [List.drop_eq_getElem_cons h1] at h
  injection h with h2 h3
  exact ⟨by rw [List.getElem?_eq_getElem h1, h2], h3, h1⟩
theorem drop_more {s a b : List UInt8} {k : Nat} (h : s.drop k = a ++ b) : s.drop (k + a.length) = b := by
  rw [← List.drop_drop, h, List.drop_left]
theorem dig_leaf {s : Int} (h0 : 0 ≤ s) (h1 : s < 12) : dig (leafCh s) = some s := by
  rcases (by omega : s = 0 ∨ s = 1 ∨ s = 2 ∨ s = 3 ∨ s = 4 ∨ s = 5 ∨ s = 6 ∨ s = 7 ∨ s = 8 ∨ s = 9 ∨ s = 10 ∨ s = 11) with rfl | rfl | rfl | rfl | rfl | rfl | rfl | rfl | rfl | rfl | rfl | rfl <;> rfl
theorem un_sign {s : Int} (h0 : 12 ≤ s) (h1 : s < 15) : dig (signCh s) = none ∧ unI (signCh s) = some (s - 12) := by
  rcases (by omega : s = 12 ∨ s = 13 ∨ s = 14) with rfl | rfl | rfl <;> exact ⟨rfl, rfl⟩
theorem bin_sign {s : Int} (h0 : 15 ≤ s) (h1 : s ≤ 19) : sgn (signCh s) = some (s - 15) := by
  rcases (by omega : s = 15 ∨ s = 16 ∨ s = 17 ∨ s = 18 ∨ s = 19) with rfl | rfl | rfl | rfl | rfl <;> rfl
def Tr.isBin : Tr → Nat
  | .bin _ _ _ => 1
  | _ => 0
/-- A text in its place is read by the reader of operands. -/
def OpReads (chk : Bool) (s : List UInt8) (t : Tr) : Prop := ∀ f a rest, t.post.length ≤ f → s.drop a = brk (t.two (-1)) t.txt ++ rest → opP chk s f a = some (t.post, a + (brk (t.two (-1)) t.txt).length)
/-- A text in its place is read by the reader of rows, which goes on behind it. -/
def RowReads (chk : Bool) (s : List UInt8) (t : Tr) : Prop := ∀ f a rest, t.post.length ≤ f + t.isBin → s.drop a = t.txt ++ rest →
  ∃ m sg, rowP chk (opP chk s f) s a = loopP chk (opP chk s f) s m sg (t.post, a + t.txt.length) ∧ (sg = -1 ∨ (t.isBin = 1 ∧ sg = t.top - 15)) ∧ s.length ≤ m + (a + t.txt.length)
theorem loop_stop {chk : Bool} {small : Nat → Rs} {s : List UInt8} {m : Nat} {sg : Int} {st : List Int × Nat} (h : s[st.2]? = none ∨ ∃ c, s[st.2]? = some c ∧ sgn c = none) : loopP chk small s m sg st = some st := by
  cases m with
  | zero => rfl
  | succ m =>
    unfold loopP
    rcases h with h | ⟨c, h, h2⟩
    · rw [h]
    · rw [h]; simp only [h2]
theorem loop_go {chk : Bool} {small : Nat → Rs} {s : List UInt8} {m : Nat} {sg k : Int} {st st' : List Int × Nat} {c : UInt8} (h : s[st.2]? = some c) (hc : sgn c = some k) (hs : sg = -1 ∨ sg = k) (h' : small (st.2 + 1) = some st') :
    loopP chk small s (m + 1) sg st = loopP chk small s m k (st.1 ++ st'.1 ++ [15 + k], st'.2) := by
  rw [loopP, h]
  simp only [hc]
  rw [if_neg (by omega), h']
theorem row_start {chk : Bool} {small : Nat → Rs} {s : List UInt8} {a : Nat} {st : List Int × Nat} (h : small a = some st) : rowP chk small s a = loopP chk small s s.length (-1) st := by
  unfold rowP; rw [h]
theorem op_leaf {chk : Bool} {s : List UInt8} {f a : Nat} {c : UInt8} {n : Int} (h : s[a]? = some c) (hd : dig c = some n) : opP chk s (f + 1) a = some ([n], a + 1) := by
  rw [opP, h]; simp only [hd]
theorem op_un {chk : Bool} {s : List UInt8} {f a : Nat} {c : UInt8} {n : Int} (h : s[a]? = some c) (hd : dig c = none) (hu : unI c = some n) : opP chk s (f + 1) a = (opP chk s f (a + 1)).map fun st => (st.1 ++ [12 + n], st.2) := by
  rw [opP, h]; simp only [hd, hu]
theorem op_open {chk : Bool} {s : List UInt8} {f a : Nat} (h : s[a]? = some 40) : opP chk s (f + 1) a = (rowP chk (opP chk s f) s (a + 1)).bind (closeP s) := by
  rw [opP, h]; rfl
theorem reads_all (chk : Bool) (s : List UInt8) : ∀ (t : Tr), t.ok → RowReads chk s t ∧ OpReads chk s t
  | .leaf n, ok => by
    have ho : OpReads chk s (.leaf n) := by
      intro f a rest hf hd
      obtain ⟨h1, h2, h3⟩ := get_of_drop hd
      obtain ⟨f, rfl⟩ : ∃ g, f = g + 1 := ⟨f - 1, by simp [Tr.post] at hf; omega⟩
      exact op_leaf h1 (dig_leaf ok.1 ok.2)
    refine ⟨fun f a rest hf hd => ?_, ho⟩
    exact ⟨s.length, -1, row_start (ho f a rest hf hd), .inl rfl, by omega⟩
  | .un n t, ok => by
    obtain ⟨_, iho⟩ := reads_all chk s t ok.2
    have ho : OpReads chk s (.un n t) := by
      intro f a rest hf hd
      obtain ⟨h1, h2, h3⟩ := get_of_drop hd
      obtain ⟨f, rfl⟩ : ∃ g, f = g + 1 := ⟨f - 1, by simp [Tr.post] at hf; omega⟩
      obtain ⟨hs1, hs2⟩ := un_sign ok.1.1 ok.1.2
      rw [op_un h1 hs1 hs2, iho f (a + 1) rest (by simp [Tr.post] at hf; omega) h2]
      have e1 : (12 : Int) + (n - 12) = n := by omega
      show some (t.post ++ [12 + (n - 12)], _) = some (t.post ++ [n], a + (signCh n :: brk (t.two (-1)) t.txt).length)
      rw [e1, List.length_cons]
      congr 2
      omega
    refine ⟨fun f a rest hf hd => ?_, ho⟩
    exact ⟨s.length, -1, row_start (ho f a rest hf hd), .inl rfl, by omega⟩
  | .bin n l r, ok => by
    obtain ⟨ihlr, ihlo⟩ := reads_all chk s l ok.2.1
    obtain ⟨_, ihro⟩ := reads_all chk s r ok.2.2
    have hr : RowReads chk s (.bin n l r) := by
      intro f a rest hf hd
      have hlen : l.post.length + r.post.length + 1 ≤ f + 1 := by simpa [Tr.post, Tr.isBin, Nat.add_assoc] using hf
      have hp1 := l.post_pos
      have hp2 := r.post_pos
      have hd' : s.drop a = brk (l.two n) l.txt ++ (signCh n :: (brk (r.two (-1)) r.txt ++ rest)) := by rw [hd]; simp [Tr.txt]
      have hd2 := drop_more hd'
      obtain ⟨g1, g2, g3⟩ := get_of_drop hd2
      have hop := ihro f (a + (brk (l.two n) l.txt).length + 1) rest (by omega) g2
      have hsg := bin_sign ok.1.1 ok.1.2
      have eT : (Tr.bin n l r).txt.length = (brk (l.two n) l.txt).length + 1 + (brk (r.two (-1)) r.txt).length := by simp [Tr.txt]; omega
      -- what is read of the first part
      have hfirst : ∃ m sg, rowP chk (opP chk s f) s a = loopP chk (opP chk s f) s m sg (l.post, a + (brk (l.two n) l.txt).length) ∧ (sg = -1 ∨ sg = n - 15) ∧ s.length ≤ m + (a + (brk (l.two n) l.txt).length) := by
        cases hb : l.two n with
        | true =>
          have h2 : l.two (-1) = true := by
            cases l with
            | leaf s => simp [Tr.two] at hb
            | un s t => simp [Tr.two] at hb
            | bin s l' r' => have := ok.2.1.1.1; simp [Tr.two]; omega
          have h3 := ihlo f a _ (by omega) (by rw [h2]; rw [hb] at hd'; exact hd')
          rw [h2] at h3
          exact ⟨s.length, -1, row_start h3, .inl rfl, by omega⟩
        | false =>
          rw [hb] at hd'
          obtain ⟨m, sg, h4, h5, h6⟩ := ihlr f a _ (by omega) hd'
          refine ⟨m, sg, h4, ?_, h6⟩
          rcases h5 with h5 | ⟨h5, h7⟩
          · exact .inl h5
          · cases l with
            | leaf s => simp [Tr.isBin] at h5
            | un s t => simp [Tr.isBin] at h5
            | bin s l' r' => simp [Tr.two] at hb; subst hb; exact .inr h7
      obtain ⟨m, sg, h4, h5, h6⟩ := hfirst
      obtain ⟨m, rfl⟩ : ∃ m', m = m' + 1 := ⟨m - 1, by omega⟩
      refine ⟨m, n - 15, ?_, .inr ⟨rfl, rfl⟩, by omega⟩
      rw [h4, loop_go (k := n - 15) g1 hsg h5 hop]
      have e1 : (15 : Int) + (n - 15) = n := by omega
      rw [e1, eT]
      congr 2
      simp only []
      omega
    refine ⟨hr, fun f a rest hf hd => ?_⟩
    have h2 : (Tr.bin n l r).two (-1) = true := by have := ok.1.1; simp [Tr.two]; omega
    rw [h2] at hd ⊢
    have hp : 1 < (Tr.bin n l r).post.length := by have := l.post_pos; have := r.post_pos; simp [Tr.post]; omega
    have hd' : s.drop a = 40 :: ((Tr.bin n l r).txt ++ (41 :: rest)) := by rw [hd]; simp [brk]
    obtain ⟨g1, g2, g3⟩ := get_of_drop hd'
    obtain ⟨f, rfl⟩ : ∃ g, f = g + 1 := ⟨f - 1, by omega⟩
    obtain ⟨m, sg, h4, h5, h6⟩ := hr f (a + 1) _ (by simp [Tr.isBin]; omega) g2
    have g4 := drop_more g2
    obtain ⟨k1, k2, k3⟩ := get_of_drop g4
    rw [op_open g1, h4, loop_stop (.inr ⟨41, k1, rfl⟩)]
    show closeP s _ = _
    unfold closeP
    rw [if_pos k1]
    simp [brk]; omega
theorem row_reads {chk : Bool} {s : List UInt8} {t : Tr} (ok : t.ok) (hs : t.txt = s) {f : Nat} (hf : t.post.length ≤ f + t.isBin) : rowP chk (opP chk s f) s 0 = some (t.post, s.length) := by
  obtain ⟨m, sg, h1, _, _⟩ := (reads_all chk s t ok).1 f 0 [] hf (by rw [hs]; simp)
  rw [h1, hs, loop_stop (.inl (by simp))]
  simp
theorem post_le_txt : ∀ (t : Tr), t.post.length ≤ t.txt.length
  | .leaf s => by simp [Tr.post, Tr.txt]
  | .un s t => by
    have := post_le_txt t
    have h2 : t.txt.length ≤ (brk (t.two (-1)) t.txt).length := by unfold brk; split <;> simp; omega
    simp [Tr.post, Tr.txt]; omega
  | .bin s l r => by
    have := post_le_txt l
    have := post_le_txt r
    have h2 : l.txt.length ≤ (brk (l.two s) l.txt).length := by unfold brk; split <;> simp; omega
    have h3 : r.txt.length ≤ (brk (r.two (-1)) r.txt).length := by unfold brk; split <;> simp; omega
    simp [Tr.post, Tr.txt]; omega
/-- The expression of a text. -/
def readE (s : List UInt8) : Option (List Int) :=
  match rowP false (opP false s s.length) s 0 with
  | none => none
  | some st => if exprText st.1 = s ∧ s ≠ [] then some st.1 else none
theorem text_some {e : List Int} {s : List UInt8} (h : exprText e = s) (hs : s ≠ []) : exprValid e = true := by
  unfold exprText at h
  split at h
  · assumption
  · exact absurd h.symm hs
theorem text_valid {e : List Int} (h : exprValid e = true) : exprText e = (tree e).txt := by unfold exprText; rw [if_pos h]
theorem text_pos {e : List Int} (h : exprValid e = true) : exprText e ≠ [] := by
  rw [text_valid h]
  have := txt_pos (tree e)
  intro hx
  rw [hx] at this
  simp at this
theorem text_len {e : List Int} (h : exprValid e = true) : (exprText e).length ≤ 70 := by
  rw [text_valid h]
  have h1 := txt_len (tree e)
  rw [(run_valid h).2.2] at h1
  have := (valid_t h).2.1
  omega
theorem text_len' (e : List Int) : (exprText e).length ≤ 70 := by
  cases h : exprValid e with
  | true => exact text_len h
  | false => unfold exprText; rw [h]; simp
theorem text_reads {chk : Bool} {e : List Int} {s : List UInt8} (h : exprText e = s) (hs : s ≠ []) {f : Nat} (hf : e.length ≤ f) : rowP chk (opP chk s f) s 0 = some (e, s.length) := by
  have hv := text_some h hs
  obtain ⟨h1, h2, h3⟩ := run_valid hv
  rw [text_valid hv] at h
  have := row_reads (chk := chk) h2 h (f := f) (by rw [h3]; omega)
  rw [h3] at this
  exact this
theorem expr_le {e : List Int} {s : List UInt8} (h : exprText e = s) (hs : s ≠ []) : e.length ≤ s.length := by
  have hv := text_some h hs
  have := post_le_txt (tree e)
  rw [(run_valid hv).2.2, ← text_valid hv, h] at this
  exact this
theorem readE_of {e : List Int} {s : List UInt8} (h : exprText e = s) (hs : s ≠ []) : readE s = some e := by
  unfold readE
  rw [text_reads h hs (expr_le h hs)]
  simp only [h]
  rw [if_pos ⟨trivial, hs⟩]
theorem readE_some {e : List Int} {s : List UInt8} (h : readE s = some e) : exprText e = s ∧ s ≠ [] := by
  unfold readE at h
  split at h
  · cases h
  · split at h
    · rename_i hc
      injection h with h
      subst h
      exact hc
    · cases h
theorem readE_valid {e : List Int} {s : List UInt8} (h : readE s = some e) : exprValid e = true := text_some (readE_some h).1 (readE_some h).2
theorem readE_long {s : List UInt8} (h : 70 < s.length) : readE s = none := by
  cases hr : readE s with
  | none => rfl
  | some e => have := text_len' e; rw [(readE_some hr).1] at this; omega
theorem readE_text {e : List Int} (h : exprValid e = true) : readE (exprText e) = some e := readE_of rfl (text_pos h)
/-- What is read, if its text is the text. -/
def checkT (s : List UInt8) : Rs → Option (List Int)
  | none => none
  | some st => if exprText st.1 = s ∧ s ≠ [] then some st.1 else none
/-- Any reader that comes to what is read from texts in their places tells the same. -/
theorem readE_by {s : List UInt8} {R : Rs} (hR : ∀ e, exprText e = s → s ≠ [] → ∃ n, R = some (e, n)) : checkT s R = readE s := by
  cases hr : readE s with
  | some e =>
    obtain ⟨h1, h2⟩ := readE_some hr
    obtain ⟨n, hn⟩ := hR e h1 h2
    rw [hn, checkT]
    simp only [h1]
    rw [if_pos ⟨trivial, h2⟩]
  | none =>
    cases R with
    | none => rfl
    | some st =>
      show (if exprText st.1 = s ∧ s ≠ [] then some st.1 else none) = none
      by_cases hc : exprText st.1 = s ∧ s ≠ []
      · rw [readE_of hc.1 hc.2] at hr
        cases hr
      · rw [if_neg hc]
/-- The last letter of a text is no sign. -/
theorem txt_last : ∀ (t : Tr), t.ok → ∃ p c, t.txt = p ++ [c] ∧ c ≠ 43
  | .leaf s, ok => by
    refine ⟨[], leafCh s, rfl, ?_⟩
    have h0 := ok.1
    have h1 := ok.2
    rcases (by omega : s = 0 ∨ s = 1 ∨ s = 2 ∨ s = 3 ∨ s = 4 ∨ s = 5 ∨ s = 6 ∨ s = 7 ∨ s = 8 ∨ s = 9 ∨ s = 10 ∨ s = 11) with rfl | rfl | rfl | rfl | rfl | rfl | rfl | rfl | rfl | rfl | rfl | rfl <;> decide
  | .un s t, ok => by
    obtain ⟨p, c, h, hc⟩ := txt_last t ok.2
    cases hb : t.two (-1) with
    | true => exact ⟨signCh s :: 40 :: t.txt, 41, by simp [Tr.txt, hb, brk], by decide⟩
    | false => exact ⟨signCh s :: p, c, by simp [Tr.txt, hb, brk, h], hc⟩
  | .bin s l r, ok => by
    obtain ⟨p, c, h, hc⟩ := txt_last r ok.2.2
    cases hb : r.two (-1) with
    | true => exact ⟨brk (l.two s) l.txt ++ signCh s :: 40 :: r.txt, 41, by simp [Tr.txt, hb, brk], by decide⟩
    | false => exact ⟨brk (l.two s) l.txt ++ signCh s :: p, c, by simp [Tr.txt, hb, brk, h], hc⟩
theorem readE_plus (s : List UInt8) : readE (s ++ [43]) = none := by
  cases hr : readE (s ++ [43]) with
  | none => rfl
  | some e =>
    exfalso
    obtain ⟨h1, h2⟩ := readE_some hr
    have hv := readE_valid hr
    rw [text_valid hv] at h1
    obtain ⟨p, c, h3, hc⟩ := txt_last (tree e) (run_valid hv).2.1
    rw [h1] at h3
    have := List.append_inj' h3 rfl
    exact hc (by simpa using this.2.symm)
end Pl
end Go.Proofs.YtamhpgledbmnoaaGreatDoor
namespace Go.Proofs.YtamhpgledbmnoaaGreatDoor
set_option linter.unusedVariables false
set_option linter.unusedSimpArgs false
namespace Pl
def simp1 (s : Int) : Tr → Tr
  | .un q t => if s = 12 ∧ q = 12 then t else .un s (.un q t)
  | t => .un s t
def simp2 (s : Int) (a b : Tr) : Tr :=
  if a = b ∧ (s = 16 ∨ s = 19) then .leaf 0
  else if a = b ∧ (s = 17 ∨ s = 18) then a
  else if b = .leaf 0 ∧ s = 17 then .leaf 0
  else if b = .leaf 0 then a
  else if a = .leaf 0 ∧ s = 17 then .leaf 0
  else if a = .leaf 0 ∧ s ≠ 16 then b
  else .bin s a b
def simpT : Tr → Tr
  | .leaf s => .leaf s
  | .un s t => simp1 s (simpT t)
  | .bin s l r => simp2 s (simpT l) (simpT r)
theorem simp1_cases (s : Int) (t : Tr) : (s = 12 ∧ ∃ u, t = .un 12 u ∧ simp1 s t = u) ∨ simp1 s t = .un s t := by
  cases t with
  | leaf q => exact .inr rfl
  | bin q l r => exact .inr rfl
  | un q u =>
    by_cases h : s = 12 ∧ q = 12
    · obtain ⟨rfl, rfl⟩ := h
      exact .inl ⟨rfl, u, rfl, by simp [simp1]⟩
    · exact .inr (by simp only [simp1]; exact if_neg h)
theorem simp2_cases (s : Int) (a b : Tr) : simp2 s a b = .leaf 0 ∨ simp2 s a b = a ∨ simp2 s a b = b ∨ simp2 s a b = .bin s a b := by
  unfold simp2
  repeat' split
  all_goals simp
theorem zero_ok : (Tr.leaf 0).ok := ⟨by omega, by omega⟩
theorem simp1_ok {s : Int} {t : Tr} (hs : 12 ≤ s ∧ s < 15) (ht : t.ok) : (simp1 s t).ok := by
  rcases simp1_cases s t with ⟨_, u, rfl, h⟩ | h
  · rw [h]; exact ht.2
  · rw [h]; exact ⟨hs, ht⟩
theorem simp2_ok {s : Int} {a b : Tr} (hs : 15 ≤ s ∧ s ≤ 19) (ha : a.ok) (hb : b.ok) : (simp2 s a b).ok := by
  rcases simp2_cases s a b with h | h | h | h <;> rw [h]
  · exact zero_ok
  · exact ha
  · exact hb
  · exact ⟨hs, ha, hb⟩
theorem simpT_ok : ∀ t : Tr, t.ok → (simpT t).ok
  | .leaf s, h => h
  | .un s t, h => simp1_ok h.1 (simpT_ok t h.2)
  | .bin s l r, h => simp2_ok h.1 (simpT_ok l h.2.1) (simpT_ok r h.2.2)
theorem simp1_len (s : Int) (t : Tr) : (simp1 s t).post.length ≤ t.post.length + 1 := by
  rcases simp1_cases s t with ⟨_, u, rfl, h⟩ | h
  · rw [h]; simp [Tr.post]; omega
  · rw [h]; simp [Tr.post]
theorem simp2_len (s : Int) (a b : Tr) : (simp2 s a b).post.length ≤ a.post.length + b.post.length + 1 := by
  have h1 := a.post_pos
  have h2 := b.post_pos
  rcases simp2_cases s a b with h | h | h | h <;> rw [h]
  · simp [Tr.post]
  · omega
  · omega
  · simp only [Tr.post, List.length_append, List.length_cons, List.length_nil]
    omega
theorem simpT_len : ∀ t : Tr, (simpT t).post.length ≤ t.post.length
  | .leaf s => Nat.le_refl _
  | .un s t => by
    have := simpT_len t
    have := simp1_len s (simpT t)
    simp [simpT, Tr.post]; omega
  | .bin s l r => by
    have := simpT_len l
    have := simpT_len r
    have := simp2_len s (simpT l) (simpT r)
    simp [simpT, Tr.post]; omega
/-- A tree is as simple as can be. -/
def Simple : Tr → Prop
  | .leaf s => True
  | .un s t => Simple t ∧ simp1 s t = .un s t
  | .bin s l r => Simple l ∧ Simple r ∧ simp2 s l r = .bin s l r
theorem simp1_simple {s : Int} {t : Tr} (h : Simple t) : Simple (simp1 s t) := by
  rcases simp1_cases s t with ⟨_, u, rfl, e⟩ | e
  · rw [e]; exact h.1
  · rw [e]; exact ⟨h, e⟩
theorem simp2_simple {s : Int} {a b : Tr} (ha : Simple a) (hb : Simple b) : Simple (simp2 s a b) := by
  rcases simp2_cases s a b with h | h | h | h
  · rw [h]; trivial
  · rw [h]; exact ha
  · rw [h]; exact hb
  · rw [h]; exact ⟨ha, hb, h⟩
theorem simpT_simple : ∀ t : Tr, Simple (simpT t)
  | .leaf s => trivial
  | .un s t => simp1_simple (simpT_simple t)
  | .bin s l r => simp2_simple (simpT_simple l) (simpT_simple r)
theorem simple_same : ∀ t : Tr, Simple t → simpT t = t
  | .leaf s, h => rfl
  | .un s t, h => by rw [simpT, simple_same t h.1, h.2]
  | .bin s l r, h => by rw [simpT, simple_same l h.1, simple_same r h.2.1, h.2.2]
theorem simpT_again (t : Tr) : simpT (simpT t) = simpT t := simple_same _ (simpT_simple t)
/-- The value of a tree. -/
def tval (k x y : Int) : Tr → Int
  | .leaf s => leafv k s x y
  | .un s t => opv k s (tval k x y t) 0
  | .bin s l r => opv k s (tval k x y l) (tval k x y r)
theorem getD_snoc (st : List Int) (v : Int) : (st ++ [v]).getD st.length 0 = v := by
  rw [List.getD_eq_getElem?_getD, List.getElem?_append_right (Nat.le_refl _)]; simp
theorem eval_post (k x y : Int) : ∀ t : Tr, t.ok → ∀ st, t.post.foldl (pushS k x y) st = st ++ [tval k x y t]
  | .leaf s, h, st => by
    show pushS k x y st s = _
    unfold pushS; rw [if_pos (takes_0 h.2)]; rfl
  | .un s t, h, st => by
    show (t.post ++ [s]).foldl (pushS k x y) st = _
    rw [List.foldl_append, eval_post k x y t h.2 st]
    show pushS k x y (st ++ [tval k x y t]) s = _
    unfold pushS
    rw [takes_1 h.1.1 h.1.2, if_neg (by decide), if_pos rfl]
    have e : (st ++ [tval k x y t]).length - 1 = st.length := by simp
    rw [e, getD_snoc, List.take_left]
    rfl
  | .bin s l r, h, st => by
    show (l.post ++ r.post ++ [s]).foldl (pushS k x y) st = _
    rw [List.foldl_append, List.foldl_append, eval_post k x y l h.2.1 st, eval_post k x y r h.2.2]
    show pushS k x y (st ++ [tval k x y l] ++ [tval k x y r]) s = _
    unfold pushS
    rw [takes_2 h.1.1, if_neg (by decide), if_neg (by decide)]
    have e : (st ++ [tval k x y l] ++ [tval k x y r]).length - 2 = st.length := by simp
    have e1 : (st ++ [tval k x y l] ++ [tval k x y r]).length - 1 = (st ++ [tval k x y l]).length := by simp
    have e2 : (st ++ [tval k x y l] ++ [tval k x y r]).getD st.length 0 = tval k x y l := by
      rw [List.getD_eq_getElem?_getD, List.append_assoc, List.getElem?_append_right (Nat.le_refl _)]; simp
    have e3 : (st ++ [tval k x y l] ++ [tval k x y r]).take st.length = st := by rw [List.append_assoc, List.take_left]
    rw [e, e1, getD_snoc, e2, e3]
    rfl
theorem value_post (k x y : Int) (t : Tr) (h : t.ok) : value k t.post x y = tval k x y t := by
  unfold value evalS
  rw [eval_post k x y t h]
  rfl
theorem tval_word {k x y : Int} (hx0 : 0 ≤ x) (hx : x < pw k) (hy0 : 0 ≤ y) (hy : y < pw k) : ∀ t : Tr, 0 ≤ tval k x y t ∧ tval k x y t < pw k
  | .leaf s => leafv_lt hx0 hx hy0 hy
  | .un s t => by
    have := tval_word hx0 hx hy0 hy t
    have hp := pw_pos k
    exact opv_lt this.1 this.2 (by omega) (by omega)
  | .bin s l r => by
    have h1 := tval_word hx0 hx hy0 hy l
    have h2 := tval_word hx0 hx hy0 hy r
    exact opv_lt h1.1 h1.2 h2.1 h2.2
theorem leafv_0 (k x y : Int) : leafv k 0 x y = 0 := by
  unfold leafv
  rw [if_neg (by decide), if_neg (by decide)]
  exact wmod_0 k
theorem land_z (a : Int) : land a 0 = 0 := by unfold land; simp
theorem land_z' (a : Int) : land 0 a = 0 := by unfold land; simp
theorem lor_z (a : Int) (h : 0 ≤ a) : lor 0 a = a := by unfold lor; simp; omega
theorem lxor_z (a : Int) (h : 0 ≤ a) : lxor 0 a = a := by unfold lxor; simp; omega
theorem lxor_z' (a : Int) (h : 0 ≤ a) : lxor a 0 = a := by unfold lxor; simp; omega
theorem lxor_same (a : Int) : lxor a a = 0 := by unfold lxor; simp
theorem opv_not2 (k a : Int) : opv k 12 (opv k 12 a 0) 0 = a := by unfold opv; rw [if_pos rfl, if_pos rfl]; omega
theorem opv_16 (k a b : Int) : opv k 16 a b = wmod k (a - b) := rfl
theorem opv_17 (k a b : Int) : opv k 17 a b = land a b := rfl
theorem opv_18 (k a b : Int) : opv k 18 a b = lor a b := rfl
theorem opv_19 (k a b : Int) : opv k 19 a b = lxor a b := rfl
theorem opv_15 (k a b : Int) : opv k 15 a b = wmod k (a + b) := rfl
theorem simpT_val {k x y : Int} (hx0 : 0 ≤ x) (hx : x < pw k) (hy0 : 0 ≤ y) (hy : y < pw k) : ∀ t : Tr, t.ok → tval k x y (simpT t) = tval k x y t
  | .leaf s, h => rfl
  | .un s t, h => by
    have ih := simpT_val hx0 hx hy0 hy t h.2
    show tval k x y (simp1 s (simpT t)) = opv k s (tval k x y t) 0
    rw [← ih]
    rcases simp1_cases s (simpT t) with ⟨rfl, u, e, e'⟩ | e
    · rw [e', e]
      exact (opv_not2 k _).symm
    · rw [e]; rfl
  | .bin s l r, h => by
    have ih := simpT_val hx0 hx hy0 hy l h.2.1
    have ih' := simpT_val hx0 hx hy0 hy r h.2.2
    show tval k x y (simp2 s (simpT l) (simpT r)) = opv k s (tval k x y l) (tval k x y r)
    rw [← ih, ← ih']
    generalize simpT l = a
    generalize simpT r = b
    have ha := tval_word hx0 hx hy0 hy a
    have hb := tval_word hx0 hx hy0 hy b
    have hz : tval k x y (.leaf 0) = 0 := leafv_0 k x y
    have hs := h.1
    clear ih ih' h
    unfold simp2
    split
    · rename_i hc
      obtain ⟨rfl, rfl | rfl⟩ := hc
      · rw [hz, opv_16, Int.sub_self, wmod_0]
      · rw [hz, opv_19, lxor_same]
    · split
      · rename_i hc
        obtain ⟨rfl, rfl | rfl⟩ := hc
        · rw [opv_17, land_self _ ha.1]
        · rw [opv_18, lor, Nat.or_self]; omega
      · split
        · rename_i hc
          obtain ⟨rfl, rfl⟩ := hc
          rw [hz, opv_17, land_z]
        · split
          · rename_i hc hd
            subst hd
            rw [hz]
            rcases (by omega : s = 15 ∨ s = 16 ∨ s = 17 ∨ s = 18 ∨ s = 19) with rfl | rfl | rfl | rfl | rfl
            · rw [opv_15, Int.add_zero, wmod_small ha.1 ha.2]
            · rw [opv_16, Int.sub_zero, wmod_small ha.1 ha.2]
            · exact absurd ⟨rfl, rfl⟩ hc
            · rw [opv_18, lor_0 _ ha.1]
            · rw [opv_19, lxor_z' _ ha.1]
          · split
            · rename_i hc
              obtain ⟨rfl, rfl⟩ := hc
              rw [hz, opv_17, land_z']
            · split
              · rename_i hc hd
                obtain ⟨rfl, hd⟩ := hd
                rw [hz]
                rcases (by omega : s = 15 ∨ s = 17 ∨ s = 18 ∨ s = 19) with rfl | rfl | rfl | rfl
                · rw [opv_15, Int.zero_add, wmod_small hb.1 hb.2]
                · exact absurd ⟨rfl, rfl⟩ hc
                · rw [opv_18, lor_z _ hb.1]
                · rw [opv_19, lxor_z _ hb.1]
              · rfl
/-- A valid expression made simpler; nothing of others. -/
def exprSimple (e : List Int) : List Int := if exprValid e = true then (simpT (tree e)).post else []
theorem exprSimple_t {e : List Int} (h : exprValid e = true) : exprSimple e = (simpT (tree e)).post := by unfold exprSimple; rw [if_pos h]
theorem exprSimple_f {e : List Int} (h : exprValid e = false) : exprSimple e = [] := by unfold exprSimple; rw [h]; rfl
theorem simple_len {e : List Int} : (exprSimple e).length ≤ e.length := by
  unfold exprSimple
  split
  · rename_i h
    have := simpT_len (tree e)
    rw [(run_valid h).2.2] at this
    exact this
  · simp
theorem simple_valid {e : List Int} (h : exprValid e = true) : exprValid (exprSimple e) = true := by
  have h1 := simple_len (e := e)
  have h2 := (valid_t h).2.1
  rw [exprSimple_t h] at h1 ⊢
  exact valid_post (simpT_ok _ (run_valid h).2.1) (by omega)
theorem simple_again {e : List Int} (h : exprValid e = true) : exprSimple (exprSimple e) = exprSimple e := by
  have hv := simple_valid h
  rw [exprSimple_t hv, exprSimple_t h, tree_post (simpT_ok _ (run_valid h).2.1), simpT_again]
theorem simple_value {k x y : Int} {e : List Int} (h : exprValid e = true) (hv : v2 k x y = true) : valueOf k (exprSimple e) x y = valueOf k e x y := by
  obtain ⟨h0, h1, x0, x1, y0, y1⟩ := v2_t hv
  rw [valueOf_t (simple_valid h) hv, valueOf_t h hv, exprSimple_t h, value_post k x y _ (simpT_ok _ (run_valid h).2.1), simpT_val x0 x1 y0 y1 _ (run_valid h).2.1, ← value_post k x y _ (run_valid h).2.1, (run_valid h).2.2]
theorem simple_value' {k x y : Int} {e : List Int} (h : exprValid e = true) : valueOf k (exprSimple e) x y = valueOf k e x y := by
  cases hv : v2 k x y with
  | true => exact simple_value h hv
  | false => rw [valueOf_f (by rw [hv]; simp), valueOf_f (by rw [hv]; simp)]
end Pl
end Go.Proofs.YtamhpgledbmnoaaGreatDoor
namespace Go.Proofs.YtamhpgledbmnoaaGreatDoor.Pl
set_option linter.unusedVariables false
/-- The same value for all words of the width 3. -/
def same3 (e f : List Int) : Bool := (equalAt 3 e f).1
theorem pw_3 : pw 3 = ((8 : Nat) : Int) := by decide
theorem same3_iff {e f : List Int} : same3 e f = true ↔ exprValid e = true ∧ exprValid f = true ∧ ∀ x y : Nat, x < 8 → y < 8 → value 3 e x y = value 3 f x y := by
  constructor
  · intro h
    unfold same3 equalAt at h
    split at h
    · rename_i hc
      refine ⟨hc.2.1, hc.2.2, fun x y hx hy => ?_⟩
      rw [pw_3, Int.toNat_natCast] at h
      split at h
      · rename_i hn
        rw [List.find?_eq_none] at hn
        have := hn (8 * x + y) (List.mem_range.2 (by omega))
        unfold diffAt at this
        rw [show (8 * x + y) / 8 = x by omega, show (8 * x + y) % 8 = y by omega] at this
        simpa using this
      · cases h
    · cases h
  · rintro ⟨he, hf, h⟩
    unfold same3
    rw [equalAt_all (by omega) (by omega) he hf pw_3 h]
theorem same3_f {e f : List Int} (he : exprValid e = true) (hf : exprValid f = true) {c : Nat} (hc : c < 64) (h : value 3 e ((c / 8 : Nat) : Int) ((c % 8 : Nat) : Int) ≠ value 3 f ((c / 8 : Nat) : Int) ((c % 8 : Nat) : Int)) : same3 e f = false := by
  cases hs : same3 e f
  · rfl
  · exact absurd ((same3_iff.1 hs).2.2 (c / 8) (c % 8) (by omega) (by omega)) h
theorem same3_t {e f : List Int} (he : exprValid e = true) (hf : exprValid f = true) (h : ∀ c : Nat, c < 64 → value 3 e ((c / 8 : Nat) : Int) ((c % 8 : Nat) : Int) = value 3 f ((c / 8 : Nat) : Int) ((c % 8 : Nat) : Int)) : same3 e f = true := by
  refine same3_iff.2 ⟨he, hf, fun x y hx hy => ?_⟩
  have := h (8 * x + y) (by omega)
  rw [show (8 * x + y) / 8 = x by omega, show (8 * x + y) % 8 = y by omega] at this
  exact this
theorem same3_trans {e f g : List Int} (h : same3 e f = true) (h' : same3 f g = true) : same3 e g = true := by
  obtain ⟨a1, a2, a3⟩ := same3_iff.1 h
  obtain ⟨b1, b2, b3⟩ := same3_iff.1 h'
  exact same3_iff.2 ⟨a1, b2, fun x y hx hy => (a3 x y hx hy).trans (b3 x y hx hy)⟩
theorem same3_refl {e : List Int} (h : exprValid e = true) : same3 e e = true := same3_iff.2 ⟨h, h, fun _ _ _ _ => rfl⟩

/-- The first values for the width 3. -/
def wants (e : List Int) (c : Nat) : List Int := (List.range c).map fun (c : Nat) => value 3 e ((c / 8 : Nat) : Int) ((c % 8 : Nat) : Int)
theorem wants_len (e : List Int) (c : Nat) : (wants e c).length = c := by simp [wants]
theorem wants_succ (e : List Int) (c : Nat) : wants e (c + 1) = wants e c ++ [value 3 e ((c / 8 : Nat) : Int) ((c % 8 : Nat) : Int)] := by simp [wants, List.range_succ]
theorem wants_get (e : List Int) {c n : Nat} (h : c < n) : (wants e n)[c]? = some (value 3 e ((c / 8 : Nat) : Int) ((c % 8 : Nat) : Int)) := by simp [wants, h]
theorem v2_64 {c : Nat} (h : c < 64) : v2 3 ((c / 8 : Nat) : Int) ((c % 8 : Nat) : Int) = true :=
  v2_mk (wv_mk (by omega) (by omega) (by omega) (by rw [pw_3]; omega)) (wv_mk (by omega) (by omega) (by omega) (by rw [pw_3]; omega))
theorem quo_8 (c : Nat) : ((c : Int)).tdiv 8 = ((c / 8 : Nat) : Int) := by rw [Int.tdiv_eq_ediv_of_nonneg (by omega)]; omega
theorem rem_8 (c : Nat) : ((c : Int)).tmod 8 = ((c % 8 : Nat) : Int) := by rw [Int.tmod_eq_emod_of_nonneg (by omega)]; omega

def lvs : List Int := [0, 1, 10, 11]
def unsTo (e : List Int) (m : Nat) : List (List Int) := (List.range m).map fun (i : Nat) => e ++ [12 + (i : Int)]
def binsTo (e : List Int) (b : Int) (m : Nat) : List (List Int) := (List.range m).map fun (i : Nat) => e ++ [b, 15 + (i : Int)]
def uns (e : List Int) : List (List Int) := unsTo e 3
def bins (e : List Int) (b : Int) : List (List Int) := binsTo e b 5
def binsL (e : List Int) : List (List Int) := lvs.flatMap (bins e)
theorem unsTo_len (e : List Int) (m : Nat) : (unsTo e m).length = m := by simp [unsTo]
theorem binsTo_len (e : List Int) (b : Int) (m : Nat) : (binsTo e b m).length = m := by simp [binsTo]
theorem unsTo_succ (e : List Int) (m : Nat) : unsTo e (m + 1) = unsTo e m ++ [e ++ [12 + (m : Int)]] := by simp [unsTo, List.range_succ]
theorem binsTo_succ (e : List Int) (b : Int) (m : Nat) : binsTo e b (m + 1) = binsTo e b m ++ [e ++ [b, 15 + (m : Int)]] := by simp [binsTo, List.range_succ]
theorem flat_len {α β : Type} (F : α → List β) (m : Nat) (hF : ∀ e, (F e).length ≤ m) : ∀ L : List α, (L.flatMap F).length ≤ L.length * m
  | [] => by simp
  | a :: L => by
    have h1 := flat_len F m hF L
    have h2 := hF a
    simp only [List.flatMap_cons, List.length_append, List.length_cons, Nat.add_mul]
    omega
theorem flat_take {α β : Type} (F : α → List β) (m : Nat) (hF : ∀ e, (F e).length ≤ m) (L : List α) (k : Nat) : ((L.take k).flatMap F).length ≤ L.length * m := by
  refine Nat.le_trans (flat_len F m hF _) (Nat.mul_le_mul_right m ?_)
  rw [List.length_take]
  omega
theorem uns_len (e : List Int) : (uns e).length ≤ 3 := by unfold uns; rw [unsTo_len]; omega
theorem bins_len (e : List Int) (b : Int) : (bins e b).length ≤ 5 := by unfold bins; rw [binsTo_len]; omega
theorem binsL_len (e : List Int) : (binsL e).length ≤ 20 := flat_len (bins e) 5 (bins_len e) lvs
def nones : List (List Int) := [[0], [1], [10], [11]]
def onces : List (List Int) := nones.flatMap uns ++ nones.flatMap binsL
def twices : List (List Int) := onces.flatMap uns ++ onces.flatMap binsL
def shorts : List (List Int) := nones ++ onces ++ twices
theorem onces_len : onces.length = 92 := by decide +kernel
theorem twices_len : twices.length = 2116 := by decide +kernel
theorem shorts_len : shorts.length = 2212 := by decide +kernel
theorem nones_short : nones.all (fun e => decide (1 ≤ e.length) && decide (e.length ≤ 3)) = true := by decide +kernel
theorem onces_short : onces.all (fun e => decide (1 ≤ e.length) && decide (e.length ≤ 3)) = true := by decide +kernel
theorem shorts_all : shorts.all (fun e => exprValid e && decide (worksL e ≤ 2) && decide (e.length ≤ 5)) = true := by decide +kernel
theorem shorts_mem {e : List Int} (h : e ∈ shorts) : exprValid e = true ∧ worksL e ≤ 2 ∧ e.length ≤ 5 := by
  have := List.all_eq_true.1 shorts_all e h
  simp at this
  exact ⟨this.1.1, this.1.2, this.2⟩
theorem nones_mem {e : List Int} (h : e ∈ nones) : 1 ≤ e.length ∧ e.length ≤ 3 := by
  have := List.all_eq_true.1 nones_short e h
  simpa using this
theorem onces_mem {e : List Int} (h : e ∈ onces) : 1 ≤ e.length ∧ e.length ≤ 3 := by
  have := List.all_eq_true.1 onces_short e h
  simpa using this
theorem nones_len' : nones.length = 4 := rfl
theorem onces_len' : onces.length = 92 := onces_len
theorem at_of {L : List (List Int)} {k n : Nat} (hl : L.length = n) (hk : k < n) : ∃ e, L[k]? = some e ∧ e ∈ L :=
  ⟨L[k]'(by omega), List.getElem?_eq_getElem _, List.getElem_mem _⟩
theorem flat_snoc {α β : Type} {L : List α} (F : α → List β) {k : Nat} {e : α} (h : L[k]? = some e) : (L.take (k + 1)).flatMap F = (L.take k).flatMap F ++ F e := by
  rw [List.take_add_one, h]
  simp
theorem take_snocL {α : Type} {L : List α} {k : Nat} {e : α} (h : L[k]? = some e) : L.take (k + 1) = L.take k ++ [e] := by rw [List.take_add_one, h]; rfl
theorem flat_all {α β : Type} {L : List α} (F : α → List β) {k : Nat} (h : L.length ≤ k) : (L.take k).flatMap F = L.flatMap F := by rw [List.take_of_length_le h]

/-- The first short expression that does the same. -/
def shortFor (e : List Int) : Option (List Int) := if exprValid e = true then shorts.find? (same3 e) else none
theorem short_f {e : List Int} (h : exprValid e = false) : shortFor e = none := by unfold shortFor; rw [h]; rfl
theorem short_at {e f : List Int} (he : exprValid e = true) {k : Nat} (hk : shorts[k]? = some f) (hb : ∀ j, j < k → ∀ g, shorts[j]? = some g → same3 e g = false) (hs : same3 e f = true) : shortFor e = some f := by
  unfold shortFor
  rw [if_pos he, List.find?_eq_some_iff_getElem]
  obtain ⟨hl, hg⟩ := List.getElem?_eq_some_iff.1 hk
  exact ⟨hs, k, hl, hg, fun j hj => by rw [hb j hj _ (List.getElem?_eq_getElem (by omega))]; rfl⟩
theorem short_none {e : List Int} (he : exprValid e = true) (hb : ∀ j, j < 2212 → ∀ g, shorts[j]? = some g → same3 e g = false) : shortFor e = none := by
  unfold shortFor
  rw [if_pos he, List.find?_eq_none]
  intro g hg
  obtain ⟨j, hj, e⟩ := List.mem_iff_getElem.1 hg
  rw [hb j (by rw [← shorts_len]; exact hj) g (by rw [← e]; exact List.getElem?_eq_getElem hj)]
  decide
theorem short_some {e f : List Int} (h : shortFor e = some f) : exprValid e = true ∧ same3 e f = true ∧ (exprValid f = true ∧ worksL f ≤ 2 ∧ f.length ≤ 5) ∧ shortFor f = some f := by
  unfold shortFor at h
  by_cases he : exprValid e = true
  · rw [if_pos he, List.find?_eq_some_iff_getElem] at h
    obtain ⟨h1, k, hk, h2, h3⟩ := h
    have hm := shorts_mem (List.mem_iff_getElem.2 ⟨k, hk, h2⟩)
    refine ⟨he, h1, hm, ?_⟩
    unfold shortFor
    rw [if_pos hm.1, List.find?_eq_some_iff_getElem]
    refine ⟨same3_refl hm.1, k, hk, h2, fun j hj => ?_⟩
    have h4 := h3 j hj
    cases hs : same3 f shorts[j]
    · rfl
    · rw [same3_trans h1 hs] at h4
      exact h4
  · rw [if_neg he] at h
    cases h
end Go.Proofs.YtamhpgledbmnoaaGreatDoor.Pl
