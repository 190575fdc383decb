/-
  Plain laws on and, or, xor of words, and on the words of the operations without branches. No program is in sight.
  Conditions: as stated at each.
-/
import Derived.Test.YtnjcephddilalabPl
namespace Go.Proofs.Ytnjcephddilalab
set_option linter.unusedVariables false
set_option linter.unusedSimpArgs false
open Go.RowKit
namespace Pl

def land (a b : Int) : Int := ((a.toNat &&& b.toNat : Nat) : Int)
def lor (a b : Int) : Int := ((a.toNat ||| b.toNat : Nat) : Int)
def lxor (a b : Int) : Int := ((a.toNat ^^^ b.toNat : Nat) : Int)

theorem ofInt_i64 (a : Nat) (ha : a < 9223372036854775808) : (BitVec.ofInt 64 (a : Int)).toNat = a := by
  rw [BitVec.ofInt_natCast, BitVec.toNat_ofNat]; exact Nat.mod_eq_of_lt (by omega)
theorem i64_and (a b : Int) (h0 : 0 ≤ a) (h1 : a < 9223372036854775808) (h2 : 0 ≤ b) (h3 : b < 9223372036854775808) : bits .and .i64 a b = land a b := by
  obtain ⟨a, rfl⟩ := Int.eq_ofNat_of_zero_le h0
  obtain ⟨b, rfl⟩ := Int.eq_ofNat_of_zero_le h2
  have hx : a &&& b < 2 ^ 63 := Nat.and_lt_two_pow _ (by omega)
  show IntKind.i64.wrap ((BitVec.ofInt 64 (a : Int) &&& BitVec.ofInt 64 (b : Int)).toNat : Int) = _
  rw [BitVec.toNat_and, ofInt_i64 a (by omega), ofInt_i64 b (by omega), IntKind.wrap_i64]
  unfold land; simp only [Int.toNat_natCast]; omega
theorem i64_or (a b : Int) (h0 : 0 ≤ a) (h1 : a < 9223372036854775808) (h2 : 0 ≤ b) (h3 : b < 9223372036854775808) : bits .or .i64 a b = lor a b := by
  obtain ⟨a, rfl⟩ := Int.eq_ofNat_of_zero_le h0
  obtain ⟨b, rfl⟩ := Int.eq_ofNat_of_zero_le h2
  have hx : a ||| b < 2 ^ 63 := Nat.or_lt_two_pow (by omega) (by omega)
  show IntKind.i64.wrap ((BitVec.ofInt 64 (a : Int) ||| BitVec.ofInt 64 (b : Int)).toNat : Int) = _
  rw [BitVec.toNat_or, ofInt_i64 a (by omega), ofInt_i64 b (by omega), IntKind.wrap_i64]
  unfold lor; simp only [Int.toNat_natCast]; omega
theorem i64_xor (a b : Int) (h0 : 0 ≤ a) (h1 : a < 9223372036854775808) (h2 : 0 ≤ b) (h3 : b < 9223372036854775808) : bits .xor .i64 a b = lxor a b := by
  obtain ⟨a, rfl⟩ := Int.eq_ofNat_of_zero_le h0
  obtain ⟨b, rfl⟩ := Int.eq_ofNat_of_zero_le h2
  have hx : a ^^^ b < 2 ^ 63 := Nat.xor_lt_two_pow (by omega) (by omega)
  show IntKind.i64.wrap ((BitVec.ofInt 64 (a : Int) ^^^ BitVec.ofInt 64 (b : Int)).toNat : Int) = _
  rw [BitVec.toNat_xor, ofInt_i64 a (by omega), ofInt_i64 b (by omega), IntKind.wrap_i64]
  unfold lxor; simp only [Int.toNat_natCast]; omega

/-! ### splits at a place -/
theorem nat_and_split (k a b c d : Nat) (ha : a < 2 ^ k) (hb : b < 2 ^ k) : (2 ^ k * c + a) &&& (2 ^ k * d + b) = 2 ^ k * (c &&& d) + (a &&& b) := by
  have hab : a &&& b < 2 ^ k := Nat.and_lt_two_pow _ hb
  apply Nat.eq_of_testBit_eq
  intro i
  rw [Nat.testBit_and, Nat.testBit_two_pow_mul_add _ ha, Nat.testBit_two_pow_mul_add _ hb, Nat.testBit_two_pow_mul_add _ hab]
  split <;> simp
theorem nat_or_split (k a b c d : Nat) (ha : a < 2 ^ k) (hb : b < 2 ^ k) : (2 ^ k * c + a) ||| (2 ^ k * d + b) = 2 ^ k * (c ||| d) + (a ||| b) := by
  have hab : a ||| b < 2 ^ k := Nat.or_lt_two_pow ha hb
  apply Nat.eq_of_testBit_eq
  intro i
  rw [Nat.testBit_or, Nat.testBit_two_pow_mul_add _ ha, Nat.testBit_two_pow_mul_add _ hb, Nat.testBit_two_pow_mul_add _ hab]
  split <;> simp
theorem nat_xor_split (k a b c d : Nat) (ha : a < 2 ^ k) (hb : b < 2 ^ k) : (2 ^ k * c + a) ^^^ (2 ^ k * d + b) = 2 ^ k * (c ^^^ d) + (a ^^^ b) := by
  have hab : a ^^^ b < 2 ^ k := Nat.xor_lt_two_pow ha hb
  apply Nat.eq_of_testBit_eq
  intro i
  rw [Nat.testBit_xor, Nat.testBit_two_pow_mul_add _ ha, Nat.testBit_two_pow_mul_add _ hb, Nat.testBit_two_pow_mul_add _ hab]
  split <;> simp
theorem nat_mod_succ (x k : Nat) : x % 2 ^ (k + 1) = 2 ^ k * (x / 2 ^ k % 2) + x % 2 ^ k := by
  rw [Nat.pow_succ, Nat.mod_mul]; omega
theorem nat_and_bits (a b : Nat) (ha : a < 2) (hb : b < 2) : a &&& b = a * b := by
  have h1 : a = 0 ∨ a = 1 := by omega
  have h2 : b = 0 ∨ b = 1 := by omega
  rcases h1 with rfl | rfl <;> rcases h2 with rfl | rfl <;> rfl
theorem nat_and_step (x y k : Nat) : (x % 2 ^ (k + 1)) &&& (y % 2 ^ (k + 1)) = (x % 2 ^ k &&& y % 2 ^ k) + 2 ^ k * ((x / 2 ^ k % 2) * (y / 2 ^ k % 2)) := by
  have hp : 0 < 2 ^ k := Nat.pow_pos (by decide)
  rw [nat_mod_succ, nat_mod_succ, nat_and_split _ _ _ _ _ (Nat.mod_lt _ hp) (Nat.mod_lt _ hp), nat_and_bits _ _ (by omega) (by omega)]; omega

theorem land_0 (a : Int) : land a 0 = 0 := by simp [land]
theorem zero_land (a : Int) : land 0 a = 0 := by simp [land]
theorem land_nonneg (a b : Int) : 0 ≤ land a b := by unfold land; omega
theorem lor_nonneg (a b : Int) : 0 ≤ lor a b := by unfold lor; omega
theorem lxor_nonneg (a b : Int) : 0 ≤ lxor a b := by unfold lxor; omega
theorem pw_natlt {a k : Int} (h0 : 0 ≤ a) (h : a < pw k) : a.toNat < 2 ^ k.toNat := by
  unfold pw at h
  have : ((2 ^ k.toNat : Nat) : Int) = 2 ^ k.toNat := by simp
  omega
theorem natlt_pw {a : Nat} {k : Int} (h : a < 2 ^ k.toNat) : (a : Int) < pw k := by
  unfold pw
  have : ((2 ^ k.toNat : Nat) : Int) = 2 ^ k.toNat := by simp
  omega
theorem land_lt {a b k : Int} (h2 : 0 ≤ b) (h3 : b < pw k) : land a b < pw k := natlt_pw (Nat.and_lt_two_pow _ (pw_natlt h2 h3))
theorem lor_lt {a b k : Int} (h0 : 0 ≤ a) (h1 : a < pw k) (h2 : 0 ≤ b) (h3 : b < pw k) : lor a b < pw k := natlt_pw (Nat.or_lt_two_pow (pw_natlt h0 h1) (pw_natlt h2 h3))
theorem lxor_lt {a b k : Int} (h0 : 0 ≤ a) (h1 : a < pw k) (h2 : 0 ≤ b) (h3 : b < pw k) : lxor a b < pw k := natlt_pw (Nat.xor_lt_two_pow (pw_natlt h0 h1) (pw_natlt h2 h3))
theorem land_le_l (a b : Int) (h0 : 0 ≤ a) : land a b ≤ a := by
  unfold land; have := Nat.and_le_left (n := a.toNat) (m := b.toNat); omega
theorem land_le_r (a b : Int) (h0 : 0 ≤ b) : land a b ≤ b := by
  unfold land; have := Nat.and_le_right (n := a.toNat) (m := b.toNat); omega

/-- a + b by their common bits. -/
theorem nat_xor_and (a b : Nat) : (a ^^^ b) + 2 * (a &&& b) = a + b := by
  induction a using Nat.strongRecOn generalizing b with
  | _ a ih =>
    by_cases h0 : a = 0
    · subst h0; simp
    · have h1 := ih (a / 2) (by omega) (b / 2)
      have ea : a = 2 ^ 1 * (a / 2) + a % 2 := by omega
      have eb : b = 2 ^ 1 * (b / 2) + b % 2 := by omega
      have h2 := nat_xor_split 1 (a % 2) (b % 2) (a / 2) (b / 2) (by omega) (by omega)
      have h3 := nat_and_split 1 (a % 2) (b % 2) (a / 2) (b / 2) (by omega) (by omega)
      rw [← ea, ← eb] at h2 h3
      have hx : a % 2 = 0 ∨ a % 2 = 1 := by omega
      have hy : b % 2 = 0 ∨ b % 2 = 1 := by omega
      rcases hx with hx | hx <;> rcases hy with hy | hy <;> simp only [hx, hy] at h2 h3 <;> simp at h2 h3 <;> omega
theorem nat_or_and (a b : Nat) : (a ||| b) + (a &&& b) = a + b := by
  induction a using Nat.strongRecOn generalizing b with
  | _ a ih =>
    by_cases h0 : a = 0
    · subst h0; simp
    · have h1 := ih (a / 2) (by omega) (b / 2)
      have ea : a = 2 ^ 1 * (a / 2) + a % 2 := by omega
      have eb : b = 2 ^ 1 * (b / 2) + b % 2 := by omega
      have h2 := nat_or_split 1 (a % 2) (b % 2) (a / 2) (b / 2) (by omega) (by omega)
      have h3 := nat_and_split 1 (a % 2) (b % 2) (a / 2) (b / 2) (by omega) (by omega)
      rw [← ea, ← eb] at h2 h3
      have hx : a % 2 = 0 ∨ a % 2 = 1 := by omega
      have hy : b % 2 = 0 ∨ b % 2 = 1 := by omega
      rcases hx with hx | hx <;> rcases hy with hy | hy <;> simp only [hx, hy] at h2 h3 <;> simp at h2 h3 <;> omega
theorem lxor_land (a b : Int) (h0 : 0 ≤ a) (h1 : 0 ≤ b) : lxor a b = a + b - 2 * land a b := by
  have := nat_xor_and a.toNat b.toNat
  unfold lxor land; omega
theorem lor_land (a b : Int) (h0 : 0 ≤ a) (h1 : 0 ≤ b) : lor a b = a + b - land a b := by
  have := nat_or_and a.toNat b.toNat
  unfold lor land; omega
theorem lxor_self_l (a b : Int) (h1 : 0 ≤ a) (h2 : 0 ≤ b) : lxor b (lxor a b) = a := by
  unfold lxor
  rw [Int.toNat_natCast, Nat.xor_comm a.toNat, ← Nat.xor_assoc, Nat.xor_self, Nat.zero_xor]
  omega
/-- 'and' with all bits. -/
theorem land_all (k a : Int) (h0 : 0 ≤ a) (h1 : a < pw k) : land (pw k - 1) a = a := by
  have h := pw_natlt h0 h1
  have e : (pw k - 1).toNat = 2 ^ k.toNat - 1 := by
    have hp : 0 < 2 ^ k.toNat := Nat.pow_pos (by decide)
    have : ((2 ^ k.toNat : Nat) : Int) = 2 ^ k.toNat := by simp
    unfold pw
    omega
  unfold land
  rw [e, Nat.and_comm, Nat.and_two_pow_sub_one_eq_mod, Nat.mod_eq_of_lt h]
  omega
theorem land_all' (k a : Int) (h0 : 0 ≤ a) (h1 : a < pw k) : land a (pw k - 1) = a := by
  have h := land_all k a h0 h1
  unfold land at *
  rwa [Nat.and_comm]
theorem land_self (a : Int) (h : 0 ≤ a) : land a a = a := by unfold land; rw [Nat.and_self]; omega
/-- xor with all bits is the negation. -/
theorem lxor_all (k a : Int) (h0 : 0 ≤ a) (h1 : a < pw k) : lxor a (pw k - 1) = pw k - 1 - a := by
  have hp := pw_pos k
  rw [lxor_land a _ h0 (by omega), land_all' k a h0 h1]; omega
theorem lxor_0 (a : Int) (h0 : 0 ≤ a) : lxor a 0 = a := by unfold lxor; simp; omega
theorem lor_all (k a : Int) (h0 : 0 ≤ a) (h1 : a < pw k) : lor a (pw k - 1) = pw k - 1 := by
  have hp := pw_pos k
  rw [lor_land a _ h0 (by omega), land_all' k a h0 h1]; omega
theorem lor_0 (a : Int) (h0 : 0 ≤ a) : lor a 0 = a := by unfold lor; simp; omega

/-- One round of the reference's 'and'. -/
theorem land_step (a b : Int) (k : Nat) (h0 : 0 ≤ a) (h1 : 0 ≤ b) :
    land (a % pw (k + 1)) (b % pw (k + 1)) = land (a % pw k) (b % pw k) + bt a k * bt b k * pw k := by
  obtain ⟨a, rfl⟩ := Int.eq_ofNat_of_zero_le h0
  obtain ⟨b, rfl⟩ := Int.eq_ofNat_of_zero_le h1
  have e1 : pw ((k : Int) + 1) = ((2 ^ (k + 1) : Nat) : Int) := pw_nat (k + 1)
  unfold bt land
  rw [e1, pw_nat k]
  have h := nat_and_step a b k
  simp only [← Int.natCast_emod, ← Int.natCast_ediv, Int.toNat_natCast]
  rw [h, Int.natCast_add, Int.natCast_mul, Int.natCast_mul, Int.mul_comm]
  rfl
theorem land_mod (a b : Int) (k : Int) (h0 : 0 ≤ a) (h1 : a < pw k) (h2 : 0 ≤ b) (h3 : b < pw k) : land (a % pw k) (b % pw k) = land a b := by
  rw [Int.emod_eq_of_lt h0 h1, Int.emod_eq_of_lt h2 h3]
theorem land_pw0 (a b : Int) : land (a % pw 0) (b % pw 0) = 0 := by
  show land (a % 1) (b % 1) = 0
  rw [Int.emod_one, Int.emod_one]; rfl

theorem wrap64_small (n : Int) (h : -9223372036854775808 ≤ n) (h' : n ≤ 9223372036854775807) : wrap64 n = n := by unfold wrap64; omega
theorem round_arith (x p u v : Int) (h0 : 0 ≤ x) (h1 : x ≤ 1073741824) (h2 : 0 ≤ p) (h3 : p ≤ 1073741824) (hu : u = 0 ∨ u = 1) (hv : v = 0 ∨ v = 1) :
    wrap64 (x + wrap64 (wrap64 (u * v) * p)) = x + u * v * p := by
  rcases hu with rfl | rfl <;> rcases hv with rfl | rfl <;>
    simp only [Int.zero_mul, Int.mul_zero, Int.one_mul, wrap64_small 0 (by omega) (by omega), wrap64_small 1 (by omega) (by omega), Int.add_zero] <;>
    first | exact wrap64_small _ (by omega) (by omega) | (rw [wrap64_small p (by omega) (by omega)]; exact wrap64_small _ (by omega) (by omega))
theorem and_round (a b : Int) (k : Nat) (hk : k < 30) (h0 : 0 ≤ a) (h1 : 0 ≤ b) :
    wrap64 (land (a % pw k) (b % pw k) + wrap64 (wrap64 (bt a k * bt b k) * 2 ^ k)) = land (a % pw (k + 1)) (b % pw (k + 1)) := by
  rw [land_step a b k h0 h1]
  have hm := mod_lt a k
  have hl := land_le_l (a % pw k) (b % pw k) hm.1
  have hl0 := land_nonneg (a % pw k) (b % pw k)
  have hp : pw k ≤ 1073741824 := by
    have h30 : pw 30 = 1073741824 := by decide
    have := pw_le k 30 (by omega)
    omega
  have hp0 := pw_pos k
  have e : (2 : Int) ^ k = pw k := by rw [pw_nat]; simp
  rw [e]
  exact round_arith _ _ _ _ hl0 (by omega) (by omega) hp (bt_or a k) (bt_or b k)

/-- Unary '^'. -/
theorem xor_neg1 (x : Int) (h : -9223372036854775808 ≤ x) (h' : x ≤ 9223372036854775807) : bits .xor .i64 x (-1) = -x - 1 := by
  show IntKind.i64.wrap ((BitVec.ofInt 64 x ^^^ BitVec.ofInt 64 (-1)).toNat : Int) = _
  have e : BitVec.ofInt 64 (-1) = BitVec.allOnes 64 := by decide
  rw [e, BitVec.xor_allOnes, BitVec.toNat_not, IntKind.wrap_i64]
  have h2 := ofInt_toNat64 x
  omega
theorem xor_zero (x : Int) (h : -9223372036854775808 ≤ x) (h' : x ≤ 9223372036854775807) : bits .xor .i64 x 0 = x := by
  show IntKind.i64.wrap ((BitVec.ofInt 64 x ^^^ BitVec.ofInt 64 0).toNat : Int) = _
  have e : BitVec.ofInt 64 0 = 0#64 := by decide
  rw [e, BitVec.xor_zero, IntKind.wrap_i64]
  have h2 := ofInt_toNat64 x
  omega

theorem neg1_xor (x : Int) (h : -9223372036854775808 ≤ x) (h' : x ≤ 9223372036854775807) : bits .xor .i64 (-1) x = -x - 1 := by
  rw [← xor_neg1 x h h']
  show IntKind.i64.wrap ((BitVec.ofInt 64 (-1) ^^^ BitVec.ofInt 64 x).toNat : Int) = IntKind.i64.wrap ((BitVec.ofInt 64 x ^^^ BitVec.ofInt 64 (-1)).toNat : Int)
  rw [BitVec.xor_comm]

end Pl
end Go.Proofs.Ytnjcephddilalab
