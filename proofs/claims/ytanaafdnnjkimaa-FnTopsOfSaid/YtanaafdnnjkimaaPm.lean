/-
  Sums, differences and zeros of all lanes at once: the reference's formulas are the lane by lane values. No program is in sight.
-/
import Derived.Test.YtanaafdnnjkimaaPn
namespace Go.Proofs.Ytanaafdnnjkimaa
set_option linter.unusedVariables false
set_option linter.unusedSimpArgs false
open Go.RowKit
namespace Pl
/-- The word whose i-th lane of L bits is f i, for i below m (f i < 2^L). -/
def joinN (L : Nat) (f : Nat → Nat) : Nat → Nat
  | 0 => 0
  | m + 1 => 2 ^ (m * L) * f m + joinN L f m
theorem joinN_lt (L : Nat) (f : Nat → Nat) (hf : ∀ i, f i < 2 ^ L) : ∀ m, joinN L f m < 2 ^ (m * L)
  | 0 => by simp [joinN]
  | m + 1 => by
    have h := joinN_lt L f hf m
    have e : 2 ^ ((m + 1) * L) = 2 ^ (m * L) * 2 ^ L := by rw [Nat.add_mul, Nat.one_mul, Nat.pow_add]
    have h2 : 2 ^ (m * L) * (f m + 1) ≤ 2 ^ (m * L) * 2 ^ L := Nat.mul_le_mul_left _ (hf m)
    rw [Nat.mul_add, Nat.mul_one] at h2
    unfold joinN
    omega
theorem joinN_congr (L : Nat) (f g : Nat → Nat) : ∀ m, (∀ i, i < m → f i = g i) → joinN L f m = joinN L g m
  | 0, _ => rfl
  | m + 1, h => by
    unfold joinN
    rw [h m (by omega), joinN_congr L f g m (fun i hi => h i (by omega))]
theorem lane_low (L x i m : Nat) (hi : i < m) : x / 2 ^ (i * L) % 2 ^ L = (x % 2 ^ (m * L)) / 2 ^ (i * L) % 2 ^ L := by
  obtain ⟨t, rfl⟩ : ∃ t, m = i + (1 + t) := ⟨m - i - 1, by omega⟩
  have e2 : 2 ^ ((i + (1 + t)) * L) = 2 ^ (i * L) * (2 ^ L * 2 ^ (t * L)) := by
    rw [Nat.add_mul, Nat.add_mul, Nat.one_mul, Nat.pow_add, Nat.pow_add]
  rw [e2, Nat.mod_mul_right_div_self, Nat.mod_mul_right_mod]
/-- A number below 2^(m L) is made of its lanes. -/
theorem joinN_self (L x : Nat) : ∀ m, x < 2 ^ (m * L) → joinN L (fun i => x / 2 ^ (i * L) % 2 ^ L) m = x
  | 0, h => by simp at h; simp [joinN, h]
  | m + 1, h => by
    have hp : 0 < 2 ^ (m * L) := Nat.pow_pos (by decide)
    have e : 2 ^ ((m + 1) * L) = 2 ^ (m * L) * 2 ^ L := by rw [Nat.add_mul, Nat.one_mul, Nat.pow_add]
    have hq : x / 2 ^ (m * L) < 2 ^ L := by rw [Nat.div_lt_iff_lt_mul hp, Nat.mul_comm]; rwa [e] at h
    unfold joinN
    rw [Nat.mod_eq_of_lt hq]
    have hlow : joinN L (fun i => x / 2 ^ (i * L) % 2 ^ L) m = joinN L (fun i => (x % 2 ^ (m * L)) / 2 ^ (i * L) % 2 ^ L) m := by
      apply joinN_congr
      intro i hi
      exact lane_low L x i m hi
    rw [hlow, joinN_self L (x % 2 ^ (m * L)) m (Nat.mod_lt _ hp)]
    exact Nat.div_add_mod x _
theorem joinN_and (L : Nat) (f g : Nat → Nat) (hf : ∀ i, f i < 2 ^ L) (hg : ∀ i, g i < 2 ^ L) : ∀ m, joinN L f m &&& joinN L g m = joinN L (fun i => f i &&& g i) m
  | 0 => by simp [joinN]
  | m + 1 => by
    unfold joinN
    rw [nat_and_split _ _ _ _ _ (joinN_lt L f hf m) (joinN_lt L g hg m), joinN_and L f g hf hg m]
theorem joinN_or (L : Nat) (f g : Nat → Nat) (hf : ∀ i, f i < 2 ^ L) (hg : ∀ i, g i < 2 ^ L) : ∀ m, joinN L f m ||| joinN L g m = joinN L (fun i => f i ||| g i) m
  | 0 => by simp [joinN]
  | m + 1 => by
    unfold joinN
    rw [nat_or_split _ _ _ _ _ (joinN_lt L f hf m) (joinN_lt L g hg m), joinN_or L f g hf hg m]
theorem joinN_xor (L : Nat) (f g : Nat → Nat) (hf : ∀ i, f i < 2 ^ L) (hg : ∀ i, g i < 2 ^ L) : ∀ m, joinN L f m ^^^ joinN L g m = joinN L (fun i => f i ^^^ g i) m
  | 0 => by simp [joinN]
  | m + 1 => by
    unfold joinN
    rw [nat_xor_split _ _ _ _ _ (joinN_lt L f hf m) (joinN_lt L g hg m), joinN_xor L f g hf hg m]
theorem joinN_add (L : Nat) (f g : Nat → Nat) : ∀ m, joinN L f m + joinN L g m = joinN L (fun i => f i + g i) m
  | 0 => rfl
  | m + 1 => by
    unfold joinN
    rw [← joinN_add L f g m, Nat.mul_add]
    omega
theorem joinN_sub (L : Nat) (f g : Nat → Nat) (h : ∀ i, g i ≤ f i) : ∀ m, joinN L f m - joinN L g m = joinN L (fun i => f i - g i) m ∧ joinN L g m ≤ joinN L f m
  | 0 => ⟨rfl, Nat.le_refl _⟩
  | m + 1 => by
    obtain ⟨h1, h2⟩ := joinN_sub L f g h m
    unfold joinN
    have h3 := Nat.mul_le_mul_left (2 ^ (m * L)) (h m)
    rw [← h1, Nat.mul_sub]
    omega
theorem joinN_all (L : Nat) : ∀ m, joinN L (fun _ => 2 ^ L - 1) m = 2 ^ (m * L) - 1
  | 0 => by simp [joinN]
  | m + 1 => by
    have e : 2 ^ ((m + 1) * L) = 2 ^ (m * L) * 2 ^ L := by rw [Nat.add_mul, Nat.one_mul, Nat.pow_add]
    have hp : 0 < 2 ^ (m * L) := Nat.pow_pos (by decide)
    have hq : 0 < 2 ^ L := Nat.pow_pos (by decide)
    unfold joinN
    rw [joinN_all L m, e, Nat.mul_sub, Nat.mul_one]
    have : 2 ^ (m * L) ≤ 2 ^ (m * L) * 2 ^ L := Nat.le_mul_of_pos_right _ hq
    omega

/-! ### one lane: L = j + 1 bits, the top bit is 2^j -/
section
variable (j x y : Nat) (hx : x < 2 ^ (j + 1)) (hy : y < 2 ^ (j + 1))
theorem top_split : x = 2 ^ j * (x / 2 ^ j) + x % 2 ^ j := (Nat.div_add_mod x _).symm
include hx in
theorem top_bit : x / 2 ^ j = 0 ∨ x / 2 ^ j = 1 := by
  have hp : 0 < 2 ^ j := Nat.pow_pos (by decide)
  have : x / 2 ^ j < 2 := by rw [Nat.div_lt_iff_lt_mul hp]; rw [Nat.pow_succ] at hx; omega
  generalize x / 2 ^ j = q at *
  omega
theorem low_and : x &&& (2 ^ j - 1) = x % 2 ^ j := Nat.and_two_pow_sub_one_eq_mod x j
include hx in
theorem high_and : 2 ^ j &&& x = 2 ^ j * (x / 2 ^ j) := by
  have hp : 0 < 2 ^ j := Nat.pow_pos (by decide)
  have h := nat_and_split j 0 (x % 2 ^ j) 1 (x / 2 ^ j) hp (Nat.mod_lt _ hp)
  rw [Nat.mul_one, Nat.add_zero, Nat.div_add_mod, Nat.zero_and, Nat.add_zero] at h
  rw [h]
  rcases top_bit j x hx with e | e <;> rw [e] <;> simp
include hx in
theorem high_or : x ||| 2 ^ j = 2 ^ j + x % 2 ^ j := by
  have hp : 0 < 2 ^ j := Nat.pow_pos (by decide)
  have h := nat_or_split j (x % 2 ^ j) 0 (x / 2 ^ j) 1 (Nat.mod_lt _ hp) hp
  rw [Nat.mul_one, Nat.add_zero, Nat.div_add_mod, Nat.or_zero] at h
  rw [h]
  rcases top_bit j x hx with e | e <;> rw [e] <;> simp
include hx hy in
theorem xor_top : (x ^^^ y) / 2 ^ j = (x / 2 ^ j + y / 2 ^ j) % 2 := by
  have hp : 0 < 2 ^ j := Nat.pow_pos (by decide)
  have h := nat_xor_split j (x % 2 ^ j) (y % 2 ^ j) (x / 2 ^ j) (y / 2 ^ j) (Nat.mod_lt _ hp) (Nat.mod_lt _ hp)
  rw [Nat.div_add_mod, Nat.div_add_mod] at h
  have hl : x % 2 ^ j ^^^ y % 2 ^ j < 2 ^ j := Nat.xor_lt_two_pow (Nat.mod_lt _ hp) (Nat.mod_lt _ hp)
  rw [h, Nat.mul_add_div hp, Nat.div_eq_of_lt hl, Nat.add_zero]
  rcases top_bit j x hx with e | e <;> rcases top_bit j y hy with e' | e' <;> rw [e, e'] <;> rfl
/-- xor with a multiple of the top bit. -/
theorem xor_high (a : Nat) (ha : a < 2 ^ (j + 1)) (c : Nat) (hc : c < 2) : a ^^^ 2 ^ j * c = 2 ^ j * ((a / 2 ^ j + c) % 2) + a % 2 ^ j := by
  have hp : 0 < 2 ^ j := Nat.pow_pos (by decide)
  have h := nat_xor_split j (a % 2 ^ j) 0 (a / 2 ^ j) c (Nat.mod_lt _ hp) hp
  rw [Nat.add_zero, Nat.div_add_mod, Nat.xor_zero] at h
  rw [h]
  have hcc : c = 0 ∨ c = 1 := by omega
  rcases top_bit j a ha with e | e <;> rcases hcc with rfl | rfl <;> rw [e] <;> rfl
end
theorem arith_add (p x y xl yl sl xh yh sh : Nat) (hp : 0 < p) (hx : x = p * xh + xl) (hy : y = p * yh + yl) (hs : xl + yl = p * sh + sl) (h1 : xl < p) (h2 : yl < p) (h3 : sl < p)
    (cx : xh = 0 ∨ xh = 1) (cy : yh = 0 ∨ yh = 1) (cs : sh = 0 ∨ sh = 1) : p * ((sh + (xh + yh) % 2) % 2) + sl = (x + y) % (2 * p) := by
  have e : x + y = (2 * p) * ((xh + yh + sh) / 2) + (p * ((sh + (xh + yh) % 2) % 2) + sl) := by
    rcases cx with rfl | rfl <;> rcases cy with rfl | rfl <;> rcases cs with rfl | rfl <;> simp at * <;> omega
  have hlt : p * ((sh + (xh + yh) % 2) % 2) + sl < 2 * p := by
    rcases cx with rfl | rfl <;> rcases cy with rfl | rfl <;> rcases cs with rfl | rfl <;> simp at * <;> omega
  rw [e, Nat.mul_add_mod, Nat.mod_eq_of_lt hlt]
theorem lane_add (j x y : Nat) (hx : x < 2 ^ (j + 1)) (hy : y < 2 ^ (j + 1)) :
    ((x &&& (2 ^ j - 1)) + (y &&& (2 ^ j - 1))) ^^^ (2 ^ j &&& (x ^^^ y)) = (x + y) % 2 ^ (j + 1) ∧ (x &&& (2 ^ j - 1)) + (y &&& (2 ^ j - 1)) < 2 ^ (j + 1) := by
  have hp : 0 < 2 ^ j := Nat.pow_pos (by decide)
  have e2 : 2 ^ (j + 1) = 2 * 2 ^ j := by rw [Nat.pow_succ]; omega
  have hxy : x ^^^ y < 2 ^ (j + 1) := Nat.xor_lt_two_pow hx hy
  have l1 := Nat.mod_lt x hp
  have l2 := Nat.mod_lt y hp
  rw [low_and, low_and, high_and j _ hxy, xor_top j x y hx hy]
  have hs : x % 2 ^ j + y % 2 ^ j < 2 ^ (j + 1) := by omega
  refine ⟨?_, hs⟩
  rw [xor_high j _ hs _ (by omega), e2]
  exact arith_add _ _ _ _ _ _ _ _ _ hp (top_split j x) (top_split j y) (top_split j _) l1 l2 (Nat.mod_lt _ hp) (top_bit j x hx) (top_bit j y hy) (top_bit j _ hs)
theorem arith_sub (p x y xl yl dl xh yh dh : Nat) (hp : 0 < p) (hx : x = p * xh + xl) (hy : y = p * yh + yl) (hs : p + xl - yl = p * dh + dl) (h1 : xl < p) (h2 : yl < p) (h3 : dl < p)
    (cx : xh = 0 ∨ xh = 1) (cy : yh = 0 ∨ yh = 1) (cs : dh = 0 ∨ dh = 1) : p * ((dh + (1 - (xh + yh) % 2)) % 2) + dl = (x + 2 * p - y) % (2 * p) := by
  have e : x + 2 * p - y = (2 * p) * ((xh + 1 + dh - yh) / 2) + (p * ((dh + (1 - (xh + yh) % 2)) % 2) + dl) := by
    rcases cx with rfl | rfl <;> rcases cy with rfl | rfl <;> rcases cs with rfl | rfl <;> simp at * <;> omega
  have hlt : p * ((dh + (1 - (xh + yh) % 2)) % 2) + dl < 2 * p := by
    rcases cx with rfl | rfl <;> rcases cy with rfl | rfl <;> rcases cs with rfl | rfl <;> simp at * <;> omega
  rw [e, Nat.mul_add_mod, Nat.mod_eq_of_lt hlt]
theorem not_top (j z : Nat) (hz : z < 2 ^ (j + 1)) : (2 ^ (j + 1) - 1 - z) / 2 ^ j = 1 - z / 2 ^ j := by
  have hp : 0 < 2 ^ j := Nat.pow_pos (by decide)
  have e2 : 2 ^ (j + 1) = 2 * 2 ^ j := by rw [Nat.pow_succ]; omega
  have s := top_split j z
  have l := Nat.mod_lt z hp
  have c := top_bit j z hz
  rw [e2] at *
  generalize 2 ^ j = p at *
  generalize hq : z / p = q at *
  generalize z % p = r at *
  rcases c with rfl | rfl
  · rw [show 2 * p - 1 - z = p * 1 + (p - 1 - r) by simp at s; omega, Nat.mul_add_div hp, Nat.div_eq_of_lt (by omega)]
  · rw [show 2 * p - 1 - z = p - 1 - r by simp at s; omega, Nat.div_eq_of_lt (by omega)]
theorem lane_sub (j x y : Nat) (hx : x < 2 ^ (j + 1)) (hy : y < 2 ^ (j + 1)) :
    ((x ||| 2 ^ j) - (y &&& (2 ^ j - 1))) ^^^ (2 ^ j &&& (2 ^ (j + 1) - 1 - (x ^^^ y))) = (x + 2 ^ (j + 1) - y) % 2 ^ (j + 1) ∧ (y &&& (2 ^ j - 1)) ≤ (x ||| 2 ^ j) := by
  have hp : 0 < 2 ^ j := Nat.pow_pos (by decide)
  have e2 : 2 ^ (j + 1) = 2 * 2 ^ j := by rw [Nat.pow_succ]; omega
  have hxy : x ^^^ y < 2 ^ (j + 1) := Nat.xor_lt_two_pow hx hy
  have l1 := Nat.mod_lt x hp
  have l2 := Nat.mod_lt y hp
  rw [high_or j x hx, low_and, high_and j _ (by omega), not_top j _ hxy, xor_top j x y hx hy]
  have hs : 2 ^ j + x % 2 ^ j - y % 2 ^ j < 2 ^ (j + 1) := by omega
  refine ⟨?_, by omega⟩
  rw [xor_high j _ hs _ (by omega), e2]
  exact arith_sub _ _ _ _ _ _ _ _ _ hp (top_split j x) (top_split j y) (top_split j _) l1 l2 (Nat.mod_lt _ hp) (top_bit j x hx) (top_bit j y hy) (top_bit j _ hs)
theorem lane_none (j x : Nat) (hx : x < 2 ^ (j + 1)) :
    2 ^ (j + 1) - 1 - ((((x &&& (2 ^ j - 1)) + (2 ^ j - 1)) ||| x) ||| (2 ^ j - 1)) = (if x = 0 then 2 ^ j else 0) ∧ (x &&& (2 ^ j - 1)) + (2 ^ j - 1) < 2 ^ (j + 1) := by
  have hp : 0 < 2 ^ j := Nat.pow_pos (by decide)
  have e2 : 2 ^ (j + 1) = 2 * 2 ^ j := by rw [Nat.pow_succ]; omega
  have l1 := Nat.mod_lt x hp
  rw [low_and]
  have hs : x % 2 ^ j + (2 ^ j - 1) < 2 ^ (j + 1) := by omega
  refine ⟨?_, hs⟩
  -- both numbers by their top bits
  have h1 := nat_or_split j ((x % 2 ^ j + (2 ^ j - 1)) % 2 ^ j) (x % 2 ^ j) ((x % 2 ^ j + (2 ^ j - 1)) / 2 ^ j) (x / 2 ^ j) (Nat.mod_lt _ hp) (Nat.mod_lt _ hp)
  rw [Nat.div_add_mod, Nat.div_add_mod] at h1
  have hl : (x % 2 ^ j + (2 ^ j - 1)) % 2 ^ j ||| x % 2 ^ j < 2 ^ j := Nat.or_lt_two_pow (Nat.mod_lt _ hp) (Nat.mod_lt _ hp)
  have h2 := nat_or_split j ((x % 2 ^ j + (2 ^ j - 1)) % 2 ^ j ||| x % 2 ^ j) (2 ^ j - 1) ((x % 2 ^ j + (2 ^ j - 1)) / 2 ^ j ||| x / 2 ^ j) 0 hl (by omega)
  rw [← h1, Nat.mul_zero, Nat.zero_add, Nat.or_zero] at h2
  have h3 : ((x % 2 ^ j + (2 ^ j - 1)) % 2 ^ j ||| x % 2 ^ j) ||| (2 ^ j - 1) = 2 ^ j - 1 := by
    have hle := Nat.right_le_or (n := (x % 2 ^ j + (2 ^ j - 1)) % 2 ^ j ||| x % 2 ^ j) (m := 2 ^ j - 1)
    have hlt := Nat.or_lt_two_pow hl (show 2 ^ j - 1 < 2 ^ j by omega)
    omega
  rw [h2, h3]
  have hd : (x % 2 ^ j + (2 ^ j - 1)) / 2 ^ j = if x % 2 ^ j = 0 then 0 else 1 := by
    split
    · rename_i h0
      rw [h0, Nat.zero_add, Nat.div_eq_of_lt (by omega)]
    · rw [show x % 2 ^ j + (2 ^ j - 1) = 2 ^ j * 1 + (x % 2 ^ j - 1) by omega, Nat.mul_add_div hp, Nat.div_eq_of_lt (by omega)]
  have sx := top_split j x
  have hz : x = 0 ↔ x / 2 ^ j = 0 ∧ x % 2 ^ j = 0 := by
    constructor
    · rintro rfl; simp
    · rintro ⟨h4, h5⟩; rw [h4, h5] at sx; simpa using sx
  rw [hd, e2]
  rcases top_bit j x hx with e | e <;> rw [e] at hz ⊢ <;> by_cases h0 : x % 2 ^ j = 0 <;> simp only [h0] at hz ⊢ <;> simp at hz ⊢ <;> simp [hz] <;> omega

/-! ### words of m lanes -/
section
variable (j m a b : Nat) (ha : a < 2 ^ (m * (j + 1))) (hb : b < 2 ^ (m * (j + 1)))
def laneN (L x i : Nat) : Nat := x / 2 ^ (i * L) % 2 ^ L
theorem laneN_lt (L x i : Nat) : laneN L x i < 2 ^ L := Nat.mod_lt _ (Nat.pow_pos (by decide))
def topsN (j m : Nat) : Nat := joinN (j + 1) (fun _ => 2 ^ j) m
theorem j_lt : 2 ^ j < 2 ^ (j + 1) := by rw [Nat.pow_succ]; have : 0 < 2 ^ j := Nat.pow_pos (by decide); omega
theorem rest_lt : 2 ^ j - 1 < 2 ^ (j + 1) := by have := j_lt j; omega
theorem restN : 2 ^ (m * (j + 1)) - 1 - topsN j m = joinN (j + 1) (fun _ => 2 ^ j - 1) m := by
  have h := (joinN_sub (j + 1) (fun _ => 2 ^ (j + 1) - 1) (fun _ => 2 ^ j) (fun _ => by have := j_lt j; omega) m).1
  rw [joinN_all] at h
  unfold topsN
  rw [h]
  apply joinN_congr
  intro i _
  have : 2 ^ (j + 1) = 2 * 2 ^ j := by rw [Nat.pow_succ]; omega
  omega
include ha hb in
theorem addN : ((a &&& (2 ^ (m * (j + 1)) - 1 - topsN j m)) + (b &&& (2 ^ (m * (j + 1)) - 1 - topsN j m))) ^^^ (topsN j m &&& (a ^^^ b)) =
    joinN (j + 1) (fun i => (laneN (j + 1) a i + laneN (j + 1) b i) % 2 ^ (j + 1)) m := by
  rw [restN]
  have ea : a = joinN (j + 1) (laneN (j + 1) a) m := (joinN_self (j + 1) a m ha).symm
  have eb : b = joinN (j + 1) (laneN (j + 1) b) m := (joinN_self (j + 1) b m hb).symm
  generalize hA : laneN (j + 1) a = A at *
  generalize hB : laneN (j + 1) b = B at *
  have lA : ∀ i, A i < 2 ^ (j + 1) := fun i => by rw [← hA]; exact laneN_lt _ _ _
  have lB : ∀ i, B i < 2 ^ (j + 1) := fun i => by rw [← hB]; exact laneN_lt _ _ _
  rw [ea, eb]
  unfold topsN
  rw [joinN_and _ _ _ lA (fun _ => rest_lt j), joinN_and _ _ _ lB (fun _ => rest_lt j), joinN_add, joinN_xor _ _ _ lA lB, joinN_and _ _ _ (fun _ => j_lt j) (fun i => Nat.xor_lt_two_pow (lA i) (lB i)),
    joinN_xor _ _ _ (fun i => (lane_add j _ _ (lA i) (lB i)).2) (fun i => Nat.and_lt_two_pow _ (Nat.xor_lt_two_pow (lA i) (lB i)))]
  apply joinN_congr
  intro i _
  exact (lane_add j _ _ (lA i) (lB i)).1
include ha hb in
theorem subN : ((a ||| topsN j m) - (b &&& (2 ^ (m * (j + 1)) - 1 - topsN j m))) ^^^ (topsN j m &&& (2 ^ (m * (j + 1)) - 1 - (a ^^^ b))) =
    joinN (j + 1) (fun i => (laneN (j + 1) a i + 2 ^ (j + 1) - laneN (j + 1) b i) % 2 ^ (j + 1)) m ∧ (b &&& (2 ^ (m * (j + 1)) - 1 - topsN j m)) ≤ (a ||| topsN j m) := by
  rw [restN]
  have ea : a = joinN (j + 1) (laneN (j + 1) a) m := (joinN_self (j + 1) a m ha).symm
  have eb : b = joinN (j + 1) (laneN (j + 1) b) m := (joinN_self (j + 1) b m hb).symm
  generalize hA : laneN (j + 1) a = A at *
  generalize hB : laneN (j + 1) b = B at *
  have lA : ∀ i, A i < 2 ^ (j + 1) := fun i => by rw [← hA]; exact laneN_lt _ _ _
  have lB : ∀ i, B i < 2 ^ (j + 1) := fun i => by rw [← hB]; exact laneN_lt _ _ _
  rw [ea, eb]
  unfold topsN
  have lX : ∀ i, A i ^^^ B i < 2 ^ (j + 1) := fun i => Nat.xor_lt_two_pow (lA i) (lB i)
  rw [joinN_or _ _ _ lA (fun _ => j_lt j), joinN_and _ _ _ lB (fun _ => rest_lt j), joinN_xor _ _ _ lA lB]
  have s1 := joinN_sub (j + 1) (fun i => A i ||| 2 ^ j) (fun i => B i &&& (2 ^ j - 1)) (fun i => (lane_sub j _ _ (lA i) (lB i)).2) m
  have s2 := joinN_sub (j + 1) (fun _ => 2 ^ (j + 1) - 1) (fun i => A i ^^^ B i) (fun i => by have := lX i; omega) m
  rw [joinN_all] at s2
  refine ⟨?_, s1.2⟩
  rw [s1.1, s2.1, joinN_and _ _ _ (fun _ => j_lt j) (fun i => by have := lX i; omega),
    joinN_xor _ _ _ (fun i => by have := Nat.or_lt_two_pow (lA i) (j_lt j); omega) (fun i => Nat.and_lt_two_pow _ (by have := lX i; omega))]
  apply joinN_congr
  intro i _
  exact (lane_sub j _ _ (lA i) (lB i)).1
include ha in
theorem noneN : 2 ^ (m * (j + 1)) - 1 - ((((a &&& (2 ^ (m * (j + 1)) - 1 - topsN j m)) + (2 ^ (m * (j + 1)) - 1 - topsN j m)) ||| a) ||| (2 ^ (m * (j + 1)) - 1 - topsN j m)) =
    joinN (j + 1) (fun i => if laneN (j + 1) a i = 0 then 2 ^ j else 0) m ∧ (a &&& (2 ^ (m * (j + 1)) - 1 - topsN j m)) + (2 ^ (m * (j + 1)) - 1 - topsN j m) < 2 ^ (m * (j + 1)) := by
  rw [restN]
  have ea : a = joinN (j + 1) (laneN (j + 1) a) m := (joinN_self (j + 1) a m ha).symm
  generalize hA : laneN (j + 1) a = A at *
  have lA : ∀ i, A i < 2 ^ (j + 1) := fun i => by rw [← hA]; exact laneN_lt _ _ _
  rw [ea]
  have lS : ∀ i, (A i &&& (2 ^ j - 1)) + (2 ^ j - 1) < 2 ^ (j + 1) := fun i => (lane_none j _ (lA i)).2
  rw [joinN_and _ _ _ lA (fun _ => rest_lt j), joinN_add]
  refine ⟨?_, joinN_lt _ _ lS m⟩
  rw [joinN_or _ _ _ lS lA, joinN_or _ _ _ (fun i => Nat.or_lt_two_pow (lS i) (lA i)) (fun _ => rest_lt j)]
  have s2 := joinN_sub (j + 1) (fun _ => 2 ^ (j + 1) - 1) (fun i => (((A i &&& (2 ^ j - 1)) + (2 ^ j - 1)) ||| A i) ||| (2 ^ j - 1)) (fun i => by have := Nat.or_lt_two_pow (Nat.or_lt_two_pow (lS i) (lA i)) (rest_lt j); omega) m
  rw [joinN_all] at s2
  rw [s2.1]
  apply joinN_congr
  intro i _
  exact (lane_none j _ (lA i)).1
end
end Pl
end Go.Proofs.Ytanaafdnnjkimaa
