/-
  Sums, differences and zeros of all lanes at once, as functions on integers. No program is in sight.
-/
import Derived.Test.YtanaafdnnjkimaaPm
namespace Go.Proofs.Ytanaafdnnjkimaa
set_option linter.unusedVariables false
set_option linter.unusedSimpArgs false
open Go.RowKit
namespace Pl
/-- The word whose i-th lane of l bits is g i. -/
def joinI (l : Int) (g : Nat → Int) : Nat → Int
  | 0 => 0
  | m + 1 => pw (m * l) * g m + joinI l g m
theorem pw_mul (m : Nat) (L : Nat) : pw (m * (L : Int)) = ((2 ^ (m * L) : Nat) : Int) := by
  rw [show (m : Int) * (L : Int) = ((m * L : Nat) : Int) by simp, pw_nat]
theorem joinI_eq (L : Nat) (g : Nat → Int) (h : ∀ i, 0 ≤ g i) : ∀ m, joinI L g m = ((joinN L (fun i => (g i).toNat) m : Nat) : Int)
  | 0 => rfl
  | m + 1 => by
    unfold joinI joinN
    rw [joinI_eq L g h m, pw_mul, Int.natCast_add, Int.natCast_mul, Int.toNat_of_nonneg (h m)]
theorem joinI_lt (l : Int) (g : Nat → Int) (hl : 0 ≤ l) (h : ∀ i, 0 ≤ g i ∧ g i < pw l) (m : Nat) : 0 ≤ joinI l g m ∧ joinI l g m < pw (m * l) := by
  obtain ⟨L, rfl⟩ := Int.eq_ofNat_of_zero_le hl
  rw [joinI_eq L g (fun i => (h i).1), pw_mul]
  have := joinN_lt L (fun i => (g i).toNat) (fun i => by have := h i; rw [pw_nat] at this; omega) m
  omega
/-- One round of 'out |= v << at'. -/
theorem joinI_or (l : Int) (g : Nat → Int) (hl : 0 ≤ l) (h : ∀ i, 0 ≤ g i ∧ g i < pw l) (m : Nat) : lor (joinI l g m) (g m * pw (m * l)) = joinI l g (m + 1) := by
  have hj := joinI_lt l g hl h m
  have hg := h m
  obtain ⟨L, rfl⟩ := Int.eq_ofNat_of_zero_le hl
  rw [pw_mul] at hj
  have e1 : joinI (L : Int) g (m + 1) = pw (m * (L : Int)) * g m + joinI (L : Int) g m := rfl
  rw [e1, pw_mul]
  obtain ⟨o, ho⟩ := Int.eq_ofNat_of_zero_le hj.1
  obtain ⟨v, hv⟩ := Int.eq_ofNat_of_zero_le hg.1
  rw [ho] at hj ⊢
  rw [hv]
  have e := nat_or_split (m * L) o 0 0 v (by omega) (Nat.pow_pos (by decide))
  rw [Nat.mul_zero, Nat.zero_add, Nat.add_zero, Nat.zero_or, Nat.or_zero] at e
  unfold lor
  rw [show (v : Int) * ((2 ^ (m * L) : Nat) : Int) = ((2 ^ (m * L) * v : Nat) : Int) by rw [Int.natCast_mul, Int.mul_comm]]
  rw [Int.toNat_natCast, Int.toNat_natCast, e, Int.natCast_add, Int.natCast_mul]
theorem joinI_congr (l : Int) (f g : Nat → Int) : ∀ m, (∀ i, i < m → f i = g i) → joinI l f m = joinI l g m
  | 0, _ => rfl
  | m + 1, h => by
    unfold joinI
    rw [h m (by omega), joinI_congr l f g m (fun i hi => h i (by omega))]

theorem lane_nat (L x i : Nat) : lane (L : Int) (x : Int) i = ((laneN L x i : Nat) : Int) := by
  unfold lane laneN wmod
  rw [pw_mul, pw_nat, ← Int.natCast_ediv, ← Int.natCast_emod]
theorem wmod_nat (L n : Nat) : wmod (L : Int) (n : Int) = ((n % 2 ^ L : Nat) : Int) := by
  unfold wmod
  rw [pw_nat, ← Int.natCast_emod]
theorem lane_lt (l x : Int) (i : Nat) : 0 ≤ lane l x i ∧ lane l x i < pw l := wmod_lt _ _

def topsOf (k l : Int) : Int := if lv k l = true then joinI l (fun _ => pw (l - 1)) (many k l) else -1
def addL (l a b : Int) (i : Nat) : Int := wmod l (lane l a i + lane l b i)
def subL (l a b : Int) (i : Nat) : Int := wmod l (lane l a i - lane l b i)
def noneL (l x : Int) (i : Nat) : Int := if lane l x i = 0 then pw (l - 1) else 0
def lanesAdd (k l a b : Int) : Int := if lv k l = true ∧ v2 k a b = true then joinI l (addL l a b) (many k l) else -1
def lanesSub (k l a b : Int) : Int := if lv k l = true ∧ v2 k a b = true then joinI l (subL l a b) (many k l) else -1
def lanesNone (k l x : Int) : Int := if lv k l = true ∧ wvB k x = true then joinI l (noneL l x) (many k l) else -1

theorem pw_top {l : Int} (h : 1 ≤ l) : 0 ≤ pw (l - 1) ∧ pw (l - 1) < pw l := by
  have := pw_half l h
  have := pw_pos (l - 1)
  omega
theorem tops_nat {k l : Int} (h : lv k l = true) : ∃ j m : Nat, l = ((j + 1 : Nat) : Int) ∧ many k l = m ∧ k = ((m * (j + 1) : Nat) : Int) ∧ pw k = ((2 ^ (m * (j + 1)) : Nat) : Int) ∧
    topsOf k l = ((topsN j m : Nat) : Int) ∧ topsN j m < 2 ^ (m * (j + 1)) := by
  obtain ⟨h0, h1, h2, h3, h4⟩ := lv_t h
  obtain ⟨j, hj⟩ := Int.eq_ofNat_of_zero_le (show 0 ≤ l - 1 by omega)
  have hl : l = ((j + 1 : Nat) : Int) := by omega
  have hm := many_eq h
  have hk : k = ((many k l * (j + 1) : Nat) : Int) := by rw [Int.natCast_mul, ← hl]; exact hm.symm
  have hpk : pw k = ((2 ^ (many k l * (j + 1)) : Nat) : Int) := by
    have := congrArg pw hk
    rw [pw_nat] at this
    exact this
  refine ⟨j, many k l, hl, rfl, hk, hpk, ?_, joinN_lt _ _ (fun _ => j_lt j) _⟩
  unfold topsOf
  rw [if_pos h]
  generalize many k l = m at *
  subst hl
  rw [joinI_eq (j + 1) _ (fun i => (pw_top (by omega)).1)]
  unfold topsN
  rw [show (((j + 1 : Nat) : Int) - 1) = (j : Int) by omega, pw_nat, Int.toNat_natCast]
theorem word_nat {k x : Int} {n : Nat} (h : wvB k x = true) (hp : pw k = ((2 ^ n : Nat) : Int)) : ∃ a : Nat, x = a ∧ a < 2 ^ n := by
  obtain ⟨h0, h1, h2, h3⟩ := wv_t h
  obtain ⟨a, rfl⟩ := Int.eq_ofNat_of_zero_le h2
  exact ⟨a, rfl, by omega⟩
theorem land_nat (a b : Nat) : land (a : Int) (b : Int) = ((a &&& b : Nat) : Int) := by unfold land; rw [Int.toNat_natCast, Int.toNat_natCast]
theorem lor_nat (a b : Nat) : lor (a : Int) (b : Int) = ((a ||| b : Nat) : Int) := by unfold lor; rw [Int.toNat_natCast, Int.toNat_natCast]
theorem lxor_nat (a b : Nat) : lxor (a : Int) (b : Int) = ((a ^^^ b : Nat) : Int) := by unfold lxor; rw [Int.toNat_natCast, Int.toNat_natCast]

theorem lanesAdd_spec (k l a b : Int) (hl : lv k l = true) (hv : v2 k a b = true) :
    lxor (land a (pw k - 1 - topsOf k l) + land b (pw k - 1 - topsOf k l)) (land (topsOf k l) (lxor a b)) = lanesAdd k l a b := by
  obtain ⟨j, m, el, em, ek, ep, et, lt⟩ := tops_nat hl
  obtain ⟨a, rfl, ha⟩ := word_nat (v2_l hv) ep
  obtain ⟨b, rfl, hb⟩ := word_nat (v2_r hv) ep
  have h := addN j m a b ha hb
  unfold lanesAdd
  rw [if_pos ⟨hl, hv⟩, em, et, ep]
  rw [show ((2 ^ (m * (j + 1)) : Nat) : Int) - 1 - ((topsN j m : Nat) : Int) = ((2 ^ (m * (j + 1)) - 1 - topsN j m : Nat) : Int) by omega]
  rw [land_nat, land_nat, lxor_nat, land_nat, ← Int.natCast_add, lxor_nat, h, el, joinI_eq (j + 1) (addL ((j + 1 : Nat) : Int) a b) (fun i => (wmod_lt _ _).1)]
  refine congrArg (fun n : Nat => (n : Int)) (joinN_congr _ _ _ _ (fun i _ => ?_))
  unfold addL
  rw [lane_nat, lane_nat, ← Int.natCast_add, wmod_nat, Int.toNat_natCast]
theorem lanesSub_spec (k l a b : Int) (hl : lv k l = true) (hv : v2 k a b = true) :
    lxor (lor a (topsOf k l) - land b (pw k - 1 - topsOf k l)) (land (topsOf k l) (pw k - 1 - lxor a b)) = lanesSub k l a b ∧ land b (pw k - 1 - topsOf k l) ≤ lor a (topsOf k l) := by
  obtain ⟨j, m, el, em, ek, ep, et, lt⟩ := tops_nat hl
  obtain ⟨a, rfl, ha⟩ := word_nat (v2_l hv) ep
  obtain ⟨b, rfl, hb⟩ := word_nat (v2_r hv) ep
  obtain ⟨h, hle⟩ := subN j m a b ha hb
  unfold lanesSub
  rw [if_pos ⟨hl, hv⟩, em, et, ep]
  have hx : a ^^^ b < 2 ^ (m * (j + 1)) := Nat.xor_lt_two_pow ha hb
  rw [show ((2 ^ (m * (j + 1)) : Nat) : Int) - 1 - ((topsN j m : Nat) : Int) = ((2 ^ (m * (j + 1)) - 1 - topsN j m : Nat) : Int) by omega]
  rw [land_nat, lor_nat, lxor_nat, show ((2 ^ (m * (j + 1)) : Nat) : Int) - 1 - ((a ^^^ b : Nat) : Int) = ((2 ^ (m * (j + 1)) - 1 - (a ^^^ b) : Nat) : Int) by omega, land_nat]
  rw [show ((a ||| topsN j m : Nat) : Int) - ((b &&& (2 ^ (m * (j + 1)) - 1 - topsN j m) : Nat) : Int) = (((a ||| topsN j m) - (b &&& (2 ^ (m * (j + 1)) - 1 - topsN j m)) : Nat) : Int) by omega, lxor_nat, h, el]
  refine ⟨?_, by omega⟩
  rw [joinI_eq (j + 1) (subL ((j + 1 : Nat) : Int) a b) (fun i => (wmod_lt _ _).1)]
  refine congrArg (fun n : Nat => (n : Int)) (joinN_congr _ _ _ _ (fun i _ => ?_))
  unfold subL
  rw [lane_nat, lane_nat]
  have l2 := laneN_lt (j + 1) b i
  have e : (((laneN (j + 1) a i : Nat) : Int) - ((laneN (j + 1) b i : Nat) : Int)) = (((laneN (j + 1) a i + 2 ^ (j + 1) - laneN (j + 1) b i : Nat) : Int)) - ((2 ^ (j + 1) : Nat) : Int) := by omega
  rw [e]
  unfold wmod
  rw [pw_nat, Int.sub_emod_right, ← Int.natCast_emod, Int.toNat_natCast]
theorem lanesNone_spec (k l x : Int) (hl : lv k l = true) (hv : wvB k x = true) :
    pw k - 1 - lor (lor (wmod k (land x (pw k - 1 - topsOf k l) + (pw k - 1 - topsOf k l))) x) (pw k - 1 - topsOf k l) = lanesNone k l x ∧
      land x (pw k - 1 - topsOf k l) + (pw k - 1 - topsOf k l) < pw k := by
  obtain ⟨j, m, el, em, ek, ep, et, lt⟩ := tops_nat hl
  obtain ⟨a, rfl, ha⟩ := word_nat hv ep
  obtain ⟨h, hlt⟩ := noneN j m a ha
  unfold lanesNone
  rw [if_pos ⟨hl, hv⟩, em]
  rw [et, ep]
  rw [show ((2 ^ (m * (j + 1)) : Nat) : Int) - 1 - ((topsN j m : Nat) : Int) = ((2 ^ (m * (j + 1)) - 1 - topsN j m : Nat) : Int) by omega]
  rw [land_nat, ← Int.natCast_add]
  refine ⟨?_, by omega⟩
  rw [wmod_small (by omega) (by rw [ep]; omega), lor_nat, lor_nat]
  rw [show ((2 ^ (m * (j + 1)) : Nat) : Int) - 1 - (((((a &&& (2 ^ (m * (j + 1)) - 1 - topsN j m)) + (2 ^ (m * (j + 1)) - 1 - topsN j m)) ||| a) ||| (2 ^ (m * (j + 1)) - 1 - topsN j m) : Nat) : Int) =
      ((2 ^ (m * (j + 1)) - 1 - ((((a &&& (2 ^ (m * (j + 1)) - 1 - topsN j m)) + (2 ^ (m * (j + 1)) - 1 - topsN j m)) ||| a) ||| (2 ^ (m * (j + 1)) - 1 - topsN j m)) : Nat) : Int) by
    have := Nat.or_lt_two_pow (Nat.or_lt_two_pow hlt ha) (show 2 ^ (m * (j + 1)) - 1 - topsN j m < 2 ^ (m * (j + 1)) by omega)
    omega]
  rw [h, el, joinI_eq (j + 1) _ (fun i => by unfold noneL; have := pw_pos (((j + 1 : Nat) : Int) - 1); split <;> omega)]
  refine congrArg (fun n : Nat => (n : Int)) (joinN_congr _ _ _ _ (fun i _ => ?_))
  unfold noneL
  rw [lane_nat]
  by_cases hz : laneN (j + 1) a i = 0
  · rw [if_pos hz, if_pos (by omega), show (((j + 1 : Nat) : Int) - 1) = (j : Int) by omega, pw_nat, Int.toNat_natCast]
  · rw [if_neg hz, if_neg (by omega)]; rfl
/-- One round of the program's loop over lanes. -/
theorem each_step (k l : Int) (G : Nat → Int) (h : lv k l = true) (hG : ∀ i, 0 ≤ G i ∧ G i < pw l) (j : Nat) (hj : j < many k l) :
    bits .or .i64 (joinI l G j) (wrap64 (G j * 2 ^ ((j : Int) * l).toNat)) = joinI l G (j + 1) := by
  obtain ⟨h0, h1, h2, h3, h4⟩ := lv_t h
  have hb := at_bd (i := j + 1) h (by omega)
  have hs := at_succ l j
  have hb0 := at_bd (i := j) h (by omega)
  have hk := pw_lt k h1
  have hle := pw_le (((j + 1 : Nat) : Int) * l) k hb.2
  have e : pw (((j + 1 : Nat) : Int) * l) = pw (j * l) * pw l := by rw [hs, pw_add _ _ hb0.1 (by omega)]
  have hj1 := joinI_lt l G (by omega) hG j
  have hp := pw_pos ((j : Int) * l)
  have hpl := pw_pos l
  have hGj := hG j
  have hm : G j * pw (j * l) ≤ pw l * pw (j * l) := Int.mul_le_mul_of_nonneg_right (by omega) (by omega)
  have hm0 : 0 ≤ G j * pw (j * l) := Int.mul_nonneg hGj.1 (by omega)
  have hm1 : pw l * pw (j * l) ≤ 4096 := by rw [Int.mul_comm]; omega
  have hle2 : pw (j * l) ≤ 4096 := by
    have := pw_le ((j : Int) * l) k hb0.2
    omega
  show bits .or .i64 (joinI l G j) (wrap64 (G j * pw (j * l))) = _
  rw [wrap64_small _ (by omega) (by omega), i64_or _ _ hj1.1 (by omega) hm0 (by omega)]
  exact joinI_or l G (by omega) hG j
theorem topsOf_t {k l : Int} (h : lv k l = true) : 0 ≤ topsOf k l ∧ topsOf k l < pw k := by
  obtain ⟨j, m, el, em, ek, ep, et, lt⟩ := tops_nat h
  rw [et, ep]; omega
theorem joinI_bd (k l : Int) (g : Nat → Int) (h : lv k l = true) (hg : ∀ i, 0 ≤ g i ∧ g i < pw l) : 0 ≤ joinI l g (many k l) ∧ joinI l g (many k l) < pw k := by
  obtain ⟨h0, h1, h2, h3, h4⟩ := lv_t h
  have := joinI_lt l g (by omega) hg (many k l)
  rwa [many_eq h] at this
end Pl
end Go.Proofs.Ytanaafdnnjkimaa
