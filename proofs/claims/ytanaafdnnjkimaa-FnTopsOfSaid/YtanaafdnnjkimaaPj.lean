/-
  Words made of lanes and lanes of words: each is the other's inverse. No program is in sight.
-/
import Derived.Test.YtanaafdnnjkimaaPk
namespace Go.Proofs.Ytanaafdnnjkimaa
set_option linter.unusedVariables false
set_option linter.unusedSimpArgs false
open Go.RowKit
namespace Pl
theorem joinN_lane (L : Nat) (f : Nat → Nat) (hf : ∀ i, f i < 2 ^ L) : ∀ m i, i < m → joinN L f m / 2 ^ (i * L) % 2 ^ L = f i
  | 0, i, h => by omega
  | m + 1, i, h => by
    have hj := joinN_lt L f hf m
    have hp : 0 < 2 ^ (m * L) := Nat.pow_pos (by decide)
    have e : joinN L f (m + 1) = 2 ^ (m * L) * f m + joinN L f m := rfl
    rcases Nat.lt_or_ge i m with hi | hi
    · rw [lane_low L _ i m hi, e, Nat.mul_add_mod, Nat.mod_eq_of_lt hj]
      exact joinN_lane L f hf m i hi
    · obtain rfl : i = m := by omega
      rw [e, Nat.mul_add_div hp, Nat.div_eq_of_lt hj, Nat.add_zero, Nat.mod_eq_of_lt (hf i)]
theorem lane_join (l : Int) (g : Nat → Int) (hl : 0 ≤ l) (h : ∀ i, 0 ≤ g i ∧ g i < pw l) (m i : Nat) (hi : i < m) : lane l (joinI l g m) i = g i := by
  obtain ⟨L, rfl⟩ := Int.eq_ofNat_of_zero_le hl
  rw [joinI_eq L g (fun i => (h i).1), lane_nat]
  unfold laneN
  rw [joinN_lane L _ (fun i => by have := h i; rw [pw_nat] at this; omega) m i hi]
  exact Int.toNat_of_nonneg (h i).1
theorem join_lane (l x : Int) (m : Nat) (hl : 0 ≤ l) (h0 : 0 ≤ x) (h1 : x < pw (m * l)) : joinI l (lane l x) m = x := by
  obtain ⟨L, rfl⟩ := Int.eq_ofNat_of_zero_le hl
  obtain ⟨a, rfl⟩ := Int.eq_ofNat_of_zero_le h0
  rw [pw_mul] at h1
  rw [joinI_eq L _ (fun i => (lane_lt _ _ i).1)]
  have e := joinN_self L a m (by omega)
  have e2 : joinN L (fun i => (lane (L : Int) (a : Int) i).toNat) m = joinN L (fun i => a / 2 ^ (i * L) % 2 ^ L) m :=
    joinN_congr L _ _ m (fun i _ => by rw [lane_nat]; rfl)
  rw [e2, e]
theorem pw_step (l : Int) (k : Nat) (hl : 0 ≤ l) : pw (((k + 1 : Nat) : Int) * l) = pw (k * l) * pw l := by
  rw [at_succ]
  exact pw_add _ _ (Int.mul_nonneg (by omega) hl) hl
/-- One round of 'sum = sum<<lane + list[k]', from the top. -/
theorem sum_step (l x : Int) (k : Nat) (hl : 0 ≤ l) : x / pw (((k + 1 : Nat) : Int) * l) * pw l + lane l x k = x / pw (k * l) := by
  unfold lane wmod
  rw [pw_step l k hl]
  have hp := pw_pos (k * l)
  rw [← Int.ediv_ediv_of_nonneg (by omega)]
  have := Int.mul_ediv_add_emod (x / pw (k * l)) (pw l)
  rw [Int.mul_comm] at this
  exact this
theorem sum_top (k l x : Int) (h : lv k l = true) (hx : wvB k x = true) : x / pw ((many k l : Nat) * l) = 0 := by
  obtain ⟨h0, h1, h2, h3⟩ := wv_t hx
  rw [many_eq h]
  exact Int.ediv_eq_zero_of_lt h2 h3
theorem sum_end (l x : Int) : x / pw ((0 : Nat) * l) = x := by simp [pw]
theorem sum_bd (l x : Int) (k : Nat) (hx : 0 ≤ x) : 0 ≤ x / pw (k * l) ∧ x / pw (k * l) ≤ x := by
  have hp := pw_pos (k * l)
  exact ⟨Int.ediv_nonneg hx (by omega), Int.ediv_le_self _ hx⟩
theorem sum_wrap (l x : Int) (i : Nat) (hl : 0 ≤ l) (h0 : 0 ≤ x) (h1 : x ≤ 4096) :
    wrap64 (wrap64 (x / pw (((i : Int) + 1) * l) * 2 ^ l.toNat) + lane l x i) = x / pw (i * l) := by
  have hs := sum_step l x i hl
  have hb := sum_bd l x i h0
  have hb1 := sum_bd l x (i + 1) h0
  have hl1 := lane_lt l x i
  have hp := pw_pos l
  have hm := Int.mul_nonneg hb1.1 (show 0 ≤ pw l by omega)
  rw [show ((i + 1 : Nat) : Int) = (i : Int) + 1 from rfl] at hs hb1 hm
  show wrap64 (wrap64 (x / pw (((i : Int) + 1) * l) * pw l) + lane l x i) = _
  generalize x / pw (((i : Int) + 1) * l) * pw l = a at *
  rw [wrap64_small a (by omega) (by omega), hs, wrap64_small _ (by omega) (by omega)]
theorem many_int {k l : Int} (h : lv k l = true) : k / l = (many k l : Int) := by
  obtain ⟨h0, h1, h2, h3, h4⟩ := lv_t h
  unfold many
  rw [Int.toNat_of_nonneg (Int.ediv_nonneg (by omega) (by omega))]
theorem lane_word {k l : Int} (h : lv k l = true) (x : Int) (i : Nat) : wvB l (lane l x i) = true := by
  obtain ⟨h0, h1, h2, h3, h4⟩ := lv_t h
  have := lane_lt l x i
  exact wv_mk (by omega) (by omega) this.1 this.2
theorem lanesAdd_t {k l a b : Int} (hl : lv k l = true) (hv : v2 k a b = true) : lanesAdd k l a b = joinI l (addL l a b) (many k l) := by unfold lanesAdd; rw [if_pos ⟨hl, hv⟩]
theorem lanesSub_t {k l a b : Int} (hl : lv k l = true) (hv : v2 k a b = true) : lanesSub k l a b = joinI l (subL l a b) (many k l) := by unfold lanesSub; rw [if_pos ⟨hl, hv⟩]
theorem lanesNone_t {k l x : Int} (hl : lv k l = true) (hv : wvB k x = true) : lanesNone k l x = joinI l (noneL l x) (many k l) := by unfold lanesNone; rw [if_pos ⟨hl, hv⟩]
theorem addL_lt (l a b : Int) (i : Nat) : 0 ≤ addL l a b i ∧ addL l a b i < pw l := wmod_lt _ _
theorem subL_lt (l a b : Int) (i : Nat) : 0 ≤ subL l a b i ∧ subL l a b i < pw l := wmod_lt _ _
theorem noneL_lt {l : Int} (hl : 1 ≤ l) (x : Int) (i : Nat) : 0 ≤ noneL l x i ∧ noneL l x i < pw l := by
  have := pw_top hl
  have := pw_pos l
  unfold noneL; split <;> omega
theorem add_word {k l a b : Int} (hl : lv k l = true) (hv : v2 k a b = true) : wvB k (lanesAdd k l a b) = true := by
  have h := lv_t hl
  rw [lanesAdd_t hl hv]
  have := joinI_bd k l _ hl (addL_lt l a b)
  exact wv_mk h.1 h.2.1 this.1 this.2
theorem sub_word {k l a b : Int} (hl : lv k l = true) (hv : v2 k a b = true) : wvB k (lanesSub k l a b) = true := by
  have h := lv_t hl
  rw [lanesSub_t hl hv]
  have := joinI_bd k l _ hl (subL_lt l a b)
  exact wv_mk h.1 h.2.1 this.1 this.2
theorem add_lane {k l a b : Int} (hl : lv k l = true) (hv : v2 k a b = true) (i : Nat) (hi : i < many k l) :
    lane l (lanesAdd k l a b) i = wordAdd l (lane l a i) (lane l b i) := by
  have h := lv_t hl
  rw [lanesAdd_t hl hv, lane_join l _ (by omega) (addL_lt l a b) _ _ hi]
  unfold addL wordAdd
  rw [if_pos (v2_mk (lane_word hl a i) (lane_word hl b i))]
theorem sub_lane {k l a b : Int} (hl : lv k l = true) (hv : v2 k a b = true) (i : Nat) (hi : i < many k l) :
    lane l (lanesSub k l a b) i = wordSub l (lane l a i) (lane l b i) := by
  have h := lv_t hl
  rw [lanesSub_t hl hv, lane_join l _ (by omega) (subL_lt l a b) _ _ hi]
  unfold subL wordSub
  rw [if_pos (v2_mk (lane_word hl a i) (lane_word hl b i))]
theorem sub_back {k l a b : Int} (hl : lv k l = true) (hv : v2 k a b = true) : lanesAdd k l (lanesSub k l a b) b = a := by
  have h := lv_t hl
  have hw := sub_word hl hv
  obtain ⟨h0, h1, h2, h3⟩ := wv_t (v2_l hv)
  rw [lanesAdd_t hl (v2_mk hw (v2_r hv))]
  have e : joinI l (addL l (lanesSub k l a b) b) (many k l) = joinI l (lane l a) (many k l) := by
    refine joinI_congr l _ _ _ (fun i hi => ?_)
    unfold addL
    rw [lanesSub_t hl hv, lane_join l _ (by omega) (subL_lt l a b) _ _ hi]
    unfold subL wmod
    rw [Int.emod_add_emod, Int.sub_add_cancel]
    have := lane_lt l a i
    exact Int.emod_eq_of_lt this.1 this.2
  rw [e]
  exact join_lane l a _ (by omega) h2 (by rw [many_eq hl]; exact h3)
theorem none_step (l x : Int) (j : Nat) (hl : 1 ≤ l) : joinI l (noneL l x) (j + 1) = if lane l x j = 0 then joinI l (noneL l x) j + pw (j * l + l - 1) else joinI l (noneL l x) j := by
  have e : joinI l (noneL l x) (j + 1) = pw (j * l) * noneL l x j + joinI l (noneL l x) j := rfl
  rw [e]
  unfold noneL
  split
  · rw [← pw_add _ _ (Int.mul_nonneg (by omega) (by omega)) (by omega), show (j : Int) * l + (l - 1) = j * l + l - 1 by omega]; omega
  · omega
end Pl
end Go.Proofs.Ytanaafdnnjkimaa
