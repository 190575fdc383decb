/-
  How the laws mark benches and look whether the marks still stand; how they copy and weigh deeds.
  Conditions: lengths are below 10^12.
-/
import Derived.Test.YtamhpgledbmnoaaDoorO0
namespace Go.Proofs.YtamhpgledbmnoaaDoor
set_option linter.unusedVariables false
set_option linter.unusedSimpArgs false
open Go.RowKit
section
variable {w w' : World} {base n c b off : Nat} {t : TypeId} {xs : List Value}
theorem ORow.stored (h : ORow w base t (Option.some ⟨b, off, none⟩) n c xs) (j : Nat) (u : Value) : ORow (w.setCell ⟨b, off + j, none⟩ u) base t (Option.some ⟨b, off, none⟩) n c (xs.set j u) ∧ w.grownBy (w.setCell ⟨b, off + j, none⟩ u) (Option.some b) := by
  refine ⟨?_, setc_grown u⟩
  obtain ⟨h1, h2, h3, h4⟩ := h
  rcases h4 with ⟨h4, _⟩ | ⟨b', off', cs, e, hb, hh, hs, hx⟩
  · cases h4
  · injection e with e
    injection e with e1 e2
    subst e1 e2
    refine ⟨by simpa using h1, h2, h3, .inr ⟨b, off, cs.setIfInBounds (off + j) u, rfl, hb, Blk.set_ hh _ u, by simpa using hs, fun i v hi => ?_⟩⟩
    rw [List.getElem?_set] at hi
    rw [Array.getElem?_setIfInBounds]
    by_cases e : j = i
    · subst e
      rw [if_pos rfl] at hi ⊢
      split at hi
      · have : off + j < cs.size := by have := h1; omega
        rw [if_pos this]; exact hi
      · cases hi
    · rw [if_neg e] at hi
      rw [if_neg (by omega)]
      exact hx i v hi
theorem ORow.cellAt {j : Nat} {u : Value} (h : ORow w base t (Option.some ⟨b, off, none⟩) n c xs) (hu : xs[j]? = Option.some u) : w.cell? ⟨b, off + j, none⟩ = Option.some u := by
  obtain ⟨h1, h2, h3, h4⟩ := h
  rcases h4 with ⟨h4, _⟩ | ⟨b', off', cs, e, hb, hh, hs, hx⟩
  · cases h4
  · injection e with e
    injection e with e1 e2
    subst e1 e2
    rw [Blk.cell hh]
    exact hx j u hu
theorem ORow.frozenAt (h : ORow w base t (Option.some ⟨b, off, none⟩) n c xs) (j : Nat) : w.frozen? ⟨b, off + j, none⟩ = false := by
  obtain ⟨h1, h2, h3, h4⟩ := h
  rcases h4 with ⟨h4, _⟩ | ⟨b', off', cs, e, hb, hh, hs, hx⟩
  · cases h4
  · injection e with e
    injection e with e1 e2
    subst e1 e2
    exact Blk.frozen hh _
theorem ORow.blt (h : ORow w base t (Option.some ⟨b, off, none⟩) n c xs) : base ≤ b ∧ b < w.heap.size := h.lt b rfl
theorem ORow.pos' {A : Option Addr} (h : ORow w base t A n c xs) (hn : 0 < n) : ∃ b off, A = Option.some ⟨b, off, none⟩ := by
  obtain ⟨h1, h2, h3, h4⟩ := h
  rcases h4 with ⟨_, h4⟩ | ⟨b', off', cs, e, _⟩
  · omega
  · exact ⟨b', off', e⟩
theorem grown_of_below (h : Below w.heap.size w w') (row : Option Nat) : w.grownBy w' row := ⟨h.os, h.tape, h.output, h.size, fun i hi _ => h.block i hi⟩
theorem ORow.below_of_grown {A : Option Addr} (h : ORow w base t A n c xs) (hB : base ≤ w.heap.size) (hg : w.grownBy w' (Value.slice A n c).ownBlock) : Below base w w' :=
  (Below.refl base w).grown hg hB (fun k hk => (h.lt k hk).1)
end
/-- The letters of a mark: as the laws make them, digit by digit. -/
def digs : Nat → Nat → List UInt8 → List UInt8
  | 0, _, out => out
  | f + 1, k, out => if k = 0 then out else digs f (k / 10) (digCh (k % 10) :: out)
def mkT (k : Nat) : List UInt8 := if k = 0 then [109, 48] else 109 :: digs 15 k []
theorem digs_zero (f : Nat) (out : List UInt8) : digs f 0 out = out := by cases f <;> simp [digs]
theorem digs_step {f k : Nat} (out : List UInt8) (h : 0 < k) (hf : k < 10 ^ f) : ∃ f', k / 10 < 10 ^ f' ∧ digs f k out = digs f' (k / 10) (digCh (k % 10) :: out) := by
  cases f with
  | zero => simp at hf; omega
  | succ f =>
    refine ⟨f, by rw [Nat.div_lt_iff_lt_mul (by decide)]; rw [Nat.pow_succ] at hf; exact hf, ?_⟩
    show (if k = 0 then out else _) = _
    rw [if_neg (by omega)]
theorem digs_len : ∀ (f k : Nat) (out : List UInt8), (digs f k out).length ≤ f + out.length
  | 0, k, out => by simp [digs]
  | f + 1, k, out => by
    unfold digs
    split
    · omega
    · have := digs_len f (k / 10) (digCh (k % 10) :: out)
      simp at this
      omega
theorem mkT_pos {k : Nat} (h : 0 < k) : mkT k = 109 :: digs 15 k [] := by unfold mkT; rw [if_neg (by omega)]
theorem digs_ge : ∀ (f k : Nat) (out : List UInt8), out.length ≤ (digs f k out).length
  | 0, k, out => by simp [digs]
  | f + 1, k, out => by
    unfold digs
    split
    · omega
    · have := digs_ge f (k / 10) (digCh (k % 10) :: out)
      simp at this
      omega
theorem conv_dig (W : World) (b k cap : Nat) (v : Int) (hv : v = 48 + (k : Int)) (hk : k < 10) (hc : W.cell? ⟨b, 0, none⟩ = some (.int .u8 v)) :
    (convert 52 9 (.slice (some ⟨b, 0, none⟩) 1 cap)).run Tryd.prog W = .ok (.string (Ba [digCh k])) W := by
  subst hv
  refine Go.Lib.run_convert_whole W 52 5 9 Tryd.underlying52 Tryd.underlying5 Tryd.underlying9 b 0 (Ba [digCh k]) (fun i hi => ?_) cap
  have hi : i < 1 := hi
  obtain rfl : i = 0 := by omega
  rw [hc]
  have e1 := digCh_nat hk
  show some (Value.int .u8 (48 + (k : Int))) = some (Value.int .u8 ((digCh k).toNat : Int))
  rw [e1]
  congr 2
set_option maxRecDepth 100000 in
set_option maxHeartbeats 2000000 in
theorem laws_markText (k : Nat) (w : World) (h0 : 1 ≤ k) (h1 : k ≤ 1000000000000) : Calls Tryd.prog 35 #[.int .i64 k] w (OutB (mkT k) w) := by
  have HM := Lib.hid (mkT_pos h0)
  obtain ⟨R, hR⟩ : ∃ R, R = digs 15 k [] := ⟨_, rfl⟩
  rw [← hR] at HM
  have HR := Lib.hid hR
  have HRL := Lib.hid (show R.length ≤ 15 by rw [hR]; have := digs_len 15 k []; simpa using this)
  have hk0 : ¬ (k : Int) ≤ 0 := by omega
  clear hR
  go_enter Tryd.func35, Tryd.ntmps35
  go_wp2
  go_loopw [0, 3] (fun kk ov wr => ∃ (f k' : Nat) (out : List UInt8), kk = .int .i64 k' ∧ ov = .string (Ba out) ∧ k' ≤ 1000000000000 ∧ Hid (k' < 10 ^ f) ∧ Hid (digs f k' out = R) ∧ Below w.heap.size w wr) (fun kk _ _ => (intOf kk).toNat)
  case atStart => exact ⟨15, k, [], rfl, rfl, h1, Lib.hid (by omega), Lib.hid HR.out.symm, Below.refl _ _⟩
  case round =>
    obtain ⟨f, k', out, rfl, rfl, hk', hf, hd, hb⟩ := hrel
    have hol := Lib.hid (show out.length ≤ 15 by have := digs_ge f k' out; rw [hd.out] at this; have := HRL.out; omega)
    have hz := hb.size
    by_cases hpos : 0 < k'
    · obtain ⟨f', hf', hd'⟩ := digs_step out hpos hf.out
      rw [hd.out] at hd'
      obtain ⟨q, hq⟩ : ∃ q, q = k' / 10 := ⟨_, rfl⟩
      obtain ⟨r, hr⟩ : ∃ r, r = k' % 10 := ⟨_, rfl⟩
      rw [← hq] at hf' hd'
      rw [← hr] at hd'
      have k4 : (k' : Int) / 10 = (q : Int) := by omega
      have k5 : (k' : Int) % 10 = (r : Int) := by omega
      have k6 : r < 10 := by omega
      have hqk : q < k' := by omega
      have j1 : IntKind.i64.wrap (q : Int) = q := IntWalk.i64_in _ (by omega)
      have j2 : (k' : Int).tmod 10 = r := by rw [Int.tmod_eq_emod_of_nonneg (by omega)]; exact k5
      have j5 : (k' : Int).tdiv 10 = q := by rw [Int.tdiv_eq_ediv_of_nonneg (by omega)]; exact k4
      have j3 : IntKind.i64.wrap (48 + (r : Int)) = 48 + r := IntWalk.i64_in _ (by omega)
      have j4 : IntKind.u8.wrap (48 + (r : Int)) = 48 + r := by rcases (by omega : r = 0 ∨ r = 1 ∨ r = 2 ∨ r = 3 ∨ r = 4 ∨ r = 5 ∨ r = 6 ∨ r = 7 ∨ r = 8 ∨ r = 9) with rfl | rfl | rfl | rfl | rfl | rfl | rfl | rfl | rfl | rfl <;> rfl
      have j6 : IntKind.i64.wrap (r : Int) = r := IntWalk.i64_in _ (by omega)
      have kc := fun (W : World) (b cap : Nat) (hc : W.cell? ⟨b, 0, none⟩ = some (.int .u8 (48 + (r : Int)))) => conv_dig W b r cap _ rfl k6 hc
      have ka := fun w => add_Ba (P := Tryd.prog) [digCh r] out (by have := hol.out; simp; omega) w
      have hki : (0 : Int) < (k' : Int) := by omega
      have HD := Lib.hid hd'
      have HF := Lib.hid hf'
      clear hd' hf' hq hr k4 k5 hol
      go_wp2_with fail
      go_roundw
      case rel => exact ⟨f', q, digCh r :: out, by first | rfl | go_num, rfl, by omega, HF, Lib.hid HD.out.symm, hb.alloc hz _⟩
      case measure => simp [intOf]; omega
    · obtain rfl : k' = 0 := by omega
      have hR0 := hd.out
      rw [digs_zero] at hR0
      have HR0 := Lib.hid hR0
      have ka := fun w => add_Ba (P := Tryd.prog) [109] out (by have := hol.out; simp; omega) w
      have hs1 : ¬ (9223372036854775807 < 1 + (Ba out).size) := by have := hol.out; show ¬ (9223372036854775807 < 1 + out.length); omega
      clear hR0
      go_wp2_with fail
      go_ret
      exact ⟨by rw [HM.out, ← HR0.out]; rfl, hb⟩
/-- The marks on a list of texts. -/
def mkTs (k n : Nat) : List (List UInt8) := (List.range n).map fun i => mkT (k + i)
theorem mkTs_len (k n : Nat) : (mkTs k n).length = n := by simp [mkTs]
theorem mkTs_get (k n i : Nat) (h : i < n) : (mkTs k n)[i]? = some (mkT (k + i)) := by simp [mkTs, h]
end Go.Proofs.YtamhpgledbmnoaaDoor
