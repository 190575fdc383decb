/-
  How the laws mark benches and look whether the marks still stand; how they copy and weigh deeds.
  Conditions: lengths are below 10^12.
-/
import Derived.Test.YtamhpgledbmnoaaGreatO0
namespace Go.Proofs.YtamhpgledbmnoaaGreat
set_option linter.unusedVariables false
set_option linter.unusedSimpArgs false
open Go.RowKit
section
variable {w w' : World} {base n c b off : Nat} {t : TypeId} {xs : List Value}
theorem ORow.stored (h : ORow w base t (Option.some ⟨b, off, none⟩) n c xs) (j : Nat) (u : Value) : ORow (w.setCell ⟨b, off + j, none⟩ u) base t (Option.some ⟨b, off, none⟩) n c (xs.set j u) ∧ w.grownBy (w.setCell ⟨b, off + j, none⟩ u) (Option.some b) := by
  refine ⟨?_, setc_grown u⟩
  obtain ⟨h1, h2, h3, h4⟩ := h
  rcases h4 with ⟨h4, _⟩ | ⟨b', off', cs, e, hb, hh, hs, hx⟩
  · cases h4
  · injection e with e
    injection e with e1 e2
    subst e1 e2
    refine ⟨by simpa using h1, h2, h3, .inr ⟨b, off, cs.setIfInBounds (off + j) u, rfl, hb, Blk.set_ hh _ u, by simpa using hs, fun i v hi => ?_⟩⟩
    rw [List.getElem?_set] at hi
    rw [Array.getElem?_setIfInBounds]
    by_cases e : j = i
    · subst e
      rw [if_pos rfl] at hi ⊢
      split at hi
      · have : off + j < cs.size := by have := h1; omega
        rw [if_pos this]; exact hi
      · cases hi
    · rw [if_neg e] at hi
      rw [if_neg (by omega)]
      exact hx i v hi
theorem ORow.cellAt {j : Nat} {u : Value} (h : ORow w base t (Option.some ⟨b, off, none⟩) n c xs) (hu : xs[j]? = Option.some u) : w.cell? ⟨b, off + j, none⟩ = Option.some u := by
  obtain ⟨h1, h2, h3, h4⟩ := h
  rcases h4 with ⟨h4, _⟩ | ⟨b', off', cs, e, hb, hh, hs, hx⟩
  · cases h4
  · injection e with e
    injection e with e1 e2
    subst e1 e2
    rw [Blk.cell hh]
    exact hx j u hu
theorem ORow.frozenAt (h : ORow w base t (Option.some ⟨b, off, none⟩) n c xs) (j : Nat) : w.frozen? ⟨b, off + j, none⟩ = false := by
  obtain ⟨h1, h2, h3, h4⟩ := h
  rcases h4 with ⟨h4, _⟩ | ⟨b', off', cs, e, hb, hh, hs, hx⟩
  · cases h4
  · injection e with e
    injection e with e1 e2
    subst e1 e2
    exact Blk.frozen hh _
theorem ORow.blt (h : ORow w base t (Option.some ⟨b, off, none⟩) n c xs) : base ≤ b ∧ b < w.heap.size := h.lt b rfl
theorem ORow.pos' {A : Option Addr} (h : ORow w base t A n c xs) (hn : 0 < n) : ∃ b off, A = Option.some ⟨b, off, none⟩ := by
  obtain ⟨h1, h2, h3, h4⟩ := h
  rcases h4 with ⟨_, h4⟩ | ⟨b', off', cs, e, _⟩
  · omega
  · exact ⟨b', off', e⟩
theorem grown_of_below (h : Below w.heap.size w w') (row : Option Nat) : w.grownBy w' row := ⟨h.os, h.tape, h.output, h.size, fun i hi _ => h.block i hi⟩
theorem ORow.below_of_grown {A : Option Addr} (h : ORow w base t A n c xs) (hB : base ≤ w.heap.size) (hg : w.grownBy w' (Value.slice A n c).ownBlock) : Below base w w' :=
  (Below.refl base w).grown hg hB (fun k hk => (h.lt k hk).1)
end
/-- The letters of a mark: as the laws make them, digit by digit. -/
def digs : Nat → Nat → List UInt8 → List UInt8
  | 0, _, out => out
  | f + 1, k, out => if k = 0 then out else digs f (k / 10) (digCh (k % 10) :: out)
def mkT (k : Nat) : List UInt8 := if k = 0 then [109, 48] else 109 :: digs 15 k []
theorem digs_zero (f : Nat) (out : List UInt8) : digs f 0 out = out := by cases f <;> simp [digs]
theorem digs_step {f k : Nat} (out : List UInt8) (h : 0 < k) (hf : k < 10 ^ f) : ∃ f', k / 10 < 10 ^ f' ∧ digs f k out = digs f' (k / 10) (digCh (k % 10) :: out) := by
  cases f with
  | zero => simp at hf; omega
  | succ f =>
    refine ⟨f, by rw [Nat.div_lt_iff_lt_mul (by decide)]; rw [Nat.pow_succ] at hf; exact hf, ?_⟩
    show (if k = 0 then out else _) = _
    rw [if_neg (by omega)]
theorem digs_len : ∀ (f k : Nat) (out : List UInt8), (digs f k out).length ≤ f + out.length
  | 0, k, out => by simp [digs]
  | f + 1, k, out => by
    unfold digs
    split
    · omega
    · have := digs_len f (k / 10) (digCh (k % 10) :: out)
      simp at this
      omega
theorem mkT_pos {k : Nat} (h : 0 < k) : mkT k = 109 :: digs 15 k [] := by unfold mkT; rw [if_neg (by omega)]
theorem digs_ge : ∀ (f k : Nat) (out : List UInt8), out.length ≤ (digs f k out).length
  | 0, k, out => by simp [digs]
  | f + 1, k, out => by
    unfold digs
    split
    · omega
    · have := digs_ge f (k / 10) (digCh (k % 10) :: out)
      simp at this
      omega
theorem conv_dig (W : World) (b k cap : Nat) (v : Int) (hv : v = 48 + (k : Int)) (hk : k < 10) (hc : W.cell? ⟨b, 0, none⟩ = some (.int .u8 v)) :
    (convert 39 9 (.slice (some ⟨b, 0, none⟩) 1 cap)).run Tryz.prog W = .ok (.string (Ba [digCh k])) W := by
  subst hv
  refine Go.Lib.run_convert_whole W 39 5 9 Tryz.underlying39 Tryz.underlying5 Tryz.underlying9 b 0 (Ba [digCh k]) (fun i hi => ?_) cap
  have hi : i < 1 := hi
  obtain rfl : i = 0 := by omega
  rw [hc]
  have e1 := digCh_nat hk
  show some (Value.int .u8 (48 + (k : Int))) = some (Value.int .u8 ((digCh k).toNat : Int))
  rw [e1]
  congr 2
set_option maxRecDepth 100000 in
set_option maxHeartbeats 2000000 in
theorem laws_markText (k : Nat) (w : World) (h0 : 1 ≤ k) (h1 : k ≤ 1000000000000) : Calls Tryz.prog 62 #[.int .i64 k] w (OutB (mkT k) w) := by
  have HM := Lib.hid (mkT_pos h0)
  obtain ⟨R, hR⟩ : ∃ R, R = digs 15 k [] := ⟨_, rfl⟩
  rw [← hR] at HM
  have HR := Lib.hid hR
  have HRL := Lib.hid (show R.length ≤ 15 by rw [hR]; have := digs_len 15 k []; simpa using this)
  have hk0 : ¬ (k : Int) ≤ 0 := by omega
  clear hR
  go_enter Tryz.func62, Tryz.ntmps62
  go_wp2
  go_loopw [0, 3] (fun kk ov wr => ∃ (f k' : Nat) (out : List UInt8), kk = .int .i64 k' ∧ ov = .string (Ba out) ∧ k' ≤ 1000000000000 ∧ Hid (k' < 10 ^ f) ∧ Hid (digs f k' out = R) ∧ Below w.heap.size w wr) (fun kk _ _ => (intOf kk).toNat)
  case atStart => exact ⟨15, k, [], rfl, rfl, h1, Lib.hid (by omega), Lib.hid HR.out.symm, Below.refl _ _⟩
  case round =>
    obtain ⟨f, k', out, rfl, rfl, hk', hf, hd, hb⟩ := hrel
    have hol := Lib.hid (show out.length ≤ 15 by have := digs_ge f k' out; rw [hd.out] at this; have := HRL.out; omega)
    have hz := hb.size
    by_cases hpos : 0 < k'
    · obtain ⟨f', hf', hd'⟩ := digs_step out hpos hf.out
      rw [hd.out] at hd'
      obtain ⟨q, hq⟩ : ∃ q, q = k' / 10 := ⟨_, rfl⟩
      obtain ⟨r, hr⟩ : ∃ r, r = k' % 10 := ⟨_, rfl⟩
      rw [← hq] at hf' hd'
      rw [← hr] at hd'
      have k4 : (k' : Int) / 10 = (q : Int) := by omega
      have k5 : (k' : Int) % 10 = (r : Int) := by omega
      have k6 : r < 10 := by omega
      have hqk : q < k' := by omega
      have j1 : IntKind.i64.wrap (q : Int) = q := IntWalk.i64_in _ (by omega)
      have j2 : (k' : Int).tmod 10 = r := by rw [Int.tmod_eq_emod_of_nonneg (by omega)]; exact k5
      have j5 : (k' : Int).tdiv 10 = q := by rw [Int.tdiv_eq_ediv_of_nonneg (by omega)]; exact k4
      have j3 : IntKind.i64.wrap (48 + (r : Int)) = 48 + r := IntWalk.i64_in _ (by omega)
      have j4 : IntKind.u8.wrap (48 + (r : Int)) = 48 + r := by rcases (by omega : r = 0 ∨ r = 1 ∨ r = 2 ∨ r = 3 ∨ r = 4 ∨ r = 5 ∨ r = 6 ∨ r = 7 ∨ r = 8 ∨ r = 9) with rfl | rfl | rfl | rfl | rfl | rfl | rfl | rfl | rfl | rfl <;> rfl
      have j6 : IntKind.i64.wrap (r : Int) = r := IntWalk.i64_in _ (by omega)
      have kc := fun (W : World) (b cap : Nat) (hc : W.cell? ⟨b, 0, none⟩ = some (.int .u8 (48 + (r : Int)))) => conv_dig W b r cap _ rfl k6 hc
      have ka := fun w => add_Ba (P := Tryz.prog) [digCh r] out (by have := hol.out; simp; omega) w
      have hki : (0 : Int) < (k' : Int) := by omega
      have HD := Lib.hid hd'
      have HF := Lib.hid hf'
      clear hd' hf' hq hr k4 k5 hol
      go_wp2_with fail
      go_roundw
      case rel => exact ⟨f', q, digCh r :: out, by first | rfl | go_num, rfl, by omega, HF, Lib.hid HD.out.symm, hb.alloc hz _⟩
      case measure => simp [intOf]; omega
    · obtain rfl : k' = 0 := by omega
      have hR0 := hd.out
      rw [digs_zero] at hR0
      have HR0 := Lib.hid hR0
      have ka := fun w => add_Ba (P := Tryz.prog) [109] out (by have := hol.out; simp; omega) w
      have hs1 : ¬ (9223372036854775807 < 1 + (Ba out).size) := by have := hol.out; show ¬ (9223372036854775807 < 1 + out.length); omega
      clear hR0
      go_wp2_with fail
      go_ret
      exact ⟨by rw [HM.out, ← HR0.out]; rfl, hb⟩
/-- The marks on a list of texts. -/
def mkTs (k n : Nat) : List (List UInt8) := (List.range n).map fun i => mkT (k + i)
theorem mkTs_len (k n : Nat) : (mkTs k n).length = n := by simp [mkTs]
theorem mkTs_get (k n i : Nat) (h : i < n) : (mkTs k n)[i]? = some (mkT (k + i)) := by simp [mkTs, h]
set_option maxHeartbeats 1000000 in
theorem laws_markIntO (base n c k : Nat) (A : Option Addr) (xs : List Value) (w : World) (hown : ORow w base 3 A n c xs) (hn : n ≤ 1000000000000) (hk1 : k ≤ 1000000000000) :
    Calls Tryz.prog 42 #[.slice A n c, .int .i64 k] w fun e w' => e = .returned (.int .i64 ((k + n : Nat) : Int)) ∧ ORow w' base 3 A n c (I64 (marks k n)) ∧ w.grownBy w' (Value.slice A n c).ownBlock := by
  rcases Nat.eq_zero_or_pos n with h0 | h0
  · subst h0
    have hx : xs = [] := List.eq_nil_of_length_eq_zero hown.len
    subst hx
    go_enter Tryz.func42, Tryz.ntmps42
    go_wp2
    refine wp_loop_rounds 1 ?_
    rw [rounds_succ]
    go_wp2
    go_ret
    exact ⟨ret_int (by omega), hown, World.grownBy.refl w _⟩
  · obtain ⟨g, off, rfl⟩ := hown.pos' h0
    have hl := hown.len
    have HL := Lib.hid hl
    clear hl
    show Calls _ _ _ _ (fun e w' => _ ∧ _ ∧ w.grownBy w' (some g))
    go_enter Tryz.func42, Tryz.ntmps42
    go_wp2
    go_loopw [1, 5] (fun v i wr => ∃ (j : Nat) (ys : List Value), j ≤ n ∧ i = .int .i64 j ∧ v = .int .i64 ((k : Int) + j) ∧ Hid (ys.length = n) ∧ Hid (∀ t : Nat, t < j → ys[t]? = some (.int .i64 ((k : Int) + t))) ∧ ORow wr base 3 (some ⟨g, off, none⟩) n c ys ∧ w.grownBy wr (some g)) (fun _ i _ => n - (intOf i).toNat)
    case atStart => exact ⟨0, xs, by omega, rfl, by go_num, HL, Lib.hid (fun t ht => absurd ht (by omega)), hown, World.grownBy.refl w _⟩
    case round =>
      obtain ⟨j, ys, hj, rfl, rfl, HYL, HY, hown1, hgr⟩ := hrel
      by_cases hlt : j < n
      · have c1 : wr.cell? ⟨g, off + j, none⟩ = some (ys[j]'(by have := HYL.out; omega)) := hown1.cellAt (List.getElem?_eq_getElem _)
        have f1 : wr.frozen? ⟨g, off + j, none⟩ = false := hown1.frozenAt j
        have HST := Lib.hid (hown1.stored j (.int .i64 ((k : Int) + j)))
        have hin : (j : Int) < (n : Int) := by omega
        have hj0 : (0 : Int) ≤ j := by omega
        go_wp2
        go_roundw
        case rel =>
          refine ⟨j + 1, ys.set j (.int .i64 ((k : Int) + j)), by omega, by go_num, by go_num, Lib.hid (by simp [HYL.out]), Lib.hid (fun t ht => ?_), HST.out.1, hgr.trans HST.out.2⟩
          rw [List.getElem?_set]
          split
          · rename_i e; subst e; rw [if_pos (by have := HYL.out; omega)]
          · exact HY.out t (by omega)
        case measure => simp [intOf]; omega
      · have hjn : j = n := by omega
        subst hjn
        have hfin : ys = I64 (marks k j) := by
          apply List.ext_getElem?
          intro i
          rcases Nat.lt_or_ge i j with hi | hi
          · rw [HY.out i hi, I64_get (marks_get k j i hi)]
          · rw [List.getElem?_eq_none (by have := HYL.out; omega), List.getElem?_eq_none (by rw [I64_len, marks_len]; omega)]
        have HF := Lib.hid hfin
        clear hfin
        go_wp2
        go_ret
        exact ⟨ret_int (by omega), by rw [← HF.out]; exact hown1, hgr⟩
set_option maxHeartbeats 2000000 in
theorem laws_markTextO (base n c k : Nat) (A : Option Addr) (xs : List Value) (w : World) (hown : ORow w base 9 A n c xs) (hn : n ≤ 10000000) (hk0 : 1 ≤ k) (hk1 : k ≤ 10000000) :
    Calls Tryz.prog 43 #[.slice A n c, .int .i64 k] w fun e w' => e = .returned (.int .i64 ((k + n : Nat) : Int)) ∧ ORow w' base 9 A n c (Tx (mkTs k n)) ∧ w.grownBy w' (Value.slice A n c).ownBlock := by
  rcases Nat.eq_zero_or_pos n with h0 | h0
  · subst h0
    have hx : xs = [] := List.eq_nil_of_length_eq_zero hown.len
    subst hx
    go_enter Tryz.func43, Tryz.ntmps43
    go_wp2
    refine wp_loop_rounds 1 ?_
    rw [rounds_succ]
    go_wp2
    go_ret
    exact ⟨ret_int (by omega), hown, World.grownBy.refl w _⟩
  · obtain ⟨g, off, rfl⟩ := hown.pos' h0
    have hl := hown.len
    have HL := Lib.hid hl
    clear hl
    show Calls _ _ _ _ (fun e w' => _ ∧ _ ∧ w.grownBy w' (some g))
    go_enter Tryz.func43, Tryz.ntmps43
    go_wp2
    go_loopw [1, 5] (fun v i wr => ∃ (j : Nat) (ys : List Value), j ≤ n ∧ i = .int .i64 j ∧ v = .int .i64 ((k + j : Nat) : Int) ∧ Hid (ys.length = n) ∧ Hid (∀ t : Nat, t < j → ys[t]? = some (.string (Ba (mkT (k + t))))) ∧ ORow wr base 9 (some ⟨g, off, none⟩) n c ys ∧ w.grownBy wr (some g)) (fun _ i _ => n - (intOf i).toNat)
    case atStart => exact ⟨0, xs, by omega, rfl, by go_num, HL, Lib.hid (fun t ht => absurd ht (by omega)), hown, World.grownBy.refl w _⟩
    case round =>
      obtain ⟨j, ys, hj, rfl, rfl, HYL, HY, hown1, hgr⟩ := hrel
      by_cases hlt : j < n
      · have hin : (j : Int) < (n : Int) := by omega
        have hj0 : (0 : Int) ≤ j := by omega
        have CM := Lib.hid (fun w' => laws_markText (k + j) w' (by omega) (by omega))
        go_wp2_with fail
        refine (CM.out _).mono ?_
        rintro e w1 ⟨rfl, hb1⟩
        have hown2 := hown1.below hb1
        have c1 : w1.cell? ⟨g, off + j, none⟩ = some (ys[j]'(by have := HYL.out; omega)) := hown2.cellAt (List.getElem?_eq_getElem _)
        have f1 : w1.frozen? ⟨g, off + j, none⟩ = false := hown2.frozenAt j
        have HST := Lib.hid (hown2.stored j (.string (Ba (mkT (k + j)))))
        have hgr1 := Lib.hid (hgr.trans (grown_of_below hb1 (some g)))
        clear hown2 hown1 hgr hb1
        go_wp2
        go_roundw
        case rel =>
          refine ⟨j + 1, ys.set j (.string (Ba (mkT (k + j)))), by omega, by go_num, by go_num, Lib.hid (by simp [HYL.out]), Lib.hid (fun t ht => ?_), HST.out.1, hgr1.out.trans HST.out.2⟩
          rw [List.getElem?_set]
          split
          · rename_i e; subst e; rw [if_pos (by have := HYL.out; omega)]
          · exact HY.out t (by omega)
        case measure => simp [intOf]; omega
      · have hjn : j = n := by omega
        subst hjn
        have hfin : ys = Tx (mkTs k j) := by
          apply List.ext_getElem?
          intro i
          rcases Nat.lt_or_ge i j with hi | hi
          · rw [HY.out i hi, Tx_get (mkTs_get k j i hi)]
          · rw [List.getElem?_eq_none (by have := HYL.out; omega), List.getElem?_eq_none (by rw [Tx_len, mkTs_len]; omega)]
        have HF := Lib.hid hfin
        clear hfin
        go_wp2
        go_ret
        exact ⟨ret_int rfl, by rw [← HF.out]; exact hown1, hgr⟩
set_option maxHeartbeats 2000000 in
theorem laws_heldTextO (A : Option Addr) (n c B k : Nat) (w : World) (hx : Rd w B A n (Tx (mkTs k n))) (hB : B ≤ w.heap.size) (hn : n ≤ 10000000) (hk0 : 1 ≤ k) (hk1 : k ≤ 10000000) :
    Calls Tryz.prog 45 #[.slice A n c, .int .i64 k] w fun e w' => e = .returned (.int .i64 ((k + n : Nat) : Int)) ∧ Below w.heap.size w w' := by
  rcases Nat.eq_zero_or_pos n with h0 | h0
  · subst h0
    go_enter Tryz.func45, Tryz.ntmps45
    go_wp2
    refine wp_loop_rounds 1 ?_
    rw [rounds_succ]
    go_wp2
    go_ret
    exact ⟨ret_int (by omega), Below.refl _ _⟩
  · obtain ⟨b, off, rfl, hbB, hc⟩ := hx.pos h0
    have HC := Lib.hid hc
    clear hc hx
    go_enter Tryz.func45, Tryz.ntmps45
    go_wp2
    go_loopw [1, 5] (fun v i wr => ∃ j q : Nat, j ≤ n ∧ i = .int .i64 j ∧ v = .int .i64 q ∧ Hid (q = k + j) ∧ Below w.heap.size w wr) (fun _ i _ => n - (intOf i).toNat)
    case atStart => exact ⟨0, k, by omega, rfl, rfl, Lib.hid rfl, Below.refl _ _⟩
    case round =>
      obtain ⟨j, q, hj, rfl, rfl, hq, hb⟩ := hrel
      have hz := hb.size
      have hq1 : q ≤ 20000000 := by have := hq.out; omega
      by_cases hlt : j < n
      · have c1 : wr.cell? ⟨b, off + j, none⟩ = some (.string (Ba (mkT q))) := (hb.cell (p := ⟨b, off + j, none⟩) (show b < w.heap.size by omega)).trans (HC.out j _ (by rw [hq.out]; exact Tx_get (mkTs_get k n j hlt)))
        have hin : (j : Int) < (n : Int) := by omega
        have hj0 : (0 : Int) ≤ j := by omega
        have CM := Lib.hid (fun w' => laws_markText q w' (by have := hq.out; omega) (by omega))
        have hbb : b < wr.heap.size := by omega
        have hqq : q + 1 = k + (j + 1) := by have := hq.out; omega
        have HQ := Lib.hid hqq
        clear hqq
        go_wp2_with fail
        go_region_held3 (fun w' => w'.cell? ⟨b, off + j, none⟩ = some (.string (Ba (mkT q)))) (first | go_keep | (exact (hbc.cell (p := ⟨b, off + j, none⟩) (show b < wr.heap.size by omega)).trans c1)) ((go_at_call 62; refine (CM.out _).mono ?_; rintro e w1 ⟨rfl, hb1⟩; have hbc : Below wr.heap.size wr w1 := ⟨hb1.os, hb1.tape, hb1.output, hb1.size, hb1.block⟩))
        all_goals go_wp2_with fail
        all_goals go_roundw
        case rel => exact ⟨j + 1, q + 1, by omega, by go_num, by go_num, HQ, hb.trans (hbc.mono hz)⟩
        case measure => simp [intOf]; omega
      · have hjn : j = n := by omega
        subst hjn
        have hqi : (q : Int) = ((k + j : Nat) : Int) := by rw [hq.out]
        have HQI := Lib.hid hqi
        clear hqi
        go_wp2
        go_ret
        exact ⟨ret_int HQI.out, hb⟩
end Go.Proofs.YtamhpgledbmnoaaGreat
