/-
  The program's deed on a bench behind a pointer (do).
  Conditions: as stated at each.
-/
import Derived.Test.YtamhpgledbmnoaaGreatO7
import Derived.Test.YtamhpgledbmnoaaGreatKR
import Derived.Test.YtamhpgledbmnoaaGreatKH
namespace Go.Proofs.YtamhpgledbmnoaaGreat
set_option linter.unusedVariables false
set_option linter.unusedSimpArgs false
open Go.RowKit
theorem BnAt.drewN {w : World} {G base : Nat} {b : Pl.Bn} (h : BnAt w G base b) (q : Nat) : BnAt (w.drewN q) G base b := by
  obtain ⟨A, P, n, c, m, d, h1, h2, h3⟩ := h
  exact ⟨A, P, n, c, m, d, h1.drewN q, h2.drewN q, h3.drewN q⟩
theorem BnAt.below {w w' : World} {G base : Nat} {b : Pl.Bn} (h : BnAt w G base b) (hb : Below w.heap.size w w') : BnAt w' G base b := by
  obtain ⟨A, P, n, c, m, d, h1, h2, h3⟩ := h
  exact ⟨A, P, n, c, m, d, h1.below hb h1.lt, h2.below hb, h3.below hb⟩
namespace Pl
theorem step_set {b : Bn} {r : Option (List Int)} {ys : List Int} (h : ys = r.getD []) :
    (setOr b ys r.isSome).2 = (r.bind (fun e => if e = b.e then none else some (setB b e))).isSome ∧ (setOr b ys r.isSome).1 = (r.bind (fun e => if e = b.e then none else some (setB b e))).getD b := by
  subst h
  cases r with
  | none => exact ⟨by rw [show (none : Option (List Int)).isSome = false from rfl, setOr_f]; rfl, by rw [show (none : Option (List Int)).isSome = false from rfl, setOr_f]; rfl⟩
  | some e =>
    show (setOr b e true).2 = (if e = b.e then none else some (setB b e)).isSome ∧ (setOr b e true).1 = (if e = b.e then none else some (setB b e)).getD b
    by_cases he : e = b.e
    · rw [setOr_e he, if_pos he]; exact ⟨rfl, rfl⟩
    · rw [setOr_t he, if_neg he]; exact ⟨rfl, rfl⟩
theorem step_simple {b : Bn} {e : List Int} : (setOr b e true).2 = (if e = b.e then none else some (setB b e)).isSome ∧ (setOr b e true).1 = (if e = b.e then none else some (setB b e)).getD b := by
  by_cases he : e = b.e
  · rw [setOr_e he, if_pos he]; exact ⟨rfl, rfl⟩
  · rw [setOr_t he, if_neg he]; exact ⟨rfl, rfl⟩
theorem named_f {b : Bn} {d : Dd} (h : namedB d = false) : stepB b d = none := by
  obtain ⟨k, n, t⟩ := d
  rcases (by omega : k = 0 ∨ k = 1 ∨ k = 2 ∨ k = 3 ∨ k = 4 ∨ k = 5 ∨ (k ≠ 0 ∧ k ≠ 1 ∧ k ≠ 2 ∧ k ≠ 3 ∧ k ≠ 4 ∧ k ≠ 5)) with rfl | rfl | rfl | rfl | rfl | rfl | ⟨h0, h1, h2, h3, h4, h5⟩
  · rw [named_01 (.inl rfl)] at h; exact st0_f (by rw [h]; rfl)
  · rw [named_01 (.inr rfl)] at h; exact st1_f (by rw [h]; rfl)
  · rw [named_2] at h; exact st2_n (of_decide_eq_false h)
  · rw [named_345 (.inl rfl)] at h; exact st3_b h.symm
  · rw [named_345 (.inr (.inl rfl))] at h; exact st4_b h.symm
  · rw [named_345 (.inr (.inr rfl))] at h; exact st5_b h.symm
  · exact st6 h0 h1 h2 h3 h4 h5
theorem stepB_2 {b : Bn} {t : List UInt8} : stepB b ⟨2, 0, t⟩ = (readE t).bind (fun e => if e = b.e then none else some (setB b e)) := by unfold stepB; dsimp only; rw [if_neg (by decide), if_neg (by decide), if_pos rfl, if_pos rfl]
theorem stepB_3 {b : Bn} : stepB b ⟨3, 0, []⟩ = if exprSimple b.e = b.e then none else some (setB b (exprSimple b.e)) := by unfold stepB; dsimp only; rw [if_neg (by decide), if_neg (by decide), if_neg (by decide), if_pos rfl, if_pos ⟨rfl, rfl⟩]
theorem stepB_4 {b : Bn} : stepB b ⟨4, 0, []⟩ = (shortFor b.e).bind (fun e => if e = b.e then none else some (setB b e)) := by unfold stepB; dsimp only; rw [if_neg (by decide), if_neg (by decide), if_neg (by decide), if_neg (by decide), if_pos rfl, if_pos ⟨rfl, rfl⟩]
end Pl
set_option maxRecDepth 100000 in
set_option maxHeartbeats 8000000 in
theorem impl_do (b : Pl.Bn) (D : Pl.Dd) (G base : Nat) (w : World) (hb : BnAt w G base b) (hv : Pl.benchValid b = true) (hG : base ≤ G) (ht : D.t.length ≤ 2000000) :
    Calls Tryz.prog 39 #[.pointer (some ⟨G, 0, none⟩), deedV D.k D.n D.t] w fun e w' => e = .returned (.bool (Pl.stepB b D).isSome) ∧ BnAt w' G base ((Pl.stepB b D).getD b) ∧ Below base w w' := by
  obtain ⟨v1, v2, v3, v4⟩ := Pl.bv_size hv
  obtain ⟨dk, dn, t⟩ := D
  have hgl : G < w.heap.size := by obtain ⟨A, P, n, c, m, d, h1, _⟩ := hb; exact h1.lt
  obtain ⟨g, hg⟩ : ∃ g, w.heap.size = g := ⟨_, rfl⟩
  obtain ⟨w0, hw0⟩ : ∃ w0, w0 = w.alloc (.cells #[.int .i64 dk, .int .i64 dn, .string (Ba t)] 34) := ⟨_, rfl⟩
  have hz0 : w0.heap.size = g + 1 := by rw [hw0, ← hg]; simp
  have HW0 : Below w.heap.size w w0 := by rw [hw0]; exact (Below.refl _ _).alloc (Nat.le_refl _) _
  have KD : Blk w0 g 34 #[.int .i64 dk, .int .i64 dn, .string (Ba t)] := by rw [hw0, ← hg]; exact Blk.new w _ _
  have hb0 := hb.below HW0
  have HB0 := Lib.hid (HW0.mono (show base ≤ w.heap.size by omega))
  have CN := Lib.hid (fun w' => impl_named ⟨dk, dn, t⟩ w')
  have dd0 : w0.cell? ⟨g, 0, none⟩ = some (.int .i64 dk) := KD.cell 0
  have dd1 : w0.cell? ⟨g, 1, none⟩ = some (.int .i64 dn) := KD.cell 1
  have dd2 : w0.cell? ⟨g, 2, none⟩ = some (.string (Ba t)) := KD.cell 2
  clear hb HW0
  unfold deedV
  go_enter Tryz.func39, Tryz.ntmps39
  go_upto_region 1 with (fail)
  rw [← hw0]
  clear hw0
  go_wp2_with fail
  refine (CN.out _).mono ?_
  rintro e w1 ⟨rfl, hb1⟩
  have KD := KD.below hb1 (by omega)
  have hb1' := hb0.below hb1
  have HB1 := Lib.hid (HB0.out.trans (hb1.mono (by omega)))
  have hz1 := hb1.size
  clear dd0 dd1 dd2 hb1 hb0
  cases hnm : namedB ⟨dk, dn, t⟩
  · have hs := Lib.hid (Pl.named_f (b := b) hnm)
    clear hnm
    go_wp2_with fail
    go_ret
    rw [hs.out]
    exact ⟨rfl, hb1', HB1.out⟩
  · have HN := Lib.hid hnm
    clear hnm
    have dd0 : w1.cell? ⟨g, 0, none⟩ = some (.int .i64 dk) := KD.cell 0
    have dd1 : w1.cell? ⟨g, 1, none⟩ = some (.int .i64 dn) := KD.cell 1
    have dd2 : w1.cell? ⟨g, 2, none⟩ = some (.string (Ba t)) := KD.cell 2
    have HVV := Lib.hid hv
    obtain ⟨k, x, y, E, ts⟩ := b
    obtain ⟨A, P, n, c, m, d, KX, o1, p1⟩ := hb1'
    have ln : E.length = n := by have := o1.len; rwa [I64_len] at this
    have lm : ts.length = m := by have := p1.len; rwa [Tx_len] at this
    have v2 : E.length ≤ 24 := v2
    have v1 : 1 ≤ E.length := v1
    have v3 : ts.length ≤ 20 := v3
    have a0 : w1.cell? ⟨G, 0, none⟩ = some (.int .i64 k) := KX.cell 0
    have a1 : w1.cell? ⟨G, 1, none⟩ = some (.int .i64 x) := KX.cell 1
    have a2 : w1.cell? ⟨G, 2, none⟩ = some (.int .i64 y) := KX.cell 2
    have a3 : w1.cell? ⟨G, 3, none⟩ = some (.slice A n c) := KX.cell 3
    have a4 : w1.cell? ⟨G, 4, none⟩ = some (.slice P m d) := KX.cell 4
    have f1 : w1.frozen? ⟨G, 1, none⟩ = false := KX.frozen 1
    have f2 : w1.frozen? ⟨G, 2, none⟩ = false := KX.frozen 2
    have f3 : w1.frozen? ⟨G, 3, none⟩ = false := KX.frozen 3
    have f4 : w1.frozen? ⟨G, 4, none⟩ = false := KX.frozen 4
    rcases (by omega : dk = 0 ∨ dk = 1 ∨ dk = 2 ∨ dk = 3 ∨ dk = 4 ∨ dk = 5 ∨ (dk ≠ 0 ∧ dk ≠ 1 ∧ dk ≠ 2 ∧ dk ≠ 3 ∧ dk ≠ 4 ∧ dk ≠ 5)) with rfl | rfl | rfl | rfl | rfl | rfl | ⟨h0, h1, h2, h3, h4, h5⟩
    · have ht0 : t = [] := by have := HN.out; rw [named_01 (.inl rfl)] at this; exact of_decide_eq_true this
      subst ht0
      have CW := Lib.hid (fun w' => (impl_WordValid k dn w').mono (fun e w'' h => (⟨h.1, h.2.symm⟩ : e = .returned (.bool (Pl.wvB k dn)) ∧ w'' = w')))
      cases hw : Pl.wvB k dn
      · rw [hw] at CW
        have hs := Lib.hid (Pl.st0_f (b := ⟨k, x, y, E, ts⟩) (n := dn) (t := []) (by show false = (decide _ && Pl.wvB k dn); rw [hw]; simp))
        clear hw
        go_upto_region 6 with (fail)
        go_quiet ((go_at_call 70; refine Calls.quiet_of_same (CW.out _)))
        go_wp2_with fail
        go_ret
        rw [hs.out]
        exact ⟨rfl, ⟨A, P, n, c, m, d, KX.drewN nq, o1.drewN nq, p1.drewN nq⟩, below_drewN HB1.out nq⟩
      · rw [hw] at CW
        have hs := Lib.hid (Pl.st0_t (b := ⟨k, x, y, E, ts⟩) (n := dn) (t := []) (by show true = (decide _ && Pl.wvB k dn); rw [hw]; simp))
        clear hw
        go_upto_region 6 with (fail)
        go_quiet ((go_at_call 70; refine Calls.quiet_of_same (CW.out _)))
        go_wp2_with fail
        go_ret
        rw [hs.out]
        exact ⟨rfl, ⟨A, P, n, c, m, d, (KX.drewN nq).set_ 1 (.int .i64 dn), (o1.drewN nq).set_blk (o := 1) (KX.drewN nq) (by decide) _, (p1.drewN nq).set_blk (o := 1) (KX.drewN nq) (by decide) _⟩, (below_drewN HB1.out nq).setCell (p := ⟨G, 1, none⟩) hG _⟩
    · have ht0 : t = [] := by have := HN.out; rw [named_01 (.inr rfl)] at this; exact of_decide_eq_true this
      subst ht0
      have CW := Lib.hid (fun w' => (impl_WordValid k dn w').mono (fun e w'' h => (⟨h.1, h.2.symm⟩ : e = .returned (.bool (Pl.wvB k dn)) ∧ w'' = w')))
      cases hw : Pl.wvB k dn
      · rw [hw] at CW
        have hs := Lib.hid (Pl.st1_f (b := ⟨k, x, y, E, ts⟩) (n := dn) (t := []) (by show false = (decide _ && Pl.wvB k dn); rw [hw]; simp))
        clear hw
        go_upto_region 6 with (fail)
        go_quiet ((go_at_call 70; refine Calls.quiet_of_same (CW.out _)))
        go_wp2_with fail
        go_ret
        rw [hs.out]
        exact ⟨rfl, ⟨A, P, n, c, m, d, KX.drewN nq, o1.drewN nq, p1.drewN nq⟩, below_drewN HB1.out nq⟩
      · rw [hw] at CW
        have hs := Lib.hid (Pl.st1_t (b := ⟨k, x, y, E, ts⟩) (n := dn) (t := []) (by show true = (decide _ && Pl.wvB k dn); rw [hw]; simp))
        clear hw
        go_upto_region 6 with (fail)
        go_quiet ((go_at_call 70; refine Calls.quiet_of_same (CW.out _)))
        go_wp2_with fail
        go_ret
        rw [hs.out]
        exact ⟨rfl, ⟨A, P, n, c, m, d, (KX.drewN nq).set_ 2 (.int .i64 dn), (o1.drewN nq).set_blk (o := 2) (KX.drewN nq) (by decide) _, (p1.drewN nq).set_blk (o := 2) (KX.drewN nq) (by decide) _⟩, (below_drewN HB1.out nq).setCell (p := ⟨G, 2, none⟩) hG _⟩
    · have hn0 : dn = 0 := by have := HN.out; rw [named_2] at this; exact of_decide_eq_true this
      subst hn0
      have hs := Lib.hid (Pl.stepB_2 (b := ⟨k, x, y, E, ts⟩) (t := t))
      have CR := Lib.hid (fun w' => impl_ReadExpr t w' (by have : t.length ≤ 2000000 := ht; omega))
      go_wp2_with fail
      refine (CR.out _).mono ?_
      rintro e w2 ⟨ys, A4, c4, hys, rfl, own4, hb4⟩
      have hz2 := hb4.size
      have hse := Lib.hid (Pl.step_set (b := ⟨k, x, y, E, ts⟩) hys)
      have hyl := ys_len hys
      have CS := Lib.hid (impl_set ⟨k, x, y, E, ts⟩ ys (Pl.readE t).isSome G base A4 ys.length c4 w2 ⟨A, P, n, c, m, d, KX.below hb4 (by omega), o1.below hb4, p1.below hb4⟩ ((ORow.of_own own4).mono (by omega)) hG (by show E.length ≤ 1000000; omega) (by show ts.length ≤ 100000; omega) (by omega))
      have HB2 := Lib.hid (HB1.out.trans (hb4.mono (by omega)))
      clear hys own4 hb4 dd0 dd1 dd2 a0 a1 a2 a3 a4 f1 f2 f3 f4
      go_wp2_with fail
      refine CS.out.mono ?_
      rintro e w3 ⟨rfl, hb3, hB3⟩
      go_wp2_with fail
      go_ret
      rw [hs.out]
      exact ⟨by rw [hse.out.1]; rfl, by rw [← hse.out.2]; exact hb3, HB2.out.trans hB3⟩
    · obtain ⟨hn0, ht0⟩ := Pl.bare_t (show true = _ from by have := HN.out; rw [named_345 (.inl rfl)] at this; exact this.symm)
      subst hn0 ht0
      have hs := Lib.hid (Pl.stepB_3 (b := ⟨k, x, y, E, ts⟩))
      have CI := Lib.hid (impl_ExprSimple A n c w1.heap.size E w1 o1.rd (Nat.le_refl _) (by omega))
      go_wp2_with fail
      refine CI.out.mono ?_
      rintro e w2 ⟨A4, c4, rfl, own4, hb4⟩
      have hz2 := hb4.size
      have hse := Lib.hid (Pl.step_simple (b := ⟨k, x, y, E, ts⟩) (e := Pl.exprSimple E))
      have hyl := exprSimple_24 E
      have CS := Lib.hid (impl_set ⟨k, x, y, E, ts⟩ (Pl.exprSimple E) true G base A4 (Pl.exprSimple E).length c4 w2 ⟨A, P, n, c, m, d, KX.below hb4 (by omega), o1.below hb4, p1.below hb4⟩ ((ORow.of_own own4).mono (by omega)) hG (by show E.length ≤ 1000000; omega) (by show ts.length ≤ 100000; omega) (by omega))
      have HB2 := Lib.hid (HB1.out.trans (hb4.mono (by omega)))
      clear own4 hb4 dd0 dd1 dd2 a0 a1 a2 a3 a4 f1 f2 f3 f4
      go_wp2_with fail
      refine CS.out.mono ?_
      rintro e w3 ⟨rfl, hb3, hB3⟩
      go_wp2_with fail
      go_ret
      rw [hs.out]
      exact ⟨by rw [hse.out.1]; rfl, by rw [← hse.out.2]; exact hb3, HB2.out.trans hB3⟩
    · obtain ⟨hn0, ht0⟩ := Pl.bare_t (show true = _ from by have := HN.out; rw [named_345 (.inr (.inl rfl))] at this; exact this.symm)
      subst hn0 ht0
      have hs := Lib.hid (Pl.stepB_4 (b := ⟨k, x, y, E, ts⟩))
      have CI := Lib.hid (impl_ShortFor A n c w1.heap.size E w1 o1.rd (Nat.le_refl _) (by omega))
      go_wp2_with fail
      refine CI.out.mono ?_
      rintro e w2 ⟨A4, c4, rfl, own4, hb4⟩
      have hz2 := hb4.size
      have hse := Lib.hid (Pl.step_set (b := ⟨k, x, y, E, ts⟩) (r := Pl.shortFor E) rfl)
      have hyl : ((Pl.shortFor E).getD []).length ≤ 5 := by
        cases h : Pl.shortFor E with
        | none => simp
        | some f => exact (Pl.short_some h).2.2.1.2.2
      have CS := Lib.hid (impl_set ⟨k, x, y, E, ts⟩ ((Pl.shortFor E).getD []) (Pl.shortFor E).isSome G base A4 ((Pl.shortFor E).getD []).length c4 w2 ⟨A, P, n, c, m, d, KX.below hb4 (by omega), o1.below hb4, p1.below hb4⟩ ((ORow.of_own own4).mono (by omega)) hG (by show E.length ≤ 1000000; omega) (by show ts.length ≤ 100000; omega) (by omega))
      have HB2 := Lib.hid (HB1.out.trans (hb4.mono (by omega)))
      clear own4 hb4 dd0 dd1 dd2 a0 a1 a2 a3 a4 f1 f2 f3 f4
      go_wp2_with fail
      refine CS.out.mono ?_
      rintro e w3 ⟨rfl, hb3, hB3⟩
      go_wp2_with fail
      go_ret
      rw [hs.out]
      exact ⟨by rw [hse.out.1]; rfl, by rw [← hse.out.2]; exact hb3, HB2.out.trans hB3⟩
    · obtain ⟨hn0, ht0⟩ := Pl.bare_t (show true = _ from by have := HN.out; rw [named_345 (.inr (.inr rfl))] at this; exact this.symm)
      subst hn0 ht0
      have hbare := Lib.hid (show true = (decide ((0 : Int) = 0) && decide (([] : List UInt8) = [])) from rfl)
      by_cases hm0 : m = 0
      · have hs := Lib.hid (Pl.st5_n (b := ⟨k, x, y, E, ts⟩) hbare.out (by show ts.length = 0; omega))
        subst hm0
        have hz1 : IntKind.i64.wrap (-1) = -1 := by decide
        go_wp2_with fail
        go_ret
        rw [hs.out]
        exact ⟨rfl, ⟨A, P, n, c, 0, d, KX, o1, p1⟩, HB1.out⟩
      · obtain ⟨j, rfl⟩ : ∃ j, m = j + 1 := ⟨m - 1, by omega⟩
        obtain ⟨s, es⟩ : ∃ s, ts[j]? = some s := ⟨_, List.getElem?_eq_getElem (by omega)⟩
        have hsl : s.length ≤ 70 := v4 s (List.mem_of_getElem? es)
        have CR := Lib.hid (fun w' => impl_ReadExpr s w' (by omega))
        have HST := Lib.hid (Pl.st5_t (b := ⟨k, x, y, E, ts⟩) (j := j) hbare.out (by show ts.length = j + 1; omega) es)
        obtain ⟨b1, off1, rfl⟩ := p1.some (by omega)
        obtain ⟨b', off', hbe, _, hc⟩ := p1.rd.pos (by omega)
        obtain rfl : b1 = b' := by injection hbe with h; injection h
        obtain rfl : off1 = off' := by injection hbe with h; injection h
        have cs : w1.cell? ⟨b1, off1 + j, none⟩ = some (.string (Ba s)) := hc j _ (Tx_get es)
        have hcp := p1.cap
        have hcp1 : (j : Int) ≤ (d : Int) := by omega
        have hj0 : (0 : Int) ≤ (j : Int) := by omega
        have hj1 : ¬ (j : Int) < 0 := by omega
        have hj3 : IntKind.i64.wrap (((j + 1 : Nat) : Int) - 1) = (j : Int) := by rw [show (((j + 1 : Nat) : Int) - 1) = (j : Int) by omega]; exact IntWalk.i64_in _ (by omega)
        have hj4 : IntKind.i64.wrap ((j : Int) + 1 - 1) = (j : Int) := by rw [show ((j : Int) + 1 - 1) = (j : Int) by omega]; exact IntWalk.i64_in _ (by omega)
        have hj7 : IntKind.i64.wrap (j : Int) = (j : Int) := IntWalk.i64_in _ (by omega)
        have hj5 : (j : Int) < ((j + 1 : Nat) : Int) := by omega
        have hj6 : (j : Int) < (j : Int) + 1 := by omega
        clear hc hbe es hm0
        go_wp2_with fail
        refine (CR.out _).mono ?_
        rintro e w2 ⟨zs, A7, c7, hzy, rfl, own7, hb7⟩
        have HST := Lib.hid (by have := HST.out; rw [← hzy] at this; exact this)
        have hz7 := hb7.size
        have HB2 := Lib.hid (HB1.out.trans (hb7.mono (by omega)))
        have K2 := KX.below hb7 KX.lt
        have p2 := p1.below hb7
        have o2 := (ORow.of_own own7).mono (show base ≤ w1.heap.size by omega)
        have f3' : w2.frozen? ⟨G, 3, none⟩ = false := K2.frozen 3
        have f4' : w2.frozen? ⟨G, 4, none⟩ = false := K2.frozen 4
        have b3' : w2.cell? ⟨G, 3, none⟩ = some (.slice A n c) := K2.cell 3
        have b4' : w2.cell? ⟨G, 4, none⟩ = some (.slice (some ⟨b1, off1, none⟩) (j + 1) d) := K2.cell 4
        have q2 := p2.take (show j ≤ j + 1 by omega)
        rw [Tx_take] at q2
        clear a0 a1 a2 a3 a4 f1 f2 f3 f4 dd0 dd1 dd2 cs hzy own7 hb7
        go_wp2_with fail
        go_ret
        rw [HST.out]
        exact ⟨rfl, ⟨A7, some ⟨b1, off1, none⟩, zs.length, c7, j, d, (K2.set_ 3 (.slice A7 zs.length c7)).set_ 4 (.slice (some ⟨b1, off1, none⟩) j d), (o2.set_blk (o := 3) K2 (by decide) _).set_blk (o := 4) (K2.set_ 3 (.slice A7 zs.length c7)) (by decide) _, (q2.set_blk (o := 3) K2 (by decide) _).set_blk (o := 4) (K2.set_ 3 (.slice A7 zs.length c7)) (by decide) _⟩, (HB2.out.setCell (p := ⟨G, 3, none⟩) hG _).setCell (p := ⟨G, 4, none⟩) hG _⟩
    · exact absurd HN.out (by rw [named_o h0 h1 h2 h3 h4 h5]; decide)
end Go.Proofs.YtamhpgledbmnoaaGreat
