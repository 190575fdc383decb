/-
  The drawn deeds of a bench (l20Deed): some kind, some number, some short text.
  Conditions: none but those of the model.
-/
import Derived.Test.YtamhpgledbmnoaaGreatDoorD10
import Derived.Test.YtamhpgledbmnoaaGreatDoorO0
namespace Go.Proofs.YtamhpgledbmnoaaGreatDoor
set_option linter.unusedVariables false
set_option linter.unusedSimpArgs false
open Go.RowKit
/-- Three cells of a block written, one behind the other. -/
def put3 (w : World) (r : Nat) (v0 v1 v2 : Value) : World := ((w.setCell ⟨r, 0, none⟩ v0).setCell ⟨r, 1, none⟩ v1).setCell ⟨r, 2, none⟩ v2
section
variable {w a : World} {r g base n c : Nat} {t t' : TypeId} {u0 u1 u2 v0 v1 v2 : Value}
theorem put3_blk (h : Blk w r t #[u0, u1, u2]) : Blk (put3 w r v0 v1 v2) r t #[v0, v1, v2] := ((h.set_ 0 v0).set_ 1 v1).set_ 2 v2
theorem put3_below (h : Below g a w) (hr : g ≤ r) : Below g a (put3 w r v0 v1 v2) :=
  ((h.setCell (p := ⟨r, 0, none⟩) hr v0).setCell (p := ⟨r, 1, none⟩) hr v1).setCell (p := ⟨r, 2, none⟩) hr v2
theorem put3_blk' (h : Blk w r t #[u0, u1, u2]) : Blk (((w.setCell ⟨r, 0, none⟩ v0).setCell ⟨r, 1, none⟩ v1).setCell ⟨r, 2, none⟩ v2) r t #[v0, v1, v2] := put3_blk h
theorem put3_below' (h : Below g a w) (hr : g ≤ r) : Below g a (((w.setCell ⟨r, 0, none⟩ v0).setCell ⟨r, 1, none⟩ v1).setCell ⟨r, 2, none⟩ v2) := put3_below h hr
theorem load_deed {w : World} {r : Nat} (h : Blk w r 24 #[v0, v1, v2]) : (loadVar 24 ⟨r, 0, none⟩).run Tryz.prog w = .ok (.agg #[v0, v1, v2]) w := by
  have c0 : w.cell? ⟨r, 0, none⟩ = some v0 := h.cell 0
  have c1 : w.cell? ⟨r, 1, none⟩ = some v1 := h.cell 1
  have c2 : w.cell? ⟨r, 2, none⟩ = some v2 := h.cell 2
  simp [go_sem, c0, c1, c2]
end
theorem results_cell {P : Program} {fn : Func} {a : Tmp} {ty : TypeId} (h : fn.results = #[.cell a ty]) {tmps : Array Value} {w : World} {ad : Addr} {v : Value} (hp : tmps.getD a undef = .pointer (some ad)) (hl : (loadVar ty ad).run P w = .ok v w) :
    (results fn tmps).run P w = .ok v w := by
  simp only [results, h]
  rw [Array.getD_eq_getD_getElem?] at hp
  simp [hp, asAddr, hl]
theorem grown_frozenR {W w1 : World} {R : Nat} (h : W.grownBy w1 (some R)) : ∀ (b o : Nat), b < W.heap.size → b ≠ R → w1.frozen? ⟨b, o, none⟩ = W.frozen? ⟨b, o, none⟩ :=
  fun b o hb hne => h.frozen_far ⟨b, o, none⟩ hb (by simpa using hne)
theorem Blk.new' {w : World} {D : Nat} {t : TypeId} {cs : Array Value} (h : D = w.heap.size) : Blk (w.alloc (.cells cs t)) D t cs := by subst h; exact Blk.new w t cs
theorem grown_e0 {w w1 : World} {R : Nat} (h : w.drew.grownBy w1 (some R)) : w.grownBy w1 (some R) := ⟨h.os, h.tape, h.output, h.size, h.block⟩
theorem grown_e1 {w w1 : World} {R : Nat} {o : Obj} (h : (w.alloc o).drew.grownBy w1 (some R)) : w.grownBy w1 (some R) := (World.grownBy_alloc w o _).trans (grown_e0 h)
theorem grown_e2 {w w1 : World} {R : Nat} {o o' : Obj} (h : ((w.alloc o).alloc o').drew.grownBy w1 (some R)) : w.grownBy w1 (some R) := (World.grownBy_alloc w o _).trans (grown_e1 h)
theorem grown_f1 {w w1 : World} {R : Nat} {o : Obj} (h : (w.alloc o).grownBy w1 (some R)) : w.grownBy w1 (some R) := (World.grownBy_alloc w o _).trans h
theorem grown_f2 {w w1 : World} {R : Nat} {o o' : Obj} (h : ((w.alloc o).alloc o').grownBy w1 (some R)) : w.grownBy w1 (some R) := (World.grownBy_alloc w o _).trans (grown_f1 h)
def kindV (j : Nat) : Int := ([0, 1, 2, 2, 2, 3, 4, 5] : List Int).getD j 0
theorem kind_lit (j : Nat) (h : j < ([.int .i64 0, .int .i64 1, .int .i64 2, .int .i64 2, .int .i64 2, .int .i64 3, .int .i64 4, .int .i64 5] : List Value).length) :
    ([.int .i64 0, .int .i64 1, .int .i64 2, .int .i64 2, .int .i64 2, .int .i64 3, .int .i64 4, .int .i64 5] : List Value)[j]'h = .int .i64 (kindV j) := by
  have h : j < 8 := h
  rcases (by omega : j = 0 ∨ j = 1 ∨ j = 2 ∨ j = 3 ∨ j = 4 ∨ j = 5 ∨ j = 6 ∨ j = 7) with rfl | rfl | rfl | rfl | rfl | rfl | rfl | rfl <;> rfl
/-- Some deed with a short text. -/
def Deedd (R N : Nat) (w : World) (e : Ending) (w' : World) : Prop := ∃ (k n : Int) (t : List UInt8), e = .returned (deedV k n t) ∧ t.length ≤ 70 ∧ Rdr w' R N ∧ w.grownBy w' (some R)
set_option maxRecDepth 100000 in
set_option maxHeartbeats 8000000 in
theorem spec_l20Deed (R N : Nat) (b : Pl.Bn) (A P : Option Addr) (n c m d : Nat) (w : World) (h : Rdr w R N) (hN : N ≤ 70000) :
    Calls Tryz.prog 19 #[.pointer (some ⟨R, 0, none⟩), benchV b.k b.x b.y A n c P m d] w (Deedd R (N + 220) w) := by
  obtain ⟨k, x, y, E, ts⟩ := b
  have hR := h.lt
  obtain ⟨g, hg⟩ : ∃ g, w.heap.size = g := ⟨_, rfl⟩
  obtain ⟨w0, hw0⟩ : ∃ w0, w0 = (w.alloc (.cells #[.int .i64 k, .int .i64 x, .int .i64 y, .slice A n c, .slice P m d] 44)).alloc (.cells #[.int .i64 0, .int .i64 0, .string ⟨#[]⟩] 24) := ⟨_, rfl⟩
  have hz0 : w0.heap.size = g + 2 := by rw [hw0, ← hg]; simp
  have HG0 := Lib.hid (show w.grownBy w0 (some R) by rw [hw0]; exact (World.grownBy_alloc w _ _).trans (World.grownBy_alloc _ _ _))
  have K0 : Blk w0 g 44 #[.int .i64 k, .int .i64 x, .int .i64 y, .slice A n c, .slice P m d] := by rw [hw0, ← hg]; exact (Blk.new w _ _).alloc _
  have K1 : Blk w0 (g + 1) 24 #[.int .i64 0, .int .i64 0, .string ⟨#[]⟩] := by
    rw [hw0, ← hg]
    have := Blk.new (w.alloc (.cells #[.int .i64 k, .int .i64 x, .int .i64 y, .slice A n c, .slice P m d] 44)) 24 #[.int .i64 0, .int .i64 0, .string ⟨#[]⟩]
    rwa [World.size_alloc] at this
  have hr0 : Rdr w0 R N := by rw [hw0]; exact (h.alloc _).alloc _
  rw [hg] at hR
  clear h
  unfold benchV
  go_enter Tryz.func19, Tryz.ntmps19
  go_upto_region 1 with (fail)
  rw [← hw0]
  clear hw0
  go_cut [5] from 53 (fun s5 wx => ∃ (D : Nat) (kk : Int), s5 = .pointer (some ⟨D, 0, none⟩) ∧ g + 2 ≤ D ∧ Blk wx D 24 #[.int .i64 kk, .int .i64 0, .string ⟨#[]⟩] ∧ Rdr wx R (N + 2) ∧ w0.grownBy wx (some R))
  case first =>
    have C1 := Lib.hid (fun w' h => spec_pick R N 8 w' h (by omega) (by omega))
    have C2 := Lib.hid (fun w' h => spec_pick R (N + 1) 60 w' h (by omega) (by omega))
    have HR0 := Lib.hid hr0
    have hlit := kind_lit
    have n1 : w0.heap.size ≠ R := by omega
    have n2 : w0.heap.size + 1 ≠ R := by omega
    have n3 : g + 2 ≠ R := by omega
    have n4 : g + 2 + 1 ≠ R := by omega
    have n5 : R < w0.heap.size := by omega
    clear hr0
    go_region_with (first
      | (go_at_call_of 32 (Value.int IntKind.i64 8); refine (C1.out _ (by first | exact HR0.out | exact HR0.out.alloc _ | exact (HR0.out.alloc _).alloc _)).mono ?_; rintro e w1 ⟨p, rfl, hp, hr1, hg1⟩; obtain ⟨j0, j1⟩ := hp.2 (by omega); obtain ⟨j, rfl⟩ := Int.eq_ofNat_of_zero_le j0; have j2 : IntKind.i64.wrap (j : Int) = j := IntWalk.i64_in _ (by omega); have j3 : j < 8 := Int.ofNat_lt.1 j1; have hgc := grown_cellsR hg1; have hgf := grown_frozenR hg1; have zz1 := hg1.size; (try simp only [World.size_alloc, World.size_drew] at zz1); have n6 : w1.heap.size ≠ R := (by omega); have n7 : w1.heap.size + 1 ≠ R := (by omega); (try have n8 : g + 2 < w1.heap.size := (by omega)); (try have n9 : g + 2 + 1 < w1.heap.size := (by omega)); have HR1 := Lib.hid hr1; have HG1 : Hid (w0.grownBy w1 (some R)) := Lib.hid (by first | exact hg1 | exact grown_e0 hg1 | exact grown_e1 hg1 | exact grown_e2 hg1 | exact grown_f1 hg1 | exact grown_f2 hg1); have HH1 := Lib.hid hg1; clear hp hr1 hg1)
      | (go_at_call_of 32 (Value.int IntKind.i64 60); refine (C2.out _ (by first | exact HR1.out | exact HR1.out.alloc _ | exact (HR1.out.alloc _).alloc _)).mono ?_; rintro e w2 ⟨q, rfl, hq, hr2, hg2⟩; obtain ⟨q0, q1⟩ := hq.2 (by omega); have hgc2 := grown_cellsR hg2; have hgf2 := grown_frozenR hg2; have zz2 := hg2.size; (try simp only [World.size_alloc, World.size_drew] at zz2); (try have n12 : g + 2 < w2.heap.size := (by omega)); (try have n13 : g + 2 + 1 < w2.heap.size := (by omega)); (try have n14 : w1.heap.size ≠ w2.heap.size := (by omega)); (try have n15 : g + 2 ≠ w2.heap.size := (by omega)); (try have n10 : w1.heap.size < w2.heap.size := (by omega)); (try have n11 : w1.heap.size + 1 < w2.heap.size := (by omega)); have HR2 := Lib.hid hr2; have HG2 : Hid (w1.grownBy w2 (some R)) := Lib.hid (by first | exact hg2 | exact grown_e0 hg2 | exact grown_e1 hg2 | exact grown_e2 hg2 | exact grown_f1 hg2 | exact grown_f2 hg2); have HH2 := Lib.hid hg2; clear hq hr2 hg2))
    all_goals go_wp2_with (with_reducible refine AtEnd.of ?_)
    all_goals go_meet
    all_goals refine ⟨_, IntKind.i64.wrap (kindV j + IntKind.i64.wrap (IntKind.i64.wrap (q.tdiv 59) * 6)), rfl, (by first | omega | (simp; omega)), ?_, HR2.out.below (B := g + 2) ?_ (by omega), only_below (B := g + 2) (HG1.out.trans HG2.out) ?_ (by omega)⟩
    all_goals repeat' (first
      | (with_reducible exact Below.refl _ _)
      | (with_reducible refine put3_below' ?_ ?_)
      | (with_reducible refine put3_blk' (u0 := .int .i64 0) (u1 := .int .i64 0) (u2 := .string ⟨#[]⟩) ?_)
      | (with_reducible refine Below.alloc ?_ ?_ _)
      | (with_reducible refine Below.drew ?_)
      | (with_reducible refine Blk.new' ?_)
      | (with_reducible refine Blk.alloc ?_ _)
      | (with_reducible refine Blk.drew ?_)
      | (with_reducible refine Blk.grown ?_ HH2.out ?_)
      | (with_reducible refine Blk.grown ?_ HH1.out ?_)
      | omega
      | (intro e; injection e; omega)
      | (simp; done)
      | (simp; omega)
      | (simp [World.setCell]; omega))
  case rest =>
    obtain ⟨w1, rfl⟩ : ∃ w1, w1 = wc := ⟨_, rfl⟩
    obtain ⟨D, kk, rfl, hD, KD, hr1, hg1⟩ := hcut
    have hz1 := hg1.size
    have K0 := K0.grown hg1 (by intro e; injection e; omega)
    have K1 := K1.grown hg1 (by intro e; injection e; omega)
    have HG1 := Lib.hid (HG0.out.trans hg1)
    have hDl := KD.lt
    have hDR : D ≠ R := by omega
    have hgw : g + 1 < w1.heap.size := by omega
    have hRl := hr1.lt
    have hwD : w.heap.size ≤ D := by omega
    have hD1 : g + 1 ≠ D := by omega
    have d0 : w1.cell? ⟨D, 0, none⟩ = some (.int .i64 kk) := KD.cell 0
    have d1 : w1.cell? ⟨D, 1, none⟩ = some (.int .i64 0) := KD.cell 1
    have d2 : w1.cell? ⟨D, 2, none⟩ = some (.string ⟨#[]⟩) := KD.cell 2
    have f1 : w1.frozen? ⟨D, 1, none⟩ = false := KD.frozen 1
    have f2 : w1.frozen? ⟨D, 2, none⟩ = false := KD.frozen 2
    have a0 : w1.cell? ⟨g, 0, none⟩ = some (.int .i64 k) := K0.cell 0
    clear hr0 hg1
    go_step
    go_step
    go_cut [6] from 53 (fun s6 wx => ∃ (nn : Int) (t : List UInt8), Blk wx D 24 #[.int .i64 kk, .int .i64 nn, .string (Ba t)] ∧ t.length ≤ 70 ∧ Blk wx (g + 1) 24 #[.int .i64 0, .int .i64 0, .string ⟨#[]⟩] ∧ Rdr wx R (N + 205) ∧ w.grownBy wx (some R))
    case first =>
      have CW := Lib.hid (fun w' h => spec_l20Word R (N + 2) k 14 w' h (by omega) (by omega))
      have CE := Lib.hid (fun w' h => spec_l20Equals R (N + 2) w' h (by omega))
      have CP := Lib.hid (fun w' h => spec_pick R (N + 2 + 200) 2 w' h (by omega) (by omega))
      rcases (by omega : (kk = 0 ∨ kk = 1) ∨ kk = 2 ∨ (kk ≠ 0 ∧ kk ≠ 1 ∧ kk ≠ 2)) with h01 | rfl | ⟨h0, h1, h2⟩
      · have hb : (kk == 0) = true ∨ ((kk == 0) = false ∧ (kk == 1) = true) := by
          rcases h01 with rfl | rfl
          · exact .inl rfl
          · exact .inr ⟨rfl, rfl⟩
        clear h01
        rcases hb with hb | ⟨hb, hb'⟩
        all_goals
          go_wp2_with (with_reducible refine AtEnd.of ?_)
          refine (CW.out _ hr1).mono ?_
          rintro e w2 ⟨v, rfl, _, _, hr2, hg2⟩
          have KD2 := KD.grown hg2 (by intro e; injection e; omega)
          have K12 := K1.grown hg2 (by intro e; injection e; omega)
          have f1' : w2.frozen? ⟨D, 1, none⟩ = false := KD2.frozen 1
          have d1' : w2.cell? ⟨D, 1, none⟩ = some (.int .i64 0) := KD2.cell 1
          have HG2 := Lib.hid (HG1.out.trans hg2)
          clear d0 d1 d2 f1 f2 a0
          go_wp2_with (with_reducible refine AtEnd.of ?_)
          go_meet
          exact ⟨v, [], KD2.set_ 1 (.int .i64 v), by simp, K12.far (p := ⟨D, 1, none⟩) hD1 (.int .i64 v), (hr2.below (B := D) ((Below.refl D w2).setCell (p := ⟨D, 1, none⟩) (Nat.le_refl _) (.int .i64 v)) (by omega)).more (by omega), only_below HG2.out ((Below.refl D w2).setCell (p := ⟨D, 1, none⟩) (Nat.le_refl _) (.int .i64 v)) hwD⟩
      · go_wp2_with (with_reducible refine AtEnd.of ?_)
        refine (CE.out _ hr1).mono ?_
        rintro e w2 ⟨v, v', rfl, X, Y, hr2, hg2⟩
        have KD2 := KD.grown hg2 (by intro e; injection e; omega)
        have K12 := K1.grown hg2 (by intro e; injection e; omega)
        have HG2 := Lib.hid (HG1.out.trans hg2)
        have X2 := Lib.hid X
        have Y2 := Lib.hid Y
        have hz2 := hg2.size
        clear d0 d1 d2 f1 f2 a0 X Y hg2
        go_wp2_with (with_reducible refine AtEnd.of ?_)
        refine (CP.out _ hr2).mono ?_
        rintro e w3 ⟨q, rfl, hq, hr3, hg3⟩
        have KD3 := KD2.grown hg3 (by intro e; injection e; omega)
        have K13 := K12.grown hg3 (by intro e; injection e; omega)
        have HG3 := Lib.hid (HG2.out.trans hg3)
        have X3 := Lib.hid (X2.out.grown hg3)
        have Y3 := Lib.hid (Y2.out.grown hg3)
        have hz3 := hg3.size
        clear X2 Y2 hg3 hq
        by_cases hq0 : q = 0
        · subst hq0
          obtain ⟨A3, xs, c3, rfl, l1, m1, r1⟩ := Y3.out.rd
          have CT := Lib.hid (spec_ExprText A3 xs.length c3 w3.heap.size xs w3 r1 (Nat.le_refl _) (by omega) m1)
          have htl := Pl.text_len' xs
          clear r1 X3 Y3
          go_wp2_with (with_reducible refine AtEnd.of ?_)
          refine CT.out.mono ?_
          rintro e w4 ⟨rfl, hb4⟩
          have KD4 := KD3.below hb4 (by omega)
          have K14 := K13.below hb4 (by omega)
          have HG4 := Lib.hid (HG3.out.trans (only_of_below hb4 (some R)))
          have hr4 := hr3.below hb4 hr3.lt
          have f2' : w4.frozen? ⟨D, 2, none⟩ = false := KD4.frozen 2
          have d2' : w4.cell? ⟨D, 2, none⟩ = some (.string ⟨#[]⟩) := KD4.cell 2
          generalize Pl.exprText xs = t at *
          go_wp2_with (with_reducible refine AtEnd.of ?_)
          go_meet
          exact ⟨0, t, KD4.set_ 2 (.string (Ba t)), htl, K14.far (p := ⟨D, 2, none⟩) hD1 (.string (Ba t)), (hr4.below (B := D) ((Below.refl D w4).setCell (p := ⟨D, 2, none⟩) (Nat.le_refl _) (.string (Ba t))) (by omega)).more (by omega), only_below HG4.out ((Below.refl D w4).setCell (p := ⟨D, 2, none⟩) (Nat.le_refl _) (.string (Ba t))) hwD⟩
        · have hqq : (q == 0) = false := by rw [beq_eq_false_iff_ne]; exact hq0
          obtain ⟨A3, xs, c3, rfl, l1, m1, r1⟩ := X3.out.rd
          have CT := Lib.hid (spec_ExprText A3 xs.length c3 w3.heap.size xs w3 r1 (Nat.le_refl _) (by omega) m1)
          have htl := Pl.text_len' xs
          clear r1 X3 Y3 hq0
          go_wp2_with (with_reducible refine AtEnd.of ?_)
          refine CT.out.mono ?_
          rintro e w4 ⟨rfl, hb4⟩
          have KD4 := KD3.below hb4 (by omega)
          have K14 := K13.below hb4 (by omega)
          have HG4 := Lib.hid (HG3.out.trans (only_of_below hb4 (some R)))
          have hr4 := hr3.below hb4 hr3.lt
          have f2' : w4.frozen? ⟨D, 2, none⟩ = false := KD4.frozen 2
          have d2' : w4.cell? ⟨D, 2, none⟩ = some (.string ⟨#[]⟩) := KD4.cell 2
          generalize Pl.exprText xs = t at *
          go_wp2_with (with_reducible refine AtEnd.of ?_)
          go_meet
          exact ⟨0, t, KD4.set_ 2 (.string (Ba t)), htl, K14.far (p := ⟨D, 2, none⟩) hD1 (.string (Ba t)), (hr4.below (B := D) ((Below.refl D w4).setCell (p := ⟨D, 2, none⟩) (Nat.le_refl _) (.string (Ba t))) (by omega)).more (by omega), only_below HG4.out ((Below.refl D w4).setCell (p := ⟨D, 2, none⟩) (Nat.le_refl _) (.string (Ba t))) hwD⟩
      · have b0 : (kk == 0) = false := by rw [beq_eq_false_iff_ne]; exact h0
        have b1 : (kk == 1) = false := by rw [beq_eq_false_iff_ne]; exact h1
        have b2 : (kk == 2) = false := by rw [beq_eq_false_iff_ne]; exact h2
        clear h0 h1 h2
        go_wp2_with (with_reducible refine AtEnd.of ?_)
        go_meet
        exact ⟨0, [], KD, by simp, K1, hr1.more (by omega), HG1.out⟩
    case rest =>
      obtain ⟨w2, rfl⟩ : ∃ w2, w2 = wc := ⟨_, rfl⟩
      obtain ⟨nn, t, KD2, ht, K12, hr2, hg2⟩ := hcut
      have HG2 := Lib.hid hg2
      have HT := Lib.hid ht
      have CO := Lib.hid (fun w' h => spec_odd R (N + 205) 40 w' h (by omega) (by omega))
      have CQ := Lib.hid (fun w' h => spec_pick R (N + 205 + 1) 120 w' h (by omega) (by omega))
      clear d0 d1 d2 f1 f2 a0 K0 K1 KD HG1 HG0 hr1 hg2 ht
      go_wp2_with (with_reducible refine AtEnd.of ?_)
      refine (CO.out _ hr2).mono ?_
      rintro e w3 ⟨od, rfl, _, hr3, hg3⟩
      have KD3 := KD2.grown hg3 (by intro e; injection e; omega)
      have K13 := K12.grown hg3 (by intro e; injection e; omega)
      have HG3 := Lib.hid (HG2.out.trans hg3)
      have hz3 := hg3.size
      clear HG2 hg3 hr2 KD2 K12
      cases od
      · have e0 : w3.cell? ⟨D, 0, none⟩ = some (.int .i64 kk) := KD3.cell 0
        have e1 : w3.cell? ⟨D, 1, none⟩ = some (.int .i64 nn) := KD3.cell 1
        have e2 : w3.cell? ⟨D, 2, none⟩ = some (.string (Ba t)) := KD3.cell 2
        have r0 : w3.cell? ⟨g + 1, 0, none⟩ = some (.int .i64 0) := K13.cell 0
        have r1 : w3.cell? ⟨g + 1, 1, none⟩ = some (.int .i64 0) := K13.cell 1
        have r2 : w3.cell? ⟨g + 1, 2, none⟩ = some (.string ⟨#[]⟩) := K13.cell 2
        have p0 : w3.frozen? ⟨g + 1, 0, none⟩ = false := K13.frozen 0
        have p1 : w3.frozen? ⟨g + 1, 1, none⟩ = false := K13.frozen 1
        have p2 : w3.frozen? ⟨g + 1, 2, none⟩ = false := K13.frozen 2
        go_wp2_with (with_reducible refine AtEnd.of ?_)
        have KF := put3_blk (v0 := .int .i64 kk) (v1 := .int .i64 nn) (v2 := .string (Ba t)) K13
        have HBF := put3_below (v0 := .int .i64 kk) (v1 := .int .i64 nn) (v2 := .string (Ba t)) (Below.refl (g + 1) w3) (Nat.le_refl _)
        exact atEnd_ret (results_cell Tryz.results19 rfl (load_deed KF)) rfl ⟨kk, nn, t, rfl, HT.out, (hr3.below HBF (by omega)).more (by omega), only_below HG3.out HBF (by omega)⟩
      · go_upto_region 12 with (fail)
        have e1 : w3.cell? ⟨D, 1, none⟩ = some (.int .i64 nn) := KD3.cell 1
        have f1 : w3.frozen? ⟨D, 1, none⟩ = false := KD3.frozen 1
        have HR3 := Lib.hid hr3
        clear hr3
        go_region_with (first
          | (go_at_call 32; refine (CQ.out _ (by exact HR3.out)).mono ?_; rintro e w4 ⟨q, rfl, hq, hr4, hg4⟩; have KD4 := Lib.hid (KD3.grown (w' := w4) (by first | exact hg4 | exact grown_e0 hg4) (by intro e; injection e; omega)); have K14 := Lib.hid (K13.grown (w' := w4) (by first | exact hg4 | exact grown_e0 hg4) (by intro e; injection e; omega)); have HG4 := Lib.hid (HG3.out.trans (c := w4) (by first | exact hg4 | exact grown_e0 hg4)); have HR4 := Lib.hid hr4; have e1' : w4.cell? ⟨D, 1, none⟩ = some (.int .i64 nn) := KD4.out.cell 1; have f1' : w4.frozen? ⟨D, 1, none⟩ = false := KD4.out.frozen 1; clear hr4 hg4 hq))
        all_goals (
          obtain ⟨z, hz⟩ : ∃ z, z = IntKind.i64.wrap (IntKind.i64.wrap (nn + q) - 10) := ⟨_, rfl⟩
          have KS := KD4.out.set_ 1 (.int .i64 z)
          have KR := K14.out.far (p := ⟨D, 1, none⟩) hD1 (.int .i64 z)
          have HBS := (Below.refl (g + 1) w4).setCell (p := ⟨D, 1, none⟩) (show g + 1 ≤ D by omega) (.int .i64 z)
          obtain ⟨w5, hw5⟩ : ∃ w5, w5 = w4.setCell ⟨D, 1, none⟩ (.int .i64 z) := ⟨_, rfl⟩
          rw [← hw5] at KS KR HBS
          rw [hz] at hw5
          rw [← hw5]
          have e0 : w5.cell? ⟨D, 0, none⟩ = some (.int .i64 kk) := KS.cell 0
          have e1 : w5.cell? ⟨D, 1, none⟩ = some (.int .i64 z) := KS.cell 1
          have e2 : w5.cell? ⟨D, 2, none⟩ = some (.string (Ba t)) := KS.cell 2
          have r0 : w5.cell? ⟨g + 1, 0, none⟩ = some (.int .i64 0) := KR.cell 0
          have r1 : w5.cell? ⟨g + 1, 1, none⟩ = some (.int .i64 0) := KR.cell 1
          have r2 : w5.cell? ⟨g + 1, 2, none⟩ = some (.string ⟨#[]⟩) := KR.cell 2
          have p0 : w5.frozen? ⟨g + 1, 0, none⟩ = false := KR.frozen 0
          have p1 : w5.frozen? ⟨g + 1, 1, none⟩ = false := KR.frozen 1
          have p2 : w5.frozen? ⟨g + 1, 2, none⟩ = false := KR.frozen 2
          clear hw5 hz
          go_wp2_with (with_reducible refine AtEnd.of ?_)
          have KF := put3_blk (v0 := .int .i64 kk) (v1 := .int .i64 z) (v2 := .string (Ba t)) KR
          have HBF := put3_below (v0 := .int .i64 kk) (v1 := .int .i64 z) (v2 := .string (Ba t)) HBS (Nat.le_refl _)
          exact atEnd_ret (results_cell Tryz.results19 rfl (load_deed KF)) rfl ⟨kk, z, t, rfl, HT.out, (HR4.out.below HBF (by omega)).more (by omega), only_below HG4.out HBF (by omega)⟩)
end Go.Proofs.YtamhpgledbmnoaaGreatDoor
