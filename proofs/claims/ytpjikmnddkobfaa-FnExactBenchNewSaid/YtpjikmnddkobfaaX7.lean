/-
  The exact law of BenchNew.
  Conditions: none.
-/
import Derived.Test.YtpjikmnddkobfaaB1
import Derived.Test.YtpjikmnddkobfaaE3
namespace Go.Proofs.Ytpjikmnddkobfaa
set_option linter.unusedVariables false
set_option linter.unusedSimpArgs false
open Go.RowKit
theorem newE_len (k : Int) : (newE k).length ≤ 1 := by unfold newE; split <;> simp
theorem blk5 {w : World} {g : Nat} {T : TypeId} {a b c d e : Value} (h : Blk w g T #[a, b, c, d, e]) :
    w.cell? ⟨g, 0, none⟩ = some a ∧ w.cell? ⟨g, 1, none⟩ = some b ∧ w.cell? ⟨g, 2, none⟩ = some c ∧ w.cell? ⟨g, 3, none⟩ = some d ∧ w.cell? ⟨g, 4, none⟩ = some e :=
  ⟨(h.cell 0).trans rfl, (h.cell 1).trans rfl, (h.cell 2).trans rfl, (h.cell 3).trans rfl, (h.cell 4).trans rfl⟩
set_option maxHeartbeats 1000000 in
theorem law_FnExactBenchNew (k : Int) (wk : (Lit.int .i64 k).wf = true) (w : World) :
    Calls Try.prog 3 #[.int .i64 k] w fun e w' => e = .returned (.bool true) ∧ Below w.heap.size w w' := by
  have hlen := newE_len k
  have cs := Lib.hid (fun w => spec_BenchNew k w)
  have ci := Lib.hid (fun w => impl_BenchNew k w)
  unfold OutB at cs ci
  generalize newE k = E at *
  generalize newW k = W at *
  go_enter Try.func3, Try.ntmps3
  go_wp2_with fail
  refine (cs.out _).mono ?_
  rintro e w1 ⟨A1, c1, P1, p1, rfl, own1, hb1⟩
  have z1 := hb1.size
  have bl3 := Blk.new w1 25 #[.int .i64 W, .int .i64 0, .int .i64 0, .slice A1 E.length c1, .slice P1 0 p1]
  have r1 := (rd_own own1).alloc (Nat.le_refl _) (.cells #[.int .i64 W, .int .i64 0, .int .i64 0, .slice A1 E.length c1, .slice P1 0 p1] 25)
  have hbA := hb1.alloc z1 (.cells #[.int .i64 W, .int .i64 0, .int .i64 0, .slice A1 E.length c1, .slice P1 0 p1] 25)
  unfold benchV
  go_wp2_with fail
  refine (ci.out _).mono ?_
  rintro e w2 ⟨A2, c2, P2, p2, rfl, own2, hb2⟩
  have z2 := hb2.size
  have z2' : w1.heap.size + 1 ≤ w2.heap.size := by simpa using z2
  have bl3' := bl3.below hb2 bl3.lt
  have bl4 := Blk.new w2 25 #[.int .i64 W, .int .i64 0, .int .i64 0, .slice A2 E.length c2, .slice P2 0 p2]
  have r1' := r1.below (hb2.mono (by simp))
  have r1'' := (r1'.more (B' := w2.heap.size) (by omega)).alloc (Nat.le_refl _) (.cells #[.int .i64 W, .int .i64 0, .int .i64 0, .slice A2 E.length c2, .slice P2 0 p2] 25)
  have r2 := (rd_own own2).alloc (Nat.le_refl _) (.cells #[.int .i64 W, .int .i64 0, .int .i64 0, .slice A2 E.length c2, .slice P2 0 p2] 25)
  have hbB := below_step hbA hb2 (by simp; omega)
  have hbC := hbB.alloc hbB.size (.cells #[.int .i64 W, .int .i64 0, .int .i64 0, .slice A2 E.length c2, .slice P2 0 p2] 25)
  obtain ⟨x0, x1, x2, x3, x4⟩ := blk5 bl3'
  have hn1 : ¬ w2.heap.size = w1.heap.size := by omega
  have hn2 : ¬ w1.heap.size = w2.heap.size := by omega
  have hn3 : w1.heap.size < w2.heap.size := by omega
  have bl3a := bl3'.alloc (.cells #[.int .i64 W, .int .i64 0, .int .i64 0, .slice A2 E.length c2, .slice P2 0 p2] 25)
  have own2a := own2.alloc (.cells #[.int .i64 W, .int .i64 0, .int .i64 0, .slice A2 E.length c2, .slice P2 0 p2] 25)
  obtain ⟨y0, y1, y2, y3, y4⟩ := blk5 bl3a
  clear hbA hb1 bl3 r1 hb2 hbB
  unfold benchV
  go_wp2_with fail
  refine (laws_eqBench W 0 0 A2 A1 P2 P1 E.length 0 c2 c1 p2 p1 w2.heap.size E _ r2 r1'' (by simp) (by omega)).mono ?_
  rintro e w3 ⟨rfl, hb3⟩
  have z3 := hb3.size
  have z3' : w2.heap.size + 1 ≤ w3.heap.size := by simpa using z3
  have b3 := bl3a.below hb3 bl3a.lt
  have b4 := bl4.below hb3 bl4.lt
  have own3 := own_below own2a hb3
  have hne4 : some w2.heap.size ≠ (Value.slice A2 E.length c2).ownBlock := fun e => absurd (own2.lt _ e.symm).2 (by omega)
  have q1 := (r1'.alloc (by omega) (.cells #[.int .i64 W, .int .i64 0, .int .i64 0, .slice A2 E.length c2, .slice P2 0 p2] 25)).below (hb3.mono (by simp; omega))
  have hbD := below_step hbC hb3 (by simp; omega)
  clear x0 x1 x2 x3 x4 y0 y1 y2 y3 y4 bl3' bl4 bl3a own1 own2 own2a r1' r1'' r2 hb3 hbC
  obtain ⟨x0, x1, x2, x3, x4⟩ := blk5 b4
  go_wp2_with fail
  refine (laws_markBench W 0 0 1 A2 P2 E.length c2 p2 _ _ _ own3 (by simp; omega) (by omega) (by omega) (by omega)).mono ?_
  rintro e w4 ⟨rfl, own4, hb4, hg4⟩
  have z4 := hb4.size
  have hb4' : Below (w1.heap.size + 1) w3 w4 := by simpa using hb4
  have b3' := b3.below hb4' (by omega)
  have b4' := b4.grown hg4 hne4
  have q2 := q1.below (hb4'.mono (by omega))
  have hbE := hbD.trans (hb4'.mono (by omega))
  clear x0 x1 x2 x3 x4 b3 b4 own3 q1 hg4 hbD hb4
  obtain ⟨x0, x1, x2, x3, x4⟩ := blk5 b4'
  go_wp2_with fail
  refine (laws_heldBench W 0 0 1 A2 P2 E.length c2 p2 _ _ (rd_own own4) (Nat.le_refl _) (by omega) (by omega) (by omega)).mono ?_
  rintro e w5 ⟨rfl, hb5⟩
  have z5 := hb5.size
  have b3 := b3'.below hb5 (by omega)
  have b4 := b4'.below hb5 (by omega)
  have own5 := own_below own4 hb5
  have q3 := q2.below (hb5.mono (by omega))
  have hbF := below_step hbE hb5 hbE.size
  have hneg : ¬ (1 : Int) + (E.length : Int) < 0 := by omega
  have hmm : ((1 : Int) + (E.length : Int) != 1 + (E.length : Int)) = false := by simp
  clear x0 x1 x2 x3 x4 b3' b4' own4 q2 hbE hb5
  go_wp2_with fail
  refine (ci.out _).mono ?_
  rintro e w6 ⟨A6, c6, P6, p6, rfl, own6, hb6⟩
  have z6 := hb6.size
  have b3' := b3.below hb6 (by omega)
  have b4' := b4.below hb6 (by omega)
  have own6' := own_below own5 hb6
  have q4 := q3.below (hb6.mono (by omega))
  have hbG := below_step hbF hb6 hbF.size
  have q5 := (q4.more (B' := w6.heap.size) (by omega)).alloc (Nat.le_refl _) (.cells #[.int .i64 W, .int .i64 0, .int .i64 0, .slice A6 E.length c6, .slice P6 0 p6] 25)
  have r6 := (rd_own own6).alloc (Nat.le_refl _) (.cells #[.int .i64 W, .int .i64 0, .int .i64 0, .slice A6 E.length c6, .slice P6 0 p6] 25)
  have b3a := b3'.alloc (.cells #[.int .i64 W, .int .i64 0, .int .i64 0, .slice A6 E.length c6, .slice P6 0 p6] 25)
  have b4a := b4'.alloc (.cells #[.int .i64 W, .int .i64 0, .int .i64 0, .slice A6 E.length c6, .slice P6 0 p6] 25)
  have own6a := own6'.alloc (.cells #[.int .i64 W, .int .i64 0, .int .i64 0, .slice A6 E.length c6, .slice P6 0 p6] 25)
  have hbH := hbG.alloc hbG.size (.cells #[.int .i64 W, .int .i64 0, .int .i64 0, .slice A6 E.length c6, .slice P6 0 p6] 25)
  obtain ⟨x0, x1, x2, x3, x4⟩ := blk5 b3'
  obtain ⟨y0, y1, y2, y3, y4⟩ := blk5 b3a
  have hn4 : ¬ w6.heap.size = w1.heap.size := by omega
  have hn5 : ¬ w1.heap.size = w6.heap.size := by omega
  have hn6 : w1.heap.size < w6.heap.size := by omega
  clear b3 b4 own5 q3 hbF hb6 own6 own6' q4 hbG
  unfold benchV
  go_wp2_with fail
  refine (laws_eqBench W 0 0 A6 A1 P6 P1 E.length 0 c6 c1 p6 p1 w6.heap.size E _ r6 q5 (by simp) (by omega)).mono ?_
  rintro e w7 ⟨rfl, hb7⟩
  have z7 := hb7.size
  have z7' : w6.heap.size + 1 ≤ w7.heap.size := by simpa using z7
  have b4 := b4a.below hb7 b4a.lt
  have own7 := own_below own6a hb7
  have hbI := below_step hbH hb7 hbH.size
  clear x0 x1 x2 x3 x4 y0 y1 y2 y3 y4 b3' b4' b3a b4a own6a q5 r6 hb7 hbH
  obtain ⟨x0, x1, x2, x3, x4⟩ := blk5 b4
  go_wp2_with fail
  refine (laws_heldBench W 0 0 1 A2 P2 E.length c2 p2 _ _ (rd_own own7) (Nat.le_refl _) (by omega) (by omega) (by omega)).mono ?_
  rintro e w8 ⟨rfl, hb8⟩
  have hbJ := below_step hbI hb8 hbI.size
  go_wp2_with fail
  go_ret
  exact ⟨rfl, hbJ⟩
end Go.Proofs.Ytpjikmnddkobfaa
