/-
  A bench behind a pointer that gets another expression (the program's set).
  Conditions: as stated at each.
-/
import Derived.Test.YtamhpgledbmnoaaGreatO6
namespace Go.Proofs.YtamhpgledbmnoaaGreat
set_option linter.unusedVariables false
set_option linter.unusedSimpArgs false
open Go.RowKit
/-- A bench in block G, its rows of the call's own. -/
def BnAt (w : World) (G base : Nat) (b : Pl.Bn) : Prop := ∃ (A P : Option Addr) (n c m d : Nat), Blk w G 30 #[.int .i64 b.k, .int .i64 b.x, .int .i64 b.y, .slice A n c, .slice P m d] ∧ ORow w base 3 A n c (I64 b.e) ∧ ORow w base 9 P m d (Tx b.past)
/-- The bench with another expression, if there is one and it is another one. -/
def setOr (b : Pl.Bn) (F : List Int) (ok : Bool) : Pl.Bn × Bool := if ok = true ∧ F ≠ b.e then (Pl.setB b F, true) else (b, false)
theorem setOr_f {b : Pl.Bn} {F : List Int} : setOr b F false = (b, false) := by unfold setOr; rw [if_neg (by simp)]
theorem setOr_e {b : Pl.Bn} {F : List Int} {ok : Bool} (h : F = b.e) : setOr b F ok = (b, false) := by unfold setOr; rw [if_neg (fun h' => h'.2 h)]
theorem setOr_t {b : Pl.Bn} {F : List Int} (h : ¬ F = b.e) : setOr b F true = (Pl.setB b F, true) := by unfold setOr; rw [if_pos ⟨rfl, h⟩]
set_option maxRecDepth 100000 in
set_option maxHeartbeats 8000000 in
theorem impl_set (b : Pl.Bn) (F : List Int) (ok : Bool) (G base : Nat) (A2 : Option Addr) (n2 c2 : Nat) (w : World) (hb : BnAt w G base b) (hf : ORow w base 3 A2 n2 c2 (I64 F)) (hG : base ≤ G) (hn : b.e.length ≤ 1000000) (hm : b.past.length ≤ 100000) (hn2 : n2 ≤ 1000000) :
    Calls Tryz.prog 71 #[.pointer (some ⟨G, 0, none⟩), .slice A2 n2 c2, .bool ok] w fun e w' => e = .returned (.bool (setOr b F ok).2) ∧ BnAt w' G base (setOr b F ok).1 ∧ Below base w w' := by
  obtain ⟨k, x, y, E, ts⟩ := b
  obtain ⟨A, P, n, c, m, d, KX, o2, p2⟩ := hb
  have ln : E.length = n := by have := o2.len; rwa [I64_len] at this
  have lm : ts.length = m := by have := p2.len; rwa [Tx_len] at this
  have hn : n ≤ 1000000 := by rw [← ln]; exact hn
  have hm : m ≤ 100000 := by rw [← lm]; exact hm
  cases ok
  · have hs := Lib.hid (setOr_f (b := ⟨k, x, y, E, ts⟩) (F := F))
    go_enter Tryz.func71, Tryz.ntmps71
    go_wp2_with fail
    go_ret
    rw [hs.out]
    exact ⟨rfl, ⟨A, P, n, c, m, d, KX, o2, p2⟩, Below.refl _ _⟩
  · have CQ := Lib.hid (equal_ints A2 A n2 n c2 c w.heap.size F E w hf.rd o2.rd (by omega) (by omega))
    have a3 : w.cell? ⟨G, 3, none⟩ = some (.slice A n c) := KX.cell 3
    by_cases hfe : F = E
    · have hs := Lib.hid (setOr_e (b := ⟨k, x, y, E, ts⟩) (F := F) (ok := true) hfe)
      rw [decide_eq_true hfe] at CQ
      clear hfe
      go_enter Tryz.func71, Tryz.ntmps71
      go_wp2_with fail
      refine CQ.out.mono ?_
      rintro e w' ⟨rfl, q, rfl⟩
      go_wp2_with fail
      go_ret
      rw [hs.out]
      exact ⟨rfl, ⟨A, P, n, c, m, d, KX.drewN q, o2.drewN q, p2.drewN q⟩, below_drewN (Below.refl _ _) q⟩
    · have hs := Lib.hid (setOr_t (b := ⟨k, x, y, E, ts⟩) (F := F) hfe)
      rw [decide_eq_false hfe] at CQ
      clear hfe
      have hGl := KX.lt
      go_enter Tryz.func71, Tryz.ntmps71
      go_wp2_with fail
      refine CQ.out.mono ?_
      rintro e w' ⟨rfl, q, rfl⟩
      obtain ⟨w2, hw2⟩ : ∃ w2, w2 = w.drewN q := ⟨_, rfl⟩
      replace KX : Blk w2 G 30 #[.int .i64 k, .int .i64 x, .int .i64 y, .slice A n c, .slice P m d] := by rw [hw2]; exact KX.drewN q
      replace o2 : ORow w2 base 3 A n c (I64 E) := by rw [hw2]; exact o2.drewN q
      replace p2 : ORow w2 base 9 P m d (Tx ts) := by rw [hw2]; exact p2.drewN q
      replace hf : ORow w2 base 3 A2 n2 c2 (I64 F) := by rw [hw2]; exact hf.drewN q
      have HB2 : Below base w w2 := by rw [hw2]; exact below_drewN (Below.refl _ _) q
      have hG2 : G < w2.heap.size := by rw [hw2]; exact hGl
      have hb2 : base ≤ w2.heap.size := by omega
      rw [← hw2]
      clear hw2 a3 CQ hGl
      have CE := Lib.hid (fun w' h hB' => impl_ExprText A n c w2.heap.size E w' h hB' (by omega))
      have HX2 := Lib.hid o2.rd
      have c03 : w2.cell? ⟨G, 3, none⟩ = some (.slice A n c) := KX.cell 3
      have cx4 : w2.cell? ⟨G, 4, none⟩ = some (.slice P m d) := KX.cell 4
      have HBW := Lib.hid HB2
      unfold OutB at CE
      generalize hXE : Pl.exprText E = X at *
      have HXE := Lib.hid hXE
      clear hXE
      go_upto_region 3 with (fail)
      go_cut [6] from 49 (fun s6 wx => s6 = .bool false ∧ ∃ P' c', Blk wx G 30 #[.int .i64 k, .int .i64 x, .int .i64 y, .slice A n c, .slice P' (m + 1) c'] ∧ ORow wx base 3 A2 n2 c2 (I64 F) ∧ ORow wx base 9 P' (m + 1) c' (Tx (ts ++ [X])) ∧ Below base w wx)
      case first =>
        go_region_law (first
          | (refine step_text rfl (.tmp 21) (.tmp 27) rfl base m d P ts X ⟨w3.heap.size, 0, none⟩ (by simp [Act.eval, Act.put]) (by simp [Act.eval, Act.put]) (by exact p3.alloc _) (by go_simp) (by omega) (by go_simp <;> omega) ?_; intro P' c' w4 row4 hb4 hg4; have KX4 := Blk.grown_ne (KX3.alloc _) (p3.alloc _) (by decide) hg4; have cx4' : w4.cell? ⟨G, 4, none⟩ = some (.slice P m d) := KX4.cell 4; have fx4' : w4.frozen? ⟨G, 4, none⟩ = false := KX4.frozen 4)
          | (go_simp; go_at_call 95; refine (CE.out _ (by exact HX2.out) (by exact Nat.le_refl _)).mono ?_; rintro e w3 ⟨rfl, hb3⟩; have hb3 : Below w2.heap.size w2 w3 := ⟨hb3.os, hb3.tape, hb3.output, hb3.size, hb3.block⟩; have hz3 := hb3.size; have KX3 := KX.below hb3 hG2; have p3 := p2.below hb3; have f3 := hf.below hb3; have HB3 := HBW.out.trans (hb3.mono hb2); have cx4a : w3.cell? ⟨G, 4, none⟩ = some (.slice P m d) := KX3.cell 4; have cx4b : (w3.alloc (.cells #[.string (Ba X)] 9)).cell? ⟨G, 4, none⟩ = some (.slice P m d) := (KX3.alloc _).cell 4; dsimp only))
        all_goals go_wp2_with (with_reducible refine AtEnd.of ?_)
        all_goals go_meet
        all_goals (
          have f4 := ORow.grown_ne (f3.alloc _) (p3.alloc _) (by decide) hg4
          refine ⟨rfl, P', c', KX4.set_ 4 _, f4.set_blk KX4 (by decide) _, row4.set_blk KX4 (by decide) _, ?_⟩
          exact ((HB3.alloc (by omega) _).trans (hb4.mono (by omega))).setCell (p := ⟨G, 4, none⟩) (show base ≤ G by omega) _)
      case rest =>
        obtain ⟨w5, rfl⟩ : ∃ w5, w5 = wc := ⟨_, rfl⟩
        obtain ⟨rfl, P', c', KX, hf, p3, HB3⟩ := hcut
        have c4 : w5.cell? ⟨G, 4, none⟩ = some (.slice P' (m + 1) c') := KX.cell 4
        have f4 : w5.frozen? ⟨G, 4, none⟩ = false := KX.frozen 4
        clear c03 cx4 CE o2 p2 HB2
        by_cases h20 : 20 < m + 1
        · have h20i : (20 : Int) < (m : Int) + 1 := by omega
          have hpp := Lib.hid (Pl.pushP_t (t := X) (show 20 < ts.length + 1 by omega))
          obtain ⟨b', off, rfl, p4⟩ := p3.drop1 (by omega)
          have hcc := p3.cap
          simp only [Nat.add_sub_cancel] at p4
          rw [show (Tx (ts ++ [X])).drop 1 = Tx ((ts ++ [X]).drop 1) by simp [Tx, List.map_drop]] at p4
          have KXq := KX.set_ 4 (.slice (some ⟨b', off + 1, none⟩) m (c' - 1))
          have f3 : (w5.setCell ⟨G, 4, none⟩ (.slice (some ⟨b', off + 1, none⟩) m (c' - 1))).frozen? ⟨G, 3, none⟩ = false := KXq.frozen 3
          have c3 : (w5.setCell ⟨G, 4, none⟩ (.slice (some ⟨b', off + 1, none⟩) m (c' - 1))).cell? ⟨G, 3, none⟩ = some (.slice A n c) := KXq.cell 3
          have f3' : w5.frozen? ⟨G, 3, none⟩ = false := KX.frozen 3
          go_wp2_with fail
          go_ret
          rw [hs.out]
          refine ⟨rfl, ⟨A2, some ⟨b', off + 1, none⟩, n2, c2, m, c' - 1, KXq.set_ 3 (.slice A2 n2 c2), (hf.set_blk (o := 4) KX (by decide) _).set_blk (o := 3) KXq (by decide) _, ?_⟩, (HB3.setCell (p := ⟨G, 4, none⟩) hG _).setCell (p := ⟨G, 3, none⟩) hG _⟩
          show ORow _ _ _ _ _ _ (Tx (Pl.pushP ts (Pl.exprText E)))
          rw [HXE.out, hpp.out]
          exact (p4.set_blk (o := 4) KX (by decide) _).set_blk (o := 3) KXq (by decide) _
        · have h20i : ¬ (20 : Int) < (m : Int) + 1 := by omega
          have hpp := Lib.hid (Pl.pushP_f (t := X) (show ¬ 20 < ts.length + 1 by omega))
          have f3 : w5.frozen? ⟨G, 3, none⟩ = false := KX.frozen 3
          have c3 : w5.cell? ⟨G, 3, none⟩ = some (.slice A n c) := KX.cell 3
          go_wp2_with fail
          go_ret
          rw [hs.out]
          refine ⟨rfl, ⟨A2, P', n2, c2, m + 1, c', KX.set_ 3 (.slice A2 n2 c2), hf.set_blk (o := 3) KX (by decide) _, ?_⟩, HB3.setCell (p := ⟨G, 3, none⟩) hG _⟩
          show ORow _ _ _ _ _ _ (Tx (Pl.pushP ts (Pl.exprText E)))
          rw [HXE.out, hpp.out]
          exact p3.set_blk (o := 3) KX (by decide) _
end Go.Proofs.YtamhpgledbmnoaaGreat
