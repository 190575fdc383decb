/-
  What the laws draw out of their codes: whole expressions.
  Conditions: none but those of the model.
-/
import Derived.Test.YtnjcephddilalabD4
namespace Go.Proofs.Ytnjcephddilalab
set_option linter.unusedVariables false
set_option linter.unusedSimpArgs false
open Go.RowKit

def Expred (R N : Nat) (w : World) (e : Ending) (w' : World) : Prop := ∃ d v, e = .returned v ∧ IntRow w' w.heap.size v d ∧ d ≤ 25 ∧ Rdr w' R N ∧ w.grownBy w' (some R) ∧ (d = 0 → ∃ g c, v = .slice (some ⟨g, 0, none⟩) 0 c)
set_option maxRecDepth 100000 in
set_option maxHeartbeats 4000000 in
theorem spec_l20Expr (R N p : Nat) (n : Int) (w : World) (h : Rdr w R N) (hN : N ≤ 1000) (hp : p ≤ 7) (hn : n ≤ 100) :
    Calls Try.prog 40 #[.pointer (some ⟨R, 0, none⟩), .int .i64 p, .int .i64 n] w (Expred R (N + 70) w) := by
  have hR := h.lt
  go_enter Try.func40, Try.ntmps40
  go_wp2_with fail
  refine (spec_l20Leaf R N _ h (by omega)).mono ?_
  rintro e w1 ⟨v1, rfl, row1, hr1, hg1⟩
  have hz1 := hg1.size
  go_wp2_with fail
  refine (spec_pick R (N + 2) (p + 1) _ hr1 (by omega) (by omega)).mono ?_
  rintro e w2 ⟨k, rfl, hk, hr2, hg2⟩
  obtain ⟨k0, k1⟩ := hk.2 (by omega)
  obtain ⟨r0, rfl⟩ := Int.eq_ofNat_of_zero_le k0
  have row2 := row1.keptR hR hg2
  have hg := hg1.trans hg2
  clear hg1 hg2 row1 hr1 hk h
  go_wp2_with fail
  go_loopw [7, 8] (fun v i wr => ∃ (r M d : Nat), r ≤ p ∧ i = .int .i64 r ∧ M + 8 * r ≤ N + 3 + 8 * p ∧ 1 ≤ d ∧ d + 4 * r ≤ 16 + 4 * p ∧ Rdr wr R M ∧ IntRow wr w.heap.size v d ∧ w.grownBy wr (some R)) (fun _ i _ => (intOf i).toNat)
  case atStart => exact ⟨r0, N + 3, 1, by omega, rfl, by omega, by omega, by omega, hr2, row2, hg⟩
  case round =>
    obtain ⟨r, M, d, hrp, rfl, hM, hd1, hd2, hr, row, hgr⟩ := hrel
    have hz := hgr.size
    clear hr2 row2 hg
    by_cases hpos : 0 < r
    · obtain ⟨r, rfl⟩ : ∃ q, r = q + 1 := ⟨r - 1, by omega⟩
      have hri : (0 : Int) < ((r + 1 : Nat) : Int) := by omega
      go_wp2_with fail
      refine (spec_pick R M 7 _ hr (by omega) (by omega)).mono ?_
      rintro e w3 ⟨c, rfl, hc, hr3, hg3⟩
      obtain ⟨c0, c1⟩ := hc.2 (by omega)
      have hgr3 := hgr.trans hg3
      have row3 := row.keptR hR hg3
      have hz3 := hgr3.size
      clear hc hg3 row hr hgr
      have hcs : c = 0 ∨ c = 1 ∨ c = 2 ∨ c = 3 ∨ c = 4 ∨ c = 5 ∨ c = 6 := by omega
      clear c0 c1
      rcases hcs with rfl | rfl | rfl | rfl | rfl | rfl | rfl
      · go_wp2_with fail
        refine (spec_pick R (M + 1) 3 _ hr3 (by omega) (by omega)).mono ?_
        rintro e w4 ⟨q, rfl, hq, hr4, hg4⟩
        obtain ⟨q0, q1⟩ := hq.2 (by omega)
        have row4 := row3.keptR hR hg4
        have hgr4 := hgr3.trans hg4
        have hz4 := hgr4.size
        clear hg4 hq row3
        go_wp2_with (at_builtin; refine app1 rfl (.tmp 34) (.tmp 38) rfl w.heap.size u7 d _ rfl row4 rfl (by omega) hz4 ?_; intro v' w5 row5 hb5)
        exact ⟨⟨r, M + 8, d + 1, by omega, by go_num, by omega, by omega, by omega, (hr4.below hb5 hR).more (by omega), row5, only_below hgr4 hb5 (Nat.le_refl _)⟩, by simp [intOf]⟩
      · go_wp2_with fail
        refine (spec_pick R (M + 1) 3 _ hr3 (by omega) (by omega)).mono ?_
        rintro e w4 ⟨q, rfl, hq, hr4, hg4⟩
        obtain ⟨q0, q1⟩ := hq.2 (by omega)
        have row4 := row3.keptR hR hg4
        have hgr4 := hgr3.trans hg4
        have hz4 := hgr4.size
        clear hg4 hq row3
        go_wp2_with (at_builtin; refine app1 rfl (.tmp 34) (.tmp 38) rfl w.heap.size u7 d _ rfl row4 rfl (by omega) hz4 ?_; intro v' w5 row5 hb5)
        exact ⟨⟨r, M + 8, d + 1, by omega, by go_num, by omega, by omega, by omega, (hr4.below hb5 hR).more (by omega), row5, only_below hgr4 hb5 (Nat.le_refl _)⟩, by simp [intOf]⟩
      · go_wp2_with fail
        refine (spec_l20Leaf R (M + 1) _ hr3 (by omega)).mono ?_
        rintro e w4 ⟨v4, rfl, leaf4, hr4, hg4⟩
        have row4 := row3.keptR hR hg4
        have hgr4 := hgr3.trans hg4
        have hz4 := hg4.size
        have hz4' := hgr4.size
        clear hg4 row3
        go_wp2_with (at_builtin; refine app2 rfl (.tmp 43) (.tmp 44) rfl w3.heap.size v4 1 rfl leaf4 w.heap.size u7 d rfl row4 (by omega) (by omega) (by omega) hz4 ?_; intro v5 w5 row5 hb5)
        have hr5 := hr4.below hb5 (by omega)
        have hgr5 := only_below hgr4 hb5 hz3
        refine (spec_pick R (M + 3) 5 _ hr5 (by omega) (by omega)).mono ?_
        rintro e w6 ⟨q, rfl, hq, hr6, hg6⟩
        obtain ⟨q0, q1⟩ := hq.2 (by omega)
        have row6 := row5.keptR (by omega) hg6
        have hgr6 := hgr5.trans hg6
        have hz6 := hg6.size
        have hz5 := hb5.size
        clear hg6 hq row4 row5
        go_wp2_with (at_builtin; refine app1 rfl (.tmp 45) (.tmp 49) rfl w3.heap.size v5 (1 + d) _ rfl row6 rfl (by omega) (by omega) ?_; intro v7 w7 row7 hb7)
        exact ⟨⟨r, M + 8, 1 + d + 1, by omega, by go_num, by omega, by omega, by omega, (hr6.below hb7 (by omega)).more (by omega), row7.mono hz3, only_below hgr6 hb7 hz3⟩, by simp [intOf]⟩
      · obtain ⟨A3, c3, rfl, _⟩ := row3.form
        by_cases hd8 : d < 8
        · have hdi : (d : Int) < 8 := by omega
          go_wp2_with (at_builtin; refine app2 rfl (.tmp 56) (.tmp 57) rfl w.heap.size (.slice A3 d c3) d rfl row3 w.heap.size (.slice A3 d c3) d rfl row3 (by omega) (by omega) (by omega) hz3 ?_; intro v5 w5 row5 hb5)
          have hr5 := hr3.below hb5 hR
          have hgr5 := only_below hgr3 hb5 (Nat.le_refl _)
          refine (spec_pick R (M + 1) 5 _ hr5 (by omega) (by omega)).mono ?_
          rintro e w6 ⟨q, rfl, hq, hr6, hg6⟩
          obtain ⟨q0, q1⟩ := hq.2 (by omega)
          have row6 := row5.keptR (by omega) hg6
          have hgr6 := hgr5.trans hg6
          have hz6 := hgr6.size
          clear hg6 hq row5
          go_wp2_with (at_builtin; refine app1 rfl (.tmp 58) (.tmp 62) rfl w.heap.size v5 (d + d) _ rfl row6 rfl (by omega) (by omega) ?_; intro v7 w7 row7 hb7)
          exact ⟨⟨r, M + 8, d + d + 1, by omega, by go_num, by omega, by omega, by omega, (hr6.below hb7 (by omega)).more (by omega), row7, only_below hgr6 hb7 (Nat.le_refl _)⟩, by simp [intOf]⟩
        · have hdi : ¬ (d : Int) < 8 := by omega
          go_wp2_with fail
          exact ⟨⟨r, M + 8, d, by omega, by go_num, by omega, by omega, by omega, (hr3).more (by omega), row3, hgr3⟩, by simp [intOf]⟩
      · go_wp2_with fail
        refine (spec_l20Leaf R (M + 1) _ hr3 (by omega)).mono ?_
        rintro e w4 ⟨v4, rfl, leaf4, hr4, hg4⟩
        have hz4 := hg4.size
        go_wp2_with fail
        refine (spec_l20Leaf R (M + 3) _ hr4 (by omega)).mono ?_
        rintro e w5 ⟨v5, rfl, leaf5, hr5, hg5⟩
        have s5 := leaf4.keptR (by omega) hg5
        have g5 := hg4.trans hg5
        have hz5 := hg5.size
        clear hg4 hg5 leaf4
        go_wp2_with (at_builtin; refine app2 rfl (.tmp 67) (.tmp 69) rfl w3.heap.size v4 1 rfl s5 w4.heap.size v5 1 rfl leaf5 (by omega) (by omega) (by omega) (by omega) ?_; intro v6 w6 s6 hb6)
        have hr6 := hr5.below hb6 (by omega)
        have g6 := only_below g5 hb6 (Nat.le_refl _)
        have hz6 := hb6.size
        clear s5 leaf5 g5 hb6
        refine (spec_pick R (M + 5) 5 _ hr6 (by omega) (by omega)).mono ?_
        rintro e w7 ⟨q, rfl, hq, hr7, hg7⟩
        obtain ⟨q0, q1⟩ := hq.2 (by omega)
        have s7 := s6.keptR (by omega) hg7
        have g7 := g6.trans hg7
        have hz7 := hg7.size
        clear hg7 hq s6 g6
        go_wp2_with (first
          | (at_builtin; refine app1 rfl (.tmp 70) (.tmp 74) rfl w3.heap.size v6 (1 + 1) _ rfl s7 rfl (by omega) (by omega) ?_; intro v8 w8 s8 hb8)
          | (at_builtin; refine app2 rfl (.tmp 76) (.tmp 77) rfl w.heap.size u7 d rfl (row3.keptR hR (only_below g7 hb8 (Nat.le_refl _))) w3.heap.size v8 (1 + 1 + 1) rfl s8 (by omega) (by omega) (by omega) (by have := hb8.size; omega) ?_; intro v9 w9 row9 hb9))
        have hz8 := hb8.size
        have hr9 := (hr7.below hb8 (by omega)).below hb9 hR
        have g9 := only_below (hgr3.trans (only_below g7 hb8 (Nat.le_refl _))) hb9 (Nat.le_refl _)
        have hz9 := hb9.size
        clear s7 s8 row3 g7 hb8 hb9 hgr3
        refine (spec_pick R (M + 6) 5 _ hr9 (by omega) (by omega)).mono ?_
        rintro e w10 ⟨t, rfl, ht, hr10, hg10⟩
        obtain ⟨t0, t1⟩ := ht.2 (by omega)
        have row10 := row9.keptR hR hg10
        have g10 := g9.trans hg10
        have hz10 := hg10.size
        clear hg10 ht row9 g9
        go_wp2_with (at_builtin; refine app1 rfl (.tmp 78) (.tmp 82) rfl w.heap.size v9 (d + (1 + 1 + 1)) _ rfl row10 rfl (by omega) (by omega) ?_; intro v11 w11 row11 hb11)
        exact ⟨⟨r, M + 8, d + (1 + 1 + 1) + 1, by omega, by go_num, by omega, by omega, by omega, (hr10.below hb11 (by omega)).more (by omega), row11, only_below g10 hb11 (Nat.le_refl _)⟩, by simp [intOf]⟩
      · go_wp2_with fail
        refine (spec_l20Leaf R (M + 1) _ hr3 (by omega)).mono ?_
        rintro e w4 ⟨v4, rfl, leaf4, hr4, hg4⟩
        have row4 := row3.keptR hR hg4
        have hgr4 := hgr3.trans hg4
        have hz4 := hgr4.size
        clear hg4 row3
        go_wp2_with (at_builtin; refine app2 rfl (.tmp 22) (.tmp 24) rfl w.heap.size u7 d rfl row4 w3.heap.size v4 1 rfl leaf4 (by omega) (by omega) (by omega) hz4 ?_; intro v5 w5 row5 hb5)
        have hr5 := hr4.below hb5 (by omega)
        have hgr5 := only_below hgr4 hb5 (Nat.le_refl _)
        refine (spec_pick R (M + 3) 5 _ hr5 (by omega) (by omega)).mono ?_
        rintro e w6 ⟨q, rfl, hq, hr6, hg6⟩
        obtain ⟨q0, q1⟩ := hq.2 (by omega)
        have row6 := row5.keptR (by omega) hg6
        have hgr6 := hgr5.trans hg6
        have hz6 := hgr6.size
        clear hg6 hq row4 row5
        go_wp2_with (at_builtin; refine app1 rfl (.tmp 25) (.tmp 29) rfl w.heap.size v5 (d + 1) _ rfl row6 rfl (by omega) (by omega) ?_; intro v7 w7 row7 hb7)
        exact ⟨⟨r, M + 8, d + 1 + 1, by omega, by go_num, by omega, by omega, by omega, (hr6.below hb7 (by omega)).more (by omega), row7, only_below hgr6 hb7 (Nat.le_refl _)⟩, by simp [intOf]⟩
      · go_wp2_with fail
        refine (spec_l20Leaf R (M + 1) _ hr3 (by omega)).mono ?_
        rintro e w4 ⟨v4, rfl, leaf4, hr4, hg4⟩
        have row4 := row3.keptR hR hg4
        have hgr4 := hgr3.trans hg4
        have hz4 := hgr4.size
        clear hg4 row3
        go_wp2_with (at_builtin; refine app2 rfl (.tmp 22) (.tmp 24) rfl w.heap.size u7 d rfl row4 w3.heap.size v4 1 rfl leaf4 (by omega) (by omega) (by omega) hz4 ?_; intro v5 w5 row5 hb5)
        have hr5 := hr4.below hb5 (by omega)
        have hgr5 := only_below hgr4 hb5 (Nat.le_refl _)
        refine (spec_pick R (M + 3) 5 _ hr5 (by omega) (by omega)).mono ?_
        rintro e w6 ⟨q, rfl, hq, hr6, hg6⟩
        obtain ⟨q0, q1⟩ := hq.2 (by omega)
        have row6 := row5.keptR (by omega) hg6
        have hgr6 := hgr5.trans hg6
        have hz6 := hgr6.size
        clear hg6 hq row4 row5
        go_wp2_with (at_builtin; refine app1 rfl (.tmp 25) (.tmp 29) rfl w.heap.size v5 (d + 1) _ rfl row6 rfl (by omega) (by omega) ?_; intro v7 w7 row7 hb7)
        exact ⟨⟨r, M + 8, d + 1 + 1, by omega, by go_num, by omega, by omega, by omega, (hr6.below hb7 (by omega)).more (by omega), row7, only_below hgr6 hb7 (Nat.le_refl _)⟩, by simp [intOf]⟩
    · obtain rfl : r = 0 := by omega
      obtain ⟨A, c, rfl, _⟩ := row.form
      by_cases hbig : 24 < d
      · have hbi : (24 : Int) < d := by omega
        clear row
        go_wp2_with fail
        refine (spec_odd R M n _ (hr.alloc _) (by omega) (by omega)).mono ?_
        rintro e wA ⟨b, rfl, hbn, hrA, hgA⟩
        have rowA := (IntRow.lit wr [10, 11, 19] hz (by simp [maxLen])).keptR hR hgA
        have hgrA := (only_below hgr ((Below.refl wr.heap.size wr).alloc (Nat.le_refl _) _) hz).trans hgA
        have hzA := hgrA.size
        clear hgA hbn
        cases b
        · go_wp2_with fail
          go_ret
          exact ⟨3, _, rfl, rowA, by omega, hrA.more (by omega), hgrA, fun h0 => absurd h0 (by omega)⟩
        · go_wp2_with fail
          refine (spec_pick R (M + 1) 4 _ hrA (by omega) (by omega)).mono ?_
          rintro e wB ⟨q, rfl, hq, hrB, hgB⟩
          obtain ⟨q0, q1⟩ := hq.2 (by omega)
          have rowB := rowA.keptR hR hgB
          have hgrB := hgrA.trans hgB
          have hzB := hgrB.size
          have hltB := hrB.lt
          clear hgB hq rowA hrA hgrA
          have hqs : q = 0 ∨ q = 1 ∨ q = 2 ∨ q = 3 := by omega
          clear q0 q1
          rcases hqs with rfl | rfl | rfl | rfl
          · go_wp2_with fail
            go_ret
            exact ⟨0, _, rfl, IntRow.lit wB [] hzB (by simp [maxLen]), by omega, (hrB.alloc _).more (by omega), only_below hgrB ((Below.refl wB.heap.size wB).alloc (Nat.le_refl _) _) hzB, fun _ => ⟨_, _, rfl⟩⟩
          · go_wp2_with (at_builtin; refine app1 rfl (.tmp 106) (.tmp 107) rfl w.heap.size (.slice (some ⟨wr.heap.size, 0, none⟩) 3 3) 3 _ rfl rowB rfl (by omega) hzB ?_; intro v' w' row' hb')
            go_ret
            exact ⟨3 + 1, v', rfl, row', by omega, (hrB.below hb' hR).more (by omega), only_below hgrB hb' (Nat.le_refl _), fun h0 => absurd h0 (by omega)⟩
          · go_wp2_with (at_builtin; refine app2 rfl (.tmp 111) (.tmp 112) rfl wB.heap.size (.slice (some ⟨wB.heap.size, 0, none⟩) 1 1) 1 rfl (IntRow.lit wB [12] (Nat.le_refl _) (by simp [maxLen])) w.heap.size (.slice (some ⟨wr.heap.size, 0, none⟩) 3 3) 3 rfl (rowB.alloc _) (by omega) (by omega) (by omega) (by simp) ?_; intro v' w' row' hb')
            go_ret
            exact ⟨1 + 3, v', rfl, row'.mono hzB, by omega, ((hrB.alloc _).below hb' hltB).more (by omega), only_below hgrB (((Below.refl wB.heap.size wB).alloc (Nat.le_refl _) _).trans hb') hzB, fun h0 => absurd h0 (by omega)⟩
          · go_wp2_with fail
            refine (spec_pick R (M + 2) 2 _ (hrB.alloc _) (by omega) (by omega)).mono ?_
            rintro e wC ⟨t, rfl, ht, hrC, hgC⟩
            obtain ⟨t0, t1, x, hx, hc⟩ := pick_cell [-1, 20] hltB hgC ht rfl (by omega)
            have rowC := (rowB.alloc _).keptR hR hgC
            have hgrC := grown_alloc hgrB hgC
            have hzC := hgrC.size
            clear hgC ht hx rowB hrB hgrB
            go_wp2_with (at_builtin; refine app1 rfl (.tmp 93) (.tmp 99) rfl w.heap.size (.slice (some ⟨wr.heap.size, 0, none⟩) 3 3) 3 _ rfl rowC rfl (by omega) hzC ?_; intro v' w' row' hb')
            go_ret
            exact ⟨3 + 1, v', rfl, row', by omega, (hrC.below hb' hR).more (by omega), only_below hgrC hb' (Nat.le_refl _), fun h0 => absurd h0 (by omega)⟩
      · have hbi : ¬ (24 : Int) < d := by omega
        go_wp2_with fail
        refine (spec_odd R M n _ hr (by omega) (by omega)).mono ?_
        rintro e wA ⟨b, rfl, hbn, hrA, hgA⟩
        have rowA := (row).keptR hR hgA
        have hgrA := (hgr).trans hgA
        have hzA := hgrA.size
        clear hgA hbn
        cases b
        · go_wp2_with fail
          go_ret
          exact ⟨d, _, rfl, rowA, by omega, hrA.more (by omega), hgrA, fun h0 => absurd h0 (by omega)⟩
        · go_wp2_with fail
          refine (spec_pick R (M + 1) 4 _ hrA (by omega) (by omega)).mono ?_
          rintro e wB ⟨q, rfl, hq, hrB, hgB⟩
          obtain ⟨q0, q1⟩ := hq.2 (by omega)
          have rowB := rowA.keptR hR hgB
          have hgrB := hgrA.trans hgB
          have hzB := hgrB.size
          have hltB := hrB.lt
          clear hgB hq rowA hrA hgrA
          have hqs : q = 0 ∨ q = 1 ∨ q = 2 ∨ q = 3 := by omega
          clear q0 q1
          rcases hqs with rfl | rfl | rfl | rfl
          · go_wp2_with fail
            go_ret
            exact ⟨0, _, rfl, IntRow.lit wB [] hzB (by simp [maxLen]), by omega, (hrB.alloc _).more (by omega), only_below hgrB ((Below.refl wB.heap.size wB).alloc (Nat.le_refl _) _) hzB, fun _ => ⟨_, _, rfl⟩⟩
          · go_wp2_with (at_builtin; refine app1 rfl (.tmp 106) (.tmp 107) rfl w.heap.size (.slice A d c) d _ rfl rowB rfl (by omega) hzB ?_; intro v' w' row' hb')
            go_ret
            exact ⟨d + 1, v', rfl, row', by omega, (hrB.below hb' hR).more (by omega), only_below hgrB hb' (Nat.le_refl _), fun h0 => absurd h0 (by omega)⟩
          · go_wp2_with (at_builtin; refine app2 rfl (.tmp 111) (.tmp 112) rfl wB.heap.size (.slice (some ⟨wB.heap.size, 0, none⟩) 1 1) 1 rfl (IntRow.lit wB [12] (Nat.le_refl _) (by simp [maxLen])) w.heap.size (.slice A d c) d rfl (rowB.alloc _) (by omega) (by omega) (by omega) (by simp) ?_; intro v' w' row' hb')
            go_ret
            exact ⟨1 + d, v', rfl, row'.mono hzB, by omega, ((hrB.alloc _).below hb' hltB).more (by omega), only_below hgrB (((Below.refl wB.heap.size wB).alloc (Nat.le_refl _) _).trans hb') hzB, fun h0 => absurd h0 (by omega)⟩
          · go_wp2_with fail
            refine (spec_pick R (M + 2) 2 _ (hrB.alloc _) (by omega) (by omega)).mono ?_
            rintro e wC ⟨t, rfl, ht, hrC, hgC⟩
            obtain ⟨t0, t1, x, hx, hc⟩ := pick_cell [-1, 20] hltB hgC ht rfl (by omega)
            have rowC := (rowB.alloc _).keptR hR hgC
            have hgrC := grown_alloc hgrB hgC
            have hzC := hgrC.size
            clear hgC ht hx rowB hrB hgrB
            go_wp2_with (at_builtin; refine app1 rfl (.tmp 93) (.tmp 99) rfl w.heap.size (.slice A d c) d _ rfl rowC rfl (by omega) hzC ?_; intro v' w' row' hb')
            go_ret
            exact ⟨d + 1, v', rfl, row', by omega, (hrC.below hb' hR).more (by omega), only_below hgrC hb' (Nat.le_refl _), fun h0 => absurd h0 (by omega)⟩
end Go.Proofs.Ytnjcephddilalab
