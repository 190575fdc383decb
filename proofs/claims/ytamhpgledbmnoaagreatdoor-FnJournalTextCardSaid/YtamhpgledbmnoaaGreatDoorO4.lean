/-
  The reference's bench with another expression.
  Conditions: as stated at each.
-/
import Derived.Test.YtamhpgledbmnoaaGreatDoorO3
namespace Go.Proofs.YtamhpgledbmnoaaGreatDoor
set_option linter.unusedVariables false
set_option linter.unusedSimpArgs false
open Go.RowKit
theorem ORow.ne_blk {w : World} {base n c G : Nat} {t t' : TypeId} {A : Option Addr} {xs : List Value} {cs' : Array Value} (h : ORow w base t A n c xs) (hb : Blk w G t' cs') (hne : t ≠ t') : ∀ k, (Value.slice A n c).ownBlock = some k → k ≠ G := by
  obtain ⟨h1, h2, h3, h4⟩ := h
  intro k hk
  rcases h4 with ⟨rfl, _⟩ | ⟨b, off, cs, rfl, hb', hh, hs, hc⟩
  · simp [Value.ownBlock] at hk
  · simp [Value.ownBlock] at hk
    subst hk
    rintro rfl
    unfold Blk at hb
    rw [hh] at hb
    injection hb with hb
    injection hb with _ hb
    exact hne hb
theorem ORow.set_blk {w : World} {base n c G o : Nat} {t t' : TypeId} {A : Option Addr} {xs : List Value} {cs' : Array Value} (h : ORow w base t A n c xs) (hb : Blk w G t' cs') (hne : t ≠ t') (u : Value) : ORow (w.setCell ⟨G, o, none⟩ u) base t A n c xs := by
  have hk := h.ne_blk hb hne
  obtain ⟨h1, h2, h3, h4⟩ := h
  refine ⟨h1, h2, h3, ?_⟩
  rcases h4 with h4 | ⟨b, off, cs, rfl, hb', hh, hs, hc⟩
  · exact .inl h4
  · exact .inr ⟨b, off, cs, rfl, hb', (Below.heap_setCell w ⟨G, o, none⟩ u b (hk b rfl)).trans hh, hs, hc⟩
theorem ORow.grown_ne {w w' : World} {base base' n c n' c' : Nat} {t t' : TypeId} {A A' : Option Addr} {xs xs' : List Value} (h : ORow w base t A n c xs) (h' : ORow w base' t' A' n' c' xs') (hne : t ≠ t') (hg : w.grownBy w' (Value.slice A' n' c').ownBlock) : ORow w' base t A n c xs := by
  obtain ⟨h1, h2, h3, h4⟩ := h
  refine ⟨h1, h2, h3, ?_⟩
  rcases h4 with h4 | ⟨b, off, cs, rfl, hb', hh, hs, hc⟩
  · exact .inl h4
  · refine .inr ⟨b, off, cs, rfl, hb', (hg.block b (heap_lt hh) (fun e => ?_)).trans hh, hs, hc⟩
    exact h'.ne_blk (G := b) (t' := t) (cs' := cs) hh (fun e => hne e.symm) b e.symm rfl
theorem ORow.below_lt {w w' : World} {base n c D : Nat} {t : TypeId} {A : Option Addr} {xs : List Value} (h : ORow w base t A n c xs) (hl : ∀ k, (Value.slice A n c).ownBlock = some k → k < D) (hb : Below D w w') : ORow w' base t A n c xs := by
  obtain ⟨h1, h2, h3, h4⟩ := h
  refine ⟨h1, h2, h3, ?_⟩
  rcases h4 with h4 | ⟨b, off, cs, rfl, hb', hh, hs, hc⟩
  · exact .inl h4
  · exact .inr ⟨b, off, cs, rfl, hb', (hb.block b (hl b rfl)).trans hh, hs, hc⟩
theorem Blk.grown_ne {w w' : World} {G n' c' base' : Nat} {t t' : TypeId} {cs : Array Value} {A' : Option Addr} {xs' : List Value} (h : Blk w G t cs) (h' : ORow w base' t' A' n' c' xs') (hne : t' ≠ t) (hg : w.grownBy w' (Value.slice A' n' c').ownBlock) : Blk w' G t cs :=
  h.grown hg (fun e => h'.ne_blk h hne G e.symm rfl)
set_option maxRecDepth 100000 in
set_option maxHeartbeats 8000000 in
theorem spec_l10Set (b : Pl.Bn) (A P : Option Addr) (n c m d B : Nat) (A2 : Option Addr) (n2 c2 : Nat) (F : List Int) (w : World) (hx : Rd w B A n (I64 b.e)) (hp : Rd w B P m (Tx b.past)) (hf : Rd w B A2 n2 (I64 F)) (hB : B ≤ w.heap.size) (hn : n ≤ 1000000) (hm : m ≤ 100000) (hn2 : n2 ≤ 1000000) (hnc : n ≤ c) :
    Calls Tryz.prog 66 #[benchV b.k b.x b.y A n c P m d, .slice A2 n2 c2] w fun e w' => ∃ v, e = .returned v ∧ BnO w' w.heap.size v (Pl.setB b F) ∧ Below w.heap.size w w' := by
  obtain ⟨k, x, y, E, ts⟩ := b
  have lx : E.length = n := by have := hx.len; rwa [I64_len] at this
  have lp : ts.length = m := by have := hp.len; rwa [Tx_len] at this
  have HX := Lib.hid hx
  have HP := Lib.hid hp
  have HF := Lib.hid hf
  obtain ⟨g, hg⟩ : ∃ g, w.heap.size = g := ⟨_, rfl⟩
  obtain ⟨w0, hw0⟩ : ∃ w0, w0 = (w.alloc (.cells #[.int .i64 k, .int .i64 x, .int .i64 y, .slice A n c, .slice P m d] 44)).alloc (.cells #[.int .i64 0, .int .i64 0, .int .i64 0, .slice none 0 0, .slice none 0 0] 44) := ⟨_, rfl⟩
  have hz0 : w0.heap.size = g + 2 := by rw [hw0, ← hg]; simp
  have HB0 : Below g w w0 := by rw [hw0, ← hg]; go_grown
  have K0 : Blk w0 g 44 #[.int .i64 k, .int .i64 x, .int .i64 y, .slice A n c, .slice P m d] := by rw [hw0, ← hg]; exact (Blk.new w _ _).alloc _
  have K1 : Blk w0 (g + 1) 44 #[.int .i64 0, .int .i64 0, .int .i64 0, .slice none 0 0, .slice none 0 0] := by
    rw [hw0, ← hg]
    have := (Blk.new (w.alloc (.cells #[.int .i64 k, .int .i64 x, .int .i64 y, .slice A n c, .slice P m d] 44)) 44 #[.int .i64 0, .int .i64 0, .int .i64 0, .slice none 0 0, .slice none 0 0])
    rw [World.size_alloc] at this
    exact this
  have CC := Lib.hid (fun w' h h' hB' => spec_l10Copy ⟨k, x, y, E, ts⟩ A P n c m d B w' h h' hB' (by omega) (by omega))
  unfold benchV
  clear hx hp hf
  go_enter Tryz.func66, Tryz.ntmps66
  go_wp2_with fail
  rw [← hw0]
  clear hw0
  refine (CC.out _ (HX.out.below (HB0.mono (by omega))) (HP.out.below (HB0.mono (by omega))) (by omega)).mono ?_
  rintro e w1 ⟨v, rfl, ⟨A1, P1, n1, c1, m1, d1, rfl, o1, p1⟩, hb1⟩
  obtain rfl : n1 = n := by have := o1.len; rw [I64_len] at this; exact this.symm.trans lx
  obtain rfl : m1 = m := by have := p1.len; rw [Tx_len] at this; exact this.symm.trans lp
  have hz1 := hb1.size
  have HB1 := HB0.trans (hb1.mono (by omega))
  have K0 := K0.below hb1 (by omega)
  have K1 := K1.below hb1 (by omega)
  unfold benchV
  go_wp2_with fail
  obtain ⟨G, hG⟩ : ∃ G, w1.heap.size = G := ⟨_, rfl⟩
  obtain ⟨w2, hw2⟩ : ∃ w2, w2 = w1.alloc (.cells #[.int .i64 k, .int .i64 x, .int .i64 y, .slice A1 n1 c1, .slice P1 m1 d1] 44) := ⟨_, rfl⟩
  have hz2 : w2.heap.size = G + 1 := by rw [hw2, ← hG]; simp
  have HB2 : Below g w w2 := by rw [hw2]; exact HB1.alloc (by omega) _
  have K0 : Blk w2 g 44 #[.int .i64 k, .int .i64 x, .int .i64 y, .slice A n1 c, .slice P m1 d] := by rw [hw2]; exact K0.alloc _
  have K1 : Blk w2 (g + 1) 44 #[.int .i64 0, .int .i64 0, .int .i64 0, .slice none 0 0, .slice none 0 0] := by rw [hw2]; exact K1.alloc _
  have KX : Blk w2 G 44 #[.int .i64 k, .int .i64 x, .int .i64 y, .slice A1 n1 c1, .slice P1 m1 d1] := by rw [hw2, ← hG]; exact Blk.new w1 _ _
  have o2 : ORow w2 (g + 2) 3 A1 n1 c1 (I64 E) := by rw [hw2]; exact (o1.alloc _).mono (by omega)
  have p2 : ORow w2 (g + 2) 9 P1 m1 d1 (Tx ts) := by rw [hw2]; exact (p1.alloc _).mono (by omega)
  rw [← hw2, hG]
  clear hw2 o1 p1 CC
  have CE := Lib.hid (fun w' h hB' => spec_ExprText A n1 c B E w' h hB' (by omega) hnc)
  have c03 : w2.cell? ⟨g, 3, none⟩ = some (.slice A n1 c) := K0.cell 3
  have cx4 : w2.cell? ⟨G, 4, none⟩ = some (.slice P1 m1 d1) := KX.cell 4
  have hgG : g + 2 ≤ G := by omega
  have HX2 := Lib.hid (HX.out.below (HB2.mono (show B ≤ g by omega)))
  have hB2 : B ≤ w2.heap.size := by omega
  have HBW := Lib.hid HB2
  have hg2 : g ≤ w2.heap.size := by omega
  have hG2 : G < w2.heap.size := by omega
  generalize hXE : Pl.exprText E = X at *
  have HXE := Lib.hid hXE
  clear hXE
  go_cut [14] (fun s wx => ∃ P' c', s = .slice P' (m1 + 1) c' ∧ Blk wx g 44 #[.int .i64 k, .int .i64 x, .int .i64 y, .slice A n1 c, .slice P m1 d] ∧ Blk wx (g + 1) 44 #[.int .i64 0, .int .i64 0, .int .i64 0, .slice none 0 0, .slice none 0 0] ∧ Blk wx G 44 #[.int .i64 k, .int .i64 x, .int .i64 y, .slice A1 n1 c1, .slice P' (m1 + 1) c'] ∧ ORow wx (g + 2) 3 A1 n1 c1 (I64 E) ∧ ORow wx (g + 2) 9 P' (m1 + 1) c' (Tx (ts ++ [X])) ∧ Below g w wx)
  case first =>
    go_region_law (first
      | (refine step_text rfl (.tmp 9) (.tmp 13) rfl (g + 2) m1 d1 P1 ts X ⟨w3.heap.size, 0, none⟩ (by simp [Act.eval, Act.put]) (by simp [Act.eval, Act.put]) (by exact p3.alloc _) (by go_simp) (by omega) (by go_simp <;> omega) ?_; intro P' c' w4 row4 hb4 hg4; have KX4 := Blk.grown_ne (KX3.alloc _) (p3.alloc _) (by decide) hg4; have cx4' : w4.cell? ⟨G, 4, none⟩ = some (.slice P1 m1 d1) := KX4.cell 4; have fx4' : w4.frozen? ⟨G, 4, none⟩ = false := KX4.frozen 4)
      | (go_simp; go_at_call 41; refine (CE.out _ (by exact HX2.out) (by exact hB2)).mono ?_; rintro e w3 ⟨rfl, hb3⟩; have hb3 : Below w2.heap.size w2 w3 := ⟨hb3.os, hb3.tape, hb3.output, hb3.size, hb3.block⟩; have hz3 := hb3.size; have KX3 := KX.below hb3 hG2; have p3 := p2.below hb3; have o3 := o2.below hb3; have K03 := K0.below hb3 (show g < w2.heap.size by omega); have K13 := K1.below hb3 (show g + 1 < w2.heap.size by omega); have HB3 := HBW.out.trans (hb3.mono hg2); have cx4a : w3.cell? ⟨G, 4, none⟩ = some (.slice P1 m1 d1) := KX3.cell 4; have cx4b : (w3.alloc (.cells #[.string (Ba X)] 9)).cell? ⟨G, 4, none⟩ = some (.slice P1 m1 d1) := (KX3.alloc _).cell 4; dsimp only))
    all_goals go_wp2_with fail
    all_goals go_meet
    all_goals (
      have K04 := Blk.grown_ne (K03.alloc _) (p3.alloc _) (by decide) hg4
      have K14 := Blk.grown_ne (K13.alloc _) (p3.alloc _) (by decide) hg4
      have o4 := ORow.grown_ne (o3.alloc _) (p3.alloc _) (by decide) hg4
      refine ⟨P', c', rfl, K04.far (p := ⟨G, 4, none⟩) (show g ≠ G by omega) _, K14.far (p := ⟨G, 4, none⟩) (show g + 1 ≠ G by omega) _, KX4.set_ 4 _, o4.set_blk KX4 (by decide) _, row4.set_blk KX4 (by decide) _, ?_⟩
      exact ((HB3.alloc (by omega) _).trans (hb4.mono (by omega))).setCell (p := ⟨G, 4, none⟩) (show g ≤ G by omega) _)
  case rest =>
    obtain ⟨P', c', rfl, K0, K1, KX, o3, p3, HB3⟩ := hcut
    have c4 : wc.cell? ⟨G, 4, none⟩ = some (.slice P' (m1 + 1) c') := KX.cell 4
    have f4 : wc.frozen? ⟨G, 4, none⟩ = false := KX.frozen 4
    by_cases h20 : 20 < m1 + 1
    · have h20i : (20 : Int) < (m1 : Int) + 1 := by omega
      have hpp := Lib.hid (Pl.pushP_t (t := X) (show 20 < ts.length + 1 by omega))
      obtain ⟨b, off, rfl, p4⟩ := p3.drop1 (by omega)
      have hcc := p3.cap
      simp only [Nat.add_sub_cancel] at p4
      rw [show (Tx (ts ++ [X])).drop 1 = Tx ((ts ++ [X]).drop 1) by simp [Tx, List.map_drop]] at p4
      have KXq := KX.set_ 4 (.slice (some ⟨b, off + 1, none⟩) m1 (c' - 1))
      have K0q := K0.far (p := ⟨G, 4, none⟩) (show g ≠ G by omega) (.slice (some ⟨b, off + 1, none⟩) m1 (c' - 1))
      have K1q := K1.far (p := ⟨G, 4, none⟩) (show g + 1 ≠ G by omega) (.slice (some ⟨b, off + 1, none⟩) m1 (c' - 1))
      have oq := o3.set_blk (o := 4) KX (by decide) (.slice (some ⟨b, off + 1, none⟩) m1 (c' - 1))
      have pq := p4.set_blk (o := 4) KX (by decide) (.slice (some ⟨b, off + 1, none⟩) m1 (c' - 1))
      have HBq := HB3.setCell (p := ⟨G, 4, none⟩) (show g ≤ G by omega) (.slice (some ⟨b, off + 1, none⟩) m1 (c' - 1))
      have hsz : (wc.setCell ⟨G, 4, none⟩ (.slice (some ⟨b, off + 1, none⟩) m1 (c' - 1))).heap.size = wc.heap.size := by simp [World.setCell]
      have hGl := KX.lt
      have rf := HF.out.below ((HBq.alloc (by omega) (.cells #[] 3)).mono (show B ≤ g by omega))
      have made := World.ownsRow_made (base := wc.heap.size) (e := 3) (size := 1) (wc.setCell ⟨G, 4, none⟩ (.slice (some ⟨b, off + 1, none⟩) m1 (c' - 1))) #[] 0 (by omega) (by simp [maxLen]) rfl
      rw [hsz] at made
      have hsz2 := World.size_alloc (wc.setCell ⟨G, 4, none⟩ (.slice (some ⟨b, off + 1, none⟩) m1 (c' - 1))) (.cells #[] 3)
      have oql := oq.lt
      have pql := pq.lt
      go_wp2_with (at_builtin; first
        | (refine app_read rfl (.tmp 24) (.tmp 25) 41 3 _ 8 int_info rfl (by omega) Tryz.underlying41 rfl wc.heap.size (some ⟨wc.heap.size, 0, none⟩) 0 0 [] rfl made A2 n2 c2 (I64 F) B rfl rf one_I64 (by omega) (by omega) (by omega) ?_; go_must (intro A5 c5 w5 own5 hb5; simp only [Nat.zero_add, List.nil_append] at own5; have hz5 := hb5.size; have HB5 := (HBq.alloc (by omega) (.cells #[] 3)).trans (hb5.mono (by omega)); have KX5 := (KXq.alloc (.cells #[] 3)).below hb5 (by omega); have K15 := (K1q.alloc (.cells #[] 3)).below hb5 (by omega); have p5 := (pq.alloc (.cells #[] 3)).below_lt (fun k hk => by have := (pql k hk).2; omega) hb5; have a0 : w5.cell? ⟨G, 0, none⟩ = some (.int .i64 k) := KX5.cell 0; have a1 : w5.cell? ⟨G, 1, none⟩ = some (.int .i64 x) := KX5.cell 1; have a2 : w5.cell? ⟨G, 2, none⟩ = some (.int .i64 y) := KX5.cell 2; have a3 : w5.cell? ⟨G, 3, none⟩ = some (.slice A1 n1 c1) := KX5.cell 3; have a4 : w5.cell? ⟨G, 4, none⟩ = some (.slice (some ⟨b, off + 1, none⟩) m1 (c' - 1)) := KX5.cell 4; have f3 : w5.frozen? ⟨G, 3, none⟩ = false := KX5.frozen 3; have g0 : w5.cell? ⟨g + 1, 0, none⟩ = some (.int .i64 0) := K15.cell 0; have g1 : w5.cell? ⟨g + 1, 1, none⟩ = some (.int .i64 0) := K15.cell 1; have g2 : w5.cell? ⟨g + 1, 2, none⟩ = some (.int .i64 0) := K15.cell 2; have g3 : w5.cell? ⟨g + 1, 3, none⟩ = some (.slice none 0 0) := K15.cell 3; have g4 : w5.cell? ⟨g + 1, 4, none⟩ = some (.slice none 0 0) := K15.cell 4; have e0 : w5.frozen? ⟨g + 1, 0, none⟩ = false := K15.frozen 0; have e1 : w5.frozen? ⟨g + 1, 1, none⟩ = false := K15.frozen 1; have e2 : w5.frozen? ⟨g + 1, 2, none⟩ = false := K15.frozen 2; have e3 : w5.frozen? ⟨g + 1, 3, none⟩ = false := K15.frozen 3; have e4 : w5.frozen? ⟨g + 1, 4, none⟩ = false := K15.frozen 4))
        | fail)
      have hne : g + 1 ≠ G := by omega
      obtain ⟨wf, hwf⟩ : ∃ wf, wf = (((((w5.setCell ⟨G, 3, none⟩ (.slice A5 n2 c5)).setCell ⟨g + 1, 0, none⟩ (.int .i64 k)).setCell ⟨g + 1, 1, none⟩ (.int .i64 x)).setCell ⟨g + 1, 2, none⟩ (.int .i64 y)).setCell ⟨g + 1, 3, none⟩ (.slice A5 n2 c5)).setCell ⟨g + 1, 4, none⟩ (.slice (some ⟨b, off + 1, none⟩) m1 (c' - 1)) := ⟨_, rfl⟩
      have KF : Blk wf (g + 1) 44 #[.int .i64 k, .int .i64 x, .int .i64 y, .slice A5 n2 c5, .slice (some ⟨b, off + 1, none⟩) m1 (c' - 1)] := by rw [hwf]; exact (((((K15.far (p := ⟨G, 3, none⟩) hne _).set_ 0 _).set_ 1 _).set_ 2 _).set_ 3 _).set_ 4 _
      have own6 : wf.ownsRow wc.heap.size 3 1 (.slice A5 n2 c5) n2 (I64 F) := by
        rw [hwf]
        exact own_setc (own_setc (own_setc (own_setc (own_setc (own_setc own5 (by omega) _) (by omega) _) (by omega) _) (by omega) _) (by omega) _) (by omega) _
      have p6 : ORow wf (g + 2) 9 (some ⟨b, off + 1, none⟩) m1 (c' - 1) (Tx ((ts ++ [X]).drop 1)) := by
        rw [hwf]
        exact (((((p5.set_blk KX5 (by decide) _).setc (by omega) _).setc (by omega) _).setc (by omega) _).setc (by omega) _).setc (by omega) _
      have l1 : g ≤ g + 1 := by omega
      have HBF : Below g w wf := by rw [hwf]; exact (((((HB5.setCell (p := ⟨G, 3, none⟩) (show g ≤ G by omega) _).setCell (p := ⟨g + 1, 0, none⟩) l1 _).setCell (p := ⟨g + 1, 1, none⟩) l1 _).setCell (p := ⟨g + 1, 2, none⟩) l1 _).setCell (p := ⟨g + 1, 3, none⟩) l1 _).setCell (p := ⟨g + 1, 4, none⟩) l1 _
      rw [← hwf]
      have c0 : wf.cell? ⟨g + 1, 0, none⟩ = some (.int .i64 k) := KF.cell 0
      have c1' : wf.cell? ⟨g + 1, 1, none⟩ = some (.int .i64 x) := KF.cell 1
      have c2' : wf.cell? ⟨g + 1, 2, none⟩ = some (.int .i64 y) := KF.cell 2
      have c3 : wf.cell? ⟨g + 1, 3, none⟩ = some (.slice A5 n2 c5) := KF.cell 3
      have c4' : wf.cell? ⟨g + 1, 4, none⟩ = some (.slice (some ⟨b, off + 1, none⟩) m1 (c' - 1)) := KF.cell 4
      refine bodyPost_ret (v := benchV k x y A5 n2 c5 ((some ⟨b, off + 1, none⟩)) m1 (c' - 1)) (by simp [results, Tryz.results66, benchV, go_sem, c0, c1', c2', c3, c4']) rfl ?_
      refine ⟨_, rfl, ⟨A5, (some ⟨b, off + 1, none⟩), n2, c5, m1, c' - 1, rfl, .of_own (own6.mono (by omega)), ?_⟩, by first | exact HBF | (rw [hg]; exact HBF)⟩
      show ORow wf _ _ _ _ _ (Tx (Pl.pushP ts (Pl.exprText E)))
      rw [HXE.out, hpp.out]
      exact p6.mono (by omega)
    · have h20i : ¬ (20 : Int) < (m1 : Int) + 1 := by omega
      have hpp := Lib.hid (Pl.pushP_f (t := X) (show ¬ 20 < ts.length + 1 by omega))
      have KXq := KX
      have K0q := K0
      have K1q := K1
      have oq := o3
      have pq := p3
      have HBq := HB3
      have hsz : (wc).heap.size = wc.heap.size := by simp [World.setCell]
      have hGl := KX.lt
      have rf := HF.out.below ((HBq.alloc (by omega) (.cells #[] 3)).mono (show B ≤ g by omega))
      have made := World.ownsRow_made (base := wc.heap.size) (e := 3) (size := 1) (wc) #[] 0 (by omega) (by simp [maxLen]) rfl
      rw [hsz] at made
      have hsz2 := World.size_alloc (wc) (.cells #[] 3)
      have oql := oq.lt
      have pql := pq.lt
      go_wp2_with (at_builtin; first
        | (refine app_read rfl (.tmp 24) (.tmp 25) 41 3 _ 8 int_info rfl (by omega) Tryz.underlying41 rfl wc.heap.size (some ⟨wc.heap.size, 0, none⟩) 0 0 [] rfl made A2 n2 c2 (I64 F) B rfl rf one_I64 (by omega) (by omega) (by omega) ?_; go_must (intro A5 c5 w5 own5 hb5; simp only [Nat.zero_add, List.nil_append] at own5; have hz5 := hb5.size; have HB5 := (HBq.alloc (by omega) (.cells #[] 3)).trans (hb5.mono (by omega)); have KX5 := (KXq.alloc (.cells #[] 3)).below hb5 (by omega); have K15 := (K1q.alloc (.cells #[] 3)).below hb5 (by omega); have p5 := (pq.alloc (.cells #[] 3)).below_lt (fun k hk => by have := (pql k hk).2; omega) hb5; have a0 : w5.cell? ⟨G, 0, none⟩ = some (.int .i64 k) := KX5.cell 0; have a1 : w5.cell? ⟨G, 1, none⟩ = some (.int .i64 x) := KX5.cell 1; have a2 : w5.cell? ⟨G, 2, none⟩ = some (.int .i64 y) := KX5.cell 2; have a3 : w5.cell? ⟨G, 3, none⟩ = some (.slice A1 n1 c1) := KX5.cell 3; have a4 : w5.cell? ⟨G, 4, none⟩ = some (.slice P' (m1 + 1) c') := KX5.cell 4; have f3 : w5.frozen? ⟨G, 3, none⟩ = false := KX5.frozen 3; have g0 : w5.cell? ⟨g + 1, 0, none⟩ = some (.int .i64 0) := K15.cell 0; have g1 : w5.cell? ⟨g + 1, 1, none⟩ = some (.int .i64 0) := K15.cell 1; have g2 : w5.cell? ⟨g + 1, 2, none⟩ = some (.int .i64 0) := K15.cell 2; have g3 : w5.cell? ⟨g + 1, 3, none⟩ = some (.slice none 0 0) := K15.cell 3; have g4 : w5.cell? ⟨g + 1, 4, none⟩ = some (.slice none 0 0) := K15.cell 4; have e0 : w5.frozen? ⟨g + 1, 0, none⟩ = false := K15.frozen 0; have e1 : w5.frozen? ⟨g + 1, 1, none⟩ = false := K15.frozen 1; have e2 : w5.frozen? ⟨g + 1, 2, none⟩ = false := K15.frozen 2; have e3 : w5.frozen? ⟨g + 1, 3, none⟩ = false := K15.frozen 3; have e4 : w5.frozen? ⟨g + 1, 4, none⟩ = false := K15.frozen 4))
        | fail)
      have hne : g + 1 ≠ G := by omega
      obtain ⟨wf, hwf⟩ : ∃ wf, wf = (((((w5.setCell ⟨G, 3, none⟩ (.slice A5 n2 c5)).setCell ⟨g + 1, 0, none⟩ (.int .i64 k)).setCell ⟨g + 1, 1, none⟩ (.int .i64 x)).setCell ⟨g + 1, 2, none⟩ (.int .i64 y)).setCell ⟨g + 1, 3, none⟩ (.slice A5 n2 c5)).setCell ⟨g + 1, 4, none⟩ (.slice P' (m1 + 1) (c')) := ⟨_, rfl⟩
      have KF : Blk wf (g + 1) 44 #[.int .i64 k, .int .i64 x, .int .i64 y, .slice A5 n2 c5, .slice P' (m1 + 1) (c')] := by rw [hwf]; exact (((((K15.far (p := ⟨G, 3, none⟩) hne _).set_ 0 _).set_ 1 _).set_ 2 _).set_ 3 _).set_ 4 _
      have own6 : wf.ownsRow wc.heap.size 3 1 (.slice A5 n2 c5) n2 (I64 F) := by
        rw [hwf]
        exact own_setc (own_setc (own_setc (own_setc (own_setc (own_setc own5 (by omega) _) (by omega) _) (by omega) _) (by omega) _) (by omega) _) (by omega) _
      have p6 : ORow wf (g + 2) 9 P' (m1 + 1) (c') (Tx (ts ++ [X])) := by
        rw [hwf]
        exact (((((p5.set_blk KX5 (by decide) _).setc (by omega) _).setc (by omega) _).setc (by omega) _).setc (by omega) _).setc (by omega) _
      have l1 : g ≤ g + 1 := by omega
      have HBF : Below g w wf := by rw [hwf]; exact (((((HB5.setCell (p := ⟨G, 3, none⟩) (show g ≤ G by omega) _).setCell (p := ⟨g + 1, 0, none⟩) l1 _).setCell (p := ⟨g + 1, 1, none⟩) l1 _).setCell (p := ⟨g + 1, 2, none⟩) l1 _).setCell (p := ⟨g + 1, 3, none⟩) l1 _).setCell (p := ⟨g + 1, 4, none⟩) l1 _
      rw [← hwf]
      have c0 : wf.cell? ⟨g + 1, 0, none⟩ = some (.int .i64 k) := KF.cell 0
      have c1' : wf.cell? ⟨g + 1, 1, none⟩ = some (.int .i64 x) := KF.cell 1
      have c2' : wf.cell? ⟨g + 1, 2, none⟩ = some (.int .i64 y) := KF.cell 2
      have c3 : wf.cell? ⟨g + 1, 3, none⟩ = some (.slice A5 n2 c5) := KF.cell 3
      have c4' : wf.cell? ⟨g + 1, 4, none⟩ = some (.slice P' (m1 + 1) (c')) := KF.cell 4
      refine bodyPost_ret (v := benchV k x y A5 n2 c5 (P') (m1 + 1) (c')) (by simp [results, Tryz.results66, benchV, go_sem, c0, c1', c2', c3, c4']) rfl ?_
      refine ⟨_, rfl, ⟨A5, P', n2, c5, (m1 + 1), c', rfl, .of_own (own6.mono (by omega)), ?_⟩, by first | exact HBF | (rw [hg]; exact HBF)⟩
      show ORow wf _ _ _ _ _ (Tx (Pl.pushP ts (Pl.exprText E)))
      rw [HXE.out, hpp.out]
      exact p6.mono (by omega)
end Go.Proofs.YtamhpgledbmnoaaGreatDoor
