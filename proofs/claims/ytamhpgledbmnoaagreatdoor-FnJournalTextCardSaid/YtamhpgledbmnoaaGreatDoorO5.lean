/-
  The reference's BenchDo.
  Conditions: as stated at each.
-/
import Derived.Test.YtamhpgledbmnoaaGreatDoorO0
import Derived.Test.YtamhpgledbmnoaaGreatDoorH5
import Derived.Test.YtamhpgledbmnoaaGreatDoorS8
namespace Go.Proofs.YtamhpgledbmnoaaGreatDoor
set_option linter.unusedVariables false
set_option linter.unusedSimpArgs false
open Go.RowKit
set_option maxRecDepth 100000 in
set_option maxHeartbeats 8000000 in
theorem spec_BenchDo (b : Pl.Bn) (D : Pl.Dd) (A P : Option Addr) (n c m d B : Nat) (w : World) (hx : Rd w B A n (I64 b.e)) (hp : Rd w B P m (Tx b.past)) (hB : B ≤ w.heap.size) (hn : n ≤ 2000000) (hm : m ≤ 2000000) (hnc : n ≤ c) (hs : ∀ s ∈ b.past, s.length ≤ 2000000) (ht : D.t.length ≤ 2000000) :
    Calls Tryz.prog 44 #[benchV b.k b.x b.y A n c P m d, deedV D.k D.n D.t] w fun e w' => ∃ v, e = .returned (.tuple #[v, .bool (Pl.doB b D).2]) ∧ BnO w' w.heap.size v (Pl.doB b D).1 ∧ Below w.heap.size w w' := by
  obtain ⟨k, x, y, E, ts⟩ := b
  obtain ⟨dk, dn, t⟩ := D
  have lx : E.length = n := by have := hx.len; rwa [I64_len] at this
  have lp : ts.length = m := by have := hp.len; rwa [Tx_len] at this
  have HX := Lib.hid hx
  have HP := Lib.hid hp
  obtain ⟨g, hg⟩ : ∃ g, w.heap.size = g := ⟨_, rfl⟩
  have hBg : B ≤ g := by omega
  obtain ⟨w0, hw0⟩ : ∃ w0, w0 = ((w.alloc (.cells #[.int .i64 k, .int .i64 x, .int .i64 y, .slice A n c, .slice P m d] 44)).alloc (.cells #[.int .i64 dk, .int .i64 dn, .string (Ba t)] 24)).alloc (.cells #[.int .i64 0, .int .i64 0, .int .i64 0, .slice none 0 0, .slice none 0 0] 44) := ⟨_, rfl⟩
  have hz0 : w0.heap.size = g + 3 := by rw [hw0, ← hg]; simp
  have HB0 : Below g w w0 := by rw [hw0, ← hg]; go_grown
  have K0 : Blk w0 g 44 #[.int .i64 k, .int .i64 x, .int .i64 y, .slice A n c, .slice P m d] := by rw [hw0, ← hg]; exact ((Blk.new w _ _).alloc _).alloc _
  have KD : Blk w0 (g + 1) 24 #[.int .i64 dk, .int .i64 dn, .string (Ba t)] := by
    rw [hw0, ← hg]
    have := (Blk.new (w.alloc (.cells #[.int .i64 k, .int .i64 x, .int .i64 y, .slice A n c, .slice P m d] 44)) 24 #[.int .i64 dk, .int .i64 dn, .string (Ba t)])
    rw [World.size_alloc] at this
    exact this.alloc _
  have K1 : Blk w0 (g + 1 + 1) 44 #[.int .i64 0, .int .i64 0, .int .i64 0, .slice none 0 0, .slice none 0 0] := by
    rw [hw0, ← hg]
    have := (Blk.new ((w.alloc (.cells #[.int .i64 k, .int .i64 x, .int .i64 y, .slice A n c, .slice P m d] 44)).alloc (.cells #[.int .i64 dk, .int .i64 dn, .string (Ba t)] 24)) 44 #[.int .i64 0, .int .i64 0, .int .i64 0, .slice none 0 0, .slice none 0 0])
    rw [World.size_alloc, World.size_alloc] at this
    exact this
  have CC := Lib.hid (fun w' h h' hB' => spec_l10Copy ⟨k, x, y, E, ts⟩ A P n c m d B w' h h' hB' (by omega) (by omega))
  have CV := Lib.hid (fun w' h h' hB' => spec_BenchValid ⟨k, x, y, E, ts⟩ A P n c m d B w' h h' hB' (by omega) (by omega) hs)
  have CR := Lib.hid (fun w' => spec_ReadExpr t w' ht)
  have HS := Lib.hid hs
  unfold benchV deedV
  clear hx hp hs ht
  go_enter Tryz.func44, Tryz.ntmps44
  go_wp2_with (with_reducible refine AtEnd.of ?_)
  rw [← hw0]
  clear hw0
  refine (CV.out _ (HX.out.below (HB0.mono hBg)) (HP.out.below (HB0.mono hBg)) (by omega)).mono ?_
  rintro e w1 ⟨rfl, hb1⟩
  have hz1 := hb1.size
  have HB1 := HB0.trans (hb1.mono (by omega))
  have K0 := K0.below hb1 (by omega)
  have KD := KD.below hb1 (by omega)
  have K1 := K1.below hb1 (by omega)
  cases hv : Pl.benchValid ⟨k, x, y, E, ts⟩
  · have hr := Lib.hid (Pl.doB_f (d := ⟨dk, dn, t⟩) hv)
    clear hv
    have g0 : w1.cell? ⟨g + 1 + 1, 0, none⟩ = some (.int .i64 0) := K1.cell 0
    have g1 : w1.cell? ⟨g + 1 + 1, 1, none⟩ = some (.int .i64 0) := K1.cell 1
    have g2 : w1.cell? ⟨g + 1 + 1, 2, none⟩ = some (.int .i64 0) := K1.cell 2
    have g3 : w1.cell? ⟨g + 1 + 1, 3, none⟩ = some (.slice none 0 0) := K1.cell 3
    have g4 : w1.cell? ⟨g + 1 + 1, 4, none⟩ = some (.slice none 0 0) := K1.cell 4
    have e0 : w1.frozen? ⟨g + 1 + 1, 0, none⟩ = false := K1.frozen 0
    have e1 : w1.frozen? ⟨g + 1 + 1, 1, none⟩ = false := K1.frozen 1
    have e2 : w1.frozen? ⟨g + 1 + 1, 2, none⟩ = false := K1.frozen 2
    have e3 : w1.frozen? ⟨g + 1 + 1, 3, none⟩ = false := K1.frozen 3
    have e4 : w1.frozen? ⟨g + 1 + 1, 4, none⟩ = false := K1.frozen 4
    have KF := put5_blk (v0 := .int .i64 0) (v1 := .int .i64 0) (v2 := .int .i64 0) (v3 := .slice none 0 0) (v4 := .slice none 0 0) K1
    have HBF := put5_below (v0 := .int .i64 0) (v1 := .int .i64 0) (v2 := .int .i64 0) (v3 := .slice none 0 0) (v4 := .slice none 0 0) HB1 (show g ≤ g + 1 + 1 by omega)
    go_wp2_with (with_reducible refine AtEnd.of ?_)
    obtain ⟨wf, hwf⟩ : ∃ wf, wf = put5 w1 (g + 1 + 1) (.int .i64 0) (.int .i64 0) (.int .i64 0) (.slice none 0 0) (.slice none 0 0) := ⟨_, rfl⟩
    rw [← hwf] at KF HBF
    unfold put5 at hwf
    rw [← hwf]
    clear hwf
    refine atEnd_ret (results_cell_tmp Tryz.results44 rfl (load_bench KF) rfl) rfl ?_
    rw [hr.out]
    exact ⟨_, rfl, ⟨none, none, 0, 0, 0, 0, rfl, ⟨rfl, Nat.le_refl _, by simp [maxLen], .inl ⟨rfl, rfl⟩⟩, ⟨rfl, Nat.le_refl _, by simp [maxLen], .inl ⟨rfl, rfl⟩⟩⟩, by first | exact HBF | (rw [hg]; exact HBF)⟩
  · have a0 : w1.cell? ⟨g, 0, none⟩ = some (.int .i64 k) := K0.cell 0
    have a1 : w1.cell? ⟨g, 1, none⟩ = some (.int .i64 x) := K0.cell 1
    have a2 : w1.cell? ⟨g, 2, none⟩ = some (.int .i64 y) := K0.cell 2
    have a3 : w1.cell? ⟨g, 3, none⟩ = some (.slice A n c) := K0.cell 3
    have a4 : w1.cell? ⟨g, 4, none⟩ = some (.slice P m d) := K0.cell 4
    have HV := Lib.hid hv
    replace hn : n ≤ 1000000 := by have : E.length ≤ 24 := (Pl.bv_size hv).2.1; omega
    replace hm : m ≤ 100000 := by have : ts.length ≤ 20 := (Pl.bv_size hv).2.2.1; omega
    clear hv
    go_wp2_with (with_reducible refine AtEnd.of ?_)
    refine (CC.out _ (HX.out.below (HB1.mono hBg)) (HP.out.below (HB1.mono hBg)) (by omega)).mono ?_
    rintro e w2 ⟨v, rfl, ⟨A1, P1, n1, c1, m1, d1, rfl, o1, p1⟩, hb2⟩
    obtain rfl : n1 = n := by have := o1.len; rw [I64_len] at this; exact this.symm.trans lx
    obtain rfl : m1 = m := by have := p1.len; rw [Tx_len] at this; exact this.symm.trans lp
    have hz2 := hb2.size
    have HB2 := HB1.trans (hb2.mono (by omega))
    have K0 := K0.below hb2 (by omega)
    have KD := KD.below hb2 (by omega)
    have K1 := K1.below hb2 (by omega)
    clear a0 a1 a2 a3 a4
    unfold benchV
    have dd2 : (w2.alloc (.cells #[.int .i64 k, .int .i64 x, .int .i64 y, .slice A1 n1 c1, .slice P1 m1 d1] 44)).cell? ⟨g + 1, 2, none⟩ = some (.string (Ba t)) := (KD.alloc _).cell 2
    go_wp2_with (with_reducible refine AtEnd.of ?_)
    obtain ⟨G, hG⟩ : ∃ G, w2.heap.size = G := ⟨_, rfl⟩
    obtain ⟨w3, hw3⟩ : ∃ w3, w3 = w2.alloc (.cells #[.int .i64 k, .int .i64 x, .int .i64 y, .slice A1 n1 c1, .slice P1 m1 d1] 44) := ⟨_, rfl⟩
    have hz3 : w3.heap.size = G + 1 := by rw [hw3, ← hG]; simp
    have HB3 : Below g w w3 := by rw [hw3]; exact HB2.alloc (by omega) _
    have K0 : Blk w3 g 44 #[.int .i64 k, .int .i64 x, .int .i64 y, .slice A n1 c, .slice P m1 d] := by rw [hw3]; exact K0.alloc _
    have K1 : Blk w3 (g + 1 + 1) 44 #[.int .i64 0, .int .i64 0, .int .i64 0, .slice none 0 0, .slice none 0 0] := by rw [hw3]; exact K1.alloc _
    have KD : Blk w3 (g + 1) 24 #[.int .i64 dk, .int .i64 dn, .string (Ba t)] := by rw [hw3]; exact KD.alloc _
    have KX : Blk w3 G 44 #[.int .i64 k, .int .i64 x, .int .i64 y, .slice A1 n1 c1, .slice P1 m1 d1] := by rw [hw3, ← hG]; exact Blk.new w2 _ _
    have o3 : ORow w3 (g + 3) 3 A1 n1 c1 (I64 E) := by rw [hw3]; exact (o1.alloc _).mono (by omega)
    have p3 : ORow w3 (g + 3) 9 P1 m1 d1 (Tx ts) := by rw [hw3]; exact (p1.alloc _).mono (by omega)
    rw [← hw3, hG]
    clear hw3 o1 p1 CC CV dd2
    refine (CR.out _).mono ?_
    rintro e w4 ⟨ys, A4, c4, hys, rfl, own4, hb4⟩
    have hz4 := hb4.size
    have HB4 := HB3.trans (hb4.mono (by omega))
    have K0 := K0.below hb4 (by omega)
    have KD := KD.below hb4 (by omega)
    have K1 := K1.below hb4 (by omega)
    have KX := KX.below hb4 (by omega)
    have o4 := o3.below hb4
    have p4 := p3.below hb4
    have dd0 : (w4.alloc (.cells #[] 3)).cell? ⟨g + 1, 0, none⟩ = some (.int .i64 dk) := (KD.alloc _).cell 0
    have HYS := Lib.hid hys
    generalize hok : (Pl.readE t).isSome = ok at *
    have HOK := Lib.hid hok
    clear o3 p3 CR hys hok
    obtain ⟨w5, hw5⟩ : ∃ w5, w5 = w4.alloc (.cells #[] 3) := ⟨_, rfl⟩
    have hz5 : w5.heap.size = w4.heap.size + 1 := by rw [hw5]; simp
    have HB5 : Below g w w5 := by rw [hw5]; exact HB4.alloc (by omega) _
    have K0 : Blk w5 g 44 #[.int .i64 k, .int .i64 x, .int .i64 y, .slice A n1 c, .slice P m1 d] := by rw [hw5]; exact K0.alloc _
    have K1 : Blk w5 (g + 1 + 1) 44 #[.int .i64 0, .int .i64 0, .int .i64 0, .slice none 0 0, .slice none 0 0] := by rw [hw5]; exact K1.alloc _
    have KD : Blk w5 (g + 1) 24 #[.int .i64 dk, .int .i64 dn, .string (Ba t)] := by rw [hw5]; exact KD.alloc _
    have KX : Blk w5 G 44 #[.int .i64 k, .int .i64 x, .int .i64 y, .slice A1 n1 c1, .slice P1 m1 d1] := by rw [hw5]; exact KX.alloc _
    have o5 : ORow w5 (g + 3) 3 A1 n1 c1 (I64 E) := by rw [hw5]; exact o4.alloc _
    have p5 : ORow w5 (g + 3) 9 P1 m1 d1 (Tx ts) := by rw [hw5]; exact p4.alloc _
    have f5 : ORow w5 (g + 3) 3 A4 ys.length c4 (I64 ys) := by rw [hw5]; exact (ORow.of_own (own4.mono (by omega))).alloc _
    have s5 : ORow w5 (g + 3) 3 (some ⟨w4.heap.size, 0, none⟩) 0 0 (I64 []) := by rw [hw5]; exact .of_own (World.ownsRow_made w4 #[] 0 (by omega) (by simp [maxLen]) rfl)
    have dd0 : w5.cell? ⟨g + 1, 0, none⟩ = some (.int .i64 dk) := KD.cell 0
    have dd1 : w5.cell? ⟨g + 1, 1, none⟩ = some (.int .i64 dn) := KD.cell 1
    have dd2 : w5.cell? ⟨g + 1, 2, none⟩ = some (.string (Ba t)) := KD.cell 2
    have a0 : w5.cell? ⟨g, 0, none⟩ = some (.int .i64 k) := K0.cell 0
    have a3 : w5.cell? ⟨g, 3, none⟩ = some (.slice A n1 c) := K0.cell 3
    have a4 : w5.cell? ⟨g, 4, none⟩ = some (.slice P m1 d) := K0.cell 4
    have x0 : w5.cell? ⟨G, 0, none⟩ = some (.int .i64 k) := KX.cell 0
    have x1 : w5.cell? ⟨G, 1, none⟩ = some (.int .i64 x) := KX.cell 1
    have x2 : w5.cell? ⟨G, 2, none⟩ = some (.int .i64 y) := KX.cell 2
    have x3 : w5.cell? ⟨G, 3, none⟩ = some (.slice A1 n1 c1) := KX.cell 3
    have x4 : w5.cell? ⟨G, 4, none⟩ = some (.slice P1 m1 d1) := KX.cell 4
    have g0 : w5.cell? ⟨g + 1 + 1, 0, none⟩ = some (.int .i64 0) := K1.cell 0
    have g1 : w5.cell? ⟨g + 1 + 1, 1, none⟩ = some (.int .i64 0) := K1.cell 1
    have g2 : w5.cell? ⟨g + 1 + 1, 2, none⟩ = some (.int .i64 0) := K1.cell 2
    have g3 : w5.cell? ⟨g + 1 + 1, 3, none⟩ = some (.slice none 0 0) := K1.cell 3
    have g4 : w5.cell? ⟨g + 1 + 1, 4, none⟩ = some (.slice none 0 0) := K1.cell 4
    have e0 : w5.frozen? ⟨g + 1 + 1, 0, none⟩ = false := K1.frozen 0
    have e1 : w5.frozen? ⟨g + 1 + 1, 1, none⟩ = false := K1.frozen 1
    have e2 : w5.frozen? ⟨g + 1 + 1, 2, none⟩ = false := K1.frozen 2
    have e3 : w5.frozen? ⟨g + 1 + 1, 3, none⟩ = false := K1.frozen 3
    have e4 : w5.frozen? ⟨g + 1 + 1, 4, none⟩ = false := K1.frozen 4
    clear o4 p4 own4 hb4 hb1 hb2 HB0 HB1 HB2 HB3 HB4
    go_upto_region 6 with (fail)
    rw [← hw5]
    clear hw5
    go_upto_if 31 with (fail)
    go_cut [9, 10] from 171 (fun s9 s10 wx => ∃ (A9 : Option Addr) (c9 : Nat) (fs : List Int) (sm : Bool), s9 = .slice A9 fs.length c9 ∧ s10 = .bool sm ∧ (dk = 4 → sm = (Pl.shortFor E).isSome ∧ fs = (Pl.shortFor E).getD []) ∧ ORow wx (g + 3) 3 A9 fs.length c9 (I64 fs) ∧ Below w5.heap.size w5 wx)
    case first =>
      by_cases h4 : dk = 4
      · subst h4
        have CS := fun w' h h' => spec_ShortFor A n1 c B E w' h h' (by omega)
        go_wp2_with (with_reducible refine AtEnd.of ?_)
        refine (CS _ (HX.out.below (HB5.mono hBg)) (by omega)).mono ?_
        rintro e w' ⟨A9, c9, rfl, own9, hb9⟩
        go_wp2_with (with_reducible refine AtEnd.of ?_)
        go_meet
        exact ⟨A9, c9, _, _, rfl, rfl, fun _ => ⟨rfl, rfl⟩, (ORow.of_own own9).mono (by omega), hb9⟩
      · have h4' : (dk == 4) = false := by rw [beq_eq_false_iff_ne]; exact h4
        go_wp2_with (with_reducible refine AtEnd.of ?_)
        go_meet
        exact ⟨_, _, [], false, rfl, rfl, fun h => absurd h h4, s5, Below.refl _ _⟩
    case rest =>
      obtain ⟨w6, rfl⟩ : ∃ w6, w6 = wc := ⟨_, rfl⟩
      obtain ⟨A9, c9, fs, sm, rfl, rfl, h4f, f9, hb6⟩ := hcut
      have H4F := Lib.hid h4f
      have hz6 := hb6.size
      have HB6 := HB5.trans (hb6.mono (by omega))
      have K0 := K0.below hb6 (by omega)
      have K1 := K1.below hb6 (by omega)
      have KD := KD.below hb6 (by omega)
      have KX := KX.below hb6 (by omega)
      have o6 := o5.below hb6
      have p6 := p5.below hb6
      have f6 := f5.below hb6
      clear h4f hb6 o5 p5 f5 s5 HB5 dd0 dd1 dd2 a0 a3 a4 x0 x1 x2 x3 x4 g0 g1 g2 g3 g4 e0 e1 e2 e3 e4
      have dd0 : w6.cell? ⟨g + 1, 0, none⟩ = some (.int .i64 dk) := KD.cell 0
      have dd1 : w6.cell? ⟨g + 1, 1, none⟩ = some (.int .i64 dn) := KD.cell 1
      have dd2 : w6.cell? ⟨g + 1, 2, none⟩ = some (.string (Ba t)) := KD.cell 2
      have a0 : w6.cell? ⟨g, 0, none⟩ = some (.int .i64 k) := K0.cell 0
      have a1 : w6.cell? ⟨g, 1, none⟩ = some (.int .i64 x) := K0.cell 1
      have a2 : w6.cell? ⟨g, 2, none⟩ = some (.int .i64 y) := K0.cell 2
      have a3 : w6.cell? ⟨g, 3, none⟩ = some (.slice A n1 c) := K0.cell 3
      have a4 : w6.cell? ⟨g, 4, none⟩ = some (.slice P m1 d) := K0.cell 4
      have x0 : w6.cell? ⟨G, 0, none⟩ = some (.int .i64 k) := KX.cell 0
      have x1 : w6.cell? ⟨G, 1, none⟩ = some (.int .i64 x) := KX.cell 1
      have x2 : w6.cell? ⟨G, 2, none⟩ = some (.int .i64 y) := KX.cell 2
      have x3 : w6.cell? ⟨G, 3, none⟩ = some (.slice A1 n1 c1) := KX.cell 3
      have x4 : w6.cell? ⟨G, 4, none⟩ = some (.slice P1 m1 d1) := KX.cell 4
      have g0 : w6.cell? ⟨g + 1 + 1, 0, none⟩ = some (.int .i64 0) := K1.cell 0
      have g1 : w6.cell? ⟨g + 1 + 1, 1, none⟩ = some (.int .i64 0) := K1.cell 1
      have g2 : w6.cell? ⟨g + 1 + 1, 2, none⟩ = some (.int .i64 0) := K1.cell 2
      have g3 : w6.cell? ⟨g + 1 + 1, 3, none⟩ = some (.slice none 0 0) := K1.cell 3
      have g4 : w6.cell? ⟨g + 1 + 1, 4, none⟩ = some (.slice none 0 0) := K1.cell 4
      have e0 : w6.frozen? ⟨g + 1 + 1, 0, none⟩ = false := K1.frozen 0
      have e1 : w6.frozen? ⟨g + 1 + 1, 1, none⟩ = false := K1.frozen 1
      have e2 : w6.frozen? ⟨g + 1 + 1, 2, none⟩ = false := K1.frozen 2
      have e3 : w6.frozen? ⟨g + 1 + 1, 3, none⟩ = false := K1.frozen 3
      have e4 : w6.frozen? ⟨g + 1 + 1, 4, none⟩ = false := K1.frozen 4
      have y0 : w6.frozen? ⟨G, 0, none⟩ = false := KX.frozen 0
      have y1 : w6.frozen? ⟨G, 1, none⟩ = false := KX.frozen 1
      have y2 : w6.frozen? ⟨G, 2, none⟩ = false := KX.frozen 2
      have y3 : w6.frozen? ⟨G, 3, none⟩ = false := KX.frozen 3
      have y4 : w6.frozen? ⟨G, 4, none⟩ = false := KX.frozen 4
      have hgG : G ≠ g + 1 + 1 := by omega
      have hGw6 := KX.lt
      have hgw6 := K1.lt
      have hg6 : g ≤ w6.heap.size := by omega
      have hgGl : g ≤ G := by omega
      have hB6 : B ≤ w6.heap.size := by omega
      have RX6 := Lib.hid (HX.out.below (HB6.mono hBg))
      have RP6 := Lib.hid (HP.out.below (HB6.mono hBg))
      go_upto_region 8 with (fail)
      go_cut [11] from 171 (fun s11 wx => ∃ W : Bool, s11 = .bool W ∧ Hid (W = (decide (t = []) && Pl.wvB k dn)) ∧ w6 = wx)
      case first =>
        by_cases htt : t = []
        · subst htt
          have hbt : (Ba ([] : List UInt8)).toList.isEmpty = true := by rw [Ba_list]; rfl
          go_wp2_with (go_at_call 64; refine (spec_WordValid k dn _).mono ?_; rintro e w' ⟨rfl, rfl⟩)
          go_meet
          exact ⟨_, rfl, Lib.hid (by simp), rfl⟩
        · have hbt : (Ba t).toList.isEmpty = false := by rw [Ba_list]; cases t with
            | nil => exact absurd rfl htt
            | cons a r => rfl
          go_wp2_with (with_reducible refine AtEnd.of ?_)
          go_meet
          exact ⟨false, rfl, Lib.hid (by simp [htt]), rfl⟩
      case rest =>
        obtain ⟨W, rfl, hW, rfl⟩ := hcut
        go_upto_region 9 with (fail)
        go_cut [12] from 171 (fun s12 wx => ∃ V : Bool, s12 = .bool V ∧ Hid (V = (decide (dn = 0) && decide (t = []))) ∧ w6 = wx)
        case first =>
          by_cases htt : t = []
          · subst htt
            have hbt : (Ba ([] : List UInt8)).toList = [] := Ba_list []
            by_cases hdn : dn = 0
            · subst hdn
              go_wp2_with (with_reducible refine AtEnd.of ?_)
              go_meet
              exact ⟨true, rfl, Lib.hid (by simp), rfl⟩
            · have hdn' : (dn == 0) = false := by rw [beq_eq_false_iff_ne]; exact hdn
              go_wp2_with (with_reducible refine AtEnd.of ?_)
              go_meet
              exact ⟨false, rfl, Lib.hid (by simp [hdn]), rfl⟩
          · have hbt : ¬ (Ba t).toList = [] := by rw [Ba_list]; exact htt
            by_cases hdn : dn = 0
            · subst hdn
              go_wp2_with (with_reducible refine AtEnd.of ?_)
              go_meet
              exact ⟨false, rfl, Lib.hid (by simp [htt]), rfl⟩
            · have hdn' : (dn == 0) = false := by rw [beq_eq_false_iff_ne]; exact hdn
              go_wp2_with (with_reducible refine AtEnd.of ?_)
              go_meet
              exact ⟨false, rfl, Lib.hid (by simp [hdn]), rfl⟩
        case rest =>
          obtain ⟨V, rfl, hV, rfl⟩ := hcut
          rcases (by omega : dk = 0 ∨ dk = 1 ∨ dk = 2 ∨ dk = 3 ∨ dk = 4 ∨ dk = 5 ∨ (dk ≠ 0 ∧ dk ≠ 1 ∧ dk ≠ 2 ∧ dk ≠ 3 ∧ dk ≠ 4 ∧ dk ≠ 5)) with rfl | rfl | rfl | rfl | rfl | rfl | ⟨h0, h1, h2, h3, h4, h5⟩
          · skip
            cases W
            · go_wp2_with (with_reducible refine AtEnd.of ?_)
              have hd3 : ((0 : Int) == 3) = false := rfl
              clear a3 a4
              go_quiet (fail)
              have a3 := True.intro
              have a4 := True.intro
              clear dd0 dd1 dd2 a0 a1 a2 a3 a4 x0 x1 x2 x3 x4 g0 g1 g2 g3 g4 e0 e1 e2 e3 e4 y0 y1 y2 y3 y4
              obtain ⟨w7, hww⟩ : ∃ v, v = w6.drewN nq := ⟨_, rfl⟩
              replace K0 : Blk w7 g 44 #[.int .i64 k, .int .i64 x, .int .i64 y, .slice A n1 c, .slice P m1 d] := by rw [hww]; exact K0.drewN nq
              replace KX : Blk w7 G 44 #[.int .i64 k, .int .i64 x, .int .i64 y, .slice A1 n1 c1, .slice P1 m1 d1] := by rw [hww]; exact KX.drewN nq
              replace K1 : Blk w7 (g + 1 + 1) 44 #[.int .i64 0, .int .i64 0, .int .i64 0, .slice none 0 0, .slice none 0 0] := by rw [hww]; exact K1.drewN nq
              replace KD : Blk w7 (g + 1) 24 #[.int .i64 0, .int .i64 dn, .string (Ba t)] := by rw [hww]; exact KD.drewN nq
              replace o6 : ORow w7 (g + 3) 3 A1 n1 c1 (I64 E) := by rw [hww]; exact o6.drewN nq
              replace p6 : ORow w7 (g + 3) 9 P1 m1 d1 (Tx ts) := by rw [hww]; exact p6.drewN nq
              replace f6 : ORow w7 (g + 3) 3 A4 ys.length c4 (I64 ys) := by rw [hww]; exact f6.drewN nq
              replace f9 : ORow w7 (g + 3) 3 A9 fs.length c9 (I64 fs) := by rw [hww]; exact f9.drewN nq
              have hz7 : w7.heap.size = w6.heap.size := by rw [hww]; rfl
              replace HB6 : Below g w w7 := by rw [hww]; exact below_drewN HB6 nq
              replace RX6 : Hid (Rd w7 B A n1 (I64 E)) := by rw [hww]; exact Lib.hid (RX6.out.drewN nq)
              replace RP6 : Hid (Rd w7 B P m1 (Tx ts)) := by rw [hww]; exact Lib.hid (RP6.out.drewN nq)
              replace hB6 : B ≤ w7.heap.size := by omega
              replace hGw6 : G < w7.heap.size := by omega
              replace hgw6 : g + 1 + 1 < w7.heap.size := by omega
              replace hg6 : g ≤ w7.heap.size := by omega
              clear hz7
              rw [← hww]
              clear hww
              have dd0 : w7.cell? ⟨g + 1, 0, none⟩ = some (.int .i64 0) := KD.cell 0
              have dd1 : w7.cell? ⟨g + 1, 1, none⟩ = some (.int .i64 dn) := KD.cell 1
              have dd2 : w7.cell? ⟨g + 1, 2, none⟩ = some (.string (Ba t)) := KD.cell 2
              have a0 : w7.cell? ⟨g, 0, none⟩ = some (.int .i64 k) := K0.cell 0
              have x0 : w7.cell? ⟨G, 0, none⟩ = some (.int .i64 k) := KX.cell 0
              have g0 : w7.cell? ⟨g + 1 + 1, 0, none⟩ = some (.int .i64 0) := K1.cell 0
              have e0 : w7.frozen? ⟨g + 1 + 1, 0, none⟩ = false := K1.frozen 0
              have y0 : w7.frozen? ⟨G, 0, none⟩ = false := KX.frozen 0
              have a1 : w7.cell? ⟨g, 1, none⟩ = some (.int .i64 x) := K0.cell 1
              have x1 : w7.cell? ⟨G, 1, none⟩ = some (.int .i64 x) := KX.cell 1
              have g1 : w7.cell? ⟨g + 1 + 1, 1, none⟩ = some (.int .i64 0) := K1.cell 1
              have e1 : w7.frozen? ⟨g + 1 + 1, 1, none⟩ = false := K1.frozen 1
              have y1 : w7.frozen? ⟨G, 1, none⟩ = false := KX.frozen 1
              have a2 : w7.cell? ⟨g, 2, none⟩ = some (.int .i64 y) := K0.cell 2
              have x2 : w7.cell? ⟨G, 2, none⟩ = some (.int .i64 y) := KX.cell 2
              have g2 : w7.cell? ⟨g + 1 + 1, 2, none⟩ = some (.int .i64 0) := K1.cell 2
              have e2 : w7.frozen? ⟨g + 1 + 1, 2, none⟩ = false := K1.frozen 2
              have y2 : w7.frozen? ⟨G, 2, none⟩ = false := KX.frozen 2
              have a3 : w7.cell? ⟨g, 3, none⟩ = some (.slice A n1 c) := K0.cell 3
              have x3 : w7.cell? ⟨G, 3, none⟩ = some (.slice A1 n1 c1) := KX.cell 3
              have g3 : w7.cell? ⟨g + 1 + 1, 3, none⟩ = some (.slice none 0 0) := K1.cell 3
              have e3 : w7.frozen? ⟨g + 1 + 1, 3, none⟩ = false := K1.frozen 3
              have y3 : w7.frozen? ⟨G, 3, none⟩ = false := KX.frozen 3
              have a4 : w7.cell? ⟨g, 4, none⟩ = some (.slice P m1 d) := K0.cell 4
              have x4 : w7.cell? ⟨G, 4, none⟩ = some (.slice P1 m1 d1) := KX.cell 4
              have g4 : w7.cell? ⟨g + 1 + 1, 4, none⟩ = some (.slice none 0 0) := K1.cell 4
              have e4 : w7.frozen? ⟨g + 1 + 1, 4, none⟩ = false := K1.frozen 4
              have y4 : w7.frozen? ⟨G, 4, none⟩ = false := KX.frozen 4
              go_wp2_with (with_reducible refine AtEnd.of ?_)
              have KF := put5_blk (v0 := .int .i64 k) (v1 := .int .i64 x) (v2 := .int .i64 y) (v3 := .slice A1 n1 c1) (v4 := .slice P1 m1 d1) (K1)
              have HBF := put5_below (v0 := .int .i64 k) (v1 := .int .i64 x) (v2 := .int .i64 y) (v3 := .slice A1 n1 c1) (v4 := .slice P1 m1 d1) (HB6) (show g ≤ g + 1 + 1 by omega)
              have oF := put5_orow (r := g + 1 + 1) (v0 := .int .i64 k) (v1 := .int .i64 x) (v2 := .int .i64 y) (v3 := .slice A1 n1 c1) (v4 := .slice P1 m1 d1) (o6) (by omega)
              have pF := put5_orow (r := g + 1 + 1) (v0 := .int .i64 k) (v1 := .int .i64 x) (v2 := .int .i64 y) (v3 := .slice A1 n1 c1) (v4 := .slice P1 m1 d1) (p6) (by omega)
              obtain ⟨wf, hwf⟩ : ∃ wf, wf = put5 (w7) (g + 1 + 1) (.int .i64 k) (.int .i64 x) (.int .i64 y) (.slice A1 n1 c1) (.slice P1 m1 d1) := ⟨_, rfl⟩
              rw [← hwf] at KF HBF oF pF
              simp only [put5] at hwf
              rw [← hwf]
              clear hwf
              refine atEnd_ret (results_cell_tmp Tryz.results44 rfl (load_bench KF) rfl) rfl ?_
              rw [Pl.doB_none HV.out (Pl.st0_f hW.out)]
              exact ⟨_, rfl, ⟨A1, P1, n1, c1, m1, d1, rfl, oF.mono (by omega), pF.mono (by omega)⟩, by first | exact HBF | (rw [hg]; exact HBF)⟩
            · go_wp2_with (with_reducible refine AtEnd.of ?_)
              have KF := put5_blk (v0 := .int .i64 k) (v1 := .int .i64 dn) (v2 := .int .i64 y) (v3 := .slice A1 n1 c1) (v4 := .slice P1 m1 d1) (K1.far (p := ⟨G, 1, none⟩) (Ne.symm hgG) (.int .i64 dn))
              have HBF := put5_below (v0 := .int .i64 k) (v1 := .int .i64 dn) (v2 := .int .i64 y) (v3 := .slice A1 n1 c1) (v4 := .slice P1 m1 d1) (HB6.setCell (p := ⟨G, 1, none⟩) hgGl (.int .i64 dn)) (show g ≤ g + 1 + 1 by omega)
              have oF := put5_orow (r := g + 1 + 1) (v0 := .int .i64 k) (v1 := .int .i64 dn) (v2 := .int .i64 y) (v3 := .slice A1 n1 c1) (v4 := .slice P1 m1 d1) (o6.set_blk (o := 1) KX (by decide) (.int .i64 dn)) (by omega)
              have pF := put5_orow (r := g + 1 + 1) (v0 := .int .i64 k) (v1 := .int .i64 dn) (v2 := .int .i64 y) (v3 := .slice A1 n1 c1) (v4 := .slice P1 m1 d1) (p6.set_blk (o := 1) KX (by decide) (.int .i64 dn)) (by omega)
              obtain ⟨wf, hwf⟩ : ∃ wf, wf = put5 (w6.setCell ⟨G, 1, none⟩ (.int .i64 dn)) (g + 1 + 1) (.int .i64 k) (.int .i64 dn) (.int .i64 y) (.slice A1 n1 c1) (.slice P1 m1 d1) := ⟨_, rfl⟩
              rw [← hwf] at KF HBF oF pF
              simp only [put5] at hwf
              rw [← hwf]
              clear hwf
              refine atEnd_ret (results_cell_tmp Tryz.results44 rfl (load_bench KF) rfl) rfl ?_
              rw [Pl.doB_some HV.out (Pl.st0_t hW.out)]
              exact ⟨_, rfl, ⟨A1, P1, n1, c1, m1, d1, rfl, oF.mono (by omega), pF.mono (by omega)⟩, by first | exact HBF | (rw [hg]; exact HBF)⟩
          · skip
            cases W
            · go_wp2_with (with_reducible refine AtEnd.of ?_)
              have hd3 : ((1 : Int) == 3) = false := rfl
              clear a3 a4
              go_quiet (fail)
              have a3 := True.intro
              have a4 := True.intro
              clear dd0 dd1 dd2 a0 a1 a2 a3 a4 x0 x1 x2 x3 x4 g0 g1 g2 g3 g4 e0 e1 e2 e3 e4 y0 y1 y2 y3 y4
              obtain ⟨w7, hww⟩ : ∃ v, v = w6.drewN nq := ⟨_, rfl⟩
              replace K0 : Blk w7 g 44 #[.int .i64 k, .int .i64 x, .int .i64 y, .slice A n1 c, .slice P m1 d] := by rw [hww]; exact K0.drewN nq
              replace KX : Blk w7 G 44 #[.int .i64 k, .int .i64 x, .int .i64 y, .slice A1 n1 c1, .slice P1 m1 d1] := by rw [hww]; exact KX.drewN nq
              replace K1 : Blk w7 (g + 1 + 1) 44 #[.int .i64 0, .int .i64 0, .int .i64 0, .slice none 0 0, .slice none 0 0] := by rw [hww]; exact K1.drewN nq
              replace KD : Blk w7 (g + 1) 24 #[.int .i64 1, .int .i64 dn, .string (Ba t)] := by rw [hww]; exact KD.drewN nq
              replace o6 : ORow w7 (g + 3) 3 A1 n1 c1 (I64 E) := by rw [hww]; exact o6.drewN nq
              replace p6 : ORow w7 (g + 3) 9 P1 m1 d1 (Tx ts) := by rw [hww]; exact p6.drewN nq
              replace f6 : ORow w7 (g + 3) 3 A4 ys.length c4 (I64 ys) := by rw [hww]; exact f6.drewN nq
              replace f9 : ORow w7 (g + 3) 3 A9 fs.length c9 (I64 fs) := by rw [hww]; exact f9.drewN nq
              have hz7 : w7.heap.size = w6.heap.size := by rw [hww]; rfl
              replace HB6 : Below g w w7 := by rw [hww]; exact below_drewN HB6 nq
              replace RX6 : Hid (Rd w7 B A n1 (I64 E)) := by rw [hww]; exact Lib.hid (RX6.out.drewN nq)
              replace RP6 : Hid (Rd w7 B P m1 (Tx ts)) := by rw [hww]; exact Lib.hid (RP6.out.drewN nq)
              replace hB6 : B ≤ w7.heap.size := by omega
              replace hGw6 : G < w7.heap.size := by omega
              replace hgw6 : g + 1 + 1 < w7.heap.size := by omega
              replace hg6 : g ≤ w7.heap.size := by omega
              clear hz7
              rw [← hww]
              clear hww
              have dd0 : w7.cell? ⟨g + 1, 0, none⟩ = some (.int .i64 1) := KD.cell 0
              have dd1 : w7.cell? ⟨g + 1, 1, none⟩ = some (.int .i64 dn) := KD.cell 1
              have dd2 : w7.cell? ⟨g + 1, 2, none⟩ = some (.string (Ba t)) := KD.cell 2
              have a0 : w7.cell? ⟨g, 0, none⟩ = some (.int .i64 k) := K0.cell 0
              have x0 : w7.cell? ⟨G, 0, none⟩ = some (.int .i64 k) := KX.cell 0
              have g0 : w7.cell? ⟨g + 1 + 1, 0, none⟩ = some (.int .i64 0) := K1.cell 0
              have e0 : w7.frozen? ⟨g + 1 + 1, 0, none⟩ = false := K1.frozen 0
              have y0 : w7.frozen? ⟨G, 0, none⟩ = false := KX.frozen 0
              have a1 : w7.cell? ⟨g, 1, none⟩ = some (.int .i64 x) := K0.cell 1
              have x1 : w7.cell? ⟨G, 1, none⟩ = some (.int .i64 x) := KX.cell 1
              have g1 : w7.cell? ⟨g + 1 + 1, 1, none⟩ = some (.int .i64 0) := K1.cell 1
              have e1 : w7.frozen? ⟨g + 1 + 1, 1, none⟩ = false := K1.frozen 1
              have y1 : w7.frozen? ⟨G, 1, none⟩ = false := KX.frozen 1
              have a2 : w7.cell? ⟨g, 2, none⟩ = some (.int .i64 y) := K0.cell 2
              have x2 : w7.cell? ⟨G, 2, none⟩ = some (.int .i64 y) := KX.cell 2
              have g2 : w7.cell? ⟨g + 1 + 1, 2, none⟩ = some (.int .i64 0) := K1.cell 2
              have e2 : w7.frozen? ⟨g + 1 + 1, 2, none⟩ = false := K1.frozen 2
              have y2 : w7.frozen? ⟨G, 2, none⟩ = false := KX.frozen 2
              have a3 : w7.cell? ⟨g, 3, none⟩ = some (.slice A n1 c) := K0.cell 3
              have x3 : w7.cell? ⟨G, 3, none⟩ = some (.slice A1 n1 c1) := KX.cell 3
              have g3 : w7.cell? ⟨g + 1 + 1, 3, none⟩ = some (.slice none 0 0) := K1.cell 3
              have e3 : w7.frozen? ⟨g + 1 + 1, 3, none⟩ = false := K1.frozen 3
              have y3 : w7.frozen? ⟨G, 3, none⟩ = false := KX.frozen 3
              have a4 : w7.cell? ⟨g, 4, none⟩ = some (.slice P m1 d) := K0.cell 4
              have x4 : w7.cell? ⟨G, 4, none⟩ = some (.slice P1 m1 d1) := KX.cell 4
              have g4 : w7.cell? ⟨g + 1 + 1, 4, none⟩ = some (.slice none 0 0) := K1.cell 4
              have e4 : w7.frozen? ⟨g + 1 + 1, 4, none⟩ = false := K1.frozen 4
              have y4 : w7.frozen? ⟨G, 4, none⟩ = false := KX.frozen 4
              go_wp2_with (with_reducible refine AtEnd.of ?_)
              have KF := put5_blk (v0 := .int .i64 k) (v1 := .int .i64 x) (v2 := .int .i64 y) (v3 := .slice A1 n1 c1) (v4 := .slice P1 m1 d1) (K1)
              have HBF := put5_below (v0 := .int .i64 k) (v1 := .int .i64 x) (v2 := .int .i64 y) (v3 := .slice A1 n1 c1) (v4 := .slice P1 m1 d1) (HB6) (show g ≤ g + 1 + 1 by omega)
              have oF := put5_orow (r := g + 1 + 1) (v0 := .int .i64 k) (v1 := .int .i64 x) (v2 := .int .i64 y) (v3 := .slice A1 n1 c1) (v4 := .slice P1 m1 d1) (o6) (by omega)
              have pF := put5_orow (r := g + 1 + 1) (v0 := .int .i64 k) (v1 := .int .i64 x) (v2 := .int .i64 y) (v3 := .slice A1 n1 c1) (v4 := .slice P1 m1 d1) (p6) (by omega)
              obtain ⟨wf, hwf⟩ : ∃ wf, wf = put5 (w7) (g + 1 + 1) (.int .i64 k) (.int .i64 x) (.int .i64 y) (.slice A1 n1 c1) (.slice P1 m1 d1) := ⟨_, rfl⟩
              rw [← hwf] at KF HBF oF pF
              simp only [put5] at hwf
              rw [← hwf]
              clear hwf
              refine atEnd_ret (results_cell_tmp Tryz.results44 rfl (load_bench KF) rfl) rfl ?_
              rw [Pl.doB_none HV.out (Pl.st1_f hW.out)]
              exact ⟨_, rfl, ⟨A1, P1, n1, c1, m1, d1, rfl, oF.mono (by omega), pF.mono (by omega)⟩, by first | exact HBF | (rw [hg]; exact HBF)⟩
            · go_wp2_with (with_reducible refine AtEnd.of ?_)
              have KF := put5_blk (v0 := .int .i64 k) (v1 := .int .i64 x) (v2 := .int .i64 dn) (v3 := .slice A1 n1 c1) (v4 := .slice P1 m1 d1) (K1.far (p := ⟨G, 2, none⟩) (Ne.symm hgG) (.int .i64 dn))
              have HBF := put5_below (v0 := .int .i64 k) (v1 := .int .i64 x) (v2 := .int .i64 dn) (v3 := .slice A1 n1 c1) (v4 := .slice P1 m1 d1) (HB6.setCell (p := ⟨G, 2, none⟩) hgGl (.int .i64 dn)) (show g ≤ g + 1 + 1 by omega)
              have oF := put5_orow (r := g + 1 + 1) (v0 := .int .i64 k) (v1 := .int .i64 x) (v2 := .int .i64 dn) (v3 := .slice A1 n1 c1) (v4 := .slice P1 m1 d1) (o6.set_blk (o := 2) KX (by decide) (.int .i64 dn)) (by omega)
              have pF := put5_orow (r := g + 1 + 1) (v0 := .int .i64 k) (v1 := .int .i64 x) (v2 := .int .i64 dn) (v3 := .slice A1 n1 c1) (v4 := .slice P1 m1 d1) (p6.set_blk (o := 2) KX (by decide) (.int .i64 dn)) (by omega)
              obtain ⟨wf, hwf⟩ : ∃ wf, wf = put5 (w6.setCell ⟨G, 2, none⟩ (.int .i64 dn)) (g + 1 + 1) (.int .i64 k) (.int .i64 x) (.int .i64 dn) (.slice A1 n1 c1) (.slice P1 m1 d1) := ⟨_, rfl⟩
              rw [← hwf] at KF HBF oF pF
              simp only [put5] at hwf
              rw [← hwf]
              clear hwf
              refine atEnd_ret (results_cell_tmp Tryz.results44 rfl (load_bench KF) rfl) rfl ?_
              rw [Pl.doB_some HV.out (Pl.st1_t hW.out)]
              exact ⟨_, rfl, ⟨A1, P1, n1, c1, m1, d1, rfl, oF.mono (by omega), pF.mono (by omega)⟩, by first | exact HBF | (rw [hg]; exact HBF)⟩
          · skip
            by_cases hdn : dn = 0
            · subst hdn
              cases ok
              · go_wp2_with (with_reducible refine AtEnd.of ?_)
                have hd3 : ((2 : Int) == 3) = false := rfl
                clear a3 a4
                go_quiet (fail)
                have a3 := True.intro
                have a4 := True.intro
                clear dd0 dd1 dd2 a0 a1 a2 a3 a4 x0 x1 x2 x3 x4 g0 g1 g2 g3 g4 e0 e1 e2 e3 e4 y0 y1 y2 y3 y4
                obtain ⟨w7, hww⟩ : ∃ v, v = w6.drewN nq := ⟨_, rfl⟩
                replace K0 : Blk w7 g 44 #[.int .i64 k, .int .i64 x, .int .i64 y, .slice A n1 c, .slice P m1 d] := by rw [hww]; exact K0.drewN nq
                replace KX : Blk w7 G 44 #[.int .i64 k, .int .i64 x, .int .i64 y, .slice A1 n1 c1, .slice P1 m1 d1] := by rw [hww]; exact KX.drewN nq
                replace K1 : Blk w7 (g + 1 + 1) 44 #[.int .i64 0, .int .i64 0, .int .i64 0, .slice none 0 0, .slice none 0 0] := by rw [hww]; exact K1.drewN nq
                replace KD : Blk w7 (g + 1) 24 #[.int .i64 2, .int .i64 0, .string (Ba t)] := by rw [hww]; exact KD.drewN nq
                replace o6 : ORow w7 (g + 3) 3 A1 n1 c1 (I64 E) := by rw [hww]; exact o6.drewN nq
                replace p6 : ORow w7 (g + 3) 9 P1 m1 d1 (Tx ts) := by rw [hww]; exact p6.drewN nq
                replace f6 : ORow w7 (g + 3) 3 A4 ys.length c4 (I64 ys) := by rw [hww]; exact f6.drewN nq
                replace f9 : ORow w7 (g + 3) 3 A9 fs.length c9 (I64 fs) := by rw [hww]; exact f9.drewN nq
                have hz7 : w7.heap.size = w6.heap.size := by rw [hww]; rfl
                replace HB6 : Below g w w7 := by rw [hww]; exact below_drewN HB6 nq
                replace RX6 : Hid (Rd w7 B A n1 (I64 E)) := by rw [hww]; exact Lib.hid (RX6.out.drewN nq)
                replace RP6 : Hid (Rd w7 B P m1 (Tx ts)) := by rw [hww]; exact Lib.hid (RP6.out.drewN nq)
                replace hB6 : B ≤ w7.heap.size := by omega
                replace hGw6 : G < w7.heap.size := by omega
                replace hgw6 : g + 1 + 1 < w7.heap.size := by omega
                replace hg6 : g ≤ w7.heap.size := by omega
                clear hz7
                rw [← hww]
                clear hww
                have dd0 : w7.cell? ⟨g + 1, 0, none⟩ = some (.int .i64 2) := KD.cell 0
                have dd1 : w7.cell? ⟨g + 1, 1, none⟩ = some (.int .i64 0) := KD.cell 1
                have dd2 : w7.cell? ⟨g + 1, 2, none⟩ = some (.string (Ba t)) := KD.cell 2
                have a0 : w7.cell? ⟨g, 0, none⟩ = some (.int .i64 k) := K0.cell 0
                have x0 : w7.cell? ⟨G, 0, none⟩ = some (.int .i64 k) := KX.cell 0
                have g0 : w7.cell? ⟨g + 1 + 1, 0, none⟩ = some (.int .i64 0) := K1.cell 0
                have e0 : w7.frozen? ⟨g + 1 + 1, 0, none⟩ = false := K1.frozen 0
                have y0 : w7.frozen? ⟨G, 0, none⟩ = false := KX.frozen 0
                have a1 : w7.cell? ⟨g, 1, none⟩ = some (.int .i64 x) := K0.cell 1
                have x1 : w7.cell? ⟨G, 1, none⟩ = some (.int .i64 x) := KX.cell 1
                have g1 : w7.cell? ⟨g + 1 + 1, 1, none⟩ = some (.int .i64 0) := K1.cell 1
                have e1 : w7.frozen? ⟨g + 1 + 1, 1, none⟩ = false := K1.frozen 1
                have y1 : w7.frozen? ⟨G, 1, none⟩ = false := KX.frozen 1
                have a2 : w7.cell? ⟨g, 2, none⟩ = some (.int .i64 y) := K0.cell 2
                have x2 : w7.cell? ⟨G, 2, none⟩ = some (.int .i64 y) := KX.cell 2
                have g2 : w7.cell? ⟨g + 1 + 1, 2, none⟩ = some (.int .i64 0) := K1.cell 2
                have e2 : w7.frozen? ⟨g + 1 + 1, 2, none⟩ = false := K1.frozen 2
                have y2 : w7.frozen? ⟨G, 2, none⟩ = false := KX.frozen 2
                have a3 : w7.cell? ⟨g, 3, none⟩ = some (.slice A n1 c) := K0.cell 3
                have x3 : w7.cell? ⟨G, 3, none⟩ = some (.slice A1 n1 c1) := KX.cell 3
                have g3 : w7.cell? ⟨g + 1 + 1, 3, none⟩ = some (.slice none 0 0) := K1.cell 3
                have e3 : w7.frozen? ⟨g + 1 + 1, 3, none⟩ = false := K1.frozen 3
                have y3 : w7.frozen? ⟨G, 3, none⟩ = false := KX.frozen 3
                have a4 : w7.cell? ⟨g, 4, none⟩ = some (.slice P m1 d) := K0.cell 4
                have x4 : w7.cell? ⟨G, 4, none⟩ = some (.slice P1 m1 d1) := KX.cell 4
                have g4 : w7.cell? ⟨g + 1 + 1, 4, none⟩ = some (.slice none 0 0) := K1.cell 4
                have e4 : w7.frozen? ⟨g + 1 + 1, 4, none⟩ = false := K1.frozen 4
                have y4 : w7.frozen? ⟨G, 4, none⟩ = false := KX.frozen 4
                go_wp2_with (with_reducible refine AtEnd.of ?_)
                have KF := put5_blk (v0 := .int .i64 k) (v1 := .int .i64 x) (v2 := .int .i64 y) (v3 := .slice A1 n1 c1) (v4 := .slice P1 m1 d1) (K1)
                have HBF := put5_below (v0 := .int .i64 k) (v1 := .int .i64 x) (v2 := .int .i64 y) (v3 := .slice A1 n1 c1) (v4 := .slice P1 m1 d1) (HB6) (show g ≤ g + 1 + 1 by omega)
                have oF := put5_orow (r := g + 1 + 1) (v0 := .int .i64 k) (v1 := .int .i64 x) (v2 := .int .i64 y) (v3 := .slice A1 n1 c1) (v4 := .slice P1 m1 d1) (o6) (by omega)
                have pF := put5_orow (r := g + 1 + 1) (v0 := .int .i64 k) (v1 := .int .i64 x) (v2 := .int .i64 y) (v3 := .slice A1 n1 c1) (v4 := .slice P1 m1 d1) (p6) (by omega)
                obtain ⟨wf, hwf⟩ : ∃ wf, wf = put5 (w7) (g + 1 + 1) (.int .i64 k) (.int .i64 x) (.int .i64 y) (.slice A1 n1 c1) (.slice P1 m1 d1) := ⟨_, rfl⟩
                rw [← hwf] at KF HBF oF pF
                simp only [put5] at hwf
                rw [← hwf]
                clear hwf
                refine atEnd_ret (results_cell_tmp Tryz.results44 rfl (load_bench KF) rfl) rfl ?_
                rw [Pl.doB_none HV.out (Pl.st2_r (Pl.getD_none HOK.out rfl))]
                exact ⟨_, rfl, ⟨A1, P1, n1, c1, m1, d1, rfl, oF.mono (by omega), pF.mono (by omega)⟩, by first | exact HBF | (rw [hg]; exact HBF)⟩
              · have HYE := Lib.hid (Pl.getD_some HOK.out rfl HYS.out)
                have hyl := ys_len HYS.out
                go_wp2_with (with_reducible refine AtEnd.of ?_)
                refine (spec_l10Equal A4 A ys.length n1 c4 c w6.heap.size ys E _ f6.rd (RX6.out.more hB6) (by omega) (by omega)).mono ?_
                by_cases hye : ys = E
                · have HE := Lib.hid hye
                  rw [decide_eq_true hye]
                  clear hye
                  rintro e v7 ⟨rfl, q, rfl⟩
                  clear dd0 dd1 dd2 a0 a1 a2 a3 a4 x0 x1 x2 x3 x4 g0 g1 g2 g3 g4 e0 e1 e2 e3 e4 y0 y1 y2 y3 y4
                  obtain ⟨w7, hww⟩ : ∃ v, v = w6.drewN q := ⟨_, rfl⟩
                  replace K0 : Blk w7 g 44 #[.int .i64 k, .int .i64 x, .int .i64 y, .slice A n1 c, .slice P m1 d] := by rw [hww]; exact K0.drewN q
                  replace KX : Blk w7 G 44 #[.int .i64 k, .int .i64 x, .int .i64 y, .slice A1 n1 c1, .slice P1 m1 d1] := by rw [hww]; exact KX.drewN q
                  replace K1 : Blk w7 (g + 1 + 1) 44 #[.int .i64 0, .int .i64 0, .int .i64 0, .slice none 0 0, .slice none 0 0] := by rw [hww]; exact K1.drewN q
                  replace KD : Blk w7 (g + 1) 24 #[.int .i64 2, .int .i64 0, .string (Ba t)] := by rw [hww]; exact KD.drewN q
                  replace o6 : ORow w7 (g + 3) 3 A1 n1 c1 (I64 E) := by rw [hww]; exact o6.drewN q
                  replace p6 : ORow w7 (g + 3) 9 P1 m1 d1 (Tx ts) := by rw [hww]; exact p6.drewN q
                  replace f6 : ORow w7 (g + 3) 3 A4 ys.length c4 (I64 ys) := by rw [hww]; exact f6.drewN q
                  replace f9 : ORow w7 (g + 3) 3 A9 fs.length c9 (I64 fs) := by rw [hww]; exact f9.drewN q
                  have hz7 : w7.heap.size = w6.heap.size := by rw [hww]; rfl
                  replace HB6 : Below g w w7 := by rw [hww]; exact below_drewN HB6 q
                  replace RX6 : Hid (Rd w7 B A n1 (I64 E)) := by rw [hww]; exact Lib.hid (RX6.out.drewN q)
                  replace RP6 : Hid (Rd w7 B P m1 (Tx ts)) := by rw [hww]; exact Lib.hid (RP6.out.drewN q)
                  replace hB6 : B ≤ w7.heap.size := by omega
                  replace hGw6 : G < w7.heap.size := by omega
                  replace hgw6 : g + 1 + 1 < w7.heap.size := by omega
                  replace hg6 : g ≤ w7.heap.size := by omega
                  clear hz7
                  rw [← hww]
                  clear hww
                  have dd0 : w7.cell? ⟨g + 1, 0, none⟩ = some (.int .i64 2) := KD.cell 0
                  have dd1 : w7.cell? ⟨g + 1, 1, none⟩ = some (.int .i64 0) := KD.cell 1
                  have dd2 : w7.cell? ⟨g + 1, 2, none⟩ = some (.string (Ba t)) := KD.cell 2
                  have a0 : w7.cell? ⟨g, 0, none⟩ = some (.int .i64 k) := K0.cell 0
                  have x0 : w7.cell? ⟨G, 0, none⟩ = some (.int .i64 k) := KX.cell 0
                  have g0 : w7.cell? ⟨g + 1 + 1, 0, none⟩ = some (.int .i64 0) := K1.cell 0
                  have e0 : w7.frozen? ⟨g + 1 + 1, 0, none⟩ = false := K1.frozen 0
                  have y0 : w7.frozen? ⟨G, 0, none⟩ = false := KX.frozen 0
                  have a1 : w7.cell? ⟨g, 1, none⟩ = some (.int .i64 x) := K0.cell 1
                  have x1 : w7.cell? ⟨G, 1, none⟩ = some (.int .i64 x) := KX.cell 1
                  have g1 : w7.cell? ⟨g + 1 + 1, 1, none⟩ = some (.int .i64 0) := K1.cell 1
                  have e1 : w7.frozen? ⟨g + 1 + 1, 1, none⟩ = false := K1.frozen 1
                  have y1 : w7.frozen? ⟨G, 1, none⟩ = false := KX.frozen 1
                  have a2 : w7.cell? ⟨g, 2, none⟩ = some (.int .i64 y) := K0.cell 2
                  have x2 : w7.cell? ⟨G, 2, none⟩ = some (.int .i64 y) := KX.cell 2
                  have g2 : w7.cell? ⟨g + 1 + 1, 2, none⟩ = some (.int .i64 0) := K1.cell 2
                  have e2 : w7.frozen? ⟨g + 1 + 1, 2, none⟩ = false := K1.frozen 2
                  have y2 : w7.frozen? ⟨G, 2, none⟩ = false := KX.frozen 2
                  have a3 : w7.cell? ⟨g, 3, none⟩ = some (.slice A n1 c) := K0.cell 3
                  have x3 : w7.cell? ⟨G, 3, none⟩ = some (.slice A1 n1 c1) := KX.cell 3
                  have g3 : w7.cell? ⟨g + 1 + 1, 3, none⟩ = some (.slice none 0 0) := K1.cell 3
                  have e3 : w7.frozen? ⟨g + 1 + 1, 3, none⟩ = false := K1.frozen 3
                  have y3 : w7.frozen? ⟨G, 3, none⟩ = false := KX.frozen 3
                  have a4 : w7.cell? ⟨g, 4, none⟩ = some (.slice P m1 d) := K0.cell 4
                  have x4 : w7.cell? ⟨G, 4, none⟩ = some (.slice P1 m1 d1) := KX.cell 4
                  have g4 : w7.cell? ⟨g + 1 + 1, 4, none⟩ = some (.slice none 0 0) := K1.cell 4
                  have e4 : w7.frozen? ⟨g + 1 + 1, 4, none⟩ = false := K1.frozen 4
                  have y4 : w7.frozen? ⟨G, 4, none⟩ = false := KX.frozen 4
                  go_wp2_with (with_reducible refine AtEnd.of ?_)
                  have hd3 : ((2 : Int) == 3) = false := rfl
                  clear a3 a4
                  go_quiet (fail)
                  have a3 := True.intro
                  have a4 := True.intro
                  clear dd0 dd1 dd2 a0 a1 a2 a3 a4 x0 x1 x2 x3 x4 g0 g1 g2 g3 g4 e0 e1 e2 e3 e4 y0 y1 y2 y3 y4
                  obtain ⟨w8, hww⟩ : ∃ v, v = w7.drewN nq := ⟨_, rfl⟩
                  replace K0 : Blk w8 g 44 #[.int .i64 k, .int .i64 x, .int .i64 y, .slice A n1 c, .slice P m1 d] := by rw [hww]; exact K0.drewN nq
                  replace KX : Blk w8 G 44 #[.int .i64 k, .int .i64 x, .int .i64 y, .slice A1 n1 c1, .slice P1 m1 d1] := by rw [hww]; exact KX.drewN nq
                  replace K1 : Blk w8 (g + 1 + 1) 44 #[.int .i64 0, .int .i64 0, .int .i64 0, .slice none 0 0, .slice none 0 0] := by rw [hww]; exact K1.drewN nq
                  replace KD : Blk w8 (g + 1) 24 #[.int .i64 2, .int .i64 0, .string (Ba t)] := by rw [hww]; exact KD.drewN nq
                  replace o6 : ORow w8 (g + 3) 3 A1 n1 c1 (I64 E) := by rw [hww]; exact o6.drewN nq
                  replace p6 : ORow w8 (g + 3) 9 P1 m1 d1 (Tx ts) := by rw [hww]; exact p6.drewN nq
                  replace f6 : ORow w8 (g + 3) 3 A4 ys.length c4 (I64 ys) := by rw [hww]; exact f6.drewN nq
                  replace f9 : ORow w8 (g + 3) 3 A9 fs.length c9 (I64 fs) := by rw [hww]; exact f9.drewN nq
                  have hz8 : w8.heap.size = w7.heap.size := by rw [hww]; rfl
                  replace HB6 : Below g w w8 := by rw [hww]; exact below_drewN HB6 nq
                  replace RX6 : Hid (Rd w8 B A n1 (I64 E)) := by rw [hww]; exact Lib.hid (RX6.out.drewN nq)
                  replace RP6 : Hid (Rd w8 B P m1 (Tx ts)) := by rw [hww]; exact Lib.hid (RP6.out.drewN nq)
                  replace hB6 : B ≤ w8.heap.size := by omega
                  replace hGw6 : G < w8.heap.size := by omega
                  replace hgw6 : g + 1 + 1 < w8.heap.size := by omega
                  replace hg6 : g ≤ w8.heap.size := by omega
                  clear hz8
                  rw [← hww]
                  clear hww
                  have dd0 : w8.cell? ⟨g + 1, 0, none⟩ = some (.int .i64 2) := KD.cell 0
                  have dd1 : w8.cell? ⟨g + 1, 1, none⟩ = some (.int .i64 0) := KD.cell 1
                  have dd2 : w8.cell? ⟨g + 1, 2, none⟩ = some (.string (Ba t)) := KD.cell 2
                  have a0 : w8.cell? ⟨g, 0, none⟩ = some (.int .i64 k) := K0.cell 0
                  have x0 : w8.cell? ⟨G, 0, none⟩ = some (.int .i64 k) := KX.cell 0
                  have g0 : w8.cell? ⟨g + 1 + 1, 0, none⟩ = some (.int .i64 0) := K1.cell 0
                  have e0 : w8.frozen? ⟨g + 1 + 1, 0, none⟩ = false := K1.frozen 0
                  have y0 : w8.frozen? ⟨G, 0, none⟩ = false := KX.frozen 0
                  have a1 : w8.cell? ⟨g, 1, none⟩ = some (.int .i64 x) := K0.cell 1
                  have x1 : w8.cell? ⟨G, 1, none⟩ = some (.int .i64 x) := KX.cell 1
                  have g1 : w8.cell? ⟨g + 1 + 1, 1, none⟩ = some (.int .i64 0) := K1.cell 1
                  have e1 : w8.frozen? ⟨g + 1 + 1, 1, none⟩ = false := K1.frozen 1
                  have y1 : w8.frozen? ⟨G, 1, none⟩ = false := KX.frozen 1
                  have a2 : w8.cell? ⟨g, 2, none⟩ = some (.int .i64 y) := K0.cell 2
                  have x2 : w8.cell? ⟨G, 2, none⟩ = some (.int .i64 y) := KX.cell 2
                  have g2 : w8.cell? ⟨g + 1 + 1, 2, none⟩ = some (.int .i64 0) := K1.cell 2
                  have e2 : w8.frozen? ⟨g + 1 + 1, 2, none⟩ = false := K1.frozen 2
                  have y2 : w8.frozen? ⟨G, 2, none⟩ = false := KX.frozen 2
                  have a3 : w8.cell? ⟨g, 3, none⟩ = some (.slice A n1 c) := K0.cell 3
                  have x3 : w8.cell? ⟨G, 3, none⟩ = some (.slice A1 n1 c1) := KX.cell 3
                  have g3 : w8.cell? ⟨g + 1 + 1, 3, none⟩ = some (.slice none 0 0) := K1.cell 3
                  have e3 : w8.frozen? ⟨g + 1 + 1, 3, none⟩ = false := K1.frozen 3
                  have y3 : w8.frozen? ⟨G, 3, none⟩ = false := KX.frozen 3
                  have a4 : w8.cell? ⟨g, 4, none⟩ = some (.slice P m1 d) := K0.cell 4
                  have x4 : w8.cell? ⟨G, 4, none⟩ = some (.slice P1 m1 d1) := KX.cell 4
                  have g4 : w8.cell? ⟨g + 1 + 1, 4, none⟩ = some (.slice none 0 0) := K1.cell 4
                  have e4 : w8.frozen? ⟨g + 1 + 1, 4, none⟩ = false := K1.frozen 4
                  have y4 : w8.frozen? ⟨G, 4, none⟩ = false := KX.frozen 4
                  go_wp2_with (with_reducible refine AtEnd.of ?_)
                  have KF := put5_blk (v0 := .int .i64 k) (v1 := .int .i64 x) (v2 := .int .i64 y) (v3 := .slice A1 n1 c1) (v4 := .slice P1 m1 d1) (K1)
                  have HBF := put5_below (v0 := .int .i64 k) (v1 := .int .i64 x) (v2 := .int .i64 y) (v3 := .slice A1 n1 c1) (v4 := .slice P1 m1 d1) (HB6) (show g ≤ g + 1 + 1 by omega)
                  have oF := put5_orow (r := g + 1 + 1) (v0 := .int .i64 k) (v1 := .int .i64 x) (v2 := .int .i64 y) (v3 := .slice A1 n1 c1) (v4 := .slice P1 m1 d1) (o6) (by omega)
                  have pF := put5_orow (r := g + 1 + 1) (v0 := .int .i64 k) (v1 := .int .i64 x) (v2 := .int .i64 y) (v3 := .slice A1 n1 c1) (v4 := .slice P1 m1 d1) (p6) (by omega)
                  obtain ⟨wf, hwf⟩ : ∃ wf, wf = put5 (w8) (g + 1 + 1) (.int .i64 k) (.int .i64 x) (.int .i64 y) (.slice A1 n1 c1) (.slice P1 m1 d1) := ⟨_, rfl⟩
                  rw [← hwf] at KF HBF oF pF
                  simp only [put5] at hwf
                  rw [← hwf]
                  clear hwf
                  refine atEnd_ret (results_cell_tmp Tryz.results44 rfl (load_bench KF) rfl) rfl ?_
                  rw [Pl.doB_none HV.out (Pl.st2_e HYE.out HE.out)]
                  exact ⟨_, rfl, ⟨A1, P1, n1, c1, m1, d1, rfl, oF.mono (by omega), pF.mono (by omega)⟩, by first | exact HBF | (rw [hg]; exact HBF)⟩
                · have HE := Lib.hid hye
                  rw [decide_eq_false hye]
                  clear hye
                  rintro e v7 ⟨rfl, q, rfl⟩
                  clear dd0 dd1 dd2 a0 a1 a2 a3 a4 x0 x1 x2 x3 x4 g0 g1 g2 g3 g4 e0 e1 e2 e3 e4 y0 y1 y2 y3 y4
                  obtain ⟨w7, hww⟩ : ∃ v, v = w6.drewN q := ⟨_, rfl⟩
                  replace K0 : Blk w7 g 44 #[.int .i64 k, .int .i64 x, .int .i64 y, .slice A n1 c, .slice P m1 d] := by rw [hww]; exact K0.drewN q
                  replace KX : Blk w7 G 44 #[.int .i64 k, .int .i64 x, .int .i64 y, .slice A1 n1 c1, .slice P1 m1 d1] := by rw [hww]; exact KX.drewN q
                  replace K1 : Blk w7 (g + 1 + 1) 44 #[.int .i64 0, .int .i64 0, .int .i64 0, .slice none 0 0, .slice none 0 0] := by rw [hww]; exact K1.drewN q
                  replace KD : Blk w7 (g + 1) 24 #[.int .i64 2, .int .i64 0, .string (Ba t)] := by rw [hww]; exact KD.drewN q
                  replace o6 : ORow w7 (g + 3) 3 A1 n1 c1 (I64 E) := by rw [hww]; exact o6.drewN q
                  replace p6 : ORow w7 (g + 3) 9 P1 m1 d1 (Tx ts) := by rw [hww]; exact p6.drewN q
                  replace f6 : ORow w7 (g + 3) 3 A4 ys.length c4 (I64 ys) := by rw [hww]; exact f6.drewN q
                  replace f9 : ORow w7 (g + 3) 3 A9 fs.length c9 (I64 fs) := by rw [hww]; exact f9.drewN q
                  have hz7 : w7.heap.size = w6.heap.size := by rw [hww]; rfl
                  replace HB6 : Below g w w7 := by rw [hww]; exact below_drewN HB6 q
                  replace RX6 : Hid (Rd w7 B A n1 (I64 E)) := by rw [hww]; exact Lib.hid (RX6.out.drewN q)
                  replace RP6 : Hid (Rd w7 B P m1 (Tx ts)) := by rw [hww]; exact Lib.hid (RP6.out.drewN q)
                  replace hB6 : B ≤ w7.heap.size := by omega
                  replace hGw6 : G < w7.heap.size := by omega
                  replace hgw6 : g + 1 + 1 < w7.heap.size := by omega
                  replace hg6 : g ≤ w7.heap.size := by omega
                  clear hz7
                  rw [← hww]
                  clear hww
                  have dd0 : w7.cell? ⟨g + 1, 0, none⟩ = some (.int .i64 2) := KD.cell 0
                  have dd1 : w7.cell? ⟨g + 1, 1, none⟩ = some (.int .i64 0) := KD.cell 1
                  have dd2 : w7.cell? ⟨g + 1, 2, none⟩ = some (.string (Ba t)) := KD.cell 2
                  have a0 : w7.cell? ⟨g, 0, none⟩ = some (.int .i64 k) := K0.cell 0
                  have x0 : w7.cell? ⟨G, 0, none⟩ = some (.int .i64 k) := KX.cell 0
                  have g0 : w7.cell? ⟨g + 1 + 1, 0, none⟩ = some (.int .i64 0) := K1.cell 0
                  have e0 : w7.frozen? ⟨g + 1 + 1, 0, none⟩ = false := K1.frozen 0
                  have y0 : w7.frozen? ⟨G, 0, none⟩ = false := KX.frozen 0
                  have a1 : w7.cell? ⟨g, 1, none⟩ = some (.int .i64 x) := K0.cell 1
                  have x1 : w7.cell? ⟨G, 1, none⟩ = some (.int .i64 x) := KX.cell 1
                  have g1 : w7.cell? ⟨g + 1 + 1, 1, none⟩ = some (.int .i64 0) := K1.cell 1
                  have e1 : w7.frozen? ⟨g + 1 + 1, 1, none⟩ = false := K1.frozen 1
                  have y1 : w7.frozen? ⟨G, 1, none⟩ = false := KX.frozen 1
                  have a2 : w7.cell? ⟨g, 2, none⟩ = some (.int .i64 y) := K0.cell 2
                  have x2 : w7.cell? ⟨G, 2, none⟩ = some (.int .i64 y) := KX.cell 2
                  have g2 : w7.cell? ⟨g + 1 + 1, 2, none⟩ = some (.int .i64 0) := K1.cell 2
                  have e2 : w7.frozen? ⟨g + 1 + 1, 2, none⟩ = false := K1.frozen 2
                  have y2 : w7.frozen? ⟨G, 2, none⟩ = false := KX.frozen 2
                  have a3 : w7.cell? ⟨g, 3, none⟩ = some (.slice A n1 c) := K0.cell 3
                  have x3 : w7.cell? ⟨G, 3, none⟩ = some (.slice A1 n1 c1) := KX.cell 3
                  have g3 : w7.cell? ⟨g + 1 + 1, 3, none⟩ = some (.slice none 0 0) := K1.cell 3
                  have e3 : w7.frozen? ⟨g + 1 + 1, 3, none⟩ = false := K1.frozen 3
                  have y3 : w7.frozen? ⟨G, 3, none⟩ = false := KX.frozen 3
                  have a4 : w7.cell? ⟨g, 4, none⟩ = some (.slice P m1 d) := K0.cell 4
                  have x4 : w7.cell? ⟨G, 4, none⟩ = some (.slice P1 m1 d1) := KX.cell 4
                  have g4 : w7.cell? ⟨g + 1 + 1, 4, none⟩ = some (.slice none 0 0) := K1.cell 4
                  have e4 : w7.frozen? ⟨g + 1 + 1, 4, none⟩ = false := K1.frozen 4
                  have y4 : w7.frozen? ⟨G, 4, none⟩ = false := KX.frozen 4
                  go_wp2_with (with_reducible refine AtEnd.of ?_)
                  refine (spec_l10Set ⟨k, x, y, E, ts⟩ A P n1 c m1 d w7.heap.size A4 ys.length c4 ys _ (RX6.out.more hB6) (RP6.out.more hB6) f6.rd (by exact Nat.le_refl _) (by omega) (by omega) (by omega) hnc).mono ?_
                  rintro e ws ⟨v, rfl, ⟨A7, P7, n7, c7, m7, d7, rfl, o7, p7⟩, hb7⟩
                  have hzs := hb7.size
                  have HB7 := HB6.trans (hb7.mono (by exact hg6))
                  have K1s := K1.below hb7 (by exact hgw6)
                  have KXs := KX.below hb7 (by exact hGw6)
                  clear dd0 dd1 dd2 a0 a1 a2 a3 a4 x0 x1 x2 x3 x4 g0 g1 g2 g3 g4 e0 e1 e2 e3 e4 y0 y1 y2 y3 y4
                  have e0 : ws.frozen? ⟨g + 1 + 1, 0, none⟩ = false := K1s.frozen 0
                  have y0 : ws.frozen? ⟨G, 0, none⟩ = false := KXs.frozen 0
                  have x0 : ws.cell? ⟨G, 0, none⟩ = some (.int .i64 k) := KXs.cell 0
                  have g0 : ws.cell? ⟨g + 1 + 1, 0, none⟩ = some (.int .i64 0) := K1s.cell 0
                  have e1 : ws.frozen? ⟨g + 1 + 1, 1, none⟩ = false := K1s.frozen 1
                  have y1 : ws.frozen? ⟨G, 1, none⟩ = false := KXs.frozen 1
                  have x1 : ws.cell? ⟨G, 1, none⟩ = some (.int .i64 x) := KXs.cell 1
                  have g1 : ws.cell? ⟨g + 1 + 1, 1, none⟩ = some (.int .i64 0) := K1s.cell 1
                  have e2 : ws.frozen? ⟨g + 1 + 1, 2, none⟩ = false := K1s.frozen 2
                  have y2 : ws.frozen? ⟨G, 2, none⟩ = false := KXs.frozen 2
                  have x2 : ws.cell? ⟨G, 2, none⟩ = some (.int .i64 y) := KXs.cell 2
                  have g2 : ws.cell? ⟨g + 1 + 1, 2, none⟩ = some (.int .i64 0) := K1s.cell 2
                  have e3 : ws.frozen? ⟨g + 1 + 1, 3, none⟩ = false := K1s.frozen 3
                  have y3 : ws.frozen? ⟨G, 3, none⟩ = false := KXs.frozen 3
                  have x3 : ws.cell? ⟨G, 3, none⟩ = some (.slice A1 n1 c1) := KXs.cell 3
                  have g3 : ws.cell? ⟨g + 1 + 1, 3, none⟩ = some (.slice none 0 0) := K1s.cell 3
                  have e4 : ws.frozen? ⟨g + 1 + 1, 4, none⟩ = false := K1s.frozen 4
                  have y4 : ws.frozen? ⟨G, 4, none⟩ = false := KXs.frozen 4
                  have x4 : ws.cell? ⟨G, 4, none⟩ = some (.slice P1 m1 d1) := KXs.cell 4
                  have g4 : ws.cell? ⟨g + 1 + 1, 4, none⟩ = some (.slice none 0 0) := K1s.cell 4
                  unfold benchV Pl.setB
                  go_wp2_with (with_reducible refine AtEnd.of ?_)
                  have KF := put5_blk (v0 := .int .i64 k) (v1 := .int .i64 x) (v2 := .int .i64 y) (v3 := .slice A7 n7 c7) (v4 := .slice P7 m7 d7) (put5_far (v0 := .int .i64 k) (v1 := .int .i64 x) (v2 := .int .i64 y) (v3 := .slice A7 n7 c7) (v4 := .slice P7 m7 d7) (by exact hgG) K1s)
                  have HBF := put5_below (v0 := .int .i64 k) (v1 := .int .i64 x) (v2 := .int .i64 y) (v3 := .slice A7 n7 c7) (v4 := .slice P7 m7 d7) (put5_below (v0 := .int .i64 k) (v1 := .int .i64 x) (v2 := .int .i64 y) (v3 := .slice A7 n7 c7) (v4 := .slice P7 m7 d7) HB7 (by exact hgGl)) (show g ≤ g + 1 + 1 by omega)
                  have oF := put5_orow (r := g + 1 + 1) (v0 := .int .i64 k) (v1 := .int .i64 x) (v2 := .int .i64 y) (v3 := .slice A7 n7 c7) (v4 := .slice P7 m7 d7) (put5_orow (v0 := .int .i64 k) (v1 := .int .i64 x) (v2 := .int .i64 y) (v3 := .slice A7 n7 c7) (v4 := .slice P7 m7 d7) o7 (by exact hGw6)) (by omega)
                  have pF := put5_orow (r := g + 1 + 1) (v0 := .int .i64 k) (v1 := .int .i64 x) (v2 := .int .i64 y) (v3 := .slice A7 n7 c7) (v4 := .slice P7 m7 d7) (put5_orow (v0 := .int .i64 k) (v1 := .int .i64 x) (v2 := .int .i64 y) (v3 := .slice A7 n7 c7) (v4 := .slice P7 m7 d7) p7 (by exact hGw6)) (by omega)
                  obtain ⟨wf, hwf⟩ : ∃ wf, wf = put5 (put5 ws G (.int .i64 k) (.int .i64 x) (.int .i64 y) (.slice A7 n7 c7) (.slice P7 m7 d7)) (g + 1 + 1) (.int .i64 k) (.int .i64 x) (.int .i64 y) (.slice A7 n7 c7) (.slice P7 m7 d7) := ⟨_, rfl⟩
                  rw [← hwf] at KF HBF oF pF
                  simp only [put5] at hwf
                  rw [← hwf]
                  clear hwf
                  refine atEnd_ret (results_cell_tmp Tryz.results44 rfl (load_bench KF) rfl) rfl ?_
                  rw [Pl.doB_some HV.out (Pl.st2_t HYE.out HE.out)]
                  exact ⟨_, rfl, ⟨A7, P7, n7, c7, m7, d7, rfl, oF.mono (by omega), pF.mono (by omega)⟩, by first | exact HBF | (rw [hg]; exact HBF)⟩
            · have hdn' : (dn == 0) = false := by rw [beq_eq_false_iff_ne]; exact hdn
              have HN := Lib.hid hdn
              clear hdn
              go_wp2_with (with_reducible refine AtEnd.of ?_)
              have hd3 : ((2 : Int) == 3) = false := rfl
              clear a3 a4
              go_quiet (fail)
              have a3 := True.intro
              have a4 := True.intro
              clear dd0 dd1 dd2 a0 a1 a2 a3 a4 x0 x1 x2 x3 x4 g0 g1 g2 g3 g4 e0 e1 e2 e3 e4 y0 y1 y2 y3 y4
              obtain ⟨w7, hww⟩ : ∃ v, v = w6.drewN nq := ⟨_, rfl⟩
              replace K0 : Blk w7 g 44 #[.int .i64 k, .int .i64 x, .int .i64 y, .slice A n1 c, .slice P m1 d] := by rw [hww]; exact K0.drewN nq
              replace KX : Blk w7 G 44 #[.int .i64 k, .int .i64 x, .int .i64 y, .slice A1 n1 c1, .slice P1 m1 d1] := by rw [hww]; exact KX.drewN nq
              replace K1 : Blk w7 (g + 1 + 1) 44 #[.int .i64 0, .int .i64 0, .int .i64 0, .slice none 0 0, .slice none 0 0] := by rw [hww]; exact K1.drewN nq
              replace KD : Blk w7 (g + 1) 24 #[.int .i64 2, .int .i64 dn, .string (Ba t)] := by rw [hww]; exact KD.drewN nq
              replace o6 : ORow w7 (g + 3) 3 A1 n1 c1 (I64 E) := by rw [hww]; exact o6.drewN nq
              replace p6 : ORow w7 (g + 3) 9 P1 m1 d1 (Tx ts) := by rw [hww]; exact p6.drewN nq
              replace f6 : ORow w7 (g + 3) 3 A4 ys.length c4 (I64 ys) := by rw [hww]; exact f6.drewN nq
              replace f9 : ORow w7 (g + 3) 3 A9 fs.length c9 (I64 fs) := by rw [hww]; exact f9.drewN nq
              have hz7 : w7.heap.size = w6.heap.size := by rw [hww]; rfl
              replace HB6 : Below g w w7 := by rw [hww]; exact below_drewN HB6 nq
              replace RX6 : Hid (Rd w7 B A n1 (I64 E)) := by rw [hww]; exact Lib.hid (RX6.out.drewN nq)
              replace RP6 : Hid (Rd w7 B P m1 (Tx ts)) := by rw [hww]; exact Lib.hid (RP6.out.drewN nq)
              replace hB6 : B ≤ w7.heap.size := by omega
              replace hGw6 : G < w7.heap.size := by omega
              replace hgw6 : g + 1 + 1 < w7.heap.size := by omega
              replace hg6 : g ≤ w7.heap.size := by omega
              clear hz7
              rw [← hww]
              clear hww
              have dd0 : w7.cell? ⟨g + 1, 0, none⟩ = some (.int .i64 2) := KD.cell 0
              have dd1 : w7.cell? ⟨g + 1, 1, none⟩ = some (.int .i64 dn) := KD.cell 1
              have dd2 : w7.cell? ⟨g + 1, 2, none⟩ = some (.string (Ba t)) := KD.cell 2
              have a0 : w7.cell? ⟨g, 0, none⟩ = some (.int .i64 k) := K0.cell 0
              have x0 : w7.cell? ⟨G, 0, none⟩ = some (.int .i64 k) := KX.cell 0
              have g0 : w7.cell? ⟨g + 1 + 1, 0, none⟩ = some (.int .i64 0) := K1.cell 0
              have e0 : w7.frozen? ⟨g + 1 + 1, 0, none⟩ = false := K1.frozen 0
              have y0 : w7.frozen? ⟨G, 0, none⟩ = false := KX.frozen 0
              have a1 : w7.cell? ⟨g, 1, none⟩ = some (.int .i64 x) := K0.cell 1
              have x1 : w7.cell? ⟨G, 1, none⟩ = some (.int .i64 x) := KX.cell 1
              have g1 : w7.cell? ⟨g + 1 + 1, 1, none⟩ = some (.int .i64 0) := K1.cell 1
              have e1 : w7.frozen? ⟨g + 1 + 1, 1, none⟩ = false := K1.frozen 1
              have y1 : w7.frozen? ⟨G, 1, none⟩ = false := KX.frozen 1
              have a2 : w7.cell? ⟨g, 2, none⟩ = some (.int .i64 y) := K0.cell 2
              have x2 : w7.cell? ⟨G, 2, none⟩ = some (.int .i64 y) := KX.cell 2
              have g2 : w7.cell? ⟨g + 1 + 1, 2, none⟩ = some (.int .i64 0) := K1.cell 2
              have e2 : w7.frozen? ⟨g + 1 + 1, 2, none⟩ = false := K1.frozen 2
              have y2 : w7.frozen? ⟨G, 2, none⟩ = false := KX.frozen 2
              have a3 : w7.cell? ⟨g, 3, none⟩ = some (.slice A n1 c) := K0.cell 3
              have x3 : w7.cell? ⟨G, 3, none⟩ = some (.slice A1 n1 c1) := KX.cell 3
              have g3 : w7.cell? ⟨g + 1 + 1, 3, none⟩ = some (.slice none 0 0) := K1.cell 3
              have e3 : w7.frozen? ⟨g + 1 + 1, 3, none⟩ = false := K1.frozen 3
              have y3 : w7.frozen? ⟨G, 3, none⟩ = false := KX.frozen 3
              have a4 : w7.cell? ⟨g, 4, none⟩ = some (.slice P m1 d) := K0.cell 4
              have x4 : w7.cell? ⟨G, 4, none⟩ = some (.slice P1 m1 d1) := KX.cell 4
              have g4 : w7.cell? ⟨g + 1 + 1, 4, none⟩ = some (.slice none 0 0) := K1.cell 4
              have e4 : w7.frozen? ⟨g + 1 + 1, 4, none⟩ = false := K1.frozen 4
              have y4 : w7.frozen? ⟨G, 4, none⟩ = false := KX.frozen 4
              go_wp2_with (with_reducible refine AtEnd.of ?_)
              have KF := put5_blk (v0 := .int .i64 k) (v1 := .int .i64 x) (v2 := .int .i64 y) (v3 := .slice A1 n1 c1) (v4 := .slice P1 m1 d1) (K1)
              have HBF := put5_below (v0 := .int .i64 k) (v1 := .int .i64 x) (v2 := .int .i64 y) (v3 := .slice A1 n1 c1) (v4 := .slice P1 m1 d1) (HB6) (show g ≤ g + 1 + 1 by omega)
              have oF := put5_orow (r := g + 1 + 1) (v0 := .int .i64 k) (v1 := .int .i64 x) (v2 := .int .i64 y) (v3 := .slice A1 n1 c1) (v4 := .slice P1 m1 d1) (o6) (by omega)
              have pF := put5_orow (r := g + 1 + 1) (v0 := .int .i64 k) (v1 := .int .i64 x) (v2 := .int .i64 y) (v3 := .slice A1 n1 c1) (v4 := .slice P1 m1 d1) (p6) (by omega)
              obtain ⟨wf, hwf⟩ : ∃ wf, wf = put5 (w7) (g + 1 + 1) (.int .i64 k) (.int .i64 x) (.int .i64 y) (.slice A1 n1 c1) (.slice P1 m1 d1) := ⟨_, rfl⟩
              rw [← hwf] at KF HBF oF pF
              simp only [put5] at hwf
              rw [← hwf]
              clear hwf
              refine atEnd_ret (results_cell_tmp Tryz.results44 rfl (load_bench KF) rfl) rfl ?_
              rw [Pl.doB_none HV.out (Pl.st2_n HN.out)]
              exact ⟨_, rfl, ⟨A1, P1, n1, c1, m1, d1, rfl, oF.mono (by omega), pF.mono (by omega)⟩, by first | exact HBF | (rw [hg]; exact HBF)⟩
          · skip
            have CI := fun w' h h' => spec_ExprSimple A n1 c B E w' h h' (by omega) hnc
            have hsl := exprSimple_24 E
            cases V
            · go_wp2_with (with_reducible refine AtEnd.of ?_)
              clear CI
              have hd3 : ((3 : Int) == 3) = true := rfl
              clear a3 a4
              go_quiet (fail)
              have a3 := True.intro
              have a4 := True.intro
              clear dd0 dd1 dd2 a0 a1 a2 a3 a4 x0 x1 x2 x3 x4 g0 g1 g2 g3 g4 e0 e1 e2 e3 e4 y0 y1 y2 y3 y4
              obtain ⟨w7, hww⟩ : ∃ v, v = w6.drewN nq := ⟨_, rfl⟩
              replace K0 : Blk w7 g 44 #[.int .i64 k, .int .i64 x, .int .i64 y, .slice A n1 c, .slice P m1 d] := by rw [hww]; exact K0.drewN nq
              replace KX : Blk w7 G 44 #[.int .i64 k, .int .i64 x, .int .i64 y, .slice A1 n1 c1, .slice P1 m1 d1] := by rw [hww]; exact KX.drewN nq
              replace K1 : Blk w7 (g + 1 + 1) 44 #[.int .i64 0, .int .i64 0, .int .i64 0, .slice none 0 0, .slice none 0 0] := by rw [hww]; exact K1.drewN nq
              replace KD : Blk w7 (g + 1) 24 #[.int .i64 3, .int .i64 dn, .string (Ba t)] := by rw [hww]; exact KD.drewN nq
              replace o6 : ORow w7 (g + 3) 3 A1 n1 c1 (I64 E) := by rw [hww]; exact o6.drewN nq
              replace p6 : ORow w7 (g + 3) 9 P1 m1 d1 (Tx ts) := by rw [hww]; exact p6.drewN nq
              replace f6 : ORow w7 (g + 3) 3 A4 ys.length c4 (I64 ys) := by rw [hww]; exact f6.drewN nq
              replace f9 : ORow w7 (g + 3) 3 A9 fs.length c9 (I64 fs) := by rw [hww]; exact f9.drewN nq
              have hz7 : w7.heap.size = w6.heap.size := by rw [hww]; rfl
              replace HB6 : Below g w w7 := by rw [hww]; exact below_drewN HB6 nq
              replace RX6 : Hid (Rd w7 B A n1 (I64 E)) := by rw [hww]; exact Lib.hid (RX6.out.drewN nq)
              replace RP6 : Hid (Rd w7 B P m1 (Tx ts)) := by rw [hww]; exact Lib.hid (RP6.out.drewN nq)
              replace hB6 : B ≤ w7.heap.size := by omega
              replace hGw6 : G < w7.heap.size := by omega
              replace hgw6 : g + 1 + 1 < w7.heap.size := by omega
              replace hg6 : g ≤ w7.heap.size := by omega
              clear hz7
              rw [← hww]
              clear hww
              have dd0 : w7.cell? ⟨g + 1, 0, none⟩ = some (.int .i64 3) := KD.cell 0
              have dd1 : w7.cell? ⟨g + 1, 1, none⟩ = some (.int .i64 dn) := KD.cell 1
              have dd2 : w7.cell? ⟨g + 1, 2, none⟩ = some (.string (Ba t)) := KD.cell 2
              have a0 : w7.cell? ⟨g, 0, none⟩ = some (.int .i64 k) := K0.cell 0
              have x0 : w7.cell? ⟨G, 0, none⟩ = some (.int .i64 k) := KX.cell 0
              have g0 : w7.cell? ⟨g + 1 + 1, 0, none⟩ = some (.int .i64 0) := K1.cell 0
              have e0 : w7.frozen? ⟨g + 1 + 1, 0, none⟩ = false := K1.frozen 0
              have y0 : w7.frozen? ⟨G, 0, none⟩ = false := KX.frozen 0
              have a1 : w7.cell? ⟨g, 1, none⟩ = some (.int .i64 x) := K0.cell 1
              have x1 : w7.cell? ⟨G, 1, none⟩ = some (.int .i64 x) := KX.cell 1
              have g1 : w7.cell? ⟨g + 1 + 1, 1, none⟩ = some (.int .i64 0) := K1.cell 1
              have e1 : w7.frozen? ⟨g + 1 + 1, 1, none⟩ = false := K1.frozen 1
              have y1 : w7.frozen? ⟨G, 1, none⟩ = false := KX.frozen 1
              have a2 : w7.cell? ⟨g, 2, none⟩ = some (.int .i64 y) := K0.cell 2
              have x2 : w7.cell? ⟨G, 2, none⟩ = some (.int .i64 y) := KX.cell 2
              have g2 : w7.cell? ⟨g + 1 + 1, 2, none⟩ = some (.int .i64 0) := K1.cell 2
              have e2 : w7.frozen? ⟨g + 1 + 1, 2, none⟩ = false := K1.frozen 2
              have y2 : w7.frozen? ⟨G, 2, none⟩ = false := KX.frozen 2
              have a3 : w7.cell? ⟨g, 3, none⟩ = some (.slice A n1 c) := K0.cell 3
              have x3 : w7.cell? ⟨G, 3, none⟩ = some (.slice A1 n1 c1) := KX.cell 3
              have g3 : w7.cell? ⟨g + 1 + 1, 3, none⟩ = some (.slice none 0 0) := K1.cell 3
              have e3 : w7.frozen? ⟨g + 1 + 1, 3, none⟩ = false := K1.frozen 3
              have y3 : w7.frozen? ⟨G, 3, none⟩ = false := KX.frozen 3
              have a4 : w7.cell? ⟨g, 4, none⟩ = some (.slice P m1 d) := K0.cell 4
              have x4 : w7.cell? ⟨G, 4, none⟩ = some (.slice P1 m1 d1) := KX.cell 4
              have g4 : w7.cell? ⟨g + 1 + 1, 4, none⟩ = some (.slice none 0 0) := K1.cell 4
              have e4 : w7.frozen? ⟨g + 1 + 1, 4, none⟩ = false := K1.frozen 4
              have y4 : w7.frozen? ⟨G, 4, none⟩ = false := KX.frozen 4
              go_wp2_with (with_reducible refine AtEnd.of ?_)
              have KF := put5_blk (v0 := .int .i64 k) (v1 := .int .i64 x) (v2 := .int .i64 y) (v3 := .slice A1 n1 c1) (v4 := .slice P1 m1 d1) (K1)
              have HBF := put5_below (v0 := .int .i64 k) (v1 := .int .i64 x) (v2 := .int .i64 y) (v3 := .slice A1 n1 c1) (v4 := .slice P1 m1 d1) (HB6) (show g ≤ g + 1 + 1 by omega)
              have oF := put5_orow (r := g + 1 + 1) (v0 := .int .i64 k) (v1 := .int .i64 x) (v2 := .int .i64 y) (v3 := .slice A1 n1 c1) (v4 := .slice P1 m1 d1) (o6) (by omega)
              have pF := put5_orow (r := g + 1 + 1) (v0 := .int .i64 k) (v1 := .int .i64 x) (v2 := .int .i64 y) (v3 := .slice A1 n1 c1) (v4 := .slice P1 m1 d1) (p6) (by omega)
              obtain ⟨wf, hwf⟩ : ∃ wf, wf = put5 (w7) (g + 1 + 1) (.int .i64 k) (.int .i64 x) (.int .i64 y) (.slice A1 n1 c1) (.slice P1 m1 d1) := ⟨_, rfl⟩
              rw [← hwf] at KF HBF oF pF
              simp only [put5] at hwf
              rw [← hwf]
              clear hwf
              refine atEnd_ret (results_cell_tmp Tryz.results44 rfl (load_bench KF) rfl) rfl ?_
              rw [Pl.doB_none HV.out (Pl.st3_b hV.out)]
              exact ⟨_, rfl, ⟨A1, P1, n1, c1, m1, d1, rfl, oF.mono (by omega), pF.mono (by omega)⟩, by first | exact HBF | (rw [hg]; exact HBF)⟩
            · obtain ⟨X, hX⟩ : ∃ X, Pl.exprSimple E = X := ⟨_, rfl⟩
              rw [hX] at CI hsl
              have HSX := Lib.hid hX
              have CI := Lib.hid CI
              have HBW := Lib.hid HB6
              have KK0 := Lib.hid K0
              have KK1 := Lib.hid K1
              have KKX := Lib.hid KX
              have OO := Lib.hid o6
              have PP := Lib.hid p6
              have KDD := Lib.hid KD
              clear hX HB6 K0 K1 KX KD o6 p6 f6 f9
              go_upto_region 17 with (fail)
              go_cut [96] from 171 (fun s96 wx => s96 = .bool (!(decide (X = E))) ∧ Below w6.heap.size w6 wx)
              case first =>
                go_region_held3 (fun w' => w'.cell? ⟨g, 3, none⟩ = some (.slice A n1 c) ∧ w'.cell? ⟨g + 1, 0, none⟩ = some (.int .i64 3)) (first | go_keep | (exact ⟨(hbc.cell (p := ⟨g, 3, none⟩) (show g < w6.heap.size by omega)).trans a3, (hbc.cell (p := ⟨g + 1, 0, none⟩) (show g + 1 < w6.heap.size by omega)).trans dd0⟩)) (first
                  | (go_at_call 58; refine (CI.out _ (by first | exact RX6.out | exact RX6.out.drewN _) (by exact hB6)).mono ?_; rintro e w7 ⟨A7, c7, rfl, own7, hb7⟩; have hb7 : Below w6.heap.size w6 w7 := ⟨hb7.os, hb7.tape, hb7.output, hb7.size, hb7.block⟩; have hz7 := hb7.size; have hbc := hb7; have rx7 := Lib.hid ((RX6.out.below (hb7.mono hB6)).more (show B ≤ w7.heap.size by omega)); have rs7 := Lib.hid (rd_own own7))
                  | (go_at_call 65; refine (spec_l10Equal A7 A X.length n1 c7 c w7.heap.size X E _ (by first | exact rs7.out | exact rs7.out.drewN _) (by first | exact rx7.out | exact rx7.out.drewN _) (by omega) (by omega)).mono ?_; rintro e w8 ⟨rfl, q8, rfl⟩; have hbc := below_drewN hb7 q8))
                all_goals go_wp2_with (with_reducible refine AtEnd.of ?_)
                all_goals go_meet
                all_goals exact ⟨rfl, by first | exact hbc | exact below_drewN hbc _⟩
              case rest =>
                obtain ⟨w8, rfl⟩ : ∃ w8, w8 = wc := ⟨_, rfl⟩
                obtain ⟨rfl, hb8⟩ := hcut
                have hz8 := hb8.size
                have HB8 := HBW.out.trans (hb8.mono (by exact hg6))
                have K0 := KK0.out.below hb8 (by omega)
                have K1 := KK1.out.below hb8 hgw6
                have KX := KKX.out.below hb8 hGw6
                have o8 := OO.out.below hb8
                have p8 := PP.out.below hb8
                have hB8 : B ≤ w8.heap.size := by omega
                have hgz : g ≤ w8.heap.size := by omega
                have hGw8 := KX.lt
                have hgw8 := K1.lt
                have RX8 := Lib.hid (RX6.out.below (hb8.mono hB6))
                have RP8 := Lib.hid (RP6.out.below (hb8.mono hB6))
                have dd0' : w8.cell? ⟨g + 1, 0, none⟩ = some (.int .i64 3) := (KDD.out.below hb8 (by omega)).cell 0
                clear dd0 dd1 dd2 a0 a3 a4 x0 x1 x2 x3 x4 g0 g1 g2 g3 g4 e0 e1 e2 e3 e4 a1 a2 y0 y1 y2 y3 y4 KK0 KK1 KKX OO PP
                have a0 : w8.cell? ⟨g, 0, none⟩ = some (.int .i64 k) := K0.cell 0
                have a1 : w8.cell? ⟨g, 1, none⟩ = some (.int .i64 x) := K0.cell 1
                have a2 : w8.cell? ⟨g, 2, none⟩ = some (.int .i64 y) := K0.cell 2
                have a3 : w8.cell? ⟨g, 3, none⟩ = some (.slice A n1 c) := K0.cell 3
                have a4 : w8.cell? ⟨g, 4, none⟩ = some (.slice P m1 d) := K0.cell 4
                have x0 : w8.cell? ⟨G, 0, none⟩ = some (.int .i64 k) := KX.cell 0
                have x1 : w8.cell? ⟨G, 1, none⟩ = some (.int .i64 x) := KX.cell 1
                have x2 : w8.cell? ⟨G, 2, none⟩ = some (.int .i64 y) := KX.cell 2
                have x3 : w8.cell? ⟨G, 3, none⟩ = some (.slice A1 n1 c1) := KX.cell 3
                have x4 : w8.cell? ⟨G, 4, none⟩ = some (.slice P1 m1 d1) := KX.cell 4
                have g0 : w8.cell? ⟨g + 1 + 1, 0, none⟩ = some (.int .i64 0) := K1.cell 0
                have g1 : w8.cell? ⟨g + 1 + 1, 1, none⟩ = some (.int .i64 0) := K1.cell 1
                have g2 : w8.cell? ⟨g + 1 + 1, 2, none⟩ = some (.int .i64 0) := K1.cell 2
                have g3 : w8.cell? ⟨g + 1 + 1, 3, none⟩ = some (.slice none 0 0) := K1.cell 3
                have g4 : w8.cell? ⟨g + 1 + 1, 4, none⟩ = some (.slice none 0 0) := K1.cell 4
                have e0 : w8.frozen? ⟨g + 1 + 1, 0, none⟩ = false := K1.frozen 0
                have e1 : w8.frozen? ⟨g + 1 + 1, 1, none⟩ = false := K1.frozen 1
                have e2 : w8.frozen? ⟨g + 1 + 1, 2, none⟩ = false := K1.frozen 2
                have e3 : w8.frozen? ⟨g + 1 + 1, 3, none⟩ = false := K1.frozen 3
                have e4 : w8.frozen? ⟨g + 1 + 1, 4, none⟩ = false := K1.frozen 4
                by_cases hxe : X = E
                · have HE := Lib.hid hxe
                  rw [decide_eq_true hxe]
                  clear hxe
                  go_wp2_with (with_reducible refine AtEnd.of ?_)
                  have KF := put5_blk (v0 := .int .i64 k) (v1 := .int .i64 x) (v2 := .int .i64 y) (v3 := .slice A1 n1 c1) (v4 := .slice P1 m1 d1) (K1)
                  have HBF := put5_below (v0 := .int .i64 k) (v1 := .int .i64 x) (v2 := .int .i64 y) (v3 := .slice A1 n1 c1) (v4 := .slice P1 m1 d1) (HB8) (show g ≤ g + 1 + 1 by omega)
                  have oF := put5_orow (r := g + 1 + 1) (v0 := .int .i64 k) (v1 := .int .i64 x) (v2 := .int .i64 y) (v3 := .slice A1 n1 c1) (v4 := .slice P1 m1 d1) (o8) (by omega)
                  have pF := put5_orow (r := g + 1 + 1) (v0 := .int .i64 k) (v1 := .int .i64 x) (v2 := .int .i64 y) (v3 := .slice A1 n1 c1) (v4 := .slice P1 m1 d1) (p8) (by omega)
                  obtain ⟨wf, hwf⟩ : ∃ wf, wf = put5 (w8) (g + 1 + 1) (.int .i64 k) (.int .i64 x) (.int .i64 y) (.slice A1 n1 c1) (.slice P1 m1 d1) := ⟨_, rfl⟩
                  rw [← hwf] at KF HBF oF pF
                  simp only [put5] at hwf
                  rw [← hwf]
                  clear hwf
                  refine atEnd_ret (results_cell_tmp Tryz.results44 rfl (load_bench KF) rfl) rfl ?_
                  rw [Pl.doB_none HV.out (Pl.st3_e hV.out (HSX.out.trans HE.out))]
                  exact ⟨_, rfl, ⟨A1, P1, n1, c1, m1, d1, rfl, oF.mono (by omega), pF.mono (by omega)⟩, by first | exact HBF | (rw [hg]; exact HBF)⟩
                · have HE := Lib.hid (show ¬ Pl.exprSimple E = E by rw [HSX.out]; exact hxe)
                  rw [decide_eq_false hxe]
                  clear hxe
                  have HK8 := Lib.hid K0
                  have HKX8 := Lib.hid KX
                  have HK18 := Lib.hid K1
                  have HBQ := Lib.hid HB8
                  clear K0 KX K1 HB8 hb8 o8 p8 x0 x1 x2 x3 x4 g0 g1 g2 g3 g4 e0 e1 e2 e3 e4
                  go_upto_region 18 with (fail)
                  go_region_with (first
                      | (go_at_call 58; refine (CI.out _ (by first | exact RX8.out | exact RX8.out.drewN _) (by exact hB8)).mono ?_; rintro e w9 ⟨A9', c9', rfl, own9, hb9⟩; have hb9 : Below w8.heap.size w8 w9 := ⟨hb9.os, hb9.tape, hb9.output, hb9.size, hb9.block⟩; have hz9 := hb9.size; have b0 := HK8.out.below hb9 (by omega); have bG := Lib.hid (HKX8.out.below hb9 (by omega)); have b1 := Lib.hid (HK18.out.below hb9 (by omega)); have z0 : w9.cell? ⟨g, 0, none⟩ = some (.int .i64 k) := b0.cell 0; have z1 : w9.cell? ⟨g, 1, none⟩ = some (.int .i64 x) := b0.cell 1; have z2 : w9.cell? ⟨g, 2, none⟩ = some (.int .i64 y) := b0.cell 2; have z3 : w9.cell? ⟨g, 3, none⟩ = some (.slice A n1 c) := b0.cell 3; have z4 : w9.cell? ⟨g, 4, none⟩ = some (.slice P m1 d) := b0.cell 4; have rx9 := Lib.hid ((RX8.out.below (hb9.mono hB8)).more (show B ≤ w9.heap.size by omega)); have rp9 := Lib.hid ((RP8.out.below (hb9.mono hB8)).more (show B ≤ w9.heap.size by omega)); have rs9 := Lib.hid (rd_own own9); have HB9 := Lib.hid (HBQ.out.trans (hb9.mono hgz)); clear b0 own9 hb9)
                      | (go_at_call 66; refine (spec_l10Set ⟨k, x, y, E, ts⟩ A P n1 c m1 d w9.heap.size A9' X.length c9' X _ (by first | exact rx9.out | exact rx9.out.drewN _) (by first | exact rp9.out | exact rp9.out.drewN _) (by first | exact rs9.out | exact rs9.out.drewN _) (by exact Nat.le_refl _) (by omega) (by omega) (by omega) hnc).mono ?_; rintro e w10 ⟨v, rfl, ⟨A7, P7, n7, c7, m7, d7, rfl, o7, p7⟩, hb10⟩; have hb10 : Below w9.heap.size w9 w10 := ⟨hb10.os, hb10.tape, hb10.output, hb10.size, hb10.block⟩; have hz10 := hb10.size; have bG := Lib.hid (bG.out.below hb10 (by omega)); have b1 := Lib.hid (b1.out.below hb10 (by omega)); have y0 : w10.frozen? ⟨G, 0, none⟩ = false := bG.out.frozen 0; have y1 : w10.frozen? ⟨G, 1, none⟩ = false := bG.out.frozen 1; have y2 : w10.frozen? ⟨G, 2, none⟩ = false := bG.out.frozen 2; have y3 : w10.frozen? ⟨G, 3, none⟩ = false := bG.out.frozen 3; have y4 : w10.frozen? ⟨G, 4, none⟩ = false := bG.out.frozen 4; have y0c : w10.cell? ⟨G, 0, none⟩ = some (.int .i64 k) := bG.out.cell 0; have y1c : w10.cell? ⟨G, 1, none⟩ = some (.int .i64 x) := bG.out.cell 1; have y2c : w10.cell? ⟨G, 2, none⟩ = some (.int .i64 y) := bG.out.cell 2; have y3c : w10.cell? ⟨G, 3, none⟩ = some (.slice A1 n1 c1) := bG.out.cell 3; have y4c : w10.cell? ⟨G, 4, none⟩ = some (.slice P1 m1 d1) := bG.out.cell 4; unfold benchV Pl.setB))
                  all_goals (
                    have K1q := b1.out
                    have HBq := HB9.out.trans (hb10.mono (by omega))
                    have hgw9 : G < w9.heap.size := by omega
                    have e0 : w10.frozen? ⟨g + 1 + 1, 0, none⟩ = false := K1q.frozen 0
                    have g0 : w10.cell? ⟨g + 1 + 1, 0, none⟩ = some (.int .i64 0) := K1q.cell 0
                    have e1 : w10.frozen? ⟨g + 1 + 1, 1, none⟩ = false := K1q.frozen 1
                    have g1 : w10.cell? ⟨g + 1 + 1, 1, none⟩ = some (.int .i64 0) := K1q.cell 1
                    have e2 : w10.frozen? ⟨g + 1 + 1, 2, none⟩ = false := K1q.frozen 2
                    have g2 : w10.cell? ⟨g + 1 + 1, 2, none⟩ = some (.int .i64 0) := K1q.cell 2
                    have e3 : w10.frozen? ⟨g + 1 + 1, 3, none⟩ = false := K1q.frozen 3
                    have g3 : w10.cell? ⟨g + 1 + 1, 3, none⟩ = some (.slice none 0 0) := K1q.cell 3
                    have e4 : w10.frozen? ⟨g + 1 + 1, 4, none⟩ = false := K1q.frozen 4
                    have g4 : w10.cell? ⟨g + 1 + 1, 4, none⟩ = some (.slice none 0 0) := K1q.cell 4
                    go_wp2_with (with_reducible refine AtEnd.of ?_)
                    have KF := put5_blk (v0 := .int .i64 k) (v1 := .int .i64 x) (v2 := .int .i64 y) (v3 := .slice A7 n7 c7) (v4 := .slice P7 m7 d7) (put5_far (v0 := .int .i64 k) (v1 := .int .i64 x) (v2 := .int .i64 y) (v3 := .slice A7 n7 c7) (v4 := .slice P7 m7 d7) (by exact hgG) K1q)
                    have HBF := put5_below (v0 := .int .i64 k) (v1 := .int .i64 x) (v2 := .int .i64 y) (v3 := .slice A7 n7 c7) (v4 := .slice P7 m7 d7) (put5_below (v0 := .int .i64 k) (v1 := .int .i64 x) (v2 := .int .i64 y) (v3 := .slice A7 n7 c7) (v4 := .slice P7 m7 d7) HBq (by exact hgGl)) (show g ≤ g + 1 + 1 by omega)
                    have oF := put5_orow (r := g + 1 + 1) (v0 := .int .i64 k) (v1 := .int .i64 x) (v2 := .int .i64 y) (v3 := .slice A7 n7 c7) (v4 := .slice P7 m7 d7) (put5_orow (v0 := .int .i64 k) (v1 := .int .i64 x) (v2 := .int .i64 y) (v3 := .slice A7 n7 c7) (v4 := .slice P7 m7 d7) o7 (by exact hgw9)) (by omega)
                    have pF := put5_orow (r := g + 1 + 1) (v0 := .int .i64 k) (v1 := .int .i64 x) (v2 := .int .i64 y) (v3 := .slice A7 n7 c7) (v4 := .slice P7 m7 d7) (put5_orow (v0 := .int .i64 k) (v1 := .int .i64 x) (v2 := .int .i64 y) (v3 := .slice A7 n7 c7) (v4 := .slice P7 m7 d7) p7 (by exact hgw9)) (by omega)
                    obtain ⟨wf, hwf⟩ : ∃ wf, wf = put5 (put5 w10 G (.int .i64 k) (.int .i64 x) (.int .i64 y) (.slice A7 n7 c7) (.slice P7 m7 d7)) (g + 1 + 1) (.int .i64 k) (.int .i64 x) (.int .i64 y) (.slice A7 n7 c7) (.slice P7 m7 d7) := ⟨_, rfl⟩
                    rw [← hwf] at KF HBF oF pF
                    simp only [put5] at hwf
                    rw [← hwf]
                    clear hwf
                    refine atEnd_ret (results_cell_tmp Tryz.results44 rfl (load_bench KF) rfl) rfl ?_
                    rw [Pl.doB_some HV.out ((Pl.st3_t hV.out HE.out).trans (by rw [HSX.out]))]
                    exact ⟨_, rfl, ⟨A7, P7, n7, c7, m7, d7, rfl, oF.mono (by omega), pF.mono (by omega)⟩, by first | exact HBF | (rw [hg]; exact HBF)⟩)
          · skip
            cases V
            · go_wp2_with (with_reducible refine AtEnd.of ?_)
              have hd3 : ((4 : Int) == 3) = false := rfl
              clear a3 a4
              go_quiet (fail)
              have a3 := True.intro
              have a4 := True.intro
              clear dd0 dd1 dd2 a0 a1 a2 a3 a4 x0 x1 x2 x3 x4 g0 g1 g2 g3 g4 e0 e1 e2 e3 e4 y0 y1 y2 y3 y4
              obtain ⟨w7, hww⟩ : ∃ v, v = w6.drewN nq := ⟨_, rfl⟩
              replace K0 : Blk w7 g 44 #[.int .i64 k, .int .i64 x, .int .i64 y, .slice A n1 c, .slice P m1 d] := by rw [hww]; exact K0.drewN nq
              replace KX : Blk w7 G 44 #[.int .i64 k, .int .i64 x, .int .i64 y, .slice A1 n1 c1, .slice P1 m1 d1] := by rw [hww]; exact KX.drewN nq
              replace K1 : Blk w7 (g + 1 + 1) 44 #[.int .i64 0, .int .i64 0, .int .i64 0, .slice none 0 0, .slice none 0 0] := by rw [hww]; exact K1.drewN nq
              replace KD : Blk w7 (g + 1) 24 #[.int .i64 4, .int .i64 dn, .string (Ba t)] := by rw [hww]; exact KD.drewN nq
              replace o6 : ORow w7 (g + 3) 3 A1 n1 c1 (I64 E) := by rw [hww]; exact o6.drewN nq
              replace p6 : ORow w7 (g + 3) 9 P1 m1 d1 (Tx ts) := by rw [hww]; exact p6.drewN nq
              replace f6 : ORow w7 (g + 3) 3 A4 ys.length c4 (I64 ys) := by rw [hww]; exact f6.drewN nq
              replace f9 : ORow w7 (g + 3) 3 A9 fs.length c9 (I64 fs) := by rw [hww]; exact f9.drewN nq
              have hz7 : w7.heap.size = w6.heap.size := by rw [hww]; rfl
              replace HB6 : Below g w w7 := by rw [hww]; exact below_drewN HB6 nq
              replace RX6 : Hid (Rd w7 B A n1 (I64 E)) := by rw [hww]; exact Lib.hid (RX6.out.drewN nq)
              replace RP6 : Hid (Rd w7 B P m1 (Tx ts)) := by rw [hww]; exact Lib.hid (RP6.out.drewN nq)
              replace hB6 : B ≤ w7.heap.size := by omega
              replace hGw6 : G < w7.heap.size := by omega
              replace hgw6 : g + 1 + 1 < w7.heap.size := by omega
              replace hg6 : g ≤ w7.heap.size := by omega
              clear hz7
              rw [← hww]
              clear hww
              have dd0 : w7.cell? ⟨g + 1, 0, none⟩ = some (.int .i64 4) := KD.cell 0
              have dd1 : w7.cell? ⟨g + 1, 1, none⟩ = some (.int .i64 dn) := KD.cell 1
              have dd2 : w7.cell? ⟨g + 1, 2, none⟩ = some (.string (Ba t)) := KD.cell 2
              have a0 : w7.cell? ⟨g, 0, none⟩ = some (.int .i64 k) := K0.cell 0
              have x0 : w7.cell? ⟨G, 0, none⟩ = some (.int .i64 k) := KX.cell 0
              have g0 : w7.cell? ⟨g + 1 + 1, 0, none⟩ = some (.int .i64 0) := K1.cell 0
              have e0 : w7.frozen? ⟨g + 1 + 1, 0, none⟩ = false := K1.frozen 0
              have y0 : w7.frozen? ⟨G, 0, none⟩ = false := KX.frozen 0
              have a1 : w7.cell? ⟨g, 1, none⟩ = some (.int .i64 x) := K0.cell 1
              have x1 : w7.cell? ⟨G, 1, none⟩ = some (.int .i64 x) := KX.cell 1
              have g1 : w7.cell? ⟨g + 1 + 1, 1, none⟩ = some (.int .i64 0) := K1.cell 1
              have e1 : w7.frozen? ⟨g + 1 + 1, 1, none⟩ = false := K1.frozen 1
              have y1 : w7.frozen? ⟨G, 1, none⟩ = false := KX.frozen 1
              have a2 : w7.cell? ⟨g, 2, none⟩ = some (.int .i64 y) := K0.cell 2
              have x2 : w7.cell? ⟨G, 2, none⟩ = some (.int .i64 y) := KX.cell 2
              have g2 : w7.cell? ⟨g + 1 + 1, 2, none⟩ = some (.int .i64 0) := K1.cell 2
              have e2 : w7.frozen? ⟨g + 1 + 1, 2, none⟩ = false := K1.frozen 2
              have y2 : w7.frozen? ⟨G, 2, none⟩ = false := KX.frozen 2
              have a3 : w7.cell? ⟨g, 3, none⟩ = some (.slice A n1 c) := K0.cell 3
              have x3 : w7.cell? ⟨G, 3, none⟩ = some (.slice A1 n1 c1) := KX.cell 3
              have g3 : w7.cell? ⟨g + 1 + 1, 3, none⟩ = some (.slice none 0 0) := K1.cell 3
              have e3 : w7.frozen? ⟨g + 1 + 1, 3, none⟩ = false := K1.frozen 3
              have y3 : w7.frozen? ⟨G, 3, none⟩ = false := KX.frozen 3
              have a4 : w7.cell? ⟨g, 4, none⟩ = some (.slice P m1 d) := K0.cell 4
              have x4 : w7.cell? ⟨G, 4, none⟩ = some (.slice P1 m1 d1) := KX.cell 4
              have g4 : w7.cell? ⟨g + 1 + 1, 4, none⟩ = some (.slice none 0 0) := K1.cell 4
              have e4 : w7.frozen? ⟨g + 1 + 1, 4, none⟩ = false := K1.frozen 4
              have y4 : w7.frozen? ⟨G, 4, none⟩ = false := KX.frozen 4
              go_wp2_with (with_reducible refine AtEnd.of ?_)
              have KF := put5_blk (v0 := .int .i64 k) (v1 := .int .i64 x) (v2 := .int .i64 y) (v3 := .slice A1 n1 c1) (v4 := .slice P1 m1 d1) (K1)
              have HBF := put5_below (v0 := .int .i64 k) (v1 := .int .i64 x) (v2 := .int .i64 y) (v3 := .slice A1 n1 c1) (v4 := .slice P1 m1 d1) (HB6) (show g ≤ g + 1 + 1 by omega)
              have oF := put5_orow (r := g + 1 + 1) (v0 := .int .i64 k) (v1 := .int .i64 x) (v2 := .int .i64 y) (v3 := .slice A1 n1 c1) (v4 := .slice P1 m1 d1) (o6) (by omega)
              have pF := put5_orow (r := g + 1 + 1) (v0 := .int .i64 k) (v1 := .int .i64 x) (v2 := .int .i64 y) (v3 := .slice A1 n1 c1) (v4 := .slice P1 m1 d1) (p6) (by omega)
              obtain ⟨wf, hwf⟩ : ∃ wf, wf = put5 (w7) (g + 1 + 1) (.int .i64 k) (.int .i64 x) (.int .i64 y) (.slice A1 n1 c1) (.slice P1 m1 d1) := ⟨_, rfl⟩
              rw [← hwf] at KF HBF oF pF
              simp only [put5] at hwf
              rw [← hwf]
              clear hwf
              refine atEnd_ret (results_cell_tmp Tryz.results44 rfl (load_bench KF) rfl) rfl ?_
              rw [Pl.doB_none HV.out (Pl.st4_b hV.out)]
              exact ⟨_, rfl, ⟨A1, P1, n1, c1, m1, d1, rfl, oF.mono (by omega), pF.mono (by omega)⟩, by first | exact HBF | (rw [hg]; exact HBF)⟩
            · obtain ⟨hsm, hfs⟩ := H4F.out rfl
              have HFS := Lib.hid hfs
              have HSM := Lib.hid hsm.symm
              clear hsm hfs
              cases sm
              · go_wp2_with (with_reducible refine AtEnd.of ?_)
                have hd3 : ((4 : Int) == 3) = false := rfl
                clear a3 a4
                go_quiet (fail)
                have a3 := True.intro
                have a4 := True.intro
                clear dd0 dd1 dd2 a0 a1 a2 a3 a4 x0 x1 x2 x3 x4 g0 g1 g2 g3 g4 e0 e1 e2 e3 e4 y0 y1 y2 y3 y4
                obtain ⟨w7, hww⟩ : ∃ v, v = w6.drewN nq := ⟨_, rfl⟩
                replace K0 : Blk w7 g 44 #[.int .i64 k, .int .i64 x, .int .i64 y, .slice A n1 c, .slice P m1 d] := by rw [hww]; exact K0.drewN nq
                replace KX : Blk w7 G 44 #[.int .i64 k, .int .i64 x, .int .i64 y, .slice A1 n1 c1, .slice P1 m1 d1] := by rw [hww]; exact KX.drewN nq
                replace K1 : Blk w7 (g + 1 + 1) 44 #[.int .i64 0, .int .i64 0, .int .i64 0, .slice none 0 0, .slice none 0 0] := by rw [hww]; exact K1.drewN nq
                replace KD : Blk w7 (g + 1) 24 #[.int .i64 4, .int .i64 dn, .string (Ba t)] := by rw [hww]; exact KD.drewN nq
                replace o6 : ORow w7 (g + 3) 3 A1 n1 c1 (I64 E) := by rw [hww]; exact o6.drewN nq
                replace p6 : ORow w7 (g + 3) 9 P1 m1 d1 (Tx ts) := by rw [hww]; exact p6.drewN nq
                replace f6 : ORow w7 (g + 3) 3 A4 ys.length c4 (I64 ys) := by rw [hww]; exact f6.drewN nq
                replace f9 : ORow w7 (g + 3) 3 A9 fs.length c9 (I64 fs) := by rw [hww]; exact f9.drewN nq
                have hz7 : w7.heap.size = w6.heap.size := by rw [hww]; rfl
                replace HB6 : Below g w w7 := by rw [hww]; exact below_drewN HB6 nq
                replace RX6 : Hid (Rd w7 B A n1 (I64 E)) := by rw [hww]; exact Lib.hid (RX6.out.drewN nq)
                replace RP6 : Hid (Rd w7 B P m1 (Tx ts)) := by rw [hww]; exact Lib.hid (RP6.out.drewN nq)
                replace hB6 : B ≤ w7.heap.size := by omega
                replace hGw6 : G < w7.heap.size := by omega
                replace hgw6 : g + 1 + 1 < w7.heap.size := by omega
                replace hg6 : g ≤ w7.heap.size := by omega
                clear hz7
                rw [← hww]
                clear hww
                have dd0 : w7.cell? ⟨g + 1, 0, none⟩ = some (.int .i64 4) := KD.cell 0
                have dd1 : w7.cell? ⟨g + 1, 1, none⟩ = some (.int .i64 dn) := KD.cell 1
                have dd2 : w7.cell? ⟨g + 1, 2, none⟩ = some (.string (Ba t)) := KD.cell 2
                have a0 : w7.cell? ⟨g, 0, none⟩ = some (.int .i64 k) := K0.cell 0
                have x0 : w7.cell? ⟨G, 0, none⟩ = some (.int .i64 k) := KX.cell 0
                have g0 : w7.cell? ⟨g + 1 + 1, 0, none⟩ = some (.int .i64 0) := K1.cell 0
                have e0 : w7.frozen? ⟨g + 1 + 1, 0, none⟩ = false := K1.frozen 0
                have y0 : w7.frozen? ⟨G, 0, none⟩ = false := KX.frozen 0
                have a1 : w7.cell? ⟨g, 1, none⟩ = some (.int .i64 x) := K0.cell 1
                have x1 : w7.cell? ⟨G, 1, none⟩ = some (.int .i64 x) := KX.cell 1
                have g1 : w7.cell? ⟨g + 1 + 1, 1, none⟩ = some (.int .i64 0) := K1.cell 1
                have e1 : w7.frozen? ⟨g + 1 + 1, 1, none⟩ = false := K1.frozen 1
                have y1 : w7.frozen? ⟨G, 1, none⟩ = false := KX.frozen 1
                have a2 : w7.cell? ⟨g, 2, none⟩ = some (.int .i64 y) := K0.cell 2
                have x2 : w7.cell? ⟨G, 2, none⟩ = some (.int .i64 y) := KX.cell 2
                have g2 : w7.cell? ⟨g + 1 + 1, 2, none⟩ = some (.int .i64 0) := K1.cell 2
                have e2 : w7.frozen? ⟨g + 1 + 1, 2, none⟩ = false := K1.frozen 2
                have y2 : w7.frozen? ⟨G, 2, none⟩ = false := KX.frozen 2
                have a3 : w7.cell? ⟨g, 3, none⟩ = some (.slice A n1 c) := K0.cell 3
                have x3 : w7.cell? ⟨G, 3, none⟩ = some (.slice A1 n1 c1) := KX.cell 3
                have g3 : w7.cell? ⟨g + 1 + 1, 3, none⟩ = some (.slice none 0 0) := K1.cell 3
                have e3 : w7.frozen? ⟨g + 1 + 1, 3, none⟩ = false := K1.frozen 3
                have y3 : w7.frozen? ⟨G, 3, none⟩ = false := KX.frozen 3
                have a4 : w7.cell? ⟨g, 4, none⟩ = some (.slice P m1 d) := K0.cell 4
                have x4 : w7.cell? ⟨G, 4, none⟩ = some (.slice P1 m1 d1) := KX.cell 4
                have g4 : w7.cell? ⟨g + 1 + 1, 4, none⟩ = some (.slice none 0 0) := K1.cell 4
                have e4 : w7.frozen? ⟨g + 1 + 1, 4, none⟩ = false := K1.frozen 4
                have y4 : w7.frozen? ⟨G, 4, none⟩ = false := KX.frozen 4
                go_wp2_with (with_reducible refine AtEnd.of ?_)
                have KF := put5_blk (v0 := .int .i64 k) (v1 := .int .i64 x) (v2 := .int .i64 y) (v3 := .slice A1 n1 c1) (v4 := .slice P1 m1 d1) (K1)
                have HBF := put5_below (v0 := .int .i64 k) (v1 := .int .i64 x) (v2 := .int .i64 y) (v3 := .slice A1 n1 c1) (v4 := .slice P1 m1 d1) (HB6) (show g ≤ g + 1 + 1 by omega)
                have oF := put5_orow (r := g + 1 + 1) (v0 := .int .i64 k) (v1 := .int .i64 x) (v2 := .int .i64 y) (v3 := .slice A1 n1 c1) (v4 := .slice P1 m1 d1) (o6) (by omega)
                have pF := put5_orow (r := g + 1 + 1) (v0 := .int .i64 k) (v1 := .int .i64 x) (v2 := .int .i64 y) (v3 := .slice A1 n1 c1) (v4 := .slice P1 m1 d1) (p6) (by omega)
                obtain ⟨wf, hwf⟩ : ∃ wf, wf = put5 (w7) (g + 1 + 1) (.int .i64 k) (.int .i64 x) (.int .i64 y) (.slice A1 n1 c1) (.slice P1 m1 d1) := ⟨_, rfl⟩
                rw [← hwf] at KF HBF oF pF
                simp only [put5] at hwf
                rw [← hwf]
                clear hwf
                refine atEnd_ret (results_cell_tmp Tryz.results44 rfl (load_bench KF) rfl) rfl ?_
                rw [Pl.doB_none HV.out (Pl.st4_n hV.out (Pl.getD_none HSM.out rfl))]
                exact ⟨_, rfl, ⟨A1, P1, n1, c1, m1, d1, rfl, oF.mono (by omega), pF.mono (by omega)⟩, by first | exact HBF | (rw [hg]; exact HBF)⟩
              · have HSE := Lib.hid (Pl.getD_some HSM.out rfl HFS.out)
                have hfl : fs.length ≤ 5 := (Pl.short_some HSE.out).2.2.1.2.2
                go_wp2_with (with_reducible refine AtEnd.of ?_)
                have hd3 : ((4 : Int) == 3) = false := rfl
                clear a3 a4
                go_quiet (fail)
                have a3 := True.intro
                have a4 := True.intro
                clear dd0 dd1 dd2 a0 a1 a2 a3 a4 x0 x1 x2 x3 x4 g0 g1 g2 g3 g4 e0 e1 e2 e3 e4 y0 y1 y2 y3 y4
                obtain ⟨w7, hww⟩ : ∃ v, v = w6.drewN nq := ⟨_, rfl⟩
                replace K0 : Blk w7 g 44 #[.int .i64 k, .int .i64 x, .int .i64 y, .slice A n1 c, .slice P m1 d] := by rw [hww]; exact K0.drewN nq
                replace KX : Blk w7 G 44 #[.int .i64 k, .int .i64 x, .int .i64 y, .slice A1 n1 c1, .slice P1 m1 d1] := by rw [hww]; exact KX.drewN nq
                replace K1 : Blk w7 (g + 1 + 1) 44 #[.int .i64 0, .int .i64 0, .int .i64 0, .slice none 0 0, .slice none 0 0] := by rw [hww]; exact K1.drewN nq
                replace KD : Blk w7 (g + 1) 24 #[.int .i64 4, .int .i64 dn, .string (Ba t)] := by rw [hww]; exact KD.drewN nq
                replace o6 : ORow w7 (g + 3) 3 A1 n1 c1 (I64 E) := by rw [hww]; exact o6.drewN nq
                replace p6 : ORow w7 (g + 3) 9 P1 m1 d1 (Tx ts) := by rw [hww]; exact p6.drewN nq
                replace f6 : ORow w7 (g + 3) 3 A4 ys.length c4 (I64 ys) := by rw [hww]; exact f6.drewN nq
                replace f9 : ORow w7 (g + 3) 3 A9 fs.length c9 (I64 fs) := by rw [hww]; exact f9.drewN nq
                have hz7 : w7.heap.size = w6.heap.size := by rw [hww]; rfl
                replace HB6 : Below g w w7 := by rw [hww]; exact below_drewN HB6 nq
                replace RX6 : Hid (Rd w7 B A n1 (I64 E)) := by rw [hww]; exact Lib.hid (RX6.out.drewN nq)
                replace RP6 : Hid (Rd w7 B P m1 (Tx ts)) := by rw [hww]; exact Lib.hid (RP6.out.drewN nq)
                replace hB6 : B ≤ w7.heap.size := by omega
                replace hGw6 : G < w7.heap.size := by omega
                replace hgw6 : g + 1 + 1 < w7.heap.size := by omega
                replace hg6 : g ≤ w7.heap.size := by omega
                clear hz7
                rw [← hww]
                clear hww
                have dd0 : w7.cell? ⟨g + 1, 0, none⟩ = some (.int .i64 4) := KD.cell 0
                have dd1 : w7.cell? ⟨g + 1, 1, none⟩ = some (.int .i64 dn) := KD.cell 1
                have dd2 : w7.cell? ⟨g + 1, 2, none⟩ = some (.string (Ba t)) := KD.cell 2
                have a0 : w7.cell? ⟨g, 0, none⟩ = some (.int .i64 k) := K0.cell 0
                have x0 : w7.cell? ⟨G, 0, none⟩ = some (.int .i64 k) := KX.cell 0
                have g0 : w7.cell? ⟨g + 1 + 1, 0, none⟩ = some (.int .i64 0) := K1.cell 0
                have e0 : w7.frozen? ⟨g + 1 + 1, 0, none⟩ = false := K1.frozen 0
                have y0 : w7.frozen? ⟨G, 0, none⟩ = false := KX.frozen 0
                have a1 : w7.cell? ⟨g, 1, none⟩ = some (.int .i64 x) := K0.cell 1
                have x1 : w7.cell? ⟨G, 1, none⟩ = some (.int .i64 x) := KX.cell 1
                have g1 : w7.cell? ⟨g + 1 + 1, 1, none⟩ = some (.int .i64 0) := K1.cell 1
                have e1 : w7.frozen? ⟨g + 1 + 1, 1, none⟩ = false := K1.frozen 1
                have y1 : w7.frozen? ⟨G, 1, none⟩ = false := KX.frozen 1
                have a2 : w7.cell? ⟨g, 2, none⟩ = some (.int .i64 y) := K0.cell 2
                have x2 : w7.cell? ⟨G, 2, none⟩ = some (.int .i64 y) := KX.cell 2
                have g2 : w7.cell? ⟨g + 1 + 1, 2, none⟩ = some (.int .i64 0) := K1.cell 2
                have e2 : w7.frozen? ⟨g + 1 + 1, 2, none⟩ = false := K1.frozen 2
                have y2 : w7.frozen? ⟨G, 2, none⟩ = false := KX.frozen 2
                have a3 : w7.cell? ⟨g, 3, none⟩ = some (.slice A n1 c) := K0.cell 3
                have x3 : w7.cell? ⟨G, 3, none⟩ = some (.slice A1 n1 c1) := KX.cell 3
                have g3 : w7.cell? ⟨g + 1 + 1, 3, none⟩ = some (.slice none 0 0) := K1.cell 3
                have e3 : w7.frozen? ⟨g + 1 + 1, 3, none⟩ = false := K1.frozen 3
                have y3 : w7.frozen? ⟨G, 3, none⟩ = false := KX.frozen 3
                have a4 : w7.cell? ⟨g, 4, none⟩ = some (.slice P m1 d) := K0.cell 4
                have x4 : w7.cell? ⟨G, 4, none⟩ = some (.slice P1 m1 d1) := KX.cell 4
                have g4 : w7.cell? ⟨g + 1 + 1, 4, none⟩ = some (.slice none 0 0) := K1.cell 4
                have e4 : w7.frozen? ⟨g + 1 + 1, 4, none⟩ = false := K1.frozen 4
                have y4 : w7.frozen? ⟨G, 4, none⟩ = false := KX.frozen 4
                go_wp2_with (with_reducible refine AtEnd.of ?_)
                refine (spec_l10Equal A9 A fs.length n1 c9 c w7.heap.size fs E _ f9.rd (RX6.out.more hB6) (by omega) (by omega)).mono ?_
                by_cases hye : fs = E
                · have HE := Lib.hid hye
                  rw [decide_eq_true hye]
                  clear hye
                  rintro e v7 ⟨rfl, q, rfl⟩
                  clear dd0 dd1 dd2 a0 a1 a2 a3 a4 x0 x1 x2 x3 x4 g0 g1 g2 g3 g4 e0 e1 e2 e3 e4 y0 y1 y2 y3 y4
                  obtain ⟨w8, hww⟩ : ∃ v, v = w7.drewN q := ⟨_, rfl⟩
                  replace K0 : Blk w8 g 44 #[.int .i64 k, .int .i64 x, .int .i64 y, .slice A n1 c, .slice P m1 d] := by rw [hww]; exact K0.drewN q
                  replace KX : Blk w8 G 44 #[.int .i64 k, .int .i64 x, .int .i64 y, .slice A1 n1 c1, .slice P1 m1 d1] := by rw [hww]; exact KX.drewN q
                  replace K1 : Blk w8 (g + 1 + 1) 44 #[.int .i64 0, .int .i64 0, .int .i64 0, .slice none 0 0, .slice none 0 0] := by rw [hww]; exact K1.drewN q
                  replace KD : Blk w8 (g + 1) 24 #[.int .i64 4, .int .i64 dn, .string (Ba t)] := by rw [hww]; exact KD.drewN q
                  replace o6 : ORow w8 (g + 3) 3 A1 n1 c1 (I64 E) := by rw [hww]; exact o6.drewN q
                  replace p6 : ORow w8 (g + 3) 9 P1 m1 d1 (Tx ts) := by rw [hww]; exact p6.drewN q
                  replace f6 : ORow w8 (g + 3) 3 A4 ys.length c4 (I64 ys) := by rw [hww]; exact f6.drewN q
                  replace f9 : ORow w8 (g + 3) 3 A9 fs.length c9 (I64 fs) := by rw [hww]; exact f9.drewN q
                  have hz8 : w8.heap.size = w7.heap.size := by rw [hww]; rfl
                  replace HB6 : Below g w w8 := by rw [hww]; exact below_drewN HB6 q
                  replace RX6 : Hid (Rd w8 B A n1 (I64 E)) := by rw [hww]; exact Lib.hid (RX6.out.drewN q)
                  replace RP6 : Hid (Rd w8 B P m1 (Tx ts)) := by rw [hww]; exact Lib.hid (RP6.out.drewN q)
                  replace hB6 : B ≤ w8.heap.size := by omega
                  replace hGw6 : G < w8.heap.size := by omega
                  replace hgw6 : g + 1 + 1 < w8.heap.size := by omega
                  replace hg6 : g ≤ w8.heap.size := by omega
                  clear hz8
                  rw [← hww]
                  clear hww
                  have dd0 : w8.cell? ⟨g + 1, 0, none⟩ = some (.int .i64 4) := KD.cell 0
                  have dd1 : w8.cell? ⟨g + 1, 1, none⟩ = some (.int .i64 dn) := KD.cell 1
                  have dd2 : w8.cell? ⟨g + 1, 2, none⟩ = some (.string (Ba t)) := KD.cell 2
                  have a0 : w8.cell? ⟨g, 0, none⟩ = some (.int .i64 k) := K0.cell 0
                  have x0 : w8.cell? ⟨G, 0, none⟩ = some (.int .i64 k) := KX.cell 0
                  have g0 : w8.cell? ⟨g + 1 + 1, 0, none⟩ = some (.int .i64 0) := K1.cell 0
                  have e0 : w8.frozen? ⟨g + 1 + 1, 0, none⟩ = false := K1.frozen 0
                  have y0 : w8.frozen? ⟨G, 0, none⟩ = false := KX.frozen 0
                  have a1 : w8.cell? ⟨g, 1, none⟩ = some (.int .i64 x) := K0.cell 1
                  have x1 : w8.cell? ⟨G, 1, none⟩ = some (.int .i64 x) := KX.cell 1
                  have g1 : w8.cell? ⟨g + 1 + 1, 1, none⟩ = some (.int .i64 0) := K1.cell 1
                  have e1 : w8.frozen? ⟨g + 1 + 1, 1, none⟩ = false := K1.frozen 1
                  have y1 : w8.frozen? ⟨G, 1, none⟩ = false := KX.frozen 1
                  have a2 : w8.cell? ⟨g, 2, none⟩ = some (.int .i64 y) := K0.cell 2
                  have x2 : w8.cell? ⟨G, 2, none⟩ = some (.int .i64 y) := KX.cell 2
                  have g2 : w8.cell? ⟨g + 1 + 1, 2, none⟩ = some (.int .i64 0) := K1.cell 2
                  have e2 : w8.frozen? ⟨g + 1 + 1, 2, none⟩ = false := K1.frozen 2
                  have y2 : w8.frozen? ⟨G, 2, none⟩ = false := KX.frozen 2
                  have a3 : w8.cell? ⟨g, 3, none⟩ = some (.slice A n1 c) := K0.cell 3
                  have x3 : w8.cell? ⟨G, 3, none⟩ = some (.slice A1 n1 c1) := KX.cell 3
                  have g3 : w8.cell? ⟨g + 1 + 1, 3, none⟩ = some (.slice none 0 0) := K1.cell 3
                  have e3 : w8.frozen? ⟨g + 1 + 1, 3, none⟩ = false := K1.frozen 3
                  have y3 : w8.frozen? ⟨G, 3, none⟩ = false := KX.frozen 3
                  have a4 : w8.cell? ⟨g, 4, none⟩ = some (.slice P m1 d) := K0.cell 4
                  have x4 : w8.cell? ⟨G, 4, none⟩ = some (.slice P1 m1 d1) := KX.cell 4
                  have g4 : w8.cell? ⟨g + 1 + 1, 4, none⟩ = some (.slice none 0 0) := K1.cell 4
                  have e4 : w8.frozen? ⟨g + 1 + 1, 4, none⟩ = false := K1.frozen 4
                  have y4 : w8.frozen? ⟨G, 4, none⟩ = false := KX.frozen 4
                  go_wp2_with (with_reducible refine AtEnd.of ?_)
                  have KF := put5_blk (v0 := .int .i64 k) (v1 := .int .i64 x) (v2 := .int .i64 y) (v3 := .slice A1 n1 c1) (v4 := .slice P1 m1 d1) (K1)
                  have HBF := put5_below (v0 := .int .i64 k) (v1 := .int .i64 x) (v2 := .int .i64 y) (v3 := .slice A1 n1 c1) (v4 := .slice P1 m1 d1) (HB6) (show g ≤ g + 1 + 1 by omega)
                  have oF := put5_orow (r := g + 1 + 1) (v0 := .int .i64 k) (v1 := .int .i64 x) (v2 := .int .i64 y) (v3 := .slice A1 n1 c1) (v4 := .slice P1 m1 d1) (o6) (by omega)
                  have pF := put5_orow (r := g + 1 + 1) (v0 := .int .i64 k) (v1 := .int .i64 x) (v2 := .int .i64 y) (v3 := .slice A1 n1 c1) (v4 := .slice P1 m1 d1) (p6) (by omega)
                  obtain ⟨wf, hwf⟩ : ∃ wf, wf = put5 (w8) (g + 1 + 1) (.int .i64 k) (.int .i64 x) (.int .i64 y) (.slice A1 n1 c1) (.slice P1 m1 d1) := ⟨_, rfl⟩
                  rw [← hwf] at KF HBF oF pF
                  simp only [put5] at hwf
                  rw [← hwf]
                  clear hwf
                  refine atEnd_ret (results_cell_tmp Tryz.results44 rfl (load_bench KF) rfl) rfl ?_
                  rw [Pl.doB_none HV.out (Pl.st4_e hV.out HSE.out HE.out)]
                  exact ⟨_, rfl, ⟨A1, P1, n1, c1, m1, d1, rfl, oF.mono (by omega), pF.mono (by omega)⟩, by first | exact HBF | (rw [hg]; exact HBF)⟩
                · have HE := Lib.hid hye
                  rw [decide_eq_false hye]
                  clear hye
                  rintro e v7 ⟨rfl, q, rfl⟩
                  clear dd0 dd1 dd2 a0 a1 a2 a3 a4 x0 x1 x2 x3 x4 g0 g1 g2 g3 g4 e0 e1 e2 e3 e4 y0 y1 y2 y3 y4
                  obtain ⟨w8, hww⟩ : ∃ v, v = w7.drewN q := ⟨_, rfl⟩
                  replace K0 : Blk w8 g 44 #[.int .i64 k, .int .i64 x, .int .i64 y, .slice A n1 c, .slice P m1 d] := by rw [hww]; exact K0.drewN q
                  replace KX : Blk w8 G 44 #[.int .i64 k, .int .i64 x, .int .i64 y, .slice A1 n1 c1, .slice P1 m1 d1] := by rw [hww]; exact KX.drewN q
                  replace K1 : Blk w8 (g + 1 + 1) 44 #[.int .i64 0, .int .i64 0, .int .i64 0, .slice none 0 0, .slice none 0 0] := by rw [hww]; exact K1.drewN q
                  replace KD : Blk w8 (g + 1) 24 #[.int .i64 4, .int .i64 dn, .string (Ba t)] := by rw [hww]; exact KD.drewN q
                  replace o6 : ORow w8 (g + 3) 3 A1 n1 c1 (I64 E) := by rw [hww]; exact o6.drewN q
                  replace p6 : ORow w8 (g + 3) 9 P1 m1 d1 (Tx ts) := by rw [hww]; exact p6.drewN q
                  replace f6 : ORow w8 (g + 3) 3 A4 ys.length c4 (I64 ys) := by rw [hww]; exact f6.drewN q
                  replace f9 : ORow w8 (g + 3) 3 A9 fs.length c9 (I64 fs) := by rw [hww]; exact f9.drewN q
                  have hz8 : w8.heap.size = w7.heap.size := by rw [hww]; rfl
                  replace HB6 : Below g w w8 := by rw [hww]; exact below_drewN HB6 q
                  replace RX6 : Hid (Rd w8 B A n1 (I64 E)) := by rw [hww]; exact Lib.hid (RX6.out.drewN q)
                  replace RP6 : Hid (Rd w8 B P m1 (Tx ts)) := by rw [hww]; exact Lib.hid (RP6.out.drewN q)
                  replace hB6 : B ≤ w8.heap.size := by omega
                  replace hGw6 : G < w8.heap.size := by omega
                  replace hgw6 : g + 1 + 1 < w8.heap.size := by omega
                  replace hg6 : g ≤ w8.heap.size := by omega
                  clear hz8
                  rw [← hww]
                  clear hww
                  have dd0 : w8.cell? ⟨g + 1, 0, none⟩ = some (.int .i64 4) := KD.cell 0
                  have dd1 : w8.cell? ⟨g + 1, 1, none⟩ = some (.int .i64 dn) := KD.cell 1
                  have dd2 : w8.cell? ⟨g + 1, 2, none⟩ = some (.string (Ba t)) := KD.cell 2
                  have a0 : w8.cell? ⟨g, 0, none⟩ = some (.int .i64 k) := K0.cell 0
                  have x0 : w8.cell? ⟨G, 0, none⟩ = some (.int .i64 k) := KX.cell 0
                  have g0 : w8.cell? ⟨g + 1 + 1, 0, none⟩ = some (.int .i64 0) := K1.cell 0
                  have e0 : w8.frozen? ⟨g + 1 + 1, 0, none⟩ = false := K1.frozen 0
                  have y0 : w8.frozen? ⟨G, 0, none⟩ = false := KX.frozen 0
                  have a1 : w8.cell? ⟨g, 1, none⟩ = some (.int .i64 x) := K0.cell 1
                  have x1 : w8.cell? ⟨G, 1, none⟩ = some (.int .i64 x) := KX.cell 1
                  have g1 : w8.cell? ⟨g + 1 + 1, 1, none⟩ = some (.int .i64 0) := K1.cell 1
                  have e1 : w8.frozen? ⟨g + 1 + 1, 1, none⟩ = false := K1.frozen 1
                  have y1 : w8.frozen? ⟨G, 1, none⟩ = false := KX.frozen 1
                  have a2 : w8.cell? ⟨g, 2, none⟩ = some (.int .i64 y) := K0.cell 2
                  have x2 : w8.cell? ⟨G, 2, none⟩ = some (.int .i64 y) := KX.cell 2
                  have g2 : w8.cell? ⟨g + 1 + 1, 2, none⟩ = some (.int .i64 0) := K1.cell 2
                  have e2 : w8.frozen? ⟨g + 1 + 1, 2, none⟩ = false := K1.frozen 2
                  have y2 : w8.frozen? ⟨G, 2, none⟩ = false := KX.frozen 2
                  have a3 : w8.cell? ⟨g, 3, none⟩ = some (.slice A n1 c) := K0.cell 3
                  have x3 : w8.cell? ⟨G, 3, none⟩ = some (.slice A1 n1 c1) := KX.cell 3
                  have g3 : w8.cell? ⟨g + 1 + 1, 3, none⟩ = some (.slice none 0 0) := K1.cell 3
                  have e3 : w8.frozen? ⟨g + 1 + 1, 3, none⟩ = false := K1.frozen 3
                  have y3 : w8.frozen? ⟨G, 3, none⟩ = false := KX.frozen 3
                  have a4 : w8.cell? ⟨g, 4, none⟩ = some (.slice P m1 d) := K0.cell 4
                  have x4 : w8.cell? ⟨G, 4, none⟩ = some (.slice P1 m1 d1) := KX.cell 4
                  have g4 : w8.cell? ⟨g + 1 + 1, 4, none⟩ = some (.slice none 0 0) := K1.cell 4
                  have e4 : w8.frozen? ⟨g + 1 + 1, 4, none⟩ = false := K1.frozen 4
                  have y4 : w8.frozen? ⟨G, 4, none⟩ = false := KX.frozen 4
                  go_wp2_with (with_reducible refine AtEnd.of ?_)
                  refine (spec_l10Set ⟨k, x, y, E, ts⟩ A P n1 c m1 d w8.heap.size A9 fs.length c9 fs _ (RX6.out.more hB6) (RP6.out.more hB6) f9.rd (by exact Nat.le_refl _) (by omega) (by omega) (by omega) hnc).mono ?_
                  rintro e ws ⟨v, rfl, ⟨A7, P7, n7, c7, m7, d7, rfl, o7, p7⟩, hb7⟩
                  have hzs := hb7.size
                  have HB7 := HB6.trans (hb7.mono (by exact hg6))
                  have K1s := K1.below hb7 (by exact hgw6)
                  have KXs := KX.below hb7 (by exact hGw6)
                  clear dd0 dd1 dd2 a0 a1 a2 a3 a4 x0 x1 x2 x3 x4 g0 g1 g2 g3 g4 e0 e1 e2 e3 e4 y0 y1 y2 y3 y4
                  have e0 : ws.frozen? ⟨g + 1 + 1, 0, none⟩ = false := K1s.frozen 0
                  have y0 : ws.frozen? ⟨G, 0, none⟩ = false := KXs.frozen 0
                  have x0 : ws.cell? ⟨G, 0, none⟩ = some (.int .i64 k) := KXs.cell 0
                  have g0 : ws.cell? ⟨g + 1 + 1, 0, none⟩ = some (.int .i64 0) := K1s.cell 0
                  have e1 : ws.frozen? ⟨g + 1 + 1, 1, none⟩ = false := K1s.frozen 1
                  have y1 : ws.frozen? ⟨G, 1, none⟩ = false := KXs.frozen 1
                  have x1 : ws.cell? ⟨G, 1, none⟩ = some (.int .i64 x) := KXs.cell 1
                  have g1 : ws.cell? ⟨g + 1 + 1, 1, none⟩ = some (.int .i64 0) := K1s.cell 1
                  have e2 : ws.frozen? ⟨g + 1 + 1, 2, none⟩ = false := K1s.frozen 2
                  have y2 : ws.frozen? ⟨G, 2, none⟩ = false := KXs.frozen 2
                  have x2 : ws.cell? ⟨G, 2, none⟩ = some (.int .i64 y) := KXs.cell 2
                  have g2 : ws.cell? ⟨g + 1 + 1, 2, none⟩ = some (.int .i64 0) := K1s.cell 2
                  have e3 : ws.frozen? ⟨g + 1 + 1, 3, none⟩ = false := K1s.frozen 3
                  have y3 : ws.frozen? ⟨G, 3, none⟩ = false := KXs.frozen 3
                  have x3 : ws.cell? ⟨G, 3, none⟩ = some (.slice A1 n1 c1) := KXs.cell 3
                  have g3 : ws.cell? ⟨g + 1 + 1, 3, none⟩ = some (.slice none 0 0) := K1s.cell 3
                  have e4 : ws.frozen? ⟨g + 1 + 1, 4, none⟩ = false := K1s.frozen 4
                  have y4 : ws.frozen? ⟨G, 4, none⟩ = false := KXs.frozen 4
                  have x4 : ws.cell? ⟨G, 4, none⟩ = some (.slice P1 m1 d1) := KXs.cell 4
                  have g4 : ws.cell? ⟨g + 1 + 1, 4, none⟩ = some (.slice none 0 0) := K1s.cell 4
                  unfold benchV Pl.setB
                  go_wp2_with (with_reducible refine AtEnd.of ?_)
                  have KF := put5_blk (v0 := .int .i64 k) (v1 := .int .i64 x) (v2 := .int .i64 y) (v3 := .slice A7 n7 c7) (v4 := .slice P7 m7 d7) (put5_far (v0 := .int .i64 k) (v1 := .int .i64 x) (v2 := .int .i64 y) (v3 := .slice A7 n7 c7) (v4 := .slice P7 m7 d7) (by exact hgG) K1s)
                  have HBF := put5_below (v0 := .int .i64 k) (v1 := .int .i64 x) (v2 := .int .i64 y) (v3 := .slice A7 n7 c7) (v4 := .slice P7 m7 d7) (put5_below (v0 := .int .i64 k) (v1 := .int .i64 x) (v2 := .int .i64 y) (v3 := .slice A7 n7 c7) (v4 := .slice P7 m7 d7) HB7 (by exact hgGl)) (show g ≤ g + 1 + 1 by omega)
                  have oF := put5_orow (r := g + 1 + 1) (v0 := .int .i64 k) (v1 := .int .i64 x) (v2 := .int .i64 y) (v3 := .slice A7 n7 c7) (v4 := .slice P7 m7 d7) (put5_orow (v0 := .int .i64 k) (v1 := .int .i64 x) (v2 := .int .i64 y) (v3 := .slice A7 n7 c7) (v4 := .slice P7 m7 d7) o7 (by exact hGw6)) (by omega)
                  have pF := put5_orow (r := g + 1 + 1) (v0 := .int .i64 k) (v1 := .int .i64 x) (v2 := .int .i64 y) (v3 := .slice A7 n7 c7) (v4 := .slice P7 m7 d7) (put5_orow (v0 := .int .i64 k) (v1 := .int .i64 x) (v2 := .int .i64 y) (v3 := .slice A7 n7 c7) (v4 := .slice P7 m7 d7) p7 (by exact hGw6)) (by omega)
                  obtain ⟨wf, hwf⟩ : ∃ wf, wf = put5 (put5 ws G (.int .i64 k) (.int .i64 x) (.int .i64 y) (.slice A7 n7 c7) (.slice P7 m7 d7)) (g + 1 + 1) (.int .i64 k) (.int .i64 x) (.int .i64 y) (.slice A7 n7 c7) (.slice P7 m7 d7) := ⟨_, rfl⟩
                  rw [← hwf] at KF HBF oF pF
                  simp only [put5] at hwf
                  rw [← hwf]
                  clear hwf
                  refine atEnd_ret (results_cell_tmp Tryz.results44 rfl (load_bench KF) rfl) rfl ?_
                  rw [Pl.doB_some HV.out (Pl.st4_t hV.out HSE.out HE.out)]
                  exact ⟨_, rfl, ⟨A7, P7, n7, c7, m7, d7, rfl, oF.mono (by omega), pF.mono (by omega)⟩, by first | exact HBF | (rw [hg]; exact HBF)⟩
          · skip
            cases V
            · go_wp2_with (with_reducible refine AtEnd.of ?_)
              have hd3 : ((5 : Int) == 3) = false := rfl
              clear a3 a4
              go_quiet (fail)
              have a3 := True.intro
              have a4 := True.intro
              clear dd0 dd1 dd2 a0 a1 a2 a3 a4 x0 x1 x2 x3 x4 g0 g1 g2 g3 g4 e0 e1 e2 e3 e4 y0 y1 y2 y3 y4
              obtain ⟨w7, hww⟩ : ∃ v, v = w6.drewN nq := ⟨_, rfl⟩
              replace K0 : Blk w7 g 44 #[.int .i64 k, .int .i64 x, .int .i64 y, .slice A n1 c, .slice P m1 d] := by rw [hww]; exact K0.drewN nq
              replace KX : Blk w7 G 44 #[.int .i64 k, .int .i64 x, .int .i64 y, .slice A1 n1 c1, .slice P1 m1 d1] := by rw [hww]; exact KX.drewN nq
              replace K1 : Blk w7 (g + 1 + 1) 44 #[.int .i64 0, .int .i64 0, .int .i64 0, .slice none 0 0, .slice none 0 0] := by rw [hww]; exact K1.drewN nq
              replace KD : Blk w7 (g + 1) 24 #[.int .i64 5, .int .i64 dn, .string (Ba t)] := by rw [hww]; exact KD.drewN nq
              replace o6 : ORow w7 (g + 3) 3 A1 n1 c1 (I64 E) := by rw [hww]; exact o6.drewN nq
              replace p6 : ORow w7 (g + 3) 9 P1 m1 d1 (Tx ts) := by rw [hww]; exact p6.drewN nq
              replace f6 : ORow w7 (g + 3) 3 A4 ys.length c4 (I64 ys) := by rw [hww]; exact f6.drewN nq
              replace f9 : ORow w7 (g + 3) 3 A9 fs.length c9 (I64 fs) := by rw [hww]; exact f9.drewN nq
              have hz7 : w7.heap.size = w6.heap.size := by rw [hww]; rfl
              replace HB6 : Below g w w7 := by rw [hww]; exact below_drewN HB6 nq
              replace RX6 : Hid (Rd w7 B A n1 (I64 E)) := by rw [hww]; exact Lib.hid (RX6.out.drewN nq)
              replace RP6 : Hid (Rd w7 B P m1 (Tx ts)) := by rw [hww]; exact Lib.hid (RP6.out.drewN nq)
              replace hB6 : B ≤ w7.heap.size := by omega
              replace hGw6 : G < w7.heap.size := by omega
              replace hgw6 : g + 1 + 1 < w7.heap.size := by omega
              replace hg6 : g ≤ w7.heap.size := by omega
              clear hz7
              rw [← hww]
              clear hww
              have dd0 : w7.cell? ⟨g + 1, 0, none⟩ = some (.int .i64 5) := KD.cell 0
              have dd1 : w7.cell? ⟨g + 1, 1, none⟩ = some (.int .i64 dn) := KD.cell 1
              have dd2 : w7.cell? ⟨g + 1, 2, none⟩ = some (.string (Ba t)) := KD.cell 2
              have a0 : w7.cell? ⟨g, 0, none⟩ = some (.int .i64 k) := K0.cell 0
              have x0 : w7.cell? ⟨G, 0, none⟩ = some (.int .i64 k) := KX.cell 0
              have g0 : w7.cell? ⟨g + 1 + 1, 0, none⟩ = some (.int .i64 0) := K1.cell 0
              have e0 : w7.frozen? ⟨g + 1 + 1, 0, none⟩ = false := K1.frozen 0
              have y0 : w7.frozen? ⟨G, 0, none⟩ = false := KX.frozen 0
              have a1 : w7.cell? ⟨g, 1, none⟩ = some (.int .i64 x) := K0.cell 1
              have x1 : w7.cell? ⟨G, 1, none⟩ = some (.int .i64 x) := KX.cell 1
              have g1 : w7.cell? ⟨g + 1 + 1, 1, none⟩ = some (.int .i64 0) := K1.cell 1
              have e1 : w7.frozen? ⟨g + 1 + 1, 1, none⟩ = false := K1.frozen 1
              have y1 : w7.frozen? ⟨G, 1, none⟩ = false := KX.frozen 1
              have a2 : w7.cell? ⟨g, 2, none⟩ = some (.int .i64 y) := K0.cell 2
              have x2 : w7.cell? ⟨G, 2, none⟩ = some (.int .i64 y) := KX.cell 2
              have g2 : w7.cell? ⟨g + 1 + 1, 2, none⟩ = some (.int .i64 0) := K1.cell 2
              have e2 : w7.frozen? ⟨g + 1 + 1, 2, none⟩ = false := K1.frozen 2
              have y2 : w7.frozen? ⟨G, 2, none⟩ = false := KX.frozen 2
              have a3 : w7.cell? ⟨g, 3, none⟩ = some (.slice A n1 c) := K0.cell 3
              have x3 : w7.cell? ⟨G, 3, none⟩ = some (.slice A1 n1 c1) := KX.cell 3
              have g3 : w7.cell? ⟨g + 1 + 1, 3, none⟩ = some (.slice none 0 0) := K1.cell 3
              have e3 : w7.frozen? ⟨g + 1 + 1, 3, none⟩ = false := K1.frozen 3
              have y3 : w7.frozen? ⟨G, 3, none⟩ = false := KX.frozen 3
              have a4 : w7.cell? ⟨g, 4, none⟩ = some (.slice P m1 d) := K0.cell 4
              have x4 : w7.cell? ⟨G, 4, none⟩ = some (.slice P1 m1 d1) := KX.cell 4
              have g4 : w7.cell? ⟨g + 1 + 1, 4, none⟩ = some (.slice none 0 0) := K1.cell 4
              have e4 : w7.frozen? ⟨g + 1 + 1, 4, none⟩ = false := K1.frozen 4
              have y4 : w7.frozen? ⟨G, 4, none⟩ = false := KX.frozen 4
              go_wp2_with (with_reducible refine AtEnd.of ?_)
              have KF := put5_blk (v0 := .int .i64 k) (v1 := .int .i64 x) (v2 := .int .i64 y) (v3 := .slice A1 n1 c1) (v4 := .slice P1 m1 d1) (K1)
              have HBF := put5_below (v0 := .int .i64 k) (v1 := .int .i64 x) (v2 := .int .i64 y) (v3 := .slice A1 n1 c1) (v4 := .slice P1 m1 d1) (HB6) (show g ≤ g + 1 + 1 by omega)
              have oF := put5_orow (r := g + 1 + 1) (v0 := .int .i64 k) (v1 := .int .i64 x) (v2 := .int .i64 y) (v3 := .slice A1 n1 c1) (v4 := .slice P1 m1 d1) (o6) (by omega)
              have pF := put5_orow (r := g + 1 + 1) (v0 := .int .i64 k) (v1 := .int .i64 x) (v2 := .int .i64 y) (v3 := .slice A1 n1 c1) (v4 := .slice P1 m1 d1) (p6) (by omega)
              obtain ⟨wf, hwf⟩ : ∃ wf, wf = put5 (w7) (g + 1 + 1) (.int .i64 k) (.int .i64 x) (.int .i64 y) (.slice A1 n1 c1) (.slice P1 m1 d1) := ⟨_, rfl⟩
              rw [← hwf] at KF HBF oF pF
              simp only [put5] at hwf
              rw [← hwf]
              clear hwf
              refine atEnd_ret (results_cell_tmp Tryz.results44 rfl (load_bench KF) rfl) rfl ?_
              rw [Pl.doB_none HV.out (Pl.st5_b hV.out)]
              exact ⟨_, rfl, ⟨A1, P1, n1, c1, m1, d1, rfl, oF.mono (by omega), pF.mono (by omega)⟩, by first | exact HBF | (rw [hg]; exact HBF)⟩
            · by_cases hm0 : m1 = 0
              · subst hm0
                go_wp2_with (with_reducible refine AtEnd.of ?_)
                have hd3 : ((5 : Int) == 3) = false := rfl
                clear a3 a4
                go_quiet (fail)
                have a3 := True.intro
                have a4 := True.intro
                clear dd0 dd1 dd2 a0 a1 a2 a3 a4 x0 x1 x2 x3 x4 g0 g1 g2 g3 g4 e0 e1 e2 e3 e4 y0 y1 y2 y3 y4
                obtain ⟨w7, hww⟩ : ∃ v, v = w6.drewN nq := ⟨_, rfl⟩
                replace K0 : Blk w7 g 44 #[.int .i64 k, .int .i64 x, .int .i64 y, .slice A n1 c, .slice P 0 d] := by rw [hww]; exact K0.drewN nq
                replace KX : Blk w7 G 44 #[.int .i64 k, .int .i64 x, .int .i64 y, .slice A1 n1 c1, .slice P1 0 d1] := by rw [hww]; exact KX.drewN nq
                replace K1 : Blk w7 (g + 1 + 1) 44 #[.int .i64 0, .int .i64 0, .int .i64 0, .slice none 0 0, .slice none 0 0] := by rw [hww]; exact K1.drewN nq
                replace KD : Blk w7 (g + 1) 24 #[.int .i64 5, .int .i64 dn, .string (Ba t)] := by rw [hww]; exact KD.drewN nq
                replace o6 : ORow w7 (g + 3) 3 A1 n1 c1 (I64 E) := by rw [hww]; exact o6.drewN nq
                replace p6 : ORow w7 (g + 3) 9 P1 0 d1 (Tx ts) := by rw [hww]; exact p6.drewN nq
                replace f6 : ORow w7 (g + 3) 3 A4 ys.length c4 (I64 ys) := by rw [hww]; exact f6.drewN nq
                replace f9 : ORow w7 (g + 3) 3 A9 fs.length c9 (I64 fs) := by rw [hww]; exact f9.drewN nq
                have hz7 : w7.heap.size = w6.heap.size := by rw [hww]; rfl
                replace HB6 : Below g w w7 := by rw [hww]; exact below_drewN HB6 nq
                replace RX6 : Hid (Rd w7 B A n1 (I64 E)) := by rw [hww]; exact Lib.hid (RX6.out.drewN nq)
                replace RP6 : Hid (Rd w7 B P 0 (Tx ts)) := by rw [hww]; exact Lib.hid (RP6.out.drewN nq)
                replace hB6 : B ≤ w7.heap.size := by omega
                replace hGw6 : G < w7.heap.size := by omega
                replace hgw6 : g + 1 + 1 < w7.heap.size := by omega
                replace hg6 : g ≤ w7.heap.size := by omega
                clear hz7
                rw [← hww]
                clear hww
                have dd0 : w7.cell? ⟨g + 1, 0, none⟩ = some (.int .i64 5) := KD.cell 0
                have dd1 : w7.cell? ⟨g + 1, 1, none⟩ = some (.int .i64 dn) := KD.cell 1
                have dd2 : w7.cell? ⟨g + 1, 2, none⟩ = some (.string (Ba t)) := KD.cell 2
                have a0 : w7.cell? ⟨g, 0, none⟩ = some (.int .i64 k) := K0.cell 0
                have x0 : w7.cell? ⟨G, 0, none⟩ = some (.int .i64 k) := KX.cell 0
                have g0 : w7.cell? ⟨g + 1 + 1, 0, none⟩ = some (.int .i64 0) := K1.cell 0
                have e0 : w7.frozen? ⟨g + 1 + 1, 0, none⟩ = false := K1.frozen 0
                have y0 : w7.frozen? ⟨G, 0, none⟩ = false := KX.frozen 0
                have a1 : w7.cell? ⟨g, 1, none⟩ = some (.int .i64 x) := K0.cell 1
                have x1 : w7.cell? ⟨G, 1, none⟩ = some (.int .i64 x) := KX.cell 1
                have g1 : w7.cell? ⟨g + 1 + 1, 1, none⟩ = some (.int .i64 0) := K1.cell 1
                have e1 : w7.frozen? ⟨g + 1 + 1, 1, none⟩ = false := K1.frozen 1
                have y1 : w7.frozen? ⟨G, 1, none⟩ = false := KX.frozen 1
                have a2 : w7.cell? ⟨g, 2, none⟩ = some (.int .i64 y) := K0.cell 2
                have x2 : w7.cell? ⟨G, 2, none⟩ = some (.int .i64 y) := KX.cell 2
                have g2 : w7.cell? ⟨g + 1 + 1, 2, none⟩ = some (.int .i64 0) := K1.cell 2
                have e2 : w7.frozen? ⟨g + 1 + 1, 2, none⟩ = false := K1.frozen 2
                have y2 : w7.frozen? ⟨G, 2, none⟩ = false := KX.frozen 2
                have a3 : w7.cell? ⟨g, 3, none⟩ = some (.slice A n1 c) := K0.cell 3
                have x3 : w7.cell? ⟨G, 3, none⟩ = some (.slice A1 n1 c1) := KX.cell 3
                have g3 : w7.cell? ⟨g + 1 + 1, 3, none⟩ = some (.slice none 0 0) := K1.cell 3
                have e3 : w7.frozen? ⟨g + 1 + 1, 3, none⟩ = false := K1.frozen 3
                have y3 : w7.frozen? ⟨G, 3, none⟩ = false := KX.frozen 3
                have a4 : w7.cell? ⟨g, 4, none⟩ = some (.slice P 0 d) := K0.cell 4
                have x4 : w7.cell? ⟨G, 4, none⟩ = some (.slice P1 0 d1) := KX.cell 4
                have g4 : w7.cell? ⟨g + 1 + 1, 4, none⟩ = some (.slice none 0 0) := K1.cell 4
                have e4 : w7.frozen? ⟨g + 1 + 1, 4, none⟩ = false := K1.frozen 4
                have y4 : w7.frozen? ⟨G, 4, none⟩ = false := KX.frozen 4
                go_wp2_with (with_reducible refine AtEnd.of ?_)
                have KF := put5_blk (v0 := .int .i64 k) (v1 := .int .i64 x) (v2 := .int .i64 y) (v3 := .slice A1 n1 c1) (v4 := .slice P1 0 d1) (K1)
                have HBF := put5_below (v0 := .int .i64 k) (v1 := .int .i64 x) (v2 := .int .i64 y) (v3 := .slice A1 n1 c1) (v4 := .slice P1 0 d1) (HB6) (show g ≤ g + 1 + 1 by omega)
                have oF := put5_orow (r := g + 1 + 1) (v0 := .int .i64 k) (v1 := .int .i64 x) (v2 := .int .i64 y) (v3 := .slice A1 n1 c1) (v4 := .slice P1 0 d1) (o6) (by omega)
                have pF := put5_orow (r := g + 1 + 1) (v0 := .int .i64 k) (v1 := .int .i64 x) (v2 := .int .i64 y) (v3 := .slice A1 n1 c1) (v4 := .slice P1 0 d1) (p6) (by omega)
                obtain ⟨wf, hwf⟩ : ∃ wf, wf = put5 (w7) (g + 1 + 1) (.int .i64 k) (.int .i64 x) (.int .i64 y) (.slice A1 n1 c1) (.slice P1 0 d1) := ⟨_, rfl⟩
                rw [← hwf] at KF HBF oF pF
                simp only [put5] at hwf
                rw [← hwf]
                clear hwf
                refine atEnd_ret (results_cell_tmp Tryz.results44 rfl (load_bench KF) rfl) rfl ?_
                rw [Pl.doB_none HV.out (Pl.st5_n hV.out lp)]
                exact ⟨_, rfl, ⟨A1, P1, n1, c1, 0, d1, rfl, oF.mono (by omega), pF.mono (by omega)⟩, by first | exact HBF | (rw [hg]; exact HBF)⟩
              · obtain ⟨j, rfl⟩ : ∃ j, m1 = j + 1 := ⟨m1 - 1, by omega⟩
                obtain ⟨s, es⟩ : ∃ s, ts[j]? = some s := ⟨_, List.getElem?_eq_getElem (by omega)⟩
                have CS := Lib.hid (fun w' => spec_ReadExpr s w' (HS.out s (List.mem_of_getElem? es)))
                have HST := Lib.hid (Pl.st5_t (b := ⟨k, x, y, E, ts⟩) (j := j) hV.out lp es)
                have HES := Lib.hid es
                obtain ⟨b, off, rfl, _, hc⟩ := RP6.out.pos (by omega)
                have hj1 : (0 : Int) < ((j + 1 : Nat) : Int) := by omega
                have hj2 : (0 : Int) < (j : Int) + 1 := by omega
                have hj3 : IntKind.i64.wrap (((j + 1 : Nat) : Int) - 1) = (j : Int) := by rw [show (((j + 1 : Nat) : Int) - 1) = (j : Int) by omega]; exact IntWalk.i64_in _ (by omega)
                have hj4 : IntKind.i64.wrap ((j : Int) + 1 - 1) = (j : Int) := by rw [show ((j : Int) + 1 - 1) = (j : Int) by omega]; exact IntWalk.i64_in _ (by omega)
                have hj7 : IntKind.i64.wrap (j : Int) = (j : Int) := IntWalk.i64_in _ (by omega)
                have hj5 : (j : Int) < ((j + 1 : Nat) : Int) := by omega
                have hj6 : (j : Int) < (j : Int) + 1 := by omega
                clear hc es hm0
                go_wp2_with (with_reducible refine AtEnd.of ?_)
                have hd3 : ((5 : Int) == 3) = false := rfl
                clear a3 a4
                go_quiet (fail)
                have a3 := True.intro
                have a4 := True.intro
                clear dd0 dd1 dd2 a0 a1 a2 a3 a4 x0 x1 x2 x3 x4 g0 g1 g2 g3 g4 e0 e1 e2 e3 e4 y0 y1 y2 y3 y4
                obtain ⟨w7, hww⟩ : ∃ v, v = w6.drewN nq := ⟨_, rfl⟩
                replace K0 : Blk w7 g 44 #[.int .i64 k, .int .i64 x, .int .i64 y, .slice A n1 c, .slice (some ⟨b, off, none⟩) (j + 1) d] := by rw [hww]; exact K0.drewN nq
                replace KX : Blk w7 G 44 #[.int .i64 k, .int .i64 x, .int .i64 y, .slice A1 n1 c1, .slice P1 (j + 1) d1] := by rw [hww]; exact KX.drewN nq
                replace K1 : Blk w7 (g + 1 + 1) 44 #[.int .i64 0, .int .i64 0, .int .i64 0, .slice none 0 0, .slice none 0 0] := by rw [hww]; exact K1.drewN nq
                replace KD : Blk w7 (g + 1) 24 #[.int .i64 5, .int .i64 dn, .string (Ba t)] := by rw [hww]; exact KD.drewN nq
                replace o6 : ORow w7 (g + 3) 3 A1 n1 c1 (I64 E) := by rw [hww]; exact o6.drewN nq
                replace p6 : ORow w7 (g + 3) 9 P1 (j + 1) d1 (Tx ts) := by rw [hww]; exact p6.drewN nq
                replace f6 : ORow w7 (g + 3) 3 A4 ys.length c4 (I64 ys) := by rw [hww]; exact f6.drewN nq
                replace f9 : ORow w7 (g + 3) 3 A9 fs.length c9 (I64 fs) := by rw [hww]; exact f9.drewN nq
                have hz7 : w7.heap.size = w6.heap.size := by rw [hww]; rfl
                replace HB6 : Below g w w7 := by rw [hww]; exact below_drewN HB6 nq
                replace RX6 : Hid (Rd w7 B A n1 (I64 E)) := by rw [hww]; exact Lib.hid (RX6.out.drewN nq)
                replace RP6 : Hid (Rd w7 B (some ⟨b, off, none⟩) (j + 1) (Tx ts)) := by rw [hww]; exact Lib.hid (RP6.out.drewN nq)
                replace hB6 : B ≤ w7.heap.size := by omega
                replace hGw6 : G < w7.heap.size := by omega
                replace hgw6 : g + 1 + 1 < w7.heap.size := by omega
                replace hg6 : g ≤ w7.heap.size := by omega
                clear hz7
                rw [← hww]
                clear hww
                have dd0 : w7.cell? ⟨g + 1, 0, none⟩ = some (.int .i64 5) := KD.cell 0
                have dd1 : w7.cell? ⟨g + 1, 1, none⟩ = some (.int .i64 dn) := KD.cell 1
                have dd2 : w7.cell? ⟨g + 1, 2, none⟩ = some (.string (Ba t)) := KD.cell 2
                have a0 : w7.cell? ⟨g, 0, none⟩ = some (.int .i64 k) := K0.cell 0
                have x0 : w7.cell? ⟨G, 0, none⟩ = some (.int .i64 k) := KX.cell 0
                have g0 : w7.cell? ⟨g + 1 + 1, 0, none⟩ = some (.int .i64 0) := K1.cell 0
                have e0 : w7.frozen? ⟨g + 1 + 1, 0, none⟩ = false := K1.frozen 0
                have y0 : w7.frozen? ⟨G, 0, none⟩ = false := KX.frozen 0
                have a1 : w7.cell? ⟨g, 1, none⟩ = some (.int .i64 x) := K0.cell 1
                have x1 : w7.cell? ⟨G, 1, none⟩ = some (.int .i64 x) := KX.cell 1
                have g1 : w7.cell? ⟨g + 1 + 1, 1, none⟩ = some (.int .i64 0) := K1.cell 1
                have e1 : w7.frozen? ⟨g + 1 + 1, 1, none⟩ = false := K1.frozen 1
                have y1 : w7.frozen? ⟨G, 1, none⟩ = false := KX.frozen 1
                have a2 : w7.cell? ⟨g, 2, none⟩ = some (.int .i64 y) := K0.cell 2
                have x2 : w7.cell? ⟨G, 2, none⟩ = some (.int .i64 y) := KX.cell 2
                have g2 : w7.cell? ⟨g + 1 + 1, 2, none⟩ = some (.int .i64 0) := K1.cell 2
                have e2 : w7.frozen? ⟨g + 1 + 1, 2, none⟩ = false := K1.frozen 2
                have y2 : w7.frozen? ⟨G, 2, none⟩ = false := KX.frozen 2
                have a3 : w7.cell? ⟨g, 3, none⟩ = some (.slice A n1 c) := K0.cell 3
                have x3 : w7.cell? ⟨G, 3, none⟩ = some (.slice A1 n1 c1) := KX.cell 3
                have g3 : w7.cell? ⟨g + 1 + 1, 3, none⟩ = some (.slice none 0 0) := K1.cell 3
                have e3 : w7.frozen? ⟨g + 1 + 1, 3, none⟩ = false := K1.frozen 3
                have y3 : w7.frozen? ⟨G, 3, none⟩ = false := KX.frozen 3
                have a4 : w7.cell? ⟨g, 4, none⟩ = some (.slice (some ⟨b, off, none⟩) (j + 1) d) := K0.cell 4
                have x4 : w7.cell? ⟨G, 4, none⟩ = some (.slice P1 (j + 1) d1) := KX.cell 4
                have g4 : w7.cell? ⟨g + 1 + 1, 4, none⟩ = some (.slice none 0 0) := K1.cell 4
                have e4 : w7.frozen? ⟨g + 1 + 1, 4, none⟩ = false := K1.frozen 4
                have y4 : w7.frozen? ⟨G, 4, none⟩ = false := KX.frozen 4
                obtain ⟨b', off', hbe, _, hc⟩ := RP6.out.pos (by omega)
                obtain rfl : b = b' := by injection hbe with h; injection h
                obtain rfl : off = off' := by injection hbe with h; injection h
                have cs : w7.cell? ⟨b, off + j, none⟩ = some (.string (Ba s)) := hc j _ (Tx_get HES.out)
                clear hc hbe
                go_wp2_with (with_reducible refine AtEnd.of ?_)
                refine (CS.out _).mono ?_
                rintro e ws ⟨zs, A7, c7, hzy, rfl, own7, hb7⟩
                have HST := Lib.hid (by have := HST.out; rw [← hzy] at this; exact this)
                have hzs := hb7.size
                have HB7 := HB6.trans (hb7.mono hg6)
                have K1s := K1.below hb7 (by exact hgw6)
                have KXs := KX.below hb7 (by exact hGw6)
                have p7 := p6.below hb7
                obtain ⟨b1, off1, rfl⟩ := p7.some (by omega)
                have hcp := p7.cap
                have hcp1 : (j : Int) ≤ (d1 : Int) := by omega
                have hj0 : (0 : Int) ≤ (j : Int) := by omega
                have o7 : ORow ws (g + 3) 3 A7 zs.length c7 (I64 zs) := (ORow.of_own own7).mono (by omega)
                have e0 : ws.frozen? ⟨g + 1 + 1, 0, none⟩ = false := K1s.frozen 0
                have g0c : ws.cell? ⟨g + 1 + 1, 0, none⟩ = some (.int .i64 0) := K1s.cell 0
                have x0c : ws.cell? ⟨G, 0, none⟩ = some (.int .i64 k) := KXs.cell 0
                have e1 : ws.frozen? ⟨g + 1 + 1, 1, none⟩ = false := K1s.frozen 1
                have g1c : ws.cell? ⟨g + 1 + 1, 1, none⟩ = some (.int .i64 0) := K1s.cell 1
                have x1c : ws.cell? ⟨G, 1, none⟩ = some (.int .i64 x) := KXs.cell 1
                have e2 : ws.frozen? ⟨g + 1 + 1, 2, none⟩ = false := K1s.frozen 2
                have g2c : ws.cell? ⟨g + 1 + 1, 2, none⟩ = some (.int .i64 0) := K1s.cell 2
                have x2c : ws.cell? ⟨G, 2, none⟩ = some (.int .i64 y) := KXs.cell 2
                have e3 : ws.frozen? ⟨g + 1 + 1, 3, none⟩ = false := K1s.frozen 3
                have g3c : ws.cell? ⟨g + 1 + 1, 3, none⟩ = some (.slice none 0 0) := K1s.cell 3
                have x3c : ws.cell? ⟨G, 3, none⟩ = some (.slice A1 n1 c1) := KXs.cell 3
                have e4 : ws.frozen? ⟨g + 1 + 1, 4, none⟩ = false := K1s.frozen 4
                have g4c : ws.cell? ⟨g + 1 + 1, 4, none⟩ = some (.slice none 0 0) := K1s.cell 4
                have x4c : ws.cell? ⟨G, 4, none⟩ = some (.slice (some ⟨b1, off1, none⟩) (j + 1) d1) := KXs.cell 4
                have y3 : ws.frozen? ⟨G, 3, none⟩ = false := KXs.frozen 3
                have y4 : ws.frozen? ⟨G, 4, none⟩ = false := KXs.frozen 4
                have q7 := p7.take (show j ≤ j + 1 by omega)
                rw [Tx_take] at q7
                clear dd0 dd1 dd2 a0 a1 a2 a3 a4 x0 x1 x2 x3 x4 g0 g1 g2 g3 g4 y0 y1 y2 hzy own7 hb7
                go_wp2_with (with_reducible refine AtEnd.of ?_)
                have KF := put5_blk (v0 := .int .i64 k) (v1 := .int .i64 x) (v2 := .int .i64 y) (v3 := .slice A7 zs.length c7) (v4 := .slice (some ⟨b1, off1, none⟩) j d1) ((K1s.far (p := ⟨G, 3, none⟩) (Ne.symm hgG) (.slice A7 zs.length c7)).far (p := ⟨G, 4, none⟩) (Ne.symm hgG) (.slice (some ⟨b1, off1, none⟩) j d1))
                have HBF := put5_below (v0 := .int .i64 k) (v1 := .int .i64 x) (v2 := .int .i64 y) (v3 := .slice A7 zs.length c7) (v4 := .slice (some ⟨b1, off1, none⟩) j d1) ((HB7.setCell (p := ⟨G, 3, none⟩) hgGl (.slice A7 zs.length c7)).setCell (p := ⟨G, 4, none⟩) hgGl (.slice (some ⟨b1, off1, none⟩) j d1)) (show g ≤ g + 1 + 1 by omega)
                have oF := put5_orow (r := g + 1 + 1) (v0 := .int .i64 k) (v1 := .int .i64 x) (v2 := .int .i64 y) (v3 := .slice A7 zs.length c7) (v4 := .slice (some ⟨b1, off1, none⟩) j d1) ((o7.set_blk (o := 3) KXs (by decide) (.slice A7 zs.length c7)).set_blk (o := 4) (KXs.set_ 3 (.slice A7 zs.length c7)) (by decide) (.slice (some ⟨b1, off1, none⟩) j d1)) (by omega)
                have pF := put5_orow (r := g + 1 + 1) (v0 := .int .i64 k) (v1 := .int .i64 x) (v2 := .int .i64 y) (v3 := .slice A7 zs.length c7) (v4 := .slice (some ⟨b1, off1, none⟩) j d1) ((q7.set_blk (o := 3) KXs (by decide) (.slice A7 zs.length c7)).set_blk (o := 4) (KXs.set_ 3 (.slice A7 zs.length c7)) (by decide) (.slice (some ⟨b1, off1, none⟩) j d1)) (by omega)
                obtain ⟨wf, hwf⟩ : ∃ wf, wf = put5 ((ws.setCell ⟨G, 3, none⟩ (.slice A7 zs.length c7)).setCell ⟨G, 4, none⟩ (.slice (some ⟨b1, off1, none⟩) j d1)) (g + 1 + 1) (.int .i64 k) (.int .i64 x) (.int .i64 y) (.slice A7 zs.length c7) (.slice (some ⟨b1, off1, none⟩) j d1) := ⟨_, rfl⟩
                rw [← hwf] at KF HBF oF pF
                simp only [put5] at hwf
                rw [← hwf]
                clear hwf
                refine atEnd_ret (results_cell_tmp Tryz.results44 rfl (load_bench KF) rfl) rfl ?_
                rw [Pl.doB_some HV.out HST.out]
                exact ⟨_, rfl, ⟨A7, some ⟨b1, off1, none⟩, zs.length, c7, j, d1, rfl, oF.mono (by omega), pF.mono (by omega)⟩, by first | exact HBF | (rw [hg]; exact HBF)⟩
          · skip
            have h0' : (dk == 0) = false := by rw [beq_eq_false_iff_ne]; exact h0
            have h1' : (dk == 1) = false := by rw [beq_eq_false_iff_ne]; exact h1
            have h2' : (dk == 2) = false := by rw [beq_eq_false_iff_ne]; exact h2
            have h3' : (dk == 3) = false := by rw [beq_eq_false_iff_ne]; exact h3
            have h4' : (dk == 4) = false := by rw [beq_eq_false_iff_ne]; exact h4
            have h5' : (dk == 5) = false := by rw [beq_eq_false_iff_ne]; exact h5
            have HK := Lib.hid (Pl.st6 (b := ⟨k, x, y, E, ts⟩) (n := dn) (t := t) h0 h1 h2 h3 h4 h5)
            clear h0 h1 h2 h3 h4 h5
            go_wp2_with (with_reducible refine AtEnd.of ?_)
            clear a3 a4
            go_quiet (fail)
            have a3 := True.intro
            have a4 := True.intro
            clear dd0 dd1 dd2 a0 a1 a2 a3 a4 x0 x1 x2 x3 x4 g0 g1 g2 g3 g4 e0 e1 e2 e3 e4 y0 y1 y2 y3 y4
            obtain ⟨w7, hww⟩ : ∃ v, v = w6.drewN nq := ⟨_, rfl⟩
            replace K0 : Blk w7 g 44 #[.int .i64 k, .int .i64 x, .int .i64 y, .slice A n1 c, .slice P m1 d] := by rw [hww]; exact K0.drewN nq
            replace KX : Blk w7 G 44 #[.int .i64 k, .int .i64 x, .int .i64 y, .slice A1 n1 c1, .slice P1 m1 d1] := by rw [hww]; exact KX.drewN nq
            replace K1 : Blk w7 (g + 1 + 1) 44 #[.int .i64 0, .int .i64 0, .int .i64 0, .slice none 0 0, .slice none 0 0] := by rw [hww]; exact K1.drewN nq
            replace KD : Blk w7 (g + 1) 24 #[.int .i64 dk, .int .i64 dn, .string (Ba t)] := by rw [hww]; exact KD.drewN nq
            replace o6 : ORow w7 (g + 3) 3 A1 n1 c1 (I64 E) := by rw [hww]; exact o6.drewN nq
            replace p6 : ORow w7 (g + 3) 9 P1 m1 d1 (Tx ts) := by rw [hww]; exact p6.drewN nq
            replace f6 : ORow w7 (g + 3) 3 A4 ys.length c4 (I64 ys) := by rw [hww]; exact f6.drewN nq
            replace f9 : ORow w7 (g + 3) 3 A9 fs.length c9 (I64 fs) := by rw [hww]; exact f9.drewN nq
            have hz7 : w7.heap.size = w6.heap.size := by rw [hww]; rfl
            replace HB6 : Below g w w7 := by rw [hww]; exact below_drewN HB6 nq
            replace RX6 : Hid (Rd w7 B A n1 (I64 E)) := by rw [hww]; exact Lib.hid (RX6.out.drewN nq)
            replace RP6 : Hid (Rd w7 B P m1 (Tx ts)) := by rw [hww]; exact Lib.hid (RP6.out.drewN nq)
            replace hB6 : B ≤ w7.heap.size := by omega
            replace hGw6 : G < w7.heap.size := by omega
            replace hgw6 : g + 1 + 1 < w7.heap.size := by omega
            replace hg6 : g ≤ w7.heap.size := by omega
            clear hz7
            rw [← hww]
            clear hww
            have dd0 : w7.cell? ⟨g + 1, 0, none⟩ = some (.int .i64 dk) := KD.cell 0
            have dd1 : w7.cell? ⟨g + 1, 1, none⟩ = some (.int .i64 dn) := KD.cell 1
            have dd2 : w7.cell? ⟨g + 1, 2, none⟩ = some (.string (Ba t)) := KD.cell 2
            have a0 : w7.cell? ⟨g, 0, none⟩ = some (.int .i64 k) := K0.cell 0
            have x0 : w7.cell? ⟨G, 0, none⟩ = some (.int .i64 k) := KX.cell 0
            have g0 : w7.cell? ⟨g + 1 + 1, 0, none⟩ = some (.int .i64 0) := K1.cell 0
            have e0 : w7.frozen? ⟨g + 1 + 1, 0, none⟩ = false := K1.frozen 0
            have y0 : w7.frozen? ⟨G, 0, none⟩ = false := KX.frozen 0
            have a1 : w7.cell? ⟨g, 1, none⟩ = some (.int .i64 x) := K0.cell 1
            have x1 : w7.cell? ⟨G, 1, none⟩ = some (.int .i64 x) := KX.cell 1
            have g1 : w7.cell? ⟨g + 1 + 1, 1, none⟩ = some (.int .i64 0) := K1.cell 1
            have e1 : w7.frozen? ⟨g + 1 + 1, 1, none⟩ = false := K1.frozen 1
            have y1 : w7.frozen? ⟨G, 1, none⟩ = false := KX.frozen 1
            have a2 : w7.cell? ⟨g, 2, none⟩ = some (.int .i64 y) := K0.cell 2
            have x2 : w7.cell? ⟨G, 2, none⟩ = some (.int .i64 y) := KX.cell 2
            have g2 : w7.cell? ⟨g + 1 + 1, 2, none⟩ = some (.int .i64 0) := K1.cell 2
            have e2 : w7.frozen? ⟨g + 1 + 1, 2, none⟩ = false := K1.frozen 2
            have y2 : w7.frozen? ⟨G, 2, none⟩ = false := KX.frozen 2
            have a3 : w7.cell? ⟨g, 3, none⟩ = some (.slice A n1 c) := K0.cell 3
            have x3 : w7.cell? ⟨G, 3, none⟩ = some (.slice A1 n1 c1) := KX.cell 3
            have g3 : w7.cell? ⟨g + 1 + 1, 3, none⟩ = some (.slice none 0 0) := K1.cell 3
            have e3 : w7.frozen? ⟨g + 1 + 1, 3, none⟩ = false := K1.frozen 3
            have y3 : w7.frozen? ⟨G, 3, none⟩ = false := KX.frozen 3
            have a4 : w7.cell? ⟨g, 4, none⟩ = some (.slice P m1 d) := K0.cell 4
            have x4 : w7.cell? ⟨G, 4, none⟩ = some (.slice P1 m1 d1) := KX.cell 4
            have g4 : w7.cell? ⟨g + 1 + 1, 4, none⟩ = some (.slice none 0 0) := K1.cell 4
            have e4 : w7.frozen? ⟨g + 1 + 1, 4, none⟩ = false := K1.frozen 4
            have y4 : w7.frozen? ⟨G, 4, none⟩ = false := KX.frozen 4
            go_wp2_with (with_reducible refine AtEnd.of ?_)
            have KF := put5_blk (v0 := .int .i64 k) (v1 := .int .i64 x) (v2 := .int .i64 y) (v3 := .slice A1 n1 c1) (v4 := .slice P1 m1 d1) (K1)
            have HBF := put5_below (v0 := .int .i64 k) (v1 := .int .i64 x) (v2 := .int .i64 y) (v3 := .slice A1 n1 c1) (v4 := .slice P1 m1 d1) (HB6) (show g ≤ g + 1 + 1 by omega)
            have oF := put5_orow (r := g + 1 + 1) (v0 := .int .i64 k) (v1 := .int .i64 x) (v2 := .int .i64 y) (v3 := .slice A1 n1 c1) (v4 := .slice P1 m1 d1) (o6) (by omega)
            have pF := put5_orow (r := g + 1 + 1) (v0 := .int .i64 k) (v1 := .int .i64 x) (v2 := .int .i64 y) (v3 := .slice A1 n1 c1) (v4 := .slice P1 m1 d1) (p6) (by omega)
            obtain ⟨wf, hwf⟩ : ∃ wf, wf = put5 (w7) (g + 1 + 1) (.int .i64 k) (.int .i64 x) (.int .i64 y) (.slice A1 n1 c1) (.slice P1 m1 d1) := ⟨_, rfl⟩
            rw [← hwf] at KF HBF oF pF
            simp only [put5] at hwf
            rw [← hwf]
            clear hwf
            refine atEnd_ret (results_cell_tmp Tryz.results44 rfl (load_bench KF) rfl) rfl ?_
            rw [Pl.doB_none HV.out (HK.out)]
            exact ⟨_, rfl, ⟨A1, P1, n1, c1, m1, d1, rfl, oF.mono (by omega), pF.mono (by omega)⟩, by first | exact HBF | (rw [hg]; exact HBF)⟩
end Go.Proofs.YtamhpgledbmnoaaGreatDoor
