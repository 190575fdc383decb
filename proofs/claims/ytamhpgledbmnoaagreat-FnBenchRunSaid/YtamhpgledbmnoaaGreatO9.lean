/-
  The program's BenchDo.
  Conditions: as stated.
-/
import Derived.Test.YtamhpgledbmnoaaGreatO8
namespace Go.Proofs.YtamhpgledbmnoaaGreat
set_option linter.unusedVariables false
set_option linter.unusedSimpArgs false
open Go.RowKit
set_option maxRecDepth 100000 in
set_option maxHeartbeats 8000000 in
theorem impl_BenchDo (b : Pl.Bn) (D : Pl.Dd) (A P : Option Addr) (n c m d B : Nat) (w : World) (hx : Rd w B A n (I64 b.e)) (hp : Rd w B P m (Tx b.past)) (hB : B ≤ w.heap.size) (hn : n ≤ 2000000) (hm : m ≤ 2000000) (hnc : n ≤ c) (hs : ∀ s ∈ b.past, s.length ≤ 2000000) (ht : D.t.length ≤ 2000000) :
    Calls Tryz.prog 11 #[benchV b.k b.x b.y A n c P m d, deedV D.k D.n D.t] w fun e w' => ∃ v, e = .returned (.tuple #[v, .bool (Pl.doB b D).2]) ∧ BnO w' w.heap.size v (Pl.doB b D).1 ∧ Below w.heap.size w w' := by
  obtain ⟨k, x, y, E, ts⟩ := b
  obtain ⟨dk, dn, t⟩ := D
  have lx : E.length = n := by have := hx.len; rwa [I64_len] at this
  have lp : ts.length = m := by have := hp.len; rwa [Tx_len] at this
  have HX := Lib.hid hx
  have HP := Lib.hid hp
  obtain ⟨g, hg⟩ : ∃ g, w.heap.size = g := ⟨_, rfl⟩
  have hBg : B ≤ g := by omega
  obtain ⟨w0, hw0⟩ : ∃ w0, w0 = ((w.alloc (.cells #[.int .i64 k, .int .i64 x, .int .i64 y, .slice A n c, .slice P m d] 30)).alloc (.cells #[.int .i64 dk, .int .i64 dn, .string (Ba t)] 34)).alloc (.cells #[.int .i64 0, .int .i64 0, .int .i64 0, .slice none 0 0, .slice none 0 0] 30) := ⟨_, rfl⟩
  have hz0 : w0.heap.size = g + 3 := by rw [hw0, ← hg]; simp
  have HB0 : Below g w w0 := by rw [hw0, ← hg]; go_grown
  have K0 : Blk w0 g 30 #[.int .i64 k, .int .i64 x, .int .i64 y, .slice A n c, .slice P m d] := by rw [hw0, ← hg]; exact ((Blk.new w _ _).alloc _).alloc _
  have KD : Blk w0 (g + 1) 34 #[.int .i64 dk, .int .i64 dn, .string (Ba t)] := by
    rw [hw0, ← hg]
    have := (Blk.new (w.alloc (.cells #[.int .i64 k, .int .i64 x, .int .i64 y, .slice A n c, .slice P m d] 30)) 34 #[.int .i64 dk, .int .i64 dn, .string (Ba t)])
    rw [World.size_alloc] at this
    exact this.alloc _
  have K1 : Blk w0 (g + 1 + 1) 30 #[.int .i64 0, .int .i64 0, .int .i64 0, .slice none 0 0, .slice none 0 0] := by
    rw [hw0, ← hg]
    have := (Blk.new ((w.alloc (.cells #[.int .i64 k, .int .i64 x, .int .i64 y, .slice A n c, .slice P m d] 30)).alloc (.cells #[.int .i64 dk, .int .i64 dn, .string (Ba t)] 34)) 30 #[.int .i64 0, .int .i64 0, .int .i64 0, .slice none 0 0, .slice none 0 0])
    rw [World.size_alloc, World.size_alloc] at this
    exact this
  have CV := Lib.hid (fun w' h h' hB' => impl_BenchValid ⟨k, x, y, E, ts⟩ A P n c m d B w' h h' hB' (by omega) (by omega) (fun s h => by have := hs s h; omega))
  have HT := Lib.hid ht
  have HS := Lib.hid hs
  unfold benchV deedV
  clear hx hp hs ht
  go_enter Tryz.func11, Tryz.ntmps11
  go_wp2_with (with_reducible refine AtEnd.of ?_)
  rw [← hw0]
  clear hw0
  refine (CV.out _ (HX.out.below (HB0.mono hBg)) (HP.out.below (HB0.mono hBg)) (by omega)).mono ?_
  rintro e w1 ⟨rfl, hb1⟩
  have hz1 := hb1.size
  have HB1 := HB0.trans (hb1.mono (by omega))
  have K0 := K0.below hb1 (by omega)
  have KD := KD.below hb1 (by omega)
  have K1 := K1.below hb1 (by omega)
  cases hv : Pl.benchValid ⟨k, x, y, E, ts⟩
  · have hr := Lib.hid (Pl.doB_f (d := ⟨dk, dn, t⟩) hv)
    clear hv
    have g0 : w1.cell? ⟨g + 1 + 1, 0, none⟩ = some (.int .i64 0) := K1.cell 0
    have g1 : w1.cell? ⟨g + 1 + 1, 1, none⟩ = some (.int .i64 0) := K1.cell 1
    have g2 : w1.cell? ⟨g + 1 + 1, 2, none⟩ = some (.int .i64 0) := K1.cell 2
    have g3 : w1.cell? ⟨g + 1 + 1, 3, none⟩ = some (.slice none 0 0) := K1.cell 3
    have g4 : w1.cell? ⟨g + 1 + 1, 4, none⟩ = some (.slice none 0 0) := K1.cell 4
    have e0 : w1.frozen? ⟨g + 1 + 1, 0, none⟩ = false := K1.frozen 0
    have e1 : w1.frozen? ⟨g + 1 + 1, 1, none⟩ = false := K1.frozen 1
    have e2 : w1.frozen? ⟨g + 1 + 1, 2, none⟩ = false := K1.frozen 2
    have e3 : w1.frozen? ⟨g + 1 + 1, 3, none⟩ = false := K1.frozen 3
    have e4 : w1.frozen? ⟨g + 1 + 1, 4, none⟩ = false := K1.frozen 4
    have KF := put5_blk (v0 := .int .i64 0) (v1 := .int .i64 0) (v2 := .int .i64 0) (v3 := .slice none 0 0) (v4 := .slice none 0 0) K1
    have HBF := put5_below (v0 := .int .i64 0) (v1 := .int .i64 0) (v2 := .int .i64 0) (v3 := .slice none 0 0) (v4 := .slice none 0 0) HB1 (show g ≤ g + 1 + 1 by omega)
    go_wp2_with (with_reducible refine AtEnd.of ?_)
    obtain ⟨wf, hwf⟩ : ∃ wf, wf = put5 w1 (g + 1 + 1) (.int .i64 0) (.int .i64 0) (.int .i64 0) (.slice none 0 0) (.slice none 0 0) := ⟨_, rfl⟩
    rw [← hwf] at KF HBF
    unfold put5 at hwf
    rw [← hwf]
    clear hwf
    refine atEnd_ret (results_cell_tmp Tryz.results11 rfl (load_bench KF) rfl) rfl ?_
    rw [hr.out]
    exact ⟨_, rfl, ⟨none, none, 0, 0, 0, 0, rfl, ⟨rfl, Nat.le_refl _, by simp [maxLen], .inl ⟨rfl, rfl⟩⟩, ⟨rfl, Nat.le_refl _, by simp [maxLen], .inl ⟨rfl, rfl⟩⟩⟩, by first | exact HBF | (rw [hg]; exact HBF)⟩
  · have a0 : w1.cell? ⟨g, 0, none⟩ = some (.int .i64 k) := K0.cell 0
    have a1 : w1.cell? ⟨g, 1, none⟩ = some (.int .i64 x) := K0.cell 1
    have a2 : w1.cell? ⟨g, 2, none⟩ = some (.int .i64 y) := K0.cell 2
    have a3 : w1.cell? ⟨g, 3, none⟩ = some (.slice A n c) := K0.cell 3
    have a4 : w1.cell? ⟨g, 4, none⟩ = some (.slice P m d) := K0.cell 4
    have HV := Lib.hid hv
    obtain ⟨z1, z2, z3, z4⟩ := Pl.bv_size hv
    have z1 : 1 ≤ E.length := z1
    have z2 : E.length ≤ 24 := z2
    have z3 : ts.length ≤ 20 := z3
    replace hn : n ≤ 1000000 := by omega
    replace hm : m ≤ 100000 := by omega
    have CC := Lib.hid (fun w' h h' hB' => impl_clone ⟨k, x, y, E, ts⟩ A P n c m d B w' h h' hB' (by omega) (by omega) (by omega))
    go_wp2_with (with_reducible refine AtEnd.of ?_)
    refine (CC.out _ (HX.out.below (HB1.mono hBg)) (HP.out.below (HB1.mono hBg)) (by omega)).mono ?_
    rintro e w2 ⟨v, rfl, ⟨A1, P1, n1, c1, m1, d1, rfl, o1, p1⟩, hb2⟩
    have hz2 := hb2.size
    have HB2 := HB1.trans (hb2.mono (by omega))
    have K0 := K0.below hb2 (by omega)
    have KD := KD.below hb2 (by omega)
    have K1 := K1.below hb2 (by omega)
    clear a0 a1 a2 a3 a4
    unfold benchV
    obtain ⟨G, hG⟩ : ∃ G, w2.heap.size = G := ⟨_, rfl⟩
    obtain ⟨w3, hw3⟩ : ∃ w3, w3 = w2.alloc (.cells #[.int .i64 k, .int .i64 x, .int .i64 y, .slice A1 n1 c1, .slice P1 m1 d1] 30) := ⟨_, rfl⟩
    go_upto_region 4 with (fail)
    rw [← hw3]
    have hz3 : w3.heap.size = G + 1 := by rw [hw3, ← hG]; simp
    have HB3 : Below g w w3 := by rw [hw3]; exact HB2.alloc (by omega) _
    have K0 : Blk w3 g 30 #[.int .i64 k, .int .i64 x, .int .i64 y, .slice A n c, .slice P m d] := by rw [hw3]; exact K0.alloc _
    have K1 : Blk w3 (g + 1 + 1) 30 #[.int .i64 0, .int .i64 0, .int .i64 0, .slice none 0 0, .slice none 0 0] := by rw [hw3]; exact K1.alloc _
    have KD : Blk w3 (g + 1) 34 #[.int .i64 dk, .int .i64 dn, .string (Ba t)] := by rw [hw3]; exact KD.alloc _
    have KX : Blk w3 G 30 #[.int .i64 k, .int .i64 x, .int .i64 y, .slice A1 n1 c1, .slice P1 m1 d1] := by rw [hw3, ← hG]; exact Blk.new w2 _ _
    have o3 : ORow w3 (g + 3) 3 A1 n1 c1 (I64 E) := by rw [hw3]; exact (o1.alloc _).mono (by omega)
    have p3 : ORow w3 (g + 3) 9 P1 m1 d1 (Tx ts) := by rw [hw3]; exact (p1.alloc _).mono (by omega)
    have CD := Lib.hid (impl_do ⟨k, x, y, E, ts⟩ ⟨dk, dn, t⟩ G (g + 3) w3 ⟨A1, P1, n1, c1, m1, d1, KX, o3, p3⟩ hv (by omega) (by exact HT.out))
    have dd0 : w3.cell? ⟨g + 1, 0, none⟩ = some (.int .i64 dk) := KD.cell 0
    have dd1 : w3.cell? ⟨g + 1, 1, none⟩ = some (.int .i64 dn) := KD.cell 1
    have dd2 : w3.cell? ⟨g + 1, 2, none⟩ = some (.string (Ba t)) := KD.cell 2
    clear hw3 o1 p1 hv KX o3 p3 hb2 HB1 HB2 HB0 hb1
    unfold deedV at CD
    go_wp2_with (with_reducible refine AtEnd.of ?_)
    refine CD.out.mono ?_
    rintro e w4 ⟨rfl, hat, hb4⟩
    have hz4 := hb4.size
    have HB4 := HB3.trans (hb4.mono (by omega))
    have K0 : Blk w4 g 30 #[.int .i64 k, .int .i64 x, .int .i64 y, .slice A n c, .slice P m d] := K0.below hb4 (by omega)
    have K1 : Blk w4 (g + 1 + 1) 30 #[.int .i64 0, .int .i64 0, .int .i64 0, .slice none 0 0, .slice none 0 0] := K1.below hb4 (by omega)
    clear dd0 dd1 dd2 hb4 CD KD
    cases hst : Pl.stepB ⟨k, x, y, E, ts⟩ ⟨dk, dn, t⟩ with
    | none =>
      have HD := Lib.hid (Pl.doB_none HV.out hst)
      clear hat
      have a0 : w4.cell? ⟨g, 0, none⟩ = some (.int .i64 k) := K0.cell 0
      have a1 : w4.cell? ⟨g, 1, none⟩ = some (.int .i64 x) := K0.cell 1
      have a2 : w4.cell? ⟨g, 2, none⟩ = some (.int .i64 y) := K0.cell 2
      have a3 : w4.cell? ⟨g, 3, none⟩ = some (.slice A n c) := K0.cell 3
      have a4 : w4.cell? ⟨g, 4, none⟩ = some (.slice P m d) := K0.cell 4
      have hsn : (none : Option Pl.Bn).isSome = false := rfl
      rw [hsn]
      clear hst hsn
      go_wp2_with (with_reducible refine AtEnd.of ?_)
      refine (CC.out _ (HX.out.below (HB4.mono hBg)) (HP.out.below (HB4.mono hBg)) (by omega)).mono ?_
      rintro e w5 ⟨v, rfl, ⟨A5, P5, n5, c5, m5, d5, rfl, o5, p5⟩, hb5⟩
      have hz5 := hb5.size
      have HB5 := HB4.trans (hb5.mono (by omega))
      have K15 := K1.below hb5 (by omega)
      have o5 := o5.mono (show g + 3 ≤ w4.heap.size by omega)
      have p5 := p5.mono (show g + 3 ≤ w4.heap.size by omega)
      have g0 : w5.cell? ⟨g + 1 + 1, 0, none⟩ = some (.int .i64 0) := K15.cell 0
      have g1 : w5.cell? ⟨g + 1 + 1, 1, none⟩ = some (.int .i64 0) := K15.cell 1
      have g2 : w5.cell? ⟨g + 1 + 1, 2, none⟩ = some (.int .i64 0) := K15.cell 2
      have g3 : w5.cell? ⟨g + 1 + 1, 3, none⟩ = some (.slice none 0 0) := K15.cell 3
      have g4 : w5.cell? ⟨g + 1 + 1, 4, none⟩ = some (.slice none 0 0) := K15.cell 4
      have e0 : w5.frozen? ⟨g + 1 + 1, 0, none⟩ = false := K15.frozen 0
      have e1 : w5.frozen? ⟨g + 1 + 1, 1, none⟩ = false := K15.frozen 1
      have e2 : w5.frozen? ⟨g + 1 + 1, 2, none⟩ = false := K15.frozen 2
      have e3 : w5.frozen? ⟨g + 1 + 1, 3, none⟩ = false := K15.frozen 3
      have e4 : w5.frozen? ⟨g + 1 + 1, 4, none⟩ = false := K15.frozen 4
      clear a0 a1 a2 a3 a4
      unfold benchV
      go_wp2_with (with_reducible refine AtEnd.of ?_)
      have KF := put5_blk (v0 := .int .i64 k) (v1 := .int .i64 x) (v2 := .int .i64 y) (v3 := .slice A5 n5 c5) (v4 := .slice P5 m5 d5) K15
      have oF := put5_orow (r := g + 1 + 1) (v0 := .int .i64 k) (v1 := .int .i64 x) (v2 := .int .i64 y) (v3 := .slice A5 n5 c5) (v4 := .slice P5 m5 d5) o5 (by omega)
      have pF := put5_orow (r := g + 1 + 1) (v0 := .int .i64 k) (v1 := .int .i64 x) (v2 := .int .i64 y) (v3 := .slice A5 n5 c5) (v4 := .slice P5 m5 d5) p5 (by omega)
      have HBF := put5_below (v0 := .int .i64 k) (v1 := .int .i64 x) (v2 := .int .i64 y) (v3 := .slice A5 n5 c5) (v4 := .slice P5 m5 d5) HB5 (show g ≤ g + 1 + 1 by omega)
      refine atEnd_ret (results_cell_tmp Tryz.results11 rfl (load_bench KF) rfl) rfl ?_
      rw [HD.out]
      exact ⟨_, rfl, ⟨A5, P5, n5, c5, m5, d5, rfl, oF.mono (by omega), pF.mono (by omega)⟩, by first | exact HBF | (rw [hg]; exact HBF)⟩
    | some b' =>
      have HD := Lib.hid (Pl.doB_some HV.out hst)
      have hvb := (Pl.stepB_valid HV.out hst).1
      rw [hst] at hat
      obtain ⟨k', x', y', E', ts'⟩ := b'
      obtain ⟨y1, y2, y3, _⟩ := Pl.bv_size hvb
      have y1 : 1 ≤ E'.length := y1
      have y2 : E'.length ≤ 24 := y2
      have y3 : ts'.length ≤ 20 := y3
      obtain ⟨A6, P6, n6, c6, m6, d6, K6, o6, p6⟩ := hat
      have l6 : E'.length = n6 := by have := o6.len; rwa [I64_len] at this
      have l7 : ts'.length = m6 := by have := p6.len; rwa [Tx_len] at this
      have CC' := Lib.hid (impl_clone ⟨k', x', y', E', ts'⟩ A6 P6 n6 c6 m6 d6 w4.heap.size w4 o6.rd p6.rd (Nat.le_refl _) (by omega) (by omega) (by omega))
      have a0 : w4.cell? ⟨G, 0, none⟩ = some (.int .i64 k') := K6.cell 0
      have a1 : w4.cell? ⟨G, 1, none⟩ = some (.int .i64 x') := K6.cell 1
      have a2 : w4.cell? ⟨G, 2, none⟩ = some (.int .i64 y') := K6.cell 2
      have a3 : w4.cell? ⟨G, 3, none⟩ = some (.slice A6 n6 c6) := K6.cell 3
      have a4 : w4.cell? ⟨G, 4, none⟩ = some (.slice P6 m6 d6) := K6.cell 4
      have hsn : (some (⟨k', x', y', E', ts'⟩ : Pl.Bn)).isSome = true := rfl
      rw [hsn]
      clear hst hsn hvb o6 p6 K6
      go_wp2_with (with_reducible refine AtEnd.of ?_)
      refine CC'.out.mono ?_
      rintro e w5 ⟨v, rfl, ⟨A5, P5, n5, c5, m5, d5, rfl, o5, p5⟩, hb5⟩
      have hz5 := hb5.size
      have HB5 := HB4.trans (hb5.mono (by omega))
      have K15 := K1.below hb5 (by omega)
      have o5 := o5.mono (show g + 3 ≤ w4.heap.size by omega)
      have p5 := p5.mono (show g + 3 ≤ w4.heap.size by omega)
      have g0 : w5.cell? ⟨g + 1 + 1, 0, none⟩ = some (.int .i64 0) := K15.cell 0
      have g1 : w5.cell? ⟨g + 1 + 1, 1, none⟩ = some (.int .i64 0) := K15.cell 1
      have g2 : w5.cell? ⟨g + 1 + 1, 2, none⟩ = some (.int .i64 0) := K15.cell 2
      have g3 : w5.cell? ⟨g + 1 + 1, 3, none⟩ = some (.slice none 0 0) := K15.cell 3
      have g4 : w5.cell? ⟨g + 1 + 1, 4, none⟩ = some (.slice none 0 0) := K15.cell 4
      have e0 : w5.frozen? ⟨g + 1 + 1, 0, none⟩ = false := K15.frozen 0
      have e1 : w5.frozen? ⟨g + 1 + 1, 1, none⟩ = false := K15.frozen 1
      have e2 : w5.frozen? ⟨g + 1 + 1, 2, none⟩ = false := K15.frozen 2
      have e3 : w5.frozen? ⟨g + 1 + 1, 3, none⟩ = false := K15.frozen 3
      have e4 : w5.frozen? ⟨g + 1 + 1, 4, none⟩ = false := K15.frozen 4
      clear a0 a1 a2 a3 a4
      unfold benchV
      go_wp2_with (with_reducible refine AtEnd.of ?_)
      have KF := put5_blk (v0 := .int .i64 k') (v1 := .int .i64 x') (v2 := .int .i64 y') (v3 := .slice A5 n5 c5) (v4 := .slice P5 m5 d5) K15
      have oF := put5_orow (r := g + 1 + 1) (v0 := .int .i64 k') (v1 := .int .i64 x') (v2 := .int .i64 y') (v3 := .slice A5 n5 c5) (v4 := .slice P5 m5 d5) o5 (by omega)
      have pF := put5_orow (r := g + 1 + 1) (v0 := .int .i64 k') (v1 := .int .i64 x') (v2 := .int .i64 y') (v3 := .slice A5 n5 c5) (v4 := .slice P5 m5 d5) p5 (by omega)
      have HBF := put5_below (v0 := .int .i64 k') (v1 := .int .i64 x') (v2 := .int .i64 y') (v3 := .slice A5 n5 c5) (v4 := .slice P5 m5 d5) HB5 (show g ≤ g + 1 + 1 by omega)
      refine atEnd_ret (results_cell_tmp Tryz.results11 rfl (load_bench KF) rfl) rfl ?_
      rw [HD.out]
      exact ⟨_, rfl, ⟨A5, P5, n5, c5, m5, d5, rfl, oF.mono (by omega), pF.mono (by omega)⟩, by first | exact HBF | (rw [hg]; exact HBF)⟩
end Go.Proofs.YtamhpgledbmnoaaGreat
