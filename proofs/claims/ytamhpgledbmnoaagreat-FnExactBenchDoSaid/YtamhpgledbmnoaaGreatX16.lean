/-
  The exact law of BenchDo: for every bench and deed the program and the reference agree, the arguments are as they were, and no memory is shared.
  Conditions: none.
-/
import Derived.Test.YtamhpgledbmnoaaGreatM2
import Derived.Test.YtamhpgledbmnoaaGreatM3
import Derived.Test.YtamhpgledbmnoaaGreatM4
import Derived.Deep.DeepMust
import Derived.Test.YtamhpgledbmnoaaGreatId
import Derived.Test.YtamhpgledbmnoaaGreatKN
import Derived.Test.YtamhpgledbmnoaaGreatO5
import Derived.Test.YtamhpgledbmnoaaGreatO9
namespace Go.Proofs.YtamhpgledbmnoaaGreat
set_option linter.unusedVariables false
set_option linter.unusedSimpArgs false
open Go.RowKit
set_option maxRecDepth 100000 in
set_option maxHeartbeats 16000000 in
theorem law_FnExactBenchDo (v0 v1 : Value) (w : World) (w0 : IsBench w v0) (w1 : IsDeed v1) :
    Calls Tryz.prog 3 #[v0, v1] w fun e w' => e = .returned (.bool true) ∧ Below w.heap.size w w' := by
  obtain ⟨⟨k, x, y, E, ts⟩, A, P, n, c, m, d, rfl, hx, hp, hn, hm, hs⟩ := w0
  obtain ⟨dk, dn, t, rfl, ht⟩ := w1
  obtain ⟨g, hg⟩ : ∃ g, w.heap.size = g := ⟨_, rfl⟩
  rw [hg] at hx hp
  rw [hg]
  obtain ⟨wb, hwb⟩ : ∃ wb, wb = (w.alloc (.cells #[.int .i64 k, .int .i64 x, .int .i64 y, .slice A n c, .slice P m d] 25)).alloc (.cells #[.int .i64 dk, .int .i64 dn, .string (Ba t)] 27) := ⟨_, rfl⟩
  have hzb : wb.heap.size = g + 2 := by rw [hwb, ← hg]; simp
  have HBB : Below g w wb := by rw [hwb, ← hg]; go_grown
  have K0 : Blk wb g 25 #[.int .i64 k, .int .i64 x, .int .i64 y, .slice A n c, .slice P m d] := by rw [hwb, ← hg]; exact (Blk.new w _ _).alloc _
  have KD : Blk wb (g + 1) 27 #[.int .i64 dk, .int .i64 dn, .string (Ba t)] := by
    rw [hwb, ← hg]
    have := Blk.new (w.alloc (.cells #[.int .i64 k, .int .i64 x, .int .i64 y, .slice A n c, .slice P m d] 25)) 27 #[.int .i64 dk, .int .i64 dn, .string (Ba t)]
    rwa [World.size_alloc] at this
  have HX := Lib.hid hx
  have HP := Lib.hid hp
  have lp : ts.length = m := by have := hp.len; rwa [Tx_len] at this
  have CSZ := Lib.hid (fun w' h hB => laws_szBench k x y A P n c m d g ts w' h hB hn hm hs)
  have HT := Lib.hid ht
  obtain ⟨L, hL⟩ : ∃ L, L = szB n ts := ⟨_, rfl⟩
  have HF := Lib.hid (show 0 ≤ L → L ≤ 1048576 ∧ n ≤ 1048576 ∧ ts.length ≤ 1048576 ∧ ∀ s ∈ ts, s.length ≤ 1048576 from fun h => ⟨by rw [hL]; exact szB_le n ts, by rw [hL] at h; exact szB_f (by omega)⟩)
  rw [← hL] at CSZ
  clear hL hs hx hp ht
  show Calls _ _ #[.agg #[.int .i64 k, .int .i64 x, .int .i64 y, .slice A n c, .slice P m d], .agg #[.int .i64 dk, .int .i64 dn, .string (Ba t)]] _ _
  go_enter Tryz.func3, Tryz.ntmps3
  go_wp2_with fail
  rw [← hwb]
  clear hwb
  refine (CSZ.out _ (HP.out.below HBB) (by omega)).mono ?_
  rintro e w1 ⟨rfl, hb1⟩
  have hz1 := hb1.size
  have K0 := K0.below hb1 (by omega)
  have KD := KD.below hb1 (by omega)
  have HB1 := HBB.trans (hb1.mono (by omega))
  clear hb1 CSZ
  by_cases hneg : L < 0
  · clear K0 KD
    go_wp2_with fail
    go_ret
    exact ⟨rfl, HB1⟩
  obtain ⟨hL, hn, hm, hs⟩ := HF.out (by omega)
  have HS := Lib.hid hs
  rw [lp] at hm
  have CSD := Lib.hid (fun w' => laws_szDeed dk dn L t w' (by omega) hL HT.out)
  have HTF := Lib.hid (fun (h : ¬ szD L t < 0) => szD_f h)
  obtain ⟨M, hM⟩ : ∃ M, M = szD L t := ⟨_, rfl⟩
  rw [← hM] at CSD HTF
  obtain ⟨d0, d1, d2⟩ := cells3 KD
  clear hM hs HF
  go_wp2_with fail
  refine (CSD.out _).mono ?_
  rintro e w2 ⟨rfl, hb2⟩
  have hz2 := hb2.size
  have K0 := K0.below hb2 (by omega)
  have KD := KD.below hb2 (by omega)
  have HB2 := HB1.trans (hb2.mono (by omega))
  clear hb2 CSD d0 d1 d2
  by_cases hneg2 : M < 0
  · clear K0 KD
    go_wp2_with fail
    go_ret
    exact ⟨rfl, HB2⟩
  have htl : (t.length : Int) ≤ L := HTF.out (by omega)
  have CTB := Lib.hid (fun w' h h' hB => laws_toBench ⟨k, x, y, E, ts⟩ A P n c m d g w' h h' hB (by omega) (by omega))
  have CTD := Lib.hid (fun w' => laws_toDeed dk dn t w')
  have CS := Lib.hid (fun A' P' c' d' B w' h h' hB hnc => spec_BenchDo ⟨k, x, y, E, ts⟩ ⟨dk, dn, t⟩ A' P' n c' m d' B w' h h' hB (by omega) (by omega) hnc (fun s hs => by have := HS.out s hs; omega) (by show t.length ≤ 2000000; omega))
  have CI := Lib.hid (fun A' P' c' d' B w' h h' hB hnc => impl_BenchDo ⟨k, x, y, E, ts⟩ ⟨dk, dn, t⟩ A' P' n c' m d' B w' h h' hB (by omega) (by omega) hnc (fun s hs => by have := HS.out s hs; omega) (by show t.length ≤ 2000000; omega))
  obtain ⟨r, hr⟩ : ∃ r, r = Pl.doB ⟨k, x, y, E, ts⟩ ⟨dk, dn, t⟩ := ⟨_, rfl⟩
  have hsm := small_res ⟨k, x, y, E, ts⟩ ⟨dk, dn, t⟩
  rw [← hr] at CS CI hsm
  clear hr hneg HTF HT lp htl
  obtain ⟨⟨rk, rx, ry, rE, rts⟩, ok⟩ := r
  obtain ⟨hs1, hs2⟩ := hsm
  have hs1 : rE.length ≤ 24 := hs1
  have hs2 : rts.length ≤ 21 := hs2
  dsimp only at CS CI
  have HBv := HB2
  have KK := True.intro
  go_upto_region 8 with (fail)
  go_cut [6, 7] from 109 (fun s6 s7 wx => BAt w2.heap.size wx s6 ⟨rk, rx, ry, rE, rts⟩ ∧ s7 = .bool ok ∧ Below w2.heap.size w2 wx)
  case first =>
    obtain ⟨d0, d1, d2⟩ := cells3 KD
    have t1 : g < w2.heap.size := K0.lt
    have t2 : g + 1 < w2.heap.size := KD.lt
    have t3 : g ≠ w2.heap.size := by omega
    have t4 : g + 1 ≠ w2.heap.size := by omega
    have HX2 := Lib.hid (HX.out.below HBv)
    have HP2 := Lib.hid (HP.out.below HBv)
    have hKD := Lib.hid KD
    obtain ⟨a0, a1, a2, a3, a4⟩ := cells5 K0
    clear K0 KD HBv KK
    go_region_held3 (fun w' => ∀ (b o : Nat), b < w2.heap.size → w'.cell? ⟨b, o, none⟩ = w2.cell? ⟨b, o, none⟩) (first | (with_reducible exact same_drew0) | (with_reducible refine same_alloc_d same_refl0 ?_; first | exact Nat.le_refl _ | omega | (simp; omega)) | (with_reducible exact same_refl0) | (with_reducible exact (bcell hbc).1) | (with_reducible refine same_alloc (bcell hbc).1 ?_; first | exact Nat.le_refl _ | omega | (simp; omega)) | (with_reducible refine same_put5 (bcell hbc).1 ?_; first | exact Nat.le_refl _ | omega | (simp; omega)) | (with_reducible refine same_alloc (by assumption) ?_; first | exact Nat.le_refl _ | omega | (simp; omega)) | (with_reducible refine same_put5 (by assumption) ?_; first | exact Nat.le_refl _ | omega | (simp; omega))) (first
        | (go_at_call 9; go_must (refine (CTB.out _ (by first | exact HX2.out | exact HX2.out.alloc (by first | exact Nat.le_refl _ | omega | (simp; done) | (simp; omega)) _ | exact (HX2.out.drew).alloc (by first | exact Nat.le_refl _ | omega | (simp; done) | (simp; omega)) _ | exact HX2.out.drew | exact (HX2.out.alloc (by first | exact Nat.le_refl _ | omega | (simp; done) | (simp; omega)) _).drew) (by first | exact HP2.out | exact HP2.out.alloc (by first | exact Nat.le_refl _ | omega | (simp; done) | (simp; omega)) _ | exact (HP2.out.drew).alloc (by first | exact Nat.le_refl _ | omega | (simp; done) | (simp; omega)) _ | exact HP2.out.drew | exact (HP2.out.alloc (by first | exact Nat.le_refl _ | omega | (simp; done) | (simp; omega)) _).drew) (by first | exact Nat.le_refl _ | omega | (simp; done) | (simp; omega))).mono ?_; rintro e w3 ⟨A3, P3, c3, d3, rfl, own3, ownp3, hb3⟩; have HB3 : Hid (Below w2.heap.size w2 w3) := Lib.hid (by first | exact hb3 | exact below_a1x hb3 | exact below_dx hb3 | exact below_a1x (below_dx hb3) | exact below_dx (below_a1x hb3)); have HH3 := Lib.hid hb3; have RX3 := Lib.hid (rd_own own3); have RP3 := Lib.hid (rd_own ownp3); have cap3 := (ORow.of_own own3).cap; have zz3 := HB3.out.size; have zz3' := hb3.size; (try simp only [World.size_alloc, World.size_drew] at zz3'); obtain ⟨u0, u1, u2⟩ := cells3 (hKD.out.below HB3.out (by omega)); have hbf3 := (bcell hb3).2; have hbc3 := (bcell hb3).1; have t5 : g + 1 < w3.heap.size := (by omega); have t6 : g + 1 ≠ w3.heap.size := (by omega); (try have t7 : w2.heap.size < w3.heap.size := (by omega)); (try have t8 : w2.heap.size ≠ w3.heap.size := (by omega)); have hbc := HB3.out; unfold benchV; clear own3 ownp3 hb3))
        | (go_at_call 10; go_must (refine (CTD.out _).mono ?_; rintro e w4 ⟨rfl, hb4⟩; have HB4 : Hid (Below w3.heap.size w3 w4) := Lib.hid (by first | exact hb4 | exact below_a1x hb4 | exact below_dx hb4 | exact below_a1x (below_dx hb4) | exact below_dx (below_a1x hb4)); have HH4 := Lib.hid hb4; have zz4 := HB4.out.size; have zz4' := hb4.size; (try simp only [World.size_alloc, World.size_drew] at zz4'); have RX4 := Lib.hid (RX3.out.below HB4.out); have RP4 := Lib.hid (RP3.out.below HB4.out); have hbf4 := (bcell hb4).2; have hbc4 := (bcell hb4).1; (try have t9 : w2.heap.size < w4.heap.size := (by omega)); (try have t10 : w3.heap.size < w4.heap.size := (by omega)); (try have t11 : w2.heap.size ≠ w4.heap.size := (by omega)); (try have t12 : w3.heap.size ≠ w4.heap.size := (by omega)); have hbc := HB3.out.trans (HB4.out.mono (by omega)); unfold deedV; clear hb4))
        | (go_at_call 8; go_must (refine (CS.out A3 P3 c3 d3 w3.heap.size _ (by first | exact RX4.out | exact RX4.out.alloc (by first | exact Nat.le_refl _ | omega | (simp; done) | (simp; omega)) _ | exact (RX4.out.drew).alloc (by first | exact Nat.le_refl _ | omega | (simp; done) | (simp; omega)) _ | exact RX4.out.drew | exact (RX4.out.alloc (by first | exact Nat.le_refl _ | omega | (simp; done) | (simp; omega)) _).drew) (by first | exact RP4.out | exact RP4.out.alloc (by first | exact Nat.le_refl _ | omega | (simp; done) | (simp; omega)) _ | exact (RP4.out.drew).alloc (by first | exact Nat.le_refl _ | omega | (simp; done) | (simp; omega)) _ | exact RP4.out.drew | exact (RP4.out.alloc (by first | exact Nat.le_refl _ | omega | (simp; done) | (simp; omega)) _).drew) (by first | exact Nat.le_refl _ | omega | (simp; done) | (simp; omega)) cap3).mono ?_; rintro e w5 ⟨v, rfl, ⟨A5, P5, n5, c5, m5, d5, rfl, o5, p5⟩, hb5⟩; have HB5 : Hid (Below w4.heap.size w4 w5) := Lib.hid (by first | exact hb5 | exact below_a1x hb5 | exact below_dx hb5 | exact below_a1x (below_dx hb5) | exact below_dx (below_a1x hb5)); have HH5 := Lib.hid hb5; have zz5 := HB5.out.size; have zz5' := hb5.size; (try simp only [World.size_alloc, World.size_drew] at zz5'); have O5 := Lib.hid (o5.mono (show w2.heap.size ≤ _ by first | omega | (simp; omega))); have P5' := Lib.hid (p5.mono (show w2.heap.size ≤ _ by first | omega | (simp; omega))); have hbf5 := (bcell hb5).2; have hbc5 := (bcell hb5).1; (try have t15 : w2.heap.size < w5.heap.size := (by omega)); (try have t16 : w3.heap.size < w5.heap.size := (by omega)); (try have t17 : w4.heap.size < w5.heap.size := (by omega)); have hbc := (HB3.out.trans (HB4.out.mono (by omega))).trans (HB5.out.mono (by omega)); unfold benchV; clear o5 p5 hb5)))
    --XX
    all_goals go_wp2_with fail
    all_goals go_meet
    all_goals have HBB5 := (HB3.out.trans (HB4.out.mono (by omega))).trans (HB5.out.mono (by omega))
    all_goals first
      | (with_reducible exact ⟨bat_a O5.out P5'.out HBB5.size, rfl, HBB5.alloc HBB5.size _⟩)
      | (with_reducible refine bat_c ?_ ?_ O5.out P5'.out HBB5 rfl ?_)
    all_goals repeat' (first
      | (with_reducible refine Blk.newx ?_)
      | (with_reducible refine Blk.alloc ?_ _)
      | (with_reducible refine Blk.drew ?_)
      | (with_reducible refine Blk.below ?_ HH5.out ?_)
      | (with_reducible refine Blk.below ?_ HH4.out ?_)
      | (with_reducible refine Blk.below ?_ HH3.out ?_)
      | omega
      | (simp; done)
      | (simp; omega)
      | rfl)
  case rest =>
    obtain ⟨w5, rfl⟩ : ∃ w5, w5 = wc := ⟨_, rfl⟩
    obtain ⟨⟨W, AW, PW, nW, cW, mW, dW, rfl, hW, KW, OW, OPW⟩, rfl, hbc⟩ := hcut
    have lW : rE.length = nW := by have := OW.len; rwa [I64_len] at this
    have lW' : rts.length = mW := by have := OPW.len; rwa [Tx_len] at this
    have hzc := hbc.size
    have K0 := K0.below hbc K0.lt
    have KD := KD.below hbc KD.lt
    have HB5 := HB2.trans (hbc.mono (by omega))
    have bW := fun k h => (OW.lt k h).2
    have bPW := fun k h => (OPW.lt k h).2
    clear hbc HBv KK CS HB2 HB1 HBB
    obtain ⟨a0, a1, a2, a3, a4⟩ := cells5 K0
    go_wp2_with fail
    refine (CTB.out _ (HX.out.below HB5) (HP.out.below HB5) (by omega)).mono ?_
    rintro e w6 ⟨AX, PX, cX, dX, rfl, ownX, ownpX, hb6⟩
    have hz6 := hb6.size
    have K0 := K0.below hb6 K0.lt
    have KD := KD.below hb6 KD.lt
    have KW := KW.below hb6 KW.lt
    have OW := OW.below hb6
    have OPW := OPW.below hb6
    have HB6 := HB5.trans (hb6.mono (by omega))
    have OX := ORow.of_own ownX
    have OPX := ORow.of_own ownpX
    have bX := fun k h => (OX.lt k h).2
    have bPX := fun k h => (OPX.lt k h).2
    clear a0 a1 a2 a3 a4 ownX ownpX hb6
    unfold benchV
    obtain ⟨w7, hw7⟩ : ∃ w7, w7 = w6.alloc (.cells #[.int .i64 k, .int .i64 x, .int .i64 y, .slice AX n cX, .slice PX m dX] 30) := ⟨_, rfl⟩
    obtain ⟨X, hX⟩ : ∃ X, X = w6.heap.size := ⟨_, rfl⟩
    have hz7 : w7.heap.size = X + 1 := by rw [hw7, hX]; simp
    have KX : Blk w7 X 30 #[.int .i64 k, .int .i64 x, .int .i64 y, .slice AX n cX, .slice PX m dX] := by rw [hw7, hX]; exact Blk.new w6 _ _
    replace K0 := K0.alloc (.cells #[.int .i64 k, .int .i64 x, .int .i64 y, .slice AX n cX, .slice PX m dX] 30)
    replace KD := KD.alloc (.cells #[.int .i64 k, .int .i64 x, .int .i64 y, .slice AX n cX, .slice PX m dX] 30)
    replace KW := KW.alloc (.cells #[.int .i64 k, .int .i64 x, .int .i64 y, .slice AX n cX, .slice PX m dX] 30)
    replace OW := OW.alloc (.cells #[.int .i64 k, .int .i64 x, .int .i64 y, .slice AX n cX, .slice PX m dX] 30)
    replace OPW := OPW.alloc (.cells #[.int .i64 k, .int .i64 x, .int .i64 y, .slice AX n cX, .slice PX m dX] 30)
    replace OX := OX.alloc (.cells #[.int .i64 k, .int .i64 x, .int .i64 y, .slice AX n cX, .slice PX m dX] 30)
    replace OPX := OPX.alloc (.cells #[.int .i64 k, .int .i64 x, .int .i64 y, .slice AX n cX, .slice PX m dX] 30)
    rw [← hw7] at K0 KD KW OW OPW OX OPX
    have HB7 : Below g w w7 := by rw [hw7]; exact HB6.alloc (by omega) _
    go_upto_region 10 with (fail)
    rw [← hw7, ← hX]
    rw [← hX] at bX bPX hz6
    clear hw7 hX
    have HBv := HB7
    have KK := True.intro
    have hKX0 := Lib.hid KX
    go_upto_region 10 with (fail)
    go_cut [9, 10] from 109 (fun s9 s10 wx => BAt w7.heap.size wx s9 ⟨rk, rx, ry, rE, rts⟩ ∧ s10 = .bool ok ∧ Below w7.heap.size w7 wx)
    case first =>
      obtain ⟨d0, d1, d2⟩ := cells3 KD
      have t1 : g < w7.heap.size := K0.lt
      have t2 : g + 1 < w7.heap.size := KD.lt
      have t3 : g ≠ w7.heap.size := by omega
      have t4 : g + 1 ≠ w7.heap.size := by omega
      have HX2 := Lib.hid (HX.out.below HBv)
      have HP2 := Lib.hid (HP.out.below HBv)
      have hKD := Lib.hid KD
      obtain ⟨a0, a1, a2, a3, a4⟩ := cells5 KX
      have t5 : X < w7.heap.size := KX.lt
      have t6 : X ≠ w7.heap.size := by omega
      have RX3 := Lib.hid OX.rd
      have RP3 := Lib.hid OPX.rd
      have cap3 := OX.cap
      clear K0 KD HBv KX OX OPX hz7
      have hKX := Lib.hid hKX0.out
      go_region_held3 (fun w' => ∀ (b o : Nat), b < w7.heap.size → w'.cell? ⟨b, o, none⟩ = w7.cell? ⟨b, o, none⟩) (first | (with_reducible exact same_drew0) | (with_reducible refine same_alloc_d same_refl0 ?_; first | exact Nat.le_refl _ | omega | (simp; omega)) | (with_reducible exact same_refl0) | (with_reducible exact (bcell hbc).1) | (with_reducible refine same_alloc (bcell hbc).1 ?_; first | exact Nat.le_refl _ | omega | (simp; omega)) | (with_reducible refine same_put5 (bcell hbc).1 ?_; first | exact Nat.le_refl _ | omega | (simp; omega)) | (with_reducible refine same_alloc (by assumption) ?_; first | exact Nat.le_refl _ | omega | (simp; omega)) | (with_reducible refine same_put5 (by assumption) ?_; first | exact Nat.le_refl _ | omega | (simp; omega))) (first
          | (go_at_call 10; go_must (refine (CTD.out _).mono ?_; rintro e w4 ⟨rfl, hb4⟩; have HB4 : Hid (Below w7.heap.size w7 w4) := Lib.hid (by first | exact hb4 | exact below_a1x hb4 | exact below_dx hb4 | exact below_a1x (below_dx hb4) | exact below_dx (below_a1x hb4)); have HH4 := Lib.hid hb4; have zz4 := HB4.out.size; have zz4' := hb4.size; (try simp only [World.size_alloc, World.size_drew] at zz4'); have RX4 := Lib.hid (RX3.out.below HB4.out); have RP4 := Lib.hid (RP3.out.below HB4.out); have hbf4 := (bcell hb4).2; have hbc4 := (bcell hb4).1; (try have t9 : w7.heap.size < w4.heap.size := (by omega)); (try have t10 : w7.heap.size < w4.heap.size := (by omega)); (try have t11 : w7.heap.size ≠ w4.heap.size := (by omega)); (try have t12 : w7.heap.size ≠ w4.heap.size := (by omega)); (have t13 : X < w4.heap.size := (by omega)); (have t14 : X ≠ w4.heap.size := (by omega)); obtain ⟨q0, q1, q2, q3, q4⟩ := cells5 (hKX.out.below HB4.out t5); have hbc := HB4.out; unfold deedV; clear hb4))
          | (go_at_call 11; go_must (refine (CI.out AX PX cX dX w7.heap.size _ (by first | exact RX4.out | exact RX4.out.alloc (by first | exact Nat.le_refl _ | omega | (simp; done) | (simp; omega)) _ | exact (RX4.out.drew).alloc (by first | exact Nat.le_refl _ | omega | (simp; done) | (simp; omega)) _ | exact RX4.out.drew | exact (RX4.out.alloc (by first | exact Nat.le_refl _ | omega | (simp; done) | (simp; omega)) _).drew) (by first | exact RP4.out | exact RP4.out.alloc (by first | exact Nat.le_refl _ | omega | (simp; done) | (simp; omega)) _ | exact (RP4.out.drew).alloc (by first | exact Nat.le_refl _ | omega | (simp; done) | (simp; omega)) _ | exact RP4.out.drew | exact (RP4.out.alloc (by first | exact Nat.le_refl _ | omega | (simp; done) | (simp; omega)) _).drew) (by first | exact Nat.le_refl _ | omega | (simp; done) | (simp; omega)) cap3).mono ?_; rintro e w5 ⟨v, rfl, ⟨A5, P5, n5, c5, m5, d5, rfl, o5, p5⟩, hb5⟩; have HB5 : Hid (Below w4.heap.size w4 w5) := Lib.hid (by first | exact hb5 | exact below_a1x hb5 | exact below_dx hb5 | exact below_a1x (below_dx hb5) | exact below_dx (below_a1x hb5)); have HH5 := Lib.hid hb5; have zz5 := HB5.out.size; have zz5' := hb5.size; (try simp only [World.size_alloc, World.size_drew] at zz5'); have O5 := Lib.hid (o5.mono (show w7.heap.size ≤ _ by first | omega | (simp; omega))); have P5' := Lib.hid (p5.mono (show w7.heap.size ≤ _ by first | omega | (simp; omega))); have hbf5 := (bcell hb5).2; have hbc5 := (bcell hb5).1; (try have t15 : w7.heap.size < w5.heap.size := (by omega)); (try have t16 : w7.heap.size < w5.heap.size := (by omega)); (try have t17 : w4.heap.size < w5.heap.size := (by omega)); have hbc := (HB4.out).trans (HB5.out.mono (by omega)); unfold benchV; clear o5 p5 hb5)))
      --XX
      all_goals go_wp2_with fail
      all_goals go_meet
      all_goals have HBB5 := (HB4.out).trans (HB5.out.mono (by omega))
      all_goals first
        | (with_reducible exact ⟨bat_a O5.out P5'.out HBB5.size, rfl, HBB5.alloc HBB5.size _⟩)
        | (with_reducible refine bat_c ?_ ?_ O5.out P5'.out HBB5 rfl ?_)
      all_goals repeat' (first
        | (with_reducible refine Blk.newx ?_)
        | (with_reducible refine Blk.alloc ?_ _)
        | (with_reducible refine Blk.drew ?_)
        | (with_reducible refine Blk.below ?_ HH5.out ?_)
        | (with_reducible refine Blk.below ?_ HH4.out ?_)
        | omega
        | (simp; done)
        | (simp; omega)
        | rfl)
    case rest =>
      obtain ⟨w8, rfl⟩ : ∃ w8, w8 = wc := ⟨_, rfl⟩
      obtain ⟨⟨G, AG, PG, nG, cG, mG, dG, rfl, hG, KG, OG, OPG⟩, rfl, hbc⟩ := hcut
      have lG : rE.length = nG := by have := OG.len; rwa [I64_len] at this
      have lG' : rts.length = mG := by have := OPG.len; rwa [Tx_len] at this
      have hzc := hbc.size
      have K0 := K0.below hbc K0.lt
      have KD := KD.below hbc KD.lt
      have KW := KW.below hbc KW.lt
      have KX := KX.below hbc KX.lt
      have OW := OW.below hbc
      have OPW := OPW.below hbc
      have OX := OX.below hbc
      have OPX := OPX.below hbc
      have HB8 := HB7.trans (hbc.mono (by omega))
      clear hbc HBv KK HB7 HB6 HB5 hKX0
      have hkk : (ok != ok) = false := by simp
      obtain ⟨u0, u1, u2, u3, u4⟩ := cells5 KW
      obtain ⟨q0, q1, q2, q3, q4⟩ := cells5 KG
      have CE := Lib.hid (laws_eqBench ⟨rk, rx, ry, rE, rts⟩ ⟨rk, rx, ry, rE, rts⟩ AG AW PG PW nG cG mG dG nW cW mW dW w8.heap.size w8 OG.rd OPG.rd OW.rd OPW.rd (Nat.le_refl _) (by omega) (by omega) (by omega) (by omega))
      rw [show decide ((⟨rk, rx, ry, rE, rts⟩ : Pl.Bn) = ⟨rk, rx, ry, rE, rts⟩) = true by simp] at CE
      unfold benchV at CE
      go_wp2_with fail
      refine CE.out.mono ?_
      rintro e w9 ⟨rfl, hb9⟩
      clear CE u0 u1 u2 u3 u4 q0 q1 q2 q3 q4
      have hz9 := hb9.size
      have K0 := K0.below hb9 K0.lt
      have KD := KD.below hb9 KD.lt
      have KW := KW.below hb9 KW.lt
      have KX := KX.below hb9 KX.lt
      have KG := KG.below hb9 KG.lt
      have OW := OW.below hb9
      have OPW := OPW.below hb9
      have OX := OX.below hb9
      have OPX := OPX.below hb9
      have OG := OG.below hb9
      have OPG := OPG.below hb9
      have HB9 := HB8.trans (hb9.mono (by omega))
      clear hb9
      go_upto_region 13 with (fail)
      go_cut [56] from 109 (fun s56 wx => s56 = .bool false ∧ Below w9.heap.size w9 wx)
      case first =>
        obtain ⟨a0, a1, a2, a3, a4⟩ := cells5 K0
        obtain ⟨q0, q1, q2, q3, q4⟩ := cells5 KX
        have HX2 := Lib.hid (HX.out.below HB9)
        have HP2 := Lib.hid (HP.out.below HB9)
        have RXX := Lib.hid OX.rd
        have RPX := Lib.hid OPX.rd
        have hKX := Lib.hid KX
        have t1 : X < w9.heap.size := KX.lt
        clear K0 KD KW KX KG OW OPW OX OPX OG OPG HB9 HB8
        go_region_with (first
          | (go_at_call 9; go_must (refine (CTB.out _ (by first | exact HX2.out | exact HX2.out.alloc (by first | exact Nat.le_refl _ | omega | (simp; done) | (simp; omega)) _ | exact (HX2.out.drew).alloc (by first | exact Nat.le_refl _ | omega | (simp; done) | (simp; omega)) _ | exact HX2.out.drew | exact (HX2.out.alloc (by first | exact Nat.le_refl _ | omega | (simp; done) | (simp; omega)) _).drew) (by first | exact HP2.out | exact HP2.out.alloc (by first | exact Nat.le_refl _ | omega | (simp; done) | (simp; omega)) _ | exact (HP2.out.drew).alloc (by first | exact Nat.le_refl _ | omega | (simp; done) | (simp; omega)) _ | exact HP2.out.drew | exact (HP2.out.alloc (by first | exact Nat.le_refl _ | omega | (simp; done) | (simp; omega)) _).drew) (by first | exact Nat.le_refl _ | omega | (simp; done) | (simp; omega))).mono ?_; rintro e wa ⟨Aa, Pa, ca, da, rfl, owna, ownpa, hba⟩; have HBa : Hid (Below w9.heap.size w9 wa) := Lib.hid (by first | exact hba | exact below_a1x hba | exact below_dx hba | exact below_a1x (below_dx hba) | exact below_dx (below_a1x hba)); have zza := HBa.out.size; have RXa := Lib.hid (rd_own owna); have RPa := Lib.hid (rd_own ownpa); have RXb := Lib.hid ((RXX.out.below HBa.out).more zza); have RPb := Lib.hid ((RPX.out.below HBa.out).more zza); obtain ⟨q0, q1, q2, q3, q4⟩ := cells5 (hKX.out.below HBa.out t1); unfold benchV; clear owna ownpa hba))
          | (go_at_call 12; go_must (refine (laws_eqBench ⟨k, x, y, E, ts⟩ ⟨k, x, y, E, ts⟩ AX Aa PX Pa n cX m dX n ca m da wa.heap.size _ (by first | exact RXb.out | exact RXb.out.alloc (by first | exact Nat.le_refl _ | omega | (simp; done) | (simp; omega)) _ | exact (RXb.out.drew).alloc (by first | exact Nat.le_refl _ | omega | (simp; done) | (simp; omega)) _ | exact RXb.out.drew | exact (RXb.out.alloc (by first | exact Nat.le_refl _ | omega | (simp; done) | (simp; omega)) _).drew) (by first | exact RPb.out | exact RPb.out.alloc (by first | exact Nat.le_refl _ | omega | (simp; done) | (simp; omega)) _ | exact (RPb.out.drew).alloc (by first | exact Nat.le_refl _ | omega | (simp; done) | (simp; omega)) _ | exact RPb.out.drew | exact (RPb.out.alloc (by first | exact Nat.le_refl _ | omega | (simp; done) | (simp; omega)) _).drew) (by first | exact RXa.out | exact RXa.out.alloc (by first | exact Nat.le_refl _ | omega | (simp; done) | (simp; omega)) _ | exact (RXa.out.drew).alloc (by first | exact Nat.le_refl _ | omega | (simp; done) | (simp; omega)) _ | exact RXa.out.drew | exact (RXa.out.alloc (by first | exact Nat.le_refl _ | omega | (simp; done) | (simp; omega)) _).drew) (by first | exact RPa.out | exact RPa.out.alloc (by first | exact Nat.le_refl _ | omega | (simp; done) | (simp; omega)) _ | exact (RPa.out.drew).alloc (by first | exact Nat.le_refl _ | omega | (simp; done) | (simp; omega)) _ | exact RPa.out.drew | exact (RPa.out.alloc (by first | exact Nat.le_refl _ | omega | (simp; done) | (simp; omega)) _).drew) (by first | exact Nat.le_refl _ | omega | (simp; done) | (simp; omega)) (by omega) (by omega) (by omega) (by omega)).mono ?_; rw [show decide ((⟨k, x, y, E, ts⟩ : Pl.Bn) = ⟨k, x, y, E, ts⟩) = true by simp]; rintro e wz ⟨rfl, hbz⟩; have HBz : Hid (Below wa.heap.size wa wz) := Lib.hid (by first | exact hbz | exact below_a1x hbz | exact below_dx hbz | exact below_a1x (below_dx hbz) | exact below_dx (below_a1x hbz)); clear hbz)))
        all_goals go_wp2_with fail
        all_goals go_meet
        all_goals exact ⟨rfl, HBa.out.trans (HBz.out.mono (by omega))⟩
      case rest =>
        obtain ⟨w10, rfl⟩ : ∃ w10, w10 = wc := ⟨_, rfl⟩
        obtain ⟨rfl, hb10⟩ := hcut
        have hz10 := hb10.size
        have K0 := K0.below hb10 K0.lt
        have KD := KD.below hb10 KD.lt
        have KW := KW.below hb10 KW.lt
        have KX := KX.below hb10 KX.lt
        have KG := KG.below hb10 KG.lt
        have OW := OW.below hb10
        have OPW := OPW.below hb10
        have OX := OX.below hb10
        have OPX := OPX.below hb10
        have OG := OG.below hb10
        have OPG := OPG.below hb10
        have HB10 := HB9.trans (hb10.mono (by omega))
        clear hb10 HB9 HB8
        obtain ⟨q0, q1, q2, q3, q4⟩ := cells5 KX
        obtain ⟨qm, hqm⟩ : ∃ qm, qm = 1 + n + m := ⟨_, rfl⟩
        have CM := Lib.hid (laws_markBenchO k x y w5.heap.size X 1 n cX m dX AX PX _ _ w10 OX OPX bX bPX (by omega) (by omega) (by omega) (by omega) (by omega))
        rw [← hqm] at CM
        unfold benchV at CM
        have hqm0 : ¬ (qm : Int) < 0 := by omega
        have one : ((1 : Nat) : Int) = 1 := rfl
        rw [one] at CM
        clear hqm
        go_wp2_with fail
        refine CM.out.mono ?_
        rintro e w11 ⟨rfl, _, _, MK⟩
        clear CM q0 q1 q2 q3 q4 OX OPX
        have hz11 := MK.size
        have K0 := MK.blk K0 (by decide) (by decide)
        have KD := MK.blk KD (by decide) (by decide)
        have KW := MK.blk KW (by decide) (by decide)
        have KG := MK.blk KG (by decide) (by decide)
        have OW := MK.orow_lo OW (by exact bW)
        have OPW := MK.orow_lo OPW (by exact bPW)
        have OG := MK.orow_hi OG (by omega)
        have OPG := MK.orow_hi OPG (by omega)
        have HB11 := HB10.trans (MK.1.mono (by omega))
        clear MK KX HB10
        obtain ⟨u0, u1, u2, u3, u4⟩ := cells5 KW
        obtain ⟨q0, q1, q2, q3, q4⟩ := cells5 KG
        have CE := Lib.hid (laws_eqBench ⟨rk, rx, ry, rE, rts⟩ ⟨rk, rx, ry, rE, rts⟩ AG AW PG PW nG cG mG dG nW cW mW dW w11.heap.size w11 OG.rd OPG.rd OW.rd OPW.rd (Nat.le_refl _) (by omega) (by omega) (by omega) (by omega))
        rw [show decide ((⟨rk, rx, ry, rE, rts⟩ : Pl.Bn) = ⟨rk, rx, ry, rE, rts⟩) = true by simp] at CE
        unfold benchV at CE
        go_wp2_with fail
        refine CE.out.mono ?_
        rintro e w12 ⟨rfl, hb12⟩
        clear CE u0 u1 u2 u3 u4 q0 q1 q2 q3 q4
        have hz12 := hb12.size
        have K0 := K0.below hb12 K0.lt
        have KD := KD.below hb12 KD.lt
        have KW := KW.below hb12 KW.lt
        have KG := KG.below hb12 KG.lt
        have OW := OW.below hb12
        have OPW := OPW.below hb12
        have OG := OG.below hb12
        have OPG := OPG.below hb12
        have HB12 := HB11.trans (hb12.mono (by omega))
        clear hb12 HB11
        obtain ⟨q0, q1, q2, q3, q4⟩ := cells5 KG
        obtain ⟨qn, hqn⟩ : ∃ qn, qn = 1 + nG + mG := ⟨_, rfl⟩
        have CM := Lib.hid (laws_markBenchO rk rx ry w7.heap.size w12.heap.size 1 nG cG mG dG AG PG _ _ w12 OG OPG (fun k h => (OG.lt k h).2) (fun k h => (OPG.lt k h).2) (by omega) (by omega) (by omega) (by omega) (by omega))
        rw [← hqn] at CM
        rw [one] at CM
        unfold benchV at CM
        have hqn0 : ¬ (qn : Int) < 0 := by omega
        have hqnn : ((qn : Int) != (qn : Int)) = false := by simp
        go_wp2_with fail
        refine CM.out.mono ?_
        rintro e w13 ⟨rfl, OG, OPG, MK⟩
        clear CM q0 q1 q2 q3 q4
        have hz13 := MK.size
        have K0 := MK.blk K0 (by decide) (by decide)
        have KD := MK.blk KD (by decide) (by decide)
        have KW := MK.blk KW (by decide) (by decide)
        have KG := MK.blk KG (by decide) (by decide)
        have OW := MK.orow_lo OW (fun k h => by have := bW k h; omega)
        have OPW := MK.orow_lo OPW (fun k h => by have := bPW k h; omega)
        have HB13 := HB12.trans (MK.1.mono (by omega))
        clear MK HB12
        obtain ⟨q0, q1, q2, q3, q4⟩ := cells5 KG
        have CH := Lib.hid (laws_heldBenchO rk rx ry w13.heap.size 1 nG cG mG dG AG PG w13 OG.rd OPG.rd (Nat.le_refl _) (by omega) (by omega) (by omega) (by omega))
        rw [← hqn] at CH
        rw [one] at CH
        unfold benchV at CH
        have HQN := Lib.hid hqn
        clear hqn
        go_wp2_with fail
        refine CH.out.mono ?_
        rintro e w14 ⟨rfl, hb14⟩
        clear CH q0 q1 q2 q3 q4
        have hz14 := hb14.size
        have K0 := K0.below hb14 K0.lt
        have KD := KD.below hb14 KD.lt
        have KW := KW.below hb14 KW.lt
        have KG := KG.below hb14 KG.lt
        have OW := OW.below hb14
        have OPW := OPW.below hb14
        have OG := OG.below hb14
        have OPG := OPG.below hb14
        have HB14 := HB13.trans (hb14.mono (by omega))
        clear hb14 HB13
        have HBv := HB14
        have KK := True.intro
        go_upto_region 27 with (fail)
        go_cut [14, 15] from 109 (fun s14 s15 wx => BAt w14.heap.size wx s14 ⟨rk, rx, ry, rE, rts⟩ ∧ s15 = .bool ok ∧ Below w14.heap.size w14 wx)
        case first =>
          obtain ⟨d0, d1, d2⟩ := cells3 KD
          have t1 : g < w14.heap.size := K0.lt
          have t2 : g + 1 < w14.heap.size := KD.lt
          have t3 : g ≠ w14.heap.size := by omega
          have t4 : g + 1 ≠ w14.heap.size := by omega
          have HX2 := Lib.hid (HX.out.below HBv)
          have HP2 := Lib.hid (HP.out.below HBv)
          have hKD := Lib.hid KD
          obtain ⟨a0, a1, a2, a3, a4⟩ := cells5 K0
          clear K0 KD HBv KK
          go_region_held3 (fun w' => ∀ (b o : Nat), b < w14.heap.size → w'.cell? ⟨b, o, none⟩ = w14.cell? ⟨b, o, none⟩) (first | (with_reducible exact same_drew0) | (with_reducible refine same_alloc_d same_refl0 ?_; first | exact Nat.le_refl _ | omega | (simp; omega)) | (with_reducible exact same_refl0) | (with_reducible exact (bcell hbc).1) | (with_reducible refine same_alloc (bcell hbc).1 ?_; first | exact Nat.le_refl _ | omega | (simp; omega)) | (with_reducible refine same_put5 (bcell hbc).1 ?_; first | exact Nat.le_refl _ | omega | (simp; omega)) | (with_reducible refine same_alloc (by assumption) ?_; first | exact Nat.le_refl _ | omega | (simp; omega)) | (with_reducible refine same_put5 (by assumption) ?_; first | exact Nat.le_refl _ | omega | (simp; omega))) (first
              | (go_at_call 9; go_must (refine (CTB.out _ (by first | exact HX2.out | exact HX2.out.alloc (by first | exact Nat.le_refl _ | omega | (simp; done) | (simp; omega)) _ | exact (HX2.out.drew).alloc (by first | exact Nat.le_refl _ | omega | (simp; done) | (simp; omega)) _ | exact HX2.out.drew | exact (HX2.out.alloc (by first | exact Nat.le_refl _ | omega | (simp; done) | (simp; omega)) _).drew) (by first | exact HP2.out | exact HP2.out.alloc (by first | exact Nat.le_refl _ | omega | (simp; done) | (simp; omega)) _ | exact (HP2.out.drew).alloc (by first | exact Nat.le_refl _ | omega | (simp; done) | (simp; omega)) _ | exact HP2.out.drew | exact (HP2.out.alloc (by first | exact Nat.le_refl _ | omega | (simp; done) | (simp; omega)) _).drew) (by first | exact Nat.le_refl _ | omega | (simp; done) | (simp; omega))).mono ?_; rintro e w3 ⟨A3, P3, c3, d3, rfl, own3, ownp3, hb3⟩; have HB3 : Hid (Below w14.heap.size w14 w3) := Lib.hid (by first | exact hb3 | exact below_a1x hb3 | exact below_dx hb3 | exact below_a1x (below_dx hb3) | exact below_dx (below_a1x hb3)); have HH3 := Lib.hid hb3; have RX3 := Lib.hid (rd_own own3); have RP3 := Lib.hid (rd_own ownp3); have cap3 := (ORow.of_own own3).cap; have zz3 := HB3.out.size; have zz3' := hb3.size; (try simp only [World.size_alloc, World.size_drew] at zz3'); obtain ⟨u0, u1, u2⟩ := cells3 (hKD.out.below HB3.out (by omega)); have hbf3 := (bcell hb3).2; have hbc3 := (bcell hb3).1; have t5 : g + 1 < w3.heap.size := (by omega); have t6 : g + 1 ≠ w3.heap.size := (by omega); (try have t7 : w14.heap.size < w3.heap.size := (by omega)); (try have t8 : w14.heap.size ≠ w3.heap.size := (by omega)); have hbc := HB3.out; unfold benchV; clear own3 ownp3 hb3))
              | (go_at_call 10; go_must (refine (CTD.out _).mono ?_; rintro e w4 ⟨rfl, hb4⟩; have HB4 : Hid (Below w3.heap.size w3 w4) := Lib.hid (by first | exact hb4 | exact below_a1x hb4 | exact below_dx hb4 | exact below_a1x (below_dx hb4) | exact below_dx (below_a1x hb4)); have HH4 := Lib.hid hb4; have zz4 := HB4.out.size; have zz4' := hb4.size; (try simp only [World.size_alloc, World.size_drew] at zz4'); have RX4 := Lib.hid (RX3.out.below HB4.out); have RP4 := Lib.hid (RP3.out.below HB4.out); have hbf4 := (bcell hb4).2; have hbc4 := (bcell hb4).1; (try have t9 : w14.heap.size < w4.heap.size := (by omega)); (try have t10 : w3.heap.size < w4.heap.size := (by omega)); (try have t11 : w14.heap.size ≠ w4.heap.size := (by omega)); (try have t12 : w3.heap.size ≠ w4.heap.size := (by omega)); have hbc := HB3.out.trans (HB4.out.mono (by omega)); unfold deedV; clear hb4))
              | (go_at_call 11; go_must (refine (CI.out A3 P3 c3 d3 w3.heap.size _ (by first | exact RX4.out | exact RX4.out.alloc (by first | exact Nat.le_refl _ | omega | (simp; done) | (simp; omega)) _ | exact (RX4.out.drew).alloc (by first | exact Nat.le_refl _ | omega | (simp; done) | (simp; omega)) _ | exact RX4.out.drew | exact (RX4.out.alloc (by first | exact Nat.le_refl _ | omega | (simp; done) | (simp; omega)) _).drew) (by first | exact RP4.out | exact RP4.out.alloc (by first | exact Nat.le_refl _ | omega | (simp; done) | (simp; omega)) _ | exact (RP4.out.drew).alloc (by first | exact Nat.le_refl _ | omega | (simp; done) | (simp; omega)) _ | exact RP4.out.drew | exact (RP4.out.alloc (by first | exact Nat.le_refl _ | omega | (simp; done) | (simp; omega)) _).drew) (by first | exact Nat.le_refl _ | omega | (simp; done) | (simp; omega)) cap3).mono ?_; rintro e w5 ⟨v, rfl, ⟨A5, P5, n5, c5, m5, d5, rfl, o5, p5⟩, hb5⟩; have HB5 : Hid (Below w4.heap.size w4 w5) := Lib.hid (by first | exact hb5 | exact below_a1x hb5 | exact below_dx hb5 | exact below_a1x (below_dx hb5) | exact below_dx (below_a1x hb5)); have HH5 := Lib.hid hb5; have zz5 := HB5.out.size; have zz5' := hb5.size; (try simp only [World.size_alloc, World.size_drew] at zz5'); have O5 := Lib.hid (o5.mono (show w14.heap.size ≤ _ by first | omega | (simp; omega))); have P5' := Lib.hid (p5.mono (show w14.heap.size ≤ _ by first | omega | (simp; omega))); have hbf5 := (bcell hb5).2; have hbc5 := (bcell hb5).1; (try have t15 : w14.heap.size < w5.heap.size := (by omega)); (try have t16 : w3.heap.size < w5.heap.size := (by omega)); (try have t17 : w4.heap.size < w5.heap.size := (by omega)); have hbc := (HB3.out.trans (HB4.out.mono (by omega))).trans (HB5.out.mono (by omega)); unfold benchV; clear o5 p5 hb5)))
          --XX
          all_goals go_wp2_with fail
          all_goals go_meet
          all_goals have HBB5 := (HB3.out.trans (HB4.out.mono (by omega))).trans (HB5.out.mono (by omega))
          all_goals first
            | (with_reducible exact ⟨bat_a O5.out P5'.out HBB5.size, rfl, HBB5.alloc HBB5.size _⟩)
            | (with_reducible refine bat_c ?_ ?_ O5.out P5'.out HBB5 rfl ?_)
          all_goals repeat' (first
            | (with_reducible refine Blk.newx ?_)
            | (with_reducible refine Blk.alloc ?_ _)
            | (with_reducible refine Blk.drew ?_)
            | (with_reducible refine Blk.below ?_ HH5.out ?_)
            | (with_reducible refine Blk.below ?_ HH4.out ?_)
            | (with_reducible refine Blk.below ?_ HH3.out ?_)
            | omega
            | (simp; done)
            | (simp; omega)
            | rfl)
        case rest =>
          obtain ⟨w15, rfl⟩ : ∃ w15, w15 = wc := ⟨_, rfl⟩
          obtain ⟨⟨H, AH, PH, nH, cH, mH, dH, rfl, hH, KH, OH, OPH⟩, rfl, hbc⟩ := hcut
          have lH : rE.length = nH := by have := OH.len; rwa [I64_len] at this
          have lH' : rts.length = mH := by have := OPH.len; rwa [Tx_len] at this
          have hzc := hbc.size
          have KW := KW.below hbc KW.lt
          have KG := KG.below hbc KG.lt
          have OW := OW.below hbc
          have OPW := OPW.below hbc
          have OG := OG.below hbc
          have OPG := OPG.below hbc
          have HB15 := HB14.trans (hbc.mono (by omega))
          clear hbc HBv KK HB14 K0 KD CI CTB CTD
          obtain ⟨u0, u1, u2, u3, u4⟩ := cells5 KW
          obtain ⟨q0, q1, q2, q3, q4⟩ := cells5 KH
          have CE := Lib.hid (laws_eqBench ⟨rk, rx, ry, rE, rts⟩ ⟨rk, rx, ry, rE, rts⟩ AH AW PH PW nH cH mH dH nW cW mW dW w15.heap.size w15 OH.rd OPH.rd OW.rd OPW.rd (Nat.le_refl _) (by omega) (by omega) (by omega) (by omega))
          rw [show decide ((⟨rk, rx, ry, rE, rts⟩ : Pl.Bn) = ⟨rk, rx, ry, rE, rts⟩) = true by simp] at CE
          unfold benchV at CE
          go_wp2_with fail
          refine CE.out.mono ?_
          rintro e w16 ⟨rfl, hb16⟩
          clear CE u0 u1 u2 u3 u4 q0 q1 q2 q3 q4
          have hz16 := hb16.size
          have KG := KG.below hb16 KG.lt
          have OG := OG.below hb16
          have OPG := OPG.below hb16
          have HB16 := HB15.trans (hb16.mono (by omega))
          clear hb16 HB15 KW OW OPW
          obtain ⟨q0, q1, q2, q3, q4⟩ := cells5 KG
          have CH := Lib.hid (laws_heldBenchO rk rx ry w16.heap.size 1 nG cG mG dG AG PG w16 OG.rd OPG.rd (Nat.le_refl _) (by omega) (by omega) (by omega) (by omega))
          rw [← HQN.out] at CH
          rw [one] at CH
          unfold benchV at CH
          go_wp2_with fail
          refine CH.out.mono ?_
          rintro e w17 ⟨rfl, hb17⟩
          have HB17 := Lib.hid (HB16.trans (hb17.mono (by omega)))
          clear CH q0 q1 q2 q3 q4
          go_wp2_with fail
          go_ret
          exact ⟨rfl, HB17.out⟩
end Go.Proofs.YtamhpgledbmnoaaGreat
