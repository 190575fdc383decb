/-
  The exact law of BenchRun: for every bench and list of deeds the program and the reference agree, the arguments are as they were, and no memory is shared.
  Conditions: none.
-/
import Derived.Test.YtamhpgledbmnoaaGreatM5
import Derived.Test.YtamhpgledbmnoaaGreatM3
import Derived.Test.YtamhpgledbmnoaaGreatM4
import Derived.Deep.DeepMust
import Derived.Test.YtamhpgledbmnoaaGreatIe
import Derived.Test.YtamhpgledbmnoaaGreatOa
import Derived.Test.YtamhpgledbmnoaaGreatKN
import Derived.Test.YtamhpgledbmnoaaGreatO10
import Derived.Test.YtamhpgledbmnoaaGreatO11
namespace Go.Proofs.YtamhpgledbmnoaaGreat
set_option linter.unusedVariables false
set_option linter.unusedSimpArgs false
open Go.RowKit
theorem small_run (b : Pl.Bn) (ds : List Pl.Dd) : (Pl.runB b ds).1.e.length ≤ 24 ∧ (Pl.runB b ds).1.past.length ≤ 21 := by
  cases hv : Pl.benchValid b
  · rw [Pl.runB_f ds hv]; exact ⟨by decide, by decide⟩
  · by_cases hl : ds.length ≤ 40
    · rw [Pl.runB_t hv hl]
      obtain ⟨_, g2, g3, _⟩ := Pl.bv_size (Pl.runD_valid hv ds).1
      exact ⟨g2, by omega⟩
    · rw [Pl.runB_l hl]; exact ⟨by decide, by decide⟩
set_option maxRecDepth 100000 in
set_option maxHeartbeats 16000000 in
theorem law_FnExactBenchRun (v0 v1 : Value) (w : World) (w0 : IsBench w v0) (w1 : IsDeeds w v1) :
    Calls Tryz.prog 5 #[v0, v1] w fun e w' => e = .returned (.bool true) ∧ Below w.heap.size w w' := by
  obtain ⟨⟨k, x, y, E, ts⟩, A, P, n, c, m, d, rfl, hx, hp, hn, hm, hs⟩ := w0
  obtain ⟨L, l, lc, ds, rfl, hd, hl, ht⟩ := w1
  obtain ⟨g, hg⟩ : ∃ g, w.heap.size = g := ⟨_, rfl⟩
  rw [hg] at hx hp hd
  rw [hg]
  obtain ⟨wb, hwb⟩ : ∃ wb, wb = w.alloc (.cells #[.int .i64 k, .int .i64 x, .int .i64 y, .slice A n c, .slice P m d] 25) := ⟨_, rfl⟩
  have hzb : wb.heap.size = g + 1 := by rw [hwb, ← hg]; simp
  have HBB : Below g w wb := by rw [hwb, ← hg]; go_grown
  have K0 : Blk wb g 25 #[.int .i64 k, .int .i64 x, .int .i64 y, .slice A n c, .slice P m d] := by rw [hwb, ← hg]; exact Blk.new w _ _
  have HX := Lib.hid hx
  have HP := Lib.hid hp
  have HD := Lib.hid hd
  have ll : ds.length = l := hd.1
  have lp : ts.length = m := by have := hp.len; rwa [Tx_len] at this
  have CSZ := Lib.hid (fun w' h hB => laws_szBench k x y A P n c m d g ts w' h hB hn hm hs)
  have HT := Lib.hid ht
  obtain ⟨Q, hQ⟩ : ∃ Q, Q = szB n ts := ⟨_, rfl⟩
  have HF := Lib.hid (show 0 ≤ Q → Q ≤ 1048576 ∧ n ≤ 1048576 ∧ ts.length ≤ 1048576 ∧ ∀ s ∈ ts, s.length ≤ 1048576 from fun h => ⟨by rw [hQ]; exact szB_le n ts, by rw [hQ] at h; exact szB_f (by omega)⟩)
  rw [← hQ] at CSZ
  clear hQ hs hx hp ht hd
  show Calls _ _ #[.agg #[.int .i64 k, .int .i64 x, .int .i64 y, .slice A n c, .slice P m d], .slice L l lc] _ _
  go_enter Tryz.func5, Tryz.ntmps5
  go_wp2_with fail
  rw [← hwb]
  clear hwb
  refine (CSZ.out _ (HP.out.below HBB) (by omega)).mono ?_
  rintro e w1 ⟨rfl, hb1⟩
  have hz1 := hb1.size
  have K0 := K0.below hb1 (by omega)
  have HB1 := HBB.trans (hb1.mono (by omega))
  clear hb1 CSZ
  by_cases hneg : Q < 0
  · clear K0
    go_wp2_with fail
    go_ret
    exact ⟨rfl, HB1⟩
  obtain ⟨hQ, hn, hm, hs⟩ := HF.out (by omega)
  have HS := Lib.hid hs
  rw [lp] at hm
  have CSD := Lib.hid (fun w' h hB => laws_szDeedS L l lc g ds Q w' h hB (by omega) hQ hl HT.out)
  have HTF := Lib.hid (fun (h : ¬ szT Q (dts ds) < 0) => szDs_f h)
  obtain ⟨M, hM⟩ : ∃ M, M = szT Q (dts ds) := ⟨_, rfl⟩
  rw [← hM] at CSD HTF
  clear hM hs HF
  go_wp2_with fail
  refine (CSD.out _ (HD.out.below HB1) (by omega)).mono ?_
  rintro e w2 ⟨rfl, hb2⟩
  have hz2 := hb2.size
  have K0 := K0.below hb2 (by omega)
  have HB2 := HB1.trans (hb2.mono (by omega))
  clear hb2 CSD
  by_cases hneg2 : M < 0
  · clear K0
    go_wp2_with fail
    go_ret
    exact ⟨rfl, HB2⟩
  obtain ⟨hl1, ht1⟩ := HTF.out (by omega)
  have hl2 : l ≤ 1048576 := by omega
  have HT1 := Lib.hid ht1
  have CTB := Lib.hid (fun w' h h' hB => laws_toBench ⟨k, x, y, E, ts⟩ A P n c m d g w' h h' hB (by omega) (by omega))
  have CTD := Lib.hid (fun w' h hB => laws_toDeedS L l lc g ds w' h hB hl2)
  have CS := Lib.hid (fun A' P' L' c' d' lc' B w' h h' h'' hB hnc => spec_BenchRun ⟨k, x, y, E, ts⟩ ds A' P' L' n c' m d' l lc' B w' h h' h'' hB (by omega) (by omega) (by omega) hnc (fun s hs => by have := HS.out s hs; omega) (fun D hD => by have := HT1.out D hD; omega))
  have CI := Lib.hid (fun A' P' L' c' d' lc' B w' h h' h'' hB hnc => impl_BenchRun ⟨k, x, y, E, ts⟩ ds A' P' L' n c' m d' l lc' B w' h h' h'' hB (by omega) (by omega) (by omega) hnc (fun s hs => by have := HS.out s hs; omega) (fun D hD => by have := HT1.out D hD; omega))
  obtain ⟨r, hr⟩ : ∃ r, r = Pl.runB ⟨k, x, y, E, ts⟩ ds := ⟨_, rfl⟩
  have hsm := small_run ⟨k, x, y, E, ts⟩ ds
  rw [← hr] at CS CI hsm
  have HLL := Lib.hid ll
  clear hr hneg HTF HT lp ht1 hl1 ll
  obtain ⟨⟨rk, rx, ry, rE, rts⟩, q⟩ := r
  obtain ⟨hs1, hs2⟩ := hsm
  have hs1 : rE.length ≤ 24 := hs1
  have hs2 : rts.length ≤ 21 := hs2
  dsimp only at CS CI
  have one : ((1 : Nat) : Int) = 1 := rfl
  have hqq : ((q : Int) != (q : Int)) = false := by simp
  obtain ⟨a0, a1, a2, a3, a4⟩ := cells5 K0
  go_wp2_with fail
  refine (CTB.out _ (HX.out.below HB2) (HP.out.below HB2) (by omega)).mono ?_
  rintro e w3 ⟨AY, PY, cY, dY, rfl, ownY, ownpY, hb⟩
  clear a0 a1 a2 a3 a4
  unfold benchV
  have OY := ORow.of_own ownY
  have OPY := ORow.of_own ownpY
  have bY := fun k h => (OY.lt k h).2
  have bPY := fun k h => (OPY.lt k h).2
  clear ownY ownpY
  have hz3 := hb.size
  have K0 := K0.below hb K0.lt
  have HB3 := HB2.trans (hb.mono (by omega))
  clear hb HB2
  go_wp2_with fail
  refine (CTD.out _ (HD.out.below HB3) (by omega)).mono ?_
  rintro e w4 hh
  obtain ⟨AZ, cZ, rfl, NZ, hb⟩ := ownDs_n hh HLL.out
  clear hh
  have hz4 := hb.size
  have K0 := K0.below hb K0.lt
  have OY := OY.below hb
  have OPY := OPY.below hb
  have HB4 := HB3.trans (hb.mono (by omega))
  clear hb HB3
  go_wp2_with fail
  refine (CS.out AY PY AZ cY dY cZ w4.heap.size _ OY.rd OPY.rd (rdD_own NZ) (Nat.le_refl _) OY.cap).mono ?_
  rintro e w5 ⟨v, rfl, ⟨AW, PW, nW, cW, mW, dW, rfl, OW, OPW⟩, hb⟩
  unfold benchV
  have lW : rE.length = nW := by have := OW.len; rwa [I64_len] at this
  have lW' : rts.length = mW := by have := OPW.len; rwa [Tx_len] at this
  have bW := fun k h => (OW.lt k h).2
  have bPW := fun k h => (OPW.lt k h).2
  have hz5 := hb.size
  have K0 := K0.below hb K0.lt
  have OY := OY.below hb
  have OPY := OPY.below hb
  have NZ := own_below NZ hb
  have HB5 := HB4.trans (hb.mono (by omega))
  clear hb HB4
  clear OY OPY NZ
  obtain ⟨W, hW⟩ : ∃ W, w5.heap.size = W := ⟨_, rfl⟩
  obtain ⟨w6, hw⟩ : ∃ w', w' = w5.alloc (.cells #[.int .i64 rk, .int .i64 rx, .int .i64 ry, .slice AW nW cW, .slice PW mW dW] 30) := ⟨_, rfl⟩
  have hz6 : w6.heap.size = W + 1 := by rw [hw, ← hW]; simp
  have KW : Blk w6 W 30 #[.int .i64 rk, .int .i64 rx, .int .i64 ry, .slice AW nW cW, .slice PW mW dW] := by rw [hw, ← hW]; exact Blk.new w5 _ _
  replace K0 := K0.alloc (.cells #[.int .i64 rk, .int .i64 rx, .int .i64 ry, .slice AW nW cW, .slice PW mW dW] 30)
  rw [← hw] at K0
  replace OW := OW.alloc (.cells #[.int .i64 rk, .int .i64 rx, .int .i64 ry, .slice AW nW cW, .slice PW mW dW] 30)
  rw [← hw] at OW
  replace OPW := OPW.alloc (.cells #[.int .i64 rk, .int .i64 rx, .int .i64 ry, .slice AW nW cW, .slice PW mW dW] 30)
  rw [← hw] at OPW
  have HB6 : Below g w w6 := by rw [hw]; exact HB5.alloc (by omega) _
  go_upto_region 9 with (fail)
  rw [← hw]
  clear hw HB5
  clear CS
  obtain ⟨a0, a1, a2, a3, a4⟩ := cells5 K0
  go_wp2_with fail
  refine (CTB.out _ (HX.out.below HB6) (HP.out.below HB6) (by omega)).mono ?_
  rintro e w7 ⟨AX, PX, cX, dX, rfl, ownX, ownpX, hb⟩
  clear a0 a1 a2 a3 a4
  unfold benchV
  have OX := ORow.of_own ownX
  have OPX := ORow.of_own ownpX
  have bX := fun k h => (OX.lt k h).2
  have bPX := fun k h => (OPX.lt k h).2
  clear ownX ownpX
  have hz7 := hb.size
  have K0 := K0.below hb K0.lt
  have OW := OW.below hb
  have OPW := OPW.below hb
  have KW := KW.below hb KW.lt
  have HB7 := HB6.trans (hb.mono (by omega))
  clear hb HB6
  obtain ⟨X, hX⟩ : ∃ X, w7.heap.size = X := ⟨_, rfl⟩
  obtain ⟨w8, hw⟩ : ∃ w', w' = w7.alloc (.cells #[.int .i64 k, .int .i64 x, .int .i64 y, .slice AX n cX, .slice PX m dX] 30) := ⟨_, rfl⟩
  have hz8 : w8.heap.size = X + 1 := by rw [hw, ← hX]; simp
  have KX : Blk w8 X 30 #[.int .i64 k, .int .i64 x, .int .i64 y, .slice AX n cX, .slice PX m dX] := by rw [hw, ← hX]; exact Blk.new w7 _ _
  replace K0 := K0.alloc (.cells #[.int .i64 k, .int .i64 x, .int .i64 y, .slice AX n cX, .slice PX m dX] 30)
  rw [← hw] at K0
  replace OW := OW.alloc (.cells #[.int .i64 k, .int .i64 x, .int .i64 y, .slice AX n cX, .slice PX m dX] 30)
  rw [← hw] at OW
  replace OPW := OPW.alloc (.cells #[.int .i64 k, .int .i64 x, .int .i64 y, .slice AX n cX, .slice PX m dX] 30)
  rw [← hw] at OPW
  replace KW := KW.alloc (.cells #[.int .i64 k, .int .i64 x, .int .i64 y, .slice AX n cX, .slice PX m dX] 30)
  rw [← hw] at KW
  replace OX := OX.alloc (.cells #[.int .i64 k, .int .i64 x, .int .i64 y, .slice AX n cX, .slice PX m dX] 30)
  rw [← hw] at OX
  replace OPX := OPX.alloc (.cells #[.int .i64 k, .int .i64 x, .int .i64 y, .slice AX n cX, .slice PX m dX] 30)
  rw [← hw] at OPX
  have HB8 : Below g w w8 := by rw [hw]; exact HB7.alloc (by omega) _
  go_upto_region 10 with (fail)
  rw [← hw]
  clear hw HB7
  go_wp2_with fail
  refine (CTD.out _ (HD.out.below HB8) (by omega)).mono ?_
  rintro e w9 hh
  obtain ⟨AD, cD, rfl, ND, hb⟩ := ownDs_n hh HLL.out
  clear hh
  have hz9 := hb.size
  have K0 := K0.below hb K0.lt
  have OW := OW.below hb
  have OPW := OPW.below hb
  have KW := KW.below hb KW.lt
  have OX := OX.below hb
  have OPX := OPX.below hb
  have KX := KX.below hb KX.lt
  have HB9 := HB8.trans (hb.mono (by omega))
  clear hb HB8
  obtain ⟨q0, q1, q2, q3, q4⟩ := cells5 KX
  go_wp2_with fail
  refine (CI.out AX PX AD cX dX cD w9.heap.size _ OX.rd OPX.rd (rdD_own ND) (Nat.le_refl _) OX.cap).mono ?_
  rintro e w10 ⟨v, rfl, ⟨AG, PG, nG, cG, mG, dG, rfl, OG, OPG⟩, hb⟩
  unfold benchV
  have lG : rE.length = nG := by have := OG.len; rwa [I64_len] at this
  have lG' : rts.length = mG := by have := OPG.len; rwa [Tx_len] at this
  have bG := fun k h => (OG.lt k h).2
  have bPG := fun k h => (OPG.lt k h).2
  have hz10 := hb.size
  have K0 := K0.below hb K0.lt
  have OW := OW.below hb
  have OPW := OPW.below hb
  have KW := KW.below hb KW.lt
  have OX := OX.below hb
  have OPX := OPX.below hb
  have KX := KX.below hb KX.lt
  have ND := own_below ND hb
  have HB10 := HB9.trans (hb.mono (by omega))
  clear hb HB9
  clear q0 q1 q2 q3 q4
  obtain ⟨G, hG⟩ : ∃ G, w10.heap.size = G := ⟨_, rfl⟩
  obtain ⟨w11, hw⟩ : ∃ w', w' = w10.alloc (.cells #[.int .i64 rk, .int .i64 rx, .int .i64 ry, .slice AG nG cG, .slice PG mG dG] 30) := ⟨_, rfl⟩
  have hz11 : w11.heap.size = G + 1 := by rw [hw, ← hG]; simp
  have KG : Blk w11 G 30 #[.int .i64 rk, .int .i64 rx, .int .i64 ry, .slice AG nG cG, .slice PG mG dG] := by rw [hw, ← hG]; exact Blk.new w10 _ _
  replace K0 := K0.alloc (.cells #[.int .i64 rk, .int .i64 rx, .int .i64 ry, .slice AG nG cG, .slice PG mG dG] 30)
  rw [← hw] at K0
  replace OW := OW.alloc (.cells #[.int .i64 rk, .int .i64 rx, .int .i64 ry, .slice AG nG cG, .slice PG mG dG] 30)
  rw [← hw] at OW
  replace OPW := OPW.alloc (.cells #[.int .i64 rk, .int .i64 rx, .int .i64 ry, .slice AG nG cG, .slice PG mG dG] 30)
  rw [← hw] at OPW
  replace KW := KW.alloc (.cells #[.int .i64 rk, .int .i64 rx, .int .i64 ry, .slice AG nG cG, .slice PG mG dG] 30)
  rw [← hw] at KW
  replace OX := OX.alloc (.cells #[.int .i64 rk, .int .i64 rx, .int .i64 ry, .slice AG nG cG, .slice PG mG dG] 30)
  rw [← hw] at OX
  replace OPX := OPX.alloc (.cells #[.int .i64 rk, .int .i64 rx, .int .i64 ry, .slice AG nG cG, .slice PG mG dG] 30)
  rw [← hw] at OPX
  replace KX := KX.alloc (.cells #[.int .i64 rk, .int .i64 rx, .int .i64 ry, .slice AG nG cG, .slice PG mG dG] 30)
  rw [← hw] at KX
  have ND := own_keep (w' := w11) ND (fun b _ hb => by rw [hw]; exact Below.heap_alloc w10 _ b hb)
  replace OG := OG.alloc (.cells #[.int .i64 rk, .int .i64 rx, .int .i64 ry, .slice AG nG cG, .slice PG mG dG] 30)
  rw [← hw] at OG
  replace OPG := OPG.alloc (.cells #[.int .i64 rk, .int .i64 rx, .int .i64 ry, .slice AG nG cG, .slice PG mG dG] 30)
  rw [← hw] at OPG
  have HB11 : Below g w w11 := by rw [hw]; exact HB10.alloc (by omega) _
  go_upto_region 12 with (fail)
  rw [← hw]
  clear hw HB10
  obtain ⟨u0, u1, u2, u3, u4⟩ := cells5 KW
  obtain ⟨q0, q1, q2, q3, q4⟩ := cells5 KG
  have CE := Lib.hid (laws_eqBench ⟨rk, rx, ry, rE, rts⟩ ⟨rk, rx, ry, rE, rts⟩ AG AW PG PW nG cG mG dG nW cW mW dW w11.heap.size w11 OG.rd OPG.rd OW.rd OPW.rd (Nat.le_refl _) (by omega) (by omega) (by omega) (by omega))
  rw [show decide ((⟨rk, rx, ry, rE, rts⟩ : Pl.Bn) = ⟨rk, rx, ry, rE, rts⟩) = true by simp] at CE
  unfold benchV at CE
  go_wp2_with fail
  refine CE.out.mono ?_
  rintro e w12 ⟨rfl, hb⟩
  clear CE u0 u1 u2 u3 u4 q0 q1 q2 q3 q4
  have hz12 := hb.size
  have K0 := K0.below hb K0.lt
  have OW := OW.below hb
  have OPW := OPW.below hb
  have KW := KW.below hb KW.lt
  have OX := OX.below hb
  have OPX := OPX.below hb
  have KX := KX.below hb KX.lt
  have ND := own_below ND hb
  have OG := OG.below hb
  have OPG := OPG.below hb
  have KG := KG.below hb KG.lt
  have HB12 := HB11.trans (hb.mono (by omega))
  clear hb HB11
  go_upto_region 14 with (fail)
  go_cut [58] from 119 (fun s58 wx => s58 = .bool false ∧ Below w12.heap.size w12 wx)
  case first =>
    obtain ⟨a0, a1, a2, a3, a4⟩ := cells5 K0
    obtain ⟨q0, q1, q2, q3, q4⟩ := cells5 KX
    have HX2 := Lib.hid (HX.out.below HB12)
    have HP2 := Lib.hid (HP.out.below HB12)
    have RXX := Lib.hid OX.rd
    have RPX := Lib.hid OPX.rd
    have hKX := Lib.hid KX
    have t1 : X < w12.heap.size := KX.lt
    clear K0 OW OPW KW OX OPX KX ND OG OPG KG HB12
    go_region_with (first
      | (go_at_call 9; go_must (refine (CTB.out _ (by first | exact HX2.out | exact HX2.out.alloc (by first | exact Nat.le_refl _ | omega | (simp; done) | (simp; omega)) _ | exact (HX2.out.drew).alloc (by first | exact Nat.le_refl _ | omega | (simp; done) | (simp; omega)) _ | exact HX2.out.drew | exact (HX2.out.alloc (by first | exact Nat.le_refl _ | omega | (simp; done) | (simp; omega)) _).drew) (by first | exact HP2.out | exact HP2.out.alloc (by first | exact Nat.le_refl _ | omega | (simp; done) | (simp; omega)) _ | exact (HP2.out.drew).alloc (by first | exact Nat.le_refl _ | omega | (simp; done) | (simp; omega)) _ | exact HP2.out.drew | exact (HP2.out.alloc (by first | exact Nat.le_refl _ | omega | (simp; done) | (simp; omega)) _).drew) (by first | exact Nat.le_refl _ | omega | (simp; done) | (simp; omega))).mono ?_; rintro e wa ⟨Aa, Pa, ca, da, rfl, owna, ownpa, hba⟩; have HBa : Hid (Below w12.heap.size w12 wa) := Lib.hid (by first | exact hba | exact below_a1x hba | exact below_dx hba | exact below_a1x (below_dx hba) | exact below_dx (below_a1x hba)); have zza := HBa.out.size; have RXa := Lib.hid (rd_own owna); have RPa := Lib.hid (rd_own ownpa); have RXb := Lib.hid ((RXX.out.below HBa.out).more zza); have RPb := Lib.hid ((RPX.out.below HBa.out).more zza); obtain ⟨q0, q1, q2, q3, q4⟩ := cells5 (hKX.out.below HBa.out t1); unfold benchV; clear owna ownpa hba))
      | (go_at_call 12; go_must (refine (laws_eqBench ⟨k, x, y, E, ts⟩ ⟨k, x, y, E, ts⟩ AX Aa PX Pa n cX m dX n ca m da wa.heap.size _ (by first | exact RXb.out | exact RXb.out.alloc (by first | exact Nat.le_refl _ | omega | (simp; done) | (simp; omega)) _ | exact (RXb.out.drew).alloc (by first | exact Nat.le_refl _ | omega | (simp; done) | (simp; omega)) _ | exact RXb.out.drew | exact (RXb.out.alloc (by first | exact Nat.le_refl _ | omega | (simp; done) | (simp; omega)) _).drew) (by first | exact RPb.out | exact RPb.out.alloc (by first | exact Nat.le_refl _ | omega | (simp; done) | (simp; omega)) _ | exact (RPb.out.drew).alloc (by first | exact Nat.le_refl _ | omega | (simp; done) | (simp; omega)) _ | exact RPb.out.drew | exact (RPb.out.alloc (by first | exact Nat.le_refl _ | omega | (simp; done) | (simp; omega)) _).drew) (by first | exact RXa.out | exact RXa.out.alloc (by first | exact Nat.le_refl _ | omega | (simp; done) | (simp; omega)) _ | exact (RXa.out.drew).alloc (by first | exact Nat.le_refl _ | omega | (simp; done) | (simp; omega)) _ | exact RXa.out.drew | exact (RXa.out.alloc (by first | exact Nat.le_refl _ | omega | (simp; done) | (simp; omega)) _).drew) (by first | exact RPa.out | exact RPa.out.alloc (by first | exact Nat.le_refl _ | omega | (simp; done) | (simp; omega)) _ | exact (RPa.out.drew).alloc (by first | exact Nat.le_refl _ | omega | (simp; done) | (simp; omega)) _ | exact RPa.out.drew | exact (RPa.out.alloc (by first | exact Nat.le_refl _ | omega | (simp; done) | (simp; omega)) _).drew) (by first | exact Nat.le_refl _ | omega | (simp; done) | (simp; omega)) (by omega) (by omega) (by omega) (by omega)).mono ?_; rw [show decide ((⟨k, x, y, E, ts⟩ : Pl.Bn) = ⟨k, x, y, E, ts⟩) = true by simp]; rintro e wz ⟨rfl, hbz⟩; have HBz : Hid (Below wa.heap.size wa wz) := Lib.hid (by first | exact hbz | exact below_a1x hbz | exact below_dx hbz | exact below_a1x (below_dx hbz) | exact below_dx (below_a1x hbz)); clear hbz)))
    all_goals go_wp2_with fail
    all_goals go_meet
    all_goals exact ⟨rfl, HBa.out.trans (HBz.out.mono (by omega))⟩
  case rest =>
    obtain ⟨w13, rfl⟩ : ∃ w', w' = wc := ⟨_, rfl⟩
    obtain ⟨rfl, hb⟩ := hcut
    have hz13 := hb.size
    have K0 := K0.below hb K0.lt
    have OW := OW.below hb
    have OPW := OPW.below hb
    have KW := KW.below hb KW.lt
    have OX := OX.below hb
    have OPX := OPX.below hb
    have KX := KX.below hb KX.lt
    have ND := own_below ND hb
    have OG := OG.below hb
    have OPG := OPG.below hb
    have KG := KG.below hb KG.lt
    have HB13 := HB12.trans (hb.mono (by omega))
    clear hb HB12
    go_wp2_with fail
    refine (CTD.out _ (HD.out.below HB13) (by omega)).mono ?_
    rintro e w14 hh
    obtain ⟨AE, cE, rfl, NE, hb⟩ := ownDs_n hh HLL.out
    clear hh
    have hz14 := hb.size
    have K0 := K0.below hb K0.lt
    have OW := OW.below hb
    have OPW := OPW.below hb
    have KW := KW.below hb KW.lt
    have OX := OX.below hb
    have OPX := OPX.below hb
    have KX := KX.below hb KX.lt
    have ND := own_below ND hb
    have OG := OG.below hb
    have OPG := OPG.below hb
    have KG := KG.below hb KG.lt
    have HB14 := HB13.trans (hb.mono (by omega))
    clear hb HB13
    have CQ := Lib.hid (laws_eqDeedS AD AE l cD cE w14.heap.size ds w14 (rdD_own ND) (rdD_own NE) (Nat.le_refl _) (by omega))
    go_wp2_with fail
    refine CQ.out.mono ?_
    rintro e w15 ⟨rfl, hb⟩
    clear CQ
    have hz15 := hb.size
    have K0 := K0.below hb K0.lt
    have OW := OW.below hb
    have OPW := OPW.below hb
    have KW := KW.below hb KW.lt
    have OX := OX.below hb
    have OPX := OPX.below hb
    have KX := KX.below hb KX.lt
    have ND := own_below ND hb
    have OG := OG.below hb
    have OPG := OPG.below hb
    have KG := KG.below hb KG.lt
    have NE := own_below NE hb
    have HB15 := HB14.trans (hb.mono (by omega))
    clear hb HB14
    clear NE
    obtain ⟨q0, q1, q2, q3, q4⟩ := cells5 KX
    obtain ⟨qm, hqm⟩ : ∃ qm, qm = 1 + n + m := ⟨_, rfl⟩
    have CM := Lib.hid (laws_markBenchO k x y _ X 1 n cX m dX AX PX _ _ w15 OX OPX (fun k h => by have := bX k h; omega) (fun k h => by have := bPX k h; omega) (by omega) (by omega) (by omega) (by omega) (by omega))
    rw [← hqm] at CM
    unfold benchV at CM
    have hqm1 : 1 ≤ qm := by omega
    have hqm2 : qm ≤ 3000000 := by omega
    have hqm0 : ¬ (qm : Int) < 0 := by omega
    rw [one] at CM
    clear hqm
    go_wp2_with fail
    refine CM.out.mono ?_
    rintro e w16 ⟨rfl, _, _, MK⟩
    clear CM q0 q1 q2 q3 q4
    have hz16 := MK.size
    have K0 := MK.blk K0 (by decide) (by decide)
    have KW := MK.blk KW (by decide) (by decide)
    have KG := MK.blk KG (by decide) (by decide)
    have OW := MK.orow_lo OW (fun k h => by have := bW k h; omega)
    have OPW := MK.orow_lo OPW (fun k h => by have := bPW k h; omega)
    have OG := MK.orow_hi OG (by omega)
    have OPG := MK.orow_hi OPG (by omega)
    have ND := own_keep ND (fun b h1 h2 => MK.2.1 b (by omega) h2)
    have HB16 := HB15.trans (MK.1.mono (by omega))
    clear MK HB15 KX OX OPX
    have CM := Lib.hid (laws_markDeedS _ l cD qm AD _ w16 ND (by omega) hqm1 (by omega) (by omega))
    obtain ⟨qd, hqd⟩ : ∃ qd, qd = qm + 3 * l := ⟨_, rfl⟩
    rw [← hqd] at CM
    have hqd0 : ¬ (qd : Int) < 0 := by omega
    clear hqd
    go_wp2_with fail
    refine CM.out.mono ?_
    rintro e w17 ⟨rfl, _, hgr⟩
    clear CM
    have hz17 := hgr.size
    have K0 := blk_apart K0 ND (by decide) hgr
    have KW := blk_apart KW ND (by decide) hgr
    have KG := blk_apart KG ND (by decide) hgr
    have OW := orow_apart OW ND (by decide) hgr
    have OPW := orow_apart OPW ND (by decide) hgr
    have OG := orow_apart OG ND (by decide) hgr
    have OPG := orow_apart OPG ND (by decide) hgr
    have HB17 := HB16.grown hgr (by omega) (fun k hk => by have := (ND.lt k hk).1; omega)
    clear hgr ND HB16
    obtain ⟨u0, u1, u2, u3, u4⟩ := cells5 KW
    obtain ⟨q0, q1, q2, q3, q4⟩ := cells5 KG
    have CE := Lib.hid (laws_eqBench ⟨rk, rx, ry, rE, rts⟩ ⟨rk, rx, ry, rE, rts⟩ AG AW PG PW nG cG mG dG nW cW mW dW w17.heap.size w17 OG.rd OPG.rd OW.rd OPW.rd (Nat.le_refl _) (by omega) (by omega) (by omega) (by omega))
    rw [show decide ((⟨rk, rx, ry, rE, rts⟩ : Pl.Bn) = ⟨rk, rx, ry, rE, rts⟩) = true by simp] at CE
    unfold benchV at CE
    go_wp2_with fail
    refine CE.out.mono ?_
    rintro e w18 ⟨rfl, hb⟩
    clear CE u0 u1 u2 u3 u4 q0 q1 q2 q3 q4
    have hz18 := hb.size
    have K0 := K0.below hb K0.lt
    have OW := OW.below hb
    have OPW := OPW.below hb
    have KW := KW.below hb KW.lt
    have OG := OG.below hb
    have OPG := OPG.below hb
    have KG := KG.below hb KG.lt
    have HB18 := HB17.trans (hb.mono (by omega))
    clear hb HB17
    obtain ⟨q0, q1, q2, q3, q4⟩ := cells5 KG
    obtain ⟨qn, hqn⟩ : ∃ qn, qn = 1 + nG + mG := ⟨_, rfl⟩
    have CM := Lib.hid (laws_markBenchO rk rx ry _ w18.heap.size 1 nG cG mG dG AG PG _ _ w18 OG OPG (fun k h => (OG.lt k h).2) (fun k h => (OPG.lt k h).2) (by omega) (by omega) (by omega) (by omega) (by omega))
    rw [← hqn] at CM
    rw [one] at CM
    unfold benchV at CM
    have hqn0 : ¬ (qn : Int) < 0 := by omega
    have hqnn : ((qn : Int) != (qn : Int)) = false := by simp
    go_wp2_with fail
    refine CM.out.mono ?_
    rintro e w19 ⟨rfl, OG, OPG, MK⟩
    clear CM q0 q1 q2 q3 q4
    have hz19 := MK.size
    have K0 := MK.blk K0 (by decide) (by decide)
    have KW := MK.blk KW (by decide) (by decide)
    have KG := MK.blk KG (by decide) (by decide)
    have OW := MK.orow_lo OW (fun k h => by have := bW k h; omega)
    have OPW := MK.orow_lo OPW (fun k h => by have := bPW k h; omega)
    have HB19 := HB18.trans (MK.1.mono (by omega))
    clear MK HB18
    obtain ⟨q0, q1, q2, q3, q4⟩ := cells5 KG
    have CH := Lib.hid (laws_heldBenchO rk rx ry w19.heap.size 1 nG cG mG dG AG PG w19 OG.rd OPG.rd (Nat.le_refl _) (by omega) (by omega) (by omega) (by omega))
    rw [← hqn] at CH
    rw [one] at CH
    unfold benchV at CH
    have HQN := Lib.hid hqn
    clear hqn
    go_wp2_with fail
    refine CH.out.mono ?_
    rintro e w20 ⟨rfl, hb⟩
    clear CH q0 q1 q2 q3 q4
    have hz20 := hb.size
    have K0 := K0.below hb K0.lt
    have OW := OW.below hb
    have OPW := OPW.below hb
    have KW := KW.below hb KW.lt
    have OG := OG.below hb
    have OPG := OPG.below hb
    have KG := KG.below hb KG.lt
    have HB20 := HB19.trans (hb.mono (by omega))
    clear hb HB19
    obtain ⟨a0, a1, a2, a3, a4⟩ := cells5 K0
    go_wp2_with fail
    refine (CTB.out _ (HX.out.below HB20) (HP.out.below HB20) (by omega)).mono ?_
    rintro e w21 ⟨AR, PR, cR, dR, rfl, ownR, ownpR, hb⟩
    clear a0 a1 a2 a3 a4
    unfold benchV
    have OR := ORow.of_own ownR
    have OPR := ORow.of_own ownpR
    have bR := fun k h => (OR.lt k h).2
    have bPR := fun k h => (OPR.lt k h).2
    clear ownR ownpR
    have hz21 := hb.size
    have K0 := K0.below hb K0.lt
    have OW := OW.below hb
    have OPW := OPW.below hb
    have KW := KW.below hb KW.lt
    have OG := OG.below hb
    have OPG := OPG.below hb
    have KG := KG.below hb KG.lt
    have HB21 := HB20.trans (hb.mono (by omega))
    clear hb HB20
    go_wp2_with fail
    refine (CTD.out _ (HD.out.below HB21) (by omega)).mono ?_
    rintro e w22 hh
    obtain ⟨AS, cS, rfl, NS, hb⟩ := ownDs_n hh HLL.out
    clear hh
    have hz22 := hb.size
    have K0 := K0.below hb K0.lt
    have OW := OW.below hb
    have OPW := OPW.below hb
    have KW := KW.below hb KW.lt
    have OG := OG.below hb
    have OPG := OPG.below hb
    have KG := KG.below hb KG.lt
    have OR := OR.below hb
    have OPR := OPR.below hb
    have HB22 := HB21.trans (hb.mono (by omega))
    clear hb HB21
    go_wp2_with fail
    refine (CI.out AR PR AS cR dR cS w22.heap.size _ OR.rd OPR.rd (rdD_own NS) (Nat.le_refl _) OR.cap).mono ?_
    rintro e w23 ⟨v, rfl, ⟨AH, PH, nH, cH, mH, dH, rfl, OH, OPH⟩, hb⟩
    unfold benchV
    have lH : rE.length = nH := by have := OH.len; rwa [I64_len] at this
    have lH' : rts.length = mH := by have := OPH.len; rwa [Tx_len] at this
    have bH := fun k h => (OH.lt k h).2
    have bPH := fun k h => (OPH.lt k h).2
    have hz23 := hb.size
    have K0 := K0.below hb K0.lt
    have OW := OW.below hb
    have OPW := OPW.below hb
    have KW := KW.below hb KW.lt
    have OG := OG.below hb
    have OPG := OPG.below hb
    have KG := KG.below hb KG.lt
    have OR := OR.below hb
    have OPR := OPR.below hb
    have NS := own_below NS hb
    have HB23 := HB22.trans (hb.mono (by omega))
    clear hb HB22
    clear OR OPR NS
    obtain ⟨H, hH⟩ : ∃ H, w23.heap.size = H := ⟨_, rfl⟩
    obtain ⟨w24, hw⟩ : ∃ w', w' = w23.alloc (.cells #[.int .i64 rk, .int .i64 rx, .int .i64 ry, .slice AH nH cH, .slice PH mH dH] 30) := ⟨_, rfl⟩
    have hz24 : w24.heap.size = H + 1 := by rw [hw, ← hH]; simp
    have KH : Blk w24 H 30 #[.int .i64 rk, .int .i64 rx, .int .i64 ry, .slice AH nH cH, .slice PH mH dH] := by rw [hw, ← hH]; exact Blk.new w23 _ _
    replace K0 := K0.alloc (.cells #[.int .i64 rk, .int .i64 rx, .int .i64 ry, .slice AH nH cH, .slice PH mH dH] 30)
    rw [← hw] at K0
    replace OW := OW.alloc (.cells #[.int .i64 rk, .int .i64 rx, .int .i64 ry, .slice AH nH cH, .slice PH mH dH] 30)
    rw [← hw] at OW
    replace OPW := OPW.alloc (.cells #[.int .i64 rk, .int .i64 rx, .int .i64 ry, .slice AH nH cH, .slice PH mH dH] 30)
    rw [← hw] at OPW
    replace KW := KW.alloc (.cells #[.int .i64 rk, .int .i64 rx, .int .i64 ry, .slice AH nH cH, .slice PH mH dH] 30)
    rw [← hw] at KW
    replace OG := OG.alloc (.cells #[.int .i64 rk, .int .i64 rx, .int .i64 ry, .slice AH nH cH, .slice PH mH dH] 30)
    rw [← hw] at OG
    replace OPG := OPG.alloc (.cells #[.int .i64 rk, .int .i64 rx, .int .i64 ry, .slice AH nH cH, .slice PH mH dH] 30)
    rw [← hw] at OPG
    replace KG := KG.alloc (.cells #[.int .i64 rk, .int .i64 rx, .int .i64 ry, .slice AH nH cH, .slice PH mH dH] 30)
    rw [← hw] at KG
    replace OH := OH.alloc (.cells #[.int .i64 rk, .int .i64 rx, .int .i64 ry, .slice AH nH cH, .slice PH mH dH] 30)
    rw [← hw] at OH
    replace OPH := OPH.alloc (.cells #[.int .i64 rk, .int .i64 rx, .int .i64 ry, .slice AH nH cH, .slice PH mH dH] 30)
    rw [← hw] at OPH
    have HB24 : Below g w w24 := by rw [hw]; exact HB23.alloc (by omega) _
    go_upto_region 32 with (fail)
    rw [← hw]
    clear hw HB23
    obtain ⟨u0, u1, u2, u3, u4⟩ := cells5 KW
    obtain ⟨q0, q1, q2, q3, q4⟩ := cells5 KH
    have CE := Lib.hid (laws_eqBench ⟨rk, rx, ry, rE, rts⟩ ⟨rk, rx, ry, rE, rts⟩ AH AW PH PW nH cH mH dH nW cW mW dW w24.heap.size w24 OH.rd OPH.rd OW.rd OPW.rd (Nat.le_refl _) (by omega) (by omega) (by omega) (by omega))
    rw [show decide ((⟨rk, rx, ry, rE, rts⟩ : Pl.Bn) = ⟨rk, rx, ry, rE, rts⟩) = true by simp] at CE
    unfold benchV at CE
    go_wp2_with fail
    refine CE.out.mono ?_
    rintro e w25 ⟨rfl, hb⟩
    clear CE u0 u1 u2 u3 u4 q0 q1 q2 q3 q4
    have hz25 := hb.size
    have K0 := K0.below hb K0.lt
    have OW := OW.below hb
    have OPW := OPW.below hb
    have KW := KW.below hb KW.lt
    have OG := OG.below hb
    have OPG := OPG.below hb
    have KG := KG.below hb KG.lt
    have OH := OH.below hb
    have OPH := OPH.below hb
    have KH := KH.below hb KH.lt
    have HB25 := HB24.trans (hb.mono (by omega))
    clear hb HB24
    obtain ⟨q0, q1, q2, q3, q4⟩ := cells5 KG
    have CH := Lib.hid (laws_heldBenchO rk rx ry w25.heap.size 1 nG cG mG dG AG PG w25 OG.rd OPG.rd (Nat.le_refl _) (by omega) (by omega) (by omega) (by omega))
    rw [← HQN.out] at CH
    rw [one] at CH
    unfold benchV at CH
    go_wp2_with fail
    refine CH.out.mono ?_
    rintro e w26 ⟨rfl, hb⟩
    clear CH q0 q1 q2 q3 q4
    have hz26 := hb.size
    have K0 := K0.below hb K0.lt
    have OW := OW.below hb
    have OPW := OPW.below hb
    have KW := KW.below hb KW.lt
    have OG := OG.below hb
    have OPG := OPG.below hb
    have KG := KG.below hb KG.lt
    have OH := OH.below hb
    have OPH := OPH.below hb
    have KH := KH.below hb KH.lt
    have HB26 := HB25.trans (hb.mono (by omega))
    clear hb HB25
    have HBE := Lib.hid HB26
    clear HB26 K0 OW OPW KW OG OPG KG OH OPH KH
    go_wp2_with fail
    go_ret
    exact ⟨rfl, HBE.out⟩
end Go.Proofs.YtamhpgledbmnoaaGreat
