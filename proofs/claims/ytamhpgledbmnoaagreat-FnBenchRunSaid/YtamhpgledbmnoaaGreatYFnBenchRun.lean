/-
  The law FnBenchRun: for all codes it returns true.
  Conditions: none.
-/
import Derived.Test.YtamhpgledbmnoaaGreatD18
import Derived.Test.YtamhpgledbmnoaaGreatO10
import Derived.Test.YtamhpgledbmnoaaGreatO11
import Derived.Test.YtamhpgledbmnoaaGreatB8
import Derived.Test.YtamhpgledbmnoaaGreatKD
import Derived.Test.YtamhpgledbmnoaaGreatM4
import Derived.Deep.DeepMust
namespace Go.Proofs.YtamhpgledbmnoaaGreat
set_option linter.unusedVariables false
set_option linter.unusedSimpArgs false
open Go.RowKit
set_option maxHeartbeats 1000000 in
theorem laws_noBenchO (A P : Option Addr) (c pc : Nat) (w : World) :
    Calls Tryz.prog 20 #[benchV 0 0 0 A 0 c P 0 pc] w fun e w' => e = .returned (.bool true) ∧ Below w.heap.size w w' := by
  have CE := Lib.hid (fun w' : World => laws_sameBench Pl.zeroB Pl.zeroB A none P none 0 c 0 pc 0 0 0 0 0 w' Rd.zero Rd.zero Rd.zero Rd.zero (Nat.zero_le _) (by omega) (by omega) (by omega) (by omega))
  rw [show decide (Pl.zeroB = Pl.zeroB) = true by simp] at CE
  unfold benchV Pl.zeroB at CE
  dsimp only at CE
  unfold benchV
  go_enter Tryz.func20, Tryz.ntmps20
  go_wp2_with fail
  refine (CE.out _).mono ?_
  rintro e w1 ⟨rfl, hb1⟩
  have HB := Lib.hid (((Below.refl w.heap.size w).alloc (Nat.le_refl _) _).trans (hb1.mono (by simp)))
  go_wp2_with fail
  go_ret
  exact ⟨rfl, HB.out⟩
namespace Pl
theorem run_half {b : Bn} {ds : List Dd} {h : Nat} (hv : benchValid b = true) (hl : ds.length ≤ 40) (hh : h ≤ ds.length) :
    runB b ds = ((runB (runB b (ds.take h)).1 (ds.drop h)).1, (runB b (ds.take h)).2 + (runB (runB b (ds.take h)).1 (ds.drop h)).2) ∧ benchValid (runB b (ds.take h)).1 = true ∧ benchValid (runB b ds).1 = true ∧ (runB b ds).1.k = b.k := by
  have e1 : runB b (ds.take h) = runD b (ds.take h) := runB_t hv (by rw [List.length_take]; omega)
  have hv2 : benchValid (runD b (ds.take h)).1 = true := (runD_valid hv _).1
  have e2 : runB (runD b (ds.take h)).1 (ds.drop h) = runD (runD b (ds.take h)).1 (ds.drop h) := runB_t hv2 (by rw [List.length_drop]; omega)
  have e3 : runB b ds = runD b ds := runB_t hv hl
  rw [e1, e2, e3]
  refine ⟨?_, hv2, (runD_valid hv ds).1, (runD_valid hv ds).2⟩
  have := runD_parts b (ds.take h) (ds.drop h)
  rwa [List.take_append_drop] at this
theorem runB_none {b : Bn} {ds : List Dd} (h : benchValid b = false ∨ ¬ ds.length ≤ 40) : runB b ds = (zeroB, 0) := by
  rcases h with h | h
  · exact runB_f ds h
  · exact runB_l h
end Pl
theorem small_runY (b : Pl.Bn) (ds : List Pl.Dd) : (Pl.runB b ds).1.e.length ≤ 24 ∧ (Pl.runB b ds).1.past.length ≤ 21 := by
  cases hv : Pl.benchValid b
  · rw [Pl.runB_f ds hv]; exact ⟨by decide, by decide⟩
  · by_cases hl : ds.length ≤ 40
    · rw [Pl.runB_t hv hl]
      obtain ⟨_, g2, g3, _⟩ := Pl.bv_size (Pl.runD_valid hv ds).1
      exact ⟨g2, by omega⟩
    · rw [Pl.runB_l hl]; exact ⟨by decide, by decide⟩
set_option maxRecDepth 100000 in
set_option maxHeartbeats 16000000 in
theorem law_FnBenchRun (a0 : Option Addr) (len0 cap0 : Nat) (z0 : List Int) (w : World) (w0 : IsRow .u8 w a0 len0 cap0 z0) :
    Calls Tryz.prog 4 #[.slice a0 len0 cap0] w fun e w' => e = .returned (.bool true) ∧ Below w.heap.size w w' := by
  obtain ⟨hc, hl, hm⟩ := code_of_row w0
  clear w0
  have hm2 := hm
  unfold maxLen at hm2
  by_cases hbig : 1048576 < len0
  · have hbi : (1048576 : Int) < len0 := by omega
    go_enter Tryz.func4, Tryz.ntmps4
    go_wp2
    go_ret
    exact ⟨rfl, Below.refl _ _⟩
  have hbi : ¬ (1048576 : Int) < len0 := by omega
  obtain ⟨g, hg⟩ : ∃ g, w.heap.size = g := ⟨_, rfl⟩
  go_enter Tryz.func4, Tryz.ntmps4
  go_wp2_with fail
  refine (spec_DrawBenchRun a0 len0 cap0 _ hc hl hm).mono ?_
  rintro e w1 ⟨v, ⟨k, x, y, E, ts⟩, LG, l, lc, ds, rfl, ⟨AD, PD, nD, cD, mD, dD, rfl, OD, OPD⟩, SM, ND, hl41, hts, HB1⟩
  rw [hg] at OD OPD ND HB1
  obtain ⟨_, _, s3, s4, s5⟩ := SM
  have ln : E.length = nD := by have := OD.len; rwa [I64_len] at this
  have lm : ts.length = mD := by have := OPD.len; rwa [Tx_len] at this
  have s3 : E.length ≤ 24 := s3
  have s4 : ts.length ≤ 21 := s4
  have hlc : l ≤ lc := by
    rcases ND.2 with ⟨h1, _⟩ | ⟨g', cap, cur, hv, _, _, hnc, _⟩
    · cases h1
    · injection hv with h1 h2 h3; omega
  have ll : ds.length = l := by have := ND.1; rw [D3_len] at this; omega
  have hz1 := HB1.size
  have HS1 := Lib.hid (show ∀ s ∈ ts, s.length ≤ 1000000000000 from fun s hs => by have := s5 s hs; omega)
  have HS2 := Lib.hid (show ∀ s ∈ ts, s.length ≤ 2000000 from fun s hs => by have := s5 s hs; omega)
  have HT := Lib.hid (show ∀ D ∈ ds, D.t.length ≤ 2000000 from fun D hD => by have := hts D hD; omega)
  have hnc := OD.cap
  have HLL := Lib.hid ll
  rw [hg] at hz1
  clear hc hl hm hbig hm2 s5 hts hbi ll
  unfold benchV
  obtain ⟨B, hB⟩ : ∃ B, w1.heap.size = B := ⟨_, rfl⟩
  obtain ⟨w2, hw⟩ : ∃ w', w' = w1.alloc (.cells #[.int .i64 k, .int .i64 x, .int .i64 y, .slice AD nD cD, .slice PD mD dD] 30) := ⟨_, rfl⟩
  have hz2 : w2.heap.size = B + 1 := by rw [hw, ← hB]; simp
  have KB : Blk w2 B 30 #[.int .i64 k, .int .i64 x, .int .i64 y, .slice AD nD cD, .slice PD mD dD] := by rw [hw, ← hB]; exact Blk.new w1 _ _
  replace OD := OD.alloc (.cells #[.int .i64 k, .int .i64 x, .int .i64 y, .slice AD nD cD, .slice PD mD dD] 30)
  rw [← hw] at OD
  replace OPD := OPD.alloc (.cells #[.int .i64 k, .int .i64 x, .int .i64 y, .slice AD nD cD, .slice PD mD dD] 30)
  rw [← hw] at OPD
  have ND := own_keep (w' := w2) ND (fun b _ hb => by rw [hw]; exact Below.heap_alloc w1 _ b hb)
  have HB2 : Below g w w2 := by rw [hw]; exact HB1.alloc (by omega) _
  go_upto_region 4 with (fail)
  rw [← hw]
  clear hw HB1
  have CI := Lib.hid (fun B w' h h' h'' hB => impl_BenchRun ⟨k, x, y, E, ts⟩ ds AD PD (some ⟨LG, 0, none⟩) nD cD mD dD l lc B w' h h' h'' hB (by omega) (by omega) (by omega) hnc HS2.out HT.out)
  have CS := Lib.hid (fun B w' h h' h'' hB => spec_BenchRun ⟨k, x, y, E, ts⟩ ds AD PD (some ⟨LG, 0, none⟩) nD cD mD dD l lc B w' h h' h'' hB (by omega) (by omega) (by omega) hnc HS2.out HT.out)
  have CV := Lib.hid (fun B w' h h' hB => spec_BenchValid ⟨k, x, y, E, ts⟩ AD PD nD cD mD dD B w' h h' hB (by omega) (by omega) HS2.out)
  obtain ⟨r, hr⟩ : ∃ r, Pl.runB ⟨k, x, y, E, ts⟩ ds = r := ⟨_, rfl⟩
  have hsm := small_runY ⟨k, x, y, E, ts⟩ ds
  rw [hr] at CI CS hsm
  have HR := Lib.hid hr
  clear hr
  obtain ⟨⟨rk, rx, ry, rE, rts⟩, q⟩ := r
  obtain ⟨hs1, hs2⟩ := hsm
  have hs1 : rE.length ≤ 24 := hs1
  have hs2 : rts.length ≤ 21 := hs2
  dsimp only at CI CS
  unfold benchV at CI CS CV
  have hqq : ((q : Int) != (q : Int)) = false := by simp
  obtain ⟨q0, q1, q2, q3, q4⟩ := cells5 KB
  go_wp2_with fail
  refine (CI.out w2.heap.size _ OD.rd OPD.rd (rdD_own ND) (Nat.le_refl _)).mono ?_
  rintro e w3 ⟨v, rfl, ⟨AX, PX, nX, cX, mX, dX, rfl, OX, OPX⟩, hb⟩
  unfold benchV
  clear q0 q1 q2 q3 q4
  have lX : rE.length = nX := by have := OX.len; rwa [I64_len] at this
  have lX' : rts.length = mX := by have := OPX.len; rwa [Tx_len] at this
  have hz3 := hb.size
  have OD := OD.below hb
  have OPD := OPD.below hb
  have ND := own_below ND hb
  have KB := KB.below hb KB.lt
  have HB3 := HB2.trans (hb.mono (by omega))
  clear hb HB2
  obtain ⟨X, hX⟩ : ∃ X, w3.heap.size = X := ⟨_, rfl⟩
  obtain ⟨w4, hw⟩ : ∃ w', w' = w3.alloc (.cells #[.int .i64 rk, .int .i64 rx, .int .i64 ry, .slice AX nX cX, .slice PX mX dX] 30) := ⟨_, rfl⟩
  have hz4 : w4.heap.size = X + 1 := by rw [hw, ← hX]; simp
  have KX : Blk w4 X 30 #[.int .i64 rk, .int .i64 rx, .int .i64 ry, .slice AX nX cX, .slice PX mX dX] := by rw [hw, ← hX]; exact Blk.new w3 _ _
  replace OD := OD.alloc (.cells #[.int .i64 rk, .int .i64 rx, .int .i64 ry, .slice AX nX cX, .slice PX mX dX] 30)
  rw [← hw] at OD
  replace OPD := OPD.alloc (.cells #[.int .i64 rk, .int .i64 rx, .int .i64 ry, .slice AX nX cX, .slice PX mX dX] 30)
  rw [← hw] at OPD
  have ND := own_keep (w' := w4) ND (fun b _ hb => by rw [hw]; exact Below.heap_alloc w3 _ b hb)
  replace KB := KB.alloc (.cells #[.int .i64 rk, .int .i64 rx, .int .i64 ry, .slice AX nX cX, .slice PX mX dX] 30)
  rw [← hw] at KB
  replace OX := OX.alloc (.cells #[.int .i64 rk, .int .i64 rx, .int .i64 ry, .slice AX nX cX, .slice PX mX dX] 30)
  rw [← hw] at OX
  replace OPX := OPX.alloc (.cells #[.int .i64 rk, .int .i64 rx, .int .i64 ry, .slice AX nX cX, .slice PX mX dX] 30)
  rw [← hw] at OPX
  have HB4 : Below g w w4 := by rw [hw]; exact HB3.alloc (by omega) _
  go_upto_region 5 with (fail)
  rw [← hw]
  clear hw HB3
  obtain ⟨q0, q1, q2, q3, q4⟩ := cells5 KB
  go_wp2_with fail
  refine (CS.out w4.heap.size _ OD.rd OPD.rd (rdD_own ND) (Nat.le_refl _)).mono ?_
  rintro e w5 ⟨v, rfl, ⟨AY, PY, nY, cY, mY, dY, rfl, OY, OPY⟩, hb⟩
  unfold benchV
  clear q0 q1 q2 q3 q4
  have lY : rE.length = nY := by have := OY.len; rwa [I64_len] at this
  have lY' : rts.length = mY := by have := OPY.len; rwa [Tx_len] at this
  have hz5 := hb.size
  have OD := OD.below hb
  have OPD := OPD.below hb
  have ND := own_below ND hb
  have KB := KB.below hb KB.lt
  have OX := OX.below hb
  have OPX := OPX.below hb
  have KX := KX.below hb KX.lt
  have HB5 := HB4.trans (hb.mono (by omega))
  clear hb HB4
  obtain ⟨Y, hY⟩ : ∃ Y, w5.heap.size = Y := ⟨_, rfl⟩
  obtain ⟨w6, hw⟩ : ∃ w', w' = w5.alloc (.cells #[.int .i64 rk, .int .i64 rx, .int .i64 ry, .slice AY nY cY, .slice PY mY dY] 30) := ⟨_, rfl⟩
  have hz6 : w6.heap.size = Y + 1 := by rw [hw, ← hY]; simp
  have KY : Blk w6 Y 30 #[.int .i64 rk, .int .i64 rx, .int .i64 ry, .slice AY nY cY, .slice PY mY dY] := by rw [hw, ← hY]; exact Blk.new w5 _ _
  replace OD := OD.alloc (.cells #[.int .i64 rk, .int .i64 rx, .int .i64 ry, .slice AY nY cY, .slice PY mY dY] 30)
  rw [← hw] at OD
  replace OPD := OPD.alloc (.cells #[.int .i64 rk, .int .i64 rx, .int .i64 ry, .slice AY nY cY, .slice PY mY dY] 30)
  rw [← hw] at OPD
  have ND := own_keep (w' := w6) ND (fun b _ hb => by rw [hw]; exact Below.heap_alloc w5 _ b hb)
  replace KB := KB.alloc (.cells #[.int .i64 rk, .int .i64 rx, .int .i64 ry, .slice AY nY cY, .slice PY mY dY] 30)
  rw [← hw] at KB
  replace OX := OX.alloc (.cells #[.int .i64 rk, .int .i64 rx, .int .i64 ry, .slice AY nY cY, .slice PY mY dY] 30)
  rw [← hw] at OX
  replace OPX := OPX.alloc (.cells #[.int .i64 rk, .int .i64 rx, .int .i64 ry, .slice AY nY cY, .slice PY mY dY] 30)
  rw [← hw] at OPX
  replace KX := KX.alloc (.cells #[.int .i64 rk, .int .i64 rx, .int .i64 ry, .slice AY nY cY, .slice PY mY dY] 30)
  rw [← hw] at KX
  replace OY := OY.alloc (.cells #[.int .i64 rk, .int .i64 rx, .int .i64 ry, .slice AY nY cY, .slice PY mY dY] 30)
  rw [← hw] at OY
  replace OPY := OPY.alloc (.cells #[.int .i64 rk, .int .i64 rx, .int .i64 ry, .slice AY nY cY, .slice PY mY dY] 30)
  rw [← hw] at OPY
  have HB6 : Below g w w6 := by rw [hw]; exact HB5.alloc (by omega) _
  go_upto_region 6 with (fail)
  rw [← hw]
  clear hw HB5
  obtain ⟨u0, u1, u2, u3, u4⟩ := cells5 KY
  obtain ⟨q0, q1, q2, q3, q4⟩ := cells5 KX
  have CE := Lib.hid (laws_sameBench ⟨rk, rx, ry, rE, rts⟩ ⟨rk, rx, ry, rE, rts⟩ AX AY PX PY nX cX mX dX nY cY mY dY w6.heap.size w6 OX.rd OPX.rd OY.rd OPY.rd (Nat.le_refl _) (by omega) (by omega) (by omega) (by omega))
  rw [show decide ((⟨rk, rx, ry, rE, rts⟩ : Pl.Bn) = ⟨rk, rx, ry, rE, rts⟩) = true by simp] at CE
  unfold benchV at CE
  go_wp2_with fail
  refine CE.out.mono ?_
  rintro e w7 ⟨rfl, hb⟩
  clear CE u0 u1 u2 u3 u4 q0 q1 q2 q3 q4
  have hz7 := hb.size
  have OD := OD.below hb
  have OPD := OPD.below hb
  have ND := own_below ND hb
  have KB := KB.below hb KB.lt
  have OX := OX.below hb
  have OPX := OPX.below hb
  have KX := KX.below hb KX.lt
  have OY := OY.below hb
  have OPY := OPY.below hb
  have KY := KY.below hb KY.lt
  have HB7 := HB6.trans (hb.mono (by omega))
  clear hb HB6
  clear KY OY OPY CS
  obtain ⟨q0, q1, q2, q3, q4⟩ := cells5 KB
  go_wp2_with fail
  refine (CV.out w7.heap.size _ OD.rd OPD.rd (Nat.le_refl _)).mono ?_
  rintro e w8 ⟨rfl, hb⟩
  clear q0 q1 q2 q3 q4 CV
  have hz8 := hb.size
  have OD := OD.below hb
  have OPD := OPD.below hb
  have ND := own_below ND hb
  have KB := KB.below hb KB.lt
  have OX := OX.below hb
  have OPX := OPX.below hb
  have KX := KX.below hb KX.lt
  have HB8 := HB7.trans (hb.mono (by omega))
  clear hb HB7
  cases hv : Pl.benchValid ⟨k, x, y, E, ts⟩
  · have hvf := Lib.hid hv
    clear hv
    have hz0 := HR.out.symm.trans (Pl.runB_none (.inl hvf.out))
    injection hz0 with h1 h2
    injection h1 with e1 e2 e3 e4 e5
    subst h2 e1 e2 e3 e4 e5
    have e6 : nX = 0 := by rw [← lX]; rfl
    have e7 : mX = 0 := by rw [← lX']; rfl
    subst e6 e7
    have CN := Lib.hid (laws_noBenchO AX PX cX dX w8)
    unfold benchV at CN
    obtain ⟨q0, q1, q2, q3, q4⟩ := cells5 KX
    have HBN := Lib.hid HB8
    have hzN := HB8.size
    clear hs1 hs2 HR hqq OD OPD ND KB OX OPX KX HB8 lX lX' lY lY' CI
    go_wp2_with fail
    refine CN.out.mono ?_
    rintro e wn ⟨rfl, hb⟩
    have HBN1 := Lib.hid (HBN.out.trans (hb.mono (by omega)))
    clear hb CN
    go_wp2_with fail
    refine (laws_alive _).mono ?_
    rintro e wo ⟨rfl, hb⟩
    have HBN2 := Lib.hid (HBN1.out.trans (hb.mono (by have := HBN1.out.size; omega)))
    clear hb
    go_wp2_with fail
    go_ret
    exact ⟨rfl, by rw [← hg] at HBN2; exact HBN2.out⟩
  have HV := Lib.hid hv
  clear hv
  by_cases hl40 : l ≤ 40
  case neg =>
    have h40 : (40 : Int) < (l : Int) := by omega
    have hz0 := HR.out.symm.trans (Pl.runB_none (.inr (by have := HLL.out; omega)))
    injection hz0 with h1 h2
    injection h1 with e1 e2 e3 e4 e5
    subst h2 e1 e2 e3 e4 e5
    have e6 : nX = 0 := by rw [← lX]; rfl
    have e7 : mX = 0 := by rw [← lX']; rfl
    subst e6 e7
    have CN := Lib.hid (laws_noBenchO AX PX cX dX w8)
    unfold benchV at CN
    obtain ⟨q0, q1, q2, q3, q4⟩ := cells5 KX
    have HBN := Lib.hid HB8
    have hzN := HB8.size
    clear hs1 hs2 HR hqq OD OPD ND KB OX OPX KX HB8 lX lX' lY lY' CI
    go_wp2_with fail
    refine CN.out.mono ?_
    rintro e wn ⟨rfl, hb⟩
    have HBN1 := Lib.hid (HBN.out.trans (hb.mono (by omega)))
    clear hb CN
    go_wp2_with fail
    refine (laws_alive _).mono ?_
    rintro e wo ⟨rfl, hb⟩
    have HBN2 := Lib.hid (HBN1.out.trans (hb.mono (by have := HBN1.out.size; omega)))
    clear hb
    go_wp2_with fail
    go_ret
    exact ⟨rfl, by rw [← hg] at HBN2; exact HBN2.out⟩
  case pos =>
    have h40 : ¬ (40 : Int) < (l : Int) := by omega
    obtain ⟨h, hh⟩ : ∃ h, h = l / 2 := ⟨_, rfl⟩
    have hhl : h ≤ l := by omega
    have htd : (l : Int).tdiv 2 = (h : Int) := by rw [Int.tdiv_eq_ediv_of_nonneg (by omega)]; omega
    have hwh : IntKind.i64.wrap (h : Int) = (h : Int) := IntWalk.i64_in _ (by omega)
    obtain ⟨hrun, hva, hvr, hkr⟩ := Pl.run_half (ds := ds) (h := h) HV.out (by have := HLL.out; omega) (by have := HLL.out; omega)
    rw [HR.out] at hrun hvr hkr
    have hsa := small_runY ⟨k, x, y, E, ts⟩ (ds.take h)
    have CA := Lib.hid (fun B w' h1 h' h'' hB => impl_BenchRun ⟨k, x, y, E, ts⟩ (ds.take h) AD PD (some ⟨LG, 0, none⟩) nD cD mD dD h lc B w' h1 h' h'' hB (by omega) (by omega) (by omega) hnc HS2.out (fun D hD => HT.out D (List.mem_of_mem_take hD)))
    obtain ⟨ra, hra⟩ : ∃ ra, Pl.runB ⟨k, x, y, E, ts⟩ (ds.take h) = ra := ⟨_, rfl⟩
    rw [hra] at CA hrun hva hsa
    obtain ⟨⟨ak, ax, ay, aE, ats⟩, qa⟩ := ra
    obtain ⟨t1, t2⟩ := hsa
    have t1 : aE.length ≤ 24 := t1
    have t2 : ats.length ≤ 21 := t2
    have ts5 := (Pl.bv_size hva).2.2.2
    have HSA := Lib.hid (show ∀ s ∈ ats, s.length ≤ 2000000 from fun s hs => by have := ts5 s hs; omega)
    have ts6 := (Pl.bv_size hvr).2.2.2
    have HSR := Lib.hid (show ∀ s ∈ rts, s.length ≤ 1000000000000 from fun s hs => by have := ts6 s hs; omega)
    have hkr : rk = k := hkr
    subst rk
    have HVR := Lib.hid hvr
    obtain ⟨rc, hrc⟩ : ∃ rc, Pl.runB (⟨ak, ax, ay, aE, ats⟩ : Pl.Bn) (ds.drop h) = rc := ⟨_, rfl⟩
    dsimp only at hrun
    rw [hrc] at hrun
    obtain ⟨rc, qc⟩ := rc
    injection hrun with hr1 hq
    dsimp only at hr1 hq
    subst hr1
    have hqb : q ≤ 40 := by
      have h1 := HR.out
      have h2 := Pl.runD_n ⟨k, x, y, E, ts⟩ ds
      rw [Pl.runB_t HV.out (by have := HLL.out; omega)] at h1
      rw [h1] at h2
      have := HLL.out
      have h2 : q ≤ ds.length := h2
      omega
    have hqi : (qa : Int) + (qc : Int) = (q : Int) := by omega
    have hqw : IntKind.i64.wrap (q : Int) = (q : Int) := IntWalk.i64_in _ (by omega)
    have HRC := Lib.hid hrc
    have ZA := Lib.hid (rdD_own ND)
    have HH := Lib.hid hh
    unfold benchV at CA
    dsimp only at CA
    clear hra hva hvr ts5 ts6 hq hrc HR hqq lY lY' hh
    go_upto_region 11 with (fail)
    have HCAP := Lib.hid (show (0 : Int) ≤ (h : Int) ∧ (h : Int) ≤ (lc : Int) from ⟨by omega, by omega⟩)
    go_cut [10, 11] from 100 (fun s10 s11 wx => BAt w8.heap.size wx s10 ⟨ak, ax, ay, aE, ats⟩ ∧ s11 = .int .i64 qa ∧ Below w8.heap.size w8 wx)
    case first =>
      obtain ⟨a0, a1, a2, a3, a4⟩ := cells5 KB
      have t3 : B < w8.heap.size := KB.lt
      have t4 : B ≠ w8.heap.size := by omega
      obtain ⟨b1, b2⟩ := HCAP.out
      have RX := Lib.hid OD.rd
      have RP := Lib.hid OPD.rd
      have RD := Lib.hid (ZA.out.take hhl)
      clear OD OPD ND KB OX OPX KX HB8 htd hwh
      go_region_held3 (fun w' => ∀ (b o : Nat), b < w8.heap.size → w'.cell? ⟨b, o, none⟩ = w8.cell? ⟨b, o, none⟩) (first | (with_reducible exact same_drew0) | (with_reducible refine same_alloc_d same_refl0 ?_; first | exact Nat.le_refl _ | omega | (simp; omega)) | (with_reducible exact same_refl0) | (with_reducible exact (bcell hbc).1) | (with_reducible refine same_alloc (bcell hbc).1 ?_; first | exact Nat.le_refl _ | omega | (simp; omega)) | (with_reducible refine same_put5 (bcell hbc).1 ?_; first | exact Nat.le_refl _ | omega | (simp; omega)) | (with_reducible refine same_alloc (by assumption) ?_; first | exact Nat.le_refl _ | omega | (simp; omega)) | (with_reducible refine same_put5 (by assumption) ?_; first | exact Nat.le_refl _ | omega | (simp; omega)))
        ((go_at_call 16; go_must (refine (CA.out w8.heap.size _ (by first | exact RX.out | exact RX.out.alloc (by first | exact Nat.le_refl _ | omega | (simp; done) | (simp; omega)) _ | exact (RX.out.drew).alloc (by first | exact Nat.le_refl _ | omega | (simp; done) | (simp; omega)) _ | exact RX.out.drew | exact (RX.out.alloc (by first | exact Nat.le_refl _ | omega | (simp; done) | (simp; omega)) _).drew) (by first | exact RP.out | exact RP.out.alloc (by first | exact Nat.le_refl _ | omega | (simp; done) | (simp; omega)) _ | exact (RP.out.drew).alloc (by first | exact Nat.le_refl _ | omega | (simp; done) | (simp; omega)) _ | exact RP.out.drew | exact (RP.out.alloc (by first | exact Nat.le_refl _ | omega | (simp; done) | (simp; omega)) _).drew) (by first | exact RD.out | exact RD.out.alloc (by first | exact Nat.le_refl _ | omega | (simp; done) | (simp; omega)) _ | exact (RD.out.drewN 1).alloc (by first | exact Nat.le_refl _ | omega | (simp; done) | (simp; omega)) _ | exact RD.out.drewN 1 | exact (RD.out.alloc (by first | exact Nat.le_refl _ | omega | (simp; done) | (simp; omega)) _).drewN 1) (by first | exact Nat.le_refl _ | omega | (simp; done) | (simp; omega))).mono ?_; rintro e w5 ⟨v, rfl, ⟨A5, P5, n5, c5, m5, d5, rfl, o5, p5⟩, hb5⟩; have HB5 : Hid (Below w8.heap.size w8 w5) := Lib.hid (by first | exact hb5 | exact below_a1x hb5 | exact below_dx hb5 | exact below_a1x (below_dx hb5) | exact below_dx (below_a1x hb5)); have HH5 := Lib.hid hb5; have zz5 := HB5.out.size; have zz5' := hb5.size; (try simp only [World.size_alloc, World.size_drew] at zz5'); have O5 := Lib.hid (o5.mono (show w8.heap.size ≤ _ by first | exact Nat.le_refl _ | omega | (simp; done) | (simp; omega))); have P5' := Lib.hid (p5.mono (show w8.heap.size ≤ _ by first | exact Nat.le_refl _ | omega | (simp; done) | (simp; omega))); have hbf5 := (bcell hb5).2; have hbc5 := (bcell hb5).1; (try have t15 : w8.heap.size < w5.heap.size := (by omega)); have hbc := HB5.out; unfold benchV; clear o5 p5 hb5)))
      all_goals go_wp2_with fail
      all_goals go_meet
      all_goals first
        | (with_reducible exact ⟨bat_a O5.out P5'.out HB5.out.size, rfl, HB5.out.alloc HB5.out.size _⟩)
        | (with_reducible refine bat_c ?_ ?_ O5.out P5'.out HB5.out rfl ?_)
      all_goals repeat' (first
        | (with_reducible refine Blk.newx ?_)
        | (with_reducible refine Blk.alloc ?_ _)
        | (with_reducible refine Blk.drew ?_)
        | (with_reducible refine Blk.below ?_ HH5.out ?_)
        | omega
        | (simp; done)
        | (simp; omega)
        | rfl)
    case rest =>
      obtain ⟨w9, rfl⟩ : ∃ w', w' = wc := ⟨_, rfl⟩
      obtain ⟨⟨Z, AZ, PZ, nZ, cZ, mZ, dZ, rfl, hZ, KZ, OZ, OPZ⟩, rfl, hb⟩ := hcut
      have lZ : aE.length = nZ := by have := OZ.len; rwa [I64_len] at this
      have lZ' : ats.length = mZ := by have := OPZ.len; rwa [Tx_len] at this
      have hncZ := OZ.cap
      have hz9 := hb.size
      have OD := OD.below hb
      have OPD := OPD.below hb
      have ND := own_below ND hb
      have KB := KB.below hb KB.lt
      have OX := OX.below hb
      have OPX := OPX.below hb
      have KX := KX.below hb KX.lt
      have HB9 := HB8.trans (hb.mono (by omega))
      clear hb HB8
      have ZB := Lib.hid (rdD_own ND)
      clear CA ZA
      go_upto_region 12 with (fail)
      go_cut [12, 13] from 100 (fun s12 s13 wx => BAt w9.heap.size wx s12 ⟨k, rx, ry, rE, rts⟩ ∧ s13 = .int .i64 qc ∧ Below w9.heap.size w9 wx)
      case first =>
        obtain ⟨a0, a1, a2, a3, a4⟩ := cells5 KZ
        have t3 : Z < w9.heap.size := KZ.lt
        have t4 : Z ≠ w9.heap.size := by omega
        obtain ⟨b1, b2⟩ := HCAP.out
        have b3 : (h : Int) ≤ (l : Int) := by omega
        have RX := Lib.hid OZ.rd
        have RP := Lib.hid OPZ.rd
        clear OD OPD ND KB OX OPX KX KZ OZ OPZ HB9
        by_cases hcz : lc = h
        · have hl0 : l = 0 := by have := HH.out; omega
          have hh0 : h = 0 := by omega
          have hc0 : lc = 0 := by omega
          clear HH hcz
          subst hl0 hh0 hc0
          have hds : ds = [] := List.eq_nil_of_length_eq_zero HLL.out
          subst hds
          have CC := Lib.hid (fun B w' h1 h' h'' hB => impl_BenchRun ⟨ak, ax, ay, aE, ats⟩ [] AZ PZ (some ⟨LG, 0, none⟩) nZ cZ mZ dZ 0 0 B w' h1 h' h'' hB (by omega) (by omega) (by omega) hncZ HSA.out (fun D hD => by cases hD))
          rw [show Pl.runB (⟨ak, ax, ay, aE, ats⟩ : Pl.Bn) [] = (⟨k, rx, ry, rE, rts⟩, qc) from HRC.out] at CC
          dsimp only at CC
          unfold benchV at CC
          have RD := ZB
          go_region_held3 (fun w' => ∀ (b o : Nat), b < w9.heap.size → w'.cell? ⟨b, o, none⟩ = w9.cell? ⟨b, o, none⟩) (first | (with_reducible exact same_drew0) | (with_reducible refine same_alloc_d same_refl0 ?_; first | exact Nat.le_refl _ | omega | (simp; omega)) | (with_reducible exact same_refl0) | (with_reducible exact (bcell hbc).1) | (with_reducible refine same_alloc (bcell hbc).1 ?_; first | exact Nat.le_refl _ | omega | (simp; omega)) | (with_reducible refine same_put5 (bcell hbc).1 ?_; first | exact Nat.le_refl _ | omega | (simp; omega)) | (with_reducible refine same_alloc (by assumption) ?_; first | exact Nat.le_refl _ | omega | (simp; omega)) | (with_reducible refine same_put5 (by assumption) ?_; first | exact Nat.le_refl _ | omega | (simp; omega)))
            ((go_at_call 16; go_must (refine (CC.out w9.heap.size _ (by first | exact RX.out | exact RX.out.alloc (by first | exact Nat.le_refl _ | omega | (simp; done) | (simp; omega)) _ | exact (RX.out.drew).alloc (by first | exact Nat.le_refl _ | omega | (simp; done) | (simp; omega)) _ | exact RX.out.drew | exact (RX.out.alloc (by first | exact Nat.le_refl _ | omega | (simp; done) | (simp; omega)) _).drew) (by first | exact RP.out | exact RP.out.alloc (by first | exact Nat.le_refl _ | omega | (simp; done) | (simp; omega)) _ | exact (RP.out.drew).alloc (by first | exact Nat.le_refl _ | omega | (simp; done) | (simp; omega)) _ | exact RP.out.drew | exact (RP.out.alloc (by first | exact Nat.le_refl _ | omega | (simp; done) | (simp; omega)) _).drew) (by first | exact RD.out | exact RD.out.alloc (by first | exact Nat.le_refl _ | omega | (simp; done) | (simp; omega)) _ | exact (RD.out.drewN 1).alloc (by first | exact Nat.le_refl _ | omega | (simp; done) | (simp; omega)) _ | exact RD.out.drewN 1 | exact (RD.out.alloc (by first | exact Nat.le_refl _ | omega | (simp; done) | (simp; omega)) _).drewN 1) (by first | exact Nat.le_refl _ | omega | (simp; done) | (simp; omega))).mono ?_; rintro e w5 ⟨v, rfl, ⟨A5, P5, n5, c5, m5, d5, rfl, o5, p5⟩, hb5⟩; have HB5 : Hid (Below w9.heap.size w9 w5) := Lib.hid (by first | exact hb5 | exact below_a1x hb5 | exact below_dx hb5 | exact below_a1x (below_dx hb5) | exact below_dx (below_a1x hb5)); have HH5 := Lib.hid hb5; have zz5 := HB5.out.size; have zz5' := hb5.size; (try simp only [World.size_alloc, World.size_drew] at zz5'); have O5 := Lib.hid (o5.mono (show w9.heap.size ≤ _ by first | exact Nat.le_refl _ | omega | (simp; done) | (simp; omega))); have P5' := Lib.hid (p5.mono (show w9.heap.size ≤ _ by first | exact Nat.le_refl _ | omega | (simp; done) | (simp; omega))); have hbf5 := (bcell hb5).2; have hbc5 := (bcell hb5).1; (try have t15 : w9.heap.size < w5.heap.size := (by omega)); have hbc := HB5.out; unfold benchV; clear o5 p5 hb5)))
          all_goals go_wp2_with fail
          all_goals go_meet
          all_goals first
            | (with_reducible exact ⟨bat_a O5.out P5'.out HB5.out.size, rfl, HB5.out.alloc HB5.out.size _⟩)
            | (with_reducible refine bat_c ?_ ?_ O5.out P5'.out HB5.out rfl ?_)
          all_goals repeat' (first
            | (with_reducible refine Blk.newx ?_)
            | (with_reducible refine Blk.alloc ?_ _)
            | (with_reducible refine Blk.drew ?_)
            | (with_reducible refine Blk.below ?_ HH5.out ?_)
            | omega
            | (simp; done)
            | (simp; omega)
            | rfl)
        · skip
          have hcz' : ¬ h = lc := fun e => hcz e.symm
          have CC := Lib.hid (fun B w' h1 h' h'' hB => impl_BenchRun ⟨ak, ax, ay, aE, ats⟩ (ds.drop h) AZ PZ (some ⟨LG, h * 3, none⟩) nZ cZ mZ dZ (l - h) (lc - h) B w' h1 h' h'' hB (by omega) (by omega) (by omega) hncZ HSA.out (fun D hD => HT.out D (List.mem_of_mem_drop hD)))
          rw [HRC.out] at CC
          dsimp only at CC
          unfold benchV at CC
          have RD := Lib.hid (show RdD w9 w9.heap.size (some ⟨LG, h * 3, none⟩) (l - h) (ds.drop h) by have := ZB.out.drop hhl; rwa [Nat.zero_add] at this)
          go_region_held3 (fun w' => ∀ (b o : Nat), b < w9.heap.size → w'.cell? ⟨b, o, none⟩ = w9.cell? ⟨b, o, none⟩) (first | (with_reducible exact same_drew0) | (with_reducible refine same_alloc_d same_refl0 ?_; first | exact Nat.le_refl _ | omega | (simp; omega)) | (with_reducible exact same_refl0) | (with_reducible exact (bcell hbc).1) | (with_reducible refine same_alloc (bcell hbc).1 ?_; first | exact Nat.le_refl _ | omega | (simp; omega)) | (with_reducible refine same_put5 (bcell hbc).1 ?_; first | exact Nat.le_refl _ | omega | (simp; omega)) | (with_reducible refine same_alloc (by assumption) ?_; first | exact Nat.le_refl _ | omega | (simp; omega)) | (with_reducible refine same_put5 (by assumption) ?_; first | exact Nat.le_refl _ | omega | (simp; omega)))
            ((go_at_call 16; go_must (refine (CC.out w9.heap.size _ (by first | exact RX.out | exact RX.out.alloc (by first | exact Nat.le_refl _ | omega | (simp; done) | (simp; omega)) _ | exact (RX.out.drew).alloc (by first | exact Nat.le_refl _ | omega | (simp; done) | (simp; omega)) _ | exact RX.out.drew | exact (RX.out.alloc (by first | exact Nat.le_refl _ | omega | (simp; done) | (simp; omega)) _).drew) (by first | exact RP.out | exact RP.out.alloc (by first | exact Nat.le_refl _ | omega | (simp; done) | (simp; omega)) _ | exact (RP.out.drew).alloc (by first | exact Nat.le_refl _ | omega | (simp; done) | (simp; omega)) _ | exact RP.out.drew | exact (RP.out.alloc (by first | exact Nat.le_refl _ | omega | (simp; done) | (simp; omega)) _).drew) (by first | exact RD.out | exact RD.out.alloc (by first | exact Nat.le_refl _ | omega | (simp; done) | (simp; omega)) _ | exact (RD.out.drewN 1).alloc (by first | exact Nat.le_refl _ | omega | (simp; done) | (simp; omega)) _ | exact RD.out.drewN 1 | exact (RD.out.alloc (by first | exact Nat.le_refl _ | omega | (simp; done) | (simp; omega)) _).drewN 1) (by first | exact Nat.le_refl _ | omega | (simp; done) | (simp; omega))).mono ?_; rintro e w5 ⟨v, rfl, ⟨A5, P5, n5, c5, m5, d5, rfl, o5, p5⟩, hb5⟩; have HB5 : Hid (Below w9.heap.size w9 w5) := Lib.hid (by first | exact hb5 | exact below_a1x hb5 | exact below_dx hb5 | exact below_a1x (below_dx hb5) | exact below_dx (below_a1x hb5)); have HH5 := Lib.hid hb5; have zz5 := HB5.out.size; have zz5' := hb5.size; (try simp only [World.size_alloc, World.size_drew] at zz5'); have O5 := Lib.hid (o5.mono (show w9.heap.size ≤ _ by first | exact Nat.le_refl _ | omega | (simp; done) | (simp; omega))); have P5' := Lib.hid (p5.mono (show w9.heap.size ≤ _ by first | exact Nat.le_refl _ | omega | (simp; done) | (simp; omega))); have hbf5 := (bcell hb5).2; have hbc5 := (bcell hb5).1; (try have t15 : w9.heap.size < w5.heap.size := (by omega)); have hbc := HB5.out; unfold benchV; clear o5 p5 hb5)))
          all_goals go_wp2_with fail
          all_goals go_meet
          all_goals first
            | (with_reducible exact ⟨bat_a O5.out P5'.out HB5.out.size, rfl, HB5.out.alloc HB5.out.size _⟩)
            | (with_reducible refine bat_c ?_ ?_ O5.out P5'.out HB5.out rfl ?_)
          all_goals repeat' (first
            | (with_reducible refine Blk.newx ?_)
            | (with_reducible refine Blk.alloc ?_ _)
            | (with_reducible refine Blk.drew ?_)
            | (with_reducible refine Blk.below ?_ HH5.out ?_)
            | omega
            | (simp; done)
            | (simp; omega)
            | rfl)
      case rest =>
        obtain ⟨w10, rfl⟩ : ∃ w', w' = wc := ⟨_, rfl⟩
        obtain ⟨⟨C, AC, PC, nC, cC, mC, dC, rfl, hC, KC, OC, OPC⟩, rfl, hb⟩ := hcut
        have lC : rE.length = nC := by have := OC.len; rwa [I64_len] at this
        have lC' : rts.length = mC := by have := OPC.len; rwa [Tx_len] at this
        have hz10 := hb.size
        have OD := OD.below hb
        have OPD := OPD.below hb
        have ND := own_below ND hb
        have KB := KB.below hb KB.lt
        have OX := OX.below hb
        have OPX := OPX.below hb
        have KX := KX.below hb KX.lt
        have KZ := KZ.below hb KZ.lt
        have OZ := OZ.below hb
        have OPZ := OPZ.below hb
        have HB10 := HB9.trans (hb.mono (by omega))
        clear hb HB9
        clear ZB HCAP HRC HH KZ OZ OPZ lZ lZ' ND
        obtain ⟨q0, q1, q2, q3, q4⟩ := cells5 KX
        have CW := Lib.hid (impl_BenchValid ⟨k, rx, ry, rE, rts⟩ AX PX nX cX mX dX w10.heap.size w10 OX.rd OPX.rd (Nat.le_refl _) (by omega) (by omega) HSR.out)
        rw [HVR.out] at CW
        unfold benchV at CW
        go_wp2_with fail
        refine CW.out.mono ?_
        rintro e w11 ⟨rfl, hb⟩
        clear q0 q1 q2 q3 q4 CW
        have hz11 := hb.size
        have OD := OD.below hb
        have OPD := OPD.below hb
        have KB := KB.below hb KB.lt
        have OX := OX.below hb
        have OPX := OPX.below hb
        have KX := KX.below hb KX.lt
        have KC := KC.below hb KC.lt
        have OC := OC.below hb
        have OPC := OPC.below hb
        have HB11 := HB10.trans (hb.mono (by omega))
        clear hb HB10
        obtain ⟨y0, y1, y2, y3, y4⟩ := cells5 KB
        obtain ⟨u0, u1, u2, u3, u4⟩ := cells5 KX
        obtain ⟨q0, q1, q2, q3, q4⟩ := cells5 KC
        have CE := Lib.hid (laws_sameBench ⟨k, rx, ry, rE, rts⟩ ⟨k, rx, ry, rE, rts⟩ AC AX PC PX nC cC mC dC nX cX mX dX w11.heap.size w11 OC.rd OPC.rd OX.rd OPX.rd (Nat.le_refl _) (by omega) (by omega) (by omega) (by omega))
        rw [show decide ((⟨k, rx, ry, rE, rts⟩ : Pl.Bn) = ⟨k, rx, ry, rE, rts⟩) = true by simp] at CE
        unfold benchV at CE
        go_wp2_with fail
        refine CE.out.mono ?_
        rintro e w12 ⟨rfl, hb⟩
        clear CE u0 u1 u2 u3 u4 q0 q1 q2 q3 q4
        have hz12 := hb.size
        have OD := OD.below hb
        have OPD := OPD.below hb
        have KB := KB.below hb KB.lt
        have OX := OX.below hb
        have OPX := OPX.below hb
        have KX := KX.below hb KX.lt
        have KC := KC.below hb KC.lt
        have OC := OC.below hb
        have OPC := OPC.below hb
        have HB12 := HB11.trans (hb.mono (by omega))
        clear hb HB11
        have HBE := Lib.hid HB12
        clear HB12 OD OPD KB OX OPX KX KC OC OPC
        go_wp2_with fail
        go_ret
        exact ⟨by first | rfl | (rw [hqi]; simp; done) | (simp [hqi]; done), by rw [← hg] at HBE; exact HBE.out⟩
end Go.Proofs.YtamhpgledbmnoaaGreat
