/-
  A drawn bench and a deed (DrawBenchDo).
  Conditions: none but those of the model.
-/
import Derived.Test.YtfnolajhhdnpoaaGreatD14
namespace Go.Proofs.YtfnolajhhdnpoaaGreat
set_option linter.unusedVariables false
set_option linter.unusedSimpArgs false
open Go.RowKit
theorem results_two {P : Program} {fn : Func} {a b : Tmp} {ta tb : TypeId} (h : fn.results = #[.cell a ta, .cell b tb]) {tmps : Array Value} {w : World} {ad ad' : Addr} {v v' : Value} (hp : tmps.getD a undef = .pointer (some ad)) (hq : tmps.getD b undef = .pointer (some ad')) (hl : (loadVar ta ad).run P w = .ok v w) (hl' : (loadVar tb ad').run P w = .ok v' w) :
    (results fn tmps).run P w = .ok (.tuple #[v, v']) w := by
  simp only [results, h]
  rw [Array.getD_eq_getD_getElem?] at hp hq
  simp [hp, hq, asAddr, hl, hl']
section
variable {w : World} {r r' base n c : Nat} {t t' : TypeId} {A : Option Addr} {xs : List Value} {cs : Array Value} {u0 u1 u2 v0 v1 v2 : Value}
theorem put3_far (h : r ≠ r') (hb : Blk w r' t cs) : Blk (put3 w r v0 v1 v2) r' t cs :=
  ((hb.far (p := ⟨r, 0, none⟩) (Ne.symm h) v0).far (p := ⟨r, 1, none⟩) (Ne.symm h) v1).far (p := ⟨r, 2, none⟩) (Ne.symm h) v2
theorem put3_orow_ne (h : ORow w base t A n c xs) (hb : Blk w r t' #[u0, u1, u2]) (hne : t ≠ t') : ORow (put3 w r v0 v1 v2) base t A n c xs :=
  ((h.set_blk (o := 0) hb hne v0).set_blk (o := 1) (hb.set_ 0 v0) hne v1).set_blk (o := 2) ((hb.set_ 0 v0).set_ 1 v1) hne v2
end
/-- A small bench of the call's own, and a deed with a short text. -/
def OutBD (w : World) (e : Ending) (w' : World) : Prop := ∃ (v : Value) (b : Pl.Bn) (D : Pl.Dd), e = .returned (.tuple #[v, deedV D.k D.n D.t]) ∧ BnO w' w.heap.size v b ∧ Small b ∧ D.t.length ≤ 70 ∧ Below w.heap.size w w'
theorem code8_below2 {w w' : World} {a : Option Addr} {n : Nat} (h : Code8 w a n) (hb : Below w.heap.size w w') : Code8 w' a n := by
  obtain ⟨zs, h1, h2⟩ := h
  exact ⟨zs, (h1.below hb).more hb.size, h2⟩
set_option maxRecDepth 100000 in
set_option maxHeartbeats 4000000 in
theorem spec_DrawBenchDo (a : Option Addr) (n c : Nat) (w : World) (h : Code8 w a n) (hc : n ≤ c) (hm : c ≤ maxLen) :
    Calls Tryz.prog 14 #[.slice a n c] w (OutBD w) := by
  obtain ⟨g, hg⟩ : ∃ g, w.heap.size = g := ⟨_, rfl⟩
  obtain ⟨w0, hw0⟩ : ∃ w0, w0 = (w.alloc (.cells #[.int .i64 0, .int .i64 0, .int .i64 0, .slice none 0 0, .slice none 0 0] 30)).alloc (.cells #[.int .i64 0, .int .i64 0, .string ⟨#[]⟩] 34) := ⟨_, rfl⟩
  have hz0 : w0.heap.size = g + 2 := by rw [hw0, ← hg]; simp
  have HB0 : Below w.heap.size w w0 := by rw [hw0]; exact ((Below.refl _ _).alloc (Nat.le_refl _) _).alloc (by simp) _
  have h0 := code8_below2 h HB0
  have K0 : Blk w0 g 30 #[.int .i64 0, .int .i64 0, .int .i64 0, .slice none 0 0, .slice none 0 0] := by rw [hw0, ← hg]; exact (Blk.new w _ _).alloc _
  have K1 : Blk w0 (g + 1) 34 #[.int .i64 0, .int .i64 0, .string ⟨#[]⟩] := by
    rw [hw0, ← hg]
    have := Blk.new (w.alloc (.cells #[.int .i64 0, .int .i64 0, .int .i64 0, .slice none 0 0, .slice none 0 0] 30)) 34 #[.int .i64 0, .int .i64 0, .string ⟨#[]⟩]
    rwa [World.size_alloc] at this
  clear h
  go_enter Tryz.func14, Tryz.ntmps14
  go_upto_region 1 with (fail)
  rw [← hw0]
  clear hw0
  go_wp2_with (with_reducible refine AtEnd.of ?_)
  refine (spec_l20Open a n c w0 h0 hc hm).mono ?_
  rintro e w1 ⟨R, rfl, hR, hr, hb⟩
  have K0 := K0.below hb (by omega)
  have K1 := K1.below hb (by omega)
  have HB1 := HB0.trans (hb.mono (by omega))
  have hz1 := hb.size
  clear hb h0
  go_wp2_with (with_reducible refine AtEnd.of ?_)
  refine (spec_l20Bench R 0 12 _ hr (by omega) (by omega)).mono ?_
  rintro e w2 ⟨v, ⟨k, x, y, E, ts⟩, rfl, ⟨A, P, n1, c1, m, d, rfl, o, p⟩, SM, hr2, hg2⟩
  have K0 := K0.grown hg2 (by intro e; injection e; omega)
  have K1 := K1.grown hg2 (by intro e; injection e; omega)
  have HB2 := HB1.grown hg2 HB1.size (fun k hk => by injection hk with hk; omega)
  have hz2 := hg2.size
  have hgR' : R < w1.heap.size := hr.lt
  have hgR : g + 2 ≤ R := by omega
  have SM := Lib.hid SM
  clear HB1 hr hg2
  unfold benchV
  obtain ⟨D, hD⟩ : ∃ D, w2.heap.size = D := ⟨_, rfl⟩
  obtain ⟨w3, hw3⟩ : ∃ w3, w3 = w2.alloc (.cells #[.int .i64 k, .int .i64 x, .int .i64 y, .slice A n1 c1, .slice P m d] 30) := ⟨_, rfl⟩
  go_upto_region 3 with (fail)
  rw [← hw3]
  have KD : Blk w3 D 30 #[.int .i64 k, .int .i64 x, .int .i64 y, .slice A n1 c1, .slice P m d] := by rw [hw3, ← hD]; exact Blk.new w2 _ _
  have K0 : Blk w3 g 30 #[.int .i64 0, .int .i64 0, .int .i64 0, .slice none 0 0, .slice none 0 0] := by rw [hw3]; exact K0.alloc _
  have K1 : Blk w3 (g + 1) 34 #[.int .i64 0, .int .i64 0, .string ⟨#[]⟩] := by rw [hw3]; exact K1.alloc _
  have o3 := Lib.hid (show ORow w3 w1.heap.size 3 A n1 c1 (I64 E) by rw [hw3]; exact o.alloc _)
  have p3 := Lib.hid (show ORow w3 w1.heap.size 9 P m d (Tx ts) by rw [hw3]; exact p.alloc _)
  have hr3 := Lib.hid (show Rdr w3 R (0 + 1400) by rw [hw3]; exact hr2.alloc _)
  have HB3 := Lib.hid (show Below w.heap.size w w3 by rw [hw3]; exact HB2.alloc (by omega) _)
  have hwz : w.heap.size ≤ w3.heap.size := HB3.out.size
  have hDR : D ≠ R := by have := hr2.lt; omega
  have CD := Lib.hid (fun w' h => spec_l20Deed R (0 + 1400) ⟨k, x, y, E, ts⟩ A P n1 c1 m d w' h (by omega))
  obtain ⟨x0, x1, x2, x3, x4⟩ := blk5c KD
  have KDh := Lib.hid KD
  have K0h := Lib.hid K0
  have K1h := Lib.hid K1
  clear hw3 hD HB2 hr2 o p K0 K1 KD
  go_region_with (first
    | (go_at_call 41; refine (CD.out _ (by exact hr3.out)).mono ?_; rintro e w5 ⟨kk, n5, t5, rfl, ht5, hr5, hg5⟩; have HG5 : Hid (w3.grownBy w5 (some R)) := Lib.hid (by first | exact hg5 | exact grown_e0 hg5); have KD5 := KDh.out.grown HG5.out (by intro e; injection e; omega); have K05 := Lib.hid (K0h.out.grown HG5.out (by intro e; injection e; omega)); have K15 := Lib.hid (K1h.out.grown HG5.out (by intro e; injection e; omega)); obtain ⟨y0, y1, y2, y3, y4⟩ := blk5c KD5; obtain ⟨v0, v1, v2, v3, v4⟩ := blk5c K05.out; have f0 := K05.out.frozen 0; have f1 := K05.out.frozen 1; have f2 := K05.out.frozen 2; have f3 := K05.out.frozen 3; have f4 := K05.out.frozen 4; have j0 : w5.cell? ⟨g + 1, 0, none⟩ = some (.int .i64 0) := K15.out.cell 0; have j1 : w5.cell? ⟨g + 1, 1, none⟩ = some (.int .i64 0) := K15.out.cell 1; have j2 : w5.cell? ⟨g + 1, 2, none⟩ = some (.string ⟨#[]⟩) := K15.out.cell 2; have i0 := K15.out.frozen 0; have i1 := K15.out.frozen 1; have i2 := K15.out.frozen 2; have HT5 := Lib.hid ht5; unfold deedV; clear hr5 hg5 ht5 KD5))
  all_goals go_wp2_with (with_reducible refine AtEnd.of ?_)
  all_goals (
    have KF := put3_far (r := g + 1) (v0 := .int .i64 kk) (v1 := .int .i64 n5) (v2 := .string (Ba t5)) (by omega) (put5_blk (v0 := .int .i64 k) (v1 := .int .i64 x) (v2 := .int .i64 y) (v3 := .slice A n1 c1) (v4 := .slice P m d) K05.out)
    have K1p := put5_far (r := g) (v0 := .int .i64 k) (v1 := .int .i64 x) (v2 := .int .i64 y) (v3 := .slice A n1 c1) (v4 := .slice P m d) (by omega) K15.out
    have KG := put3_blk (v0 := .int .i64 kk) (v1 := .int .i64 n5) (v2 := .string (Ba t5)) K1p
    have oF := put3_orow_ne (v0 := .int .i64 kk) (v1 := .int .i64 n5) (v2 := .string (Ba t5)) (put5_orow_ne (v0 := .int .i64 k) (v1 := .int .i64 x) (v2 := .int .i64 y) (v3 := .slice A n1 c1) (v4 := .slice P m d) (o3.out.grown HG5.out hgR') K05.out (by decide)) K1p (by decide)
    have pF := put3_orow_ne (v0 := .int .i64 kk) (v1 := .int .i64 n5) (v2 := .string (Ba t5)) (put5_orow_ne (v0 := .int .i64 k) (v1 := .int .i64 x) (v2 := .int .i64 y) (v3 := .slice A n1 c1) (v4 := .slice P m d) (p3.out.grown HG5.out hgR') K05.out (by decide)) K1p (by decide)
    have bF := put3_below (v0 := .int .i64 kk) (v1 := .int .i64 n5) (v2 := .string (Ba t5)) (put5_below (v0 := .int .i64 k) (v1 := .int .i64 x) (v2 := .int .i64 y) (v3 := .slice A n1 c1) (v4 := .slice P m d) (HB3.out.grown HG5.out hwz (fun k hk => by injection hk with hk; omega)) (show w.heap.size ≤ g by omega)) (show w.heap.size ≤ g + 1 by omega)
    exact atEnd_ret (results_two Tryz.results14 rfl rfl (load_bench KF) (load_deed KG)) rfl ⟨_, ⟨k, x, y, E, ts⟩, ⟨kk, n5, t5⟩, rfl, ⟨A, P, n1, c1, m, d, rfl, oF.mono (by omega), pF.mono (by omega)⟩, SM.out, HT5.out, bF⟩)
end Go.Proofs.YtfnolajhhdnpoaaGreat
