/-
  The drawn codes of the law FnCodeRun.
  Conditions: none but those of the model.
-/
import Derived.Test.YtnjcephddilalaaD6
import Derived.Test.YtnjcephddilalaaE12
namespace Go.Proofs.Ytnjcephddilalaa
set_option linter.unusedVariables false
set_option linter.unusedSimpArgs false
open Go.RowKit

theorem code_len : ∀ (e : List Int) (c : List Pl.Op3 × List Int), (e.foldl Pl.codeStep c).1.length ≤ c.1.length + e.length
  | [], c => by simp
  | s :: t, c => by
    have ih := code_len t (Pl.codeStep c s)
    have h1 : (Pl.codeStep c s).1.length ≤ c.1.length + 1 := by
      unfold Pl.codeStep
      split
      · simp
      · simp only
        split
        · omega
        · rw [List.length_append]; simp
    rw [List.foldl_cons, List.length_cons]
    omega
theorem codeOf_len (e : List Int) : (Pl.codeOf e).1.length ≤ 24 := by
  unfold Pl.codeOf
  split
  · rename_i h
    have := code_len e ([], [])
    have := Pl.valid_t h
    show (Pl.codeS e).1.length ≤ 24
    unfold Pl.codeS
    simp at *
    omega
  · simp
theorem I3_set : ∀ (cs : List Pl.Op3) (j : Nat) (c : Pl.Op3) (z : Int), cs[j]? = some c → (I3 cs).set (j * 3 + 1) (.int .i64 z) = I3 (cs.set j (c.1, z, c.2.2))
  | [], j, c, z, h => by simp at h
  | d :: t, 0, c, z, h => by
    simp at h; subst h
    rfl
  | d :: t, j + 1, c, z, h => by
    have ih := I3_set t j c z (by simpa using h)
    show (c3 d ++ I3 t).set ((j + 1) * 3 + 1) _ = c3 d ++ I3 (t.set j _)
    rw [← ih, List.set_append_right _ _ (by simp [c3]; omega)]
    congr 2
    simp [c3]; omega
theorem results_tmp5 {fn : Func} {t u v x y : Tmp} (h : fn.results = #[.tmp t, .tmp u, .tmp v, .tmp x, .tmp y]) (tmps : Array Value) (P : Program) (w : World) :
    (results fn tmps).run P w = .ok (.tuple #[tmps.getD t undef, tmps.getD u undef, tmps.getD v undef, tmps.getD x undef, tmps.getD y undef]) w := by simp [results, h]
/-- A width, a code, a number and two words that were drawn. -/
def OutR (w : World) (e : Ending) (w' : World) : Prop := ∃ (k num x y : Int) (code : List Pl.Op3) (n : Nat) (A : Option Addr) (c : Nat), e = .returned (.tuple #[.int .i64 k, .slice A n c, .int .i64 num, .int .i64 x, .int .i64 y]) ∧
  w'.ownsRow w.heap.size 68 3 (.slice A n c) n (I3 code) ∧ n ≤ 24 ∧ Below w.heap.size w w'
theorem outR_mk {w w0 w9 : World} {R n c : Nat} {k num x y : Int} {code : List Pl.Op3} {A : Option Addr} {B : Nat} (hb : Below w.heap.size w w0) (hR : w.heap.size ≤ R) (hg : w0.grownBy w9 (some R))
    (hown : w9.ownsRow B 68 3 (.slice A n c) n (I3 code)) (hB : w.heap.size ≤ B) (hn : n ≤ 24) :
    OutR w (.returned (.tuple #[.int .i64 k, .slice A n c, .int .i64 num, .int .i64 x, .int .i64 y])) w9 :=
  ⟨k, num, x, y, code, n, A, c, rfl, hown.mono hB, hn, open_below hb hg hR⟩
theorem op_keptR {w w' : World} {B n R : Nat} {v : Value} {xs : List Value} (h : w.ownsRow B 68 3 v n xs) (hR : R < B) (hg : w.grownBy w' (some R)) : w'.ownsRow B 68 3 v n xs := by
  refine h.kept hg ?_
  cases hv : v.ownBlock with
  | none => exact .inl rfl
  | some k => exact .inr (fun hk => by injection hk with hk; have := (h.lt k hv).1; omega)
set_option maxRecDepth 100000 in
set_option maxHeartbeats 2000000 in
theorem spec_DrawCodeRun (a : Option Addr) (n c : Nat) (w : World) (h : Code8 w a n) (hc : n ≤ c) (hm : c ≤ maxLen) :
    Calls Try.prog 47 #[.slice a n c] w (OutR w) := by
  go_enter Try.func47, Try.ntmps47
  go_wp2_with fail
  refine (spec_l20Open a n c w h hc hm).mono ?_
  rintro e w0 ⟨R, rfl, hR, hr, hb⟩
  go_wp2_with fail
  refine (spec_l20Two R 0 14 _ hr (by omega) (by omega) (by omega)).mono ?_
  rintro e w1 ⟨k, x, y, rfl, k0, k1, x0, x1, y0, y1, hr2, hg⟩
  go_wp2_with fail
  refine (spec_l20Expr R _ 6 0 _ hr2 (by omega) (by omega) (by omega)).mono ?_
  rintro e w2 ⟨d, v, rfl, row, hd, hr3, hg2, h0⟩
  obtain ⟨xs, g, c2, rfl, rfl, hown⟩ := row_some row h0
  have G2 := hg.trans hg2
  have hR2 := hr3.lt
  have hz2 := G2.size
  have hzb := hb.size
  have hcl := codeOf_len xs
  clear row h0 hg hg2 hr hr2 h hc hm
  go_wp2_with fail
  refine (spec_CodeOf _ _ _ _ xs _ (rd_own hown) (Nat.le_refl _) (by omega)).mono ?_
  rintro e w3 ⟨A3, c3', rfl, own3, hb3⟩
  generalize Pl.codeOf xs = r at *
  obtain ⟨code, num⟩ := r
  obtain ⟨nc, hnc⟩ : ∃ nc, code.length = nc := ⟨_, rfl⟩
  simp only [hnc] at own3 hcl
  have hr4 := hr3.below hb3 hR2
  have G3 := only_below G2 hb3 hz2
  have hz3 := hb3.size
  clear hown hr3 G2 hb3
  simp only [hnc]
  by_cases hpos : 0 < nc
  · have hpi : (0 : Int) < (nc : Int) := by omega
    go_wp2_with fail
    refine (spec_odd R _ 5 _ hr4 (by omega) (by omega)).mono ?_
    rintro e w4 ⟨b, rfl, hbn, hr5, hg5⟩
    have own4 := op_keptR own3 hR2 hg5
    have G4 := G3.trans hg5
    have hz4 := hg5.size
    clear own3 G3 hg5 hbn hr4
    cases b
    · go_wp2_with fail
      refine (spec_odd R _ 9 _ hr5 (by omega) (by omega)).mono ?_
      rintro e w5 ⟨b, rfl, hbn, hr6, hg6⟩
      have own5 := op_keptR own4 hR2 hg6
      have G5 := G4.trans hg6
      cases b
      · go_wp2_with fail
        refine bodyPost_ret (results_tmp5 rfl _ _ _) rfl ?_
        exact outR_mk hb hR G5 own5 (by omega) hcl
      · go_wp2_with fail
        refine (spec_pick R _ 12 _ hr6 (by omega) (by omega)).mono ?_
        rintro e w6 ⟨p, rfl, hp, hr7, hg7⟩
        have own6 := op_keptR own5 hR2 hg7
        have G6 := G5.trans hg7
        go_wp2_with fail
        refine bodyPost_ret (results_tmp5 rfl _ _ _) rfl ?_
        exact outR_mk hb hR G6 own6 (by omega) hcl
    · go_wp2_with fail
      refine (spec_pick R _ nc _ hr5 (by omega) (by omega)).mono ?_
      rintro e w5 ⟨p, rfl, hp, hr6, hg6⟩
      obtain ⟨p0, p1⟩ := hp.2 (by omega)
      obtain ⟨i, rfl⟩ := Int.eq_ofNat_of_zero_le p0
      have own5 := op_keptR own4 hR2 hg6
      have G5 := G4.trans hg6
      have hz5 := hg6.size
      clear hp hg6 own4 G4 hr5
      go_wp2_with fail
      refine (spec_pick R _ 9 _ hr6 (by omega) (by omega)).mono ?_
      rintro e w6 ⟨q, rfl, hq, hr7, hg7⟩
      obtain ⟨q0, q1⟩ := hq.2 (by omega)
      have own6 := op_keptR own5 hR2 hg7
      have G6 := G5.trans hg7
      have hz6 := hg7.size
      clear hq hg7 own5 G5 hr6
      obtain ⟨⟨op, oa, ob⟩, eo⟩ : ∃ o, code[i]? = some o := ⟨_, List.getElem?_eq_getElem (by omega)⟩
      obtain ⟨g6, rfl, hg60⟩ : ∃ g6, A3 = some ⟨g6, 0, none⟩ ∧ w2.heap.size ≤ g6 := by
        rcases own6.2 with ⟨h0, h1⟩ | ⟨g', cap, cur, hv, hgb, _⟩
        · omega
        · injection hv with h1 h2 h3
          exact ⟨g', h1, hgb⟩
      have hst := own6.stored (i * 3 + 1) (.int .i64 (100 + q))
      rw [I3_set code i _ (100 + q) eo] at hst
      have cell : w6.cell? ⟨g6, i * 3 + 1, none⟩ = some (.int .i64 oa) := by
        rw [own6.cellAt (i * 3 + 1) (by omega)]
        exact (I3_get code i _ eo).2.1
      have fro : w6.frozen? ⟨g6, i * 3 + 1, none⟩ = false := own6.frozenAt _
      have hr8 : Rdr (w6.setCell ⟨g6, i * 3 + 1, none⟩ (.int .i64 (100 + q))) R _ := hr7.below ((Below.refl w2.heap.size w6).grown hst.2 (by omega) (fun z hz => by simp [Value.ownBlock] at hz; omega)) hR2
      have G7 : w0.grownBy (w6.setCell ⟨g6, i * 3 + 1, none⟩ (.int .i64 (100 + q))) (some R) := only_below G6 ((Below.refl w2.heap.size w6).grown hst.2 (by omega) (fun z hz => by simp [Value.ownBlock] at hz; omega)) hz2
      have own7 := hst.1
      have hii : (i : Int) < (nc : Int) := by omega
      have hi0 : (0 : Int) ≤ (i : Int) := by omega
      clear hst own6 G6 hr7 eo
      go_wp2_with fail
      refine (spec_odd R _ 9 _ hr8 (by omega) (by omega)).mono ?_
      rintro e w8 ⟨b, rfl, hbn, hr9, hg9⟩
      have own8 := op_keptR own7 hR2 hg9
      have G8 := G7.trans hg9
      cases b
      · go_wp2_with fail
        refine bodyPost_ret (results_tmp5 rfl _ _ _) rfl ?_
        exact outR_mk hb hR G8 own8 (by omega) hcl
      · go_wp2_with fail
        refine (spec_pick R _ 12 _ hr9 (by omega) (by omega)).mono ?_
        rintro e w9 ⟨p', rfl, hp', hr10, hg10⟩
        have own9 := op_keptR own8 hR2 hg10
        have G9 := G8.trans hg10
        go_wp2_with fail
        refine bodyPost_ret (results_tmp5 rfl _ _ _) rfl ?_
        exact outR_mk hb hR G9 own9 (by omega) hcl
  · obtain rfl : nc = 0 := by omega
    go_wp2_with fail
    refine (spec_odd R _ 9 _ hr4 (by omega) (by omega)).mono ?_
    rintro e w5 ⟨b, rfl, hbn, hr6, hg6⟩
    have own5 := op_keptR own3 hR2 hg6
    have G5 := G3.trans hg6
    cases b
    · go_wp2_with fail
      refine bodyPost_ret (results_tmp5 rfl _ _ _) rfl ?_
      exact outR_mk hb hR G5 own5 (by omega) hcl
    · go_wp2_with fail
      refine (spec_pick R _ 12 _ hr6 (by omega) (by omega)).mono ?_
      rintro e w6 ⟨p, rfl, hp, hr7, hg7⟩
      have own6 := op_keptR own5 hR2 hg7
      have G6 := G5.trans hg7
      go_wp2_with fail
      refine bodyPost_ret (results_tmp5 rfl _ _ _) rfl ?_
      exact outR_mk hb hR G6 own6 (by omega) hcl
end Go.Proofs.Ytnjcephddilalaa
