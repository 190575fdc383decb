/-
  The program's clone of a bench, and whether a deed names only what its kind asks.
  Conditions: as stated at each.
-/
import Derived.Test.YtamhpgledbmnoaaGreatO0
import Derived.Test.YtamhpgledbmnoaaGreatKS
namespace Go.Proofs.YtamhpgledbmnoaaGreat
set_option linter.unusedVariables false
set_option linter.unusedSimpArgs false
open Go.RowKit
theorem blk5d {w : World} {g : Nat} {T : TypeId} {a b c d e : Value} (h : Blk w g T #[a, b, c, d, e]) :
    w.cell? ⟨g, 0, none⟩ = some a ∧ w.cell? ⟨g, 1, none⟩ = some b ∧ w.cell? ⟨g, 2, none⟩ = some c ∧ w.cell? ⟨g, 3, none⟩ = some d ∧ w.cell? ⟨g, 4, none⟩ = some e :=
  ⟨(h.cell 0).trans rfl, (h.cell 1).trans rfl, (h.cell 2).trans rfl, (h.cell 3).trans rfl, (h.cell 4).trans rfl⟩
theorem put5_orow_nd {w : World} {r base n c : Nat} {t t' : TypeId} {A : Option Addr} {xs : List Value} {u0 u1 u2 u3 u4 v0 v1 v2 v3 v4 : Value} (h : ORow w base t A n c xs) (hb : Blk w r t' #[u0, u1, u2, u3, u4]) (hne : t ≠ t') : ORow (put5 w r v0 v1 v2 v3 v4) base t A n c xs :=
  ((((h.set_blk hb hne v0).set_blk (hb.set_ 0 v0) hne v1).set_blk ((hb.set_ 0 v0).set_ 1 v1) hne v2).set_blk (((hb.set_ 0 v0).set_ 1 v1).set_ 2 v2) hne v3).set_blk ((((hb.set_ 0 v0).set_ 1 v1).set_ 2 v2).set_ 3 v3) hne v4
theorem results_cell' {P : Program} {fn : Func} {a : Tmp} {ty : TypeId} (h : fn.results = #[.cell a ty]) {tmps : Array Value} {w : World} {ad : Addr} {v : Value} (hp : tmps.getD a undef = .pointer (some ad)) (hl : (loadVar ty ad).run P w = .ok v w) :
    (results fn tmps).run P w = .ok v w := by
  simp only [results, h]
  rw [Array.getD_eq_getD_getElem?] at hp
  simp [hp, asAddr, hl]
set_option maxRecDepth 100000 in
set_option maxHeartbeats 4000000 in
theorem impl_clone (b : Pl.Bn) (A P : Option Addr) (n c m d B : Nat) (w : World) (hx : Rd w B A n (I64 b.e)) (hp : Rd w B P m (Tx b.past)) (hB : B ≤ w.heap.size) (hn0 : 1 ≤ n) (hn : n ≤ 1000) (hm : m ≤ 1000000) :
    Calls Tryz.prog 38 #[benchV b.k b.x b.y A n c P m d] w fun e w' => ∃ v, e = .returned v ∧ BnO w' w.heap.size v b ∧ Below w.heap.size w w' := by
  obtain ⟨k, x, y, E, ts⟩ := b
  obtain ⟨ba, off, rfl, hba, hca⟩ := hx.pos hn0
  have lx : (I64 E).length = n := hx.len
  have HCA := Lib.hid hca
  have HP := Lib.hid hp
  obtain ⟨g, hg⟩ : ∃ g, w.heap.size = g := ⟨_, rfl⟩
  obtain ⟨w0, hw0⟩ : ∃ w0, w0 = (w.alloc (.cells #[.int .i64 k, .int .i64 x, .int .i64 y, .slice (some ⟨ba, off, none⟩) n c, .slice P m d] 30)).alloc (.cells #[.int .i64 0, .int .i64 0, .int .i64 0, .slice none 0 0, .slice none 0 0] 30) := ⟨_, rfl⟩
  have hz0 : w0.heap.size = g + 2 := by rw [hw0, ← hg]; simp
  have HB0 : Below g w w0 := by rw [hw0, ← hg]; go_grown
  have K0 : Blk w0 g 30 #[.int .i64 k, .int .i64 x, .int .i64 y, .slice (some ⟨ba, off, none⟩) n c, .slice P m d] := by rw [hw0, ← hg]; exact (Blk.new w _ _).alloc _
  have K1 : Blk w0 (g + 1) 30 #[.int .i64 0, .int .i64 0, .int .i64 0, .slice none 0 0, .slice none 0 0] := by
    rw [hw0, ← hg]
    have := Blk.new (w.alloc (.cells #[.int .i64 k, .int .i64 x, .int .i64 y, .slice (some ⟨ba, off, none⟩) n c, .slice P m d] 30)) 30 #[.int .i64 0, .int .i64 0, .int .i64 0, .slice none 0 0, .slice none 0 0]
    rwa [World.size_alloc] at this
  have hbg : ba < g := by omega
  have CL := clone_ints ba off n c (I64 E) w0 lx (fun j u hu => (HB0.cell (p := ⟨ba, off + j, none⟩) hbg).trans (HCA.out j u hu)) (by omega) one_I64 hn
  clear hx hp hca
  unfold benchV
  go_enter Tryz.func38, Tryz.ntmps38
  go_upto_region 1 with (fail)
  rw [← hw0]
  clear hw0
  have a3 : w0.cell? ⟨g, 3, none⟩ = some (.slice (some ⟨ba, off, none⟩) n c) := K0.cell 3
  go_wp2_with (with_reducible refine AtEnd.of ?_)
  refine CL.mono ?_
  rintro e w1 ⟨v, rfl, own1, hb1⟩
  obtain ⟨A1, c1, rfl, _⟩ := Rd.of_own own1
  have hz1 := hb1.size
  have K0 := K0.below hb1 (by omega)
  have K1 := K1.below hb1 (by omega)
  have HB1 := HB0.trans (hb1.mono (by omega))
  have o1 := (ORow.of_own own1).mono (show g + 2 ≤ w0.heap.size by omega)
  clear a3 CL hb1 own1
  have a3 : w1.cell? ⟨g, 3, none⟩ = some (.slice (some ⟨ba, off, none⟩) n c) := K0.cell 3
  have f3 : w1.frozen? ⟨g, 3, none⟩ = false := K0.frozen 3
  go_upto_region 2 with (fail)
  obtain ⟨w2, hw2⟩ : ∃ w2, w2 = w1.setCell ⟨g, 3, none⟩ (.slice A1 n c1) := ⟨_, rfl⟩
  have K02 : Blk w2 g 30 #[.int .i64 k, .int .i64 x, .int .i64 y, .slice A1 n c1, .slice P m d] := by rw [hw2]; exact K0.set_ 3 (.slice A1 n c1)
  have K12 : Blk w2 (g + 1) 30 #[.int .i64 0, .int .i64 0, .int .i64 0, .slice none 0 0, .slice none 0 0] := by rw [hw2]; exact K1.far (p := ⟨g, 3, none⟩) (by show g + 1 ≠ g; omega) (.slice A1 n c1)
  have o2 : ORow w2 (g + 2) 3 A1 n c1 (I64 E) := by rw [hw2]; exact o1.setc (by omega) _
  have HB2 : Below g w w2 := by rw [hw2]; exact HB1.setCell (p := ⟨g, 3, none⟩) (Nat.le_refl _) (.slice A1 n c1)
  have hz2 : w2.heap.size = w1.heap.size := by rw [hw2]; simp [World.setCell]
  rw [← hw2]
  clear hw2 a3 f3 K0 K1 o1 HB1
  have a4 : w2.cell? ⟨g, 4, none⟩ = some (.slice P m d) := K02.cell 4
  have rp2 := HP.out.below (HB2.mono (show B ≤ g by omega))
  have nil2 := World.ownsRow_nil w2 w2.heap.size 9 1
  go_upto_region 3 with (at_builtin; refine app_read rfl (.const (.slice none 0 0)) (.tmp 8) 23 9 _ 16 str_info rfl (by omega) Tryz.underlying23 rfl w2.heap.size none 0 0 [] rfl nil2 P m d (Tx ts) B rfl rp2 one_Tx (by omega) (by omega) (by omega) ?_; go_must (intro P3 d3 w3 own3 hb3; simp only [Nat.zero_add, List.nil_append] at own3; have K03 := K02.below hb3 (by omega); have a4' : w3.cell? ⟨g, 4, none⟩ = some (.slice P m d) := K03.cell 4; have f4 : w3.frozen? ⟨g, 4, none⟩ = false := K03.frozen 4))
  have hz3 := hb3.size
  have K13 := K12.below hb3 (by omega)
  have o3 := o2.below hb3
  have p3 := (ORow.of_own own3).mono (show g + 2 ≤ w2.heap.size by omega)
  have HB3 := HB2.trans (hb3.mono (by omega))
  obtain ⟨w4, hw4⟩ : ∃ w4, w4 = w3.setCell ⟨g, 4, none⟩ (.slice P3 m d3) := ⟨_, rfl⟩
  have K04 : Blk w4 g 30 #[.int .i64 k, .int .i64 x, .int .i64 y, .slice A1 n c1, .slice P3 m d3] := by rw [hw4]; exact K03.set_ 4 (.slice P3 m d3)
  have K14 : Blk w4 (g + 1) 30 #[.int .i64 0, .int .i64 0, .int .i64 0, .slice none 0 0, .slice none 0 0] := by rw [hw4]; exact K13.far (p := ⟨g, 4, none⟩) (by show g + 1 ≠ g; omega) (.slice P3 m d3)
  have o4 : ORow w4 (g + 2) 3 A1 n c1 (I64 E) := by rw [hw4]; exact o3.setc (by omega) _
  have p4 : ORow w4 (g + 2) 9 P3 m d3 (Tx ts) := by rw [hw4]; exact p3.setc (by omega) _
  have HB4 : Below g w w4 := by rw [hw4]; exact HB3.setCell (p := ⟨g, 4, none⟩) (Nat.le_refl _) (.slice P3 m d3)
  rw [← hw4]
  clear hw4 a4 f4 a4' K02 K12 K03 K13 o2 o3 p3 HB2 HB3 own3 nil2 rp2 hb3
  obtain ⟨x0, x1, x2, x3, x4⟩ := blk5d K04
  obtain ⟨v0, v1, v2, v3, v4⟩ := blk5d K14
  have f0 := K14.frozen 0
  have f1 := K14.frozen 1
  have f2 := K14.frozen 2
  have f3 := K14.frozen 3
  have f4 := K14.frozen 4
  go_wp2_with (with_reducible refine AtEnd.of ?_)
  have KF := put5_blk (v0 := .int .i64 k) (v1 := .int .i64 x) (v2 := .int .i64 y) (v3 := .slice A1 n c1) (v4 := .slice P3 m d3) K14
  have oF := put5_orow (r := g + 1) (v0 := .int .i64 k) (v1 := .int .i64 x) (v2 := .int .i64 y) (v3 := .slice A1 n c1) (v4 := .slice P3 m d3) o4 (by omega)
  have pF := put5_orow (r := g + 1) (v0 := .int .i64 k) (v1 := .int .i64 x) (v2 := .int .i64 y) (v3 := .slice A1 n c1) (v4 := .slice P3 m d3) p4 (by omega)
  have HBF := put5_below (v0 := .int .i64 k) (v1 := .int .i64 x) (v2 := .int .i64 y) (v3 := .slice A1 n c1) (v4 := .slice P3 m d3) HB4 (show g ≤ g + 1 by omega)
  exact atEnd_ret (results_cell' Tryz.results38 rfl (load_bench KF)) rfl ⟨_, rfl, ⟨A1, P3, n, c1, m, d3, rfl, oF.mono (by omega), pF.mono (by omega)⟩, by first | exact HBF | (rw [hg]; exact HBF)⟩
/-- Whether a deed names only what its kind asks. -/
def namedB (d : Pl.Dd) : Bool := if d.k = 0 ∨ d.k = 1 then decide (d.t = []) else if d.k = 2 then decide (d.n = 0) else if d.k = 3 ∨ d.k = 4 ∨ d.k = 5 then (decide (d.n = 0) && decide (d.t = [])) else false
theorem named_01 {k n : Int} {t : List UInt8} (h : k = 0 ∨ k = 1) : namedB ⟨k, n, t⟩ = decide (t = []) := by unfold namedB; rw [if_pos h]
theorem named_2 {n : Int} {t : List UInt8} : namedB ⟨2, n, t⟩ = decide (n = 0) := by unfold namedB; rw [if_neg (by dsimp only; omega), if_pos rfl]
theorem named_345 {k n : Int} {t : List UInt8} (h : k = 3 ∨ k = 4 ∨ k = 5) : namedB ⟨k, n, t⟩ = (decide (n = 0) && decide (t = [])) := by unfold namedB; rw [if_neg (by dsimp only; omega), if_neg (by dsimp only; omega), if_pos h]
theorem named_o {k n : Int} {t : List UInt8} (h0 : k ≠ 0) (h1 : k ≠ 1) (h2 : k ≠ 2) (h3 : k ≠ 3) (h4 : k ≠ 4) (h5 : k ≠ 5) : namedB ⟨k, n, t⟩ = false := by unfold namedB; rw [if_neg (by dsimp only; omega), if_neg (by dsimp only; omega), if_neg (by dsimp only; omega)]
set_option maxHeartbeats 4000000 in
theorem impl_named (D : Pl.Dd) (w : World) : Calls Tryz.prog 69 #[deedV D.k D.n D.t] w fun e w' => e = .returned (.bool (namedB D)) ∧ Below w.heap.size w w' := by
  obtain ⟨k, n, t⟩ := D
  have HB := Lib.hid ((Below.refl w.heap.size w).alloc (Nat.le_refl _) (.cells #[.int .i64 k, .int .i64 n, .string (Ba t)] 34))
  unfold deedV
  have htc : (t = [] ∧ (Ba t).toList.isEmpty = true) ∨ (t ≠ [] ∧ (Ba t).toList.isEmpty = false) := by
    rw [Ba_list]
    cases t with
    | nil => exact .inl ⟨rfl, rfl⟩
    | cons a r => exact .inr ⟨by simp, rfl⟩
  rcases (by omega : k = 0 ∨ k = 1 ∨ k = 2 ∨ k = 3 ∨ k = 4 ∨ k = 5 ∨ (k ≠ 0 ∧ k ≠ 1 ∧ k ≠ 2 ∧ k ≠ 3 ∧ k ≠ 4 ∧ k ≠ 5)) with rfl | rfl | rfl | rfl | rfl | rfl | ⟨h0, h1, h2, h3, h4, h5⟩
  · have hn := Lib.hid (named_01 (k := 0) (n := n) (t := t) (.inl rfl))
    rcases htc with ⟨ht, hb⟩ | ⟨ht, hb⟩
    all_goals
      have hd := Lib.hid ht
      clear ht
      go_enter Tryz.func69, Tryz.ntmps69
      go_wp2_with fail
      go_ret
      refine ⟨?_, HB.out⟩
      rw [hn.out]
      simp [hd.out]
  · have hn := Lib.hid (named_01 (k := 1) (n := n) (t := t) (.inr rfl))
    rcases htc with ⟨ht, hb⟩ | ⟨ht, hb⟩
    all_goals
      have hd := Lib.hid ht
      clear ht
      go_enter Tryz.func69, Tryz.ntmps69
      go_wp2_with fail
      go_ret
      refine ⟨?_, HB.out⟩
      rw [hn.out]
      simp [hd.out]
  · have hn := Lib.hid (named_2 (n := n) (t := t))
    clear htc
    by_cases hn0 : n = 0
    · subst hn0
      go_enter Tryz.func69, Tryz.ntmps69
      go_wp2_with fail
      go_ret
      refine ⟨?_, HB.out⟩
      rw [hn.out]
      rfl
    · have hb : (n == 0) = false := by rw [beq_eq_false_iff_ne]; exact hn0
      have hd := Lib.hid hn0
      clear hn0
      go_enter Tryz.func69, Tryz.ntmps69
      go_wp2_with fail
      go_ret
      refine ⟨?_, HB.out⟩
      rw [hn.out]
      simp [hd.out]
  · have hn := Lib.hid (named_345 (k := 3) (n := n) (t := t) (.inl rfl))
    by_cases hn0 : n = 0
    · subst hn0
      rcases htc with ⟨ht, hb⟩ | ⟨ht, hb⟩
      all_goals
        have hd := Lib.hid ht
        clear ht
        go_enter Tryz.func69, Tryz.ntmps69
        go_wp2_with fail
        go_ret
        refine ⟨?_, HB.out⟩
        rw [hn.out]
        simp [hd.out]
    · have hb : (n == 0) = false := by rw [beq_eq_false_iff_ne]; exact hn0
      have hd := Lib.hid hn0
      clear hn0 htc
      go_enter Tryz.func69, Tryz.ntmps69
      go_wp2_with fail
      go_ret
      refine ⟨?_, HB.out⟩
      rw [hn.out]
      simp [hd.out]
  · have hn := Lib.hid (named_345 (k := 4) (n := n) (t := t) (.inr (.inl rfl)))
    by_cases hn0 : n = 0
    · subst hn0
      rcases htc with ⟨ht, hb⟩ | ⟨ht, hb⟩
      all_goals
        have hd := Lib.hid ht
        clear ht
        go_enter Tryz.func69, Tryz.ntmps69
        go_wp2_with fail
        go_ret
        refine ⟨?_, HB.out⟩
        rw [hn.out]
        simp [hd.out]
    · have hb : (n == 0) = false := by rw [beq_eq_false_iff_ne]; exact hn0
      have hd := Lib.hid hn0
      clear hn0 htc
      go_enter Tryz.func69, Tryz.ntmps69
      go_wp2_with fail
      go_ret
      refine ⟨?_, HB.out⟩
      rw [hn.out]
      simp [hd.out]
  · have hn := Lib.hid (named_345 (k := 5) (n := n) (t := t) (.inr (.inr rfl)))
    by_cases hn0 : n = 0
    · subst hn0
      rcases htc with ⟨ht, hb⟩ | ⟨ht, hb⟩
      all_goals
        have hd := Lib.hid ht
        clear ht
        go_enter Tryz.func69, Tryz.ntmps69
        go_wp2_with fail
        go_ret
        refine ⟨?_, HB.out⟩
        rw [hn.out]
        simp [hd.out]
    · have hb : (n == 0) = false := by rw [beq_eq_false_iff_ne]; exact hn0
      have hd := Lib.hid hn0
      clear hn0 htc
      go_enter Tryz.func69, Tryz.ntmps69
      go_wp2_with fail
      go_ret
      refine ⟨?_, HB.out⟩
      rw [hn.out]
      simp [hd.out]
  · have hn := Lib.hid (named_o (n := n) (t := t) h0 h1 h2 h3 h4 h5)
    have b0 : (k == 0) = false := by rw [beq_eq_false_iff_ne]; exact h0
    have b1 : (k == 1) = false := by rw [beq_eq_false_iff_ne]; exact h1
    have b2 : (k == 2) = false := by rw [beq_eq_false_iff_ne]; exact h2
    have b3 : (k == 3) = false := by rw [beq_eq_false_iff_ne]; exact h3
    have b4 : (k == 4) = false := by rw [beq_eq_false_iff_ne]; exact h4
    have b5 : (k == 5) = false := by rw [beq_eq_false_iff_ne]; exact h5
    clear h0 h1 h2 h3 h4 h5 htc
    go_enter Tryz.func69, Tryz.ntmps69
    go_wp2_with fail
    go_ret
    refine ⟨?_, HB.out⟩
    rw [hn.out]
    rfl
end Go.Proofs.YtamhpgledbmnoaaGreat
