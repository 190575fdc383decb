/-
  The drawn lists of deeds (l20Deeds): at most six, each with a short text.
  Conditions: none but those of the model.
-/
import Derived.Test.YtamhpgledbmnoaaGreatDoorD14
import Derived.Test.YtamhpgledbmnoaaGreatDoorOa
namespace Go.Proofs.YtamhpgledbmnoaaGreatDoor
set_option linter.unusedVariables false
set_option linter.unusedSimpArgs false
open Go.RowKit
/-- What l20Deeds leaves. -/
def Deedsd (R N : Nat) (w : World) (e : Ending) (w' : World) : Prop := ∃ (G n c : Nat) (ds : List Pl.Dd), e = .returned (.slice (some ⟨G, 0, none⟩) n c) ∧ w'.ownsRow w.heap.size 24 3 (.slice (some ⟨G, 0, none⟩) n c) n (D3 ds) ∧ n ≤ 6 ∧ (∀ D ∈ ds, D.t.length ≤ 70) ∧ Rdr w' R N ∧ w.grownBy w' (some R)
theorem own_some3 {w : World} {base n : Nat} {e : TypeId} {v : Value} {xs : List Value} (h : w.ownsRow base e 3 v (n + 1) xs) : ∃ G c, v = .slice (some ⟨G, 0, none⟩) (n + 1) c := by
  rcases h.2 with ⟨rfl, h2⟩ | ⟨g, cap, cur, rfl, _⟩
  · omega
  · exact ⟨g, cap, rfl⟩
theorem deeds_snoc {ds : List Pl.Dd} {D : Pl.Dd} (h : ∀ D ∈ ds, D.t.length ≤ 70) (hD : D.t.length ≤ 70) : ∀ E ∈ ds ++ [D], E.t.length ≤ 70 := by
  intro E hE
  rcases List.mem_append.1 hE with h1 | h1
  · exact h E h1
  · rw [List.mem_singleton.1 h1]; exact hD
theorem cells3d {w : World} {g : Nat} {T : TypeId} {a b c : Value} (h : Blk w g T #[a, b, c]) :
    w.cell? ⟨g, 0, none⟩ = some a ∧ w.cell? ⟨g, 1, none⟩ = some b ∧ w.cell? ⟨g, 2, none⟩ = some c :=
  ⟨(h.cell 0).trans rfl, (h.cell 1).trans rfl, (h.cell 2).trans rfl⟩
theorem rdr_own {w w' : World} {R N n base : Nat} {e : TypeId} {v : Value} {xs : List Value} (h : Rdr w R N) (hR : R < base) (hb : Below base w w') : Rdr w' R N := h.below hb hR
theorem grown_own {a w w' : World} {R base : Nat} (h : a.grownBy w (some R)) (hB : a.heap.size ≤ base) (hb : Below base w w') : a.grownBy w' (some R) := only_below h hb hB
set_option maxRecDepth 100000 in
set_option maxHeartbeats 16000000 in
theorem spec_l20Deeds (R N : Nat) (b : Pl.Bn) (A P : Option Addr) (n c m d B : Nat) (w : World) (h : Rdr w R N) (hN : N ≤ 30000) (o : ORow w B 3 A n c (I64 b.e)) (p : ORow w B 9 P m d (Tx b.past)) (hRB : R < B) (hB : B ≤ w.heap.size) (hs : Small b) :
    Calls Tryz.prog 55 #[.pointer (some ⟨R, 0, none⟩), benchV b.k b.x b.y A n c P m d] w (Deedsd R (N + 1400) w) := by
  obtain ⟨k, x, y, E, ts⟩ := b
  have SM := Lib.hid hs
  obtain ⟨g, hg⟩ : ∃ g, w.heap.size = g := ⟨_, rfl⟩
  obtain ⟨w0, hw0⟩ : ∃ w0, w0 = ((w.alloc (.cells #[.int .i64 k, .int .i64 x, .int .i64 y, .slice A n c, .slice P m d] 44)).alloc (.cells #[] 24)).alloc (.cells #[.int .i64 k, .int .i64 x, .int .i64 y, .slice A n c, .slice P m d] 44) := ⟨_, rfl⟩
  have hz0 : w0.heap.size = g + 3 := by rw [hw0, ← hg]; simp
  have HG0 := Lib.hid (show w.grownBy w0 (some R) by rw [hw0]; exact ((World.grownBy_alloc w _ _).trans (World.grownBy_alloc _ _ _)).trans (World.grownBy_alloc _ _ _))
  have KD : Blk w0 (g + 1 + 1) 44 #[.int .i64 k, .int .i64 x, .int .i64 y, .slice A n c, .slice P m d] := by
    rw [hw0, ← hg]
    have := Blk.new ((w.alloc (.cells #[.int .i64 k, .int .i64 x, .int .i64 y, .slice A n c, .slice P m d] 44)).alloc (.cells #[] 24)) 44 #[.int .i64 k, .int .i64 x, .int .i64 y, .slice A n c, .slice P m d]
    rw [World.size_alloc, World.size_alloc] at this
    exact this
  have OL : w0.ownsRow g 24 3 (.slice (some ⟨g + 1, 0, none⟩) 0 0) 0 (D3 []) := by
    have made := World.ownsRow_made (base := g) (e := 24) (size := 3) (w.alloc (.cells #[.int .i64 k, .int .i64 x, .int .i64 y, .slice A n c, .slice P m d] 44)) #[] 0 (by simp; omega) (by simp [maxLen]) rfl
    rw [World.size_alloc, hg] at made
    rw [hw0]
    exact own_alloc made _
  have o0 : ORow w0 B 3 A n c (I64 E) := by rw [hw0]; exact ((o.alloc _).alloc _).alloc _
  have p0 : ORow w0 B 9 P m d (Tx ts) := by rw [hw0]; exact ((p.alloc _).alloc _).alloc _
  have hr0 : Rdr w0 R N := by rw [hw0]; exact ((h.alloc _).alloc _).alloc _
  rw [hg] at hB
  clear h o p hs
  unfold benchV
  go_enter Tryz.func55, Tryz.ntmps55
  go_upto_region 3 with (fail)
  rw [← hw0]
  clear hw0
  go_wp2_with (with_reducible refine AtEnd.of ?_)
  refine (spec_pick R N 7 _ hr0 (by omega) (by omega)).mono ?_
  rintro e w1 ⟨r0, rfl, hr0', hr1, hg1⟩
  obtain ⟨i0, i1⟩ := hr0'.2 (by omega)
  obtain ⟨r0, rfl⟩ := Int.eq_ofNat_of_zero_le i0
  have KD := KD.grown hg1 (by intro e; injection e; omega)
  have o1 := o0.grown hg1 hRB
  have p1 := p0.grown hg1 hRB
  have OL := own_grownR OL hg1 (by omega)
  have HG1 := Lib.hid (HG0.out.trans hg1)
  have hz1 := hg1.size
  clear hg1 hr0 o0 p0 HG0 hr0'
  obtain ⟨D, hD⟩ : ∃ D, g + 1 + 1 = D := ⟨_, rfl⟩
  rw [hD] at KD
  have hgD : g + 2 ≤ D := by omega
  go_wp2_with (with_reducible refine AtEnd.of ?_)
  go_loopw [5, 7] (fun ov i wr => ∃ (r M : Nat) (A P : Option Addr) (LG n c m d ln lc : Nat) (k x y : Int) (E : List Int) (ts : List (List UInt8)) (ds : List Pl.Dd), r ≤ 6 ∧ i = .int .i64 r ∧ ov = .slice (some ⟨LG, 0, none⟩) ln lc ∧ M + 220 * r ≤ N + 1 + 220 * 6 ∧ ln + r ≤ 6 ∧ Blk wr D 44 #[.int .i64 k, .int .i64 x, .int .i64 y, .slice A n c, .slice P m d] ∧ ORow wr B 3 A n c (I64 E) ∧ ORow wr B 9 P m d (Tx ts) ∧ Hid (Small ⟨k, x, y, E, ts⟩) ∧ wr.ownsRow g 24 3 (.slice (some ⟨LG, 0, none⟩) ln lc) ln (D3 ds) ∧ Hid (∀ D ∈ ds, D.t.length ≤ 70) ∧ Rdr wr R M ∧ Hid (w.grownBy wr (some R))) (fun _ i _ => (intOf i).toNat)
  case atStart => exact ⟨r0, N + 1, A, P, g + 1, n, c, m, d, 0, 0, k, x, y, E, ts, [], by omega, rfl, rfl, by omega, by omega, KD, o1, p1, SM, OL, Lib.hid (fun D hD => by cases hD), hr1, HG1⟩
  case round =>
    clear KD o1 p1 hr1 HG1 SM OL hz1 hz0
    obtain ⟨r, M, A, P, LG, n, c, m, d, ln, lc, k, x, y, E, ts, ds, hr6, rfl, rfl, hM, hln, KD, o4, p4, SM, OL, HT, hr4, HG4⟩ := hrel
    have le : E.length = n := by have := o4.len; rwa [I64_len] at this
    have lm : ts.length = m := by have := p4.len; rwa [Tx_len] at this
    have hD1 := KD.lt
    have hRw := hr4.lt
    by_cases hpos : 0 < r
    · obtain ⟨r, rfl⟩ : ∃ q, r = q + 1 := ⟨r - 1, by omega⟩
      have hri : (0 : Int) < ((r + 1 : Nat) : Int) := by omega
      have hw1 : IntKind.i64.wrap (((r + 1 : Nat) : Int) - 1) = (r : Int) := by rw [show (((r + 1 : Nat) : Int) - 1) = (r : Int) by omega]; exact IntWalk.i64_in _ (by omega)
      have hw2 : IntKind.i64.wrap ((r : Int) + 1 - 1) = (r : Int) := by rw [show ((r : Int) + 1 - 1) = (r : Int) by omega]; exact IntWalk.i64_in _ (by omega)
      have hw3 : IntKind.i64.wrap (r : Int) = (r : Int) := IntWalk.i64_in _ (by omega)
      obtain ⟨s1, s2, s3, s4, s5⟩ := SM.out
      have s3 : E.length ≤ 24 := s3
      have s4 : ts.length ≤ 21 := s4
      have HS5 := Lib.hid s5
      have hnc := o4.cap
      clear s1 s2 s5
      have CD := Lib.hid (fun w' h => spec_l20Deed R M ⟨k, x, y, E, ts⟩ A P n c m d w' h (by omega))
      unfold benchV at CD
      obtain ⟨q0, q1, q2, q3, q4⟩ := blk5c KD
      go_wp2_with (with_reducible refine AtEnd.of ?_)
      refine (CD.out _ hr4).mono ?_
      rintro e w5 ⟨kk, n5, t5, rfl, ht5, hr5, hg5⟩
      have hz5 := hg5.size
      have KD5 := KD.grown hg5 (by intro e; injection e; omega)
      have o5 := o4.grown hg5 hRB
      have p5 := p4.grown hg5 hRB
      have OL5 := own_grownR OL hg5 (by omega)
      have HG5 := Lib.hid (HG4.out.trans hg5)
      clear q0 q1 q2 q3 q4 CD hg5 hr4 HG4 o4 p4 KD OL
      unfold deedV
      obtain ⟨Y, hY⟩ : ∃ Y, w5.heap.size = Y := ⟨_, rfl⟩
      obtain ⟨w6, hw6⟩ : ∃ w6, w6 = w5.alloc (.cells #[.int .i64 kk, .int .i64 n5, .string (Ba t5)] 24) := ⟨_, rfl⟩
      have hz6 : w6.heap.size = Y + 1 := by rw [hw6, ← hY]; simp
      have KY : Blk w6 Y 24 #[.int .i64 kk, .int .i64 n5, .string (Ba t5)] := by rw [hw6, ← hY]; exact Blk.new w5 _ _
      have KD6 : Blk w6 D 44 #[.int .i64 k, .int .i64 x, .int .i64 y, .slice A n c, .slice P m d] := by rw [hw6]; exact KD5.alloc _
      have o6 : ORow w6 B 3 A n c (I64 E) := by rw [hw6]; exact o5.alloc _
      have p6 : ORow w6 B 9 P m d (Tx ts) := by rw [hw6]; exact p5.alloc _
      have OL6 : w6.ownsRow g 24 3 (.slice (some ⟨LG, 0, none⟩) ln lc) ln (D3 ds) := by rw [hw6]; exact own_alloc OL5 _
      have hr6' : Rdr w6 R (M + 220) := by rw [hw6]; exact hr5.alloc _
      have HG6 := Lib.hid (show w.grownBy w6 (some R) by rw [hw6]; exact HG5.out.trans (World.grownBy_alloc _ _ _))
      have HT5 := Lib.hid ht5
      go_upto_region 7 with (fail)
      rw [← hw6]
      clear hw6 KD5 o5 p5 OL5 hr5 HG5 ht5
      have CB := Lib.hid (spec_BenchDo ⟨k, x, y, E, ts⟩ ⟨kk, n5, t5⟩ A P n c m d w6.heap.size w6 o6.rd p6.rd (Nat.le_refl _) (by omega) (by omega) hnc (fun s hs => by have := HS5.out s hs; omega) (by have := HT5.out; show t5.length ≤ 2000000; omega))
      have SM7 := Lib.hid (fun h => small_do (b := ⟨k, x, y, E, ts⟩) (d := ⟨kk, n5, t5⟩) h)
      obtain ⟨rr, hrr⟩ : ∃ rr, Pl.doB ⟨k, x, y, E, ts⟩ ⟨kk, n5, t5⟩ = rr := ⟨_, rfl⟩
      rw [hrr] at CB SM7
      clear hrr HS5
      obtain ⟨⟨k', x', y', E', ts'⟩, okk⟩ := rr
      unfold benchV deedV at CB
      obtain ⟨q0, q1, q2, q3, q4⟩ := blk5c KD6
      obtain ⟨y0, y1, y2⟩ := cells3d KY
      go_wp2_with (with_reducible refine AtEnd.of ?_)
      refine CB.out.mono ?_
      rintro e w7 ⟨v, rfl, ⟨A7, P7, n7, c7, m7, d7, rfl, o7, p7⟩, hb7⟩
      have hz7 := hb7.size
      have KD7 := KD6.below hb7 KD6.lt
      have KY7 := KY.below hb7 KY.lt
      have o67 := o6.below hb7
      have p67 := p6.below hb7
      have OL7 := own_below OL6 hb7
      have hr7 := hr6'.below hb7 hr6'.lt
      have HG7 := Lib.hid (HG6.out.trans (only_of_below hb7 (some R)))
      have o7 := o7.mono (show B ≤ w6.heap.size by omega)
      have p7 := p7.mono (show B ≤ w6.heap.size by omega)
      clear q0 q1 q2 q3 q4 y0 y1 y2 CB hb7 KD6 KY o6 p6 OL6 hr6' HG6
      obtain ⟨w8, hw8⟩ : ∃ w8, w8 = w7.alloc (.cells #[.int .i64 k', .int .i64 x', .int .i64 y', .slice A7 n7 c7, .slice P7 m7 d7] 44) := ⟨_, rfl⟩
      have hz8 : w8.heap.size = w7.heap.size + 1 := by rw [hw8]; simp
      have KD8 : Blk w8 D 44 #[.int .i64 k, .int .i64 x, .int .i64 y, .slice A n c, .slice P m d] := by rw [hw8]; exact KD7.alloc _
      have KY8 : Blk w8 Y 24 #[.int .i64 kk, .int .i64 n5, .string (Ba t5)] := by rw [hw8]; exact KY7.alloc _
      have KZ8 : Blk w8 w7.heap.size 44 #[.int .i64 k', .int .i64 x', .int .i64 y', .slice A7 n7 c7, .slice P7 m7 d7] := by rw [hw8]; exact Blk.new _ _ _
      have o68 : ORow w8 B 3 A n c (I64 E) := by rw [hw8]; exact o67.alloc _
      have p68 : ORow w8 B 9 P m d (Tx ts) := by rw [hw8]; exact p67.alloc _
      have o8 : ORow w8 B 3 A7 n7 c7 (I64 E') := by rw [hw8]; exact o7.alloc _
      have p8 : ORow w8 B 9 P7 m7 d7 (Tx ts') := by rw [hw8]; exact p7.alloc _
      have OL8 : w8.ownsRow g 24 3 (.slice (some ⟨LG, 0, none⟩) ln lc) ln (D3 ds) := by rw [hw8]; exact own_alloc OL7 _
      have hr8 : Rdr w8 R (M + 220) := by rw [hw8]; exact hr7.alloc _
      have HG8 := Lib.hid (show w.grownBy w8 (some R) by rw [hw8]; exact HG7.out.trans (World.grownBy_alloc _ _ _))
      unfold benchV
      go_upto_region 8 with (fail)
      rw [← hw8]
      clear hw8 KD7 KY7 o67 p67 OL7 hr7 HG7 o7 p7
      have hYR : R ≠ Y := by omega
      have hDY : D ≠ Y := by omega
      cases okk
      · obtain ⟨w9, rfl⟩ : ∃ w9, w9 = w8 := ⟨_, rfl⟩
        have KD9 := KD8
        have KY9 := KY8
        have o9 := o68
        have p9 := p68
        have OL9 := OL8
        have hr9 := hr8
        have HG9 := HG8
        clear KD8 KY8 o68 p68 OL8 hr8 HG8 o8 p8 KZ8 SM7
        go_upto_region 10 with (fail)
        have KA := KY9
        obtain ⟨y0, y1, y2⟩ := cells3d KY9
        have hB9 : g ≤ w9.heap.size := by omega
        go_wp2_with (at_builtin; go_must (refine app_deed rfl (.tmp 30) (.tmp 32) rfl g (.slice (some ⟨LG, 0, none⟩) ln lc) ln ds ⟨kk, n5, t5⟩ rfl (by exact OL9) (by first | rfl | (go_simp; done) | (simp [Act.eval]; done)) (by omega) hB9 ?_; intro v6 wa own6 hb6 hg6; obtain ⟨A6, c6, rfl⟩ := own_some3 own6; refine Hid.out ?_))
        refine Lib.hid ?_
        have OLa := own_alloc OL9 (.cells #[.int .i64 kk, .int .i64 n5, .string (Ba t5)] 24)
        have KDa := blk_apart (KD9.alloc (.cells #[.int .i64 kk, .int .i64 n5, .string (Ba t5)] 24)) OLa (by decide) hg6
        have oa := orow_apart (o9.alloc (.cells #[.int .i64 kk, .int .i64 n5, .string (Ba t5)] 24)) OLa (by decide) hg6
        have pa := orow_apart (p9.alloc (.cells #[.int .i64 kk, .int .i64 n5, .string (Ba t5)] 24)) OLa (by decide) hg6
        have hra := hr9.below (B := g) hb6 (by omega)
        have HGa := Lib.hid (only_below HG9.out hb6 (by omega))
        clear hg6 hb6 OLa KD9 o9 p9 OL9 hr9 HG9 KY9 KA y0 y1 y2
        go_wp2_with (with_reducible refine AtEnd.of ?_)
        go_roundw
        case rel => exact ⟨r, M + 220, A, P, A6, n, c, m, d, ln + 1, c6, k, x, y, E, ts, ds ++ [⟨kk, n5, t5⟩], by omega, by first | rfl | go_num, rfl, by omega, by omega, KDa, oa, pa, SM, own6, Lib.hid (deeds_snoc HT.out HT5.out), hra, HGa⟩
        case measure => first | (simp [intOf]; done) | (simp [intOf]; omega)
      · have S7 := Lib.hid (SM7.out rfl).1
        obtain ⟨q0, q1, q2, q3, q4⟩ := blk5c KZ8
        obtain ⟨b0, b1, b2, b3, b4⟩ := blk5c KD8
        have f0 := KD8.frozen 0
        have f1 := KD8.frozen 1
        have f2 := KD8.frozen 2
        have f3 := KD8.frozen 3
        have f4 := KD8.frozen 4
        obtain ⟨w9, hw9⟩ : ∃ w9, w9 = put5 w8 D (.int .i64 k') (.int .i64 x') (.int .i64 y') (.slice A7 n7 c7) (.slice P7 m7 d7) := ⟨_, rfl⟩
        have hz9 : w9.heap.size = w8.heap.size := by rw [hw9]; simp [put5, World.setCell]
        have KD9 : Blk w9 D 44 #[.int .i64 k', .int .i64 x', .int .i64 y', .slice A7 n7 c7, .slice P7 m7 d7] := by rw [hw9]; exact put5_blk KD8
        have KY9 : Blk w9 Y 24 #[.int .i64 kk, .int .i64 n5, .string (Ba t5)] := by rw [hw9]; exact put5_far hDY KY8
        have o9 : ORow w9 B 3 A7 n7 c7 (I64 E') := by rw [hw9]; exact put5_orow_ne o8 KD8 (by decide)
        have p9 : ORow w9 B 9 P7 m7 d7 (Tx ts') := by rw [hw9]; exact put5_orow_ne p8 KD8 (by decide)
        have OL9 : w9.ownsRow g 24 3 (.slice (some ⟨LG, 0, none⟩) ln lc) ln (D3 ds) := by rw [hw9]; exact own_put5 OL8 KD8 (by decide)
        have hr9 : Rdr w9 R (M + 220) := by rw [hw9]; exact rdr_put5 hr8 (by omega)
        have HG9 := Lib.hid (show w.grownBy w9 (some R) by rw [hw9]; exact only_put5 HG8.out (by omega))
        unfold put5 at hw9
        go_upto_region 10 with (fail)
        rw [← hw9]
        clear hw9 q0 q1 q2 q3 q4 b0 b1 b2 b3 b4 f0 f1 f2 f3 f4 KD8 KY8 o68 p68 OL8 hr8 HG8 o8 p8 KZ8 SM7
        have KA := KY9
        obtain ⟨y0, y1, y2⟩ := cells3d KY9
        have hB9 : g ≤ w9.heap.size := by omega
        go_wp2_with (at_builtin; go_must (refine app_deed rfl (.tmp 30) (.tmp 32) rfl g (.slice (some ⟨LG, 0, none⟩) ln lc) ln ds ⟨kk, n5, t5⟩ rfl (by exact OL9) (by first | rfl | (go_simp; done) | (simp [Act.eval]; done)) (by omega) hB9 ?_; intro v6 wa own6 hb6 hg6; obtain ⟨A6, c6, rfl⟩ := own_some3 own6; refine Hid.out ?_))
        refine Lib.hid ?_
        have OLa := own_alloc OL9 (.cells #[.int .i64 kk, .int .i64 n5, .string (Ba t5)] 24)
        have KDa := blk_apart (KD9.alloc (.cells #[.int .i64 kk, .int .i64 n5, .string (Ba t5)] 24)) OLa (by decide) hg6
        have oa := orow_apart (o9.alloc (.cells #[.int .i64 kk, .int .i64 n5, .string (Ba t5)] 24)) OLa (by decide) hg6
        have pa := orow_apart (p9.alloc (.cells #[.int .i64 kk, .int .i64 n5, .string (Ba t5)] 24)) OLa (by decide) hg6
        have hra := hr9.below (B := g) hb6 (by omega)
        have HGa := Lib.hid (only_below HG9.out hb6 (by omega))
        clear hg6 hb6 OLa KD9 o9 p9 OL9 hr9 HG9 KY9 KA y0 y1 y2
        go_wp2_with (with_reducible refine AtEnd.of ?_)
        go_roundw
        case rel => exact ⟨r, M + 220, A7, P7, A6, n7, c7, m7, d7, ln + 1, c6, k', x', y', E', ts', ds ++ [⟨kk, n5, t5⟩], by omega, by first | rfl | go_num, rfl, by omega, by omega, KDa, oa, pa, S7, own6, Lib.hid (deeds_snoc HT.out HT5.out), hra, HGa⟩
        case measure => first | (simp [intOf]; done) | (simp [intOf]; omega)
    · obtain rfl : r = 0 := by omega
      have hnn' : ¬ (0 : Int) < ((0 : Nat) : Int) := by omega
      have hz4 := HG4.out.size
      have HO := Lib.hid OL
      have HR4 := Lib.hid hr4
      go_wp2_with fail
      go_ret
      exact ⟨LG, ln, lc, ds, rfl, by rw [hg]; exact HO.out, by omega, HT.out, HR4.out.more (by omega), HG4.out⟩
end Go.Proofs.YtamhpgledbmnoaaGreatDoor
