/-
  The law FnBenchDo: for all codes it returns true.
  Conditions: none.
-/
import Derived.Test.YtfnolajhhdnpoaaGreatD16
import Derived.Test.YtfnolajhhdnpoaaGreatO9
import Derived.Test.YtfnolajhhdnpoaaGreatB7
import Derived.Test.YtfnolajhhdnpoaaGreatB8
import Derived.Test.YtfnolajhhdnpoaaGreatKD
import Derived.Test.YtfnolajhhdnpoaaGreatM4
namespace Go.Proofs.YtfnolajhhdnpoaaGreat
set_option linter.unusedVariables false
set_option linter.unusedSimpArgs false
open Go.RowKit
theorem blk3c {w : World} {g : Nat} {T : TypeId} {a b c : Value} (h : Blk w g T #[a, b, c]) :
    w.cell? ⟨g, 0, none⟩ = some a ∧ w.cell? ⟨g, 1, none⟩ = some b ∧ w.cell? ⟨g, 2, none⟩ = some c :=
  ⟨(h.cell 0).trans rfl, (h.cell 1).trans rfl, (h.cell 2).trans rfl⟩
/-- What a deed that was done asks of the law. -/
theorem do_facts {b b' : Pl.Bn} {D : Pl.Dd} (hv : Pl.benchValid b = true) (hs : Pl.stepB b D = some b') :
    Pl.benchValid b' = true ∧ b'.k = b.k ∧ ((D.k = 2 ∨ D.k = 3 ∨ D.k = 4) → b.past.length < 20 → Pl.doB b' ⟨5, 0, []⟩ = (b, true)) ∧ (D.k = 3 → Pl.benchValue b' = Pl.benchValue b) := by
  obtain ⟨h1, h2⟩ := Pl.stepB_valid hv hs
  refine ⟨h1, h2, ?_, ?_⟩
  · intro hk hl
    rcases Pl.stepB_some hv hs with ⟨h, _⟩ | ⟨h, _⟩ | ⟨_, e, he, rfl, _⟩ | ⟨h, _⟩
    · omega
    · omega
    · exact Pl.doB_some h1 (Pl.back_set hv hl)
    · omega
  · intro hk
    rcases Pl.stepB_some hv hs with ⟨h, _⟩ | ⟨h, _⟩ | ⟨_, e, he, rfl, h3⟩ | ⟨h, _⟩
    · omega
    · omega
    · rw [h3 hk]; exact Pl.simple_bench hv
    · omega
set_option maxRecDepth 100000 in
set_option maxHeartbeats 8000000 in
theorem law_FnBenchDo (a0 : Option Addr) (len0 cap0 : Nat) (z0 : List Int) (w : World) (w0 : IsRow .u8 w a0 len0 cap0 z0) :
    Calls Tryz.prog 4 #[.slice a0 len0 cap0] w fun e w' => e = .returned (.bool true) ∧ Below w.heap.size w w' := by
  obtain ⟨hc, hl, hm⟩ := code_of_row w0
  clear w0
  have hm2 := hm
  unfold maxLen at hm2
  by_cases hbig : 1048576 < len0
  · have hbi : (1048576 : Int) < len0 := by omega
    go_enter Tryz.func4, Tryz.ntmps4
    go_wp2
    go_ret
    exact ⟨rfl, Below.refl _ _⟩
  have hbi : ¬ (1048576 : Int) < len0 := by omega
  go_enter Tryz.func4, Tryz.ntmps4
  go_wp2_with fail
  refine (spec_DrawBenchDo a0 len0 cap0 _ hc hl hm).mono ?_
  rintro e v0 ⟨v, b, ⟨dk, dn, t⟩, rfl, ⟨A, P, n, c, m, d, rfl, o, p⟩, SM, ht5, HB0⟩
  obtain ⟨k, x, y, E, ts⟩ := b
  obtain ⟨_, _, s3, s4, s5⟩ := SM
  have ln : E.length = n := by have := o.len; rwa [I64_len] at this
  have lm : ts.length = m := by have := p.len; rwa [Tx_len] at this
  have s3 : E.length ≤ 24 := s3
  have s4 : ts.length ≤ 21 := s4
  have ht5 : t.length ≤ 70 := ht5
  have hs1 : ∀ s ∈ ts, s.length ≤ 1000000000000 := fun s hs => by have := s5 s hs; omega
  have hs2 : ∀ s ∈ ts, s.length ≤ 2000000 := fun s hs => by have := s5 s hs; omega
  have hnc := o.cap
  have z0 := HB0.size
  obtain ⟨D, hD⟩ : ∃ D, D = v0.heap.size := ⟨_, rfl⟩
  obtain ⟨v1, hv1⟩ : ∃ v1, v1 = (v0.alloc (.cells #[.int .i64 k, .int .i64 x, .int .i64 y, .slice A n c, .slice P m d] 30)).alloc (.cells #[.int .i64 dk, .int .i64 dn, .string (Ba t)] 34) := ⟨_, rfl⟩
  have K1 : Blk v1 D 30 #[.int .i64 k, .int .i64 x, .int .i64 y, .slice A n c, .slice P m d] := by rw [hv1, hD]; exact (Blk.new v0 _ _).alloc _
  have K2 : Blk v1 (D + 1) 34 #[.int .i64 dk, .int .i64 dn, .string (Ba t)] := by
    rw [hv1, hD]
    have := Blk.new (v0.alloc (.cells #[.int .i64 k, .int .i64 x, .int .i64 y, .slice A n c, .slice P m d] 30)) 34 #[.int .i64 dk, .int .i64 dn, .string (Ba t)]
    rwa [World.size_alloc] at this
  have rx : Rd v1 v1.heap.size A n (I64 E) := by rw [hv1]; exact ((o.alloc _).alloc _).rd
  have rp : Rd v1 v1.heap.size P m (Tx ts) := by rw [hv1]; exact ((p.alloc _).alloc _).rd
  have HB1 : Below w.heap.size w v1 := by rw [hv1]; exact (HB0.alloc z0 _).alloc (by simp; omega) _
  have z1 : w.heap.size ≤ v1.heap.size := HB1.size
  have y1 : v1.heap.size = D + 2 := by rw [hv1, hD]; simp
  clear hc hl hm hbig hm2 HB0 o p s5
  unfold benchV deedV
  go_upto_region 4 with (fail)
  rw [← hv1, ← hD]
  clear hv1 hD
  have ci := Lib.hid (fun w' h h' hB => impl_BenchDo ⟨k, x, y, E, ts⟩ ⟨dk, dn, t⟩ A P n c m d v1.heap.size w' h h' hB (by omega) (by omega) hnc hs2 (by show t.length ≤ 2000000; omega))
  have cs := Lib.hid (fun w' h h' hB => spec_BenchDo ⟨k, x, y, E, ts⟩ ⟨dk, dn, t⟩ A P n c m d v1.heap.size w' h h' hB (by omega) (by omega) hnc hs2 (by show t.length ≤ 2000000; omega))
  have cv := Lib.hid (fun w' h h' hB => impl_BenchValid ⟨k, x, y, E, ts⟩ A P n c m d v1.heap.size w' h h' hB (by omega) (by omega) hs1)
  have cb := Lib.hid (fun w' h h' hB => impl_BenchValue ⟨k, x, y, E, ts⟩ A P n c m d v1.heap.size w' h h' hB (by omega) (by omega) hs2)
  have HX1 := Lib.hid rx
  have HP1 := Lib.hid rp
  have HBX := Lib.hid HB1
  obtain ⟨u0, u1, u2, u3, u4⟩ := blk5c K1
  obtain ⟨q0, q1, q2⟩ := blk3c K2
  clear rx rp HB1 hs1 hs2
  obtain ⟨r, hr⟩ : ∃ r, r = Pl.doB ⟨k, x, y, E, ts⟩ ⟨dk, dn, t⟩ := ⟨_, rfl⟩
  rw [← hr] at ci cs
  have HR := Lib.hid hr
  clear hr
  unfold deedV at ci cs
  go_wp2_with fail
  refine (ci.out _ HX1.out HP1.out (by exact Nat.le_refl _)).mono ?_
  rintro e v2 ⟨v, rfl, ⟨A2, P2, n2, c2, m2, d2, rfl, o2, p2⟩, hb2⟩
  have y2 := hb2.size
  have hb2' := hb2
  have K12 := K1.below hb2 K1.lt
  have K22 := K2.below hb2 K2.lt
  have HB2 := Lib.hid (below_step HBX.out hb2 z1)
  unfold benchV
  obtain ⟨v3, hv3⟩ : ∃ v3, v3 = v2.alloc (.cells #[.int .i64 r.1.k, .int .i64 r.1.x, .int .i64 r.1.y, .slice A2 n2 c2, .slice P2 m2 d2] 30) := ⟨_, rfl⟩
  go_upto_region 5 with (fail)
  obtain ⟨X, hX⟩ : ∃ X, X = v2.heap.size := ⟨_, rfl⟩
  rw [← hv3, ← hX]
  have KX : Blk v3 X 30 #[.int .i64 r.1.k, .int .i64 r.1.x, .int .i64 r.1.y, .slice A2 n2 c2, .slice P2 m2 d2] := by rw [hv3, hX]; exact Blk.new v2 _ _
  have K13 := K12.alloc (.cells #[.int .i64 r.1.k, .int .i64 r.1.x, .int .i64 r.1.y, .slice A2 n2 c2, .slice P2 m2 d2] 30)
  have K23 := K22.alloc (.cells #[.int .i64 r.1.k, .int .i64 r.1.x, .int .i64 r.1.y, .slice A2 n2 c2, .slice P2 m2 d2] 30)
  rw [← hv3] at K13 K23
  have o3 : ORow v3 v1.heap.size 3 A2 n2 c2 (I64 r.1.e) := by rw [hv3]; exact o2.alloc _
  have p3 : ORow v3 v1.heap.size 9 P2 m2 d2 (Tx r.1.past) := by rw [hv3]; exact p2.alloc _
  have hb3 : Below v1.heap.size v1 v3 := by rw [hv3]; exact hb2'.alloc y2 _
  have y3 : v3.heap.size = X + 1 := by rw [hv3, hX]; simp
  have HB3 := Lib.hid (HBX.out.trans (hb3.mono z1))
  clear hv3 hX K12 K22 hb2 hb2' HB2 o2 p2 u0 u1 u2 u3 u4 q0 q1 q2
  obtain ⟨u0, u1, u2, u3, u4⟩ := blk5c K13
  obtain ⟨q0, q1, q2⟩ := blk3c K23
  go_wp2_with fail
  refine (cs.out _ (HX1.out.below hb3) (HP1.out.below hb3) hb3.size).mono ?_
  rintro e v4 ⟨v, rfl, ⟨A4, P4, n4, c4, m4, d4, rfl, o4, p4⟩, hb4⟩
  have y4 := hb4.size
  have hb14 := hb3.trans (hb4.mono hb3.size)
  unfold benchV
  obtain ⟨v5, hv5⟩ : ∃ v5, v5 = v4.alloc (.cells #[.int .i64 r.1.k, .int .i64 r.1.x, .int .i64 r.1.y, .slice A4 n4 c4, .slice P4 m4 d4] 30) := ⟨_, rfl⟩
  go_upto_region 6 with (fail)
  obtain ⟨Y, hY⟩ : ∃ Y, Y = v4.heap.size := ⟨_, rfl⟩
  rw [← hv5, ← hY]
  have hb35 : Below v3.heap.size v3 v5 := by rw [hv5]; exact hb4.alloc y4 _
  have hb15 : Below v1.heap.size v1 v5 := hb3.trans (hb35.mono hb3.size)
  have KY : Blk v5 Y 30 #[.int .i64 r.1.k, .int .i64 r.1.x, .int .i64 r.1.y, .slice A4 n4 c4, .slice P4 m4 d4] := by rw [hv5, hY]; exact Blk.new v4 _ _
  have K15 := K13.below hb35 K13.lt
  have K25 := K23.below hb35 K23.lt
  have KX5 := KX.below hb35 KX.lt
  have rx2 := Lib.hid ((o3.below hb35).rd)
  have rp2 := Lib.hid ((p3.below hb35).rd)
  have rx4 := Lib.hid (show Rd v5 v5.heap.size A4 n4 (I64 r.1.e) by rw [hv5]; exact (o4.alloc _).rd)
  have rp4 := Lib.hid (show Rd v5 v5.heap.size P4 m4 (Tx r.1.past) by rw [hv5]; exact (p4.alloc _).rd)
  have y5 : v3.heap.size ≤ v5.heap.size := hb35.size
  have HB5 := Lib.hid (HBX.out.trans (hb15.mono z1))
  have hsm : r.1.e.length ≤ 24 ∧ r.1.past.length ≤ 21 := by
    rw [HR.out]
    cases hv : Pl.benchValid ⟨k, x, y, E, ts⟩
    · rw [Pl.doB_f hv]; exact ⟨by decide, by decide⟩
    · obtain ⟨_, g2, g3, _⟩ := Pl.bv_size (Pl.doB_valid (d := ⟨dk, dn, t⟩) hv).1
      exact ⟨g2, by omega⟩
  have l2 : r.1.e.length = n2 := by have := o3.len; rwa [I64_len] at this
  have l2' : r.1.past.length = m2 := by have := p3.len; rwa [Tx_len] at this
  have l4 : r.1.e.length = n4 := by have := o4.len; rwa [I64_len] at this
  have l4' : r.1.past.length = m4 := by have := p4.len; rwa [Tx_len] at this
  have hc2 := o3.cap
  obtain ⟨h24, h21⟩ := hsm
  have c1 := Lib.hid (laws_sameBench r.1 r.1 A2 A4 P2 P4 n2 c2 m2 d2 n4 c4 m4 d4 v5.heap.size v5 rx2.out rp2.out rx4.out rp4.out (Nat.le_refl _) (by omega) (by omega) (by omega) (by omega))
  rw [show decide (r.1 = r.1) = true by simp] at c1
  unfold benchV at c1
  have l2 := Lib.hid l2
  have l2' := Lib.hid l2'
  have h24 := Lib.hid h24
  have h21 := Lib.hid h21
  have RX5 := Lib.hid (HX1.out.below hb15)
  have RP5 := Lib.hid (HP1.out.below hb15)
  have y15 : v1.heap.size ≤ v5.heap.size := hb15.size
  clear hv5 hY l4 l4' o3 p3 o4 p4 hb4 hb14 hb35 hb15 hb3 K13 K23 KX u0 u1 u2 u3 u4 q0 q1 q2 HB3 rx4 rp4
  obtain ⟨⟨k', x', y', E', ts'⟩, ok⟩ := r
  have hkk : (ok != ok) = false := by simp
  obtain ⟨w0, w1, w2, w3, w4⟩ := blk5c KX5
  obtain ⟨x0, x1, x2, x3, x4⟩ := blk5c KY
  go_wp2_with fail
  refine c1.out.mono ?_
  rintro e v6 ⟨rfl, hb6⟩
  have y6 := hb6.size
  have K16 := K15.below hb6 K15.lt
  have K26 := K25.below hb6 K25.lt
  have KX6 := KX5.below hb6 KX5.lt
  have rx6 := Lib.hid ((rx2.out.below hb6).more y6)
  have rp6 := Lib.hid ((rp2.out.below hb6).more y6)
  have RX6 := Lib.hid (RX5.out.below (hb6.mono y15))
  have RP6 := Lib.hid (RP5.out.below (hb6.mono y15))
  have HB6 := Lib.hid (below_step HB5.out hb6 (by omega))
  have y16 : v1.heap.size ≤ v6.heap.size := by omega
  clear w0 w1 w2 w3 w4 x0 x1 x2 x3 x4 c1 hb6 rx2 rp2 RX5 RP5 K15 K25 KX5 KY
  obtain ⟨w0, w1, w2, w3, w4⟩ := blk5c KX6
  obtain ⟨u0, u1, u2, u3, u4⟩ := blk5c K16
  obtain ⟨q0, q1, q2⟩ := blk3c K26
  have hlen1 := l2.out
  have hlen2 := l2'.out
  have h24' := h24.out
  have h21' := h21.out
  cases ok
  · -- nothing was done
    have c3 := Lib.hid (laws_sameBench ⟨k', x', y', E', ts'⟩ ⟨k, x, y, E, ts⟩ A2 A P2 P n2 c2 m2 d2 n c m d v6.heap.size v6 rx6.out rp6.out (RX6.out.more y16) (RP6.out.more y16) (Nat.le_refl _) (by omega) (by omega) (by omega) (by omega))
    have hor : decide ((⟨k', x', y', E', ts'⟩ : Pl.Bn) = ⟨k, x, y, E, ts⟩) = true ∨ Pl.benchValid ⟨k, x, y, E, ts⟩ = false := by
      cases hv : Pl.benchValid ⟨k, x, y, E, ts⟩
      · exact .inr rfl
      · refine .inl (decide_eq_true ?_)
        have := Pl.doB_same (d := ⟨dk, dn, t⟩) hv (by rw [← HR.out])
        rw [← HR.out] at this
        exact this
    unfold benchV at c3
    clear HR hlen1 hlen2 h24' h21'
    generalize decide ((⟨k', x', y', E', ts'⟩ : Pl.Bn) = ⟨k, x, y, E, ts⟩) = S at *
    cases S
    · have hv := hor.resolve_left (by decide)
      rw [hv] at cv
      clear hor hv
      go_wp2_with fail
      refine c3.out.mono ?_
      rintro e v7 ⟨rfl, hb7⟩
      have y7 := hb7.size
      have HB7 := Lib.hid (below_step HB6.out hb7 (by omega))
      have K17 := K16.below hb7 K16.lt
      clear u0 u1 u2 u3 u4
      obtain ⟨u0, u1, u2, u3, u4⟩ := blk5c K17
      go_wp2_with fail
      refine (cv.out _ (RX6.out.below (hb7.mono y16)) (RP6.out.below (hb7.mono y16)) (by omega)).mono ?_
      rintro e v8 ⟨rfl, hb8⟩
      have y8 := hb8.size
      have HB8 := Lib.hid (below_step HB7.out hb8 (by omega))
      go_wp2_with fail
      refine (laws_alive _).mono ?_
      rintro e v9 ⟨rfl, hb9⟩
      have HB9 := Lib.hid (below_step HB8.out hb9 (by omega))
      go_wp2_with fail
      go_ret
      exact ⟨rfl, HB9.out⟩
    · clear hor
      go_wp2_with fail
      refine c3.out.mono ?_
      rintro e v7 ⟨rfl, hb7⟩
      have y7 := hb7.size
      have HB7 := Lib.hid (below_step HB6.out hb7 (by omega))
      go_wp2_with fail
      refine (laws_alive _).mono ?_
      rintro e v9 ⟨rfl, hb9⟩
      have HB9 := Lib.hid (below_step HB7.out hb9 (by omega))
      go_wp2_with fail
      go_ret
      exact ⟨rfl, HB9.out⟩
  · -- the deed was done
    obtain ⟨hv, b'', hst, hdd⟩ := Pl.doB_ok (b := ⟨k, x, y, E, ts⟩) (d := ⟨dk, dn, t⟩) (by rw [← HR.out])
    have hr := HR.out
    rw [hdd] at hr
    obtain rfl : (⟨k', x', y', E', ts'⟩ : Pl.Bn) = b'' := by injection hr
    obtain ⟨f1, f2, f3, f4⟩ := do_facts hv hst
    obtain ⟨_, _, g3, g4⟩ := Pl.bv_size f1
    have F3 := Lib.hid f3
    have F4 := Lib.hid f4
    obtain rfl : k' = k := f2
    have hs3 : ∀ s ∈ ts', s.length ≤ 2000000 := fun s hs => by have := g4 s hs; omega
    have hs4 : ∀ s ∈ ts', s.length ≤ 1000000000000 := fun s hs => by have := g4 s hs; omega
    have cd := Lib.hid (impl_BenchDo ⟨k', x', y', E', ts'⟩ ⟨5, 0, []⟩ A2 P2 n2 c2 m2 d2 v6.heap.size v6 rx6.out rp6.out (Nat.le_refl _) (by omega) (by omega) hc2 hs3 (by simp))
    have cv2 := Lib.hid (fun w' h h' hB => impl_BenchValid ⟨k', x', y', E', ts'⟩ A2 P2 n2 c2 m2 d2 v6.heap.size w' h h' hB (by omega) (by omega) hs4)
    have cb2 := Lib.hid (fun w' h h' hB => impl_BenchValue ⟨k', x', y', E', ts'⟩ A2 P2 n2 c2 m2 d2 v6.heap.size w' h h' hB (by omega) (by omega) hs3)
    rw [f1] at cv2
    clear HR hr hv hst hdd f1 f3 f4 g3 g4 hs3 hs4 hlen1 hlen2 h24' h21'
    obtain ⟨r5, hr5⟩ : ∃ r5, r5 = Pl.doB ⟨k', x', y', E', ts'⟩ ⟨5, 0, []⟩ := ⟨_, rfl⟩
    rw [← hr5] at cd F3
    have HR5 := Lib.hid hr5
    clear hr5
    unfold benchV deedV at cd
    have Y2 := Lib.hid (show (2 : Int) ≤ 2 from Int.le_refl _)
    by_cases h3 : dk = 3
    · subst h3
      have hturn : ((3 : Int) = 2 ∨ (3 : Int) = 3 ∨ (3 : Int) = 4) := .inr (.inl rfl)
      by_cases htl : ts.length < 20
      · have htm : (m : Int) < 20 := by omega
        obtain rfl := F3.out hturn htl
        dsimp only at cd
        clear hturn
        go_wp2_with fail
        refine cd.out.mono ?_
        rintro e v7 ⟨v, rfl, ⟨A7, P7, n7, c7, m7, d7, rfl, o7, p7⟩, hb7⟩
        have y7 := hb7.size
        unfold benchV
        obtain ⟨v8, hv8⟩ : ∃ v8, v8 = v7.alloc (.cells #[.int .i64 k', .int .i64 x, .int .i64 y, .slice A7 n7 c7, .slice P7 m7 d7] 30) := ⟨_, rfl⟩
        go_upto_region 11 with (fail)
        rw [← hv8]
        have hb68 : Below v6.heap.size v6 v8 := by rw [hv8]; exact hb7.alloc y7 _
        have y68 : v6.heap.size ≤ v8.heap.size := hb68.size
        have KZ : Blk v8 v7.heap.size 30 #[.int .i64 k', .int .i64 x, .int .i64 y, .slice A7 n7 c7, .slice P7 m7 d7] := by rw [hv8]; exact Blk.new v7 _ _
        have K18 := K16.below hb68 K16.lt
        have K28 := K26.below hb68 K26.lt
        have KX8 := KX6.below hb68 KX6.lt
        have HB8 := Lib.hid (below_step HB6.out hb68 (by omega))
        have o8 : ORow v8 v6.heap.size 3 A7 n7 c7 (I64 E) := by rw [hv8]; exact o7.alloc _
        have p8 : ORow v8 v6.heap.size 9 P7 m7 d7 (Tx ts) := by rw [hv8]; exact p7.alloc _
        have l7 : E.length = n7 := by have := o8.len; rwa [I64_len] at this
        have l7' : ts.length = m7 := by have := p8.len; rwa [Tx_len] at this
        have cx := Lib.hid (laws_sameBench ⟨k', x, y, E, ts⟩ ⟨k', x, y, E, ts⟩ A7 A P7 P n7 c7 m7 d7 n c m d v8.heap.size v8 o8.rd p8.rd ((RX6.out.below (hb68.mono y16)).more (by omega)) ((RP6.out.below (hb68.mono y16)).more (by omega)) (Nat.le_refl _) (by omega) (by omega) (by omega) (by omega))
        rw [show decide ((⟨k', x, y, E, ts⟩ : Pl.Bn) = ⟨k', x, y, E, ts⟩) = true by simp] at cx
        unfold benchV at cx
        clear l7 l7' o8 p8
        clear hv8 o7 p7 hb7 w0 w1 w2 w3 w4 u0 u1 u2 u3 u4 q0 q1 q2 cd
        obtain ⟨w0, w1, w2, w3, w4⟩ := blk5c KX8
        obtain ⟨u0, u1, u2, u3, u4⟩ := blk5c K18
        obtain ⟨q0, q1, q2⟩ := blk3c K28
        obtain ⟨e0, e1, e2, e3, e4⟩ := blk5c KZ
        go_wp2_with fail
        refine cx.out.mono ?_
        rintro e v9 ⟨rfl, hb9⟩
        have y9 := hb9.size
        have hb69 : Below v6.heap.size v6 v9 := hb68.trans (hb9.mono y68)
        have HB9 := Lib.hid (below_step HB8.out hb9 (by omega))
        have K19 := K18.below hb9 K18.lt
        have K29 := K28.below hb9 K28.lt
        have KX9 := KX8.below hb9 KX8.lt
        clear w0 w1 w2 w3 w4 u0 u1 u2 u3 u4 q0 q1 q2 e0 e1 e2 e3 e4 cx hb9 hb68 K18 K28 KX8 KZ
        obtain ⟨w0, w1, w2, w3, w4⟩ := blk5c KX9
        obtain ⟨u0, u1, u2, u3, u4⟩ := blk5c K19
        obtain ⟨q0, q1, q2⟩ := blk3c K29
        rw [F4.out (by first | trivial | rfl)] at cb2
        generalize Pl.benchValue ⟨k', x, y, E, ts⟩ = V at cb cb2
        have hVV : (V != V) = false := by simp
        have rxB := Lib.hid (rx6.out.below hb69)
        have rpB := Lib.hid (rp6.out.below hb69)
        have RXB := Lib.hid (RX6.out.below (hb69.mono y16))
        have RPB := Lib.hid (RP6.out.below (hb69.mono y16))
        have hDl := K19.lt
        have hEl := K29.lt
        have hXl := KX9.lt
        have hsz := hb69.size
        have y1v : v1.heap.size ≤ v9.heap.size := by omega
        go_upto_region 14 with (fail)
        go_region_held3 (fun w' => ∀ (b o : Nat), b < v9.heap.size → w'.cell? ⟨b, o, none⟩ = v9.cell? ⟨b, o, none⟩) (first | (with_reducible exact same_drew0) | (with_reducible exact same_refl0) | (with_reducible exact (bcell hbc).1)) (first
          | (go_at_call_of 18 (Value.agg #[.int .i64 k', .int .i64 x', .int .i64 y', .slice A2 n2 c2, .slice P2 m2 d2]); refine (cb2.out _ (by exact rxB.out) (by exact rpB.out) (by exact hsz)).mono ?_; rintro e vB ⟨rfl, hbB⟩; have hbB : Below v9.heap.size v9 vB := ⟨hbB.os, hbB.tape, hbB.output, hbB.size, hbB.block⟩; have yB := hbB.size; have RXC := Lib.hid (RXB.out.below (hbB.mono y1v)); have RPC := Lib.hid (RPB.out.below (hbB.mono y1v)); have hbc := hbB)
          | (go_at_call_of 18 (Value.agg #[.int .i64 k', .int .i64 x, .int .i64 y, .slice A n c, .slice P m d]); refine (cb.out _ (by exact RXC.out) (by exact RPC.out) (by show v1.heap.size ≤ vB.heap.size; omega)).mono ?_; rintro e vC ⟨rfl, hbC⟩; have hbC : Below vB.heap.size vB vC := ⟨hbC.os, hbC.tape, hbC.output, hbC.size, hbC.block⟩; have hbc := hbB.trans (hbC.mono yB)))
        all_goals (
          have KXf := KX9.below hbc hXl
          have K1f := K19.below hbc hDl
          have yC : v9.heap.size ≤ vC.heap.size := hbc.size
          have HBC := Lib.hid (below_step HB9.out hbc (by omega))
          go_wp2_with fail
          refine (cv2.out _ (by first | exact rxB.out.below (hbc.mono hsz) | exact (rxB.out.below (hbc.mono hsz)).drewN _) (by first | exact rpB.out.below (hbc.mono hsz) | exact (rpB.out.below (hbc.mono hsz)).drewN _) (by show v6.heap.size ≤ vC.heap.size; omega)).mono ?_
          rintro e vA ⟨rfl, hbA⟩
          have hbA : Below vC.heap.size vC vA := ⟨hbA.os, hbA.tape, hbA.output, hbA.size, hbA.block⟩
          have KXA := KXf.below hbA KXf.lt
          have K1A := K1f.below hbA K1f.lt
          have HBA := Lib.hid (below_step HBC.out hbA (by omega))
          clear u0 u1 u2 u3 u4 w0 w1 w2 w3 w4
          obtain ⟨w0, w1, w2, w3, w4⟩ := blk5c KXA
          obtain ⟨u0, u1, u2, u3, u4⟩ := blk5c K1A
          go_wp2_with fail
          go_ret
          exact ⟨by first | rfl | simp, HBA.out⟩)
      · have htm : ¬ (m : Int) < 20 := by omega
        clear hturn
        go_wp2_with fail
        refine cd.out.mono ?_
        rintro e v7 ⟨v, rfl, ⟨A7, P7, n7, c7, m7, d7, rfl, o7, p7⟩, hb7⟩
        have y7 := hb7.size
        unfold benchV
        obtain ⟨v8, hv8⟩ : ∃ v8, v8 = v7.alloc (.cells #[.int .i64 r5.1.k, .int .i64 r5.1.x, .int .i64 r5.1.y, .slice A7 n7 c7, .slice P7 m7 d7] 30) := ⟨_, rfl⟩
        go_upto_region 11 with (fail)
        rw [← hv8]
        have hb68 : Below v6.heap.size v6 v8 := by rw [hv8]; exact hb7.alloc y7 _
        have y68 : v6.heap.size ≤ v8.heap.size := hb68.size
        have KZ : Blk v8 v7.heap.size 30 #[.int .i64 r5.1.k, .int .i64 r5.1.x, .int .i64 r5.1.y, .slice A7 n7 c7, .slice P7 m7 d7] := by rw [hv8]; exact Blk.new v7 _ _
        have K18 := K16.below hb68 K16.lt
        have K28 := K26.below hb68 K26.lt
        have KX8 := KX6.below hb68 KX6.lt
        have HB8 := Lib.hid (below_step HB6.out hb68 (by omega))
        clear hv8 o7 p7 hb7 w0 w1 w2 w3 w4 u0 u1 u2 u3 u4 q0 q1 q2 cd
        obtain ⟨w0, w1, w2, w3, w4⟩ := blk5c KX8
        obtain ⟨u0, u1, u2, u3, u4⟩ := blk5c K18
        obtain ⟨q0, q1, q2⟩ := blk3c K28
        obtain ⟨e0, e1, e2, e3, e4⟩ := blk5c KZ
        rw [F4.out (by first | trivial | rfl)] at cb2
        generalize Pl.benchValue ⟨k', x, y, E, ts⟩ = V at cb cb2
        have hVV : (V != V) = false := by simp
        have rxB := Lib.hid (rx6.out.below hb68)
        have rpB := Lib.hid (rp6.out.below hb68)
        have RXB := Lib.hid (RX6.out.below (hb68.mono y16))
        have RPB := Lib.hid (RP6.out.below (hb68.mono y16))
        have hDl := K18.lt
        have hEl := K28.lt
        have hXl := KX8.lt
        have hsz := hb68.size
        have y1v : v1.heap.size ≤ v8.heap.size := by omega
        go_upto_region 14 with (fail)
        go_region_held3 (fun w' => ∀ (b o : Nat), b < v8.heap.size → w'.cell? ⟨b, o, none⟩ = v8.cell? ⟨b, o, none⟩) (first | (with_reducible exact same_drew0) | (with_reducible exact same_refl0) | (with_reducible exact (bcell hbc).1)) (first
          | (go_at_call_of 18 (Value.agg #[.int .i64 k', .int .i64 x', .int .i64 y', .slice A2 n2 c2, .slice P2 m2 d2]); refine (cb2.out _ (by exact rxB.out) (by exact rpB.out) (by exact hsz)).mono ?_; rintro e vB ⟨rfl, hbB⟩; have hbB : Below v8.heap.size v8 vB := ⟨hbB.os, hbB.tape, hbB.output, hbB.size, hbB.block⟩; have yB := hbB.size; have RXC := Lib.hid (RXB.out.below (hbB.mono y1v)); have RPC := Lib.hid (RPB.out.below (hbB.mono y1v)); have hbc := hbB)
          | (go_at_call_of 18 (Value.agg #[.int .i64 k', .int .i64 x, .int .i64 y, .slice A n c, .slice P m d]); refine (cb.out _ (by exact RXC.out) (by exact RPC.out) (by show v1.heap.size ≤ vB.heap.size; omega)).mono ?_; rintro e vC ⟨rfl, hbC⟩; have hbC : Below vB.heap.size vB vC := ⟨hbC.os, hbC.tape, hbC.output, hbC.size, hbC.block⟩; have hbc := hbB.trans (hbC.mono yB)))
        all_goals (
          have KXf := KX8.below hbc hXl
          have K1f := K18.below hbc hDl
          have yC : v8.heap.size ≤ vC.heap.size := hbc.size
          have HBC := Lib.hid (below_step HB8.out hbc (by omega))
          go_wp2_with fail
          refine (cv2.out _ (by first | exact rxB.out.below (hbc.mono hsz) | exact (rxB.out.below (hbc.mono hsz)).drewN _) (by first | exact rpB.out.below (hbc.mono hsz) | exact (rpB.out.below (hbc.mono hsz)).drewN _) (by show v6.heap.size ≤ vC.heap.size; omega)).mono ?_
          rintro e vA ⟨rfl, hbA⟩
          have hbA : Below vC.heap.size vC vA := ⟨hbA.os, hbA.tape, hbA.output, hbA.size, hbA.block⟩
          have KXA := KXf.below hbA KXf.lt
          have K1A := K1f.below hbA K1f.lt
          have HBA := Lib.hid (below_step HBC.out hbA (by omega))
          clear u0 u1 u2 u3 u4 w0 w1 w2 w3 w4
          obtain ⟨w0, w1, w2, w3, w4⟩ := blk5c KXA
          obtain ⟨u0, u1, u2, u3, u4⟩ := blk5c K1A
          go_wp2_with fail
          go_ret
          exact ⟨by first | rfl | simp, HBA.out⟩)
    · have b3 : (dk == 3) = false := by rw [beq_eq_false_iff_ne]; exact h3
      by_cases h24 : dk = 2 ∨ dk = 4
      · have hturn : dk = 2 ∨ dk = 3 ∨ dk = 4 := by omega
        have hb : (dk == 2) = true ∨ ((dk == 2) = false ∧ (dk == 4) = true) := by
          rcases h24 with rfl | rfl
          · exact .inl rfl
          · exact .inr ⟨rfl, rfl⟩
        clear h24 h3
        by_cases htl : ts.length < 20
        · have htm : (m : Int) < 20 := by omega
          rcases hb with hb2 | ⟨hb2, hb4⟩
          · skip
            obtain rfl := F3.out hturn htl
            dsimp only at cd
            clear hturn
            go_wp2_with fail
            refine cd.out.mono ?_
            rintro e v7 ⟨v, rfl, ⟨A7, P7, n7, c7, m7, d7, rfl, o7, p7⟩, hb7⟩
            have y7 := hb7.size
            unfold benchV
            obtain ⟨v8, hv8⟩ : ∃ v8, v8 = v7.alloc (.cells #[.int .i64 k', .int .i64 x, .int .i64 y, .slice A7 n7 c7, .slice P7 m7 d7] 30) := ⟨_, rfl⟩
            go_upto_region 11 with (fail)
            rw [← hv8]
            have hb68 : Below v6.heap.size v6 v8 := by rw [hv8]; exact hb7.alloc y7 _
            have y68 : v6.heap.size ≤ v8.heap.size := hb68.size
            have KZ : Blk v8 v7.heap.size 30 #[.int .i64 k', .int .i64 x, .int .i64 y, .slice A7 n7 c7, .slice P7 m7 d7] := by rw [hv8]; exact Blk.new v7 _ _
            have K18 := K16.below hb68 K16.lt
            have K28 := K26.below hb68 K26.lt
            have KX8 := KX6.below hb68 KX6.lt
            have HB8 := Lib.hid (below_step HB6.out hb68 (by omega))
            have o8 : ORow v8 v6.heap.size 3 A7 n7 c7 (I64 E) := by rw [hv8]; exact o7.alloc _
            have p8 : ORow v8 v6.heap.size 9 P7 m7 d7 (Tx ts) := by rw [hv8]; exact p7.alloc _
            have l7 : E.length = n7 := by have := o8.len; rwa [I64_len] at this
            have l7' : ts.length = m7 := by have := p8.len; rwa [Tx_len] at this
            have cx := Lib.hid (laws_sameBench ⟨k', x, y, E, ts⟩ ⟨k', x, y, E, ts⟩ A7 A P7 P n7 c7 m7 d7 n c m d v8.heap.size v8 o8.rd p8.rd ((RX6.out.below (hb68.mono y16)).more (by omega)) ((RP6.out.below (hb68.mono y16)).more (by omega)) (Nat.le_refl _) (by omega) (by omega) (by omega) (by omega))
            rw [show decide ((⟨k', x, y, E, ts⟩ : Pl.Bn) = ⟨k', x, y, E, ts⟩) = true by simp] at cx
            unfold benchV at cx
            clear l7 l7' o8 p8
            clear hv8 o7 p7 hb7 w0 w1 w2 w3 w4 u0 u1 u2 u3 u4 q0 q1 q2 cd
            obtain ⟨w0, w1, w2, w3, w4⟩ := blk5c KX8
            obtain ⟨u0, u1, u2, u3, u4⟩ := blk5c K18
            obtain ⟨q0, q1, q2⟩ := blk3c K28
            obtain ⟨e0, e1, e2, e3, e4⟩ := blk5c KZ
            go_wp2_with fail
            refine cx.out.mono ?_
            rintro e v9 ⟨rfl, hb9⟩
            have y9 := hb9.size
            have hb69 : Below v6.heap.size v6 v9 := hb68.trans (hb9.mono y68)
            have HB9 := Lib.hid (below_step HB8.out hb9 (by omega))
            have K19 := K18.below hb9 K18.lt
            have K29 := K28.below hb9 K28.lt
            have KX9 := KX8.below hb9 KX8.lt
            clear w0 w1 w2 w3 w4 u0 u1 u2 u3 u4 q0 q1 q2 e0 e1 e2 e3 e4 cx hb9 hb68 K18 K28 KX8 KZ
            obtain ⟨w0, w1, w2, w3, w4⟩ := blk5c KX9
            obtain ⟨u0, u1, u2, u3, u4⟩ := blk5c K19
            obtain ⟨q0, q1, q2⟩ := blk3c K29
            go_wp2_with fail
            have a0 := True.intro
            clear u0 u1 u2 u3 u4 w0 w1 w2 w3 w4
            go_quiet (fail)
            have KXf := KX9.drewN nq
            have K1f := K19.drewN nq
            obtain ⟨w0, w1, w2, w3, w4⟩ := blk5c KXf
            obtain ⟨u0, u1, u2, u3, u4⟩ := blk5c K1f
            go_wp2_with fail
            refine (cv2.out _ ((rx6.out.below hb69).drewN nq) ((rp6.out.below hb69).drewN nq) hb69.size).mono ?_
            rintro e vA ⟨rfl, hbA⟩
            have KXA := KXf.below hbA KXf.lt
            have K1A := K1f.below hbA K1f.lt
            have HBA := Lib.hid (below_step (below_drewN HB9.out nq) hbA (by show w.heap.size ≤ v9.heap.size; omega))
            clear u0 u1 u2 u3 u4 w0 w1 w2 w3 w4
            obtain ⟨w0, w1, w2, w3, w4⟩ := blk5c KXA
            obtain ⟨u0, u1, u2, u3, u4⟩ := blk5c K1A
            go_wp2_with fail
            go_ret
            exact ⟨by first | rfl | simp, HBA.out⟩
          · skip
            obtain rfl := F3.out hturn htl
            dsimp only at cd
            clear hturn
            go_wp2_with fail
            refine cd.out.mono ?_
            rintro e v7 ⟨v, rfl, ⟨A7, P7, n7, c7, m7, d7, rfl, o7, p7⟩, hb7⟩
            have y7 := hb7.size
            unfold benchV
            obtain ⟨v8, hv8⟩ : ∃ v8, v8 = v7.alloc (.cells #[.int .i64 k', .int .i64 x, .int .i64 y, .slice A7 n7 c7, .slice P7 m7 d7] 30) := ⟨_, rfl⟩
            go_upto_region 11 with (fail)
            rw [← hv8]
            have hb68 : Below v6.heap.size v6 v8 := by rw [hv8]; exact hb7.alloc y7 _
            have y68 : v6.heap.size ≤ v8.heap.size := hb68.size
            have KZ : Blk v8 v7.heap.size 30 #[.int .i64 k', .int .i64 x, .int .i64 y, .slice A7 n7 c7, .slice P7 m7 d7] := by rw [hv8]; exact Blk.new v7 _ _
            have K18 := K16.below hb68 K16.lt
            have K28 := K26.below hb68 K26.lt
            have KX8 := KX6.below hb68 KX6.lt
            have HB8 := Lib.hid (below_step HB6.out hb68 (by omega))
            have o8 : ORow v8 v6.heap.size 3 A7 n7 c7 (I64 E) := by rw [hv8]; exact o7.alloc _
            have p8 : ORow v8 v6.heap.size 9 P7 m7 d7 (Tx ts) := by rw [hv8]; exact p7.alloc _
            have l7 : E.length = n7 := by have := o8.len; rwa [I64_len] at this
            have l7' : ts.length = m7 := by have := p8.len; rwa [Tx_len] at this
            have cx := Lib.hid (laws_sameBench ⟨k', x, y, E, ts⟩ ⟨k', x, y, E, ts⟩ A7 A P7 P n7 c7 m7 d7 n c m d v8.heap.size v8 o8.rd p8.rd ((RX6.out.below (hb68.mono y16)).more (by omega)) ((RP6.out.below (hb68.mono y16)).more (by omega)) (Nat.le_refl _) (by omega) (by omega) (by omega) (by omega))
            rw [show decide ((⟨k', x, y, E, ts⟩ : Pl.Bn) = ⟨k', x, y, E, ts⟩) = true by simp] at cx
            unfold benchV at cx
            clear l7 l7' o8 p8
            clear hv8 o7 p7 hb7 w0 w1 w2 w3 w4 u0 u1 u2 u3 u4 q0 q1 q2 cd
            obtain ⟨w0, w1, w2, w3, w4⟩ := blk5c KX8
            obtain ⟨u0, u1, u2, u3, u4⟩ := blk5c K18
            obtain ⟨q0, q1, q2⟩ := blk3c K28
            obtain ⟨e0, e1, e2, e3, e4⟩ := blk5c KZ
            go_wp2_with fail
            refine cx.out.mono ?_
            rintro e v9 ⟨rfl, hb9⟩
            have y9 := hb9.size
            have hb69 : Below v6.heap.size v6 v9 := hb68.trans (hb9.mono y68)
            have HB9 := Lib.hid (below_step HB8.out hb9 (by omega))
            have K19 := K18.below hb9 K18.lt
            have K29 := K28.below hb9 K28.lt
            have KX9 := KX8.below hb9 KX8.lt
            clear w0 w1 w2 w3 w4 u0 u1 u2 u3 u4 q0 q1 q2 e0 e1 e2 e3 e4 cx hb9 hb68 K18 K28 KX8 KZ
            obtain ⟨w0, w1, w2, w3, w4⟩ := blk5c KX9
            obtain ⟨u0, u1, u2, u3, u4⟩ := blk5c K19
            obtain ⟨q0, q1, q2⟩ := blk3c K29
            go_wp2_with fail
            have a0 := True.intro
            clear u0 u1 u2 u3 u4 w0 w1 w2 w3 w4
            go_quiet (fail)
            have KXf := KX9.drewN nq
            have K1f := K19.drewN nq
            obtain ⟨w0, w1, w2, w3, w4⟩ := blk5c KXf
            obtain ⟨u0, u1, u2, u3, u4⟩ := blk5c K1f
            go_wp2_with fail
            refine (cv2.out _ ((rx6.out.below hb69).drewN nq) ((rp6.out.below hb69).drewN nq) hb69.size).mono ?_
            rintro e vA ⟨rfl, hbA⟩
            have KXA := KXf.below hbA KXf.lt
            have K1A := K1f.below hbA K1f.lt
            have HBA := Lib.hid (below_step (below_drewN HB9.out nq) hbA (by show w.heap.size ≤ v9.heap.size; omega))
            clear u0 u1 u2 u3 u4 w0 w1 w2 w3 w4
            obtain ⟨w0, w1, w2, w3, w4⟩ := blk5c KXA
            obtain ⟨u0, u1, u2, u3, u4⟩ := blk5c K1A
            go_wp2_with fail
            go_ret
            exact ⟨by first | rfl | simp, HBA.out⟩
        · have htm : ¬ (m : Int) < 20 := by omega
          rcases hb with hb2 | ⟨hb2, hb4⟩
          · skip
            clear hturn
            go_wp2_with fail
            refine cd.out.mono ?_
            rintro e v7 ⟨v, rfl, ⟨A7, P7, n7, c7, m7, d7, rfl, o7, p7⟩, hb7⟩
            have y7 := hb7.size
            unfold benchV
            obtain ⟨v8, hv8⟩ : ∃ v8, v8 = v7.alloc (.cells #[.int .i64 r5.1.k, .int .i64 r5.1.x, .int .i64 r5.1.y, .slice A7 n7 c7, .slice P7 m7 d7] 30) := ⟨_, rfl⟩
            go_upto_region 11 with (fail)
            rw [← hv8]
            have hb68 : Below v6.heap.size v6 v8 := by rw [hv8]; exact hb7.alloc y7 _
            have y68 : v6.heap.size ≤ v8.heap.size := hb68.size
            have KZ : Blk v8 v7.heap.size 30 #[.int .i64 r5.1.k, .int .i64 r5.1.x, .int .i64 r5.1.y, .slice A7 n7 c7, .slice P7 m7 d7] := by rw [hv8]; exact Blk.new v7 _ _
            have K18 := K16.below hb68 K16.lt
            have K28 := K26.below hb68 K26.lt
            have KX8 := KX6.below hb68 KX6.lt
            have HB8 := Lib.hid (below_step HB6.out hb68 (by omega))
            clear hv8 o7 p7 hb7 w0 w1 w2 w3 w4 u0 u1 u2 u3 u4 q0 q1 q2 cd
            obtain ⟨w0, w1, w2, w3, w4⟩ := blk5c KX8
            obtain ⟨u0, u1, u2, u3, u4⟩ := blk5c K18
            obtain ⟨q0, q1, q2⟩ := blk3c K28
            obtain ⟨e0, e1, e2, e3, e4⟩ := blk5c KZ
            go_wp2_with fail
            have a0 := True.intro
            clear u0 u1 u2 u3 u4 w0 w1 w2 w3 w4
            go_quiet (fail)
            have KXf := KX8.drewN nq
            have K1f := K18.drewN nq
            obtain ⟨w0, w1, w2, w3, w4⟩ := blk5c KXf
            obtain ⟨u0, u1, u2, u3, u4⟩ := blk5c K1f
            go_wp2_with fail
            refine (cv2.out _ ((rx6.out.below hb68).drewN nq) ((rp6.out.below hb68).drewN nq) hb68.size).mono ?_
            rintro e vA ⟨rfl, hbA⟩
            have KXA := KXf.below hbA KXf.lt
            have K1A := K1f.below hbA K1f.lt
            have HBA := Lib.hid (below_step (below_drewN HB8.out nq) hbA (by show w.heap.size ≤ v8.heap.size; omega))
            clear u0 u1 u2 u3 u4 w0 w1 w2 w3 w4
            obtain ⟨w0, w1, w2, w3, w4⟩ := blk5c KXA
            obtain ⟨u0, u1, u2, u3, u4⟩ := blk5c K1A
            go_wp2_with fail
            go_ret
            exact ⟨by first | rfl | simp, HBA.out⟩
          · skip
            clear hturn
            go_wp2_with fail
            refine cd.out.mono ?_
            rintro e v7 ⟨v, rfl, ⟨A7, P7, n7, c7, m7, d7, rfl, o7, p7⟩, hb7⟩
            have y7 := hb7.size
            unfold benchV
            obtain ⟨v8, hv8⟩ : ∃ v8, v8 = v7.alloc (.cells #[.int .i64 r5.1.k, .int .i64 r5.1.x, .int .i64 r5.1.y, .slice A7 n7 c7, .slice P7 m7 d7] 30) := ⟨_, rfl⟩
            go_upto_region 11 with (fail)
            rw [← hv8]
            have hb68 : Below v6.heap.size v6 v8 := by rw [hv8]; exact hb7.alloc y7 _
            have y68 : v6.heap.size ≤ v8.heap.size := hb68.size
            have KZ : Blk v8 v7.heap.size 30 #[.int .i64 r5.1.k, .int .i64 r5.1.x, .int .i64 r5.1.y, .slice A7 n7 c7, .slice P7 m7 d7] := by rw [hv8]; exact Blk.new v7 _ _
            have K18 := K16.below hb68 K16.lt
            have K28 := K26.below hb68 K26.lt
            have KX8 := KX6.below hb68 KX6.lt
            have HB8 := Lib.hid (below_step HB6.out hb68 (by omega))
            clear hv8 o7 p7 hb7 w0 w1 w2 w3 w4 u0 u1 u2 u3 u4 q0 q1 q2 cd
            obtain ⟨w0, w1, w2, w3, w4⟩ := blk5c KX8
            obtain ⟨u0, u1, u2, u3, u4⟩ := blk5c K18
            obtain ⟨q0, q1, q2⟩ := blk3c K28
            obtain ⟨e0, e1, e2, e3, e4⟩ := blk5c KZ
            go_wp2_with fail
            have a0 := True.intro
            clear u0 u1 u2 u3 u4 w0 w1 w2 w3 w4
            go_quiet (fail)
            have KXf := KX8.drewN nq
            have K1f := K18.drewN nq
            obtain ⟨w0, w1, w2, w3, w4⟩ := blk5c KXf
            obtain ⟨u0, u1, u2, u3, u4⟩ := blk5c K1f
            go_wp2_with fail
            refine (cv2.out _ ((rx6.out.below hb68).drewN nq) ((rp6.out.below hb68).drewN nq) hb68.size).mono ?_
            rintro e vA ⟨rfl, hbA⟩
            have KXA := KXf.below hbA KXf.lt
            have K1A := K1f.below hbA K1f.lt
            have HBA := Lib.hid (below_step (below_drewN HB8.out nq) hbA (by show w.heap.size ≤ v8.heap.size; omega))
            clear u0 u1 u2 u3 u4 w0 w1 w2 w3 w4
            obtain ⟨w0, w1, w2, w3, w4⟩ := blk5c KXA
            obtain ⟨u0, u1, u2, u3, u4⟩ := blk5c K1A
            go_wp2_with fail
            go_ret
            exact ⟨by first | rfl | simp, HBA.out⟩
      · have hb2 : (dk == 2) = false := by rw [beq_eq_false_iff_ne]; exact fun h => h24 (.inl h)
        have hb4 : (dk == 4) = false := by rw [beq_eq_false_iff_ne]; exact fun h => h24 (.inr h)
        have hturn := True.intro
        clear h24 h3
        clear hturn
        go_wp2_with fail
        refine cd.out.mono ?_
        rintro e v7 ⟨v, rfl, ⟨A7, P7, n7, c7, m7, d7, rfl, o7, p7⟩, hb7⟩
        have y7 := hb7.size
        unfold benchV
        obtain ⟨v8, hv8⟩ : ∃ v8, v8 = v7.alloc (.cells #[.int .i64 r5.1.k, .int .i64 r5.1.x, .int .i64 r5.1.y, .slice A7 n7 c7, .slice P7 m7 d7] 30) := ⟨_, rfl⟩
        go_upto_region 11 with (fail)
        rw [← hv8]
        have hb68 : Below v6.heap.size v6 v8 := by rw [hv8]; exact hb7.alloc y7 _
        have y68 : v6.heap.size ≤ v8.heap.size := hb68.size
        have KZ : Blk v8 v7.heap.size 30 #[.int .i64 r5.1.k, .int .i64 r5.1.x, .int .i64 r5.1.y, .slice A7 n7 c7, .slice P7 m7 d7] := by rw [hv8]; exact Blk.new v7 _ _
        have K18 := K16.below hb68 K16.lt
        have K28 := K26.below hb68 K26.lt
        have KX8 := KX6.below hb68 KX6.lt
        have HB8 := Lib.hid (below_step HB6.out hb68 (by omega))
        clear hv8 o7 p7 hb7 w0 w1 w2 w3 w4 u0 u1 u2 u3 u4 q0 q1 q2 cd
        obtain ⟨w0, w1, w2, w3, w4⟩ := blk5c KX8
        obtain ⟨u0, u1, u2, u3, u4⟩ := blk5c K18
        obtain ⟨q0, q1, q2⟩ := blk3c K28
        obtain ⟨e0, e1, e2, e3, e4⟩ := blk5c KZ
        go_wp2_with fail
        have a0 := True.intro
        clear u0 u1 u2 u3 u4 w0 w1 w2 w3 w4
        go_quiet (fail)
        have KXf := KX8.drewN nq
        have K1f := K18.drewN nq
        obtain ⟨w0, w1, w2, w3, w4⟩ := blk5c KXf
        obtain ⟨u0, u1, u2, u3, u4⟩ := blk5c K1f
        go_wp2_with fail
        refine (cv2.out _ ((rx6.out.below hb68).drewN nq) ((rp6.out.below hb68).drewN nq) hb68.size).mono ?_
        rintro e vA ⟨rfl, hbA⟩
        have KXA := KXf.below hbA KXf.lt
        have K1A := K1f.below hbA K1f.lt
        have HBA := Lib.hid (below_step (below_drewN HB8.out nq) hbA (by show w.heap.size ≤ v8.heap.size; omega))
        clear u0 u1 u2 u3 u4 w0 w1 w2 w3 w4
        obtain ⟨w0, w1, w2, w3, w4⟩ := blk5c KXA
        obtain ⟨u0, u1, u2, u3, u4⟩ := blk5c K1A
        go_wp2_with fail
        go_ret
        exact ⟨by first | rfl | simp, HBA.out⟩
end Go.Proofs.YtfnolajhhdnpoaaGreat
