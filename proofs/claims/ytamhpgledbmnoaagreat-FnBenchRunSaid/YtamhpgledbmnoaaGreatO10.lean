/-
  The reference's BenchRun.
  Conditions: as stated.
-/
import Derived.Test.YtamhpgledbmnoaaGreatDr
import Derived.Test.YtamhpgledbmnoaaGreatM4
import Derived.Test.YtamhpgledbmnoaaGreatO5
import Derived.Deep.DeepMust
namespace Go.Proofs.YtamhpgledbmnoaaGreat
set_option linter.unusedVariables false
set_option linter.unusedSimpArgs false
open Go.RowKit
set_option maxRecDepth 100000 in
set_option maxHeartbeats 8000000 in
theorem spec_BenchRun (b : Pl.Bn) (ds : List Pl.Dd) (A P L : Option Addr) (n c m d l lc B : Nat) (w : World) (hx : Rd w B A n (I64 b.e)) (hp : Rd w B P m (Tx b.past)) (hl : RdD w B L l ds) (hB : B ≤ w.heap.size) (hn : n ≤ 2000000) (hm : m ≤ 2000000) (hll : l ≤ 2000000) (hnc : n ≤ c) (hs : ∀ s ∈ b.past, s.length ≤ 2000000) (ht : ∀ D ∈ ds, D.t.length ≤ 2000000) :
    Calls Tryz.prog 17 #[benchV b.k b.x b.y A n c P m d, .slice L l lc] w fun e w' => ∃ v, e = .returned (.tuple #[v, .int .i64 ((Pl.runB b ds).2 : Nat)]) ∧ BnO w' w.heap.size v (Pl.runB b ds).1 ∧ Below w.heap.size w w' := by
  obtain ⟨k, x, y, E, ts⟩ := b
  have lx : E.length = n := by have := hx.len; rwa [I64_len] at this
  have lp : ts.length = m := by have := hp.len; rwa [Tx_len] at this
  have ll : ds.length = l := hl.1
  have HX := Lib.hid hx
  have HP := Lib.hid hp
  have HL := Lib.hid hl
  obtain ⟨g, hg⟩ : ∃ g, w.heap.size = g := ⟨_, rfl⟩
  have hBg : B ≤ g := by omega
  obtain ⟨w0, hw0⟩ : ∃ w0, w0 = (w.alloc (.cells #[.int .i64 k, .int .i64 x, .int .i64 y, .slice A n c, .slice P m d] 30)).alloc (.cells #[.int .i64 0, .int .i64 0, .int .i64 0, .slice none 0 0, .slice none 0 0] 30) := ⟨_, rfl⟩
  have hz0 : w0.heap.size = g + 2 := by rw [hw0, ← hg]; simp
  have HB0 : Below g w w0 := by rw [hw0, ← hg]; go_grown
  have K0 : Blk w0 g 30 #[.int .i64 k, .int .i64 x, .int .i64 y, .slice A n c, .slice P m d] := by rw [hw0, ← hg]; exact (Blk.new w _ _).alloc _
  have K1 : Blk w0 (g + 1) 30 #[.int .i64 0, .int .i64 0, .int .i64 0, .slice none 0 0, .slice none 0 0] := by
    rw [hw0, ← hg]
    have := (Blk.new (w.alloc (.cells #[.int .i64 k, .int .i64 x, .int .i64 y, .slice A n c, .slice P m d] 30)) 30 #[.int .i64 0, .int .i64 0, .int .i64 0, .slice none 0 0, .slice none 0 0])
    rw [World.size_alloc] at this
    exact this
  have CV := Lib.hid (fun w' h h' hB' => spec_BenchValid ⟨k, x, y, E, ts⟩ A P n c m d B w' h h' hB' (by omega) (by omega) (fun s h => by have := hs s h; omega))
  have HT := Lib.hid ht
  have HLL := Lib.hid ll
  unfold benchV
  clear hx hp hs ht hl ll
  go_enter Tryz.func17, Tryz.ntmps17
  go_wp2_with (with_reducible refine AtEnd.of ?_)
  rw [← hw0]
  clear hw0
  refine (CV.out _ (HX.out.below (HB0.mono hBg)) (HP.out.below (HB0.mono hBg)) (by omega)).mono ?_
  rintro e w1 ⟨rfl, hb1⟩
  have hz1 := hb1.size
  have HB1 := HB0.trans (hb1.mono (by omega))
  have K0 := K0.below hb1 (by omega)
  have K1 := K1.below hb1 (by omega)
  clear hb1 HB0 CV
  obtain ⟨b0, hb0⟩ : ∃ b0, b0 = (⟨k, x, y, E, ts⟩ : Pl.Bn) := ⟨_, rfl⟩
  have HBB := Lib.hid hb0
  rw [← hb0]
  cases hv : Pl.benchValid b0
  · have hr := Lib.hid (Pl.runB_f ds hv)
    clear hv hb0
    obtain ⟨g0, g1, g2, g3, g4⟩ := cells5 K1
    have e0 : w1.frozen? ⟨g + 1, 0, none⟩ = false := K1.frozen 0
    have e1 : w1.frozen? ⟨g + 1, 1, none⟩ = false := K1.frozen 1
    have e2 : w1.frozen? ⟨g + 1, 2, none⟩ = false := K1.frozen 2
    have e3 : w1.frozen? ⟨g + 1, 3, none⟩ = false := K1.frozen 3
    have e4 : w1.frozen? ⟨g + 1, 4, none⟩ = false := K1.frozen 4
    have KF := put5_blk (v0 := .int .i64 0) (v1 := .int .i64 0) (v2 := .int .i64 0) (v3 := .slice none 0 0) (v4 := .slice none 0 0) K1
    have HBF := put5_below (v0 := .int .i64 0) (v1 := .int .i64 0) (v2 := .int .i64 0) (v3 := .slice none 0 0) (v4 := .slice none 0 0) HB1 (show g ≤ g + 1 by omega)
    go_wp2_with (with_reducible refine AtEnd.of ?_)
    refine atEnd_ret (results_cell_tmp Tryz.results17 rfl (load_bench KF) rfl) rfl ?_
    rw [← HBB.out, hr.out]
    exact ⟨_, rfl, ⟨none, none, 0, 0, 0, 0, rfl, ⟨rfl, Nat.le_refl _, by simp [maxLen], .inl ⟨rfl, rfl⟩⟩, ⟨rfl, Nat.le_refl _, by simp [maxLen], .inl ⟨rfl, rfl⟩⟩⟩, by first | exact HBF | (rw [hg]; exact HBF)⟩
  by_cases hl40 : l ≤ 40
  · have h40 : ¬ (40 : Int) < (l : Int) := by omega
    have HV := Lib.hid hv
    rw [hb0] at hv
    obtain ⟨z1, z2, z3, z4⟩ := Pl.bv_size hv
    have z1 : 1 ≤ E.length := z1
    have z2 : E.length ≤ 24 := z2
    have z3 : ts.length ≤ 20 := z3
    have CC := Lib.hid (fun w' h h' hB' => spec_l10Copy ⟨k, x, y, E, ts⟩ A P n c m d B w' h h' hB' (by omega) (by omega))
    clear hv hb0 z4
    obtain ⟨a0, a1, a2, a3, a4⟩ := cells5 K0
    go_wp2_with (with_reducible refine AtEnd.of ?_)
    refine (CC.out _ (HX.out.below (HB1.mono hBg)) (HP.out.below (HB1.mono hBg)) (by omega)).mono ?_
    rintro e w2 ⟨v, rfl, ⟨A1, P1, n1, c1, m1, d1, rfl, o1, p1⟩, hb2⟩
    have hz2 := hb2.size
    have HB2 := HB1.trans (hb2.mono (by omega))
    have K1 := K1.below hb2 (by omega)
    clear a0 a1 a2 a3 a4 K0 HB1 CC
    unfold benchV
    obtain ⟨G, hG⟩ : ∃ G, w2.heap.size = G := ⟨_, rfl⟩
    obtain ⟨w3, hw3⟩ : ∃ w3, w3 = w2.alloc (.cells #[.int .i64 k, .int .i64 x, .int .i64 y, .slice A1 n1 c1, .slice P1 m1 d1] 30) := ⟨_, rfl⟩
    have hz3 : w3.heap.size = G + 1 := by rw [hw3, ← hG]; simp
    have HB3 : Below g w w3 := by rw [hw3]; exact HB2.alloc (by omega) _
    have K1 : Blk w3 (g + 1) 30 #[.int .i64 0, .int .i64 0, .int .i64 0, .slice none 0 0, .slice none 0 0] := by rw [hw3]; exact K1.alloc _
    have KX : Blk w3 G 30 #[.int .i64 k, .int .i64 x, .int .i64 y, .slice A1 n1 c1, .slice P1 m1 d1] := by rw [hw3, ← hG]; exact Blk.new w2 _ _
    have o3 : ORow w3 (g + 2) 3 A1 n1 c1 (I64 E) := by rw [hw3]; exact (o1.alloc _).mono (by omega)
    have p3 : ORow w3 (g + 2) 9 P1 m1 d1 (Tx ts) := by rw [hw3]; exact (p1.alloc _).mono (by omega)
    have hGg : g + 2 ≤ G := by omega
    go_upto_region 4 with (fail)
    rw [← hw3]
    clear hw3 o1 p1 hb2 HB2 hz1 hz2 hz0 hG
    go_wp2_with (with_reducible refine AtEnd.of ?_)
    go_loopw [7, 8] (fun dn i wr => ∃ (j q : Nat) (A P : Option Addr) (n c m d : Nat) (k x y : Int) (E : List Int) (ts : List (List UInt8)), j ≤ l ∧ i = .int .i64 j ∧ dn = .int .i64 q ∧ q ≤ j ∧ Hid (Pl.runD b0 (ds.take j) = (⟨k, x, y, E, ts⟩, q)) ∧ Blk wr G 30 #[.int .i64 k, .int .i64 x, .int .i64 y, .slice A n c, .slice P m d] ∧ Blk wr (g + 1) 30 #[.int .i64 0, .int .i64 0, .int .i64 0, .slice none 0 0, .slice none 0 0] ∧ ORow wr (g + 2) 3 A n c (I64 E) ∧ ORow wr (g + 2) 9 P m d (Tx ts) ∧ Hid (Below g w wr)) (fun _ i _ => l - (intOf i).toNat)
    case atStart => exact ⟨0, 0, A1, P1, n1, c1, m1, d1, k, x, y, E, ts, by omega, rfl, rfl, by omega, Lib.hid (by rw [HBB.out]; rfl), KX, K1, o3, p3, Lib.hid HB3⟩
    case round =>
      clear KX K1 o3 p3 HB3 hz3
      obtain ⟨j, q, A, P, n, c, m, d, k, x, y, E, ts, hj, rfl, rfl, hqj, HR, KX, K1, o3, p3, HB3⟩ := hrel
      have ln : E.length = n := by have := o3.len; rwa [I64_len] at this
      have lm : ts.length = m := by have := p3.len; rwa [Tx_len] at this
      have hGl := KX.lt
      by_cases hlt : j < l
      · obtain ⟨⟨dk, dn, t⟩, ex⟩ : ∃ D, ds[j]? = some D := ⟨_, List.getElem?_eq_getElem (by have := HLL.out; omega)⟩
        obtain ⟨bb, off, rfl, hbl, hc⟩ := HL.out.pos (by omega)
        obtain ⟨u1, u2, u3⟩ := hc j _ ex
        have hbg : bb < g := by omega
        have c1 : wr.cell? ⟨bb, off + j * 3, none⟩ = some (.int .i64 dk) := (HB3.out.cell (p := ⟨bb, off + j * 3, none⟩) hbg).trans u1
        have c2 : wr.cell? ⟨bb, off + j * 3 + 1, none⟩ = some (.int .i64 dn) := (HB3.out.cell (p := ⟨bb, off + j * 3 + 1, none⟩) hbg).trans u2
        have c3 : wr.cell? ⟨bb, off + j * 3 + 2, none⟩ = some (.string (Ba t)) := (HB3.out.cell (p := ⟨bb, off + j * 3 + 2, none⟩) hbg).trans u3
        have htl : t.length ≤ 2000000 := HT.out _ (List.mem_of_getElem? ex)
        have EX := Lib.hid ex
        have hv' := Pl.runD_v HV.out HR.out
        obtain ⟨z1, z2, z3, z4⟩ := Pl.bv_size hv'
        have z1 : 1 ≤ E.length := z1
        have z2 : E.length ≤ 24 := z2
        have z3 : ts.length ≤ 20 := z3
        have HZ4 := Lib.hid z4
        have hnc1 := o3.cap
        have hin : (j : Int) < (l : Int) := by omega
        have hj0 : (0 : Int) ≤ j := by omega
        have CD := Lib.hid (fun w' h h' hB => spec_BenchDo ⟨k, x, y, E, ts⟩ ⟨dk, dn, t⟩ A P n c m d wr.heap.size w' h h' hB (by omega) (by omega) hnc1 (fun s hs => by have := HZ4.out s hs; omega) htl)
        have HRS := Lib.hid (fun b2 ok hs => Pl.runD_step (b2 := b2) (ok := ok) HR.out EX.out hs)
        obtain ⟨r, hr⟩ : ∃ r, Pl.doB ⟨k, x, y, E, ts⟩ ⟨dk, dn, t⟩ = r := ⟨_, rfl⟩
        have HRR := Lib.hid hr
        have HSM := Lib.hid (fun h => Pl.doB_same (d := ⟨dk, dn, t⟩) hv' h)
        rw [hr] at CD HSM
        obtain ⟨⟨k', x', y', E', ts'⟩, ok⟩ := r
        have HN := Lib.hid (HRS.out _ _ HRR.out)
        dsimp only at CD
        have hKX := Lib.hid KX
        have hK1 := Lib.hid K1
        have hO := Lib.hid o3
        have hP := Lib.hid p3
        have RO := Lib.hid o3.rd
        have RP := Lib.hid p3.rd
        clear u1 u2 u3 hc ex z4 hr KX K1 o3 p3 hv' HRS HRR HR
        go_upto_region 8 with (fail)
        go_cut [9, 10] from 43 (fun s9 s10 wx => BAt wr.heap.size wx s9 ⟨k', x', y', E', ts'⟩ ∧ s10 = .bool ok ∧ Below wr.heap.size wr wx)
        case first =>
          obtain ⟨a0, a1, a2, a3, a4⟩ := cells5 hKX.out
          have t1 : bb < wr.heap.size := by have := HB3.out.size; omega
          have t2 : G ≠ wr.heap.size := by omega
          have t3 : bb ≠ wr.heap.size := by omega
          go_region_held3 (fun w' => ∀ (b o : Nat), b < wr.heap.size → w'.cell? ⟨b, o, none⟩ = wr.cell? ⟨b, o, none⟩) (first | (with_reducible exact same_drew0) | (with_reducible refine same_alloc_d same_refl0 ?_; first | exact Nat.le_refl _ | omega | (simp; omega)) | (with_reducible exact same_refl0) | (with_reducible exact (bcell hbc).1) | (with_reducible refine same_alloc (bcell hbc).1 ?_; first | exact Nat.le_refl _ | omega | (simp; omega)) | (with_reducible refine same_put5 (bcell hbc).1 ?_; first | exact Nat.le_refl _ | omega | (simp; omega)) | (with_reducible refine same_alloc (by assumption) ?_; first | exact Nat.le_refl _ | omega | (simp; omega)) | (with_reducible refine same_put5 (by assumption) ?_; first | exact Nat.le_refl _ | omega | (simp; omega)))
            ((go_at_call 8; go_must (refine (CD.out _ (by first | exact RO.out | exact RO.out.alloc (by first | exact Nat.le_refl _ | omega | (simp; done) | (simp; omega)) _ | exact (RO.out.drew).alloc (by first | exact Nat.le_refl _ | omega | (simp; done) | (simp; omega)) _ | exact RO.out.drew | exact (RO.out.alloc (by first | exact Nat.le_refl _ | omega | (simp; done) | (simp; omega)) _).drew) (by first | exact RP.out | exact RP.out.alloc (by first | exact Nat.le_refl _ | omega | (simp; done) | (simp; omega)) _ | exact (RP.out.drew).alloc (by first | exact Nat.le_refl _ | omega | (simp; done) | (simp; omega)) _ | exact RP.out.drew | exact (RP.out.alloc (by first | exact Nat.le_refl _ | omega | (simp; done) | (simp; omega)) _).drew) (by first | exact Nat.le_refl _ | omega | (simp; done) | (simp; omega))).mono ?_; rintro e w5 ⟨v, rfl, ⟨A5, P5, n5, c5, m5, d5, rfl, o5, p5⟩, hb5⟩; have HB5 : Hid (Below wr.heap.size wr w5) := Lib.hid (by first | exact hb5 | exact below_a1x hb5 | exact below_dx hb5 | exact below_a1x (below_dx hb5) | exact below_dx (below_a1x hb5)); have HH5 := Lib.hid hb5; have zz5 := HB5.out.size; have zz5' := hb5.size; (try simp only [World.size_alloc, World.size_drew] at zz5'); have O5 := Lib.hid (o5.mono (show wr.heap.size ≤ _ by first | exact Nat.le_refl _ | omega | (simp; done) | (simp; omega))); have P5' := Lib.hid (p5.mono (show wr.heap.size ≤ _ by first | exact Nat.le_refl _ | omega | (simp; done) | (simp; omega))); have hbf5 := (bcell hb5).2; have hbc5 := (bcell hb5).1; (try have t15 : wr.heap.size < w5.heap.size := (by omega)); have hbc := HB5.out; unfold benchV; clear o5 p5 hb5)))
          all_goals go_wp2_with fail
          all_goals go_meet
          all_goals first
            | (with_reducible exact ⟨bat_a O5.out P5'.out HB5.out.size, rfl, HB5.out.alloc HB5.out.size _⟩)
            | (with_reducible refine bat_c ?_ ?_ O5.out P5'.out HB5.out rfl ?_)
          all_goals repeat' (first
            | (with_reducible refine Blk.newx ?_)
            | (with_reducible refine Blk.alloc ?_ _)
            | (with_reducible refine Blk.drew ?_)
            | (with_reducible refine Blk.below ?_ HH5.out ?_)
            | omega
            | (simp; done)
            | (simp; omega)
            | rfl)
        case rest =>
          obtain ⟨w7, rfl⟩ : ∃ w7, w7 = wc := ⟨_, rfl⟩
          obtain ⟨⟨X, A7, P7, n7, c7, m7, d7, rfl, hX, KZ, o7, p7⟩, rfl, hbc⟩ := hcut
          have hzc := hbc.size
          have hz3 := HB3.out.size
          have KX7 := hKX.out.below hbc hGl
          have K17 := hK1.out.below hbc (by omega)
          have o37 := hO.out.below hbc
          have p37 := hP.out.below hbc
          have HB7 := Lib.hid (HB3.out.trans (hbc.mono (by omega)))
          clear hbc hKX hK1 hO hP RO RP CD c1 c2 c3
          cases ok
          · have hsame : (⟨k', x', y', E', ts'⟩ : Pl.Bn) = ⟨k, x, y, E, ts⟩ := HSM.out rfl
            have HN1 := Lib.hid (show Pl.runD b0 (ds.take (j + 1)) = (⟨k, x, y, E, ts⟩, q) by rw [HN.out, hsame]; rfl)
            clear hsame HSM HN
            go_wp2_with (with_reducible refine AtEnd.of ?_)
            go_roundw
            case rel => exact ⟨j + 1, q, A, P, n, c, m, d, k, x, y, E, ts, by omega, by go_num, rfl, by omega, HN1, KX7, K17, o37, p37, HB7⟩
            case measure => first | (simp [intOf]; done) | (simp [intOf]; omega)
          · obtain ⟨a0, a1, a2, a3, a4⟩ := cells5 KZ
            obtain ⟨b0', b1, b2, b3, b4⟩ := cells5 KX7
            have f0 := KX7.frozen 0
            have f1 := KX7.frozen 1
            have f2 := KX7.frozen 2
            have f3 := KX7.frozen 3
            have f4 := KX7.frozen 4
            have hKX := Lib.hid KX7
            have hK1 := Lib.hid K17
            have hO := Lib.hid (o7.mono (show g + 2 ≤ wr.heap.size by omega))
            have hP := Lib.hid (p7.mono (show g + 2 ≤ wr.heap.size by omega))
            clear KX7 K17 o7 p7 KZ HSM o37 p37
            go_wp2_with (with_reducible refine AtEnd.of ?_)
            go_roundw
            case rel => exact ⟨j + 1, q + 1, A7, P7, n7, c7, m7, d7, k', x', y', E', ts', by omega, by go_num, by go_num, by omega, Lib.hid HN.out, put5_blk hKX.out, put5_far (by omega) hK1.out, put5_orow_nex hO.out hKX.out (by decide), put5_orow_nex hP.out hKX.out (by decide), Lib.hid (put5_below HB7.out (by omega))⟩
            case measure => first | (simp [intOf]; done) | (simp [intOf]; omega)
      · obtain rfl : j = l := by omega
        have hE := Lib.hid (Pl.runB_end HV.out HLL.out hl40 HR.out)
        obtain ⟨a0, a1, a2, a3, a4⟩ := cells5 KX
        obtain ⟨g0, g1, g2, g3, g4⟩ := cells5 K1
        have e0 : wr.frozen? ⟨g + 1, 0, none⟩ = false := K1.frozen 0
        have e1 : wr.frozen? ⟨g + 1, 1, none⟩ = false := K1.frozen 1
        have e2 : wr.frozen? ⟨g + 1, 2, none⟩ = false := K1.frozen 2
        have e3 : wr.frozen? ⟨g + 1, 3, none⟩ = false := K1.frozen 3
        have e4 : wr.frozen? ⟨g + 1, 4, none⟩ = false := K1.frozen 4
        have KF := put5_blk (v0 := .int .i64 k) (v1 := .int .i64 x) (v2 := .int .i64 y) (v3 := .slice A n c) (v4 := .slice P m d) K1
        have oF := put5_orow (r := g + 1) (v0 := .int .i64 k) (v1 := .int .i64 x) (v2 := .int .i64 y) (v3 := .slice A n c) (v4 := .slice P m d) o3 (by omega)
        have pF := put5_orow (r := g + 1) (v0 := .int .i64 k) (v1 := .int .i64 x) (v2 := .int .i64 y) (v3 := .slice A n c) (v4 := .slice P m d) p3 (by omega)
        have HBF := put5_below (v0 := .int .i64 k) (v1 := .int .i64 x) (v2 := .int .i64 y) (v3 := .slice A n c) (v4 := .slice P m d) HB3.out (show g ≤ g + 1 by omega)
        clear K1 KX o3 p3 HR
        go_wp2_with (with_reducible refine AtEnd.of ?_)
        refine atEnd_ret (results_cell_tmp Tryz.results17 rfl (load_bench KF) rfl) rfl ?_
        rw [← HBB.out, hE.out]
        exact ⟨_, rfl, ⟨A, P, n, c, m, d, rfl, oF.mono (by omega), pF.mono (by omega)⟩, by first | exact HBF | (rw [hg]; exact HBF)⟩
  · have h40 : (40 : Int) < (l : Int) := by omega
    have hr := Lib.hid (Pl.runB_l (b := b0) (ds := ds) (by have := HLL.out; omega))
    clear hv hb0
    obtain ⟨g0, g1, g2, g3, g4⟩ := cells5 K1
    have e0 : w1.frozen? ⟨g + 1, 0, none⟩ = false := K1.frozen 0
    have e1 : w1.frozen? ⟨g + 1, 1, none⟩ = false := K1.frozen 1
    have e2 : w1.frozen? ⟨g + 1, 2, none⟩ = false := K1.frozen 2
    have e3 : w1.frozen? ⟨g + 1, 3, none⟩ = false := K1.frozen 3
    have e4 : w1.frozen? ⟨g + 1, 4, none⟩ = false := K1.frozen 4
    have KF := put5_blk (v0 := .int .i64 0) (v1 := .int .i64 0) (v2 := .int .i64 0) (v3 := .slice none 0 0) (v4 := .slice none 0 0) K1
    have HBF := put5_below (v0 := .int .i64 0) (v1 := .int .i64 0) (v2 := .int .i64 0) (v3 := .slice none 0 0) (v4 := .slice none 0 0) HB1 (show g ≤ g + 1 by omega)
    go_wp2_with (with_reducible refine AtEnd.of ?_)
    refine atEnd_ret (results_cell_tmp Tryz.results17 rfl (load_bench KF) rfl) rfl ?_
    rw [← HBB.out, hr.out]
    exact ⟨_, rfl, ⟨none, none, 0, 0, 0, 0, rfl, ⟨rfl, Nat.le_refl _, by simp [maxLen], .inl ⟨rfl, rfl⟩⟩, ⟨rfl, Nat.le_refl _, by simp [maxLen], .inl ⟨rfl, rfl⟩⟩⟩, by first | exact HBF | (rw [hg]; exact HBF)⟩
end Go.Proofs.YtamhpgledbmnoaaGreat
