/-
  The drawn benches (l20Bench): small, often valid.
  Conditions: none but those of the model.
-/
import Derived.Test.YtamhpgledbmnoaaGreatDoorD13
import Derived.Test.YtamhpgledbmnoaaGreatDoorO5
namespace Go.Proofs.YtamhpgledbmnoaaGreatDoor
set_option linter.unusedVariables false
set_option linter.unusedSimpArgs false
open Go.RowKit
/-- A small bench. -/
def Small (b : Pl.Bn) : Prop := 0 ≤ b.k ∧ b.k ≤ 12 ∧ b.e.length ≤ 24 ∧ b.past.length ≤ 21 ∧ ∀ s ∈ b.past, s.length ≤ 70
def newB (k : Int) : Pl.Bn := ⟨newW k, 0, 0, newE k, []⟩
theorem newW_in (k : Int) : 0 ≤ newW k ∧ newW k ≤ 12 := by unfold newW; split <;> omega
theorem newE_le (k : Int) : (newE k).length ≤ 24 := by unfold newE; split <;> simp
theorem small_new (k : Int) : Small (newB k) := ⟨(newW_in k).1, (newW_in k).2, newE_le k, by simp [newB], fun s hs => by cases hs⟩
theorem small_do {b : Pl.Bn} {d : Pl.Dd} (h : (Pl.doB b d).2 = true) : Small (Pl.doB b d).1 ∧ Pl.benchValid (Pl.doB b d).1 = true ∧ (Pl.doB b d).1.past.length ≤ 20 := by
  obtain ⟨hv, b', hs, hd⟩ := Pl.doB_ok h
  rw [hd]
  obtain ⟨hv', hk⟩ := Pl.stepB_valid hv hs
  obtain ⟨h1, h2, h3, h4⟩ := Pl.bv_size hv'
  obtain ⟨w1, w2, _⟩ := Pl.v2_t (Pl.bv_parts hv').1
  exact ⟨⟨by show 0 ≤ b'.k; omega, w2, h2, by show b'.past.length ≤ 21; omega, h4⟩, hv', h3⟩
set_option maxHeartbeats 1000000 in
theorem spec_BenchNewO (k : Int) (w : World) : Calls Tryz.prog 42 #[.int .i64 k] w fun e w' => ∃ v, e = .returned v ∧ BnO w' w.heap.size v (newB k) ∧ Below w.heap.size w w' := by
  by_cases h : 1 ≤ k ∧ k ≤ 12
  · have h1 := Lib.hid (show newE k = [10] by unfold newE; rw [if_pos h])
    have h2 := Lib.hid (show newW k = k by unfold newW; rw [if_pos h])
    obtain ⟨k0, k1⟩ := h
    go_enter Tryz.func42, Tryz.ntmps42
    go_wp2_with (first | (go_at_call 26; refine (spec_l1In_t _ _ _ _ (by omega)).mono ?_; rintro e w' ⟨rfl, rfl⟩) | go_in)
    refine bodyPost_ret (v := benchV k 0 0 (some ⟨w.heap.size + 1, 0, none⟩) 1 1 (some ⟨w.heap.size + 2, 0, none⟩) 0 0) (by simp [results, Tryz.results42, benchV, go_sem]) rfl ?_
    have h := World.ownsRow_lit (base := w.heap.size) (e := 3) (size := 1) (w.alloc (.cells #[.int .i64 k, .int .i64 0, .int .i64 0, .slice (some ⟨w.heap.size + 1, 0, none⟩) 1 1, .slice (some ⟨w.heap.size + 2, 0, none⟩) 0 0] 44)) #[.int .i64 10] 1 (by simp) (by simp [maxLen]) rfl
    have h' : (w.alloc (.cells #[.int .i64 k, .int .i64 0, .int .i64 0, .slice (some ⟨w.heap.size + 1, 0, none⟩) 1 1, .slice (some ⟨w.heap.size + 2, 0, none⟩) 0 0] 44)).heap.size = w.heap.size + 1 := by simp
    rw [h'] at h
    have hp := World.ownsRow_made (base := w.heap.size) (e := 9) (size := 1) ((w.alloc (.cells #[.int .i64 k, .int .i64 0, .int .i64 0, .slice (some ⟨w.heap.size + 1, 0, none⟩) 1 1, .slice (some ⟨w.heap.size + 2, 0, none⟩) 0 0] 44)).alloc (.cells #[.int .i64 10] 3)) #[] 0 (by simp; omega) (by simp [maxLen]) rfl
    rw [show ((w.alloc (.cells #[.int .i64 k, .int .i64 0, .int .i64 0, .slice (some ⟨w.heap.size + 1, 0, none⟩) 1 1, .slice (some ⟨w.heap.size + 2, 0, none⟩) 0 0] 44)).alloc (.cells #[.int .i64 10] 3)).heap.size = w.heap.size + 2 by simp] at hp
    unfold newB
    rw [h1.out, h2.out]
    exact ⟨_, rfl, ⟨_, _, _, _, _, _, rfl, .of_own (h.alloc _), .of_own hp⟩, by go_grown⟩
  · have h1 := Lib.hid (show newE k = [] by unfold newE; rw [if_neg h])
    have h2 := Lib.hid (show newW k = 0 by unfold newW; rw [if_neg h])
    go_enter Tryz.func42, Tryz.ntmps42
    go_wp2_with (first | (go_at_call 26; refine (spec_l1In_f _ _ _ _ (by omega)).mono ?_; rintro e w' ⟨rfl, rfl⟩) | go_in)
    refine bodyPost_ret (v := benchV 0 0 0 none 0 0 none 0 0) (by simp [results, Tryz.results42, benchV, go_sem]) rfl ?_
    unfold newB
    rw [h1.out, h2.out]
    exact ⟨_, rfl, ⟨_, _, _, _, _, _, rfl, .of_own (World.ownsRow_nil _ _ _ _), .of_own (World.ownsRow_nil _ _ _ _)⟩, by go_grown⟩
/-- What l20Bench leaves. -/
def Benchd (R N : Nat) (w : World) (e : Ending) (w' : World) : Prop := ∃ v b, e = .returned v ∧ BnO w' w.heap.size v b ∧ Small b ∧ Rdr w' R N ∧ w.grownBy w' (some R)
theorem rdr_put5 {w : World} {R N D : Nat} {v0 v1 v2 v3 v4 : Value} (h : Rdr w R N) (hD : R < D) : Rdr (put5 w D v0 v1 v2 v3 v4) R N :=
  h.below (B := D) (put5_below (Below.refl D w) (Nat.le_refl _)) hD
theorem only_put5 {a w : World} {R D : Nat} {v0 v1 v2 v3 v4 : Value} (h : a.grownBy w (some R)) (hD : a.heap.size ≤ D) : a.grownBy (put5 w D v0 v1 v2 v3 v4) (some R) :=
  only_below h (put5_below (Below.refl D w) (Nat.le_refl _)) hD
theorem blk5c {w : World} {g : Nat} {T : TypeId} {a b c d e : Value} (h : Blk w g T #[a, b, c, d, e]) :
    w.cell? ⟨g, 0, none⟩ = some a ∧ w.cell? ⟨g, 1, none⟩ = some b ∧ w.cell? ⟨g, 2, none⟩ = some c ∧ w.cell? ⟨g, 3, none⟩ = some d ∧ w.cell? ⟨g, 4, none⟩ = some e :=
  ⟨(h.cell 0).trans rfl, (h.cell 1).trans rfl, (h.cell 2).trans rfl, (h.cell 3).trans rfl, (h.cell 4).trans rfl⟩
theorem put5_orow_ne {w : World} {r base n c : Nat} {t t' : TypeId} {A : Option Addr} {xs : List Value} {u0 u1 u2 u3 u4 v0 v1 v2 v3 v4 : Value} (h : ORow w base t A n c xs) (hb : Blk w r t' #[u0, u1, u2, u3, u4]) (hne : t ≠ t') : ORow (put5 w r v0 v1 v2 v3 v4) base t A n c xs :=
  ((((h.set_blk hb hne v0).set_blk (hb.set_ 0 v0) hne v1).set_blk ((hb.set_ 0 v0).set_ 1 v1) hne v2).set_blk (((hb.set_ 0 v0).set_ 1 v1).set_ 2 v2) hne v3).set_blk ((((hb.set_ 0 v0).set_ 1 v1).set_ 2 v2).set_ 3 v3) hne v4
theorem below_a1 {w w' : World} {o : Obj} (h : Below (w.alloc o).heap.size (w.alloc o) w') : Below w.heap.size w w' := ((Below.refl _ w).alloc (Nat.le_refl _) o).trans (h.mono (by simp))
section
variable {w w6 : World} {R N g D X : Nat} {k x y k' x' y' : Int} {E E' : List Int} {ts ts' : List (List UInt8)} {A P A' P' : Option Addr} {n c m d n' c' m' d' : Nat} {S : Prop}
/-- What the cut behind the drawn deed asks: the new bench's block was made last. -/
theorem rel5_a (hX : g + 1 ≤ w6.heap.size) (hD : D < w6.heap.size) (KD : Blk w6 D 44 #[.int .i64 k, .int .i64 x, .int .i64 y, .slice A n c, .slice P m d]) (K0 : Blk w6 g 44 #[.int .i64 0, .int .i64 0, .int .i64 0, .slice none 0 0, .slice none 0 0])
    (o : ORow w6 g 3 A n c (I64 E)) (p : ORow w6 g 9 P m d (Tx ts)) (o' : ORow w6 g 3 A' n' c' (I64 E')) (p' : ORow w6 g 9 P' m' d' (Tx ts')) (hs : S) (hr : Rdr w6 R N) (hg : w.grownBy w6 (some R)) :
    g + 1 ≤ w6.heap.size ∧ w6.heap.size ≠ D ∧ Blk (w6.alloc (.cells #[.int .i64 k', .int .i64 x', .int .i64 y', .slice A' n' c', .slice P' m' d'] 44)) w6.heap.size 44 #[.int .i64 k', .int .i64 x', .int .i64 y', .slice A' n' c', .slice P' m' d'] ∧ Blk (w6.alloc (.cells #[.int .i64 k', .int .i64 x', .int .i64 y', .slice A' n' c', .slice P' m' d'] 44)) D 44 #[.int .i64 k, .int .i64 x, .int .i64 y, .slice A n c, .slice P m d] ∧ Blk (w6.alloc (.cells #[.int .i64 k', .int .i64 x', .int .i64 y', .slice A' n' c', .slice P' m' d'] 44)) g 44 #[.int .i64 0, .int .i64 0, .int .i64 0, .slice none 0 0, .slice none 0 0] ∧ ORow (w6.alloc (.cells #[.int .i64 k', .int .i64 x', .int .i64 y', .slice A' n' c', .slice P' m' d'] 44)) g 3 A n c (I64 E) ∧ ORow (w6.alloc (.cells #[.int .i64 k', .int .i64 x', .int .i64 y', .slice A' n' c', .slice P' m' d'] 44)) g 9 P m d (Tx ts) ∧ ORow (w6.alloc (.cells #[.int .i64 k', .int .i64 x', .int .i64 y', .slice A' n' c', .slice P' m' d'] 44)) g 3 A' n' c' (I64 E') ∧ ORow (w6.alloc (.cells #[.int .i64 k', .int .i64 x', .int .i64 y', .slice A' n' c', .slice P' m' d'] 44)) g 9 P' m' d' (Tx ts') ∧ S ∧ Rdr (w6.alloc (.cells #[.int .i64 k', .int .i64 x', .int .i64 y', .slice A' n' c', .slice P' m' d'] 44)) R N ∧ Hid (w.grownBy (w6.alloc (.cells #[.int .i64 k', .int .i64 x', .int .i64 y', .slice A' n' c', .slice P' m' d'] 44)) (some R)) :=
  ⟨hX, by omega, Blk.new _ _ _, KD.alloc _, K0.alloc _, o.alloc _, p.alloc _, o'.alloc _, p'.alloc _, hs, hr.alloc _, Lib.hid (hg.trans (World.grownBy_alloc _ _ _))⟩
/-- .. it was made earlier. -/
theorem rel5_b (KX : Blk w6 X 44 #[.int .i64 0, .int .i64 0, .int .i64 0, .slice none 0 0, .slice none 0 0]) (hX : g + 1 ≤ X) (hXD : X ≠ D) (hRX : R < X) (hwX : w.heap.size ≤ X) (KD : Blk w6 D 44 #[.int .i64 k, .int .i64 x, .int .i64 y, .slice A n c, .slice P m d]) (K0 : Blk w6 g 44 #[.int .i64 0, .int .i64 0, .int .i64 0, .slice none 0 0, .slice none 0 0])
    (o : ORow w6 g 3 A n c (I64 E)) (p : ORow w6 g 9 P m d (Tx ts)) (o' : ORow w6 g 3 A' n' c' (I64 E')) (p' : ORow w6 g 9 P' m' d' (Tx ts')) (hs : S) (hr : Rdr w6 R N) (hg : w.grownBy w6 (some R)) {W : World} (hW : W = put5 w6 X (.int .i64 k') (.int .i64 x') (.int .i64 y') (.slice A' n' c') (.slice P' m' d')) :
    g + 1 ≤ X ∧ X ≠ D ∧ Blk W X 44 #[.int .i64 k', .int .i64 x', .int .i64 y', .slice A' n' c', .slice P' m' d'] ∧ Blk W D 44 #[.int .i64 k, .int .i64 x, .int .i64 y, .slice A n c, .slice P m d] ∧ Blk W g 44 #[.int .i64 0, .int .i64 0, .int .i64 0, .slice none 0 0, .slice none 0 0] ∧ ORow W g 3 A n c (I64 E) ∧ ORow W g 9 P m d (Tx ts) ∧ ORow W g 3 A' n' c' (I64 E') ∧ ORow W g 9 P' m' d' (Tx ts') ∧ S ∧ Rdr W R N ∧ Hid (w.grownBy W (some R)) := by
  subst hW
  exact ⟨hX, hXD, put5_blk KX, put5_far hXD KD, put5_far (by omega) K0, put5_orow_ne o KX (by decide), put5_orow_ne p KX (by decide), put5_orow_ne o' KX (by decide), put5_orow_ne p' KX (by decide), hs, rdr_put5 hr hRX, Lib.hid (only_put5 hg hwX)⟩
end
set_option maxRecDepth 100000 in
set_option maxHeartbeats 16000000 in
theorem spec_l20Bench (R N : Nat) (nn : Int) (w : World) (h : Rdr w R N) (hN : N ≤ 20000) (hnn : nn ≤ 100) :
    Calls Tryz.prog 20 #[.pointer (some ⟨R, 0, none⟩), .int .i64 nn] w (Benchd R (N + 1400) w) := by
  have hR := h.lt
  obtain ⟨g, hg⟩ : ∃ g, w.heap.size = g := ⟨_, rfl⟩
  obtain ⟨w0, hw0⟩ : ∃ w0, w0 = w.alloc (.cells #[.int .i64 0, .int .i64 0, .int .i64 0, .slice none 0 0, .slice none 0 0] 44) := ⟨_, rfl⟩
  have hz0 : w0.heap.size = g + 1 := by rw [hw0, ← hg]; simp
  have HG0 := Lib.hid (show w.grownBy w0 (some R) by rw [hw0]; exact World.grownBy_alloc w _ _)
  have K0 : Blk w0 g 44 #[.int .i64 0, .int .i64 0, .int .i64 0, .slice none 0 0, .slice none 0 0] := by rw [hw0, ← hg]; exact Blk.new w _ _
  have hr0 : Rdr w0 R N := by rw [hw0]; exact h.alloc _
  rw [hg] at hR
  clear h
  go_enter Tryz.func20, Tryz.ntmps20
  go_upto_region 1 with (fail)
  rw [← hw0]
  clear hw0
  go_wp2_with (with_reducible refine AtEnd.of ?_)
  refine (spec_l20Width R N 0 _ hr0 (by omega) (by omega)).mono ?_
  rintro e w1 ⟨k0, rfl, _, _, hr1, hg1⟩
  have K0 := K0.grown hg1 (by intro e; injection e; omega)
  have HG1 := Lib.hid (HG0.out.trans hg1)
  have hz1 := hg1.size
  clear hg1 hr0 HG0
  go_wp2_with (with_reducible refine AtEnd.of ?_)
  refine (spec_BenchNewO k0 _).mono ?_
  rintro e w2 ⟨v, rfl, ⟨A, P, n, c, m, d, rfl, row, prow⟩, hb2⟩
  have hz2 := hb2.size
  have K0 := K0.below hb2 (by omega)
  have HG2 := Lib.hid (HG1.out.trans (only_of_below hb2 (some R)))
  have hr2 := hr1.below hb2 hr1.lt
  have SM := Lib.hid (small_new k0)
  have hts : (newB k0).past.length ≤ 20 := by simp [newB]
  have row := row.mono (show g ≤ w1.heap.size by omega)
  have prow := prow.mono (show g ≤ w1.heap.size by omega)
  generalize newB k0 = bb at *
  obtain ⟨k, x, y, E, ts⟩ := bb
  clear hb2 hr1 HG1
  have z0 : w2.heap.size < w2.heap.size + 1 := by omega
  unfold benchV
  obtain ⟨D, hD⟩ : ∃ D, D = w2.heap.size := ⟨_, rfl⟩
  go_upto_region 2 with (fail)
  obtain ⟨w3, hw3⟩ : ∃ w3, w3 = w2.alloc (.cells #[.int .i64 k, .int .i64 x, .int .i64 y, .slice A n c, .slice P m d] 44) := ⟨_, rfl⟩
  have KD : Blk w3 D 44 #[.int .i64 k, .int .i64 x, .int .i64 y, .slice A n c, .slice P m d] := by rw [hw3, hD]; exact Blk.new w2 _ _
  have K0 : Blk w3 g 44 #[.int .i64 0, .int .i64 0, .int .i64 0, .slice none 0 0, .slice none 0 0] := by rw [hw3]; exact K0.alloc _
  have o3 : ORow w3 g 3 A n c (I64 E) := by rw [hw3]; exact row.alloc _
  have p3 : ORow w3 g 9 P m d (Tx ts) := by rw [hw3]; exact prow.alloc _
  have hr3 : Rdr w3 R (N + 2) := by rw [hw3]; exact hr2.alloc _
  have HG3 := Lib.hid (show w.grownBy w3 (some R) by rw [hw3]; exact HG2.out.trans (World.grownBy_alloc _ _ _))
  rw [← hw3, ← hD]
  have hgD : g + 1 ≤ D := by omega
  clear hw3 row prow hr2 HG2 hz2 hz1 z0
  go_wp2_with (with_reducible refine AtEnd.of ?_)
  refine (spec_pick R (N + 2) 7 _ hr3 (by omega) (by omega)).mono ?_
  rintro e w4 ⟨r0, rfl, hr0, hr4, hg4⟩
  obtain ⟨q0, q1⟩ := hr0.2 (by omega)
  obtain ⟨r0, rfl⟩ := Int.eq_ofNat_of_zero_le q0
  have KD := KD.grown hg4 (by intro e; injection e; omega)
  have K0 := K0.grown hg4 (by intro e; injection e; omega)
  have o4 := o3.grown hg4 hR
  have p4 := p3.grown hg4 hR
  have HG4 := Lib.hid (HG3.out.trans hg4)
  clear hg4 hr3 o3 p3 HG3 hr0 hD hz0
  go_upto_region 3 with (fail)

  go_loopw [6] (fun i wr => ∃ (r M : Nat) (A P : Option Addr) (n c m d : Nat) (k x y : Int) (E : List Int) (ts : List (List UInt8)), r ≤ 6 ∧ i = .int .i64 r ∧ M + 221 * r ≤ N + 3 + 221 * 6 ∧ Blk wr D 44 #[.int .i64 k, .int .i64 x, .int .i64 y, .slice A n c, .slice P m d] ∧ Blk wr g 44 #[.int .i64 0, .int .i64 0, .int .i64 0, .slice none 0 0, .slice none 0 0] ∧ ORow wr g 3 A n c (I64 E) ∧ ORow wr g 9 P m d (Tx ts) ∧ Hid (Small ⟨k, x, y, E, ts⟩) ∧ ts.length ≤ 20 ∧ Rdr wr R M ∧ Hid (w.grownBy wr (some R))) (fun i _ => (intOf i).toNat)
  case atStart => exact ⟨r0, N + 2 + 1, A, P, n, c, m, d, k, x, y, E, ts, by omega, rfl, by omega, KD, K0, o4, p4, SM, hts, hr4, HG4⟩
  case round =>
    clear KD K0 o4 p4 hr4 HG4 SM hts
    obtain ⟨r, M, A, P, n, c, m, d, k, x, y, E, ts, hr6, rfl, hM, KD, K0, o4, p4, SM, hts, hr4, HG4⟩ := hrel
    have ln : E.length = n := by have := o4.len; rwa [I64_len] at this
    have lm : ts.length = m := by have := p4.len; rwa [Tx_len] at this
    have hD1 := KD.lt
    by_cases hpos : 0 < r
    · obtain ⟨r, rfl⟩ : ∃ q, r = q + 1 := ⟨r - 1, by omega⟩
      have hri : (0 : Int) < ((r + 1 : Nat) : Int) := by omega
      go_upto_region 5 with (fail)
      have HR4 := Lib.hid hr4
      have KD4 := Lib.hid KD
      have K04 := Lib.hid K0
      have RO := Lib.hid o4
      have RP := Lib.hid p4
      clear hr4 KD K0 o4 p4
      obtain ⟨s1, s2, s3, s4, s5⟩ := SM.out
      have s1 : 0 ≤ k := s1
      have s2 : k ≤ 12 := s2
      have s3 : E.length ≤ 24 := s3
      have hnc := RO.out.cap
      have SM' := SM
      have HS5 := Lib.hid s5
      clear s5
      obtain ⟨q0, q1, q2, q3, q4⟩ := blk5c KD4.out
      have CD := Lib.hid (fun w' h => spec_l20Deed R M ⟨k, x, y, E, ts⟩ A P n c m d w' h (by omega))
      go_cut [7, 8] from 52 (fun s7 s8 wx => ∃ (X : Nat) (A' P' : Option Addr) (n' c' m' d' : Nat) (k' x' y' : Int) (E' : List Int) (ts' : List (List UInt8)) (okk : Bool), s7 = .pointer (some ⟨X, 0, none⟩) ∧ s8 = .bool okk ∧ g + 1 ≤ X ∧ X ≠ D ∧ Blk wx X 44 #[.int .i64 k', .int .i64 x', .int .i64 y', .slice A' n' c', .slice P' m' d'] ∧ Blk wx D 44 #[.int .i64 k, .int .i64 x, .int .i64 y, .slice A n c, .slice P m d] ∧ Blk wx g 44 #[.int .i64 0, .int .i64 0, .int .i64 0, .slice none 0 0, .slice none 0 0] ∧ ORow wx g 3 A n c (I64 E) ∧ ORow wx g 9 P m d (Tx ts) ∧ ORow wx g 3 A' n' c' (I64 E') ∧ ORow wx g 9 P' m' d' (Tx ts') ∧ Hid (okk = true → Small ⟨k', x', y', E', ts'⟩ ∧ ts'.length ≤ 20) ∧ Rdr wx R (M + 220) ∧ Hid (w.grownBy wx (some R)))
      case first =>
        have t1 : wr.heap.size ≠ R := by have := HR4.out.lt; omega
        have t2 : D ≠ R := by omega
        have t3 : D < wr.heap.size := hD1
        have t4 : R < wr.heap.size := HR4.out.lt
        have t5 : D ≠ wr.heap.size := by omega
        go_region_with (first
          | (go_at_call 19; refine (CD.out _ (by first | exact HR4.out | exact HR4.out.alloc _)).mono ?_; rintro e w5 ⟨kk, n5, t5', rfl, ht5, hr5, hg5⟩; have HG5 : Hid (wr.grownBy w5 (some R)) := Lib.hid (by first | exact hg5 | exact grown_e0 hg5 | exact grown_e1 hg5 | exact grown_f1 hg5); have HH5 := Lib.hid hg5; have KD5 := Lib.hid (KD4.out.grown HG5.out (by intro e; injection e; omega)); have K05 := Lib.hid (K04.out.grown HG5.out (by intro e; injection e; omega)); have RO5 := Lib.hid (RO.out.grown HG5.out hR); have RP5 := Lib.hid (RP.out.grown HG5.out hR); have HR5 := Lib.hid hr5; have HT5 := Lib.hid ht5; obtain ⟨u0, u1, u2, u3, u4⟩ := blk5c KD5.out; have zz := hg5.size; (try simp only [World.size_alloc, World.size_drew] at zz); have t6 : D < w5.heap.size := (by omega); (try have t7 : wr.heap.size < w5.heap.size := (by omega)); have t8 : D ≠ w5.heap.size := (by omega); have hgf := grown_frozenR hg5; have hgc := grown_cellsR hg5; have hh5 : w5.heap.size = w5.heap.size := rfl; clear hr5 hg5 ht5)
          | (go_at_call 44; unfold deedV; refine (spec_BenchDo ⟨k, x, y, E, ts⟩ ⟨kk, n5, t5'⟩ A P n c m d w5.heap.size _ (by first | exact RO5.out.rd | exact RO5.out.rd.alloc (Nat.le_refl _) _) (by first | exact RP5.out.rd | exact RP5.out.rd.alloc (Nat.le_refl _) _) (by first | exact Nat.le_refl _ | (simp; done)) (by omega) (by omega) hnc (fun s hs => by have := HS5.out s hs; omega) (by have := HT5.out; show t5'.length ≤ 2000000; omega)).mono ?_; rintro e w6 ⟨v, rfl, ⟨A7, P7, n7, c7, m7, d7, rfl, o7, p7⟩, hb6⟩; have HB6 : Hid (Below w5.heap.size w5 w6) := Lib.hid (by first | exact hb6 | exact below_a1 hb6); have HH6 := Lib.hid hb6; have zz6 := HB6.out.size; have zz6' := hb6.size; (try simp only [World.size_alloc, World.size_drew] at zz6'); have KD6 := Lib.hid (KD5.out.below HB6.out (by omega)); have K06 := Lib.hid (K05.out.below HB6.out (by omega)); have RO6 := Lib.hid (RO5.out.below HB6.out); have RP6 := Lib.hid (RP5.out.below HB6.out); have HR6 := Lib.hid (HR5.out.below HB6.out HR5.out.lt); have O7 := Lib.hid (o7.mono (show g ≤ _ by first | omega | (simp; omega))); have P7' := Lib.hid (p7.mono (show g ≤ _ by first | omega | (simp; omega))); have SM7 := Lib.hid (fun h => small_do (b := ⟨k, x, y, E, ts⟩) (d := ⟨kk, n5, t5'⟩) h); have hbf := (bcell hb6).2; have hbc := (bcell hb6).1; (try have t9 : wr.heap.size < w6.heap.size := (by omega)); (try have t10 : w5.heap.size < w6.heap.size := (by omega)); have t11 : D < w6.heap.size := (by omega); generalize Pl.doB ⟨k, x, y, E, ts⟩ ⟨kk, n5, t5'⟩ = rr at *; obtain ⟨⟨k', x', y', E', ts'⟩, okk⟩ := rr; unfold benchV; clear o7 p7 hb6))
        all_goals go_wp2_with (with_reducible refine AtEnd.of ?_)
        all_goals go_meet
        all_goals have HGG := HG4.out.trans (HG5.out.trans (only_of_below HB6.out (some R)))
        all_goals have hx1 : g + 1 ≤ w6.heap.size := by omega
        all_goals have hx2 : D < w6.heap.size := by omega
        all_goals have SM8 := Lib.hid (fun h => (⟨(SM7.out h).1, (SM7.out h).2.2⟩ : Small ⟨k', x', y', E', ts'⟩ ∧ ts'.length ≤ 20))
        all_goals first
          | (with_reducible exact ⟨_, A7, P7, n7, c7, m7, d7, k', x', y', E', ts', okk, rfl, rfl, rel5_a hx1 hx2 KD6.out K06.out RO6.out RP6.out O7.out P7'.out SM8 HR6.out HGG⟩)
          | (with_reducible refine ⟨_, A7, P7, n7, c7, m7, d7, k', x', y', E', ts', okk, rfl, rfl, rel5_b ?_ ?_ ?_ ?_ ?_ KD6.out K06.out RO6.out RP6.out O7.out P7'.out SM8 HR6.out HGG rfl⟩)
          | (with_reducible refine ⟨_, A7, P7, n7, c7, m7, d7, k', x', y', E', ts', okk, rfl, rfl, rel5_b ?_ ?_ ?_ ?_ ?_ KD6.out K06.out RO6.out RP6.out O7.out P7'.out SM8 HR6.out HGG ?_⟩)
        all_goals repeat' (first
          | (with_reducible refine Blk.new' ?_)
          | (with_reducible refine Blk.alloc ?_ _)
          | (with_reducible refine Blk.drew ?_)
          | (with_reducible refine Blk.below ?_ HH6.out ?_)
          | (with_reducible refine Blk.grown ?_ HH5.out ?_)
          | omega
          | (intro e; injection e; omega)
          | (simp; done)
          | (simp; omega)
          | rfl)
      case rest =>
        obtain ⟨w7, rfl⟩ : ∃ w7, w7 = wc := ⟨_, rfl⟩
        obtain ⟨X, A', P', n', c', m', d', k', x', y', E', ts', okk, rfl, rfl, hX1, hX2, KX, KD, K0, o7, p7, o7', p7', SM7, hr7, HG7⟩ := hcut
        have hw1 : IntKind.i64.wrap (((r + 1 : Nat) : Int) - 1) = (r : Int) := by rw [show (((r + 1 : Nat) : Int) - 1) = (r : Int) by omega]; exact IntWalk.i64_in _ (by omega)
        have hw2 : IntKind.i64.wrap ((r : Int) + 1 - 1) = (r : Int) := by rw [show ((r : Int) + 1 - 1) = (r : Int) by omega]; exact IntWalk.i64_in _ (by omega)
        have hw3 : IntKind.i64.wrap (r : Int) = (r : Int) := IntWalk.i64_in _ (by omega)
        clear KD4 K04 RO RP HR4 q0 q1 q2 q3 q4 CD HG4
        cases okk
        · go_wp2_with (with_reducible refine AtEnd.of ?_)
          go_roundw
          case rel => exact ⟨r, M + 220, A, P, n, c, m, d, k, x, y, E, ts, by omega, by go_num, by omega, KD, K0, o7, p7, SM, hts, hr7, HG7⟩
          case measure => first | (simp [intOf]; done) | (simp [intOf]; omega)
        · obtain ⟨S7, T7⟩ := SM7.out rfl
          have S7 := Lib.hid S7
          obtain ⟨u0, u1, u2, u3, u4⟩ := blk5c KX
          obtain ⟨v0, v1, v2, v3, v4⟩ := blk5c KD
          have f0 := KD.frozen 0
          have f1 := KD.frozen 1
          have f2 := KD.frozen 2
          have f3 := KD.frozen 3
          have f4 := KD.frozen 4
          have hKD := Lib.hid KD
          have hK0 := Lib.hid K0
          have hO := Lib.hid o7'
          have hP := Lib.hid p7'
          have hRr := Lib.hid hr7
          clear KX KD K0 o7 p7 o7' p7' hr7 SM SM' SM7
          go_wp2_with (with_reducible refine AtEnd.of ?_)
          go_roundw
          case rel => exact ⟨r, M + 220, A', P', n', c', m', d', k', x', y', E', ts', by omega, by go_num, by omega, put5_blk hKD.out, put5_far (by omega) hK0.out, put5_orow_ne hO.out hKD.out (by decide), put5_orow_ne hP.out hKD.out (by decide), S7, T7, rdr_put5 hRr.out (by omega), Lib.hid (only_put5 HG7.out (by omega))⟩
          case measure => first | (simp [intOf]; done) | (simp [intOf]; omega)
    · obtain rfl : r = 0 := by omega
      obtain ⟨s1, s2, s3, s4, s5⟩ := SM.out
      have s1 : 0 ≤ k := s1
      have s2 : k ≤ 12 := s2
      have s3 : E.length ≤ 24 := s3
      have hnn' : ¬ (0 : Int) < ((0 : Nat) : Int) := by omega
      go_wp2_with (with_reducible refine AtEnd.of ?_)
      refine (spec_odd R M nn _ hr4 (by omega) (by omega)).mono ?_
      rintro e w5 ⟨od, rfl, _, hr5, hg5⟩
      have KD := KD.grown hg5 (by intro e; injection e; omega)
      have K0 := K0.grown hg5 (by intro e; injection e; omega)
      have o5 := o4.grown hg5 hR
      have p5 := p4.grown hg5 hR
      have HG5 := Lib.hid (HG4.out.trans hg5)
      have hz5 := hg5.size
      clear hg5 hr4 o4 p4 HG4
      have hDg : D ≠ g := by omega
      cases od
      · skip
        obtain ⟨u0, u1, u2, u3, u4⟩ := blk5c KD
        obtain ⟨v0, v1, v2, v3, v4⟩ := blk5c K0
        have f0 := K0.frozen 0
        have f1 := K0.frozen 1
        have f2 := K0.frozen 2
        have f3 := K0.frozen 3
        have f4 := K0.frozen 4
        go_wp2_with (with_reducible refine AtEnd.of ?_)
        have KF := put5_blk (v0 := .int .i64 k) (v1 := .int .i64 x) (v2 := .int .i64 y) (v3 := .slice A n c) (v4 := .slice P m d) (K0)
        have oF := put5_orow_ne (v0 := .int .i64 k) (v1 := .int .i64 x) (v2 := .int .i64 y) (v3 := .slice A n c) (v4 := .slice P m d) (o5) (K0) (by decide)
        have pF := put5_orow_ne (v0 := .int .i64 k) (v1 := .int .i64 x) (v2 := .int .i64 y) (v3 := .slice A n c) (v4 := .slice P m d) (p5) (K0) (by decide)
        have rF := rdr_put5 (v0 := .int .i64 k) (v1 := .int .i64 x) (v2 := .int .i64 y) (v3 := .slice A n c) (v4 := .slice P m d) (hr5) hR
        have gF := only_put5 (v0 := .int .i64 k) (v1 := .int .i64 x) (v2 := .int .i64 y) (v3 := .slice A n c) (v4 := .slice P m d) (HG5.out) (show w.heap.size ≤ g by omega)
        exact atEnd_ret (results_cell Tryz.results20 rfl (load_bench KF)) rfl ⟨_, ⟨k, x, y, E, ts⟩, rfl, ⟨A, P, n, c, m, d, rfl, oF.mono (by omega), pF.mono (by omega)⟩, ⟨s1, s2, s3, by show ts.length ≤ 21; omega, s5⟩, rF.more (by omega), gF⟩
      · go_wp2_with (with_reducible refine AtEnd.of ?_)
        refine (spec_pick R (M + 1) 4 _ hr5 (by omega) (by omega)).mono ?_
        rintro e w6 ⟨q, rfl, hq, hr6, hg6⟩
        obtain ⟨q0, q1⟩ := hq.2 (by omega)
        have KD := KD.grown hg6 (by intro e; injection e; omega)
        have K0 := K0.grown hg6 (by intro e; injection e; omega)
        have o6 := o5.grown hg6 hR
        have p6 := p5.grown hg6 hR
        have HG6 := Lib.hid (HG5.out.trans hg6)
        have hz6 := hg6.size
        have hD6 := KD.lt
        clear hg6 hr5 o5 p5 HG5 hq
        rcases (by omega : q = 0 ∨ q = 1 ∨ q = 2 ∨ q = 3) with rfl | rfl | rfl | rfl
        · have he := Pl.wrap_pw k (by omega) (by omega)
          obtain ⟨u0, u1, u2, u3, u4⟩ := blk5c KD
          have f1 := KD.frozen 1
          go_upto_region 17 with (fail)
          obtain ⟨w8, hw8⟩ : ∃ w8, w8 = (w6).setCell ⟨D, 1, none⟩ (.int .i64 (Pl.pw k)) := ⟨_, rfl⟩
          have K8 : Blk w8 D 44 #[.int .i64 k, .int .i64 (Pl.pw k), .int .i64 y, .slice A n c, .slice P m d] := by rw [hw8]; exact KD.set_ 1 (.int .i64 (Pl.pw k))
          have K08 : Blk w8 g 44 #[.int .i64 0, .int .i64 0, .int .i64 0, .slice none 0 0, .slice none 0 0] := by rw [hw8]; exact K0.far (p := ⟨D, 1, none⟩) (Ne.symm hDg) (.int .i64 (Pl.pw k))
          have hr8 : Rdr w8 R (M + 2) := by rw [hw8]; exact hr6.below (B := D) ((Below.refl D _).setCell (p := ⟨D, 1, none⟩) (Nat.le_refl _) (.int .i64 (Pl.pw k))) (by omega)
          have HG8 : Hid (w.grownBy w8 (some R)) := by rw [hw8]; exact Lib.hid (only_below HG6.out ((Below.refl D _).setCell (p := ⟨D, 1, none⟩) (Nat.le_refl _) (.int .i64 (Pl.pw k))) (by omega))
          have o8 : ORow w8 g 3 A n c (I64 E) := by rw [hw8]; exact o6.set_blk (o := 1) KD (by decide) (.int .i64 (Pl.pw k))
          have p8 : ORow w8 g 9 P m d (Tx ts) := by rw [hw8]; exact p6.set_blk (o := 1) KD (by decide) (.int .i64 (Pl.pw k))
          rw [← hw8]
          clear hw8 u0 u1 u2 u3 u4 f1 KD K0 o6 p6 hr6 HG6
          have KD := K8
          have K0 := K08
          obtain ⟨u0, u1, u2, u3, u4⟩ := blk5c KD
          obtain ⟨v0, v1, v2, v3, v4⟩ := blk5c K0
          have f0 := K0.frozen 0
          have f1 := K0.frozen 1
          have f2 := K0.frozen 2
          have f3 := K0.frozen 3
          have f4 := K0.frozen 4
          go_wp2_with (with_reducible refine AtEnd.of ?_)
          have KF := put5_blk (v0 := .int .i64 k) (v1 := .int .i64 (Pl.pw k)) (v2 := .int .i64 y) (v3 := .slice A n c) (v4 := .slice P m d) (K0)
          have oF := put5_orow_ne (v0 := .int .i64 k) (v1 := .int .i64 (Pl.pw k)) (v2 := .int .i64 y) (v3 := .slice A n c) (v4 := .slice P m d) (o8) (K0) (by decide)
          have pF := put5_orow_ne (v0 := .int .i64 k) (v1 := .int .i64 (Pl.pw k)) (v2 := .int .i64 y) (v3 := .slice A n c) (v4 := .slice P m d) (p8) (K0) (by decide)
          have rF := rdr_put5 (v0 := .int .i64 k) (v1 := .int .i64 (Pl.pw k)) (v2 := .int .i64 y) (v3 := .slice A n c) (v4 := .slice P m d) (hr8) hR
          have gF := only_put5 (v0 := .int .i64 k) (v1 := .int .i64 (Pl.pw k)) (v2 := .int .i64 y) (v3 := .slice A n c) (v4 := .slice P m d) (HG8.out) (show w.heap.size ≤ g by omega)
          exact atEnd_ret (results_cell Tryz.results20 rfl (load_bench KF)) rfl ⟨_, ⟨k, Pl.pw k, y, E, ts⟩, rfl, ⟨A, P, n, c, m, d, rfl, oF.mono (by omega), pF.mono (by omega)⟩, ⟨s1, s2, s3, by show ts.length ≤ 21; omega, s5⟩, rF.more (by omega), gF⟩
        · have KDa := KD.alloc (.cells #[] 3)
          have f3 := KDa.frozen 3
          obtain ⟨u0, u1, u2, u3, u4⟩ := blk5c KDa
          go_upto_region 17 with (fail)
          have hsz : (w6.setCell ⟨D, 3, none⟩ (.slice (some ⟨w6.heap.size, 0, none⟩) 0 0)).heap.size = w6.heap.size := by simp [World.setCell]
          have made := World.ownsRow_made (base := g) (e := 3) (size := 1) (w6.setCell ⟨D, 3, none⟩ (.slice (some ⟨w6.heap.size, 0, none⟩) 0 0)) #[] 0 (by rw [hsz]; omega) (by simp [maxLen]) rfl
          rw [hsz] at made
          obtain ⟨w8, hw8⟩ : ∃ w8, w8 = (w6.setCell ⟨D, 3, none⟩ (.slice (some ⟨w6.heap.size, 0, none⟩) 0 0)).alloc (.cells #[] 3) := ⟨_, rfl⟩
          have K8 : Blk w8 D 44 #[.int .i64 k, .int .i64 x, .int .i64 y, .slice (some ⟨w6.heap.size, 0, none⟩) 0 0, .slice P m d] := by rw [hw8]; exact (KD.set_ 3 (.slice (some ⟨w6.heap.size, 0, none⟩) 0 0)).alloc _
          have K08 : Blk w8 g 44 #[.int .i64 0, .int .i64 0, .int .i64 0, .slice none 0 0, .slice none 0 0] := by rw [hw8]; exact (K0.far (p := ⟨D, 3, none⟩) (Ne.symm hDg) (.slice (some ⟨w6.heap.size, 0, none⟩) 0 0)).alloc _
          have hr8 : Rdr w8 R (M + 2) := by rw [hw8]; exact (hr6.below (B := D) ((Below.refl D _).setCell (p := ⟨D, 3, none⟩) (Nat.le_refl _) (.slice (some ⟨w6.heap.size, 0, none⟩) 0 0)) (by omega)).alloc _
          have HG8 : Hid (w.grownBy w8 (some R)) := by rw [hw8]; exact Lib.hid ((only_below HG6.out ((Below.refl D _).setCell (p := ⟨D, 3, none⟩) (Nat.le_refl _) (.slice (some ⟨w6.heap.size, 0, none⟩) 0 0)) (by omega)).trans (World.grownBy_alloc _ _ _))
          have o8 : ORow w8 g 3 (some ⟨w6.heap.size, 0, none⟩) 0 0 (I64 []) := by rw [hw8]; exact .of_own made
          have p8 : ORow w8 g 9 P m d (Tx ts) := by rw [hw8]; exact (p6.set_blk (o := 3) KD (by decide) (.slice (some ⟨w6.heap.size, 0, none⟩) 0 0)).alloc _
          rw [← hw8]
          clear hw8 u0 u1 u2 u3 u4 f3 KD K0 o6 p6 hr6 HG6 KDa made hsz
          have KD := K8
          have K0 := K08
          obtain ⟨u0, u1, u2, u3, u4⟩ := blk5c KD
          obtain ⟨v0, v1, v2, v3, v4⟩ := blk5c K0
          have f0 := K0.frozen 0
          have f1 := K0.frozen 1
          have f2 := K0.frozen 2
          have f3 := K0.frozen 3
          have f4 := K0.frozen 4
          go_wp2_with (with_reducible refine AtEnd.of ?_)
          have KF := put5_blk (v0 := .int .i64 k) (v1 := .int .i64 x) (v2 := .int .i64 y) (v3 := .slice (some ⟨w6.heap.size, 0, none⟩) 0 0) (v4 := .slice P m d) (K0)
          have oF := put5_orow_ne (v0 := .int .i64 k) (v1 := .int .i64 x) (v2 := .int .i64 y) (v3 := .slice (some ⟨w6.heap.size, 0, none⟩) 0 0) (v4 := .slice P m d) (o8) (K0) (by decide)
          have pF := put5_orow_ne (v0 := .int .i64 k) (v1 := .int .i64 x) (v2 := .int .i64 y) (v3 := .slice (some ⟨w6.heap.size, 0, none⟩) 0 0) (v4 := .slice P m d) (p8) (K0) (by decide)
          have rF := rdr_put5 (v0 := .int .i64 k) (v1 := .int .i64 x) (v2 := .int .i64 y) (v3 := .slice (some ⟨w6.heap.size, 0, none⟩) 0 0) (v4 := .slice P m d) (hr8) hR
          have gF := only_put5 (v0 := .int .i64 k) (v1 := .int .i64 x) (v2 := .int .i64 y) (v3 := .slice (some ⟨w6.heap.size, 0, none⟩) 0 0) (v4 := .slice P m d) (HG8.out) (show w.heap.size ≤ g by omega)
          exact atEnd_ret (results_cell Tryz.results20 rfl (load_bench KF)) rfl ⟨_, ⟨k, x, y, [], ts⟩, rfl, ⟨some ⟨w6.heap.size, 0, none⟩, P, 0, 0, m, d, rfl, oF.mono (by omega), pF.mono (by omega)⟩, ⟨s1, s2, by simp, by show ts.length ≤ 21; omega, s5⟩, rF.more (by omega), gF⟩
        · skip
          obtain ⟨u0, u1, u2, u3, u4⟩ := blk5c KD
          obtain ⟨v0, v1, v2, v3, v4⟩ := blk5c K0
          have f0 := K0.frozen 0
          have f1 := K0.frozen 1
          have f2 := K0.frozen 2
          have f3 := K0.frozen 3
          have f4 := K0.frozen 4
          go_wp2_with (with_reducible refine AtEnd.of ?_)
          have KF := put5_blk (v0 := .int .i64 0) (v1 := .int .i64 0) (v2 := .int .i64 0) (v3 := .slice none 0 0) (v4 := .slice none 0 0) K0
          have rF := rdr_put5 (v0 := .int .i64 0) (v1 := .int .i64 0) (v2 := .int .i64 0) (v3 := .slice none 0 0) (v4 := .slice none 0 0) hr6 hR
          have gF := only_put5 (v0 := .int .i64 0) (v1 := .int .i64 0) (v2 := .int .i64 0) (v3 := .slice none 0 0) (v4 := .slice none 0 0) HG6.out (show w.heap.size ≤ g by omega)
          exact atEnd_ret (results_cell Tryz.results20 rfl (load_bench KF)) rfl ⟨_, Pl.zeroB, rfl, ⟨none, none, 0, 0, 0, 0, rfl, .of_own (World.ownsRow_nil _ _ _ _), .of_own (World.ownsRow_nil _ _ _ _)⟩, ⟨by decide, by decide, by decide, by decide, fun s hs => by cases hs⟩, rF.more (by omega), gF⟩
        · obtain ⟨u0, u1, u2, u3, u4⟩ := blk5c KD
          have HS5 := Lib.hid s5
          have hc1 : (w6.alloc (.cells #[.string ⟨#[120, 43]⟩] 9)).cell? ⟨w6.heap.size, 0, none⟩ = some (.string (Ba [120, 43])) := (Blk.new w6 9 #[.string ⟨#[120, 43]⟩]).cell 0
          have pa := p6.alloc (.cells #[.string ⟨#[120, 43]⟩] 9)
          clear s5
          go_upto_region 17 with (at_builtin; refine app_text rfl (.tmp 34) (.tmp 35) rfl g m d P ts [120, 43] ⟨w6.heap.size, 0, none⟩ rfl rfl pa hc1 (by omega) (by simp; omega) ?_; go_must (intro P7 d7 w7 row7 hb7 hg7; have KD7 := Blk.grown_ne (KD.alloc _) pa (by decide) hg7; have f4 : w7.frozen? ⟨D, 4, none⟩ = false := KD7.frozen 4; have x4 : w7.cell? ⟨D, 4, none⟩ = some (.slice P m d) := KD7.cell 4))
          have K07 := Blk.grown_ne (K0.alloc _) pa (by decide) hg7
          have o7 := ORow.grown_ne (o6.alloc _) pa (by decide) hg7
          have hr7 := (hr6.alloc (.cells #[.string ⟨#[120, 43]⟩] 9)).below hb7 hR
          have HG7 := Lib.hid (only_below (HG6.out.trans (World.grownBy_alloc _ _ _)) hb7 (by omega))
          have q7 : ∀ s ∈ ts ++ [([120, 43] : List UInt8)], s.length ≤ 70 := by
            intro s hs
            rcases List.mem_append.1 hs with h | h
            · exact HS5.out s h
            · rw [List.mem_singleton.1 h]; decide
          obtain ⟨w8, hw8⟩ : ∃ w8, w8 = w7.setCell ⟨D, 4, none⟩ (.slice P7 (m + 1) d7) := ⟨_, rfl⟩
          have K8 : Blk w8 D 44 #[.int .i64 k, .int .i64 x, .int .i64 y, .slice A n c, .slice P7 (m + 1) d7] := by rw [hw8]; exact KD7.set_ 4 (.slice P7 (m + 1) d7)
          have K08 : Blk w8 g 44 #[.int .i64 0, .int .i64 0, .int .i64 0, .slice none 0 0, .slice none 0 0] := by rw [hw8]; exact K07.far (p := ⟨D, 4, none⟩) (Ne.symm hDg) (.slice P7 (m + 1) d7)
          have hr8 : Rdr w8 R (M + 2) := by rw [hw8]; exact hr7.below (B := D) ((Below.refl D _).setCell (p := ⟨D, 4, none⟩) (Nat.le_refl _) (.slice P7 (m + 1) d7)) (by omega)
          have HG8 : Hid (w.grownBy w8 (some R)) := by rw [hw8]; exact Lib.hid (only_below HG7.out ((Below.refl D _).setCell (p := ⟨D, 4, none⟩) (Nat.le_refl _) (.slice P7 (m + 1) d7)) (by omega))
          have o8 : ORow w8 g 3 A n c (I64 E) := by rw [hw8]; exact o7.set_blk (o := 4) KD7 (by decide) (.slice P7 (m + 1) d7)
          have p8 : ORow w8 g 9 P7 (m + 1) d7 (Tx (ts ++ [[120, 43]])) := by rw [hw8]; exact row7.set_blk (o := 4) KD7 (by decide) (.slice P7 (m + 1) d7)
          rw [← hw8]
          clear hw8 u0 u1 u2 u3 u4 f4 x4 KD K0 o6 p6 hr6 HG6 KD7 K07 o7 row7 hr7 HG7 hc1 pa hb7 hg7
          have KD := K8
          have K0 := K08
          obtain ⟨u0, u1, u2, u3, u4⟩ := blk5c KD
          obtain ⟨v0, v1, v2, v3, v4⟩ := blk5c K0
          have f0 := K0.frozen 0
          have f1 := K0.frozen 1
          have f2 := K0.frozen 2
          have f3 := K0.frozen 3
          have f4 := K0.frozen 4
          go_wp2_with (with_reducible refine AtEnd.of ?_)
          have KF := put5_blk (v0 := .int .i64 k) (v1 := .int .i64 x) (v2 := .int .i64 y) (v3 := .slice A n c) (v4 := .slice P7 (m + 1) d7) (K0)
          have oF := put5_orow_ne (v0 := .int .i64 k) (v1 := .int .i64 x) (v2 := .int .i64 y) (v3 := .slice A n c) (v4 := .slice P7 (m + 1) d7) (o8) (K0) (by decide)
          have pF := put5_orow_ne (v0 := .int .i64 k) (v1 := .int .i64 x) (v2 := .int .i64 y) (v3 := .slice A n c) (v4 := .slice P7 (m + 1) d7) (p8) (K0) (by decide)
          have rF := rdr_put5 (v0 := .int .i64 k) (v1 := .int .i64 x) (v2 := .int .i64 y) (v3 := .slice A n c) (v4 := .slice P7 (m + 1) d7) (hr8) hR
          have gF := only_put5 (v0 := .int .i64 k) (v1 := .int .i64 x) (v2 := .int .i64 y) (v3 := .slice A n c) (v4 := .slice P7 (m + 1) d7) (HG8.out) (show w.heap.size ≤ g by omega)
          exact atEnd_ret (results_cell Tryz.results20 rfl (load_bench KF)) rfl ⟨_, ⟨k, x, y, E, ts ++ [[120, 43]]⟩, rfl, ⟨A, P7, n, c, m + 1, d7, rfl, oF.mono (by omega), pF.mono (by omega)⟩, ⟨s1, s2, s3, by show (ts ++ [_]).length ≤ 21; simp; omega, q7⟩, rF.more (by omega), gF⟩
end Go.Proofs.YtamhpgledbmnoaaGreatDoor
