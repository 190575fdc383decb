/-
  The law FnBenchValid: for all codes it returns true.
  Conditions: none.
-/
import Derived.Test.YtfnolajhhdnpoaaD15
import Derived.Test.YtfnolajhhdnpoaaKD
namespace Go.Proofs.Ytfnolajhhdnpoaa
set_option linter.unusedVariables false
set_option linter.unusedSimpArgs false
open Go.RowKit
theorem bare_valid {k x y : Int} {E : List Int} {ts : List (List UInt8)} (h : Pl.benchValid ⟨k, x, y, E, ts⟩ = true) : Pl.benchValid ⟨k, x, y, E, []⟩ = true := by
  obtain ⟨h1, h2, _, _⟩ := Pl.bv_parts h
  exact Pl.bv_mk h1 h2 (by simp) rfl
theorem zero_bad : Pl.benchValid Pl.zeroB = false := by decide
theorem rd_nil (w : World) (B : Nat) (xs : List Value) (h : xs = []) : Rd w B none 0 xs := by subst h; exact Rd.zero
set_option maxRecDepth 100000 in
set_option maxHeartbeats 4000000 in
theorem law_FnBenchValid (a0 : Option Addr) (len0 cap0 : Nat) (z0 : List Int) (w : World) (w0 : IsRow .u8 w a0 len0 cap0 z0) :
    Calls Try.prog 5 #[.slice a0 len0 cap0] w fun e w' => e = .returned (.bool true) ∧ Below w.heap.size w w' := by
  obtain ⟨hc, hl, hm⟩ := code_of_row w0
  clear w0
  have hm2 := hm
  unfold maxLen at hm2
  by_cases hbig : 1048576 < len0
  · have hbi : (1048576 : Int) < len0 := by omega
    go_enter Try.func5, Try.ntmps5
    go_wp2
    go_ret
    exact ⟨rfl, Below.refl _ _⟩
  have hbi : ¬ (1048576 : Int) < len0 := by omega
  go_enter Try.func5, Try.ntmps5
  go_wp2_with fail
  refine (spec_DrawBenchValid a0 len0 cap0 _ hc hl hm).mono ?_
  rintro e v0 ⟨v, ⟨k, x, y, E, ts⟩, rfl, ⟨A, P, n, c, m, d, rfl, o, p⟩, ⟨_, _, s3, s4, s5⟩, HB0⟩
  have ln : E.length = n := by have := o.len; rwa [I64_len] at this
  have lm : ts.length = m := by have := p.len; rwa [Tx_len] at this
  have s3 : E.length ≤ 24 := s3
  have s4 : ts.length ≤ 21 := s4
  have hs1 : ∀ s ∈ ts, s.length ≤ 1000000000000 := fun s hs => by have := s5 s hs; omega
  have hs2 : ∀ s ∈ ts, s.length ≤ 2000000 := fun s hs => by have := s5 s hs; omega
  have z0 := HB0.size
  obtain ⟨D, hD⟩ : ∃ D, v0.heap.size = D := ⟨_, rfl⟩
  obtain ⟨v1, hv1⟩ : ∃ v1, v1 = v0.alloc (.cells #[.int .i64 k, .int .i64 x, .int .i64 y, .slice A n c, .slice P m d] 28) := ⟨_, rfl⟩
  have KD : Blk v1 D 28 #[.int .i64 k, .int .i64 x, .int .i64 y, .slice A n c, .slice P m d] := by rw [hv1, ← hD]; exact Blk.new v0 _ _
  have rx : Rd v1 v1.heap.size A n (I64 E) := by rw [hv1]; exact (o.alloc _).rd
  have rp : Rd v1 v1.heap.size P m (Tx ts) := by rw [hv1]; exact (p.alloc _).rd
  have HB1 : Below w.heap.size w v1 := by rw [hv1]; exact HB0.alloc z0 _
  have z1 : w.heap.size ≤ v1.heap.size := HB1.size
  clear hc hl hm hbig hm2 HB0 o p s5
  unfold benchV
  go_upto_region 4 with (fail)
  rw [← hv1]
  clear hv1
  have ci := Lib.hid (fun w' B h h' hB => impl_BenchValid ⟨k, x, y, E, ts⟩ A P n c m d B w' h h' hB (by omega) (by omega) hs1)
  have cs := Lib.hid (fun w' B h h' hB => spec_BenchValid ⟨k, x, y, E, ts⟩ A P n c m d B w' h h' hB (by omega) (by omega) hs2)
  have cb := Lib.hid (fun w' B h hB => impl_BenchValid ⟨k, x, y, E, []⟩ A none n c 0 0 B w' h (rd_nil w' B _ rfl) hB (by omega) (by omega) (fun s hs => by cases hs))
  have cz := Lib.hid (fun w' => impl_BenchValid Pl.zeroB none none 0 0 0 0 w'.heap.size w' (rd_nil w' _ _ rfl) (rd_nil w' _ _ rfl) (Nat.le_refl _) (by omega) (by omega) (fun s hs => by cases hs))
  rw [zero_bad] at cz
  have hbare := fun h => bare_valid (k := k) (x := x) (y := y) (E := E) (ts := ts) h
  clear hs1 hs2
  generalize Pl.benchValid ⟨k, x, y, E, ts⟩ = ok at *
  generalize Pl.benchValid ⟨k, x, y, E, []⟩ = ok' at *
  have HX := Lib.hid rx
  have HP := Lib.hid rp
  have HBX := Lib.hid HB1
  have hDl := KD.lt
  obtain ⟨u0, u1, u2, u3, u4⟩ := blk5c KD
  clear rx rp HB1
  go_wp2_with fail
  refine (ci.out _ _ HX.out HP.out (by exact Nat.le_refl _)).mono ?_
  rintro e v2 ⟨rfl, hb2⟩
  have z2 := hb2.size
  have KD2 := KD.below hb2 hDl
  have HX2 := Lib.hid (HX.out.below hb2)
  have HP2 := Lib.hid (HP.out.below hb2)
  have HB2 := Lib.hid (below_step HBX.out hb2 z1)
  clear u0 u1 u2 u3 u4 hb2
  obtain ⟨u0, u1, u2, u3, u4⟩ := blk5c KD2
  go_wp2_with fail
  refine (cs.out _ _ HX2.out HP2.out (by exact z2)).mono ?_
  rintro e v3 ⟨rfl, hb3⟩
  have z3 := hb3.size
  have KD3 := KD2.below hb3 (by omega)
  have HX3 := Lib.hid (HX2.out.below (hb3.mono z2))
  have HB3 := Lib.hid (below_step HB2.out hb3 (by omega))
  have hoo : (ok != ok) = false := by simp
  clear u0 u1 u2 u3 u4 hb3
  obtain ⟨u0, u1, u2, u3, u4⟩ := blk5c KD3
  go_upto_region 8 with (fail)
  obtain ⟨v4, hv4⟩ : ∃ v4, v4 = v3.alloc (.cells #[.int .i64 k, .int .i64 x, .int .i64 y, .slice A n c, .slice none 0 0] 28) := ⟨_, rfl⟩
  have KB : Blk v4 v3.heap.size 28 #[.int .i64 k, .int .i64 x, .int .i64 y, .slice A n c, .slice none 0 0] := by rw [hv4]; exact Blk.new v3 _ _
  have HX4 := Lib.hid (show Rd v4 v1.heap.size A n (I64 E) by rw [hv4]; exact HX3.out.below ((Below.refl _ _).alloc (by omega) _))
  have HB4 := Lib.hid (show Below w.heap.size w v4 by rw [hv4]; exact HB3.out.alloc (by omega) _)
  have z4 : v3.heap.size ≤ v4.heap.size := by rw [hv4]; simp
  rw [← hv4]
  clear hv4 u0 u1 u2 u3 u4
  obtain ⟨u0, u1, u2, u3, u4⟩ := blk5c KB
  cases ok
  · go_wp2_with fail
    refine (cz.out _).mono ?_
    rintro e v5 ⟨rfl, hb5⟩
    have HB5 := Lib.hid (below_step HB4.out hb5 (by omega))
    have z5 := hb5.size
    go_wp2_with fail
    refine (laws_alive _).mono ?_
    rintro e v6 ⟨rfl, hb6⟩
    have HB6 := Lib.hid (below_step HB5.out hb6 (by omega))
    go_wp2_with fail
    go_ret
    exact ⟨rfl, HB6.out⟩
  · obtain rfl := hbare rfl
    go_wp2_with fail
    refine (cb.out _ _ HX4.out (by omega)).mono ?_
    rintro e v5 ⟨rfl, hb5⟩
    have HB5 := Lib.hid (below_step HB4.out hb5 (by omega))
    have z5 := hb5.size
    go_wp2_with fail
    refine (cz.out _).mono ?_
    rintro e v6 ⟨rfl, hb6⟩
    have HB6 := Lib.hid (below_step HB5.out hb6 (by omega))
    have z6 := hb6.size
    go_wp2_with fail
    refine (laws_alive _).mono ?_
    rintro e v7 ⟨rfl, hb7⟩
    have HB7 := Lib.hid (below_step HB6.out hb7 (by omega))
    go_wp2_with fail
    go_ret
    exact ⟨rfl, HB7.out⟩
end Go.Proofs.Ytfnolajhhdnpoaa
