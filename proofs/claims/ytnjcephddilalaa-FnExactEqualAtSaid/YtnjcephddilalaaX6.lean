/-
  The exact law of EqualAt.
  Conditions: none.
-/
import Derived.Test.YtnjcephddilalaaE5
import Derived.Test.YtnjcephddilalaaX4
namespace Go.Proofs.Ytnjcephddilalaa
set_option linter.unusedVariables false
set_option linter.unusedSimpArgs false
open Go.RowKit
set_option maxHeartbeats 1000000 in
theorem law_FnExactEqualAt (k : Int) (a0 : Option Addr) (len0 cap0 : Nat) (z0 : List Int) (a1 : Option Addr) (len1 cap1 : Nat) (z1 : List Int) (w : World) (wk : (Lit.int .i64 k).wf = true) (w0 : IsRow .i64 w a0 len0 cap0 z0) (w1 : IsRow .i64 w a1 len1 cap1 z1) :
    Calls Try.prog 9 #[.int .i64 k, .slice a0 len0 cap0, .slice a1 len1 cap1] w fun e w' => e = .returned (.bool true) ∧ Below w.heap.size w w' := by
  obtain ⟨xs, hr, _⟩ := ints_of_row w0
  obtain ⟨ys, hs, _⟩ := ints_of_row w1
  clear w0 w1
  by_cases hbig : 1048576 < len0
  · have hbi : (1048576 : Int) < len0 := by omega
    go_enter Try.func9, Try.ntmps9
    go_wp2
    go_ret
    exact ⟨rfl, Below.refl _ _⟩
  have hbi : ¬ (1048576 : Int) < len0 := by omega
  by_cases hbig1 : 1048576 < len1
  · have hbi1 : (1048576 : Int) < len1 := by omega
    go_enter Try.func9, Try.ntmps9
    go_wp2
    go_ret
    exact ⟨rfl, Below.refl _ _⟩
  have hbi1 : ¬ (1048576 : Int) < len1 := by omega
  have lx : xs.length = len0 := by have := hr.len; rwa [I64_len] at this
  have ly : ys.length = len1 := by have := hs.len; rwa [I64_len] at this
  have cs := Lib.hid (fun A A' n c n' c' B w => spec_EqualAt k A A' n c n' c' B xs ys w)
  have ci := Lib.hid (fun A A' n c n' c' B w => impl_EqualAt k A A' n c n' c' B xs ys w)
  generalize Pl.equalAt k xs ys = V at *
  obtain ⟨b, u, v⟩ := V
  go_enter Try.func9, Try.ntmps9
  go_wp2_with fail
  refine (laws_toIntS a0 len0 cap0 _ xs _ hr (Nat.le_refl _) (by omega)).mono ?_
  rintro e v1 hh
  obtain ⟨A1, c1, rfl, own1, hb1⟩ := ownInts_n hh lx
  have q1 := hb1.size
  have s1 := hs.below hb1
  have r1 := hr.below hb1
  go_wp2_with fail
  refine (laws_toIntS a1 len1 cap1 _ ys _ s1 (by omega) (by omega)).mono ?_
  rintro e v2 hh2
  obtain ⟨A2, c2, rfl, own2, hb2⟩ := ownInts_n hh2 ly
  have q2 := hb2.size
  have s2 := s1.below (hb2.mono q1)
  have r2 := r1.below (hb2.mono q1)
  clear hh hh2
  go_wp2_with fail
  refine (cs.out _ _ _ _ _ _ _ _ (((rd_own own1).below hb2).more q2) (rd_own own2) (Nat.le_refl _) (by omega) (by omega)).mono ?_
  rintro e v3 ⟨rfl, hb3⟩
  have q3 := hb3.size
  have s3 := s2.below (hb3.mono (by omega))
  have r3 := r2.below (hb3.mono (by omega))
  clear own1 own2 s1 r1 s2 r2
  go_wp2_with fail
  refine (laws_toIntS a0 len0 cap0 _ xs _ r3 (by omega) (by omega)).mono ?_
  rintro e v4 hh
  obtain ⟨A4, c4, rfl, own4, hb4⟩ := ownInts_n hh lx
  have q4 := hb4.size
  have s4 := s3.below (hb4.mono (by omega))
  have r4 := r3.below (hb4.mono (by omega))
  go_wp2_with fail
  refine (laws_toIntS a1 len1 cap1 _ ys _ s4 (by omega) (by omega)).mono ?_
  rintro e v5 hh2
  obtain ⟨A5, c5, rfl, own5, hb5⟩ := ownInts_n hh2 ly
  have q5 := hb5.size
  have s5 := s4.below (hb5.mono (by omega))
  have r5 := r4.below (hb5.mono (by omega))
  have o4 := ((rd_own own4).below hb5).more q5
  have o5 := rd_own own5
  clear hh hh2 own4 own5 s3 r3 s4 r4
  go_wp2_with fail
  refine (ci.out _ _ _ _ _ _ _ _ o4 o5 (Nat.le_refl _) (by omega) (by omega)).mono ?_
  rintro e v6 ⟨rfl, hb6⟩
  have q6 := hb6.size
  have s6 := s5.below (hb6.mono (by omega))
  have r6 := r5.below (hb6.mono (by omega))
  have p4 := o4.below hb6
  have p5 := o5.below hb6
  have HB6 := Lib.hid (below_step (below_step (below_step (below_step (below_step hb1 hb2 q1) hb3 (by omega)) hb4 (by omega)) hb5 (by omega)) hb6 (by omega))
  have hbb : (b != b) = false := by simp
  have huu : (u != u) = false := by simp
  have hvv : (v != v) = false := by simp
  clear hb1 hb2 hb3 hb4 hb5 hb6 o4 o5 s5 r5 cs ci hr hs
  go_wp2_with fail
  refine (laws_toIntS a0 len0 cap0 _ xs _ r6 (by omega) (by omega)).mono ?_
  rintro e v7 hh
  obtain ⟨A7, c7, rfl, own7, hb7⟩ := ownInts_n hh lx
  have q7 := hb7.size
  go_wp2_with fail
  refine (laws_eqIntS _ _ _ _ _ _ _ xs xs _ ((p4.below (hb7.mono q6)).more (by omega)) (rd_own own7) (by omega) (by omega)).mono ?_
  rintro e v8 ⟨rfl, q, rfl⟩
  have s7 := (s6.below (hb7.mono (by omega))).drewN q
  have p7 := (p5.below (hb7.mono q6)).drewN q
  have HB7 := Lib.hid (below_drewN (below_step HB6.out hb7 HB6.out.size) q)
  have q8 := HB7.out.size
  clear own7 hb7 hh p4 p5 s6 r6 HB6
  go_wp2_with fail
  refine (laws_toIntS a1 len1 cap1 _ ys _ s7 q8 (by omega)).mono ?_
  rintro e v9 hh
  obtain ⟨A9, c9, rfl, own9, hb9⟩ := ownInts_n hh ly
  have q9 := hb9.size
  have q9' : v7.heap.size ≤ v9.heap.size := q9
  have q8' : w.heap.size ≤ v7.heap.size := q8
  go_wp2_with fail
  refine (laws_eqIntS _ _ _ _ _ _ _ ys ys _ ((p7.below (hb9.mono (show v5.heap.size ≤ v7.heap.size by omega))).more (by omega)) (rd_own own9) (by omega) (by omega)).mono ?_
  rintro e v10 ⟨rfl, q', rfl⟩
  have HB9 := Lib.hid (below_drewN (below_step HB7.out hb9 (show w.heap.size ≤ v7.heap.size by omega)) q')
  clear own9 hb9 hh p7 s7
  go_wp2_with fail
  all_goals (go_ret; exact ⟨ret_bool (by first | rfl | (simp; done)), HB9.out⟩)
end Go.Proofs.Ytnjcephddilalaa
