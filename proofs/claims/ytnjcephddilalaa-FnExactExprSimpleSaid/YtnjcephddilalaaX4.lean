/-
  The exact law of ExprValid: for every list of numbers the program and the reference agree, and what was given is as it was.
  Conditions: none.
-/
import Derived.Test.YtnjcephddilalaaE1
namespace Go.Proofs.Ytnjcephddilalaa
set_option linter.unusedVariables false
set_option linter.unusedSimpArgs false
open Go.RowKit
/-- A slice of ints that came in reads as a list. -/
theorem ints_of_row {w : World} {a : Option Addr} {len cap : Nat} {zs : List Int} (h : IsRow .i64 w a len cap zs) :
    ∃ xs, Rd w w.heap.size a len (I64 xs) ∧ (∀ x ∈ xs, (Lit.int .i64 x).wf = true) := by
  rcases h with ⟨rfl, rfl, rfl, rfl⟩ | ⟨x, rfl, hl, hm, hz, hc, hw⟩
  · exact ⟨[], Rd.zero, fun z hz => by cases hz⟩
  · refine ⟨zs.take len, ⟨by simp [I64]; omega, ?_⟩, fun z hz => hw z (List.mem_of_mem_take hz)⟩
    rcases Nat.eq_zero_or_pos len with h0 | h0
    · exact .inl h0
    · obtain ⟨b, off, spot⟩ := x
      have h1 := hc 0 (by omega)
      have hspot : spot = none := by simpa [Addr.add] using World.cell?_spot h1
      subst hspot
      refine .inr ⟨b, off, rfl, ?_, fun j u hu => ?_⟩
      · have := World.block_lt_of_cell? w _ h1
        rwa [block_of_add] at this
      · have hj : j < len := by
          have := (List.getElem?_eq_some_iff.1 hu).1
          simp [I64] at this
          omega
        have h2 := hc j (by omega)
        have e : (⟨b, off, none⟩ : Addr).add j = ⟨b, off + j, none⟩ := by
          unfold Addr.add
          split
          · rename_i h0; subst h0; rfl
          · rfl
        rw [e] at h2
        rw [h2]
        have hx : (I64 (zs.take len))[j]? = some (.int .i64 (zs.getD j 0)) := by
          simp [I64, List.getElem?_take, hj]
          rw [List.getElem?_eq_getElem (by omega)]
          simp
        rw [hx] at hu
        exact hu
set_option maxHeartbeats 1000000 in
theorem law_FnExactExprValid (a0 : Option Addr) (len0 cap0 : Nat) (z0 : List Int) (w : World) (w0 : IsRow .i64 w a0 len0 cap0 z0) :
    Calls Try.prog 3 #[.slice a0 len0 cap0] w fun e w' => e = .returned (.bool true) ∧ Below w.heap.size w w' := by
  obtain ⟨xs, hr, _⟩ := ints_of_row w0
  clear w0
  by_cases hbig : 1048576 < len0
  · have hbi : (1048576 : Int) < len0 := by omega
    go_enter Try.func3, Try.ntmps3
    go_wp2
    go_ret
    exact ⟨rfl, Below.refl _ _⟩
  have hbi : ¬ (1048576 : Int) < len0 := by omega
  have lx : xs.length = len0 := by have := hr.len; rwa [I64_len] at this
  go_enter Try.func3, Try.ntmps3
  go_wp2_with fail
  refine (laws_toIntS a0 len0 cap0 _ xs _ hr (Nat.le_refl _) (by omega)).mono ?_
  rintro e w1 hh
  obtain ⟨A1, c1, rfl, own1, hb1⟩ := ownInts_n hh lx
  clear hh
  go_wp2_with fail
  refine (spec_ExprValid _ _ _ _ xs _ (rd_own own1) (by omega)).mono ?_
  rintro e w' ⟨rfl, rfl⟩
  have r1 := hr.below hb1
  go_wp2_with fail
  refine (laws_toIntS a0 len0 cap0 _ xs _ r1 hb1.size (by omega)).mono ?_
  rintro e w2 hh
  obtain ⟨A2, c2, rfl, own2, hb2⟩ := ownInts_n hh lx
  clear hh own1
  go_wp2_with fail
  refine (impl_ExprValid _ _ _ _ xs _ (rd_own own2) (by omega)).mono ?_
  rintro e w' ⟨rfl, rfl⟩
  have r2 := r1.below (hb2.mono hb1.size)
  have q1 := hb1.size
  have q2 := hb2.size
  go_wp2_with fail
  refine (laws_toIntS a0 len0 cap0 _ xs _ r2 (by omega) (by omega)).mono ?_
  rintro e w3 hh
  obtain ⟨A3, c3, rfl, own3, hb3⟩ := ownInts_n hh lx
  clear hh
  go_wp2_with fail
  refine (laws_eqIntS _ _ _ _ _ _ _ xs xs _ (((rd_own own2).below hb3).more hb3.size) (rd_own own3) (by omega) (by omega)).mono ?_
  rintro e w4 ⟨rfl, q, rfl⟩
  have HB := Lib.hid (below_drewN (below_step (below_step hb1 hb2 q1) hb3 (by omega)) q)
  clear hb1 hb2 hb3 own2 own3 r1 r2 hr
  go_wp2_with fail
  all_goals (go_ret; exact ⟨ret_bool (by first | rfl | (simp; done)), HB.out⟩)
end Go.Proofs.Ytnjcephddilalaa
