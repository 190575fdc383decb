/-
  Drawn widths, words, bits and lanes: each lies in a range; only the reader's block turns.
  Conditions: the reader has picked at most a million times.
-/
import Derived.Test.YtnjcephddilalabD1
import Derived.Test.YtnjcephddilalabW1
namespace Go.Proofs.Ytnjcephddilalab
set_option linter.unusedVariables false
set_option linter.unusedSimpArgs false
open Go.RowKit

def Drawn (lo hi : Int) (R N : Nat) (w : World) (e : Ending) (w' : World) : Prop :=
  ∃ v, e = .returned (.int .i64 v) ∧ lo ≤ v ∧ v ≤ hi ∧ Rdr w' R N ∧ w.grownBy w' (some R)
theorem Rdr.alloc {w : World} {R N : Nat} (h : Rdr w R N) (o : Obj) : Rdr (w.alloc o) R N := h.below ((Below.refl w.heap.size _).alloc (Nat.le_refl _) o) h.lt
theorem grown_alloc {w w' w2 : World} {R : Nat} {o : Obj} (h : w.grownBy w' (some R)) (h2 : (w'.alloc o).grownBy w2 (some R)) : w.grownBy w2 (some R) :=
  h.trans ((World.grownBy_alloc w' o (some R)).trans h2)
/-- A list of numbers that was just made, indexed by what was picked. -/
theorem pick_cell {W w2 : World} {R : Nat} {T : TypeId} (xs : List Int) (hR : R < W.heap.size) (hg : (W.alloc (.cells (I64 xs).toArray T)).grownBy w2 (some R)) {n v : Int} (hv : InR n v) (hn : n = xs.length) (h1 : 1 ≤ n) :
    0 ≤ v ∧ v < n ∧ ∃ x, x ∈ xs ∧ w2.cell? ⟨W.heap.size, v.toNat, none⟩ = some (.int .i64 x) := by
  obtain ⟨h2, h3⟩ := hv.2 h1
  refine ⟨h2, h3, xs[v.toNat]'(by omega), List.getElem_mem _, ?_⟩
  have hb : w2.heap[W.heap.size]? = some (.cells (I64 xs).toArray T (0, 0)) := by
    rw [hg.block W.heap.size (by simp) (by simp; omega)]
    exact heap_alloc_new W _
  rw [cell_of_row w2 _ _ _ _ _ hb]
  simp [I64, show v.toNat < xs.length by omega]

set_option maxHeartbeats 1000000 in
theorem spec_l20Width (R N : Nat) (n : Int) (w : World) (h : Rdr w R N) (hN : N ≤ 900000) (hn : n ≤ 1000000) :
    Calls Try.prog 74 #[.pointer (some ⟨R, 0, none⟩), .int .i64 n] w (Drawn (-1) 13 R (N + 2) w) := by
  go_enter Try.func74, Try.ntmps74
  go_wp2_with fail
  refine (spec_odd R N n _ h (by omega) (by omega)).mono ?_
  rintro e w1 ⟨b, rfl, hbn, hr, hg⟩
  have hlt := hr.lt
  clear hbn
  cases b
  · go_wp2_with fail
    refine (spec_pick R (N + 1) 12 _ (hr.alloc _) (by omega) (by omega)).mono ?_
    rintro e w2 ⟨v, rfl, hv, hr2, hg2⟩
    obtain ⟨h1, h2, x, hx, hc⟩ := pick_cell [1, 2, 3, 4, 5, 6, 7, 8, 8, 8, 10, 12] hlt hg2 hv rfl (by omega)
    have hx' : 1 ≤ x ∧ x ≤ 12 := by simp at hx; omega
    have HG := Lib.hid (grown_alloc hg hg2)
    clear hx hg hg2 hv
    go_wp2
    go_ret
    exact ⟨_, rfl, by omega, by omega, hr2, HG.out⟩
  · go_wp2_with fail
    refine (spec_pick R (N + 1) 3 _ (hr.alloc _) (by omega) (by omega)).mono ?_
    rintro e w2 ⟨v, rfl, hv, hr2, hg2⟩
    obtain ⟨h1, h2, x, hx, hc⟩ := pick_cell [0, -1, 13] hlt hg2 hv rfl (by omega)
    have hx' : -1 ≤ x ∧ x ≤ 13 := by simp at hx; omega
    have HG := Lib.hid (grown_alloc hg hg2)
    clear hx hg hg2 hv
    go_wp2
    go_ret
    exact ⟨_, rfl, by omega, by omega, hr2, HG.out⟩
set_option maxHeartbeats 1000000 in
theorem spec_l20Word_lo (R N : Nat) (k n : Int) (w : World) (h : Rdr w R N) (hN : N ≤ 900000) (hn : n ≤ 1000000) (lo : Int) (hlo : lo ≤ -1 ∨ lo ≤ 0 ∧ n ≤ 0) (hk : k < 1) :
    Calls Try.prog 75 #[.pointer (some ⟨R, 0, none⟩), .int .i64 k, .int .i64 n] w (Drawn lo 4096 R (N + 4) w) := by
  go_enter Try.func75, Try.ntmps75
  go_wp2_with fail
  refine (spec_odd R N n _ h (by omega) (by omega)).mono ?_
  rintro e w1 ⟨b, rfl, hbn, hr, hg⟩
  have hlt := hr.lt
  cases b
  · clear hbn
    go_wp2_with fail
    refine (spec_pick R (N + 1) 6 _ hr (by omega) (by omega)).mono ?_
    rintro e w2 ⟨v, rfl, hv, hr2, hg2⟩
    have hlt2 := hr2.lt
    have hg3 := hg.trans hg2
    have HG3 := Lib.hid hg3
    clear hg hg2 hg3 hv
    by_cases hv0 : v = 0
    · subst hv0
      go_wp2_with fail
      refine (spec_pick R (N + 2) 5 _ (hr2.alloc _) (by omega) (by omega)).mono ?_
      rintro e w3 ⟨u, rfl, hu, hr3, hg3⟩
      obtain ⟨h1, h2, x, hx, hc⟩ := pick_cell [0, 1, 1, 0, 1] hlt2 hg3 hu rfl (by omega)
      have hx' : 0 ≤ x ∧ x ≤ 4096 := by simp at hx; omega
      have hx0 : 0 ≤ x := hx'.1
      have hm0 : 0 ≤ x % 2 := Int.emod_nonneg _ (by omega)
      have hm1 : x % 2 < 2 := Int.emod_lt_of_pos _ (by omega)
      have HG := Lib.hid (grown_alloc HG3.out hg3)
      clear hx hg3 hu
      go_wp2
      go_ret
      exact ⟨_, rfl, by omega, by omega, hr3.more (by omega), HG.out⟩
    · have hb : (v == 0) = false := by simpa using hv0
      clear hv0
      go_wp2_with fail
      refine (spec_pick R (N + 2) 256 _ hr2 (by omega) (by omega)).mono ?_
      rintro e w3 ⟨u, rfl, hu, hr3, hg3⟩
      obtain ⟨u0, u1⟩ := hu.2 (by omega)
      clear hu
      go_wp2_with fail
      refine (spec_pick R (N + 3) 16 _ hr3 (by omega) (by omega)).mono ?_
      rintro e w4 ⟨t, rfl, ht, hr4, hg4⟩
      obtain ⟨t0, t1⟩ := ht.2 (by omega)
      have HG := Lib.hid (HG3.out.trans (hg3.trans hg4))
      clear ht hg3 hg4
      have hm0 : 0 ≤ (u * 16 + t) % 2 := Int.emod_nonneg _ (by omega)
      have hm1 : (u * 16 + t) % 2 < 2 := Int.emod_lt_of_pos _ (by omega)
      go_wp2
      go_ret
      exact ⟨_, rfl, by omega, by omega, hr4, HG.out⟩
  · have hn0 : 0 < n := hbn rfl
    clear hbn
    go_wp2_with fail
    refine (spec_pick R (N + 1) 2 _ (hr.alloc _) (by omega) (by omega)).mono ?_
    rintro e w2 ⟨v, rfl, hv, hr2, hg2⟩
    obtain ⟨h1, h2, x, hx, hc⟩ := pick_cell [-1, 2] hlt hg2 hv rfl (by omega)
    have hx' : -1 ≤ x ∧ x ≤ 4096 := by simp at hx; omega
    have HG := Lib.hid (grown_alloc hg hg2)
    clear hx hg hg2 hv
    go_wp2
    go_ret
    exact ⟨_, rfl, by omega, by omega, hr2.more (by omega), HG.out⟩
set_option maxHeartbeats 1000000 in
theorem spec_l20Word_hi (R N : Nat) (k n : Int) (w : World) (h : Rdr w R N) (hN : N ≤ 900000) (hn : n ≤ 1000000) (lo : Int) (hlo : lo ≤ -1 ∨ lo ≤ 0 ∧ n ≤ 0) (hk : 12 < k) :
    Calls Try.prog 75 #[.pointer (some ⟨R, 0, none⟩), .int .i64 k, .int .i64 n] w (Drawn lo 4096 R (N + 4) w) := by
  go_enter Try.func75, Try.ntmps75
  go_wp2_with fail
  refine (spec_odd R N n _ h (by omega) (by omega)).mono ?_
  rintro e w1 ⟨b, rfl, hbn, hr, hg⟩
  have hlt := hr.lt
  cases b
  · clear hbn
    go_wp2_with fail
    refine (spec_pick R (N + 1) 6 _ hr (by omega) (by omega)).mono ?_
    rintro e w2 ⟨v, rfl, hv, hr2, hg2⟩
    have hlt2 := hr2.lt
    have hg3 := hg.trans hg2
    have HG3 := Lib.hid hg3
    clear hg hg2 hg3 hv
    by_cases hv0 : v = 0
    · subst hv0
      go_wp2_with fail
      refine (spec_pick R (N + 2) 5 _ (hr2.alloc _) (by omega) (by omega)).mono ?_
      rintro e w3 ⟨u, rfl, hu, hr3, hg3⟩
      obtain ⟨h1, h2, x, hx, hc⟩ := pick_cell [0, 4095, 2048, 2047, 1] hlt2 hg3 hu rfl (by omega)
      have hx' : 0 ≤ x ∧ x ≤ 4096 := by simp at hx; omega
      have hx0 : 0 ≤ x := hx'.1
      have hm0 : 0 ≤ x % 4096 := Int.emod_nonneg _ (by omega)
      have hm1 : x % 4096 < 4096 := Int.emod_lt_of_pos _ (by omega)
      have HG := Lib.hid (grown_alloc HG3.out hg3)
      clear hx hg3 hu
      go_wp2
      go_ret
      exact ⟨_, rfl, by omega, by omega, hr3.more (by omega), HG.out⟩
    · have hb : (v == 0) = false := by simpa using hv0
      clear hv0
      go_wp2_with fail
      refine (spec_pick R (N + 2) 256 _ hr2 (by omega) (by omega)).mono ?_
      rintro e w3 ⟨u, rfl, hu, hr3, hg3⟩
      obtain ⟨u0, u1⟩ := hu.2 (by omega)
      clear hu
      go_wp2_with fail
      refine (spec_pick R (N + 3) 16 _ hr3 (by omega) (by omega)).mono ?_
      rintro e w4 ⟨t, rfl, ht, hr4, hg4⟩
      obtain ⟨t0, t1⟩ := ht.2 (by omega)
      have HG := Lib.hid (HG3.out.trans (hg3.trans hg4))
      clear ht hg3 hg4
      have hm0 : 0 ≤ (u * 16 + t) % 4096 := Int.emod_nonneg _ (by omega)
      have hm1 : (u * 16 + t) % 4096 < 4096 := Int.emod_lt_of_pos _ (by omega)
      go_wp2
      go_ret
      exact ⟨_, rfl, by omega, by omega, hr4, HG.out⟩
  · have hn0 : 0 < n := hbn rfl
    clear hbn
    go_wp2_with fail
    refine (spec_pick R (N + 1) 2 _ (hr.alloc _) (by omega) (by omega)).mono ?_
    rintro e w2 ⟨v, rfl, hv, hr2, hg2⟩
    obtain ⟨h1, h2, x, hx, hc⟩ := pick_cell [-1, 4096] hlt hg2 hv rfl (by omega)
    have hx' : -1 ≤ x ∧ x ≤ 4096 := by simp at hx; omega
    have HG := Lib.hid (grown_alloc hg hg2)
    clear hx hg hg2 hv
    go_wp2
    go_ret
    exact ⟨_, rfl, by omega, by omega, hr2.more (by omega), HG.out⟩
set_option maxHeartbeats 1000000 in
theorem spec_l20Word_in (R N : Nat) (k n : Int) (w : World) (h : Rdr w R N) (hN : N ≤ 900000) (hn : n ≤ 1000000) (lo : Int) (hlo : lo ≤ -1 ∨ lo ≤ 0 ∧ n ≤ 0) (hk : 1 ≤ k) (hk2 : k ≤ 12) :
    Calls Try.prog 75 #[.pointer (some ⟨R, 0, none⟩), .int .i64 k, .int .i64 n] w (Drawn lo 4096 R (N + 4) w) := by
  have he := Pl.wrap_pw k (by omega) (by omega)
  have hp := Pl.pw_lt k hk2
  have hp0 := Pl.pw_le 1 k hk
  have hp1 : Pl.pw 1 = 2 := by decide
  rw [hp1] at hp0
  clear hp1
  go_enter Try.func75, Try.ntmps75
  go_wp2_with fail
  refine (spec_odd R N n _ h (by omega) (by omega)).mono ?_
  rintro e w1 ⟨b, rfl, hbn, hr, hg⟩
  have hlt := hr.lt
  cases b
  · clear hbn
    go_wp2_with fail
    refine (spec_pick R (N + 1) 6 _ hr (by omega) (by omega)).mono ?_
    rintro e w2 ⟨v, rfl, hv, hr2, hg2⟩
    have hlt2 := hr2.lt
    have hg3 := hg.trans hg2
    have HG3 := Lib.hid hg3
    clear hg hg2 hg3 hv
    by_cases hv0 : v = 0
    · subst hv0
      go_wp2_with fail
      refine (spec_pick R (N + 2) 5 _ (hr2.alloc _) (by omega) (by omega)).mono ?_
      rintro e w3 ⟨u, rfl, hu, hr3, hg3⟩
      obtain ⟨h1, h2, x, hx, hc⟩ := pick_cell [0, Pl.pw k - 1, Pl.pw k / 2, Pl.pw k / 2 - 1, 1] hlt2 hg3 hu rfl (by omega)
      have hx' : 0 ≤ x ∧ x ≤ 4096 := by simp at hx; omega
      have hx0 : 0 ≤ x := hx'.1
      have hm0 : 0 ≤ x % Pl.pw k := Int.emod_nonneg _ (by omega)
      have hm1 : x % Pl.pw k < Pl.pw k := Int.emod_lt_of_pos _ (by omega)
      have HG := Lib.hid (grown_alloc HG3.out hg3)
      clear hx hg3 hu
      go_wp2
      go_ret
      exact ⟨_, rfl, by omega, by omega, hr3.more (by omega), HG.out⟩
    · have hb : (v == 0) = false := by simpa using hv0
      clear hv0
      go_wp2_with fail
      refine (spec_pick R (N + 2) 256 _ hr2 (by omega) (by omega)).mono ?_
      rintro e w3 ⟨u, rfl, hu, hr3, hg3⟩
      obtain ⟨u0, u1⟩ := hu.2 (by omega)
      clear hu
      go_wp2_with fail
      refine (spec_pick R (N + 3) 16 _ hr3 (by omega) (by omega)).mono ?_
      rintro e w4 ⟨t, rfl, ht, hr4, hg4⟩
      obtain ⟨t0, t1⟩ := ht.2 (by omega)
      have HG := Lib.hid (HG3.out.trans (hg3.trans hg4))
      clear ht hg3 hg4
      have hm0 : 0 ≤ (u * 16 + t) % Pl.pw k := Int.emod_nonneg _ (by omega)
      have hm1 : (u * 16 + t) % Pl.pw k < Pl.pw k := Int.emod_lt_of_pos _ (by omega)
      go_wp2
      go_ret
      exact ⟨_, rfl, by omega, by omega, hr4, HG.out⟩
  · have hn0 : 0 < n := hbn rfl
    clear hbn
    go_wp2_with fail
    refine (spec_pick R (N + 1) 2 _ (hr.alloc _) (by omega) (by omega)).mono ?_
    rintro e w2 ⟨v, rfl, hv, hr2, hg2⟩
    obtain ⟨h1, h2, x, hx, hc⟩ := pick_cell [-1, Pl.pw k] hlt hg2 hv rfl (by omega)
    have hx' : -1 ≤ x ∧ x ≤ 4096 := by simp at hx; omega
    have HG := Lib.hid (grown_alloc hg hg2)
    clear hx hg hg2 hv
    go_wp2
    go_ret
    exact ⟨_, rfl, by omega, by omega, hr2.more (by omega), HG.out⟩
theorem spec_l20WordL (R N : Nat) (k n : Int) (w : World) (h : Rdr w R N) (hN : N ≤ 900000) (hn : n ≤ 1000000) (lo : Int) (hlo : lo ≤ -1 ∨ lo ≤ 0 ∧ n ≤ 0) :
    Calls Try.prog 75 #[.pointer (some ⟨R, 0, none⟩), .int .i64 k, .int .i64 n] w (Drawn lo 4096 R (N + 4) w) := by
  by_cases h1 : k < 1
  · exact spec_l20Word_lo R N k n w h hN hn lo hlo h1
  · by_cases h2 : 12 < k
    · exact spec_l20Word_hi R N k n w h hN hn lo hlo h2
    · exact spec_l20Word_in R N k n w h hN hn lo hlo (by omega) (by omega)
theorem spec_l20Word (R N : Nat) (k n : Int) (w : World) (h : Rdr w R N) (hN : N ≤ 900000) (hn : n ≤ 1000000) :
    Calls Try.prog 75 #[.pointer (some ⟨R, 0, none⟩), .int .i64 k, .int .i64 n] w (Drawn (-1) 4096 R (N + 4) w) := spec_l20WordL R N k n w h hN hn (-1) (by omega)

def Drawn2 (R N : Nat) (w : World) (e : Ending) (w' : World) : Prop :=
  ∃ k x, e = .returned (.tuple #[.int .i64 k, .int .i64 x]) ∧ -1 ≤ k ∧ k ≤ 13 ∧ -1 ≤ x ∧ x ≤ 4096 ∧ Rdr w' R N ∧ w.grownBy w' (some R)
def Drawn3 (R N : Nat) (w : World) (e : Ending) (w' : World) : Prop :=
  ∃ k x y, e = .returned (.tuple #[.int .i64 k, .int .i64 x, .int .i64 y]) ∧ -1 ≤ k ∧ k ≤ 13 ∧ -1 ≤ x ∧ x ≤ 4096 ∧ -1 ≤ y ∧ y ≤ 4096 ∧ Rdr w' R N ∧ w.grownBy w' (some R)

set_option maxHeartbeats 1000000 in
theorem spec_l20Two (R N : Nat) (n : Int) (w : World) (h : Rdr w R N) (hN : N ≤ 800000) (hn0 : 0 ≤ n) (hn : n ≤ 1000) :
    Calls Try.prog 48 #[.pointer (some ⟨R, 0, none⟩), .int .i64 n] w (Drawn3 R (N + 10) w) := by
  go_enter Try.func48, Try.ntmps48
  go_wp2_with fail
  refine (spec_l20Width R N _ _ h (by omega) (by omega)).mono ?_
  rintro e w1 ⟨k, rfl, k0, k1, hr, hg⟩
  have HG := Lib.hid hg
  clear hg
  go_wp2_with fail
  refine (spec_l20Word R (N + 2) k _ _ hr (by omega) (by omega)).mono ?_
  rintro e w2 ⟨x, rfl, x0, x1, hr2, hg2⟩
  have HG2 := Lib.hid (HG.out.trans hg2)
  clear hg2
  go_wp2_with fail
  refine (spec_l20Word R (N + 2 + 4) k _ _ hr2 (by omega) (by omega)).mono ?_
  rintro e w3 ⟨y, rfl, y0, y1, hr3, hg3⟩
  have HG3 := Lib.hid (HG2.out.trans hg3)
  clear hg3
  go_wp2
  go_ret3
  exact ⟨k, x, y, rfl, k0, k1, x0, x1, y0, y1, hr3, HG3.out⟩
end Go.Proofs.Ytnjcephddilalab
