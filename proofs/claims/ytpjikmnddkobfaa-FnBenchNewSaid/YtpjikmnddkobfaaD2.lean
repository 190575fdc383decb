/-
  Drawn widths, words, bits and lanes: each lies in a range; only the reader's block turns.
  Conditions: the reader has picked at most a million times.
-/
import Derived.Test.YtpjikmnddkobfaaD1
import Derived.Test.YtpjikmnddkobfaaW1
namespace Go.Proofs.Ytpjikmnddkobfaa
set_option linter.unusedVariables false
set_option linter.unusedSimpArgs false
open Go.RowKit

def Drawn (lo hi : Int) (R N : Nat) (w : World) (e : Ending) (w' : World) : Prop :=
  ∃ v, e = .returned (.int .i64 v) ∧ lo ≤ v ∧ v ≤ hi ∧ Rdr w' R N ∧ w.grownBy w' (some R)
theorem Rdr.alloc {w : World} {R N : Nat} (h : Rdr w R N) (o : Obj) : Rdr (w.alloc o) R N := h.below ((Below.refl w.heap.size _).alloc (Nat.le_refl _) o) h.lt
theorem grown_alloc {w w' w2 : World} {R : Nat} {o : Obj} (h : w.grownBy w' (some R)) (h2 : (w'.alloc o).grownBy w2 (some R)) : w.grownBy w2 (some R) :=
  h.trans ((World.grownBy_alloc w' o (some R)).trans h2)
/-- A list of numbers that was just made, indexed by what was picked. -/
theorem pick_cell {W w2 : World} {R : Nat} {T : TypeId} (xs : List Int) (hR : R < W.heap.size) (hg : (W.alloc (.cells (I64 xs).toArray T)).grownBy w2 (some R)) {n v : Int} (hv : InR n v) (hn : n = xs.length) (h1 : 1 ≤ n) :
    0 ≤ v ∧ v < n ∧ ∃ x, x ∈ xs ∧ w2.cell? ⟨W.heap.size, v.toNat, none⟩ = some (.int .i64 x) := by
  obtain ⟨h2, h3⟩ := hv.2 h1
  refine ⟨h2, h3, xs[v.toNat]'(by omega), List.getElem_mem _, ?_⟩
  have hb : w2.heap[W.heap.size]? = some (.cells (I64 xs).toArray T (0, 0)) := by
    rw [hg.block W.heap.size (by simp) (by simp; omega)]
    exact heap_alloc_new W _
  rw [cell_of_row w2 _ _ _ _ _ hb]
  simp [I64, show v.toNat < xs.length by omega]

set_option maxHeartbeats 1000000 in
theorem spec_l20Width (R N : Nat) (n : Int) (w : World) (h : Rdr w R N) (hN : N ≤ 900000) (hn : n ≤ 1000000) :
    Calls Try.prog 24 #[.pointer (some ⟨R, 0, none⟩), .int .i64 n] w (Drawn (-1) 13 R (N + 2) w) := by
  go_enter Try.func24, Try.ntmps24
  go_wp2_with fail
  refine (spec_odd R N n _ h (by omega) (by omega)).mono ?_
  rintro e w1 ⟨b, rfl, hbn, hr, hg⟩
  have hlt := hr.lt
  clear hbn
  cases b
  · go_wp2_with fail
    refine (spec_pick R (N + 1) 12 _ (hr.alloc _) (by omega) (by omega)).mono ?_
    rintro e w2 ⟨v, rfl, hv, hr2, hg2⟩
    obtain ⟨h1, h2, x, hx, hc⟩ := pick_cell [1, 2, 3, 4, 5, 6, 7, 8, 8, 8, 10, 12] hlt hg2 hv rfl (by omega)
    have hx' : 1 ≤ x ∧ x ≤ 12 := by simp at hx; omega
    have HG := Lib.hid (grown_alloc hg hg2)
    clear hx hg hg2 hv
    go_wp2
    go_ret
    exact ⟨_, rfl, by omega, by omega, hr2, HG.out⟩
  · go_wp2_with fail
    refine (spec_pick R (N + 1) 3 _ (hr.alloc _) (by omega) (by omega)).mono ?_
    rintro e w2 ⟨v, rfl, hv, hr2, hg2⟩
    obtain ⟨h1, h2, x, hx, hc⟩ := pick_cell [0, -1, 13] hlt hg2 hv rfl (by omega)
    have hx' : -1 ≤ x ∧ x ≤ 13 := by simp at hx; omega
    have HG := Lib.hid (grown_alloc hg hg2)
    clear hx hg hg2 hv
    go_wp2
    go_ret
    exact ⟨_, rfl, by omega, by omega, hr2, HG.out⟩
def Drawn2 (R N : Nat) (w : World) (e : Ending) (w' : World) : Prop :=
  ∃ k x, e = .returned (.tuple #[.int .i64 k, .int .i64 x]) ∧ -1 ≤ k ∧ k ≤ 13 ∧ -1 ≤ x ∧ x ≤ 4096 ∧ Rdr w' R N ∧ w.grownBy w' (some R)
def Drawn3 (R N : Nat) (w : World) (e : Ending) (w' : World) : Prop :=
  ∃ k x y, e = .returned (.tuple #[.int .i64 k, .int .i64 x, .int .i64 y]) ∧ -1 ≤ k ∧ k ≤ 13 ∧ -1 ≤ x ∧ x ≤ 4096 ∧ -1 ≤ y ∧ y ≤ 4096 ∧ Rdr w' R N ∧ w.grownBy w' (some R)

end Go.Proofs.Ytpjikmnddkobfaa
