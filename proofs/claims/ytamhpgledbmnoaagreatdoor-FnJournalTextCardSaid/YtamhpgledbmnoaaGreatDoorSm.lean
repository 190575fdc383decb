/-
  Worlds that read the same below a block.
  Conditions: none.
-/
import Derived.Test.YtamhpgledbmnoaaGreatDoorKB
namespace Go.Proofs.YtamhpgledbmnoaaGreatDoor
set_option linter.unusedVariables false
set_option linter.unusedSimpArgs false
open Go.RowKit
theorem same_drew0 {w : World} {D : Nat} : ∀ (b o : Nat), b < D → w.drew.cell? ⟨b, o, none⟩ = w.cell? ⟨b, o, none⟩ := fun _ _ _ => rfl
theorem same_refl0 {w : World} {D : Nat} : ∀ (b o : Nat), b < D → w.cell? ⟨b, o, none⟩ = w.cell? ⟨b, o, none⟩ := fun _ _ _ => rfl
theorem same_alloc {v w : World} {D : Nat} {o : Obj} (h : ∀ (b o : Nat), b < D → w.cell? ⟨b, o, none⟩ = v.cell? ⟨b, o, none⟩) (hD : D ≤ w.heap.size) : ∀ (b o' : Nat), b < D → (w.alloc o).cell? ⟨b, o', none⟩ = v.cell? ⟨b, o', none⟩ :=
  fun b o' hb => (World.cell?_alloc_lt w o ⟨b, o', none⟩ (show b < w.heap.size by omega)).trans (h b o' hb)
theorem same_alloc_d {v w : World} {D : Nat} {o : Obj} (h : ∀ (b o : Nat), b < D → w.cell? ⟨b, o, none⟩ = v.cell? ⟨b, o, none⟩) (hD : D ≤ w.heap.size) : ∀ (b o' : Nat), b < D → (w.alloc o).drew.cell? ⟨b, o', none⟩ = v.cell? ⟨b, o', none⟩ := same_alloc h hD
theorem same_setc {v w : World} {D X i : Nat} {u : Value} (h : ∀ (b o : Nat), b < D → w.cell? ⟨b, o, none⟩ = v.cell? ⟨b, o, none⟩) (hD : D ≤ X) : ∀ (b o' : Nat), b < D → (w.setCell ⟨X, i, none⟩ u).cell? ⟨b, o', none⟩ = v.cell? ⟨b, o', none⟩ :=
  fun b o' hb => (World.cell?_of_block (Below.heap_setCell w ⟨X, i, none⟩ u b (show b ≠ X by omega))).trans (h b o' hb)
theorem same_put5 {v w : World} {D X : Nat} {u0 u1 u2 u3 u4 : Value} (h : ∀ (b o : Nat), b < D → w.cell? ⟨b, o, none⟩ = v.cell? ⟨b, o, none⟩) (hD : D ≤ X) : ∀ (b o' : Nat), b < D → (((((w.setCell ⟨X, 0, none⟩ u0).setCell ⟨X, 1, none⟩ u1).setCell ⟨X, 2, none⟩ u2).setCell ⟨X, 3, none⟩ u3).setCell ⟨X, 4, none⟩ u4).cell? ⟨b, o', none⟩ = v.cell? ⟨b, o', none⟩ :=
  same_setc (same_setc (same_setc (same_setc (same_setc h hD) hD) hD) hD) hD
end Go.Proofs.YtamhpgledbmnoaaGreatDoor
