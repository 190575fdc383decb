/-
  Small contracts of the program's simpler expressions.
  Conditions: as stated at each.
-/
import Derived.Test.YtamhpgledbmnoaaGreatDoorKT
import Derived.Test.YtamhpgledbmnoaaGreatDoorKP
import Derived.Deep.Onto
namespace Go.Proofs.YtamhpgledbmnoaaGreatDoor
set_option linter.unusedVariables false
set_option linter.unusedSimpArgs false
open Go.RowKit
end Go.Proofs.YtamhpgledbmnoaaGreatDoor
namespace Go.Proofs.YtamhpgledbmnoaaGreatDoor
set_option linter.unusedVariables false
set_option linter.unusedSimpArgs false
open Go.RowKit
/-- A slice of the call's own comes back, from block B on. -/
def OutP (B : Nat) (X : List Int) (w : World) (e : Ending) (w' : World) : Prop :=
  ∃ (A : Option Addr) (c : Nat), e = .returned (.slice A X.length c) ∧ w'.ownsRow B 3 1 (.slice A X.length c) X.length (I64 X) ∧ Below w.heap.size w w'
theorem top_last (t : Pl.Tr) {m : Nat} (h : t.post.length = m + 1) : t.post[m]? = some t.top := by
  obtain ⟨q, hq⟩ := t.post_last
  rw [hq] at h ⊢
  have hq' : q.length = m := by simpa using h
  rw [← hq', List.getElem?_append_right (Nat.le_refl _)]
  simp
theorem own_ilen {w : World} {B n : Nat} {v : Value} {xs : List Int} (h : w.ownsRow B 3 1 v n (I64 xs)) : xs.length = n := by
  have := h.1
  rw [I64_len] at this
  omega
theorem outP_row {B : Nat} {X : List Int} {w w' : World} {v : Value} {n : Nat} (hn : X.length = n) (h : w'.ownsRow B 3 1 v n (I64 X)) (hb : Below w.heap.size w w') : OutP B X w (.returned v) w' := by
  subst hn
  obtain ⟨A, c, rfl, _⟩ := Rd.of_own h
  exact ⟨A, c, rfl, h, hb⟩
end Go.Proofs.YtamhpgledbmnoaaGreatDoor
