/-
  The small table of the names of deeds that the program makes at each call.
  Conditions: none.
-/
import Derived.Test.YtamhpgledbmnoaaGreatDoorDl
import Derived.MapKept
namespace Go.Proofs.YtamhpgledbmnoaaGreatDoor
set_option linter.unusedVariables false
set_option linter.unusedSimpArgs false
open Go.RowKit
theorem push_set {α : Type} (a : Array α) (x y : α) : (a.push x).setIfInBounds a.size y = a.push y := by
  apply Array.ext'
  rw [Array.toList_setIfInBounds, Array.toList_push, Array.toList_push, List.set_append_right _ _ (by simp)]
  simp
theorem checkInt (em : Bool) (k : IntKind) (n : Int) (w : World) : (Instr.checkKey em 10000 3 (.int k n)).run Tryz.prog w = .ok () w := by
  rw [show (10000 : Nat) = 9999 + 1 from rfl, Instr.checkKey]
  simp [run_underlying Tryz.underlying3]
theorem mp_put (w : World) (es : Array MapEntry) (c : Nat) (k : Int) (s : ByteArray) (h : Instr.findNow (.int .i64) (.int .i64 k) es.toList 0 = some none) :
    (Instr.mapUpdate 50 (.map (some w.heap.size)) (.int .i64 k) (.string s)).run Tryz.prog (w.alloc (.map es c)) = .ok () (w.alloc (.map (es.push { key := .int .i64 k, val := .string s, born := c }) (c + 1))) := by
  have hb : (w.alloc (.map es c)).heap[w.heap.size]? = some (.map es c) := heap_alloc_new w _
  simp [Instr.mapUpdate, run_underlying Tryz.underlying50, MapKept.run_getObj_map hb, checkInt, MapKept.run_findKey Tryz.underlying3 h, MapKept.run_setObj_map _ hb, Result.andThen]
  show ({ heap := (w.heap.push _).setIfInBounds w.heap.size _, tape := w.tape, drawn := w.drawn, os := w.os, output := w.output } : World) = { w with heap := w.heap.push _ }
  rw [push_set]
theorem mp_look (w : World) (es : Array MapEntry) (c : Nat) (k : Int) (s : ByteArray) (i : Nat) (h : Instr.findNow (.int .i64) (.int .i64 k) es.toList 0 = some (some (i, .string s))) :
    (Instr.lookup 50 (.map (some w.heap.size)) (.int .i64 k) false).run Tryz.prog (w.alloc (.map es c)) = .ok (.string s) (w.alloc (.map es c)) := by
  have hb : (w.alloc (.map es c)).heap[w.heap.size]? = some (.map es c) := heap_alloc_new w _
  simp [Instr.lookup, run_underlying Tryz.underlying50, MapKept.run_getObj_map hb, checkInt, MapKept.run_findKey Tryz.underlying3 h, Result.andThen]
def me3 : MapEntry := { key := .int .i64 3, val := .string ⟨#[115, 105, 109, 112, 108, 101]⟩, born := 0 }
def me4 : MapEntry := { key := .int .i64 4, val := .string ⟨#[115, 104, 111, 114, 116]⟩, born := 1 }
def me5 : MapEntry := { key := .int .i64 5, val := .string ⟨#[98, 97, 99, 107]⟩, born := 2 }
theorem mp_1 (w : World) : (Instr.mapUpdate 50 (.map (some w.heap.size)) (.int .i64 3) (.string ⟨#[115, 105, 109, 112, 108, 101]⟩)).run Tryz.prog (w.alloc (.map #[] 0)) = .ok () (w.alloc (.map #[me3] 1)) := mp_put w #[] 0 3 _ rfl
theorem mp_2 (w : World) : (Instr.mapUpdate 50 (.map (some w.heap.size)) (.int .i64 4) (.string ⟨#[115, 104, 111, 114, 116]⟩)).run Tryz.prog (w.alloc (.map #[me3] 1)) = .ok () (w.alloc (.map #[me3, me4] 2)) := mp_put w #[me3] 1 4 _ rfl
theorem mp_3 (w : World) : (Instr.mapUpdate 50 (.map (some w.heap.size)) (.int .i64 5) (.string ⟨#[98, 97, 99, 107]⟩)).run Tryz.prog (w.alloc (.map #[me3, me4] 2)) = .ok () (w.alloc (.map #[me3, me4, me5] 3)) := mp_put w #[me3, me4] 2 5 _ rfl
theorem mp_a (w : World) : (Instr.lookup 50 (.map (some w.heap.size)) (.int .i64 3) false).run Tryz.prog (w.alloc (.map #[me3, me4, me5] 3)) = .ok (.string ⟨#[115, 105, 109, 112, 108, 101]⟩) (w.alloc (.map #[me3, me4, me5] 3)) := mp_look w _ _ _ _ 0 rfl
theorem mp_b (w : World) : (Instr.lookup 50 (.map (some w.heap.size)) (.int .i64 4) false).run Tryz.prog (w.alloc (.map #[me3, me4, me5] 3)) = .ok (.string ⟨#[115, 104, 111, 114, 116]⟩) (w.alloc (.map #[me3, me4, me5] 3)) := mp_look w _ _ _ _ 1 rfl
theorem mp_c (w : World) : (Instr.lookup 50 (.map (some w.heap.size)) (.int .i64 5) false).run Tryz.prog (w.alloc (.map #[me3, me4, me5] 3)) = .ok (.string ⟨#[98, 97, 99, 107]⟩) (w.alloc (.map #[me3, me4, me5] 3)) := mp_look w _ _ _ _ 2 rfl
end Go.Proofs.YtamhpgledbmnoaaGreatDoor
