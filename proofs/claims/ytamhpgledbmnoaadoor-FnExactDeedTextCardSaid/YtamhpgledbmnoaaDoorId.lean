/-
  A deed that came in: how it reads.
  Conditions: none.
-/
import Derived.Test.YtamhpgledbmnoaaDoorKN
import Derived.Test.YtamhpgledbmnoaaDoorO0
namespace Go.Proofs.YtamhpgledbmnoaaDoor
set_option linter.unusedVariables false
set_option linter.unusedSimpArgs false
open Go.RowKit Go.ChangeShapes Go.WideShapes Go.Joins
/-- What is told of a deed that came in. -/
def IsDeed (v : Value) : Prop := ∃ (k n : Int) (t : List UInt8), v = deedV k n t ∧ t.length ≤ maxLen
set_option maxRecDepth 100000 in
theorem isDeed_open {H : Type} {enc : TypeId × Value → H} {w : World} {base b0 : Nat} {r : Reach} {spare : Nat → Bool} {held : Bool} {v : Value} {d : DataW H} {p : List MemPlace}
    (hv : Value.okWide Tryd.prog w r b0 23 v) (h : DataW.Trod enc Tryd.prog w base spare held 23 v d p) : IsDeed v := by
  obtain ⟨v0, v1, v2, y0, y1, y2, n, rfl, _, _, h0, h1, h2⟩ := open_agg3 Tryd.underlying23 (by kernel_rfl) (by kernel_rfl) hv h
  obtain ⟨t0, e0, _, _⟩ := DataW.trod_int Tryd.underlying3 h0
  obtain ⟨t1, e1, _, _⟩ := DataW.trod_int Tryd.underlying3 h1
  obtain ⟨s, e2, _, hs⟩ := DataW.trod_string Tryd.underlying9 h2
  injection e0 with e0
  injection e1 with e1
  injection e2 with e2
  subst e0 e1 e2
  exact ⟨t0, t1, s.data.toList, by simp [deedV, Ba], by simpa using hs⟩
end Go.Proofs.YtamhpgledbmnoaaDoor
