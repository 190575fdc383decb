/-
  Closed facts on the whole translated program that every frame of this seat asks for, each a theorem of its own.
  The words of the program's head are given as numbers of letters.
-/
import Derived.Test.YtamhpgledbmnoaaDoorRows
import Derived.JoinedOf
namespace Go.Proofs.YtamhpgledbmnoaaDoor
set_option maxRecDepth 100000
namespace Fc
def headChars : List Char := List.map Char.ofNat [104, 97, 114, 110, 101, 115, 115, 32, 52, 100, 56, 57, 52, 56, 48, 101, 56, 48, 55, 99, 54, 100, 55, 54, 100, 101, 100, 48, 48, 98, 48, 49, 55, 99, 48, 56, 97, 48, 52, 49,
  57, 98, 56, 55, 52, 56, 98, 52, 100, 53, 55, 55, 97, 57, 100, 54, 55, 50, 102, 98, 98, 55, 51, 100, 53, 102, 54, 55, 48, 98, 55, 53, 32, 99, 117, 116, 32, 97, 116, 32,
  108, 111, 111, 112, 46, 101, 120, 97, 109, 112, 108, 101, 47, 98, 105, 116, 119, 111, 114, 100, 115, 47, 108, 97, 119, 115, 46, 70, 110, 69, 120, 97, 99, 116, 68, 101, 101, 100, 84, 101,
  120, 116, 32, 108, 111, 111, 112, 46, 101, 120, 97, 109, 112, 108, 101, 47, 98, 105, 116, 119, 111, 114, 100, 115, 47, 108, 97, 119, 115, 46, 70, 110, 69, 120, 97, 99, 116, 74, 111, 117,
  114, 110, 97, 108, 84, 101, 120, 116, 32, 108, 111, 111, 112, 46, 101, 120, 97, 109, 112, 108, 101, 47, 98, 105, 116, 119, 111, 114, 100, 115, 47, 108, 97, 119, 115, 46, 70, 110, 69, 120,
  97, 99, 116, 82, 101, 97, 100, 68, 101, 101, 100, 32, 108, 111, 111, 112, 46, 101, 120, 97, 109, 112, 108, 101, 47, 98, 105, 116, 119, 111, 114, 100, 115, 47, 108, 97, 119, 115, 46, 70,
  110, 69, 120, 97, 99, 116, 82, 101, 97, 100, 74, 111, 117, 114, 110, 97, 108]
theorem head_is : Tryd.checked.prog.initOrder = String.ofList headChars := by kernel_rfl
theorem head_words : (behindMainWord (wordsSigns headChars)).head? = some "cut".toList := by kernel_rfl
theorem words_are : ∃ rest, behindMainWord (wordsSigns Tryd.checked.prog.initOrder.toList) = "cut".toList :: rest := by
  rw [head_is, String.toList_ofList]
  have h := head_words
  cases hw : behindMainWord (wordsSigns headChars) with
  | nil => rw [hw] at h; cases h
  | cons c rest =>
    rw [hw] at h
    simp only [List.head?_cons, Option.some.injEq] at h
    exact ⟨rest, by rw [h]⟩
theorem later : Tryd.checked.prog.laysLater = false := by kernel_rfl
theorem reflect : Tryd.checked.prog.bearsReflect = false := by kernel_rfl
theorem door : Tryd.checked.prog.doorFits [] = true := by kernel_rfl
theorem strip (rest : List (List Char)) : stripLifts liftWords ("cut".toList :: rest) = ([], "cut".toList :: rest) := by kernel_rfl
section
variable (P : Program) (rest : List (List Char)) (h : behindMainWord (wordsSigns P.initOrder.toList) = "cut".toList :: rest)
include h
theorem enters_of (h1 : P.laysLater = false) (h2 : P.bearsReflect = false) (h3 : P.doorFits [] = true) : P.mayEnter = true := by
  unfold Program.mayEnter
  rw [h]
  simp only [strip, h1, h2, h3]
  simp
theorem noLifts_of : P.headLifts = [] := by
  unfold Program.headLifts
  rw [h]
  simp only [strip]
  simp
theorem final_of : P.liftsFinal = false := by
  unfold Program.liftsFinal
  rw [h, noLifts_of P rest h]
  simp
theorem make_of : P.make = some .cut := by
  unfold Program.make
  rw [h]
  simp
end
theorem enters : Tryd.checked.prog.mayEnter = true := by
  obtain ⟨rest, h⟩ := words_are
  exact enters_of _ rest h later reflect door
theorem final : Tryd.checked.prog.liftsFinal = false := by
  obtain ⟨rest, h⟩ := words_are
  exact final_of _ rest h
theorem make_is : Tryd.checked.prog.make = some .cut := by
  obtain ⟨rest, h⟩ := words_are
  exact make_of _ rest h
theorem laid : laidOutB Tryd.checked.prog = true := by kernel_rfl
theorem maps_ : mapsRowed Tryd.checked.prog = true := by kernel_rfl
theorem stops_ : (Tryd.checked.prog.stops == []) = true := by kernel_rfl
theorem knobs_ : (Tryd.checked.prog.stopKnobs == []) = true := by kernel_rfl
theorem keys_ : (true == Tryd.checked.prog.plainKeys) = true := by kernel_rfl
theorem heard_ : Tryd.checked.prog.stopsHeard = true := by kernel_rfl
theorem final_ : (false == Tryd.checked.prog.liftsFinal) = true := by rw [final]; rfl
theorem make_ : (Tryd.checked.prog.make == some .cut) = true := by rw [make_is]; rfl
theorem and_mk {a b : Bool} (ha : a = true) (hb : b = true) : (a && b) = true := by rw [ha, hb]; rfl
end Fc
end Go.Proofs.YtamhpgledbmnoaaDoor
