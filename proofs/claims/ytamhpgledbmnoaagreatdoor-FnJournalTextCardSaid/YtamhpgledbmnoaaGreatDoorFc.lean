/-
  Closed facts on the whole translated program that every frame of this seat asks for, each a theorem of its own.
  The words of the program's head are given as numbers of letters.
-/
import Derived.Test.YtamhpgledbmnoaaGreatDoorRows
import Derived.JoinedOf
namespace Go.Proofs.YtamhpgledbmnoaaGreatDoor
set_option maxRecDepth 100000
namespace Fc
def headChars : List Char := List.map Char.ofNat [104, 97, 114, 110, 101, 115, 115, 32, 55, 53, 56, 100, 101, 102, 57, 97, 55, 57, 52, 48, 52, 55, 57, 99, 102, 49, 57, 100, 52, 102, 54, 57, 98, 55, 99, 50, 49, 102, 101, 52,
  101, 101, 101, 50, 99, 51, 52, 98, 49, 51, 98, 48, 48, 102, 101, 53, 56, 101, 99, 54, 101, 101, 49, 55, 54, 97, 100, 56, 48, 101, 99, 100, 32, 99, 117, 116, 32, 97, 116, 32,
  108, 111, 111, 112, 46, 101, 120, 97, 109, 112, 108, 101, 47, 98, 105, 116, 119, 111, 114, 100, 115, 47, 108, 97, 119, 115, 46, 70, 110, 68, 101, 101, 100, 84, 101, 120, 116, 32, 108, 111,
  111, 112, 46, 101, 120, 97, 109, 112, 108, 101, 47, 98, 105, 116, 119, 111, 114, 100, 115, 47, 108, 97, 119, 115, 46, 70, 110, 82, 101, 97, 100, 68, 101, 101, 100, 32, 108, 111, 111, 112,
  46, 101, 120, 97, 109, 112, 108, 101, 47, 98, 105, 116, 119, 111, 114, 100, 115, 47, 108, 97, 119, 115, 46, 70, 110, 74, 111, 117, 114, 110, 97, 108, 84, 101, 120, 116]
theorem head_is : Tryz.checked.prog.initOrder = String.ofList headChars := by kernel_rfl
theorem head_words : (behindMainWord (wordsSigns headChars)).head? = some "cut".toList := by kernel_rfl
theorem words_are : ∃ rest, behindMainWord (wordsSigns Tryz.checked.prog.initOrder.toList) = "cut".toList :: rest := by
  rw [head_is, String.toList_ofList]
  have h := head_words
  cases hw : behindMainWord (wordsSigns headChars) with
  | nil => rw [hw] at h; cases h
  | cons c rest =>
    rw [hw] at h
    simp only [List.head?_cons, Option.some.injEq] at h
    exact ⟨rest, by rw [h]⟩
theorem later : Tryz.checked.prog.laysLater = false := by kernel_rfl
theorem reflect : Tryz.checked.prog.bearsReflect = false := by kernel_rfl
theorem door : Tryz.checked.prog.doorFits [] = true := by kernel_rfl
theorem strip (rest : List (List Char)) : stripLifts liftWords ("cut".toList :: rest) = ([], "cut".toList :: rest) := by kernel_rfl
section
variable (P : Program) (rest : List (List Char)) (h : behindMainWord (wordsSigns P.initOrder.toList) = "cut".toList :: rest)
include h
theorem enters_of (h1 : P.laysLater = false) (h2 : P.bearsReflect = false) (h3 : P.doorFits [] = true) : P.mayEnter = true := by
  unfold Program.mayEnter
  rw [h]
  simp only [strip, h1, h2, h3]
  simp
theorem noLifts_of : P.headLifts = [] := by
  unfold Program.headLifts
  rw [h]
  simp only [strip]
  simp
theorem final_of : P.liftsFinal = false := by
  unfold Program.liftsFinal
  rw [h, noLifts_of P rest h]
  simp
theorem make_of : P.make = some .cut := by
  unfold Program.make
  rw [h]
  simp
end
theorem enters : Tryz.checked.prog.mayEnter = true := by
  obtain ⟨rest, h⟩ := words_are
  exact enters_of _ rest h later reflect door
theorem final : Tryz.checked.prog.liftsFinal = false := by
  obtain ⟨rest, h⟩ := words_are
  exact final_of _ rest h
theorem make_is : Tryz.checked.prog.make = some .cut := by
  obtain ⟨rest, h⟩ := words_are
  exact make_of _ rest h
theorem laid : laidOutB Tryz.checked.prog = true := by kernel_rfl
theorem maps_ : mapsRowed Tryz.checked.prog = true := by kernel_rfl
theorem stops_ : (Tryz.checked.prog.stops == []) = true := by kernel_rfl
theorem knobs_ : (Tryz.checked.prog.stopKnobs == []) = true := by kernel_rfl
theorem keys_ : (true == Tryz.checked.prog.plainKeys) = true := by kernel_rfl
theorem heard_ : Tryz.checked.prog.stopsHeard = true := by kernel_rfl
theorem final_ : (false == Tryz.checked.prog.liftsFinal) = true := by rw [final]; rfl
theorem make_ : (Tryz.checked.prog.make == some .cut) = true := by rw [make_is]; rfl
theorem and_mk {a b : Bool} (ha : a = true) (hb : b = true) : (a && b) = true := by rw [ha, hb]; rfl
end Fc
end Go.Proofs.YtamhpgledbmnoaaGreatDoor
