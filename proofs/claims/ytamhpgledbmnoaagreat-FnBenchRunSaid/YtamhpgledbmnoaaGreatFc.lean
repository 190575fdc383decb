/-
  Closed facts on the whole translated program that every frame of this seat asks for, each a theorem of its own.
  The words of the program's head are given as numbers of letters.
-/
import Derived.Test.YtamhpgledbmnoaaGreatRows
import Derived.JoinedOf
namespace Go.Proofs.YtamhpgledbmnoaaGreat
set_option maxRecDepth 100000
namespace Fc
def headChars : List Char := List.map Char.ofNat [104, 97, 114, 110, 101, 115, 115, 32, 99, 97, 49, 57, 56, 102, 50, 99, 50, 48, 49, 50, 102, 54, 56, 102, 98, 97, 52, 49, 101, 51, 50, 100, 99, 99, 53, 97, 51, 48, 52, 102,
  51, 55, 100, 48, 57, 54, 55, 53, 57, 55, 101, 97, 48, 98, 100, 97, 99, 51, 54, 51, 49, 52, 52, 53, 102, 52, 98, 53, 101, 51, 100, 57, 32, 99, 117, 116, 32, 97, 116, 32,
  108, 111, 111, 112, 46, 101, 120, 97, 109, 112, 108, 101, 47, 98, 105, 116, 119, 111, 114, 100, 115, 47, 108, 97, 119, 115, 46, 70, 110, 69, 120, 97, 99, 116, 66, 101, 110, 99, 104, 68,
  111, 32, 108, 111, 111, 112, 46, 101, 120, 97, 109, 112, 108, 101, 47, 98, 105, 116, 119, 111, 114, 100, 115, 47, 108, 97, 119, 115, 46, 70, 110, 66, 101, 110, 99, 104, 82, 117, 110, 32,
  108, 111, 111, 112, 46, 101, 120, 97, 109, 112, 108, 101, 47, 98, 105, 116, 119, 111, 114, 100, 115, 47, 108, 97, 119, 115, 46, 70, 110, 69, 120, 97, 99, 116, 66, 101, 110, 99, 104, 82,
  117, 110]
theorem head_is : Tryz.checked.prog.initOrder = String.ofList headChars := by kernel_rfl
theorem head_words : (behindMainWord (wordsSigns headChars)).head? = some "cut".toList := by kernel_rfl
theorem words_are : ∃ rest, behindMainWord (wordsSigns Tryz.checked.prog.initOrder.toList) = "cut".toList :: rest := by
  rw [head_is, String.toList_ofList]
  have h := head_words
  cases hw : behindMainWord (wordsSigns headChars) with
  | nil => rw [hw] at h; cases h
  | cons c rest =>
    rw [hw] at h
    simp only [List.head?_cons, Option.some.injEq] at h
    exact ⟨rest, by rw [h]⟩
theorem later : Tryz.checked.prog.laysLater = false := by kernel_rfl
theorem reflect : Tryz.checked.prog.bearsReflect = false := by kernel_rfl
theorem door : Tryz.checked.prog.doorFits [] = true := by kernel_rfl
theorem strip (rest : List (List Char)) : stripLifts liftWords ("cut".toList :: rest) = ([], "cut".toList :: rest) := by kernel_rfl
section
variable (P : Program) (rest : List (List Char)) (h : behindMainWord (wordsSigns P.initOrder.toList) = "cut".toList :: rest)
include h
theorem enters_of (h1 : P.laysLater = false) (h2 : P.bearsReflect = false) (h3 : P.doorFits [] = true) : P.mayEnter = true := by
  unfold Program.mayEnter
  rw [h]
  simp only [strip, h1, h2, h3]
  simp
theorem noLifts_of : P.headLifts = [] := by
  unfold Program.headLifts
  rw [h]
  simp only [strip]
  simp
theorem final_of : P.liftsFinal = false := by
  unfold Program.liftsFinal
  rw [h, noLifts_of P rest h]
  simp
theorem make_of : P.make = some .cut := by
  unfold Program.make
  rw [h]
  simp
end
theorem enters : Tryz.checked.prog.mayEnter = true := by
  obtain ⟨rest, h⟩ := words_are
  exact enters_of _ rest h later reflect door
theorem final : Tryz.checked.prog.liftsFinal = false := by
  obtain ⟨rest, h⟩ := words_are
  exact final_of _ rest h
theorem make_is : Tryz.checked.prog.make = some .cut := by
  obtain ⟨rest, h⟩ := words_are
  exact make_of _ rest h
theorem laid : laidOutB Tryz.checked.prog = true := by kernel_rfl
theorem maps_ : mapsRowed Tryz.checked.prog = true := by kernel_rfl
theorem stops_ : (Tryz.checked.prog.stops == []) = true := by kernel_rfl
theorem knobs_ : (Tryz.checked.prog.stopKnobs == []) = true := by kernel_rfl
theorem keys_ : (true == Tryz.checked.prog.plainKeys) = true := by kernel_rfl
theorem heard_ : Tryz.checked.prog.stopsHeard = true := by kernel_rfl
theorem final_ : (false == Tryz.checked.prog.liftsFinal) = true := by rw [final]; rfl
theorem make_ : (Tryz.checked.prog.make == some .cut) = true := by rw [make_is]; rfl
theorem and_mk {a b : Bool} (ha : a = true) (hb : b = true) : (a && b) = true := by rw [ha, hb]; rfl
end Fc
end Go.Proofs.YtamhpgledbmnoaaGreat
