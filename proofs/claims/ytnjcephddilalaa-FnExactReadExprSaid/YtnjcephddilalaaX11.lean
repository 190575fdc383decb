/-
  The exact law of ReadExpr: for every text the program and the reference agree.
  Conditions: none.
-/
import Derived.Test.YtnjcephddilalaaT9
namespace Go.Proofs.Ytnjcephddilalaa
set_option linter.unusedVariables false
set_option linter.unusedSimpArgs false
open Go.RowKit
theorem Ba_data (s : ByteArray) : Ba s.data.toList = s := by
  apply ByteArray.ext
  simp [Ba]
/-- What ReadExpr leaves, under its own name. -/
def OutR2 (X : List Int) (ok : Bool) (w : World) (e : Ending) (w' : World) : Prop :=
  ∃ (A : Option Addr) (c : Nat), e = .returned (.tuple #[.slice A X.length c, .bool ok]) ∧ w'.ownsRow w.heap.size 3 1 (.slice A X.length c) X.length (I64 X) ∧ Below w.heap.size w w'
theorem outR2 {r : Option (List Int)} {w : World} {e : Ending} {w' : World} (h : OutRd r w e w') : OutR2 (r.getD []) r.isSome w e w' := by
  obtain ⟨ys, A, c, rfl, h1, h2, h3⟩ := h
  exact ⟨A, c, h1, h2, h3⟩
theorem readE_len {s : List UInt8} : ((Pl.readE s).getD []).length ≤ 24 := by
  cases h : Pl.readE s with
  | none => simp
  | some e => exact (Pl.valid_t (Pl.readE_valid h)).2.1
set_option maxRecDepth 100000 in
set_option maxHeartbeats 1000000 in
theorem law_FnExactReadExpr (a0 : ByteArray) (w : World) (w0 : a0.size ≤ maxLen) :
    Calls Try.prog 11 #[.string a0] w fun e w' => e = .returned (.bool true) ∧ Below w.heap.size w w' := by
  obtain ⟨s, rfl⟩ : ∃ s, a0 = Ba s := ⟨a0.data.toList, (Ba_data a0).symm⟩
  have hsz := Ba_size s
  by_cases hbig : 1048576 < s.length
  · have hbi : (1048576 : Int) < ((s.length : Nat) : Int) := by omega
    clear w0
    go_enter Try.func11, Try.ntmps11
    go_wp2
    go_ret
    exact ⟨rfl, Below.refl _ _⟩
  have hbi : ¬ (1048576 : Int) < ((s.length : Nat) : Int) := by omega
  have hlen := readE_len (s := s)
  have CS := Lib.hid (fun w => (spec_ReadExpr s w (by omega)).mono fun _ _ h => outR2 h)
  have CI := Lib.hid (fun w => (impl_ReadExpr s w (by omega)).mono fun _ _ h => outR2 h)
  generalize (Pl.readE s).isSome = ok at *
  generalize (Pl.readE s).getD [] = X at *
  have hoo : (ok != ok) = false := by simp
  clear w0 hbig
  go_enter Try.func11, Try.ntmps11
  go_wp2_with fail
  refine (CS.out _).mono ?_
  rintro e w1 ⟨A, c, rfl, own0, hb0⟩
  go_wp2_with fail
  refine (CI.out _).mono ?_
  rintro e w2 ⟨A1, c1, rfl, own1, hb1⟩
  have r0 := (rd_own own0).below hb1
  have hz1 := hb0.size
  have hz2 := hb1.size
  go_wp2_with fail
  refine (laws_eqIntS _ _ _ _ _ _ _ X X _ (rd_own own1) (r0.more hz2) (by omega) (by omega)).mono ?_
  rintro e w3 ⟨rfl, q, rfl⟩
  go_wp2_with fail
  refine (laws_markIntS w1.heap.size _ _ _ _ 1 _ A1 rfl (by exact own1) (by omega) (by omega) (by omega)).mono ?_
  rintro e w3 ⟨rfl, own2, hg⟩
  have hb3 : Below w1.heap.size (w2.drewN q) w3 := grown_below (w := w2.drewN q) own1 hz2 hg
  have r0' := (r0.drewN q).below hb3
  have hz3 : w2.heap.size ≤ w3.heap.size := hb3.size
  clear hg
  go_wp2_with fail
  refine (laws_heldIntS A1 _ _ _ 1 _ (rd_own own2) (by omega) (by omega) (by omega)).mono ?_
  rintro e w' ⟨rfl, rfl⟩
  go_wp2_with fail
  refine (CI.out _).mono ?_
  rintro e w4 ⟨A2, c2, rfl, own3, hb4⟩
  have hz4 := hb4.size
  go_wp2_with fail
  refine (laws_eqIntS _ _ _ _ _ _ _ X X _ (rd_own own3) ((r0'.more (by omega)).below hb4 |>.more hz4) (by omega) (by omega)).mono ?_
  rintro e w' ⟨rfl, q2, rfl⟩
  go_wp2_with fail
  refine (laws_heldIntS A1 _ _ _ 1 _ (((rd_own own2).below hb4).drewN q2) (by omega) (by omega) (by omega)).mono ?_
  rintro e w' ⟨rfl, rfl⟩
  have HB := Lib.hid (below_drewN (((hb0.trans (hb1.mono hz1)).trans (below_drewN (Below.refl _ _) q)).trans ((hb3.mono hz1).trans (hb4.mono (by omega)))) q2)
  clear hb0 hb1 hb3 hb4 own0 own1 own2 own3 r0 r0'
  go_wp2
  go_ret
  exact ⟨rfl, HB.out⟩
end Go.Proofs.Ytnjcephddilalaa
