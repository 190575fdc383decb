/-
  Contracts of ValueOf in the program and the reference, and the exact law of ValueOf.
  Conditions: as stated at each.
-/
import Derived.Test.YtnjcephddilalabE3
namespace Go.Proofs.Ytnjcephddilalab
set_option linter.unusedVariables false
set_option linter.unusedSimpArgs false
open Go.RowKit

set_option maxHeartbeats 1000000 in
theorem impl_ValueOf (k x y : Int) (A : Option Addr) (n c B : Nat) (xs : List Int) (w : World) (hx : Rd w B A n (I64 xs)) (hB : B ≤ w.heap.size) (hn : n ≤ 1000000000000) :
    Calls Try.prog 19 #[.int .i64 k, .slice A n c, .int .i64 x, .int .i64 y] w fun e w' => e = .returned (.int .i64 (Pl.valueOf k xs x y)) ∧ Below w.heap.size w w' := by
  cases he : Pl.exprValid xs
  · have hv := Lib.hid (Pl.valueOf_f (k := k) (x := x) (y := y) (e := xs) (by simp [he]))
    have hc := fun w' => impl_ExprValid A n c B xs w'
    rw [he] at hc
    go_enter Try.func19, Try.ntmps19
    go_wp2_with fail
    refine (hc _ hx hn).mono ?_
    rintro e w' ⟨rfl, rfl⟩
    go_wp2_with fail
    go_ret
    exact ⟨ret_int hv.out.symm, Below.refl _ _⟩
  · cases h2 : Pl.v2 k x y
    · have hv := Lib.hid (Pl.valueOf_f (k := k) (x := x) (y := y) (e := xs) (by simp [h2]))
      have hc := fun w' => impl_ExprValid A n c B xs w'
      rw [he] at hc
      clear he
      go_enter Try.func19, Try.ntmps19
      go_wp2_with fail
      refine (hc _ hx hn).mono ?_
      rintro e w' ⟨rfl, rfl⟩
      clear hc
      go_wp2_with (first | (go_at_call 49; refine (impl_allValid2 _ x y _ _ (by go_simp) (by go_simp)).mono ?_; rintro e w' ⟨rfl, rfl⟩))
      go_ret
      exact ⟨ret_int hv.out.symm, by go_grown⟩
    · have hv := Lib.hid (Pl.valueOf_t (k := k) (x := x) (y := y) he h2)
      have hc := fun w' => impl_ExprValid A n c B xs w'
      have h2' := Lib.hid h2
      have he' := Lib.hid he
      rw [he] at hc
      clear he
      go_enter Try.func19, Try.ntmps19
      go_wp2_with fail
      refine (hc _ hx hn).mono ?_
      rintro e w' ⟨rfl, rfl⟩
      clear hc
      go_wp2_with (first | (go_at_call 49; refine (impl_allValid2 _ x y _ _ (by go_simp) (by go_simp)).mono ?_; rintro e w' ⟨rfl, rfl⟩))
      refine (impl_value k x y A n c B xs _ (hx.alloc hB _) (by go_simp; omega) he'.out h2'.out).mono ?_
      rintro e w' ⟨rfl, hb⟩
      go_wp2_with fail
      go_ret
      exact ⟨ret_int hv.out.symm, ((Below.refl _ _).alloc (Nat.le_refl _) _).trans (hb.mono (by simp))⟩
end Go.Proofs.Ytnjcephddilalab
