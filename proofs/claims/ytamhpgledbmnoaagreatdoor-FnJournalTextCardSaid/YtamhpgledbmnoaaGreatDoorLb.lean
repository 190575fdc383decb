/-
  What a world must hold for the library's contracts, and what keeps it.
  Conditions: as stated.
-/
import Derived.Test.YtamhpgledbmnoaaGreatDoorSh
import Derived.Test.YtamhpgledbmnoaaGreatDoorKB
import Derived.WalkSmall
import Derived.Lib.AppendIntMem
import Derived.Stop.LaidErr
namespace Go.Proofs.YtamhpgledbmnoaaGreatDoor
set_option linter.unusedVariables false
set_option linter.unusedSimpArgs false
open Go.RowKit
/-- The library's table, below block B, holds what the contracts ask. -/
structure LibOk (B : Nat) (w : World) : Prop where
  sz : B ≤ w.heap.size
  b3 : 3 < B
  tab : Lib.TabIs Tryz.prog w "internal/strconv.uint64pow10" .u64 Lib.pow10Tab
/-- And the library's other variables. -/
structure LibOkE (B : Nat) (w : World) : Prop where
  ok : LibOk B w
  b0 : 0 < B
  b1 : 1 < B
  b2 : 2 < B
  mx : ∃ m, w.cell? ⟨0, 0, none⟩ = some (.int .i64 m)
  es : ∃ tp p, w.var? Tryz.prog "strconv.ErrSyntax" = some #[.iface tp p]
  er : ∃ tp p, w.var? Tryz.prog "strconv.ErrRange" = some #[.iface tp p]
theorem g_tab : Tryz.prog.globalNamed "internal/strconv.uint64pow10" = some 3 := by kernel_rfl
theorem g_es : Tryz.prog.globalNamed "strconv.ErrSyntax" = some 1 := by kernel_rfl
theorem g_er : Tryz.prog.globalNamed "strconv.ErrRange" = some 2 := by kernel_rfl
section
variable {w w' : World} {B : Nat}
theorem LibOk.below (h : LibOk B w) (hb : Below B w w') : LibOk B w' := ⟨Nat.le_trans h.sz hb.size, h.b3, var?_below hb g_tab h.b3 h.tab⟩
theorem LibOkE.below (h : LibOkE B w) (hb : Below B w w') : LibOkE B w' := by
  obtain ⟨m, hm⟩ := h.mx
  obtain ⟨t1, p1, h1⟩ := h.es
  obtain ⟨t2, p2, h2⟩ := h.er
  exact ⟨h.ok.below hb, h.b0, h.b1, h.b2, ⟨m, (hb.cell (p := ⟨_, 0, none⟩) h.b0).trans hm⟩, ⟨t1, p1, var?_below hb g_es h.b1 h1⟩, ⟨t2, p2, var?_below hb g_er h.b2 h2⟩⟩
theorem LibOkE.sz (h : LibOkE B w) : B ≤ w.heap.size := h.ok.sz
theorem LibOk.alloc (h : LibOk B w) (o : Obj) : LibOk B (w.alloc o) := h.below ((Below.refl _ _).alloc h.sz o)
theorem LibOk.drewN (h : LibOk B w) (n : Nat) : LibOk B (w.drewN n) := h.below (Go.Proofs.YtamhpgledbmnoaaGreatDoor.below_drewN (Below.refl _ _) n)
theorem LibOk.drew (h : LibOk B w) : LibOk B w.drew := h.drewN 1
theorem LibOk.on (h : LibOk B w) (hb : Below w.heap.size w w') : LibOk B w' := h.below (hb.mono h.sz)
theorem LibOkE.alloc (h : LibOkE B w) (o : Obj) : LibOkE B (w.alloc o) := h.below ((Below.refl _ _).alloc h.sz o)
theorem LibOkE.drewN (h : LibOkE B w) (n : Nat) : LibOkE B (w.drewN n) := h.below (Go.Proofs.YtamhpgledbmnoaaGreatDoor.below_drewN (Below.refl _ _) n)
theorem LibOkE.drew (h : LibOkE B w) : LibOkE B w.drew := h.drewN 1
theorem LibOkE.on (h : LibOkE B w) (hb : Below w.heap.size w w') : LibOkE B w' := h.below (hb.mono h.sz)
end
theorem lib_itoa {B : Nat} (m : Nat) (w : World) (hl : LibOk B w) (hm : m ≤ 1000000) : Calls Tryz.prog 23 #[.int .i64 (m : Int)] w fun e w' => e = .returned (.string ⟨(Lib.decDigits m).toArray⟩) ∧ Below w.heap.size w w' := by
  refine (Tryz.strconv_Itoa m (by omega) (by omega) w hl.tab).mono ?_
  rintro e w' ⟨rfl, k, os, rfl⟩
  exact ⟨by rw [Lib.itoa_nonneg], Lib.below_grow _ _ (Nat.le_refl _) k os⟩
end Go.Proofs.YtamhpgledbmnoaaGreatDoor
