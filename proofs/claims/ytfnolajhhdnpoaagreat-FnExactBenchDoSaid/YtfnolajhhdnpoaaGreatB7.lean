/-
  What a bench is worth: contracts of the program and of the reference.
  Conditions: as stated at each.
-/
import Derived.Test.YtfnolajhhdnpoaaGreatKN
import Derived.Test.YtfnolajhhdnpoaaGreatKE
namespace Go.Proofs.YtfnolajhhdnpoaaGreat
set_option linter.unusedVariables false
set_option linter.unusedSimpArgs false
open Go.RowKit
set_option maxHeartbeats 2000000 in
theorem impl_BenchValue (b : Pl.Bn) (A P : Option Addr) (n c m d B : Nat) (w : World) (hx : Rd w B A n (I64 b.e)) (hp : Rd w B P m (Tx b.past)) (hB : B ≤ w.heap.size) (hn : n ≤ 1000000000000) (hm : m ≤ 1000000000000) (hs : ∀ s ∈ b.past, s.length ≤ 2000000) :
    Calls Tryz.prog 18 #[benchV b.k b.x b.y A n c P m d] w fun e w' => e = .returned (.int .i64 (Pl.benchValue b)) ∧ Below w.heap.size w w' := by
  have CV := Lib.hid (fun w' h h' hB' => impl_BenchValid b A P n c m d B w' h h' hB' hn hm (fun s h => by have := hs s h; omega))
  have HX := Lib.hid hx
  have HP := Lib.hid hp
  obtain ⟨wb, hwb⟩ : ∃ wb, wb = w.alloc (.cells #[.int .i64 b.k, .int .i64 b.x, .int .i64 b.y, .slice A n c, .slice P m d] 30) := ⟨_, rfl⟩
  have hzb : wb.heap.size = w.heap.size + 1 := by rw [hwb]; simp
  have hbb : Below w.heap.size w wb := by rw [hwb]; exact (Below.refl _ _).alloc (Nat.le_refl _) _
  have K0 : Blk wb w.heap.size 30 #[.int .i64 b.k, .int .i64 b.x, .int .i64 b.y, .slice A n c, .slice P m d] := by rw [hwb]; exact Blk.new w _ _
  have hvv := Lib.hid (fun h => Pl.bv_parts (b := b) h)
  have hvt := Lib.hid (fun h => Pl.bval_t (b := b) h)
  have hvf := Lib.hid (fun h => Pl.bval_f (b := b) h)
  clear hx hp hs
  show Calls _ _ #[.agg #[.int .i64 b.k, .int .i64 b.x, .int .i64 b.y, .slice A n c, .slice P m d]] _ _
  go_enter Tryz.func18, Tryz.ntmps18
  go_wp2_with fail
  rw [← hwb]
  clear hwb
  refine (CV.out _ (HX.out.below (hbb.mono hB)) (HP.out.below (hbb.mono hB)) (by omega)).mono ?_
  rintro e w1 ⟨rfl, hb1⟩
  have hz1 := hb1.size
  have HB1 := hbb.trans (hb1.mono (by omega))
  have K0 := K0.below hb1 (by omega)
  cases hv : Pl.benchValid b
  · have hr := Lib.hid (hvf.out hv)
    clear K0 hv
    go_wp2_with fail
    go_ret
    rw [hr.out]
    exact ⟨rfl, HB1⟩
  · obtain ⟨v1, v2, _, _⟩ := hvv.out hv
    have hr := Lib.hid (hvt.out hv)
    have a0 : w1.cell? ⟨w.heap.size, 0, none⟩ = some (.int .i64 b.k) := K0.cell 0
    have a1 : w1.cell? ⟨w.heap.size, 1, none⟩ = some (.int .i64 b.x) := K0.cell 1
    have a2 : w1.cell? ⟨w.heap.size, 2, none⟩ = some (.int .i64 b.y) := K0.cell 2
    have a3 : w1.cell? ⟨w.heap.size, 3, none⟩ = some (.slice A n c) := K0.cell 3
    have V1 := Lib.hid v1
    have V2 := Lib.hid v2
    clear K0 hv v1 v2
    go_wp2_with fail
    refine (impl_value b.k b.x b.y A n c B b.e _ (HX.out.below (HB1.mono hB)) (by omega) V2.out V1.out).mono ?_
    rintro e w2 ⟨rfl, hb2⟩
    go_wp2_with fail
    go_ret
    exact ⟨ret_int hr.out.symm, HB1.trans (hb2.mono (by omega))⟩
end Go.Proofs.YtfnolajhhdnpoaaGreat
