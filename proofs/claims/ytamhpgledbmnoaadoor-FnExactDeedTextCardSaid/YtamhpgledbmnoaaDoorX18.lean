/-
  The exact law of DeedText: for every deed the program and the reference give the same text.
  Conditions: the library's table stands.
-/
import Derived.Test.YtamhpgledbmnoaaDoorM2
import Derived.Test.YtamhpgledbmnoaaDoorId
import Derived.Test.YtamhpgledbmnoaaDoorDt
import Derived.Test.YtamhpgledbmnoaaDoorSd
namespace Go.Proofs.YtamhpgledbmnoaaDoor
set_option linter.unusedVariables false
set_option linter.unusedSimpArgs false
open Go.RowKit
theorem cells3l {w : World} {g : Nat} {t : TypeId} {c0 c1 c2 : Value} (h : Blk w g t #[c0, c1, c2]) :
    (w.cell? ⟨g, 0, none⟩ = some c0 ∧ w.cell? ⟨g, 1, none⟩ = some c1 ∧ w.cell? ⟨g, 2, none⟩ = some c2) ∧ (w.frozen? ⟨g, 0, none⟩ = false ∧ w.frozen? ⟨g, 1, none⟩ = false ∧ w.frozen? ⟨g, 2, none⟩ = false) :=
  ⟨⟨(h.cell 0).trans rfl, (h.cell 1).trans rfl, (h.cell 2).trans rfl⟩, h.frozen 0, h.frozen 1, h.frozen 2⟩
set_option maxRecDepth 100000 in
set_option maxHeartbeats 8000000 in
theorem law_FnExactDeedText (v0 : Value) (B : Nat) (w : World) (w0 : IsDeed v0) (hl : LibOk B w) :
    Calls Tryd.prog 3 #[v0] w fun e w' => e = .returned (.bool true) ∧ Below w.heap.size w w' := by
  obtain ⟨k, n, t, rfl, ht⟩ := w0
  obtain ⟨g, hg⟩ : ∃ g, w.heap.size = g := ⟨_, rfl⟩
  have hBg : B ≤ g := by rw [← hg]; exact hl.sz
  obtain ⟨wb, hwb⟩ : ∃ wb, wb = w.alloc (.cells #[.int .i64 k, .int .i64 n, .string (Ba t)] 23) := ⟨_, rfl⟩
  have hzb : wb.heap.size = g + 1 := by rw [hwb, ← hg]; simp
  have HBB : Below g w wb := by rw [hwb, ← hg]; go_grown
  have KD : Blk wb g 23 #[.int .i64 k, .int .i64 n, .string (Ba t)] := by rw [hwb, ← hg]; exact Blk.new w _ _
  have HLB : LibOk B wb := by rw [hwb]; exact hl.alloc _
  have CSD := Lib.hid (fun w' => laws_szDeed k n 1048576 t w' (by omega) (by omega) ht)
  have HTF := Lib.hid (fun (h : ¬ szD 1048576 t < 0) => szD_f h)
  obtain ⟨M, hM⟩ : ∃ M, M = szD 1048576 t := ⟨_, rfl⟩
  rw [← hM] at CSD HTF
  clear hM
  obtain ⟨⟨d0, d1, d2⟩, _⟩ := cells3l KD
  unfold deedV at CSD ⊢
  go_enter Tryd.func3, Tryd.ntmps3
  go_upto_region 1 with (fail)
  rw [← hwb]
  clear hwb hl
  go_wp2_with fail
  refine (CSD.out _).mono ?_
  rintro e w2 ⟨rfl, hb2⟩
  have hz2 := hb2.size
  have KD := KD.below hb2 (by omega)
  have HB2 := HBB.trans (hb2.mono (by omega))
  have HL2 := HLB.on hb2
  clear hb2 CSD d0 d1 d2 HBB HLB
  by_cases hneg : M < 0
  · clear KD
    go_wp2_with fail
    go_ret
    exact ⟨rfl, by rw [hg]; exact HB2⟩
  have ht1 := HTF.out (by omega)
  have ht2 : t.length ≤ 2000000 := by omega
  have CTD := Lib.hid (fun w' => laws_toDeed k n t w')
  have CS := Lib.hid (fun w' => spec_DeedText ⟨k, n, t⟩ w' ht2)
  have CI := Lib.hid (fun w' h => impl_DeedText ⟨k, n, t⟩ B w' h ht2)
  obtain ⟨u, hu⟩ : ∃ u, Pl.dtext ⟨k, n, t⟩ = u := ⟨_, rfl⟩
  rw [hu] at CS CI
  clear hu HTF ht1 ht2 ht
  unfold deedV at CTD CS CI
  obtain ⟨⟨d0, d1, d2⟩, _⟩ := cells3l KD
  go_wp2_with fail
  refine (CTD.out _).mono ?_
  rintro e w3 ⟨rfl, hb3⟩
  go_wp2_with fail
  refine (CS.out _).mono ?_
  rintro e w4 ⟨rfl, hb4⟩
  have hz3 := hb3.size
  have hz4 := hb4.size
  have hb4' := hb3.trans (hb4.mono hz3)
  have KD := KD.below hb4' (by omega)
  have HB4 := HB2.trans (hb4'.mono (by omega))
  have HL4 := (HL2.on hb3).on hb4
  clear hb3 hb4 hb4' d0 d1 d2 HB2 HL2
  obtain ⟨⟨d0, d1, d2⟩, _⟩ := cells3l KD
  go_wp2_with fail
  refine (CTD.out _).mono ?_
  rintro e w5 ⟨rfl, hb5⟩
  have HL5 := HL4.on hb5
  go_wp2_with fail
  refine (CI.out _ HL5).mono ?_
  rintro e w6 ⟨rfl, hb6⟩
  have hz5 := hb5.size
  have HB6 := (HB4.trans (hb5.mono (by omega))).trans (hb6.mono (by omega))
  clear hb5 hb6 HB4 HL4 HL5
  go_wp2_with fail
  go_ret
  exact ⟨rfl, by rw [hg]; exact HB6⟩
end Go.Proofs.YtamhpgledbmnoaaDoor
