/-
  The exact law of JournalText: for every list of deeds the program and the reference give the same text, and the list stays as it was.
  Conditions: the library's table stands.
-/
import Derived.Test.YtamhpgledbmnoaaDoorM5
import Derived.Test.YtamhpgledbmnoaaDoorIe
import Derived.Test.YtamhpgledbmnoaaDoorOa
import Derived.Test.YtamhpgledbmnoaaDoorJt
import Derived.Test.YtamhpgledbmnoaaDoorJs
namespace Go.Proofs.YtamhpgledbmnoaaDoor
set_option linter.unusedVariables false
set_option linter.unusedSimpArgs false
open Go.RowKit
set_option maxRecDepth 100000 in
set_option maxHeartbeats 8000000 in
theorem law_FnExactJournalText (v0 : Value) (B : Nat) (w : World) (w0 : IsDeeds w v0) (hlib : LibOk B w) :
    Calls Tryd.prog 4 #[v0] w fun e w' => e = .returned (.bool true) ∧ Below w.heap.size w w' := by
  obtain ⟨L, l, lc, ds, rfl, hd, hl, ht⟩ := w0
  obtain ⟨g, hg⟩ : ∃ g, w.heap.size = g := ⟨_, rfl⟩
  rw [hg] at hd
  rw [hg]
  have hBg : B ≤ g := by rw [← hg]; exact hlib.sz
  have HD := Lib.hid hd
  have ll : ds.length = l := hd.1
  have CSD := Lib.hid (fun w' h hB => laws_szDeedS L l lc g ds 1048576 w' h hB (by omega) (by omega) hl ht)
  have HTF := Lib.hid (fun (h : ¬ szT 1048576 (dts ds) < 0) => szDs_f h)
  obtain ⟨M, hM⟩ : ∃ M, M = szT 1048576 (dts ds) := ⟨_, rfl⟩
  rw [← hM] at CSD HTF
  have HLB := Lib.hid hlib
  clear hM ht hd hlib
  go_enter Tryd.func4, Tryd.ntmps4
  go_wp2_with fail
  refine (CSD.out _ HD.out (by omega)).mono ?_
  rintro e w2 ⟨rfl, hb2⟩
  have hz2 := hb2.size
  rw [hg] at hb2 hz2
  have HB2 := hb2
  have HL2 := HLB.out.below (hb2.mono hBg)
  clear hb2 CSD HLB hg
  by_cases hneg2 : M < 0
  · go_wp2_with fail
    go_ret
    exact ⟨rfl, HB2⟩
  obtain ⟨hl1, ht1⟩ := HTF.out (by omega)
  have hl2 : l ≤ 1048576 := by omega
  have ht2 : ∀ D ∈ ds, D.t.length ≤ 2000000 := fun D hD => by have := ht1 D hD; omega
  have CTD := Lib.hid (fun w' h hB => laws_toDeedS L l lc g ds w' h hB hl2)
  have CS := Lib.hid (fun A c B' w' h hB => spec_JournalText A l c B' ds w' h hB (by omega) ht2)
  have CI := Lib.hid (fun A c B' w' hL h hB => impl_JournalText A l c B B' ds w' hL h hB (by omega) ht2)
  have CE := Lib.hid (fun A A' c c' B' w' h h' hB => laws_eqDeedS A A' l c c' B' ds w' h h' hB (by omega))
  obtain ⟨u, hu⟩ : ∃ u, Pl.jtext ds = u := ⟨_, rfl⟩
  rw [hu] at CS CI
  have HLL := Lib.hid ll
  clear hu HTF ht1 ht2 hl1 ll hl
  go_wp2_with fail
  refine (CTD.out _ (HD.out.below HB2) (by omega)).mono ?_
  rintro e w3 hh
  obtain ⟨A1, c1, rfl, N1, hb3⟩ := ownDs_n hh HLL.out
  clear hh
  have hz3 := hb3.size
  go_wp2_with fail
  refine (CS.out _ _ _ _ (rdD_own N1) (Nat.le_refl _)).mono ?_
  rintro e w4 ⟨rfl, hb4⟩
  have hz4 := hb4.size
  have HB4 := (HB2.trans (hb3.mono (by omega))).trans (hb4.mono (by omega))
  have HL4 := (HL2.on hb3).on hb4
  clear hb3 hb4 HB2 HL2 N1
  go_wp2_with fail
  refine (CTD.out _ (HD.out.below HB4) (by omega)).mono ?_
  rintro e w5 hh
  obtain ⟨A2, c2, rfl, N2, hb5⟩ := ownDs_n hh HLL.out
  clear hh
  have hz5 := hb5.size
  have HL5 := HL4.on hb5
  have HR5 := Lib.hid (rdD_own N2)
  have HB5 := HB4.trans (hb5.mono (by omega))
  clear hb5 HB4 HL4 N2
  go_wp2_with fail
  refine (CI.out _ _ _ _ HL5 HR5.out (Nat.le_refl _)).mono ?_
  rintro e w6 ⟨rfl, hb6⟩
  have hz6 := hb6.size
  have HR6 := Lib.hid ((HR5.out.below hb6).more hz6)
  have HB6 := HB5.trans (hb6.mono (by omega))
  clear hb6 HR5 HB5 HL5
  go_wp2_with fail
  refine (CTD.out _ (HD.out.below HB6) (by omega)).mono ?_
  rintro e w7 hh
  obtain ⟨A3, c3, rfl, N3, hb7⟩ := ownDs_n hh HLL.out
  clear hh
  have hz7 := hb7.size
  have HR7 := Lib.hid ((HR6.out.below hb7).more hz7)
  have HB7 := HB6.trans (hb7.mono (by omega))
  have HS7 := Lib.hid (rdD_own N3)
  clear hb7 HR6 HB6 N3
  go_wp2_with fail
  refine (CE.out _ _ _ _ _ _ HR7.out HS7.out (Nat.le_refl _)).mono ?_
  rintro e w8 ⟨rfl, hb8⟩
  have HB8 := HB7.trans (hb8.mono (by omega))
  clear hb8 HB7
  go_wp2_with fail
  go_ret
  exact ⟨rfl, HB8⟩
end Go.Proofs.YtamhpgledbmnoaaDoor
