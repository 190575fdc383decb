/-
  The program's reader of one deed.
  Conditions: the library's variables hold what its contracts ask.
-/
import Derived.Test.YtamhpgledbmnoaaGreatDoorDt
import Derived.Test.YtamhpgledbmnoaaGreatDoorDq
namespace Go.Proofs.YtamhpgledbmnoaaGreatDoor
set_option linter.unusedVariables false
set_option linter.unusedSimpArgs false
open Go.RowKit
set_option maxRecDepth 100000 in
set_option maxHeartbeats 8000000 in
theorem impl_ReadDeed (s : List UInt8) (B : Nat) (w : World) (hl : LibOkE B w) (hs : s.length ≤ 2000000) :
    Calls Tryz.prog 10 #[.string (Ba s)] w (RdO (Pl.readD s) w) := by
  obtain ⟨h, r, f, hc⟩ : ∃ h r f, Lib.cut s [32] = (h, r, f) := ⟨_, _, _, rfl⟩
  have hrl : r.length ≤ s.length := by have := (Pl.cut_len s).2; rw [hc] at this; exact this
  obtain ⟨g, hg⟩ : ∃ g, w.heap.size = g := ⟨_, rfl⟩
  have hBg : B ≤ g := by rw [← hg]; exact hl.sz
  obtain ⟨w0, hw0⟩ : ∃ w0, w0 = w.alloc (.cells #[.int .i64 0, .int .i64 0, .string ⟨#[]⟩] 24) := ⟨_, rfl⟩
  have hz0 : w0.heap.size = g + 1 := by rw [hw0, ← hg]; simp
  have HB0 : Below g w w0 := by rw [hw0, ← hg]; go_grown
  have K0 : Blk w0 g 24 #[.int .i64 0, .int .i64 0, .string ⟨#[]⟩] := by rw [hw0, ← hg]; exact Blk.new w _ _
  have HL0 : LibOkE B w0 := by rw [hw0]; exact hl.alloc _
  have CC := Lib.hid (lib_cut s h r f w0 HL0 hs hc)
  have HC := Lib.hid hc
  clear hc hl
  go_enter Tryz.func10, Tryz.ntmps10
  go_upto_region 1 with (with_reducible refine AtEnd.of ?_)
  rw [← hw0]
  clear hw0
  go_wp2_with (with_reducible refine AtEnd.of ?_)
  refine (CC.out).mono ?_
  rintro e w1 ⟨rfl, q, rfl⟩
  obtain ⟨w2, hw2⟩ : ∃ w2, w2 = (w0.drewN q).alloc (.cells #[.int .i64 0, .int .i64 0, .string ⟨#[]⟩] 24) := ⟨_, rfl⟩
  have hz2 : w2.heap.size = g + 2 := by rw [hw2]; simp [hz0]
  have HB2 : Below g w w2 := by rw [hw2]; exact (below_drewN HB0 q).alloc (by simp [hz0]) _
  have KG : Blk w2 g 24 #[.int .i64 0, .int .i64 0, .string ⟨#[]⟩] := by rw [hw2]; exact ((K0.below (below_drewN (Below.refl w0.heap.size w0) q) (by omega))).alloc _
  have KD : Blk w2 (g + 1) 24 #[.int .i64 0, .int .i64 0, .string ⟨#[]⟩] := by rw [hw2]; exact Blk.newd (by simp [hz0])
  have HL2 : LibOkE B w2 := by rw [hw2]; exact (HL0.drewN q).alloc _
  go_upto_region 3 with (with_reducible refine AtEnd.of ?_)
  have hsz0 : (w0.drewN q).heap.size = g + 1 := by simp [hz0]
  try rw [hsz0]
  try rw [hz0]
  rw [← hw2]
  clear hw2 hz0 HB0 K0 HL0 CC hsz0
  by_cases h0 : h = [120]
  · subst h0
    rw [show Ba [120] = ⟨#[120]⟩ from rfl]
    have hne := Lib.hid (Pl.cut_ne HC.out (by simp))
    by_cases hok : ∃ v, Lib.atoiAll r = .ok v
    · obtain ⟨v, ha⟩ := hok
      have huq := Lib.hid (Pl.rd_x HC.out ha)
      have CA := Lib.hid (lib_atoi_ok r v w2 (by omega) ha)
      clear ha
      go_wp2_with (with_reducible refine AtEnd.of ?_)
      refine (CA.out).mono ?_
      rintro e w3 ⟨rfl, hb3⟩
      have KG := KG.below hb3 (by omega)
      have KD := KD.below hb3 (by omega)
      have HB3 : Below g w w3 := HB2.trans (hb3.mono (by omega))
      have HL3 := HL2.on hb3
      clear hb3 CA HL2 HB2
      obtain ⟨⟨a0, a1, a2⟩, e0, e1, e2⟩ := cells3q KD
      go_upto_region 11 with (with_reducible refine AtEnd.of ?_)
      obtain ⟨w4, hw4⟩ : ∃ w4, w4 = w3.setCell ⟨g + 1, 1, none⟩ (.int .i64 v) := ⟨_, rfl⟩
      have KG : Blk w4 g 24 #[.int .i64 0, .int .i64 0, .string ⟨#[]⟩] := by rw [hw4]; exact KG.far (p := ⟨g + 1, 1, none⟩) (by show g ≠ g + 1; omega) _
      have KD : Blk w4 (g + 1) 24 #[.int .i64 0, .int .i64 v, .string ⟨#[]⟩] := by rw [hw4]; exact KD.set_ 1 _
      have HB4 : Below g w w4 := by rw [hw4]; exact HB3.setCell (p := ⟨g + 1, 1, none⟩) (by show g ≤ g + 1; omega) _
      have HL4 : LibOkE B w4 := by rw [hw4]; exact HL3.below ((Below.refl _ _).setCell (p := ⟨g + 1, 1, none⟩) (by show B ≤ g + 1; omega) _)
      rw [← hw4]
      clear hw4 a0 a1 a2 e0 e1 e2 HB3 HL3
      obtain ⟨wd, rfl⟩ : ∃ wd, wd = w4 := ⟨_, rfl⟩
      have HBD := HB4
      have HLD := HL4
      go_upto_region 21 with (with_reducible refine AtEnd.of ?_)
      have HT : ([] : List UInt8).length ≤ 2000000 := by first | omega | simp
      have CD := Lib.hid (impl_DeedText ⟨0, v, []⟩ B wd HLD.ok HT)
      obtain ⟨u, hu⟩ : ∃ u, Pl.dtext ⟨0, v, []⟩ = u := ⟨_, rfl⟩
      rw [hu] at CD
      have HU := Lib.hid hu
      clear hu
      unfold deedV at CD
      obtain ⟨⟨a0, a1, a2⟩, e0, e1, e2⟩ := cells3q KD
      go_wp2_with (with_reducible refine AtEnd.of ?_)
      refine (CD.out).mono ?_
      rintro e w6 ⟨rfl, hb6⟩
      clear a0 a1 a2 e0 e1 e2
      have KG := KG.below hb6 (by have := KG.lt; omega)
      have KD := KD.below hb6 (by have := KD.lt; omega)
      have HBX : Below g w w6 := HBD.trans (hb6.mono (by have := HBD.size; omega))
      clear hb6 HBD CD HLD
      by_cases he : u = s
      · have hr := Lib.hid ((Pl.rd_is hne.out huq.out).1 (HU.out.trans he))
        rw [he]
        obtain ⟨⟨a0, a1, a2⟩, e0, e1, e2⟩ := cells3q KG
        obtain ⟨⟨b0, b1, b2⟩, f0, f1, f2⟩ := cells3q KD
        have KF := put3d_blk (v0 := .int .i64 (0)) (v1 := .int .i64 (v)) (v2 := .string ⟨#[]⟩) KG
        have HBF := put3d_below (v0 := .int .i64 (0)) (v1 := .int .i64 (v)) (v2 := .string ⟨#[]⟩) HBX (Nat.le_refl g)
        go_wp2_with (with_reducible refine AtEnd.of ?_)
        obtain ⟨wf, hwf⟩ : ∃ wf, wf = put3d w6 g (.int .i64 (0)) (.int .i64 (v)) (.string ⟨#[]⟩) := ⟨_, rfl⟩
        rw [← hwf] at KF HBF
        unfold put3d at hwf
        rw [← hwf]
        clear hwf
        refine atEnd_ret (results_cell_tmp Tryz.results10 rfl (load_dd KF) rfl) rfl ?_
        rw [hr.out]
        exact ⟨rfl, by rw [hg]; exact HBF⟩
      · have hr := Lib.hid ((Pl.rd_is hne.out huq.out).2 (fun h => he (HU.out.symm.trans h)))
        have hbe := Ba_ne he
        clear he
        obtain ⟨⟨a0, a1, a2⟩, e0, e1, e2⟩ := cells3q KG
        have KF := put3d_blk (v0 := .int .i64 0) (v1 := .int .i64 0) (v2 := .string ⟨#[]⟩) KG
        have HBF := put3d_below (v0 := .int .i64 0) (v1 := .int .i64 0) (v2 := .string ⟨#[]⟩) HBX (Nat.le_refl g)
        go_wp2_with (with_reducible refine AtEnd.of ?_)
        obtain ⟨wf, hwf⟩ : ∃ wf, wf = put3d w6 g (.int .i64 0) (.int .i64 0) (.string ⟨#[]⟩) := ⟨_, rfl⟩
        rw [← hwf] at KF HBF
        unfold put3d at hwf
        rw [← hwf]
        clear hwf
        refine atEnd_ret (results_cell_tmp Tryz.results10 rfl (load_dd KF) rfl) rfl ?_
        rw [hr.out]
        exact ⟨rfl, by rw [hg]; exact HBF⟩
    · have hno : ∀ v, Lib.atoiAll r ≠ .ok v := fun v e => hok ⟨v, e⟩
      have hr := Lib.hid (Pl.rd_xe HC.out hno)
      have CA := Lib.hid (lib_atoi_err r w2 HL2 (by omega) hno)
      clear hok hno
      go_wp2_with (with_reducible refine AtEnd.of ?_)
      refine (CA.out).mono ?_
      rintro e w3 ⟨x, tp, p, rfl, hb3⟩
      have KG := KG.below hb3 (by omega)
      have HBX : Below g w w3 := HB2.trans (hb3.mono (by omega))
      clear hb3 CA HL2 HB2
      obtain ⟨⟨a0, a1, a2⟩, e0, e1, e2⟩ := cells3q KG
      have KF := put3d_blk (v0 := .int .i64 0) (v1 := .int .i64 0) (v2 := .string ⟨#[]⟩) KG
      have HBF := put3d_below (v0 := .int .i64 0) (v1 := .int .i64 0) (v2 := .string ⟨#[]⟩) HBX (Nat.le_refl g)
      go_wp2_with (with_reducible refine AtEnd.of ?_)
      obtain ⟨wf, hwf⟩ : ∃ wf, wf = put3d w3 g (.int .i64 0) (.int .i64 0) (.string ⟨#[]⟩) := ⟨_, rfl⟩
      rw [← hwf] at KF HBF
      unfold put3d at hwf
      rw [← hwf]
      clear hwf
      refine atEnd_ret (results_cell_tmp Tryz.results10 rfl (load_dd KF) rfl) rfl ?_
      rw [hr.out]
      exact ⟨rfl, by rw [hg]; exact HBF⟩
  by_cases h1 : h = [121]
  · subst h1
    rw [show Ba [121] = ⟨#[121]⟩ from rfl]
    have hne := Lib.hid (Pl.cut_ne HC.out (by simp))
    by_cases hok : ∃ v, Lib.atoiAll r = .ok v
    · obtain ⟨v, ha⟩ := hok
      have huq := Lib.hid (Pl.rd_y HC.out ha)
      have CA := Lib.hid (lib_atoi_ok r v w2 (by omega) ha)
      clear ha
      go_wp2_with (with_reducible refine AtEnd.of ?_)
      refine (CA.out).mono ?_
      rintro e w3 ⟨rfl, hb3⟩
      have KG := KG.below hb3 (by omega)
      have KD := KD.below hb3 (by omega)
      have HB3 : Below g w w3 := HB2.trans (hb3.mono (by omega))
      have HL3 := HL2.on hb3
      clear hb3 CA HL2 HB2
      obtain ⟨⟨a0, a1, a2⟩, e0, e1, e2⟩ := cells3q KD
      go_upto_region 11 with (with_reducible refine AtEnd.of ?_)
      obtain ⟨w4, hw4⟩ : ∃ w4, w4 = w3.setCell ⟨g + 1, 1, none⟩ (.int .i64 v) := ⟨_, rfl⟩
      have KG : Blk w4 g 24 #[.int .i64 0, .int .i64 0, .string ⟨#[]⟩] := by rw [hw4]; exact KG.far (p := ⟨g + 1, 1, none⟩) (by show g ≠ g + 1; omega) _
      have KD : Blk w4 (g + 1) 24 #[.int .i64 0, .int .i64 v, .string ⟨#[]⟩] := by rw [hw4]; exact KD.set_ 1 _
      have HB4 : Below g w w4 := by rw [hw4]; exact HB3.setCell (p := ⟨g + 1, 1, none⟩) (by show g ≤ g + 1; omega) _
      have HL4 : LibOkE B w4 := by rw [hw4]; exact HL3.below ((Below.refl _ _).setCell (p := ⟨g + 1, 1, none⟩) (by show B ≤ g + 1; omega) _)
      rw [← hw4]
      clear hw4 a0 a1 a2 e0 e1 e2 HB3 HL3
      obtain ⟨⟨a0, a1, a2⟩, e0, e1, e2⟩ := cells3q KD
      go_upto_region 21 with (with_reducible refine AtEnd.of ?_)
      obtain ⟨wd, hwd⟩ : ∃ wd, wd = w4.setCell ⟨g + 1, 0, none⟩ (.int .i64 1) := ⟨_, rfl⟩
      have KG : Blk wd g 24 #[.int .i64 0, .int .i64 0, .string ⟨#[]⟩] := by rw [hwd]; exact KG.far (p := ⟨g + 1, 0, none⟩) (by show g ≠ g + 1; omega) _
      have KD : Blk wd (g + 1) 24 #[.int .i64 1, .int .i64 v, .string ⟨#[]⟩] := by rw [hwd]; exact KD.set_ 0 _
      have HBD : Below g w wd := by rw [hwd]; exact HB4.setCell (p := ⟨g + 1, 0, none⟩) (by show g ≤ g + 1; omega) _
      have HLD : LibOkE B wd := by rw [hwd]; exact HL4.below ((Below.refl _ _).setCell (p := ⟨g + 1, 0, none⟩) (by show B ≤ g + 1; omega) _)
      rw [← hwd]
      clear hwd a0 a1 a2 e0 e1 e2 HB4 HL4
      go_upto_region 21 with (with_reducible refine AtEnd.of ?_)
      have HT : ([] : List UInt8).length ≤ 2000000 := by first | omega | simp
      have CD := Lib.hid (impl_DeedText ⟨1, v, []⟩ B wd HLD.ok HT)
      obtain ⟨u, hu⟩ : ∃ u, Pl.dtext ⟨1, v, []⟩ = u := ⟨_, rfl⟩
      rw [hu] at CD
      have HU := Lib.hid hu
      clear hu
      unfold deedV at CD
      obtain ⟨⟨a0, a1, a2⟩, e0, e1, e2⟩ := cells3q KD
      go_wp2_with (with_reducible refine AtEnd.of ?_)
      refine (CD.out).mono ?_
      rintro e w6 ⟨rfl, hb6⟩
      clear a0 a1 a2 e0 e1 e2
      have KG := KG.below hb6 (by have := KG.lt; omega)
      have KD := KD.below hb6 (by have := KD.lt; omega)
      have HBX : Below g w w6 := HBD.trans (hb6.mono (by have := HBD.size; omega))
      clear hb6 HBD CD HLD
      by_cases he : u = s
      · have hr := Lib.hid ((Pl.rd_is hne.out huq.out).1 (HU.out.trans he))
        rw [he]
        obtain ⟨⟨a0, a1, a2⟩, e0, e1, e2⟩ := cells3q KG
        obtain ⟨⟨b0, b1, b2⟩, f0, f1, f2⟩ := cells3q KD
        have KF := put3d_blk (v0 := .int .i64 (1)) (v1 := .int .i64 (v)) (v2 := .string ⟨#[]⟩) KG
        have HBF := put3d_below (v0 := .int .i64 (1)) (v1 := .int .i64 (v)) (v2 := .string ⟨#[]⟩) HBX (Nat.le_refl g)
        go_wp2_with (with_reducible refine AtEnd.of ?_)
        obtain ⟨wf, hwf⟩ : ∃ wf, wf = put3d w6 g (.int .i64 (1)) (.int .i64 (v)) (.string ⟨#[]⟩) := ⟨_, rfl⟩
        rw [← hwf] at KF HBF
        unfold put3d at hwf
        rw [← hwf]
        clear hwf
        refine atEnd_ret (results_cell_tmp Tryz.results10 rfl (load_dd KF) rfl) rfl ?_
        rw [hr.out]
        exact ⟨rfl, by rw [hg]; exact HBF⟩
      · have hr := Lib.hid ((Pl.rd_is hne.out huq.out).2 (fun h => he (HU.out.symm.trans h)))
        have hbe := Ba_ne he
        clear he
        obtain ⟨⟨a0, a1, a2⟩, e0, e1, e2⟩ := cells3q KG
        have KF := put3d_blk (v0 := .int .i64 0) (v1 := .int .i64 0) (v2 := .string ⟨#[]⟩) KG
        have HBF := put3d_below (v0 := .int .i64 0) (v1 := .int .i64 0) (v2 := .string ⟨#[]⟩) HBX (Nat.le_refl g)
        go_wp2_with (with_reducible refine AtEnd.of ?_)
        obtain ⟨wf, hwf⟩ : ∃ wf, wf = put3d w6 g (.int .i64 0) (.int .i64 0) (.string ⟨#[]⟩) := ⟨_, rfl⟩
        rw [← hwf] at KF HBF
        unfold put3d at hwf
        rw [← hwf]
        clear hwf
        refine atEnd_ret (results_cell_tmp Tryz.results10 rfl (load_dd KF) rfl) rfl ?_
        rw [hr.out]
        exact ⟨rfl, by rw [hg]; exact HBF⟩
    · have hno : ∀ v, Lib.atoiAll r ≠ .ok v := fun v e => hok ⟨v, e⟩
      have hr := Lib.hid (Pl.rd_ye HC.out hno)
      have CA := Lib.hid (lib_atoi_err r w2 HL2 (by omega) hno)
      clear hok hno
      go_wp2_with (with_reducible refine AtEnd.of ?_)
      refine (CA.out).mono ?_
      rintro e w3 ⟨x, tp, p, rfl, hb3⟩
      have KG := KG.below hb3 (by omega)
      have HBX : Below g w w3 := HB2.trans (hb3.mono (by omega))
      clear hb3 CA HL2 HB2
      obtain ⟨⟨a0, a1, a2⟩, e0, e1, e2⟩ := cells3q KG
      have KF := put3d_blk (v0 := .int .i64 0) (v1 := .int .i64 0) (v2 := .string ⟨#[]⟩) KG
      have HBF := put3d_below (v0 := .int .i64 0) (v1 := .int .i64 0) (v2 := .string ⟨#[]⟩) HBX (Nat.le_refl g)
      go_wp2_with (with_reducible refine AtEnd.of ?_)
      obtain ⟨wf, hwf⟩ : ∃ wf, wf = put3d w3 g (.int .i64 0) (.int .i64 0) (.string ⟨#[]⟩) := ⟨_, rfl⟩
      rw [← hwf] at KF HBF
      unfold put3d at hwf
      rw [← hwf]
      clear hwf
      refine atEnd_ret (results_cell_tmp Tryz.results10 rfl (load_dd KF) rfl) rfl ?_
      rw [hr.out]
      exact ⟨rfl, by rw [hg]; exact HBF⟩
  by_cases h2 : h = [101, 120, 112, 114]
  · subst h2
    rw [show Ba [101, 120, 112, 114] = ⟨#[101, 120, 112, 114]⟩ from rfl]
    have hne := Lib.hid (Pl.cut_ne HC.out (by simp))
    have huq := Lib.hid (Pl.rd_e HC.out)
    obtain ⟨⟨a0, a1, a2⟩, e0, e1, e2⟩ := cells3q KD
    go_upto_region 21 with (with_reducible refine AtEnd.of ?_)
    obtain ⟨wd, hwd⟩ : ∃ wd, wd = put3d w2 (g + 1) (.int .i64 2) (.int .i64 0) (.string (Ba r)) := ⟨_, rfl⟩
    have KG : Blk wd g 24 #[.int .i64 0, .int .i64 0, .string ⟨#[]⟩] := by rw [hwd]; exact put3d_far (by omega) KG
    have KD : Blk wd (g + 1) 24 #[.int .i64 2, .int .i64 0, .string (Ba r)] := by rw [hwd]; exact put3d_blk KD
    have HBD : Below g w wd := by rw [hwd]; exact put3d_below HB2 (by omega)
    have HLD : LibOkE B wd := by rw [hwd]; exact HL2.below (put3d_below (Below.refl _ _) (by omega))
    unfold put3d at hwd
    rw [← hwd]
    clear hwd a0 a1 a2 e0 e1 e2 HB2 HL2
    go_upto_region 21 with (with_reducible refine AtEnd.of ?_)
    have HT : (r : List UInt8).length ≤ 2000000 := by first | omega | simp
    have CD := Lib.hid (impl_DeedText ⟨2, 0, r⟩ B wd HLD.ok HT)
    obtain ⟨u, hu⟩ : ∃ u, Pl.dtext ⟨2, 0, r⟩ = u := ⟨_, rfl⟩
    rw [hu] at CD
    have HU := Lib.hid hu
    clear hu
    unfold deedV at CD
    obtain ⟨⟨a0, a1, a2⟩, e0, e1, e2⟩ := cells3q KD
    go_wp2_with (with_reducible refine AtEnd.of ?_)
    refine (CD.out).mono ?_
    rintro e w6 ⟨rfl, hb6⟩
    clear a0 a1 a2 e0 e1 e2
    have KG := KG.below hb6 (by have := KG.lt; omega)
    have KD := KD.below hb6 (by have := KD.lt; omega)
    have HBX : Below g w w6 := HBD.trans (hb6.mono (by have := HBD.size; omega))
    clear hb6 HBD CD HLD
    by_cases he : u = s
    · have hr := Lib.hid ((Pl.rd_is hne.out huq.out).1 (HU.out.trans he))
      rw [he]
      obtain ⟨⟨a0, a1, a2⟩, e0, e1, e2⟩ := cells3q KG
      obtain ⟨⟨b0, b1, b2⟩, f0, f1, f2⟩ := cells3q KD
      have KF := put3d_blk (v0 := .int .i64 (2)) (v1 := .int .i64 (0)) (v2 := .string (Ba r)) KG
      have HBF := put3d_below (v0 := .int .i64 (2)) (v1 := .int .i64 (0)) (v2 := .string (Ba r)) HBX (Nat.le_refl g)
      go_wp2_with (with_reducible refine AtEnd.of ?_)
      obtain ⟨wf, hwf⟩ : ∃ wf, wf = put3d w6 g (.int .i64 (2)) (.int .i64 (0)) (.string (Ba r)) := ⟨_, rfl⟩
      rw [← hwf] at KF HBF
      unfold put3d at hwf
      rw [← hwf]
      clear hwf
      refine atEnd_ret (results_cell_tmp Tryz.results10 rfl (load_dd KF) rfl) rfl ?_
      rw [hr.out]
      exact ⟨rfl, by rw [hg]; exact HBF⟩
    · have hr := Lib.hid ((Pl.rd_is hne.out huq.out).2 (fun h => he (HU.out.symm.trans h)))
      have hbe := Ba_ne he
      clear he
      obtain ⟨⟨a0, a1, a2⟩, e0, e1, e2⟩ := cells3q KG
      have KF := put3d_blk (v0 := .int .i64 0) (v1 := .int .i64 0) (v2 := .string ⟨#[]⟩) KG
      have HBF := put3d_below (v0 := .int .i64 0) (v1 := .int .i64 0) (v2 := .string ⟨#[]⟩) HBX (Nat.le_refl g)
      go_wp2_with (with_reducible refine AtEnd.of ?_)
      obtain ⟨wf, hwf⟩ : ∃ wf, wf = put3d w6 g (.int .i64 0) (.int .i64 0) (.string ⟨#[]⟩) := ⟨_, rfl⟩
      rw [← hwf] at KF HBF
      unfold put3d at hwf
      rw [← hwf]
      clear hwf
      refine atEnd_ret (results_cell_tmp Tryz.results10 rfl (load_dd KF) rfl) rfl ?_
      rw [hr.out]
      exact ⟨rfl, by rw [hg]; exact HBF⟩
  by_cases h3 : h = [115, 105, 109, 112, 108, 101]
  · subst h3
    rw [show Ba [115, 105, 109, 112, 108, 101] = ⟨#[115, 105, 109, 112, 108, 101]⟩ from rfl]
    have hne := Lib.hid (Pl.cut_ne HC.out (by simp))
    have huq := Lib.hid (Pl.rd_3 HC.out)
    obtain ⟨⟨a0, a1, a2⟩, e0, e1, e2⟩ := cells3q KD
    go_upto_region 21 with (with_reducible refine AtEnd.of ?_)
    obtain ⟨wd, hwd⟩ : ∃ wd, wd = w2.setCell ⟨g + 1, 0, none⟩ (.int .i64 3) := ⟨_, rfl⟩
    have KG : Blk wd g 24 #[.int .i64 0, .int .i64 0, .string ⟨#[]⟩] := by rw [hwd]; exact KG.far (p := ⟨g + 1, 0, none⟩) (by show g ≠ g + 1; omega) _
    have KD : Blk wd (g + 1) 24 #[.int .i64 3, .int .i64 0, .string ⟨#[]⟩] := by rw [hwd]; exact KD.set_ 0 _
    have HBD : Below g w wd := by rw [hwd]; exact HB2.setCell (p := ⟨g + 1, 0, none⟩) (by show g ≤ g + 1; omega) _
    have HLD : LibOkE B wd := by rw [hwd]; exact HL2.below ((Below.refl _ _).setCell (p := ⟨g + 1, 0, none⟩) (by show B ≤ g + 1; omega) _)
    rw [← hwd]
    clear hwd a0 a1 a2 e0 e1 e2 HB2 HL2
    go_upto_region 21 with (with_reducible refine AtEnd.of ?_)
    have HT : ([] : List UInt8).length ≤ 2000000 := by first | omega | simp
    have CD := Lib.hid (impl_DeedText ⟨3, 0, []⟩ B wd HLD.ok HT)
    obtain ⟨u, hu⟩ : ∃ u, Pl.dtext ⟨3, 0, []⟩ = u := ⟨_, rfl⟩
    rw [hu] at CD
    have HU := Lib.hid hu
    clear hu
    unfold deedV at CD
    obtain ⟨⟨a0, a1, a2⟩, e0, e1, e2⟩ := cells3q KD
    go_wp2_with (with_reducible refine AtEnd.of ?_)
    refine (CD.out).mono ?_
    rintro e w6 ⟨rfl, hb6⟩
    clear a0 a1 a2 e0 e1 e2
    have KG := KG.below hb6 (by have := KG.lt; omega)
    have KD := KD.below hb6 (by have := KD.lt; omega)
    have HBX : Below g w w6 := HBD.trans (hb6.mono (by have := HBD.size; omega))
    clear hb6 HBD CD HLD
    by_cases he : u = s
    · have hr := Lib.hid ((Pl.rd_is hne.out huq.out).1 (HU.out.trans he))
      rw [he]
      obtain ⟨⟨a0, a1, a2⟩, e0, e1, e2⟩ := cells3q KG
      obtain ⟨⟨b0, b1, b2⟩, f0, f1, f2⟩ := cells3q KD
      have KF := put3d_blk (v0 := .int .i64 (3)) (v1 := .int .i64 (0)) (v2 := .string ⟨#[]⟩) KG
      have HBF := put3d_below (v0 := .int .i64 (3)) (v1 := .int .i64 (0)) (v2 := .string ⟨#[]⟩) HBX (Nat.le_refl g)
      go_wp2_with (with_reducible refine AtEnd.of ?_)
      obtain ⟨wf, hwf⟩ : ∃ wf, wf = put3d w6 g (.int .i64 (3)) (.int .i64 (0)) (.string ⟨#[]⟩) := ⟨_, rfl⟩
      rw [← hwf] at KF HBF
      unfold put3d at hwf
      rw [← hwf]
      clear hwf
      refine atEnd_ret (results_cell_tmp Tryz.results10 rfl (load_dd KF) rfl) rfl ?_
      rw [hr.out]
      exact ⟨rfl, by rw [hg]; exact HBF⟩
    · have hr := Lib.hid ((Pl.rd_is hne.out huq.out).2 (fun h => he (HU.out.symm.trans h)))
      have hbe := Ba_ne he
      clear he
      obtain ⟨⟨a0, a1, a2⟩, e0, e1, e2⟩ := cells3q KG
      have KF := put3d_blk (v0 := .int .i64 0) (v1 := .int .i64 0) (v2 := .string ⟨#[]⟩) KG
      have HBF := put3d_below (v0 := .int .i64 0) (v1 := .int .i64 0) (v2 := .string ⟨#[]⟩) HBX (Nat.le_refl g)
      go_wp2_with (with_reducible refine AtEnd.of ?_)
      obtain ⟨wf, hwf⟩ : ∃ wf, wf = put3d w6 g (.int .i64 0) (.int .i64 0) (.string ⟨#[]⟩) := ⟨_, rfl⟩
      rw [← hwf] at KF HBF
      unfold put3d at hwf
      rw [← hwf]
      clear hwf
      refine atEnd_ret (results_cell_tmp Tryz.results10 rfl (load_dd KF) rfl) rfl ?_
      rw [hr.out]
      exact ⟨rfl, by rw [hg]; exact HBF⟩
  by_cases h4 : h = [115, 104, 111, 114, 116]
  · subst h4
    rw [show Ba [115, 104, 111, 114, 116] = ⟨#[115, 104, 111, 114, 116]⟩ from rfl]
    have hne := Lib.hid (Pl.cut_ne HC.out (by simp))
    have huq := Lib.hid (Pl.rd_4 HC.out)
    obtain ⟨⟨a0, a1, a2⟩, e0, e1, e2⟩ := cells3q KD
    go_upto_region 21 with (with_reducible refine AtEnd.of ?_)
    obtain ⟨wd, hwd⟩ : ∃ wd, wd = w2.setCell ⟨g + 1, 0, none⟩ (.int .i64 4) := ⟨_, rfl⟩
    have KG : Blk wd g 24 #[.int .i64 0, .int .i64 0, .string ⟨#[]⟩] := by rw [hwd]; exact KG.far (p := ⟨g + 1, 0, none⟩) (by show g ≠ g + 1; omega) _
    have KD : Blk wd (g + 1) 24 #[.int .i64 4, .int .i64 0, .string ⟨#[]⟩] := by rw [hwd]; exact KD.set_ 0 _
    have HBD : Below g w wd := by rw [hwd]; exact HB2.setCell (p := ⟨g + 1, 0, none⟩) (by show g ≤ g + 1; omega) _
    have HLD : LibOkE B wd := by rw [hwd]; exact HL2.below ((Below.refl _ _).setCell (p := ⟨g + 1, 0, none⟩) (by show B ≤ g + 1; omega) _)
    rw [← hwd]
    clear hwd a0 a1 a2 e0 e1 e2 HB2 HL2
    go_upto_region 21 with (with_reducible refine AtEnd.of ?_)
    have HT : ([] : List UInt8).length ≤ 2000000 := by first | omega | simp
    have CD := Lib.hid (impl_DeedText ⟨4, 0, []⟩ B wd HLD.ok HT)
    obtain ⟨u, hu⟩ : ∃ u, Pl.dtext ⟨4, 0, []⟩ = u := ⟨_, rfl⟩
    rw [hu] at CD
    have HU := Lib.hid hu
    clear hu
    unfold deedV at CD
    obtain ⟨⟨a0, a1, a2⟩, e0, e1, e2⟩ := cells3q KD
    go_wp2_with (with_reducible refine AtEnd.of ?_)
    refine (CD.out).mono ?_
    rintro e w6 ⟨rfl, hb6⟩
    clear a0 a1 a2 e0 e1 e2
    have KG := KG.below hb6 (by have := KG.lt; omega)
    have KD := KD.below hb6 (by have := KD.lt; omega)
    have HBX : Below g w w6 := HBD.trans (hb6.mono (by have := HBD.size; omega))
    clear hb6 HBD CD HLD
    by_cases he : u = s
    · have hr := Lib.hid ((Pl.rd_is hne.out huq.out).1 (HU.out.trans he))
      rw [he]
      obtain ⟨⟨a0, a1, a2⟩, e0, e1, e2⟩ := cells3q KG
      obtain ⟨⟨b0, b1, b2⟩, f0, f1, f2⟩ := cells3q KD
      have KF := put3d_blk (v0 := .int .i64 (4)) (v1 := .int .i64 (0)) (v2 := .string ⟨#[]⟩) KG
      have HBF := put3d_below (v0 := .int .i64 (4)) (v1 := .int .i64 (0)) (v2 := .string ⟨#[]⟩) HBX (Nat.le_refl g)
      go_wp2_with (with_reducible refine AtEnd.of ?_)
      obtain ⟨wf, hwf⟩ : ∃ wf, wf = put3d w6 g (.int .i64 (4)) (.int .i64 (0)) (.string ⟨#[]⟩) := ⟨_, rfl⟩
      rw [← hwf] at KF HBF
      unfold put3d at hwf
      rw [← hwf]
      clear hwf
      refine atEnd_ret (results_cell_tmp Tryz.results10 rfl (load_dd KF) rfl) rfl ?_
      rw [hr.out]
      exact ⟨rfl, by rw [hg]; exact HBF⟩
    · have hr := Lib.hid ((Pl.rd_is hne.out huq.out).2 (fun h => he (HU.out.symm.trans h)))
      have hbe := Ba_ne he
      clear he
      obtain ⟨⟨a0, a1, a2⟩, e0, e1, e2⟩ := cells3q KG
      have KF := put3d_blk (v0 := .int .i64 0) (v1 := .int .i64 0) (v2 := .string ⟨#[]⟩) KG
      have HBF := put3d_below (v0 := .int .i64 0) (v1 := .int .i64 0) (v2 := .string ⟨#[]⟩) HBX (Nat.le_refl g)
      go_wp2_with (with_reducible refine AtEnd.of ?_)
      obtain ⟨wf, hwf⟩ : ∃ wf, wf = put3d w6 g (.int .i64 0) (.int .i64 0) (.string ⟨#[]⟩) := ⟨_, rfl⟩
      rw [← hwf] at KF HBF
      unfold put3d at hwf
      rw [← hwf]
      clear hwf
      refine atEnd_ret (results_cell_tmp Tryz.results10 rfl (load_dd KF) rfl) rfl ?_
      rw [hr.out]
      exact ⟨rfl, by rw [hg]; exact HBF⟩
  by_cases h5 : h = [98, 97, 99, 107]
  · subst h5
    rw [show Ba [98, 97, 99, 107] = ⟨#[98, 97, 99, 107]⟩ from rfl]
    have hne := Lib.hid (Pl.cut_ne HC.out (by simp))
    have huq := Lib.hid (Pl.rd_5 HC.out)
    obtain ⟨⟨a0, a1, a2⟩, e0, e1, e2⟩ := cells3q KD
    go_upto_region 21 with (with_reducible refine AtEnd.of ?_)
    obtain ⟨wd, hwd⟩ : ∃ wd, wd = w2.setCell ⟨g + 1, 0, none⟩ (.int .i64 5) := ⟨_, rfl⟩
    have KG : Blk wd g 24 #[.int .i64 0, .int .i64 0, .string ⟨#[]⟩] := by rw [hwd]; exact KG.far (p := ⟨g + 1, 0, none⟩) (by show g ≠ g + 1; omega) _
    have KD : Blk wd (g + 1) 24 #[.int .i64 5, .int .i64 0, .string ⟨#[]⟩] := by rw [hwd]; exact KD.set_ 0 _
    have HBD : Below g w wd := by rw [hwd]; exact HB2.setCell (p := ⟨g + 1, 0, none⟩) (by show g ≤ g + 1; omega) _
    have HLD : LibOkE B wd := by rw [hwd]; exact HL2.below ((Below.refl _ _).setCell (p := ⟨g + 1, 0, none⟩) (by show B ≤ g + 1; omega) _)
    rw [← hwd]
    clear hwd a0 a1 a2 e0 e1 e2 HB2 HL2
    go_upto_region 21 with (with_reducible refine AtEnd.of ?_)
    have HT : ([] : List UInt8).length ≤ 2000000 := by first | omega | simp
    have CD := Lib.hid (impl_DeedText ⟨5, 0, []⟩ B wd HLD.ok HT)
    obtain ⟨u, hu⟩ : ∃ u, Pl.dtext ⟨5, 0, []⟩ = u := ⟨_, rfl⟩
    rw [hu] at CD
    have HU := Lib.hid hu
    clear hu
    unfold deedV at CD
    obtain ⟨⟨a0, a1, a2⟩, e0, e1, e2⟩ := cells3q KD
    go_wp2_with (with_reducible refine AtEnd.of ?_)
    refine (CD.out).mono ?_
    rintro e w6 ⟨rfl, hb6⟩
    clear a0 a1 a2 e0 e1 e2
    have KG := KG.below hb6 (by have := KG.lt; omega)
    have KD := KD.below hb6 (by have := KD.lt; omega)
    have HBX : Below g w w6 := HBD.trans (hb6.mono (by have := HBD.size; omega))
    clear hb6 HBD CD HLD
    by_cases he : u = s
    · have hr := Lib.hid ((Pl.rd_is hne.out huq.out).1 (HU.out.trans he))
      rw [he]
      obtain ⟨⟨a0, a1, a2⟩, e0, e1, e2⟩ := cells3q KG
      obtain ⟨⟨b0, b1, b2⟩, f0, f1, f2⟩ := cells3q KD
      have KF := put3d_blk (v0 := .int .i64 (5)) (v1 := .int .i64 (0)) (v2 := .string ⟨#[]⟩) KG
      have HBF := put3d_below (v0 := .int .i64 (5)) (v1 := .int .i64 (0)) (v2 := .string ⟨#[]⟩) HBX (Nat.le_refl g)
      go_wp2_with (with_reducible refine AtEnd.of ?_)
      obtain ⟨wf, hwf⟩ : ∃ wf, wf = put3d w6 g (.int .i64 (5)) (.int .i64 (0)) (.string ⟨#[]⟩) := ⟨_, rfl⟩
      rw [← hwf] at KF HBF
      unfold put3d at hwf
      rw [← hwf]
      clear hwf
      refine atEnd_ret (results_cell_tmp Tryz.results10 rfl (load_dd KF) rfl) rfl ?_
      rw [hr.out]
      exact ⟨rfl, by rw [hg]; exact HBF⟩
    · have hr := Lib.hid ((Pl.rd_is hne.out huq.out).2 (fun h => he (HU.out.symm.trans h)))
      have hbe := Ba_ne he
      clear he
      obtain ⟨⟨a0, a1, a2⟩, e0, e1, e2⟩ := cells3q KG
      have KF := put3d_blk (v0 := .int .i64 0) (v1 := .int .i64 0) (v2 := .string ⟨#[]⟩) KG
      have HBF := put3d_below (v0 := .int .i64 0) (v1 := .int .i64 0) (v2 := .string ⟨#[]⟩) HBX (Nat.le_refl g)
      go_wp2_with (with_reducible refine AtEnd.of ?_)
      obtain ⟨wf, hwf⟩ : ∃ wf, wf = put3d w6 g (.int .i64 0) (.int .i64 0) (.string ⟨#[]⟩) := ⟨_, rfl⟩
      rw [← hwf] at KF HBF
      unfold put3d at hwf
      rw [← hwf]
      clear hwf
      refine atEnd_ret (results_cell_tmp Tryz.results10 rfl (load_dd KF) rfl) rfl ?_
      rw [hr.out]
      exact ⟨rfl, by rw [hg]; exact HBF⟩
  have hr := Lib.hid (Pl.rd_o HC.out h0 h1 h2 h3 h4 h5)
  have b0 : ((Ba h).toList == [120]) = false := by rw [Ba_list]; simpa using h0
  have b1 : ((Ba h).toList == [121]) = false := by rw [Ba_list]; simpa using h1
  have b2 : ((Ba h).toList == [101, 120, 112, 114]) = false := by rw [Ba_list]; simpa using h2
  have b3 : ((Ba h).toList == [115, 105, 109, 112, 108, 101]) = false := by rw [Ba_list]; simpa using h3
  have b4 : ((Ba h).toList == [115, 104, 111, 114, 116]) = false := by rw [Ba_list]; simpa using h4
  have b5 : ((Ba h).toList == [98, 97, 99, 107]) = false := by rw [Ba_list]; simpa using h5
  have HBX := HB2
  clear h0 h1 h2 h3 h4 h5 HL2 HB2
  obtain ⟨⟨a0, a1, a2⟩, e0, e1, e2⟩ := cells3q KG
  have KF := put3d_blk (v0 := .int .i64 0) (v1 := .int .i64 0) (v2 := .string ⟨#[]⟩) KG
  have HBF := put3d_below (v0 := .int .i64 0) (v1 := .int .i64 0) (v2 := .string ⟨#[]⟩) HBX (Nat.le_refl g)
  go_wp2_with (with_reducible refine AtEnd.of ?_)
  obtain ⟨wf, hwf⟩ : ∃ wf, wf = put3d w2 g (.int .i64 0) (.int .i64 0) (.string ⟨#[]⟩) := ⟨_, rfl⟩
  rw [← hwf] at KF HBF
  unfold put3d at hwf
  rw [← hwf]
  clear hwf
  refine atEnd_ret (results_cell_tmp Tryz.results10 rfl (load_dd KF) rfl) rfl ?_
  rw [hr.out]
  exact ⟨rfl, by rw [hg]; exact HBF⟩
end Go.Proofs.YtamhpgledbmnoaaGreatDoor
