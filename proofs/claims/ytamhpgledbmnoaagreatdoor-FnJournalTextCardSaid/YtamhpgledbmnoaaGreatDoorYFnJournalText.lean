/-
  The law FnJournalText: for all codes it returns true.
  Conditions: the library's variables stand.
-/
import Derived.Test.YtamhpgledbmnoaaGreatDoorKQ
import Derived.Test.YtamhpgledbmnoaaGreatDoorKJ
import Derived.Test.YtamhpgledbmnoaaGreatDoorKD
namespace Go.Proofs.YtamhpgledbmnoaaGreatDoor
set_option linter.unusedVariables false
set_option linter.unusedSimpArgs false
open Go.RowKit
theorem outJ_nY {x : List Pl.Dd × Nat} {n k : Nat} {ds : List Pl.Dd} {w w' : World} {e : Ending} (h : OutJ x w e w') (hx : x = (ds, k)) (hn : ds.length = n) :
    ∃ A c, e = .returned (.tuple #[.slice A n c, .int .i64 (k : Int)]) ∧ w'.ownsRow w.heap.size 24 3 (.slice A n c) n (D3 ds) ∧ Below w.heap.size w w' := by
  subst hx; subst hn; exact h
set_option maxRecDepth 100000 in
set_option maxHeartbeats 8000000 in
theorem law_FnJournalText (a0 : Option Addr) (len0 cap0 : Nat) (z0 : List Int) (B : Nat) (w : World) (w0 : IsRow .u8 w a0 len0 cap0 z0) (hl : LibOkE B w) :
    Calls Tryz.prog 5 #[.slice a0 len0 cap0] w fun e w' => e = .returned (.bool true) ∧ Below w.heap.size w w' := by
  obtain ⟨hc, hle, hm⟩ := code_of_row w0
  clear w0
  have hm2 := hm
  unfold maxLen at hm2
  by_cases hbig : 1048576 < len0
  · have hbi : (1048576 : Int) < len0 := by omega
    go_enter Tryz.func5, Tryz.ntmps5
    go_wp2
    go_ret
    exact ⟨rfl, Below.refl _ _⟩
  have hbi : ¬ (1048576 : Int) < len0 := by omega
  have CD := Lib.hid (spec_DrawJournalText a0 len0 cap0 w hc hle hm)
  have HL := Lib.hid hl
  clear hl hc hle hm
  go_enter Tryz.func5, Tryz.ntmps5
  go_wp2_with fail
  refine (CD.out).mono ?_
  rintro e w1 ⟨A, n, c, ds, rfl, own1, hn7, hts, hb1⟩
  have hz1 := hb1.size
  have hln : ds.length = n := by have := own1.1; rw [D3_len] at this; omega
  have ht2 : ∀ D ∈ ds, D.t.length ≤ 2000000 := fun D hD => by have := hts D hD; omega
  have R1 := Lib.hid (rdD_own own1)
  have HL1 := HL.out.on hb1
  have CI := Lib.hid (fun B' w' hL h hB => impl_JournalText A n c B B' ds w' hL h hB (by omega) ht2)
  have CS := Lib.hid (fun B' w' h hB => spec_JournalText A n c B' ds w' h hB (by omega) ht2)
  have CE := Lib.hid (fun A A' c c' B' w' h h' hB => laws_sameDeeds A A' n c c' B' ds w' h h' hB (by omega))
  have hul := Pl.jtext_len ds
  have hjr := fun h => Pl.jtext_read (ds := ds) h
  obtain ⟨u, hu⟩ : ∃ u, Pl.jtext ds = u := ⟨_, rfl⟩
  rw [hu] at CI CS hul hjr
  have CR := Lib.hid (fun w' h => impl_ReadJournal u B w' h (by omega))
  have HN := Lib.hid hln
  have HJR := Lib.hid hjr
  have husz := Ba_size u
  clear hu hts ht2 hln own1 hjr CD HL
  go_wp2_with fail
  refine (CI.out _ _ HL1.ok R1.out (Nat.le_refl _)).mono ?_
  rintro e w2 ⟨rfl, hb2⟩
  have hz2 := hb2.size
  have R2 := Lib.hid ((R1.out.below hb2).more hz2)
  have HB2 := hb1.trans (hb2.mono (by omega))
  have HL2 := HL1.on hb2
  clear hb1 hb2 HL1 R1 CI
  go_wp2_with fail
  refine (CS.out _ _ R2.out (Nat.le_refl _)).mono ?_
  rintro e w3 ⟨rfl, hb3⟩
  have hz3 := hb3.size
  have R3 := Lib.hid ((R2.out.below hb3).more hz3)
  have HB3 := HB2.trans (hb3.mono (by omega))
  have HL3 := HL2.on hb3
  clear hb3 HL2 R2 CS HB2
  rcases isEmpty_cases u with ⟨hu, hbe⟩ | ⟨hu, hbe⟩
  · clear hu CR CE HJR R3 HL3 HN
    go_wp2_with fail
    refine (laws_alive _).mono ?_
    rintro e w5 ⟨rfl, hb5⟩
    have HB5 := HB3.trans (hb5.mono (by omega))
    clear hb5 HB3
    go_wp2_with fail
    go_ret
    exact ⟨rfl, HB5⟩
  · have HR := Lib.hid (HJR.out hu)
    have HLE : Hid (u.length = u.length) := Lib.hid rfl
    clear hu HJR
    go_wp2_with fail
    refine (CR.out _ HL3).mono ?_
    rintro e w4 hh
    obtain ⟨A4, c4, rfl, own4, hb4⟩ := outJ_nY hh HR.out HN.out
    have hz4 := hb4.size
    have R4 := Lib.hid ((R3.out.below hb4).more hz4)
    have I4 := Lib.hid (rdD_own own4)
    have HB4 := HB3.trans (hb4.mono (by omega))
    clear hh hb4 own4 HB3 HL3 R3 CR HR
    go_wp2_with fail
    refine (CE.out _ _ _ _ _ _ I4.out R4.out (Nat.le_refl _)).mono ?_
    rintro e w5 ⟨rfl, hb5⟩
    have HB5 := HB4.trans (hb5.mono (by omega))
    clear hb5 HB4 R4 I4 CE HN
    go_wp2_with fail
    go_ret
    exact ⟨ret_bool (by simp), HB5⟩
end Go.Proofs.YtamhpgledbmnoaaGreatDoor
