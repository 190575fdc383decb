/-
  The law FnDeedText: for all codes it returns true.
  Conditions: the library's variables stand.
-/
import Derived.Test.YtamhpgledbmnoaaGreatDoorD19
import Derived.Test.YtamhpgledbmnoaaGreatDoorRi
import Derived.Test.YtamhpgledbmnoaaGreatDoorKD
namespace Go.Proofs.YtamhpgledbmnoaaGreatDoor
set_option linter.unusedVariables false
set_option linter.unusedSimpArgs false
open Go.RowKit
theorem isEmpty_casesY (u : List UInt8) : (u = [] ∧ (Ba u).toList.isEmpty = true) ∨ (u ≠ [] ∧ (Ba u).toList.isEmpty = false) := by
  rw [Ba_list]
  cases u with
  | nil => exact .inl ⟨rfl, rfl⟩
  | cons a r => exact .inr ⟨by simp, rfl⟩
set_option maxRecDepth 100000 in
set_option maxHeartbeats 8000000 in
theorem law_FnDeedText (a0 : Option Addr) (len0 cap0 : Nat) (z0 : List Int) (B : Nat) (w : World) (w0 : IsRow .u8 w a0 len0 cap0 z0) (hl : LibOkE B w) :
    Calls Tryz.prog 3 #[.slice a0 len0 cap0] w fun e w' => e = .returned (.bool true) ∧ Below w.heap.size w w' := by
  obtain ⟨hc, hle, hm⟩ := code_of_row w0
  clear w0
  have hm2 := hm
  unfold maxLen at hm2
  by_cases hbig : 1048576 < len0
  · have hbi : (1048576 : Int) < len0 := by omega
    go_enter Tryz.func3, Tryz.ntmps3
    go_wp2
    go_ret
    exact ⟨rfl, Below.refl _ _⟩
  have hbi : ¬ (1048576 : Int) < len0 := by omega
  have CD := Lib.hid (spec_DrawDeedText a0 len0 cap0 w hc hle hm)
  have HL := Lib.hid hl
  clear hl hc hle hm
  go_enter Tryz.func3, Tryz.ntmps3
  go_wp2_with fail
  refine (CD.out).mono ?_
  rintro e w1 ⟨k, n, t, rfl, ht, hb1⟩
  have ht2 : t.length ≤ 2000000 := by omega
  have hz1 := hb1.size
  obtain ⟨g, hg⟩ : ∃ g, w1.heap.size = g := ⟨_, rfl⟩
  obtain ⟨w2, hw2⟩ : ∃ w2, w2 = w1.alloc (.cells #[.int .i64 k, .int .i64 n, .string (Ba t)] 24) := ⟨_, rfl⟩
  have K2 : Blk w2 g 24 #[.int .i64 k, .int .i64 n, .string (Ba t)] := by rw [hw2, ← hg]; exact Blk.new _ _ _
  have HB2 : Below w.heap.size w w2 := by rw [hw2]; exact hb1.alloc hz1 _
  have HL2 : LibOkE B w2 := by rw [hw2]; exact (HL.out.on hb1).alloc _
  have hz2 : w2.heap.size = g + 1 := by rw [hw2, ← hg]; simp
  have CI := Lib.hid (fun w' h => impl_DeedText ⟨k, n, t⟩ B w' h ht2)
  have CS := Lib.hid (fun w' => spec_DeedText ⟨k, n, t⟩ w' ht2)
  obtain ⟨u, hu⟩ : ∃ u, Pl.dtext ⟨k, n, t⟩ = u := ⟨_, rfl⟩
  have hul := Pl.dtext_len ⟨k, n, t⟩
  have hrd : u ≠ [] → Pl.readD u = some ⟨k, n, t⟩ := fun h => by rw [← hu]; exact Pl.readD_text (by rw [hu]; exact h)
  rw [hu] at CI CS hul
  have CR := Lib.hid (fun w' h => impl_ReadDeed u B w' h (by omega))
  have HRD := Lib.hid hrd
  rw [hg] at hz1
  unfold deedV at CI CS ⊢
  clear hu ht ht2 hrd HL CD
  go_upto_region 4 with (fail)
  try rw [hg]
  rw [← hw2]
  clear hw2 hb1 hg
  obtain ⟨⟨a1, a2, a3⟩, _⟩ := cells3q K2
  go_wp2_with fail
  refine (CI.out _ HL2.ok).mono ?_
  rintro e w3 ⟨rfl, hb3⟩
  have hz3 := hb3.size
  have K3 := K2.below hb3 (by omega)
  have HB3 := HB2.trans (hb3.mono (by omega))
  have HL3 := HL2.on hb3
  clear hb3 a1 a2 a3 K2 HB2 HL2 CI
  obtain ⟨⟨a1, a2, a3⟩, _⟩ := cells3q K3
  go_wp2_with fail
  refine (CS.out _).mono ?_
  rintro e w4 ⟨rfl, hb4⟩
  have hz4 := hb4.size
  have K4 := K3.below hb4 (by omega)
  have HB4 := HB3.trans (hb4.mono (by omega))
  have HL4 := HL3.on hb4
  clear hb4 a1 a2 a3 K3 HB3 HL3 CS
  rcases isEmpty_casesY u with ⟨hu, hbe⟩ | ⟨hu, hbe⟩
  · clear hu CR HRD K4 HL4
    go_wp2_with fail
    refine (laws_alive _).mono ?_
    rintro e w5 ⟨rfl, hb5⟩
    have HB5 := HB4.trans (hb5.mono (by omega))
    clear hb5 HB4
    go_wp2_with fail
    go_ret
    exact ⟨rfl, HB5⟩
  · have hr := HRD.out hu
    rw [hr] at CR
    unfold RdO deedV at CR
    clear hr hu HRD
    go_wp2_with fail
    refine (CR.out _ HL4).mono ?_
    rintro e w5 ⟨rfl, hb5⟩
    have hz5 := hb5.size
    have K5 := K4.below hb5 (by omega)
    have HB5 := HB4.trans (hb5.mono (by omega))
    clear hb5 HB4 K4 HL4 CR
    obtain ⟨g5, hg5⟩ : ∃ g5, w5.heap.size = g5 := ⟨_, rfl⟩
    obtain ⟨w6, hw6⟩ : ∃ w6, w6 = w5.alloc (.cells #[.int .i64 k, .int .i64 n, .string (Ba t)] 24) := ⟨_, rfl⟩
    have K6 : Blk w6 g 24 #[.int .i64 k, .int .i64 n, .string (Ba t)] := by rw [hw6]; exact K5.alloc _
    have J6 : Blk w6 g5 24 #[.int .i64 k, .int .i64 n, .string (Ba t)] := by rw [hw6, ← hg5]; exact Blk.new _ _ _
    have HB6 := Lib.hid (show Below w.heap.size w w6 by rw [hw6]; exact HB5.alloc HB5.size _)
    go_upto_region 10 with (fail)
    try simp only [Option.getD_some]
    try rw [hg5]
    rw [← hw6]
    clear hw6 hg5 K5 HB5
    obtain ⟨⟨a1, a2, a3⟩, _⟩ := cells3q K6
    obtain ⟨⟨b1, b2, b3⟩, _⟩ := cells3q J6
    go_wp2_with fail
    go_ret
    exact ⟨ret_bool (by simp), HB6.out⟩
end Go.Proofs.YtamhpgledbmnoaaGreatDoor
