/-
  The law FnReadDeed: for all codes it returns true.
  Conditions: the library's variables stand.
-/
import Derived.Test.YtamhpgledbmnoaaGreatDoorD19
import Derived.Test.YtamhpgledbmnoaaGreatDoorRi
import Derived.Test.YtamhpgledbmnoaaGreatDoorKD
namespace Go.Proofs.YtamhpgledbmnoaaGreatDoor
set_option linter.unusedVariables false
set_option linter.unusedSimpArgs false
open Go.RowKit
theorem Ba_data3 (a : ByteArray) : Ba a.data.toList = a := by unfold Ba; rw [Array.toArray_toList]
namespace Pl
theorem dtext_t (d : Dd) (h : dtext d ≠ []) : d.t.length ≤ (dtext d).length := by
  rcases dtext_cases d with h1 | ⟨n, hn, rfl, h1⟩ | ⟨n, hn, rfl, h1⟩ | ⟨t, ht, rfl, h1⟩ | ⟨rfl, h1⟩ | ⟨rfl, h1⟩ | ⟨rfl, h1⟩
  · exact absurd h1 h
  all_goals (rw [h1]; simp)
  omega
end Pl
set_option maxRecDepth 100000 in
set_option maxHeartbeats 8000000 in
theorem law_FnReadDeed (a0 : Option Addr) (len0 cap0 : Nat) (z0 : List Int) (B : Nat) (w : World) (w0 : IsRow .u8 w a0 len0 cap0 z0) (hl : LibOkE B w) :
    Calls Tryz.prog 4 #[.slice a0 len0 cap0] w fun e w' => e = .returned (.bool true) ∧ Below w.heap.size w w' := by
  obtain ⟨hc, hle, hm⟩ := code_of_row w0
  clear w0
  have hm2 := hm
  unfold maxLen at hm2
  by_cases hbig : 1048576 < len0
  · have hbi : (1048576 : Int) < len0 := by omega
    go_enter Tryz.func4, Tryz.ntmps4
    go_wp2
    go_ret
    exact ⟨rfl, Below.refl _ _⟩
  have hbi : ¬ (1048576 : Int) < len0 := by omega
  have CD := Lib.hid (spec_DrawReadDeed a0 len0 cap0 w hc hle hm)
  have HL := Lib.hid hl
  clear hl hc hle hm
  go_enter Tryz.func4, Tryz.ntmps4
  go_wp2_with fail
  refine (CD.out).mono ?_
  rintro e w1 ⟨xb, hx, rfl, hb1⟩
  obtain ⟨s, rfl⟩ : ∃ s, xb = Ba s := ⟨xb.data.toList, (Ba_data3 xb).symm⟩
  rw [Ba_size] at hx
  have hz1 := hb1.size
  have HL1 := HL.out.on hb1
  have CI := Lib.hid (fun w' h => impl_ReadDeed s B w' h (by omega))
  have CS := Lib.hid (fun w' => spec_ReadDeed s w' (by omega))
  have CX := Lib.hid (fun w' h => impl_ReadDeed (s ++ [32]) B w' h (by simp; omega))
  rw [Pl.readD_space] at CX
  have hsome := fun d h => Pl.readD_some (s := s) (d := d) h
  obtain ⟨rd, hrd⟩ : ∃ rd, Pl.readD s = rd := ⟨_, rfl⟩
  rw [hrd] at CI CS hsome
  have hdl : ∀ d, rd = some d → d.t.length ≤ 2000000 := fun d h => by
    have h1 := (hsome d h).1
    have h2 := Pl.dtext_t d (by rw [h1]; exact (hsome d h).2)
    rw [h1] at h2
    omega
  obtain ⟨⟨k, n, t⟩, hd⟩ : ∃ d, rd.getD ⟨0, 0, []⟩ = d := ⟨_, rfl⟩
  unfold RdO at CI CS CX
  rw [hd] at CI CS
  dsimp only [Option.getD_none, Option.isSome_none] at CX
  dsimp only at CI CS
  unfold deedV at CI CS CX
  have HSM := Lib.hid hsome
  have HDL := Lib.hid hdl
  have HD := Lib.hid hd
  have hsz := Ba_size s
  clear hrd hsome hdl hd HL CD
  obtain ⟨g, hg⟩ : ∃ g, w1.heap.size = g := ⟨_, rfl⟩
  rw [hg] at hz1
  go_wp2_with fail
  refine (CI.out _ HL1).mono ?_
  rintro e w2 ⟨rfl, hb2⟩
  have hz2 := hb2.size
  obtain ⟨g2, hg2⟩ : ∃ g2, w2.heap.size = g2 := ⟨_, rfl⟩
  obtain ⟨w3, hw3⟩ : ∃ w3, w3 = w2.alloc (.cells #[.int .i64 k, .int .i64 n, .string (Ba t)] 24) := ⟨_, rfl⟩
  have K3 : Blk w3 g2 24 #[.int .i64 k, .int .i64 n, .string (Ba t)] := by rw [hw3, ← hg2]; exact Blk.new _ _ _
  have HB3 : Below w.heap.size w w3 := by rw [hw3]; exact (hb1.trans (hb2.mono (by omega))).alloc (by omega) _
  have HL3 : LibOkE B w3 := by rw [hw3]; exact (HL1.on hb2).alloc _
  have hz3 : w3.heap.size = g2 + 1 := by rw [hw3, ← hg2]; simp
  go_upto_region 5 with (fail)
  try rw [hg2]
  rw [← hw3]
  have hz2' : g ≤ g2 := by omega
  clear hw3 hb1 hb2 HL1 hg2 hg CI hz2
  go_wp2_with fail
  refine (CS.out _).mono ?_
  rintro e w4 ⟨rfl, hb4⟩
  have hz4 := hb4.size
  have K4 := K3.below hb4 (by omega)
  have HB4 := HB3.trans (hb4.mono (by omega))
  have HL4 := HL3.on hb4
  clear hb4 K3 HB3 HL3 CS
  obtain ⟨g4, hg4⟩ : ∃ g4, w4.heap.size = g4 := ⟨_, rfl⟩
  obtain ⟨w5, hw5⟩ : ∃ w5, w5 = w4.alloc (.cells #[.int .i64 k, .int .i64 n, .string (Ba t)] 24) := ⟨_, rfl⟩
  have K5 : Blk w5 g2 24 #[.int .i64 k, .int .i64 n, .string (Ba t)] := by rw [hw5]; exact K4.alloc _
  have J5 : Blk w5 g4 24 #[.int .i64 k, .int .i64 n, .string (Ba t)] := by rw [hw5, ← hg4]; exact Blk.new _ _ _
  have HB5 : Below w.heap.size w w5 := by rw [hw5]; exact HB4.alloc HB4.size _
  have HL5 : LibOkE B w5 := by rw [hw5]; exact HL4.alloc _
  have hz5 : w5.heap.size = g4 + 1 := by rw [hw5, ← hg4]; simp
  go_upto_region 6 with (fail)
  try rw [hg4]
  rw [← hw5]
  have hz4' : w3.heap.size ≤ g4 := by omega
  clear hw5 hg4 K4 HB4 HL4 hz4
  obtain ⟨⟨a1, a2, a3⟩, _⟩ := cells3q K5
  obtain ⟨⟨b1, b2, b3⟩, _⟩ := cells3q J5
  have n1 : (k != k) = false := by simp
  have n2 : (n != n) = false := by simp
  have HB5 := Lib.hid HB5
  have hz5' := HB5.out.size
  cases rd with
  | none =>
    have hd := HD.out
    injection hd with d1 d2 d3
    subst d1 d2 d3
    have hbe : (Ba ([] : List UInt8)).toList = [] := Ba_list []
    clear HSM HDL HD CX J5 K5
    go_wp2_with fail
    refine (laws_alive _).mono ?_
    rintro e w6 ⟨rfl, hb6⟩
    have HB6 := HB5.out.trans (hb6.mono hz5')
    clear hb6 HB5
    go_wp2_with fail
    go_ret
    exact ⟨rfl, HB6⟩
  | some d =>
    obtain rfl : d = ⟨k, n, t⟩ := HD.out
    have hs1 := HSM.out _ rfl
    have CT := Lib.hid (fun w' h => impl_DeedText ⟨k, n, t⟩ B w' h (HDL.out _ rfl))
    rw [hs1.1] at CT
    unfold deedV at CT
    have ka : ∀ w, (Op.stringOp .add (Ba s) (⟨#[32]⟩ : ByteArray)).run Tryz.prog w = .ok (.string (Ba (s ++ [32]))) w := fun w => add_BaM (P := Tryz.prog) s [32] (by simp; omega) w
    clear HSM HDL HD hs1
    go_wp2_with fail
    refine (CX.out _ HL5).mono ?_
    rintro e w6 ⟨rfl, hb6⟩
    have hz6 := hb6.size
    have K6 := K5.below hb6 (by omega)
    have HB6 := HB5.out.trans (hb6.mono hz5')
    have HL6 := HL5.on hb6
    clear hb6 K5 J5 HB5 HL5 CX a1 a2 a3 b1 b2 b3
    obtain ⟨w7, hw7⟩ : ∃ w7, w7 = w6.alloc (.cells #[.int .i64 0, .int .i64 0, .string (Ba [])] 24) := ⟨_, rfl⟩
    have K7 : Blk w7 g2 24 #[.int .i64 k, .int .i64 n, .string (Ba t)] := by rw [hw7]; exact K6.alloc _
    have HB7 : Below w.heap.size w w7 := by rw [hw7]; exact HB6.alloc HB6.size _
    have HL7 : LibOkE B w7 := by rw [hw7]; exact HL6.alloc _
    go_upto_region 11 with (fail)
    rw [← hw7]
    clear hw7 K6 HB6 HL6
    obtain ⟨⟨a1, a2, a3⟩, _⟩ := cells3q K7
    have hz7 := HB7.size
    clear K7
    go_wp2_with fail
    refine (CT.out _ HL7.ok).mono ?_
    rintro e w8 ⟨rfl, hb8⟩
    have HB8 := HB7.trans (hb8.mono hz7)
    clear hb8 HB7 HL7 CT
    go_wp2_with fail
    go_ret
    exact ⟨rfl, HB8⟩
end Go.Proofs.YtamhpgledbmnoaaGreatDoor
