/-
  The exact law of ReadDeed: for every text the program and the reference read the same.
  Conditions: the library's variables stand.
-/
import Derived.Test.YtamhpgledbmnoaaDoorM5
import Derived.Test.YtamhpgledbmnoaaDoorRi
import Derived.Test.YtamhpgledbmnoaaDoorRs
namespace Go.Proofs.YtamhpgledbmnoaaDoor
set_option linter.unusedVariables false
set_option linter.unusedSimpArgs false
open Go.RowKit
theorem Ba_data' (a : ByteArray) : Ba a.data.toList = a := by unfold Ba; rw [Array.toArray_toList]
set_option maxRecDepth 100000 in
set_option maxHeartbeats 8000000 in
theorem law_FnExactReadDeed (a0 : ByteArray) (B : Nat) (w : World) (w0 : a0.size ≤ maxLen) (hl : LibOkE B w) :
    Calls Tryd.prog 5 #[.string a0] w fun e w' => e = .returned (.bool true) ∧ Below w.heap.size w w' := by
  obtain ⟨s, rfl⟩ : ∃ s, a0 = Ba s := ⟨a0.data.toList, (Ba_data' a0).symm⟩
  have hsz := Ba_size s
  by_cases hbig : 1048576 < s.length
  · have hbi : (1048576 : Int) < ((s.length : Nat) : Int) := by omega
    clear w0
    go_enter Tryd.func5, Tryd.ntmps5
    go_wp2_with fail
    go_ret
    exact ⟨rfl, Below.refl _ _⟩
  have hbi : ¬ (1048576 : Int) < ((s.length : Nat) : Int) := by omega
  have hs : s.length ≤ 2000000 := by omega
  have CS := Lib.hid (fun w' => spec_ReadDeed s w' hs)
  have CI := Lib.hid (fun w' h => impl_ReadDeed s B w' h hs)
  obtain ⟨rd, hrd⟩ : ∃ rd, Pl.readD s = rd := ⟨_, rfl⟩
  rw [hrd] at CS CI
  clear hrd hs hbig w0
  unfold RdO at CS CI
  obtain ⟨⟨p, q, r⟩, hd⟩ : ∃ d, rd.getD ⟨0, 0, []⟩ = d := ⟨_, rfl⟩
  rw [hd] at CS CI
  obtain ⟨b, hb⟩ : ∃ b, rd.isSome = b := ⟨_, rfl⟩
  rw [hb] at CS CI
  clear hd hb
  dsimp only at CS CI
  have CE := Lib.hid (fun w' => laws_eqDeed p q r w')
  have HL := Lib.hid hl
  clear hl
  unfold deedV at CS CI CE
  have hbb : (b != b) = false := by simp
  go_enter Tryd.func5, Tryd.ntmps5
  go_wp2_with fail
  refine (CS.out _).mono ?_
  rintro e w1 ⟨rfl, hb1⟩
  obtain ⟨w2, hw2⟩ : ∃ w2, w2 = w1.alloc (.cells #[.int .i64 p, .int .i64 q, .string (Ba r)] 26) := ⟨_, rfl⟩
  have K2 : Blk w2 w1.heap.size 26 #[.int .i64 p, .int .i64 q, .string (Ba r)] := by rw [hw2]; exact Blk.new _ _ _
  have HB2 : Below w.heap.size w w2 := by rw [hw2]; exact hb1.alloc hb1.size _
  have HL2 : LibOkE B w2 := by rw [hw2]; exact (HL.out.on hb1).alloc _
  have hz2 : w2.heap.size = w1.heap.size + 1 := by rw [hw2]; simp
  have hz1 := hb1.size
  obtain ⟨g, hg⟩ : ∃ g, w1.heap.size = g := ⟨_, rfl⟩
  go_upto_region 4 with (fail)
  rw [← hw2]
  rw [hg] at K2 hz2 hz1
  try rw [hg]
  clear hw2 hb1 HL CS hg
  go_wp2_with fail
  refine (CI.out _ HL2).mono ?_
  rintro e w3 ⟨rfl, hb3⟩
  have hz3 := hb3.size
  have K3 := K2.below hb3 (by omega)
  have HB3 := HB2.trans (hb3.mono (by omega))
  clear hb3 HL2 CI K2 HB2
  obtain ⟨w4, hw4⟩ : ∃ w4, w4 = w3.alloc (.cells #[.int .i64 p, .int .i64 q, .string (Ba r)] 26) := ⟨_, rfl⟩
  have K4 : Blk w4 g 26 #[.int .i64 p, .int .i64 q, .string (Ba r)] := by rw [hw4]; exact K3.alloc _
  have K5 : Blk w4 w3.heap.size 26 #[.int .i64 p, .int .i64 q, .string (Ba r)] := by rw [hw4]; exact Blk.new _ _ _
  have HB4 : Below w.heap.size w w4 := by rw [hw4]; exact HB3.alloc HB3.size _
  have hz4 : w4.heap.size = w3.heap.size + 1 := by rw [hw4]; simp
  obtain ⟨g2, hg2⟩ : ∃ g2, w3.heap.size = g2 := ⟨_, rfl⟩
  go_upto_region 5 with (fail)
  rw [← hw4]
  rw [hg2] at K5 hz4
  try rw [hg2]
  clear hw4 K3 HB3 hg2
  obtain ⟨⟨c0, c1, c2⟩, _⟩ := cells3q K4
  obtain ⟨⟨f0, f1, f2⟩, _⟩ := cells3q K5
  have HB4 := Lib.hid HB4
  have hzz := HB4.out.size
  clear K4 K5
  go_wp2_with fail
  refine (CE.out _).mono ?_
  rintro e w5 ⟨rfl, hb5⟩
  have HB5 := HB4.out.trans (hb5.mono hzz)
  clear hb5 HB4
  go_wp2_with fail
  go_ret
  exact ⟨rfl, HB5⟩
end Go.Proofs.YtamhpgledbmnoaaDoor
