/-
  The law FnReadExpr: for every code it returns true.
  Conditions: none.
-/
import Derived.Test.YtnjcephddilalabD9
import Derived.Test.YtnjcephddilalabX11
import Derived.Test.YtnjcephddilalabD7
namespace Go.Proofs.Ytnjcephddilalab
set_option linter.unusedVariables false
set_option linter.unusedSimpArgs false
open Go.RowKit
set_option maxRecDepth 100000 in
set_option maxHeartbeats 2000000 in
theorem law_FnReadExpr (a0 : Option Addr) (len0 cap0 : Nat) (z0 : List Int) (w : World) (w0 : IsRow .u8 w a0 len0 cap0 z0) :
    Calls Try.prog 5 #[.slice a0 len0 cap0] w fun e w' => e = .returned (.bool true) ∧ Below w.heap.size w w' := by
  obtain ⟨hc, hl, hm⟩ := code_of_row w0
  clear w0
  have hm' := hm
  unfold maxLen at hm'
  by_cases hbig : 1048576 < len0
  · have hbi : (1048576 : Int) < len0 := by omega
    go_enter Try.func5, Try.ntmps5
    go_wp2
    go_ret
    exact ⟨rfl, Below.refl _ _⟩
  have hbi : ¬ (1048576 : Int) < len0 := by omega
  go_enter Try.func5, Try.ntmps5
  go_wp2_with fail
  refine (spec_DrawReadExpr a0 len0 cap0 _ hc hl hm).mono ?_
  rintro e v0 ⟨x, hx, rfl, HB0⟩
  obtain ⟨s, rfl⟩ : ∃ s, x = Ba s := ⟨x.data.toList, (Ba_data x).symm⟩
  rw [Ba_size] at hx
  have hsz := Ba_size s
  clear hc hl hm hm' hbig
  have z0 := HB0.size
  have CS := Lib.hid (fun w => (spec_ReadExpr s w (by omega)).mono fun _ _ h => outR2 h)
  have CI := Lib.hid (fun w => (impl_ReadExpr s w (by omega)).mono fun _ _ h => outR2 h)
  have hlen := readE_len (s := s)
  cases hr : Pl.readE s with
  | none =>
    rw [hr] at CS CI
    clear hr hlen
    go_wp2_with fail
    refine (CI.out _).mono ?_
    rintro e v1 ⟨A, c, rfl, own1, hb1⟩
    have HB1 := below_step HB0 hb1 z0
    have z1 := HB1.size
    go_wp2_with fail
    refine (CS.out _).mono ?_
    rintro e v2 ⟨A2, c2, rfl, own2, hb2⟩
    have HB2 := below_step HB1 hb2 z1
    have z2 := HB2.size
    go_wp2_with fail
    refine (laws_sameInts _ _ _ _ _ _ v2.heap.size [] [] _ (((rd_own own1).below hb2).more hb2.size) (rd_own own2) (by simp) (by simp)).mono ?_
    rintro e v3 ⟨rfl, q, rfl⟩
    have HB3 := below_drewN HB2 q
    clear own1 own2 hb1 hb2 HB1 HB2
    go_wp2_with fail
    refine (laws_alive _).mono ?_
    rintro e v4 ⟨rfl, hb4⟩
    have HB4 := below_step HB3 hb4 z2
    go_wp2_with fail
    all_goals (go_ret; exact ⟨rfl, HB4⟩)
  | some xs =>
    rw [hr] at CS CI hlen
    have htx := (Pl.readE_some hr).1
    have hpl := Lib.hid (fun w => (impl_ReadExpr (s ++ [43]) w (by simp; omega)).mono fun _ _ h => outR2 h)
    rw [Pl.readE_plus] at hpl
    have HT := Lib.hid htx
    have ha : ∀ w, (Op.stringOp .add (Ba s) (⟨#[43]⟩ : ByteArray)).run Try.prog w = .ok (.string (Ba (s ++ [43]))) w := fun w => add_Ba (P := Try.prog) s [43] (by simp only [List.length_cons, List.length_nil]; omega) w
    have hxl : xs.length ≤ 24 := hlen
    clear hr htx hlen
    go_wp2_with fail
    refine (CI.out _).mono ?_
    rintro e v1 ⟨A, c, rfl, own1, hb1⟩
    have HB1 := below_step HB0 hb1 z0
    have z1 := HB1.size
    go_wp2_with fail
    refine (CS.out _).mono ?_
    rintro e v2 ⟨A2, c2, rfl, own2, hb2⟩
    have HB2 := below_step HB1 hb2 z1
    have z2 := HB2.size
    have r1 := (rd_own own1).below hb2
    have z12 := hb2.size
    go_wp2_with fail
    refine (laws_sameInts _ _ _ _ _ _ v2.heap.size xs xs _ (r1.more hb2.size) (rd_own own2) (by simp; omega) (by simp; omega)).mono ?_
    rintro e v3 ⟨rfl, q, rfl⟩
    have HB3 := below_drewN HB2 q
    clear own1 own2 hb1 hb2 HB1 HB2
    go_wp2_with fail
    refine (hpl.out _).mono ?_
    rintro e v4 ⟨A4, c4, rfl, own4, hb4⟩
    have hz4 : v2.heap.size ≤ v4.heap.size := hb4.size
    have HB4 := below_step HB3 hb4 z2
    have r4 := ((r1.more z12).drewN q).below hb4
    go_wp2_with fail
    refine (impl_ExprText _ _ _ _ xs _ r4 hz4 (by simp; omega)).mono ?_
    rw [HT.out]
    rintro e v5 ⟨rfl, hb5⟩
    have HB5 := below_step HB4 hb5 HB4.size
    clear own4 hb4 hb5 r1 r4
    go_wp2_with fail
    all_goals (go_ret; exact ⟨ret_bool (by first | rfl | (simp; done)), HB5⟩)
end Go.Proofs.Ytnjcephddilalab
