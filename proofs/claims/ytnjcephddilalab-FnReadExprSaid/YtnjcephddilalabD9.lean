/-
  The drawn texts of the law FnReadExpr: some text of at most 200 bytes.
  Conditions: none but those of the model.
-/
import Derived.Test.YtnjcephddilalabD6
import Derived.Test.YtnjcephddilalabT9
namespace Go.Proofs.Ytnjcephddilalab
set_option linter.unusedVariables false
set_option linter.unusedSimpArgs false
open Go.RowKit
/-- Some short text. -/
def OutTx (w : World) (e : Ending) (w' : World) : Prop := ∃ x : ByteArray, x.size ≤ 200 ∧ e = .returned (.string x) ∧ Below w.heap.size w w'
def lit6 (j : Nat) : ByteArray := ([⟨#[]⟩, ⟨#[120]⟩, ⟨#[126]⟩, ⟨#[40]⟩, ⟨#[41]⟩, ⟨#[43]⟩] : List ByteArray).getD j ⟨#[]⟩
theorem lit6_size (j : Nat) : (lit6 j).size ≤ 1 := by
  match j with
  | 0 => decide
  | 1 => decide
  | 2 => decide
  | 3 => decide
  | 4 => decide
  | 5 => decide
  | j + 6 => simp [lit6, ByteArray.size]
theorem grown_cells {W w1 : World} {R : Nat} (h : W.grownBy w1 (some R)) : ∀ (b o : Nat), b < W.heap.size → b ≠ R → w1.cell? ⟨b, o, none⟩ = W.cell? ⟨b, o, none⟩ :=
  fun b o hb hne => h.cell_far ⟨b, o, none⟩ hb (by simpa using hne)
theorem grown_d0 {w w1 : World} {R : Nat} (h : w.drew.grownBy w1 (some R)) : w.grownBy w1 (some R) := ⟨h.os, h.tape, h.output, h.size, h.block⟩
theorem grown_d1 {w w1 : World} {R : Nat} {o : Obj} (h : (w.alloc o).drew.grownBy w1 (some R)) : w.grownBy w1 (some R) := (World.grownBy_alloc w o _).trans (grown_d0 h)
set_option maxRecDepth 100000 in
set_option maxHeartbeats 4000000 in
theorem spec_DrawReadExpr (a : Option Addr) (n c : Nat) (w : World) (h : Code8 w a n) (hc : n ≤ c) (hm : c ≤ maxLen) :
    Calls Try.prog 26 #[.slice a n c] w (OutTx w) := by
  go_enter Try.func26, Try.ntmps26
  go_wp2_with fail
  refine (spec_l20Open a n c w h hc hm).mono ?_
  rintro e w0 ⟨R, rfl, hR, hr0, hb0⟩
  clear h hc hm
  go_wp2_with fail
  refine (spec_l20Expr R 0 6 0 _ hr0 (by omega) (by omega) (by omega)).mono ?_
  rintro e w1 ⟨d, v, rfl, row, hd, hr1, hg1, h0⟩
  obtain ⟨xs, g, c1, rfl, rfl, own1⟩ := row_some row h0
  have HB1 := open_below hb0 hg1 hR
  have z1 := HB1.size
  clear row h0 hb0 hg1 hr0
  go_wp2_with fail
  refine (spec_ExprText _ _ _ _ xs _ (rd_own own1) (Nat.le_refl _) (by omega) (own_cap own1)).mono ?_
  rintro e w2 ⟨rfl, hb2⟩
  have HB2 := below_step HB1 hb2 z1
  have hr2 := hr1.below hb2 hr1.lt
  have htl := Pl.text_len' xs
  have hsz := Ba_size (Pl.exprText xs)
  generalize Pl.exprText xs = s at *
  clear hb2 HB1 own1 hr1
  go_wp2_with fail
  refine (spec_pick R _ 3 _ hr2 (by omega) (by omega)).mono ?_
  rintro e w3 ⟨p3, rfl, hp3, hr3, hg3⟩
  have HB3 := open_below HB2 hg3 hR
  clear hr2 hg3 HB2
  by_cases hq : p3 = 0 ∧ 0 < s.length
  · obtain ⟨rfl, hs0⟩ := hq
    have k1 : (0 : Int) < ((s.length : Nat) : Int) := by omega
    have k2 : decide (0 < s.length) = true := by simp; omega
    clear hp3
    go_wp2_with fail
    refine (spec_pick R _ _ _ hr3 (by omega) (by omega)).mono ?_
    rintro e w4 ⟨p4, rfl, hp4, hr4, hg4⟩
    have HB4 := open_below HB3 hg4 hR
    obtain ⟨h0, h1⟩ := hp4.2 (by omega)
    obtain ⟨k, rfl⟩ := Int.eq_ofNat_of_zero_le h0
    have hks : k < s.length := by omega
    have hr4l := hr4.lt
    clear hp4 hr3 hg4 HB3
    have HPk := Lib.hid (fun w0 h => spec_pick R (0 + 70 + 1 + 1) 6 w0 h (by omega) (by omega))
    have HR4 := Lib.hid hr4
    clear hr4
    have hlit : ∀ (j : Nat) (h : j < ([Value.string ⟨#[]⟩, .string ⟨#[120]⟩, .string ⟨#[126]⟩, .string ⟨#[40]⟩, .string ⟨#[41]⟩, .string ⟨#[43]⟩] : List Value).length), ([Value.string ⟨#[]⟩, .string ⟨#[120]⟩, .string ⟨#[126]⟩, .string ⟨#[40]⟩, .string ⟨#[41]⟩, .string ⟨#[43]⟩] : List Value)[j]'h = .string (lit6 j) := by
      intro j h
      have h : j < 6 := h
      rcases (by omega : j = 0 ∨ j = 1 ∨ j = 2 ∨ j = 3 ∨ j = 4 ∨ j = 5) with rfl | rfl | rfl | rfl | rfl | rfl <;> rfl
    obtain ⟨X1, hX1⟩ : ∃ f : Nat → ByteArray, ∀ j, f j = (Ba s).extract 0 k ++ lit6 j := ⟨_, fun _ => rfl⟩
    obtain ⟨X2, hX2⟩ : ∃ f : Nat → ByteArray, ∀ j, f j = X1 j ++ (Ba s).extract (k + 1) s.length := ⟨_, fun _ => rfl⟩
    have x1 : ∀ j, (X1 j).size ≤ 100 := fun j => by rw [hX1, ByteArray.size_append, ByteArray.size_extract]; have := lit6_size j; omega
    have x2 : ∀ j, (X2 j).size ≤ 200 := fun j => by rw [hX2, ByteArray.size_append, ByteArray.size_extract]; have := x1 j; omega
    have ha1 : ∀ j w, (Op.stringOp .add ((Ba s).extract 0 k) (lit6 j)).run Try.prog w = .ok (.string (X1 j)) w := fun j w => by rw [hX1]; exact run_string_add_sum w _ _ (by have := x1 j; rw [hX1, ByteArray.size_append] at this; omega)
    have ha2 : ∀ j w, (Op.stringOp .add (X1 j) ((Ba s).extract (k + 1) s.length)).run Try.prog w = .ok (.string (X2 j)) w := fun j w => by rw [hX2]; exact run_string_add_sum w _ _ (by have := x2 j; rw [hX2, ByteArray.size_append] at this; omega)
    have HX2 := Lib.hid x2
    have q1 : IntKind.i64.wrap ((k : Int) + 1) = (k : Int) + 1 := IntWalk.i64_in _ (by omega)
    have q2 : (0 : Int) ≤ (k : Int) := by omega
    have q3 : (k : Int) ≤ ((s.length : Nat) : Int) := by omega
    have q4 : (k : Int) + 1 ≤ ((s.length : Nat) : Int) := by omega
    have q5 : ((k : Int) + 1).toNat = k + 1 := by omega
    have q6 : (0 : Int) ≤ (k : Int) + 1 := by omega
    have e1 : R < w4.heap.size := hr4l
    have e2 : w4.heap.size ≠ R := by omega
    clear hX1 hX2 x1 x2
    go_upto_region 5 with (fail)
    go_cut [2] (fun s2 wx => ∃ x : ByteArray, x.size ≤ 200 ∧ s2 = .string x ∧ w4.grownBy wx (some R))
    case first =>
      go_region_with (first | (go_at_call 58; refine (HPk.out _ (by first | exact HR4.out | exact HR4.out.alloc _)).mono ?_; rintro e w5 ⟨p5, rfl, hp5, hr5, hg5⟩; obtain ⟨j0, j1⟩ := hp5.2 (by omega); obtain ⟨j, rfl⟩ := Int.eq_ofNat_of_zero_le j0; have j2 : IntKind.i64.wrap (j : Int) = j := IntWalk.i64_in _ (by omega); have j3 : j < 6 := Int.ofNat_lt.1 j1; have hgc := grown_cells hg5))
      all_goals go_wp2_with fail
      all_goals go_meet
      all_goals refine ⟨X2 _, HX2.out _, rfl, ?_⟩
      all_goals first
        | exact (grown_d0 hg5).trans (World.grownBy_alloc _ _ _)
        | exact grown_d1 hg5
    case rest =>
      obtain ⟨x, hx, rfl, hg⟩ := hcut
      have HB := open_below HB4 hg hR
      go_wp2
      go_ret
      exact ⟨x, hx, rfl, HB⟩
  · have hss : (Ba s).size ≤ 200 := by omega
    have HB := Lib.hid HB3
    have HS := Lib.hid hss
    clear hr3 HB3 hp3 hss
    by_cases hp0 : p3 = 0
    · have hs0 : s.length = 0 := by
        rcases Nat.eq_zero_or_pos s.length with h | h
        · exact h
        · exact absurd ⟨hp0, h⟩ hq
      clear hq
      subst hp0
      have k1 : ¬ (0 : Int) < ((s.length : Nat) : Int) := by omega
      have k2 : decide (0 < s.length) = false := decide_eq_false (by omega)
      clear hs0
      go_wp2_with fail
      go_ret
      exact ⟨Ba s, HS.out, rfl, HB.out⟩
    · have k1 : (p3 == 0) = false := by rw [beq_eq_false_iff_ne]; exact hp0
      clear hq hp0
      go_wp2_with fail
      go_ret
      exact ⟨Ba s, HS.out, rfl, HB.out⟩
end Go.Proofs.Ytnjcephddilalab
