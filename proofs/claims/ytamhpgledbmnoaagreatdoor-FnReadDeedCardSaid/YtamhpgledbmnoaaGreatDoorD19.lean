/-
  The drawn deeds, texts of deeds and journals of the last laws.
  Conditions: none but those of the model.
-/
import Derived.Test.YtamhpgledbmnoaaGreatDoorD17
import Derived.Test.YtamhpgledbmnoaaGreatDoorSd
import Derived.Test.YtamhpgledbmnoaaGreatDoorRs
import Derived.Deep.DeepMust
namespace Go.Proofs.YtamhpgledbmnoaaGreatDoor
set_option linter.unusedVariables false
set_option linter.unusedSimpArgs false
open Go.RowKit
theorem code8_below4 {w w' : World} {a : Option Addr} {n : Nat} (h : Code8 w a n) (hb : Below w.heap.size w w') : Code8 w' a n := by
  obtain ⟨zs, h1, h2⟩ := h
  exact ⟨zs, (h1.below hb).more hb.size, h2⟩
/-- Some deed with a short text. -/
def OutDd (w : World) (e : Ending) (w' : World) : Prop := ∃ (k n : Int) (t : List UInt8), e = .returned (deedV k n t) ∧ t.length ≤ 70 ∧ Below w.heap.size w w'
set_option maxRecDepth 100000 in
set_option maxHeartbeats 4000000 in
theorem spec_DrawDeedText (a : Option Addr) (n c : Nat) (w : World) (h : Code8 w a n) (hc : n ≤ c) (hm : c ≤ maxLen) :
    Calls Tryz.prog 6 #[.slice a n c] w (OutDd w) := by
  obtain ⟨g, hg⟩ : ∃ g, w.heap.size = g := ⟨_, rfl⟩
  obtain ⟨w0, hw0⟩ : ∃ w0, w0 = w.alloc (.cells #[.int .i64 0, .int .i64 0, .string ⟨#[]⟩] 24) := ⟨_, rfl⟩
  have hz0 : w0.heap.size = g + 1 := by rw [hw0, ← hg]; simp
  have HB0 : Below g w w0 := by rw [hw0, ← hg]; exact (Below.refl _ _).alloc (Nat.le_refl _) _
  have h0 : Code8 w0 a n := code8_below4 h (by rw [hg]; exact HB0)
  have K0 : Blk w0 g 24 #[.int .i64 0, .int .i64 0, .string ⟨#[]⟩] := by rw [hw0, ← hg]; exact Blk.new w _ _
  have CO := Lib.hid (spec_l20Open a n c w0 h0 hc hm)
  unfold OutDd
  rw [hg]
  clear h h0
  go_enter Tryz.func6, Tryz.ntmps6
  go_upto_region 1 with (fail)
  try rw [hg]
  rw [← hw0]
  clear hw0 hg
  go_wp2_with (with_reducible refine AtEnd.of ?_)
  refine (CO.out).mono ?_
  rintro e w1 ⟨R, rfl, hR, hr, hb⟩
  have K0 := K0.below hb (by omega)
  have HB1 := HB0.trans (hb.mono (by omega))
  have hz1 := hb.size
  clear hb CO HB0
  go_wp2_with (with_reducible refine AtEnd.of ?_)
  refine (spec_l20Bench R 0 0 _ hr (by omega) (by omega)).mono ?_
  rintro e w2 ⟨v, ⟨k, x, y, E, ts⟩, rfl, ⟨A, P, n1, c1, m, d, rfl, o, p⟩, SM, hr2, hg2⟩
  have K0 := K0.grown hg2 (by intro e; injection e; omega)
  have HB2 := HB1.grown hg2 (by omega) (fun k hk => by injection hk with hk; omega)
  have hz2 := hg2.size
  clear HB1 hr hg2
  go_wp2_with (with_reducible refine AtEnd.of ?_)
  refine (spec_l20Deed R (0 + 1400) ⟨k, x, y, E, ts⟩ A P n1 c1 m d w2 hr2 (by omega)).mono ?_
  rintro e w3 ⟨kk, nn, t, rfl, ht, hr3, hg3⟩
  have K0 := K0.grown hg3 (by intro e; injection e; omega)
  have HB3 := HB2.grown hg3 (by omega) (fun k hk => by injection hk with hk; omega)
  have hz3 := hg3.size
  have HT := Lib.hid ht
  clear HB2 hr2 hg3 o p SM ht
  unfold deedV
  obtain ⟨⟨a0, a1, a2⟩, e0, e1, e2⟩ := cells3q K0
  have KF := put3d_blk (v0 := .int .i64 kk) (v1 := .int .i64 nn) (v2 := .string (Ba t)) K0
  have HBF := put3d_below (v0 := .int .i64 kk) (v1 := .int .i64 nn) (v2 := .string (Ba t)) HB3 (Nat.le_refl g)
  go_wp2_with (with_reducible refine AtEnd.of ?_)
  obtain ⟨wf, hwf⟩ : ∃ wf, wf = put3d w3 g (.int .i64 kk) (.int .i64 nn) (.string (Ba t)) := ⟨_, rfl⟩
  rw [← hwf] at KF HBF
  unfold put3d at hwf
  rw [← hwf]
  clear hwf
  exact atEnd_ret (results_cell Tryz.results6 rfl (load_dd KF)) rfl ⟨kk, nn, t, rfl, HT.out, HBF⟩
def litS (j : Nat) : ByteArray := ([⟨#[]⟩, ⟨#[48]⟩, ⟨#[32]⟩, ⟨#[10]⟩, ⟨#[43]⟩, ⟨#[98, 97, 99, 107]⟩] : List ByteArray).getD j ⟨#[]⟩
theorem litS_size (j : Nat) : (litS j).size ≤ 4 := by
  match j with
  | 0 => decide
  | 1 => decide
  | 2 => decide
  | 3 => decide
  | 4 => decide
  | 5 => decide
  | j + 6 => simp [litS, ByteArray.size]
theorem grownS_cells {W w1 : World} {R : Nat} (h : W.grownBy w1 (some R)) : ∀ (b o : Nat), b < W.heap.size → b ≠ R → w1.cell? ⟨b, o, none⟩ = W.cell? ⟨b, o, none⟩ :=
  fun b o hb hne => h.cell_far ⟨b, o, none⟩ hb (by simpa using hne)
theorem grownS_d0 {w w1 : World} {R : Nat} (h : w.drew.grownBy w1 (some R)) : w.grownBy w1 (some R) := ⟨h.os, h.tape, h.output, h.size, h.block⟩
theorem grownS_d1 {w w1 : World} {R : Nat} {o : Obj} (h : (w.alloc o).drew.grownBy w1 (some R)) : w.grownBy w1 (some R) := (World.grownBy_alloc w o _).trans (grownS_d0 h)
/-- Some short text, the reader's place moved. -/
def OutSp (R N : Nat) (w : World) (e : Ending) (w' : World) : Prop := ∃ x : ByteArray, x.size ≤ 200 ∧ e = .returned (.string x) ∧ w.grownBy w' (some R)
set_option maxRecDepth 100000 in
set_option maxHeartbeats 4000000 in
theorem spec_l20Spoil (R N : Nat) (s : List UInt8) (w : World) (hr : Rdr w R N) (hN : N ≤ 100000) (hs : s.length ≤ 75) :
    Calls Tryz.prog 33 #[.pointer (some ⟨R, 0, none⟩), .string (Ba s)] w (OutSp R N w) := by
  have hsz := Ba_size s
  by_cases h0 : s.length = 0
  · have k1 : (s.length == 0) = true := by simpa using h0
    have k2 : (((s.length : Nat) : Int) == 0) = true := by simpa using h0
    clear h0
    go_enter Tryz.func33, Tryz.ntmps33
    go_wp2_with fail
    go_ret
    exact ⟨_, by decide, rfl, World.grownBy.refl w _⟩
  have k1 : (s.length == 0) = false := by rw [beq_eq_false_iff_ne]; exact h0
  have k2 : (((s.length : Nat) : Int) == 0) = false := by rw [beq_eq_false_iff_ne]; omega
  have CP := Lib.hid (spec_pick R N ((s.length : Nat) : Int) w hr (by omega) (by omega))
  have hs0 : 0 < s.length := by omega
  clear hr h0
  go_enter Tryz.func33, Tryz.ntmps33
  go_wp2_with fail
  refine (CP.out).mono ?_
  rintro e w4 ⟨p4, rfl, hp4, hr4, hg4⟩
  have HG4 := Lib.hid hg4
  obtain ⟨h0, h1⟩ := hp4.2 (by omega)
  obtain ⟨k, rfl⟩ := Int.eq_ofNat_of_zero_le h0
  have hks : k < s.length := by omega
  have hr4l := hr4.lt
  clear hp4 hg4 CP
  have HPk := Lib.hid (fun w0 h => spec_pick R (N + 1) 6 w0 h (by omega) (by omega))
  have HR4 := Lib.hid hr4
  clear hr4
  have hlit : ∀ (j : Nat) (h : j < ([Value.string ⟨#[]⟩, .string ⟨#[48]⟩, .string ⟨#[32]⟩, .string ⟨#[10]⟩, .string ⟨#[43]⟩, .string ⟨#[98, 97, 99, 107]⟩] : List Value).length), ([Value.string ⟨#[]⟩, .string ⟨#[48]⟩, .string ⟨#[32]⟩, .string ⟨#[10]⟩, .string ⟨#[43]⟩, .string ⟨#[98, 97, 99, 107]⟩] : List Value)[j]'h = .string (litS j) := by
    intro j h
    have h : j < 6 := h
    rcases (by omega : j = 0 ∨ j = 1 ∨ j = 2 ∨ j = 3 ∨ j = 4 ∨ j = 5) with rfl | rfl | rfl | rfl | rfl | rfl <;> rfl
  obtain ⟨X1, hX1⟩ : ∃ f : Nat → ByteArray, ∀ j, f j = (Ba s).extract 0 k ++ litS j := ⟨_, fun _ => rfl⟩
  obtain ⟨X2, hX2⟩ : ∃ f : Nat → ByteArray, ∀ j, f j = X1 j ++ (Ba s).extract (k + 1) s.length := ⟨_, fun _ => rfl⟩
  have x1 : ∀ j, (X1 j).size ≤ 100 := fun j => by rw [hX1, ByteArray.size_append, ByteArray.size_extract]; have := litS_size j; omega
  have x2 : ∀ j, (X2 j).size ≤ 200 := fun j => by rw [hX2, ByteArray.size_append, ByteArray.size_extract]; have := x1 j; omega
  have ha1 : ∀ j w, (Op.stringOp .add ((Ba s).extract 0 k) (litS j)).run Tryz.prog w = .ok (.string (X1 j)) w := fun j w => by rw [hX1]; exact run_string_add_sum w _ _ (by have := x1 j; rw [hX1, ByteArray.size_append] at this; omega)
  have ha2 : ∀ j w, (Op.stringOp .add (X1 j) ((Ba s).extract (k + 1) s.length)).run Tryz.prog w = .ok (.string (X2 j)) w := fun j w => by rw [hX2]; exact run_string_add_sum w _ _ (by have := x2 j; rw [hX2, ByteArray.size_append] at this; omega)
  have HX2 := Lib.hid x2
  have q1 : IntKind.i64.wrap ((k : Int) + 1) = (k : Int) + 1 := IntWalk.i64_in _ (by omega)
  have q2 : (0 : Int) ≤ (k : Int) := by omega
  have q3 : (k : Int) ≤ ((s.length : Nat) : Int) := by omega
  have q4 : (k : Int) + 1 ≤ ((s.length : Nat) : Int) := by omega
  have q5 : ((k : Int) + 1).toNat = k + 1 := by omega
  have q6 : (0 : Int) ≤ (k : Int) + 1 := by omega
  have e1 : R < w4.heap.size := hr4l
  have e2 : w4.heap.size ≠ R := by omega
  clear hX1 hX2 x1 x2
  go_upto_region 4 with (fail)
  go_cut [4] (fun s2 wx => ∃ x : ByteArray, x.size ≤ 200 ∧ s2 = .string x ∧ w4.grownBy wx (some R))
  case first =>
    go_region_with (first | (go_at_call 32; refine (HPk.out _ (by first | exact HR4.out | exact HR4.out.alloc _)).mono ?_; rintro e w5 ⟨p5, rfl, hp5, hr5, hg5⟩; obtain ⟨j0, j1⟩ := hp5.2 (by omega); obtain ⟨j, rfl⟩ := Int.eq_ofNat_of_zero_le j0; have j2 : IntKind.i64.wrap (j : Int) = j := IntWalk.i64_in _ (by omega); have j3 : j < 6 := Int.ofNat_lt.1 j1; have hgc := grownS_cells hg5))
    all_goals go_wp2_with fail
    all_goals go_meet
    all_goals refine ⟨X2 _, HX2.out _, rfl, ?_⟩
    all_goals first
      | exact (grownS_d0 hg5).trans (World.grownBy_alloc _ _ _)
      | exact grownS_d1 hg5
  case rest =>
    obtain ⟨x, hx, rfl, hg⟩ := hcut
    have HG := Lib.hid (HG4.out.trans hg)
    clear hg
    go_wp2_with fail
    go_ret
    exact ⟨x, hx, rfl, HG.out⟩
/-- Some short text. -/
def OutTx2 (w : World) (e : Ending) (w' : World) : Prop := ∃ x : ByteArray, x.size ≤ 200 ∧ e = .returned (.string x) ∧ Below w.heap.size w w'
set_option maxRecDepth 100000 in
set_option maxHeartbeats 4000000 in
theorem spec_DrawReadDeed (a : Option Addr) (n c : Nat) (w : World) (h : Code8 w a n) (hc : n ≤ c) (hm : c ≤ maxLen) :
    Calls Tryz.prog 11 #[.slice a n c] w (OutTx2 w) := by
  have CO := Lib.hid (spec_l20Open a n c w h hc hm)
  clear h hc hm
  go_enter Tryz.func11, Tryz.ntmps11
  go_wp2_with fail
  refine (CO.out).mono ?_
  rintro e w1 ⟨R, rfl, hR, hr, hb⟩
  have hz1 := hb.size
  have HB1 := hb
  clear hb CO
  go_wp2_with fail
  refine (spec_l20Bench R 0 0 _ hr (by omega) (by omega)).mono ?_
  rintro e w2 ⟨v, ⟨k, x, y, E, ts⟩, rfl, ⟨A, P, n1, c1, m, d, rfl, o, p⟩, SM, hr2, hg2⟩
  have HB2 := HB1.grown hg2 (by omega) (fun k hk => by injection hk with hk; omega)
  have hz2 := hg2.size
  clear HB1 hr hg2
  go_wp2_with fail
  refine (spec_l20Deed R (0 + 1400) ⟨k, x, y, E, ts⟩ A P n1 c1 m d w2 hr2 (by omega)).mono ?_
  rintro e w3 ⟨kk, nn, t, rfl, ht, hr3, hg3⟩
  have HB3 := HB2.grown hg3 (by omega) (fun k hk => by injection hk with hk; omega)
  have hz3 := hg3.size
  have CT := Lib.hid (spec_DeedText ⟨kk, nn, t⟩ w3 (by show t.length ≤ 2000000; omega))
  have hul := Pl.dtext_len ⟨kk, nn, t⟩
  obtain ⟨u, hu⟩ : ∃ u, Pl.dtext ⟨kk, nn, t⟩ = u := ⟨_, rfl⟩
  rw [hu] at CT hul
  unfold deedV at CT ⊢
  clear HB2 hr2 hg3 o p SM ht hu
  go_wp2_with fail
  refine (CT.out).mono ?_
  rintro e w4 ⟨rfl, hb4⟩
  have hr4 := hr3.below hb4 hr3.lt
  have HB4 := HB3.trans (hb4.mono (by omega))
  have hz4 := hb4.size
  clear hb4 HB3 hr3 CT
  go_wp2_with fail
  refine (spec_pick R _ 3 _ hr4 (by omega) (by omega)).mono ?_
  rintro e w5 ⟨p3, rfl, hp3, hr5, hg5⟩
  have HB5 := HB4.grown hg5 (by omega) (fun k hk => by injection hk with hk; omega)
  have hz5 := hg5.size
  clear hr4 hg5 HB4 hp3
  by_cases hp0 : p3 = 0
  · subst hp0
    have CSp := Lib.hid (spec_l20Spoil R _ u w5 hr5 (by omega) hul)
    go_wp2_with fail
    refine (CSp.out).mono ?_
    rintro e w6 ⟨x6, hx6, rfl, hg6⟩
    have HB6 := Lib.hid (HB5.grown hg6 (by omega) (fun k hk => by injection hk with hk; omega))
    clear hg6 HB5
    go_wp2_with fail
    go_ret
    exact ⟨x6, hx6, rfl, HB6.out⟩
  · have k1 : (p3 == 0) = false := by rw [beq_eq_false_iff_ne]; exact hp0
    have HB5 := Lib.hid HB5
    have hsu : Hid ((Ba u).size ≤ 200) := Lib.hid (by rw [Ba_size]; omega)
    clear hp0
    go_wp2_with fail
    go_ret
    exact ⟨Ba u, hsu.out, rfl, HB5.out⟩
end Go.Proofs.YtamhpgledbmnoaaGreatDoor
