/-
  The drawn deeds, texts of deeds and journals of the last laws.
  Conditions: as stated at each.
-/
import Derived.Test.YtamhpgledbmnoaaGreatDoorD17
import Derived.Test.YtamhpgledbmnoaaGreatDoorSd
import Derived.Test.YtamhpgledbmnoaaGreatDoorRs
import Derived.Deep.DeepMust
import Derived.Deep.AppendLies
import Derived.Deep.RegionHeld3
namespace Go.Proofs.YtamhpgledbmnoaaGreatDoor
set_option linter.unusedVariables false
set_option linter.unusedSimpArgs false
open Go.RowKit
theorem code8_below4 {w w' : World} {a : Option Addr} {n : Nat} (h : Code8 w a n) (hb : Below w.heap.size w w') : Code8 w' a n := by
  obtain ⟨zs, h1, h2⟩ := h
  exact ⟨zs, (h1.below hb).more hb.size, h2⟩
/-- Some deed with a short text. -/
def OutDd (w : World) (e : Ending) (w' : World) : Prop := ∃ (k n : Int) (t : List UInt8), e = .returned (deedV k n t) ∧ t.length ≤ 70 ∧ Below w.heap.size w w'
set_option maxRecDepth 100000 in
set_option maxHeartbeats 4000000 in
theorem spec_DrawDeedText (a : Option Addr) (n c : Nat) (w : World) (h : Code8 w a n) (hc : n ≤ c) (hm : c ≤ maxLen) :
    Calls Tryz.prog 6 #[.slice a n c] w (OutDd w) := by
  obtain ⟨g, hg⟩ : ∃ g, w.heap.size = g := ⟨_, rfl⟩
  obtain ⟨w0, hw0⟩ : ∃ w0, w0 = w.alloc (.cells #[.int .i64 0, .int .i64 0, .string ⟨#[]⟩] 24) := ⟨_, rfl⟩
  have hz0 : w0.heap.size = g + 1 := by rw [hw0, ← hg]; simp
  have HB0 : Below g w w0 := by rw [hw0, ← hg]; exact (Below.refl _ _).alloc (Nat.le_refl _) _
  have h0 : Code8 w0 a n := code8_below4 h (by rw [hg]; exact HB0)
  have K0 : Blk w0 g 24 #[.int .i64 0, .int .i64 0, .string ⟨#[]⟩] := by rw [hw0, ← hg]; exact Blk.new w _ _
  have CO := Lib.hid (spec_l20Open a n c w0 h0 hc hm)
  unfold OutDd
  rw [hg]
  clear h h0
  go_enter Tryz.func6, Tryz.ntmps6
  go_upto_region 1 with (fail)
  try rw [hg]
  rw [← hw0]
  clear hw0 hg
  go_wp2_with (with_reducible refine AtEnd.of ?_)
  refine (CO.out).mono ?_
  rintro e w1 ⟨R, rfl, hR, hr, hb⟩
  have K0 := K0.below hb (by omega)
  have HB1 := HB0.trans (hb.mono (by omega))
  have hz1 := hb.size
  clear hb CO HB0
  go_wp2_with (with_reducible refine AtEnd.of ?_)
  refine (spec_l20Bench R 0 0 _ hr (by omega) (by omega)).mono ?_
  rintro e w2 ⟨v, ⟨k, x, y, E, ts⟩, rfl, ⟨A, P, n1, c1, m, d, rfl, o, p⟩, SM, hr2, hg2⟩
  have K0 := K0.grown hg2 (by intro e; injection e; omega)
  have HB2 := HB1.grown hg2 (by omega) (fun k hk => by injection hk with hk; omega)
  have hz2 := hg2.size
  clear HB1 hr hg2
  go_wp2_with (with_reducible refine AtEnd.of ?_)
  refine (spec_l20Deed R (0 + 1400) ⟨k, x, y, E, ts⟩ A P n1 c1 m d w2 hr2 (by omega)).mono ?_
  rintro e w3 ⟨kk, nn, t, rfl, ht, hr3, hg3⟩
  have K0 := K0.grown hg3 (by intro e; injection e; omega)
  have HB3 := HB2.grown hg3 (by omega) (fun k hk => by injection hk with hk; omega)
  have hz3 := hg3.size
  have HT := Lib.hid ht
  clear HB2 hr2 hg3 o p SM ht
  unfold deedV
  obtain ⟨⟨a0, a1, a2⟩, e0, e1, e2⟩ := cells3q K0
  have KF := put3d_blk (v0 := .int .i64 kk) (v1 := .int .i64 nn) (v2 := .string (Ba t)) K0
  have HBF := put3d_below (v0 := .int .i64 kk) (v1 := .int .i64 nn) (v2 := .string (Ba t)) HB3 (Nat.le_refl g)
  go_wp2_with (with_reducible refine AtEnd.of ?_)
  obtain ⟨wf, hwf⟩ : ∃ wf, wf = put3d w3 g (.int .i64 kk) (.int .i64 nn) (.string (Ba t)) := ⟨_, rfl⟩
  rw [← hwf] at KF HBF
  unfold put3d at hwf
  rw [← hwf]
  clear hwf
  exact atEnd_ret (results_cell Tryz.results6 rfl (load_dd KF)) rfl ⟨kk, nn, t, rfl, HT.out, HBF⟩
def litS (j : Nat) : ByteArray := ([⟨#[]⟩, ⟨#[48]⟩, ⟨#[32]⟩, ⟨#[10]⟩, ⟨#[43]⟩, ⟨#[98, 97, 99, 107]⟩] : List ByteArray).getD j ⟨#[]⟩
theorem litS_size (j : Nat) : (litS j).size ≤ 4 := by
  match j with
  | 0 => decide
  | 1 => decide
  | 2 => decide
  | 3 => decide
  | 4 => decide
  | 5 => decide
  | j + 6 => simp [litS, ByteArray.size]
theorem grownS_cells {W w1 : World} {R : Nat} (h : W.grownBy w1 (some R)) : ∀ (b o : Nat), b < W.heap.size → b ≠ R → w1.cell? ⟨b, o, none⟩ = W.cell? ⟨b, o, none⟩ :=
  fun b o hb hne => h.cell_far ⟨b, o, none⟩ hb (by simpa using hne)
theorem grownS_d0 {w w1 : World} {R : Nat} (h : w.drew.grownBy w1 (some R)) : w.grownBy w1 (some R) := ⟨h.os, h.tape, h.output, h.size, h.block⟩
theorem grownS_d1 {w w1 : World} {R : Nat} {o : Obj} (h : (w.alloc o).drew.grownBy w1 (some R)) : w.grownBy w1 (some R) := (World.grownBy_alloc w o _).trans (grownS_d0 h)
/-- Some short text, the reader's place moved. -/
def OutSp (R N : Nat) (w : World) (e : Ending) (w' : World) : Prop := ∃ x : ByteArray, x.size ≤ 200 ∧ e = .returned (.string x) ∧ w.grownBy w' (some R)
set_option maxRecDepth 100000 in
set_option maxHeartbeats 4000000 in
theorem spec_l20Spoil (R N : Nat) (s : List UInt8) (w : World) (hr : Rdr w R N) (hN : N ≤ 100000) (hs : s.length ≤ 75) :
    Calls Tryz.prog 33 #[.pointer (some ⟨R, 0, none⟩), .string (Ba s)] w (OutSp R N w) := by
  have hsz := Ba_size s
  by_cases h0 : s.length = 0
  · have k1 : (s.length == 0) = true := by simpa using h0
    have k2 : (((s.length : Nat) : Int) == 0) = true := by simpa using h0
    clear h0
    go_enter Tryz.func33, Tryz.ntmps33
    go_wp2_with fail
    go_ret
    exact ⟨_, by decide, rfl, World.grownBy.refl w _⟩
  have k1 : (s.length == 0) = false := by rw [beq_eq_false_iff_ne]; exact h0
  have k2 : (((s.length : Nat) : Int) == 0) = false := by rw [beq_eq_false_iff_ne]; omega
  have CP := Lib.hid (spec_pick R N ((s.length : Nat) : Int) w hr (by omega) (by omega))
  have hs0 : 0 < s.length := by omega
  clear hr h0
  go_enter Tryz.func33, Tryz.ntmps33
  go_wp2_with fail
  refine (CP.out).mono ?_
  rintro e w4 ⟨p4, rfl, hp4, hr4, hg4⟩
  have HG4 := Lib.hid hg4
  obtain ⟨h0, h1⟩ := hp4.2 (by omega)
  obtain ⟨k, rfl⟩ := Int.eq_ofNat_of_zero_le h0
  have hks : k < s.length := by omega
  have hr4l := hr4.lt
  clear hp4 hg4 CP
  have HPk := Lib.hid (fun w0 h => spec_pick R (N + 1) 6 w0 h (by omega) (by omega))
  have HR4 := Lib.hid hr4
  clear hr4
  have hlit : ∀ (j : Nat) (h : j < ([Value.string ⟨#[]⟩, .string ⟨#[48]⟩, .string ⟨#[32]⟩, .string ⟨#[10]⟩, .string ⟨#[43]⟩, .string ⟨#[98, 97, 99, 107]⟩] : List Value).length), ([Value.string ⟨#[]⟩, .string ⟨#[48]⟩, .string ⟨#[32]⟩, .string ⟨#[10]⟩, .string ⟨#[43]⟩, .string ⟨#[98, 97, 99, 107]⟩] : List Value)[j]'h = .string (litS j) := by
    intro j h
    have h : j < 6 := h
    rcases (by omega : j = 0 ∨ j = 1 ∨ j = 2 ∨ j = 3 ∨ j = 4 ∨ j = 5) with rfl | rfl | rfl | rfl | rfl | rfl <;> rfl
  obtain ⟨X1, hX1⟩ : ∃ f : Nat → ByteArray, ∀ j, f j = (Ba s).extract 0 k ++ litS j := ⟨_, fun _ => rfl⟩
  obtain ⟨X2, hX2⟩ : ∃ f : Nat → ByteArray, ∀ j, f j = X1 j ++ (Ba s).extract (k + 1) s.length := ⟨_, fun _ => rfl⟩
  have x1 : ∀ j, (X1 j).size ≤ 100 := fun j => by rw [hX1, ByteArray.size_append, ByteArray.size_extract]; have := litS_size j; omega
  have x2 : ∀ j, (X2 j).size ≤ 200 := fun j => by rw [hX2, ByteArray.size_append, ByteArray.size_extract]; have := x1 j; omega
  have ha1 : ∀ j w, (Op.stringOp .add ((Ba s).extract 0 k) (litS j)).run Tryz.prog w = .ok (.string (X1 j)) w := fun j w => by rw [hX1]; exact run_string_add_sum w _ _ (by have := x1 j; rw [hX1, ByteArray.size_append] at this; omega)
  have ha2 : ∀ j w, (Op.stringOp .add (X1 j) ((Ba s).extract (k + 1) s.length)).run Tryz.prog w = .ok (.string (X2 j)) w := fun j w => by rw [hX2]; exact run_string_add_sum w _ _ (by have := x2 j; rw [hX2, ByteArray.size_append] at this; omega)
  have HX2 := Lib.hid x2
  have q1 : IntKind.i64.wrap ((k : Int) + 1) = (k : Int) + 1 := IntWalk.i64_in _ (by omega)
  have q2 : (0 : Int) ≤ (k : Int) := by omega
  have q3 : (k : Int) ≤ ((s.length : Nat) : Int) := by omega
  have q4 : (k : Int) + 1 ≤ ((s.length : Nat) : Int) := by omega
  have q5 : ((k : Int) + 1).toNat = k + 1 := by omega
  have q6 : (0 : Int) ≤ (k : Int) + 1 := by omega
  have e1 : R < w4.heap.size := hr4l
  have e2 : w4.heap.size ≠ R := by omega
  clear hX1 hX2 x1 x2
  go_upto_region 4 with (fail)
  go_cut [4] (fun s2 wx => ∃ x : ByteArray, x.size ≤ 200 ∧ s2 = .string x ∧ w4.grownBy wx (some R))
  case first =>
    go_region_with (first | (go_at_call 32; refine (HPk.out _ (by first | exact HR4.out | exact HR4.out.alloc _)).mono ?_; rintro e w5 ⟨p5, rfl, hp5, hr5, hg5⟩; obtain ⟨j0, j1⟩ := hp5.2 (by omega); obtain ⟨j, rfl⟩ := Int.eq_ofNat_of_zero_le j0; have j2 : IntKind.i64.wrap (j : Int) = j := IntWalk.i64_in _ (by omega); have j3 : j < 6 := Int.ofNat_lt.1 j1; have hgc := grownS_cells hg5))
    all_goals go_wp2_with fail
    all_goals go_meet
    all_goals refine ⟨X2 _, HX2.out _, rfl, ?_⟩
    all_goals first
      | exact (grownS_d0 hg5).trans (World.grownBy_alloc _ _ _)
      | exact grownS_d1 hg5
  case rest =>
    obtain ⟨x, hx, rfl, hg⟩ := hcut
    have HG := Lib.hid (HG4.out.trans hg)
    clear hg
    go_wp2_with fail
    go_ret
    exact ⟨x, hx, rfl, HG.out⟩
/-- Some short text. -/
def OutTx2 (w : World) (e : Ending) (w' : World) : Prop := ∃ x : ByteArray, x.size ≤ 200 ∧ e = .returned (.string x) ∧ Below w.heap.size w w'
set_option maxRecDepth 100000 in
set_option maxHeartbeats 4000000 in
theorem spec_DrawReadDeed (a : Option Addr) (n c : Nat) (w : World) (h : Code8 w a n) (hc : n ≤ c) (hm : c ≤ maxLen) :
    Calls Tryz.prog 11 #[.slice a n c] w (OutTx2 w) := by
  have CO := Lib.hid (spec_l20Open a n c w h hc hm)
  clear h hc hm
  go_enter Tryz.func11, Tryz.ntmps11
  go_wp2_with fail
  refine (CO.out).mono ?_
  rintro e w1 ⟨R, rfl, hR, hr, hb⟩
  have hz1 := hb.size
  have HB1 := hb
  clear hb CO
  go_wp2_with fail
  refine (spec_l20Bench R 0 0 _ hr (by omega) (by omega)).mono ?_
  rintro e w2 ⟨v, ⟨k, x, y, E, ts⟩, rfl, ⟨A, P, n1, c1, m, d, rfl, o, p⟩, SM, hr2, hg2⟩
  have HB2 := HB1.grown hg2 (by omega) (fun k hk => by injection hk with hk; omega)
  have hz2 := hg2.size
  clear HB1 hr hg2
  go_wp2_with fail
  refine (spec_l20Deed R (0 + 1400) ⟨k, x, y, E, ts⟩ A P n1 c1 m d w2 hr2 (by omega)).mono ?_
  rintro e w3 ⟨kk, nn, t, rfl, ht, hr3, hg3⟩
  have HB3 := HB2.grown hg3 (by omega) (fun k hk => by injection hk with hk; omega)
  have hz3 := hg3.size
  have CT := Lib.hid (spec_DeedText ⟨kk, nn, t⟩ w3 (by show t.length ≤ 2000000; omega))
  have hul := Pl.dtext_len ⟨kk, nn, t⟩
  obtain ⟨u, hu⟩ : ∃ u, Pl.dtext ⟨kk, nn, t⟩ = u := ⟨_, rfl⟩
  rw [hu] at CT hul
  unfold deedV at CT ⊢
  clear HB2 hr2 hg3 o p SM ht hu
  go_wp2_with fail
  refine (CT.out).mono ?_
  rintro e w4 ⟨rfl, hb4⟩
  have hr4 := hr3.below hb4 hr3.lt
  have HB4 := HB3.trans (hb4.mono (by omega))
  have hz4 := hb4.size
  clear hb4 HB3 hr3 CT
  go_wp2_with fail
  refine (spec_pick R _ 3 _ hr4 (by omega) (by omega)).mono ?_
  rintro e w5 ⟨p3, rfl, hp3, hr5, hg5⟩
  have HB5 := HB4.grown hg5 (by omega) (fun k hk => by injection hk with hk; omega)
  have hz5 := hg5.size
  clear hr4 hg5 HB4 hp3
  by_cases hp0 : p3 = 0
  · subst hp0
    have CSp := Lib.hid (spec_l20Spoil R _ u w5 hr5 (by omega) hul)
    go_wp2_with fail
    refine (CSp.out).mono ?_
    rintro e w6 ⟨x6, hx6, rfl, hg6⟩
    have HB6 := Lib.hid (HB5.grown hg6 (by omega) (fun k hk => by injection hk with hk; omega))
    clear hg6 HB5
    go_wp2_with fail
    go_ret
    exact ⟨x6, hx6, rfl, HB6.out⟩
  · have k1 : (p3 == 0) = false := by rw [beq_eq_false_iff_ne]; exact hp0
    have HB5 := Lib.hid HB5
    have hsu : Hid ((Ba u).size ≤ 200) := Lib.hid (by rw [Ba_size]; omega)
    clear hp0
    go_wp2_with fail
    go_ret
    exact ⟨Ba u, hsu.out, rfl, HB5.out⟩
end Go.Proofs.YtamhpgledbmnoaaGreatDoor
namespace Go.Proofs.YtamhpgledbmnoaaGreatDoor
set_option linter.unusedVariables false
set_option linter.unusedSimpArgs false
open Go.RowKit
section
variable {w : World} {ops : Array Oper} {rest : List Oper} {o : Oper} {a : Act} {Q : Exit → Act → World → Prop}
/-- A deed behind a row of deeds: and where the row lies then. -/
theorem app_deedL (hgd : o.guard = none) (s x : Operand)
    (ho : o.op = .call { callee := .builtin .append, args := #[s, x], argTypes := #[32, 32] })
    (base G n c : Nat) (xs : List Pl.Dd) (d : Pl.Dd) (hs : a.eval s = .slice (some ⟨G, 0, none⟩) n c) (hown : w.ownsRow base 24 3 (.slice (some ⟨G, 0, none⟩) n c) n (D3 xs))
    (hx : a.eval x = .slice (some ⟨w.heap.size, 0, none⟩) 1 1) (hn : n ≤ 1000000) (hbase : base ≤ w.heap.size)
    (h : ∀ G' c' w', w'.ownsRow base 24 3 (.slice (some ⟨G', 0, none⟩) (n + 1) c') (n + 1) (D3 (xs ++ [d])) → (w.alloc (.cells #[.int .i64 d.k, .int .i64 d.n, .string (Ba d.t)] 24)).grownBy w' (some G) → (G' = G ∨ G' = w.heap.size + 1) → wpList Tryz.prog ops Q rest (a.put o.dst (.slice (some ⟨G', 0, none⟩) (n + 1) c')) w') :
    wpList Tryz.prog ops Q (o :: rest) a (w.alloc (.cells #[.int .i64 d.k, .int .i64 d.n, .string (Ba d.t)] 24)) := by
  obtain ⟨i0, hi0, hz0, hz1, hz2⟩ := info_parts deed_infoA
  have hnew := (Blk.new w 24 #[.int .i64 d.k, .int .i64 d.n, .string (Ba d.t)])
  refine wpList_append_lies (w.alloc (.cells #[.int .i64 d.k, .int .i64 d.n, .string (Ba d.t)] 24)) hgd s x _ ho base 24 i0 _ 3 32 Tryz.underlying32 hi0 hz0 hz1 hz2 rfl (by decide) (.slice (some ⟨G, 0, none⟩) n c) n (D3 xs) hs (own_alloc hown _) ⟨w.heap.size, 0, none⟩ 1 1 (d3 d) hx rfl
    (fun j u hu => ?_) (fun u hu => ?_) (by decide) (by simp only [maxLen]; omega) (by omega) (by simp; omega) (w.heap.size + 1) (by simp)
    (fun g cap w' h2 h3 h4 _ => h g cap w' (by rw [D3_append, D3_one]; exact h2) h3 (by
      rcases h4 with h4 | h4
      · injection h4 with h4; exact .inl h4.symm
      · exact .inr h4))
  · have e : (⟨w.heap.size, 0, none⟩ : Addr).add j = ⟨w.heap.size, j, none⟩ := by
      unfold Addr.add
      split
      · rename_i h0; subst h0; rfl
      · simp
    rw [e, hnew.cell]
    simpa [d3] using hu
  · simp [d3] at hu
    rcases hu with rfl | rfl | rfl <;> rfl
end
/-- Deeds with short texts in a row of the call's own. -/
def Writ (R N : Nat) (w : World) (e : Ending) (w' : World) : Prop := ∃ (G n c : Nat) (ds : List Pl.Dd), e = .returned (.slice (some ⟨G, 0, none⟩) n c) ∧ w'.ownsRow w.heap.size 24 3 (.slice (some ⟨G, 0, none⟩) n c) n (D3 ds) ∧ n ≤ 6 ∧ (∀ D ∈ ds, D.t.length ≤ 70) ∧ Rdr w' R N ∧ w.grownBy w' (some R)
theorem own_lower {w : World} {base B size n : Nat} {e : TypeId} {v : Value} {xs : List Value} (h : w.ownsRow base e size v n xs) (hB : B ≤ base) : w.ownsRow B e size v n xs := by
  obtain ⟨h1, h2⟩ := h
  refine ⟨h1, ?_⟩
  rcases h2 with h2 | ⟨g, cap, cur, rfl, a, b, d⟩
  · exact .inl h2
  · exact .inr ⟨g, cap, cur, rfl, by omega, b, d⟩
theorem rdD_far {w w' : World} {B n L : Nat} {ds : List Pl.Dd} (h : RdD w B (some ⟨L, 0, none⟩) n ds) (hk : ∀ o, w'.cell? ⟨L, o, none⟩ = w.cell? ⟨L, o, none⟩) : RdD w' B (some ⟨L, 0, none⟩) n ds := by
  obtain ⟨h1, h2⟩ := h
  refine ⟨h1, ?_⟩
  rcases h2 with h2 | ⟨b, off, e, hb, hc⟩
  · exact .inl h2
  · injection e with e
    injection e with e1 e2
    subst e1 e2
    exact .inr ⟨_, _, rfl, hb, fun j D hj => ⟨(hk _).trans (hc j D hj).1, (hk _).trans (hc j D hj).2.1, (hk _).trans (hc j D hj).2.2⟩⟩
set_option maxRecDepth 100000 in
set_option maxHeartbeats 4000000 in
theorem spec_l20Written (R N : Nat) (w : World) (h : Rdr w R N) (hN : N ≤ 1000) :
    Calls Tryz.prog 35 #[.pointer (some ⟨R, 0, none⟩)] w (Writ R (N + 2800) w) := by
  obtain ⟨g, hg⟩ : ∃ g, w.heap.size = g := ⟨_, rfl⟩
  have hRg : R < g := by rw [← hg]; exact h.lt
  have hgw : w.heap.size ≤ g := by omega
  obtain ⟨w0, hw0⟩ : ∃ w0, w0 = w.alloc (.cells #[] 24) := ⟨_, rfl⟩
  have hz0 : w0.heap.size = g + 1 := by rw [hw0, ← hg]; simp
  have HG0 : w.grownBy w0 (some R) := by rw [hw0]; exact World.grownBy_alloc w _ _
  have h0 : Rdr w0 R N := by rw [hw0]; exact h.alloc _
  have own0 : w0.ownsRow g 24 3 (.slice (some ⟨g, 0, none⟩) 0 0) 0 (D3 []) := by
    rw [hw0]
    have := World.ownsRow_made (base := g) (e := 24) (size := 3) w #[] 0 (by omega) (by simp [maxLen]) rfl
    rw [hg] at this
    exact this
  unfold Writ
  rw [hg]
  have OWN0 := Lib.hid own0
  clear own0 h
  go_enter Tryz.func35, Tryz.ntmps35
  go_upto_region 2 with (fail)
  try rw [hg]
  rw [← hw0]
  clear hw0 hg
  go_wp2_with fail
  refine (spec_l20Bench R N 0 _ h0 (by omega) (by omega)).mono ?_
  rintro e w1 ⟨v, ⟨k, x, y, E, ts⟩, rfl, ⟨A, P, n1, c1, m, d, rfl, o, p⟩, SM, hr1, hg1⟩
  have OWN1 := Lib.hid (own_grownR OWN0.out hg1 hRg)
  have HG1 := HG0.trans hg1
  have hz1 := hg1.size
  have CL := Lib.hid (spec_l20Deeds R (N + 1400) ⟨k, x, y, E, ts⟩ A P n1 c1 m d w0.heap.size w1 hr1 (by omega) o p (by omega) hz1 SM)
  unfold benchV at CL ⊢
  clear HG0 hr1 o p SM OWN0 h0
  go_wp2_with fail
  refine (CL.out).mono ?_
  rintro e w2 ⟨L, ln, lc, ds, rfl, OL, hln, hts, hr2, hg2⟩
  have OWN2 := Lib.hid (own_grownR OWN1.out hg2 hRg)
  have HG2 := Lib.hid (HG1.trans hg2)
  have hz2 := hg2.size
  have hL0 : w1.heap.size ≤ L ∧ L < w2.heap.size := OL.lt L rfl
  have hLg : g ≠ L := by omega
  have hRL : R ≠ L := by omega
  have RL := Lib.hid (rdD_own OL)
  have HTS := Lib.hid hts
  have hR2 := Lib.hid hr2
  clear CL OWN1 hg1 hg2 HG1 hts OL hr2
  go_wp2_with fail
  go_loopw [3, 5] (fun vo vi wr => ∃ (G n c j : Nat) (es : List Pl.Dd), vo = .slice (some ⟨G, 0, none⟩) n c ∧ vi = .int .i64 (j : Int) ∧ j ≤ ln ∧ n ≤ j ∧ G ≠ L ∧ Hid (wr.ownsRow g 24 3 (.slice (some ⟨G, 0, none⟩) n c) n (D3 es)) ∧ Hid (∀ D ∈ es, D.t.length ≤ 70) ∧ Hid (RdD wr w2.heap.size (some ⟨L, 0, none⟩) ln ds) ∧ Hid (Rdr wr R (N + 1400 + 1400)) ∧ w2.heap.size ≤ wr.heap.size ∧ Hid (w.grownBy wr (some R))) (fun _ vi _ => ln - (intOf vi).toNat)
  case atStart => exact ⟨g, 0, 0, 0, [], rfl, rfl, by omega, by omega, hLg, OWN2, Lib.hid (fun D h => by cases h), RL, hR2, Nat.le_refl _, HG2⟩
  case round =>
    obtain ⟨G, n, c, j, es, rfl, rfl, hj, hnj, hGL, OWN, HES, HRL, HRR, hz, HG⟩ := hrel
    by_cases hlt : j < ln
    · obtain ⟨⟨p, q, r⟩, eo⟩ : ∃ o, ds[j]? = some o := ⟨_, List.getElem?_eq_getElem (by have := RL.out.1; omega)⟩
      obtain ⟨b, off, hbo, hbl, hcc⟩ := HRL.out.pos (by omega)
      injection hbo with hbo
      injection hbo with e1 e2
      subst e1 e2
      obtain ⟨u1, u2, u3⟩ := hcc j _ eo
      have c1 : wr.cell? ⟨L, 0 + j * 3, none⟩ = some (.int .i64 p) := u1
      have c2 : wr.cell? ⟨L, 0 + j * 3 + 1, none⟩ = some (.int .i64 q) := u2
      have c3 : wr.cell? ⟨L, 0 + j * 3 + 2, none⟩ = some (.string (Ba r)) := u3
      rw [Nat.zero_add] at c1 c2 c3
      have hin : (j : Int) < (ln : Int) := by omega
      have hj0 : (0 : Int) ≤ j := by omega
      have htr : r.length ≤ 70 := HTS.out _ (List.mem_of_getElem? eo)
      have CT := Lib.hid (spec_DeedText ⟨p, q, r⟩ wr (by show r.length ≤ 2000000; omega))
      obtain ⟨u, hu⟩ : ∃ u, Pl.dtext ⟨p, q, r⟩ = u := ⟨_, rfl⟩
      rw [hu] at CT
      unfold deedV at CT
      have HTR := Lib.hid htr
      clear u1 u2 u3 hcc eo hu htr
      go_wp2_with fail
      refine (CT.out).mono ?_
      rintro e w5 ⟨rfl, hb5⟩
      have hz5 := hb5.size
      have OWN5 := Lib.hid (own_new OWN.out hb5)
      have HRL5 := Lib.hid (HRL.out.below (hb5.mono hz))
      have HRR5 := Lib.hid (HRR.out.below hb5 HRR.out.lt)
      have HG5 := Lib.hid (HG.out.trans (only_of_below hb5 (some R)))
      replace c1 := (hb5.cell (p := ⟨L, j * 3, none⟩) (show L < wr.heap.size by omega)).trans c1
      replace c2 := (hb5.cell (p := ⟨L, j * 3 + 1, none⟩) (show L < wr.heap.size by omega)).trans c2
      replace c3 := (hb5.cell (p := ⟨L, j * 3 + 2, none⟩) (show L < wr.heap.size by omega)).trans c3
      clear hb5 CT OWN HRL HRR HG
      by_cases hu : u = []
      · subst hu
        have hbe : (Ba ([] : List UInt8)).toList = [] := Ba_list []
        clear c1 c2 c3
        go_wp2_with fail
        go_roundw
        case rel => exact ⟨G, n, c, j + 1, es, rfl, by go_num, by omega, by omega, hGL, OWN5, HES, HRL5, HRR5, by omega, HG5⟩
        case measure => simp [intOf]; omega
      · have hbe : (Ba u).toList.isEmpty = false := by
          rw [Ba_list]
          cases u with
          | nil => exact absurd rfl hu
          | cons a r => rfl
        have hbe2 : ¬ (Ba u).toList = [] := by rw [Ba_list]; exact hu
        clear hu
        go_wp2_with (at_builtin; go_must (refine app_deedL rfl (.tmp 23) (.tmp 28) rfl g G n c es ⟨p, q, r⟩ rfl OWN5.out rfl (by omega) (by omega) ?_; intro G7 c7 w7 own7 hg7 hG7; have OWN7 := Lib.hid own7; clear own7))
        have hgr : w5.grownBy w7 (some G) := (World.grownBy_alloc w5 _ _).trans hg7
        have hz7 := hgr.size
        have hGg : g ≤ G := (OWN5.out.lt G rfl).1
        have HRL7 := Lib.hid (rdD_far HRL5.out (fun o => hgr.cell_far ⟨L, o, none⟩ (by show L < w5.heap.size; omega) (by simp; omega)))
        have HRR7 := Lib.hid (HRR5.out.below ((Below.refl g w5).grown hgr (by omega) (fun k hk => by injection hk with hk; omega)) (by omega))
        have HG7 := Lib.hid (show w.grownBy w7 (some R) from only_below HG5.out ((Below.refl g w5).grown hgr (by omega) (fun k hk => by injection hk with hk; omega)) (by omega))
        go_roundw
        case rel => exact ⟨G7, n + 1, c7, j + 1, es ++ [⟨p, q, r⟩], rfl, by go_num, by omega, by omega, by omega, OWN7, Lib.hid (deeds_snoc HES.out HTR.out), HRL7, HRR7, by omega, HG7⟩
        case measure => simp [intOf]; omega
    · obtain rfl : j = ln := by omega
      go_wp2_with fail
      go_ret
      exact ⟨G, n, c, es, rfl, OWN.out, by omega, HES.out, HRR.out, HG.out⟩
end Go.Proofs.YtamhpgledbmnoaaGreatDoor
namespace Go.Proofs.YtamhpgledbmnoaaGreatDoor
set_option linter.unusedVariables false
set_option linter.unusedSimpArgs false
open Go.RowKit
/-- A short list of deeds with short texts. -/
def OutJd (w : World) (e : Ending) (w' : World) : Prop := ∃ (A : Option Addr) (n c : Nat) (ds : List Pl.Dd), e = .returned (.slice A n c) ∧ w'.ownsRow w.heap.size 24 3 (.slice A n c) n (D3 ds) ∧ n ≤ 7 ∧ (∀ D ∈ ds, D.t.length ≤ 70) ∧ Below w.heap.size w w'
set_option maxRecDepth 100000 in
set_option maxHeartbeats 4000000 in
theorem spec_DrawJournalText (a : Option Addr) (n c : Nat) (w : World) (h : Code8 w a n) (hc : n ≤ c) (hm : c ≤ maxLen) :
    Calls Tryz.prog 13 #[.slice a n c] w (OutJd w) := by
  have CO := Lib.hid (spec_l20Open a n c w h hc hm)
  clear h hc hm
  go_enter Tryz.func13, Tryz.ntmps13
  go_wp2_with fail
  refine (CO.out).mono ?_
  rintro e w1 ⟨R, rfl, hR, hr, hb⟩
  have hz1 := hb.size
  have HB1 := hb
  have CW := Lib.hid (spec_l20Written R 0 w1 hr (by omega))
  have hR1 := hr.lt
  clear hb CO hr
  go_wp2_with fail
  refine (CW.out).mono ?_
  rintro e w2 ⟨G, ln, lc, ds, rfl, own2, hln, hts, hr2, hg2⟩
  have HB2 := HB1.grown hg2 (by omega) (fun k hk => by injection hk with hk; omega)
  have hz2 := hg2.size
  have hRl := hr2.lt
  have hlt := own2.lt G rfl
  clear HB1 hg2 CW
  go_wp2_with fail
  refine (spec_odd R _ 12 _ hr2 (by omega) (by omega)).mono ?_
  rintro e w3 ⟨od, rfl, _, hr3, hg3⟩
  have HB3 := HB2.grown hg3 (by omega) (fun k hk => by injection hk with hk; omega)
  have hz3 := hg3.size
  obtain ⟨b, hbw⟩ : ∃ b, b = w.heap.size := ⟨_, rfl⟩
  have OWN3 : Hid (w3.ownsRow b 24 3 (.slice (some ⟨G, 0, none⟩) ln lc) ln (D3 ds)) := Lib.hid (own_lower (own_grownR own2 hg3 hR1) (by omega))
  have HB3 : Hid (Below b w w3) := Lib.hid (by rw [hbw]; exact HB3)
  have HTS := Lib.hid hts
  have hb3 : b ≤ w3.heap.size := by omega
  have HBW := Lib.hid hbw
  clear own2 hg3 hr3 hr2 HB2 hts hbw
  cases od
  · go_wp2_with fail
    go_ret
    exact ⟨_, _, _, ds, rfl, by rw [← HBW.out]; exact OWN3.out, by omega, HTS.out, by rw [← HBW.out]; exact HB3.out⟩
  · go_wp2_with (at_builtin; go_must (refine app_deedB rfl (.tmp 11) (.tmp 13) rfl b (.slice (some ⟨G, 0, none⟩) ln lc) ln ds rfl (own_alloc OWN3.out _) _ 1 1 [⟨9, 0, []⟩] _ (by first | rfl | (go_simp; done)) rfl (Blk.new _ _ _) rfl (by omega) (by omega) (by omega) (by simp; omega) ?_; intro A7 c7 wb own7 hb7; have HB7 : Hid (Below b w wb) := Lib.hid ((HB3.out.alloc hb3 _).trans hb7); have OWN7 := Lib.hid own7; clear own7 hb7))
    go_ret
    exact ⟨_, _, _, ds ++ [⟨9, 0, []⟩], rfl, by rw [← HBW.out]; exact OWN7.out, by omega, deeds_snoc HTS.out (by simp), by rw [← HBW.out]; exact HB7.out⟩
set_option maxRecDepth 100000 in
set_option maxHeartbeats 2000000 in
theorem laws_sameDeeds (A A' : Option Addr) (n c c' B : Nat) (ds : List Pl.Dd) (w : World) (hx : RdD w B A n ds) (hy : RdD w B A' n ds) (hB : B ≤ w.heap.size) (hn : n ≤ 10000000) :
    Calls Tryz.prog 17 #[.slice A n c, .slice A' n c'] w fun e w' => e = .returned (.bool true) ∧ Below w.heap.size w w' := by
  have hl := hx.1
  rcases Nat.eq_zero_or_pos n with h0 | h0
  · subst h0
    clear hx hy
    go_enter Tryz.func17, Tryz.ntmps17
    go_wp2
    refine wp_loop_rounds 1 ?_
    rw [rounds_succ]
    go_wp2
    go_ret
    exact ⟨rfl, Below.refl _ _⟩
  · obtain ⟨b, off, rfl, hbl, hc⟩ := hx.pos h0
    obtain ⟨b', off', rfl, hbl', hc'⟩ := hy.pos h0
    have HC := Lib.hid hc
    have HC' := Lib.hid hc'
    have hL := Lib.hid hl
    have hnn : ((n : Int) != (n : Int)) = false := by simp
    clear hc hc' hx hy hl
    go_enter Tryz.func17, Tryz.ntmps17
    go_wp2
    go_loopw [5] (fun i wr => ∃ j : Nat, j ≤ n ∧ i = .int .i64 j ∧ Below w.heap.size w wr) (fun i _ => n - (intOf i).toNat)
    case atStart => exact ⟨0, by omega, rfl, Below.refl _ _⟩
    case round =>
      obtain ⟨j, hj, rfl, hb⟩ := hrel
      have hz := hb.size
      by_cases hlt : j < n
      · obtain ⟨⟨p, q, r⟩, eo⟩ : ∃ o, ds[j]? = some o := ⟨_, List.getElem?_eq_getElem (by have := hL.out; omega)⟩
        obtain ⟨u1, u2, u3⟩ := HC.out j _ eo
        obtain ⟨v1, v2, v3⟩ := HC'.out j _ eo
        have c1 : wr.cell? ⟨b, off + j * 3, none⟩ = some (.int .i64 p) := (hb.cell (p := ⟨b, off + j * 3, none⟩) (show b < w.heap.size by omega)).trans u1
        have c2 : wr.cell? ⟨b, off + j * 3 + 1, none⟩ = some (.int .i64 q) := (hb.cell (p := ⟨b, off + j * 3 + 1, none⟩) (show b < w.heap.size by omega)).trans u2
        have c3 : wr.cell? ⟨b, off + j * 3 + 2, none⟩ = some (.string (Ba r)) := (hb.cell (p := ⟨b, off + j * 3 + 2, none⟩) (show b < w.heap.size by omega)).trans u3
        have e1 : wr.cell? ⟨b', off' + j * 3, none⟩ = some (.int .i64 p) := (hb.cell (p := ⟨b', off' + j * 3, none⟩) (show b' < w.heap.size by omega)).trans v1
        have e2 : wr.cell? ⟨b', off' + j * 3 + 1, none⟩ = some (.int .i64 q) := (hb.cell (p := ⟨b', off' + j * 3 + 1, none⟩) (show b' < w.heap.size by omega)).trans v2
        have e3 : wr.cell? ⟨b', off' + j * 3 + 2, none⟩ = some (.string (Ba r)) := (hb.cell (p := ⟨b', off' + j * 3 + 2, none⟩) (show b' < w.heap.size by omega)).trans v3
        have hin : (j : Int) < (n : Int) := by omega
        have hj0 : (0 : Int) ≤ j := by omega
        have n1 : (p != p) = false := by simp
        have n2 : (q != q) = false := by simp
        clear u1 u2 u3 v1 v2 v3 eo
        go_upto_region 6 with (fail)
        go_quiet (fail)
        go_wp2_with fail
        go_roundw
        case rel => exact ⟨j + 1, by omega, by go_num, by first | exact hb | exact below_drewN hb _⟩
        case measure => simp [intOf]; omega
      · obtain rfl : j = n := by omega
        go_wp2_with fail
        go_ret
        exact ⟨rfl, hb⟩
end Go.Proofs.YtamhpgledbmnoaaGreatDoor
