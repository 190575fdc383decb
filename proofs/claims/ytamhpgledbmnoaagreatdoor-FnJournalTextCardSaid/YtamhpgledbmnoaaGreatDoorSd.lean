/-
  The given texts of deeds.
  Conditions: as stated.
-/
import Derived.Test.YtamhpgledbmnoaaGreatDoorDg
import Derived.Test.YtamhpgledbmnoaaGreatDoorSm
namespace Go.Proofs.YtamhpgledbmnoaaGreatDoor
set_option linter.unusedVariables false
set_option linter.unusedSimpArgs false
open Go.RowKit
theorem cells3s {w : World} {g : Nat} {T : TypeId} {a b c : Value} (h : Blk w g T #[a, b, c]) :
    w.cell? ⟨g, 0, none⟩ = some a ∧ w.cell? ⟨g, 1, none⟩ = some b ∧ w.cell? ⟨g, 2, none⟩ = some c :=
  ⟨(h.cell 0).trans rfl, (h.cell 1).trans rfl, (h.cell 2).trans rfl⟩
theorem add_BaM {P : Program} (a b : List UInt8) (h : a.length + b.length ≤ 1000000000000) (w : World) : (Op.stringOp .add (Ba a) (Ba b)).run P w = .ok (.string (Ba (a ++ b))) w := by
  rw [run_string_add_sum w _ _ (by rw [Ba_size, Ba_size]; omega), Ba_append]
theorem below_a1s {w w' : World} {o : Obj} (h : Below (w.alloc o).heap.size (w.alloc o) w') : Below w.heap.size w w' := ((Below.refl _ w).alloc (Nat.le_refl _) o).trans (h.mono (by simp))
theorem below_ds {w w' : World} (h : Below w.drew.heap.size w.drew w') : Below w.heap.size w w' := ⟨h.os, h.tape, h.output, h.size, h.block⟩
namespace Pl
theorem dt_n0 {k n : Int} {t : List UInt8} (h : t ≠ []) : (k = 0 ∨ k = 1) → dtext ⟨k, n, t⟩ = [] := by
  rintro (rfl | rfl)
  · unfold dtext; dsimp only; rw [if_pos rfl, if_neg (fun g => h g.1)]
  · unfold dtext; dsimp only; rw [if_neg (by decide), if_pos rfl, if_neg (fun g => h g.1)]
theorem dt_r {k n : Int} (h : ¬ (0 ≤ n ∧ n ≤ 9999)) : (k = 0 ∨ k = 1) → dtext ⟨k, n, []⟩ = [] := by
  rintro (rfl | rfl)
  · unfold dtext; dsimp only; rw [if_pos rfl, if_neg (fun g => h g.2)]
  · unfold dtext; dsimp only; rw [if_neg (by decide), if_pos rfl, if_neg (fun g => h g.2)]
theorem dt_2f {n : Int} {t : List UInt8} (h : ¬ (n = 0 ∧ isTxt t = true)) : dtext ⟨2, n, t⟩ = [] := by
  unfold dtext; dsimp only; rw [if_neg (by decide), if_neg (by decide), if_pos rfl, if_neg h]
theorem dt_3f {k n : Int} {t : List UInt8} (h : ¬ (n = 0 ∧ t = [])) : (k = 3 ∨ k = 4 ∨ k = 5) → dtext ⟨k, n, t⟩ = [] := by
  intro hk
  rcases dtext_cases ⟨k, n, t⟩ with h1 | ⟨m, hl, e, h1⟩ | ⟨m, hl, e, h1⟩ | ⟨u, hu, e, h1⟩ | ⟨e, h1⟩ | ⟨e, h1⟩ | ⟨e, h1⟩
  · exact h1
  all_goals (exfalso; injection e with e1 e2 e3; first | omega | exact h ⟨e2, e3⟩)
theorem dt_o {k n : Int} {t : List UInt8} (h0 : k ≠ 0) (h1 : k ≠ 1) (h2 : k ≠ 2) (h3 : k ≠ 3) (h4 : k ≠ 4) (h5 : k ≠ 5) : dtext ⟨k, n, t⟩ = [] := by
  rcases dtext_cases ⟨k, n, t⟩ with h1 | ⟨m, hl, e, h1⟩ | ⟨m, hl, e, h1⟩ | ⟨u, hu, e, h1⟩ | ⟨e, h1⟩ | ⟨e, h1⟩ | ⟨e, h1⟩
  · exact h1
  all_goals (exfalso; injection e with e1 e2 e3; omega)
end Pl
set_option maxRecDepth 100000 in
set_option maxHeartbeats 8000000 in
theorem spec_DeedText (D : Pl.Dd) (w : World) (ht : D.t.length ≤ 2000000) :
    Calls Tryz.prog 8 #[deedV D.k D.n D.t] w fun e w' => e = .returned (.string (Ba (Pl.dtext D))) ∧ Below w.heap.size w w' := by
  obtain ⟨k, n, t⟩ := D
  have ht : t.length ≤ 2000000 := ht
  obtain ⟨g, hg⟩ : ∃ g, w.heap.size = g := ⟨_, rfl⟩
  obtain ⟨w0, hw0⟩ : ∃ w0, w0 = w.alloc (.cells #[.int .i64 k, .int .i64 n, .string (Ba t)] 24) := ⟨_, rfl⟩
  have hz0 : w0.heap.size = g + 1 := by rw [hw0, ← hg]; simp
  have HB0 : Below g w w0 := by rw [hw0, ← hg]; go_grown
  have K0 : Blk w0 g 24 #[.int .i64 k, .int .i64 n, .string (Ba t)] := by rw [hw0, ← hg]; exact Blk.new w _ _
  have CR := Lib.hid (fun w' => spec_ReadExpr t w' ht)
  obtain ⟨b, hb⟩ : ∃ b, (Pl.readE t).isSome = b := ⟨_, rfl⟩
  have hbt := Lib.hid (show Pl.isTxt t = b from hb)
  unfold deedV
  go_enter Tryz.func8, Tryz.ntmps8
  go_upto_region 1 with (fail)
  rw [← hw0]
  clear hw0
  obtain ⟨y0, y1, y2⟩ := cells3s K0
  go_wp2_with fail
  refine (CR.out _).mono ?_
  rintro e w1 ⟨ys, A1, c1, _, rfl, _, hb1⟩
  rw [hb]
  have hz1 := hb1.size
  have K1 := K0.below hb1 (by omega)
  have HB1 := Lib.hid (HB0.trans (hb1.mono (by omega)))
  have t1 : g < w1.heap.size := K1.lt
  have t2 : g ≠ w1.heap.size := by omega
  clear y0 y1 y2 CR hb1 HB0 K0 hb
  obtain ⟨y0, y1, y2⟩ := cells3s K1
  have htc : (t = [] ∧ (Ba t).toList.isEmpty = true) ∨ (t ≠ [] ∧ (Ba t).toList.isEmpty = false) := by
    rw [Ba_list]
    cases t with
    | nil => exact .inl ⟨rfl, rfl⟩
    | cons a r => exact .inr ⟨by simp, rfl⟩
  have hK1 := Lib.hid K1
  clear K1
  rcases (by omega : k = 0 ∨ k = 1 ∨ k = 2 ∨ k = 3 ∨ k = 4 ∨ k = 5 ∨ (k ≠ 0 ∧ k ≠ 1 ∧ k ≠ 2 ∧ k ≠ 3 ∧ k ≠ 4 ∧ k ≠ 5)) with rfl | rfl | rfl | rfl | rfl | rfl | ⟨h0, h1, h2, h3, h4, h5⟩
  · have C3 := Lib.hid (fun w' : World => spec_l1In_f 0 3 5 w' (by omega))
    rcases htc with ⟨rfl, hbe⟩ | ⟨htn, hbe⟩
    · by_cases hn : 0 ≤ n ∧ n ≤ 9999
      · obtain ⟨m, rfl⟩ := Int.eq_ofNat_of_zero_le hn.1
        have hm : m ≤ 9999 := by omega
        have hd := Lib.hid (Pl.dtext_0 (n := m) hm)
        have CW := Lib.hid (fun w' : World => spec_l1In_t (m : Int) 0 9999 w' hn)
        have CN := Lib.hid (fun w' : World => spec_l1Number 3 m w' (by omega) (by omega))
        rw [dec_eq] at CN
        have hlen := (Pl.dec_ne hm).2
        have ka : ∀ w, (Op.stringOp .add (⟨#[120, 32]⟩ : ByteArray) (Ba (Lib.decDigits m))).run Tryz.prog w = .ok (.string (Ba (120 :: 32 :: Lib.decDigits m))) w := fun w => add_BaM (P := Tryz.prog) [120, 32] (Lib.decDigits m) (by simp; omega) w
        have kb : ∀ w, (Op.stringOp .add (⟨#[120]⟩ : ByteArray) ⟨#[32]⟩).run Tryz.prog w = .ok (.string ⟨#[120, 32]⟩) w := fun w => add_BaM (P := Tryz.prog) [120] [32] (by simp) w
        clear hn hlen
        go_wp2_with fail
        refine (CW.out _).mono ?_
        rintro e w2 ⟨rfl, rfl⟩
        go_upto_region 3 with (fail)
        go_cut [2] from 30 (fun s2 wx => s2 = .string (Ba (120 :: 32 :: Lib.decDigits m)) ∧ Below w1.heap.size w1 wx)
        case first =>
          go_region_with
            ((go_at_call 27; go_must (refine (CN.out _).mono ?_; rintro e w3 ⟨rfl, hb3⟩; have HB3 : Hid (Below w1.heap.size w1 w3) := Lib.hid (by first | exact hb3 | exact below_a1s hb3 | exact below_ds hb3 | exact below_a1s (below_ds hb3) | exact below_ds (below_a1s hb3)); have hbc3 := (bcell hb3).1; have hbf3 := (bcell hb3).2; have zz3 := HB3.out.size; have zz3' := hb3.size; (try simp only [World.size_alloc, World.size_drew] at zz3'); have t3 : g < w3.heap.size := (by omega); have t4 : g ≠ w3.heap.size := (by omega); (try have t5 : w1.heap.size < w3.heap.size := (by omega)); obtain ⟨z0, z1, z2⟩ := cells3s (hK1.out.below HB3.out t1); clear hb3)))
          all_goals go_wp2_with fail
          all_goals go_meet
          all_goals first
            | exact ⟨rfl, HB3.out⟩
            | exact ⟨rfl, HB3.out.alloc HB3.out.size _⟩
        case rest =>
          obtain ⟨wz, rfl⟩ : ∃ wz, wz = wc := ⟨_, rfl⟩
          obtain ⟨rfl, hbz⟩ := hcut
          have HBZ := Lib.hid (HB1.out.trans (hbz.mono (by omega)))
          clear hbz
          go_wp2_with fail
          go_ret
          exact ⟨by rw [hd.out]; rfl, by rw [hg]; exact HBZ.out⟩
      · have hd := Lib.hid (Pl.dt_r (k := 0) hn (by simp))
        have CW := Lib.hid (fun w' : World => spec_l1In_f n 0 9999 w' hn)
        clear hn
        go_wp2_with fail
        refine (CW.out _).mono ?_
        rintro e w2 ⟨rfl, rfl⟩
        go_wp2_with fail
        refine (C3.out _).mono ?_
        rintro e w2 ⟨rfl, rfl⟩
        go_wp2_with fail
        go_ret
        exact ⟨by rw [hd.out]; rfl, by rw [hg]; exact HB1.out⟩
    · have hd := Lib.hid (Pl.dt_n0 (k := 0) (n := n) htn (by simp))
      clear htn
      go_wp2_with fail
      refine (C3.out _).mono ?_
      rintro e w2 ⟨rfl, rfl⟩
      go_wp2_with fail
      go_ret
      exact ⟨by rw [hd.out]; rfl, by rw [hg]; exact HB1.out⟩
  · have C3 := Lib.hid (fun w' : World => spec_l1In_f 1 3 5 w' (by omega))
    rcases htc with ⟨rfl, hbe⟩ | ⟨htn, hbe⟩
    · by_cases hn : 0 ≤ n ∧ n ≤ 9999
      · obtain ⟨m, rfl⟩ := Int.eq_ofNat_of_zero_le hn.1
        have hm : m ≤ 9999 := by omega
        have hd := Lib.hid (Pl.dtext_1 (n := m) hm)
        have CW := Lib.hid (fun w' : World => spec_l1In_t (m : Int) 0 9999 w' hn)
        have CN := Lib.hid (fun w' : World => spec_l1Number 3 m w' (by omega) (by omega))
        rw [dec_eq] at CN
        have hlen := (Pl.dec_ne hm).2
        have ka : ∀ w, (Op.stringOp .add (⟨#[121, 32]⟩ : ByteArray) (Ba (Lib.decDigits m))).run Tryz.prog w = .ok (.string (Ba (121 :: 32 :: Lib.decDigits m))) w := fun w => add_BaM (P := Tryz.prog) [121, 32] (Lib.decDigits m) (by simp; omega) w
        have kb : ∀ w, (Op.stringOp .add (⟨#[121]⟩ : ByteArray) ⟨#[32]⟩).run Tryz.prog w = .ok (.string ⟨#[121, 32]⟩) w := fun w => add_BaM (P := Tryz.prog) [121] [32] (by simp) w
        clear hn hlen
        go_wp2_with fail
        refine (CW.out _).mono ?_
        rintro e w2 ⟨rfl, rfl⟩
        go_upto_region 3 with (fail)
        go_cut [2] from 30 (fun s2 wx => s2 = .string (Ba (121 :: 32 :: Lib.decDigits m)) ∧ Below w1.heap.size w1 wx)
        case first =>
          go_region_with
            ((go_at_call 27; go_must (refine (CN.out _).mono ?_; rintro e w3 ⟨rfl, hb3⟩; have HB3 : Hid (Below w1.heap.size w1 w3) := Lib.hid (by first | exact hb3 | exact below_a1s hb3 | exact below_ds hb3 | exact below_a1s (below_ds hb3) | exact below_ds (below_a1s hb3)); have hbc3 := (bcell hb3).1; have hbf3 := (bcell hb3).2; have zz3 := HB3.out.size; have zz3' := hb3.size; (try simp only [World.size_alloc, World.size_drew] at zz3'); have t3 : g < w3.heap.size := (by omega); have t4 : g ≠ w3.heap.size := (by omega); (try have t5 : w1.heap.size < w3.heap.size := (by omega)); obtain ⟨z0, z1, z2⟩ := cells3s (hK1.out.below HB3.out t1); clear hb3)))
          all_goals go_wp2_with fail
          all_goals go_meet
          all_goals first
            | exact ⟨rfl, HB3.out⟩
            | exact ⟨rfl, HB3.out.alloc HB3.out.size _⟩
        case rest =>
          obtain ⟨wz, rfl⟩ : ∃ wz, wz = wc := ⟨_, rfl⟩
          obtain ⟨rfl, hbz⟩ := hcut
          have HBZ := Lib.hid (HB1.out.trans (hbz.mono (by omega)))
          clear hbz
          go_wp2_with fail
          go_ret
          exact ⟨by rw [hd.out]; rfl, by rw [hg]; exact HBZ.out⟩
      · have hd := Lib.hid (Pl.dt_r (k := 1) hn (by simp))
        have CW := Lib.hid (fun w' : World => spec_l1In_f n 0 9999 w' hn)
        clear hn
        go_wp2_with fail
        refine (CW.out _).mono ?_
        rintro e w2 ⟨rfl, rfl⟩
        go_wp2_with fail
        refine (C3.out _).mono ?_
        rintro e w2 ⟨rfl, rfl⟩
        go_wp2_with fail
        go_ret
        exact ⟨by rw [hd.out]; rfl, by rw [hg]; exact HB1.out⟩
    · have hd := Lib.hid (Pl.dt_n0 (k := 1) (n := n) htn (by simp))
      clear htn
      go_wp2_with fail
      refine (C3.out _).mono ?_
      rintro e w2 ⟨rfl, rfl⟩
      go_wp2_with fail
      go_ret
      exact ⟨by rw [hd.out]; rfl, by rw [hg]; exact HB1.out⟩
  · have C3 := Lib.hid (fun w' : World => spec_l1In_f 2 3 5 w' (by omega))
    clear htc
    by_cases hn : n = 0
    · subst hn
      cases b
      · have hd := Lib.hid (Pl.dt_2f (n := 0) (t := t) (by rw [hbt.out]; simp))
        go_wp2_with fail
        refine (C3.out _).mono ?_
        rintro e w2 ⟨rfl, rfl⟩
        go_wp2_with fail
        go_ret
        exact ⟨by rw [hd.out]; rfl, by rw [hg]; exact HB1.out⟩
      · have hd := Lib.hid (Pl.dtext_2 hbt.out)
        have ka : ∀ w, (Op.stringOp .add (⟨#[101, 120, 112, 114, 32]⟩ : ByteArray) (Ba t)).run Tryz.prog w = .ok (.string (Ba (101 :: 120 :: 112 :: 114 :: 32 :: t))) w := fun w => add_BaM (P := Tryz.prog) [101, 120, 112, 114, 32] t (by simp; omega) w
        go_wp2_with fail
        go_ret
        exact ⟨by rw [hd.out]; rfl, by rw [hg]; exact HB1.out⟩
    · have hd := Lib.hid (Pl.dt_2f (n := n) (t := t) (fun h => hn h.1))
      have hb : (n == 0) = false := by rw [beq_eq_false_iff_ne]; exact hn
      clear hn
      go_wp2_with fail
      refine (C3.out _).mono ?_
      rintro e w2 ⟨rfl, rfl⟩
      go_wp2_with fail
      go_ret
      exact ⟨by rw [hd.out]; rfl, by rw [hg]; exact HB1.out⟩
  · have C3 := Lib.hid (fun w' : World => spec_l1In_t 3 3 5 w' (by omega))
    by_cases hn : n = 0
    · subst hn
      rcases htc with ⟨rfl, hbe⟩ | ⟨htn, hbe⟩
      · have hd := Lib.hid (show Pl.dtext ⟨3, 0, []⟩ = [115, 105, 109, 112, 108, 101] by unfold Pl.dtext; rfl)
        go_wp2_with fail
        refine (C3.out _).mono ?_
        rintro e w2 ⟨rfl, rfl⟩
        go_wp2_with fail
        go_ret
        exact ⟨by rw [hd.out]; rfl, by rw [hg]; first | exact HB1.out | exact HB1.out.alloc (by omega) _⟩
      · have hd := Lib.hid (Pl.dt_3f (k := 3) (n := 0) (fun h => htn h.2) (by simp))
        clear htn
        go_wp2_with fail
        refine (C3.out _).mono ?_
        rintro e w2 ⟨rfl, rfl⟩
        go_wp2_with fail
        go_ret
        exact ⟨by rw [hd.out]; rfl, by rw [hg]; exact HB1.out⟩
    · have hd := Lib.hid (Pl.dt_3f (k := 3) (n := n) (t := t) (fun h => hn h.1) (by simp))
      have hb : (n == 0) = false := by rw [beq_eq_false_iff_ne]; exact hn
      clear hn htc
      go_wp2_with fail
      refine (C3.out _).mono ?_
      rintro e w2 ⟨rfl, rfl⟩
      go_wp2_with fail
      go_ret
      exact ⟨by rw [hd.out]; rfl, by rw [hg]; exact HB1.out⟩
  · have C3 := Lib.hid (fun w' : World => spec_l1In_t 4 3 5 w' (by omega))
    by_cases hn : n = 0
    · subst hn
      rcases htc with ⟨rfl, hbe⟩ | ⟨htn, hbe⟩
      · have hd := Lib.hid (show Pl.dtext ⟨4, 0, []⟩ = [115, 104, 111, 114, 116] by unfold Pl.dtext; rfl)
        go_wp2_with fail
        refine (C3.out _).mono ?_
        rintro e w2 ⟨rfl, rfl⟩
        go_wp2_with fail
        go_ret
        exact ⟨by rw [hd.out]; rfl, by rw [hg]; first | exact HB1.out | exact HB1.out.alloc (by omega) _⟩
      · have hd := Lib.hid (Pl.dt_3f (k := 4) (n := 0) (fun h => htn h.2) (by simp))
        clear htn
        go_wp2_with fail
        refine (C3.out _).mono ?_
        rintro e w2 ⟨rfl, rfl⟩
        go_wp2_with fail
        go_ret
        exact ⟨by rw [hd.out]; rfl, by rw [hg]; exact HB1.out⟩
    · have hd := Lib.hid (Pl.dt_3f (k := 4) (n := n) (t := t) (fun h => hn h.1) (by simp))
      have hb : (n == 0) = false := by rw [beq_eq_false_iff_ne]; exact hn
      clear hn htc
      go_wp2_with fail
      refine (C3.out _).mono ?_
      rintro e w2 ⟨rfl, rfl⟩
      go_wp2_with fail
      go_ret
      exact ⟨by rw [hd.out]; rfl, by rw [hg]; exact HB1.out⟩
  · have C3 := Lib.hid (fun w' : World => spec_l1In_t 5 3 5 w' (by omega))
    by_cases hn : n = 0
    · subst hn
      rcases htc with ⟨rfl, hbe⟩ | ⟨htn, hbe⟩
      · have hd := Lib.hid (show Pl.dtext ⟨5, 0, []⟩ = [98, 97, 99, 107] by unfold Pl.dtext; rfl)
        go_wp2_with fail
        refine (C3.out _).mono ?_
        rintro e w2 ⟨rfl, rfl⟩
        go_wp2_with fail
        go_ret
        exact ⟨by rw [hd.out]; rfl, by rw [hg]; first | exact HB1.out | exact HB1.out.alloc (by omega) _⟩
      · have hd := Lib.hid (Pl.dt_3f (k := 5) (n := 0) (fun h => htn h.2) (by simp))
        clear htn
        go_wp2_with fail
        refine (C3.out _).mono ?_
        rintro e w2 ⟨rfl, rfl⟩
        go_wp2_with fail
        go_ret
        exact ⟨by rw [hd.out]; rfl, by rw [hg]; exact HB1.out⟩
    · have hd := Lib.hid (Pl.dt_3f (k := 5) (n := n) (t := t) (fun h => hn h.1) (by simp))
      have hb : (n == 0) = false := by rw [beq_eq_false_iff_ne]; exact hn
      clear hn htc
      go_wp2_with fail
      refine (C3.out _).mono ?_
      rintro e w2 ⟨rfl, rfl⟩
      go_wp2_with fail
      go_ret
      exact ⟨by rw [hd.out]; rfl, by rw [hg]; exact HB1.out⟩
  · have C3 := Lib.hid (fun w' : World => spec_l1In_f k 3 5 w' (by omega))
    have hd := Lib.hid (Pl.dt_o (n := n) (t := t) h0 h1 h2 h3 h4 h5)
    have e0 : (k == 0) = false := by rw [beq_eq_false_iff_ne]; exact h0
    have e1 : (k == 1) = false := by rw [beq_eq_false_iff_ne]; exact h1
    have e2 : (k == 2) = false := by rw [beq_eq_false_iff_ne]; exact h2
    clear h0 h1 h2 h3 h4 h5 htc
    go_wp2_with fail
    refine (C3.out _).mono ?_
    rintro e w2 ⟨rfl, rfl⟩
    go_wp2_with fail
    go_ret
    exact ⟨by rw [hd.out]; rfl, by rw [hg]; exact HB1.out⟩
end Go.Proofs.YtamhpgledbmnoaaGreatDoor
