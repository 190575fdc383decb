/-
  The program's texts of deeds.
  Conditions: the library's variables hold what its contracts ask.
-/
import Derived.Test.YtamhpgledbmnoaaGreatDoorPy
import Derived.Test.YtamhpgledbmnoaaGreatDoorNm
import Derived.Test.YtamhpgledbmnoaaGreatDoorMd
import Derived.Test.YtamhpgledbmnoaaGreatDoorLb
import Derived.Test.YtamhpgledbmnoaaGreatDoorKN
import Derived.Test.YtamhpgledbmnoaaGreatDoorSm
import Derived.Deep.DeepMust
namespace Go.Proofs.YtamhpgledbmnoaaGreatDoor
set_option linter.unusedVariables false
set_option linter.unusedSimpArgs false
open Go.RowKit
theorem cells3t {w : World} {g : Nat} {T : TypeId} {a b c : Value} (h : Blk w g T #[a, b, c]) :
    w.cell? ⟨g, 0, none⟩ = some a ∧ w.cell? ⟨g, 1, none⟩ = some b ∧ w.cell? ⟨g, 2, none⟩ = some c :=
  ⟨(h.cell 0).trans rfl, (h.cell 1).trans rfl, (h.cell 2).trans rfl⟩
theorem add_BaL {P : Program} (a b : List UInt8) (h : a.length + b.length ≤ 1000000000000) (w : World) : (Op.stringOp .add (Ba a) (Ba b)).run P w = .ok (.string (Ba (a ++ b))) w := by
  rw [run_string_add_sum w _ _ (by rw [Ba_size, Ba_size]; omega), Ba_append]
theorem below_a1t {w w' : World} {o : Obj} (h : Below (w.alloc o).heap.size (w.alloc o) w') : Below w.heap.size w w' := ((Below.refl _ w).alloc (Nat.le_refl _) o).trans (h.mono (by simp))
theorem below_dt {w w' : World} (h : Below w.drew.heap.size w.drew w') : Below w.heap.size w w' := ⟨h.os, h.tape, h.output, h.size, h.block⟩
namespace Pl
theorem named_no {d : Dd} (h : namedB d = false) : dtext d = [] := by
  obtain ⟨k, n, t⟩ := d
  rcases dtext_cases ⟨k, n, t⟩ with h1 | ⟨m, hl, e, h1⟩ | ⟨m, hl, e, h1⟩ | ⟨u, hu, e, h1⟩ | ⟨e, h1⟩ | ⟨e, h1⟩ | ⟨e, h1⟩
  · exact h1
  all_goals (exfalso; rw [e] at h; unfold namedB at h; revert h; simp)
theorem dtext_k0 {n : Int} : dtext ⟨0, n, []⟩ = if 0 ≤ n ∧ n ≤ 9999 then 120 :: 32 :: Lib.decDigits n.toNat else [] := by
  unfold dtext; dsimp only; rw [if_pos rfl]
  by_cases h : 0 ≤ n ∧ n ≤ 9999
  · rw [if_pos ⟨rfl, h⟩, if_pos h]
  · rw [if_neg (fun g => h g.2), if_neg h]
theorem dtext_k1 {n : Int} : dtext ⟨1, n, []⟩ = if 0 ≤ n ∧ n ≤ 9999 then 121 :: 32 :: Lib.decDigits n.toNat else [] := by
  unfold dtext; dsimp only; rw [if_neg (by decide), if_pos rfl]
  by_cases h : 0 ≤ n ∧ n ≤ 9999
  · rw [if_pos ⟨rfl, h⟩, if_pos h]
  · rw [if_neg (fun g => h g.2), if_neg h]
theorem dtext_k2 {t : List UInt8} : dtext ⟨2, 0, t⟩ = if isTxt t = true then 101 :: 120 :: 112 :: 114 :: 32 :: t else [] := by
  unfold dtext; dsimp only; rw [if_neg (by decide), if_neg (by decide), if_pos rfl]
  by_cases h : isTxt t = true
  · rw [if_pos ⟨rfl, h⟩, if_pos h]
  · rw [if_neg (fun g => h g.2), if_neg h]
theorem named_yes {k n : Int} {t : List UInt8} (h : namedB ⟨k, n, t⟩ = true) : ((k = 0 ∨ k = 1) ∧ t = []) ∨ (k = 2 ∧ n = 0) ∨ ((k = 3 ∨ k = 4 ∨ k = 5) ∧ n = 0 ∧ t = []) := by
  unfold namedB at h
  dsimp only at h
  split at h
  · rename_i hk; exact .inl ⟨hk, of_decide_eq_true h⟩
  · split at h
    · rename_i hk; exact .inr (.inl ⟨hk, of_decide_eq_true h⟩)
    · split at h
      · rename_i hk
        rw [Bool.and_eq_true, decide_eq_true_eq, decide_eq_true_eq] at h
        exact .inr (.inr ⟨hk, h⟩)
      · exact absurd h (by decide)
end Pl
set_option maxRecDepth 100000 in
set_option maxHeartbeats 8000000 in
theorem impl_DeedText (D : Pl.Dd) (B : Nat) (w : World) (hl : LibOk B w) (ht : D.t.length ≤ 2000000) :
    Calls Tryz.prog 7 #[deedV D.k D.n D.t] w fun e w' => e = .returned (.string (Ba (Pl.dtext D))) ∧ Below w.heap.size w w' := by
  obtain ⟨k, n, t⟩ := D
  have ht : t.length ≤ 2000000 := ht
  obtain ⟨g, hg⟩ : ∃ g, w.heap.size = g := ⟨_, rfl⟩
  obtain ⟨w0, hw0⟩ : ∃ w0, w0 = w.alloc (.cells #[.int .i64 k, .int .i64 n, .string (Ba t)] 24) := ⟨_, rfl⟩
  have hz0 : w0.heap.size = g + 1 := by rw [hw0, ← hg]; simp
  have HB0 : Below g w w0 := by rw [hw0, ← hg]; go_grown
  have K0 : Blk w0 g 24 #[.int .i64 k, .int .i64 n, .string (Ba t)] := by rw [hw0, ← hg]; exact Blk.new w _ _
  have HL0 : LibOk B w0 := by rw [hw0]; exact hl.alloc _
  have CN := Lib.hid (fun w' => impl_named ⟨k, n, t⟩ w')
  obtain ⟨nb, hnb⟩ : ∃ nb, namedB ⟨k, n, t⟩ = nb := ⟨_, rfl⟩
  rw [hnb] at CN
  have HNB := Lib.hid hnb
  unfold deedV at CN ⊢
  clear hnb hl
  go_enter Tryz.func7, Tryz.ntmps7
  go_upto_region 1 with (fail)
  rw [← hw0]
  clear hw0
  obtain ⟨y0, y1, y2⟩ := cells3t K0
  go_wp2_with fail
  refine (CN.out _).mono ?_
  rintro e w1 ⟨rfl, hb1⟩
  have hz1 := hb1.size
  have K1 := K0.below hb1 (by omega)
  have HB1 := Lib.hid (HB0.trans (hb1.mono (by omega)))
  have HL1 := HL0.on hb1
  clear y0 y1 y2 CN hb1 HB0 HL0 K0
  cases nb
  · have hd := Lib.hid (Pl.named_no HNB.out)
    go_wp2_with fail
    go_ret
    exact ⟨by rw [hd.out]; rfl, by rw [hg]; exact HB1.out⟩
  obtain ⟨y0, y1, y2⟩ := cells3t K1
  rcases Pl.named_yes HNB.out with ⟨hk, ht0⟩ | ⟨hk, hn0⟩ | ⟨hk, hn0, ht0⟩
  · subst ht0
    rcases hk with rfl | rfl
    · by_cases hn : 0 ≤ n ∧ n ≤ 9999
      · obtain ⟨m, rfl⟩ := Int.eq_ofNat_of_zero_le hn.1
        have hm : m ≤ 9999 := by omega
        have hd := Lib.hid (Pl.dtext_0 (n := m) hm)
        have CW := Lib.hid (fun w' : World => impl_within_t (m : Int) 0 9999 w' hn)
        have hlen := (Pl.dec_ne hm).2
        have ka : ∀ w, (Op.stringOp .add (⟨#[120, 32]⟩ : ByteArray) ⟨(Lib.decDigits m).toArray⟩).run Tryz.prog w = .ok (.string (Ba (120 :: 32 :: Lib.decDigits m))) w := fun w => add_BaL (P := Tryz.prog) [120, 32] (Lib.decDigits m) (by simp; omega) w
        have hL1 := Lib.hid HL1
        clear hn HL1 hlen
        go_wp2_with fail
        refine (CW.out _).mono ?_
        rintro e w2 ⟨rfl, rfl⟩
        have t1 : g < w1.heap.size := K1.lt
        have t2 : g ≠ w1.heap.size := by omega
        have hK1 := Lib.hid K1
        go_upto_region 8 with (fail)
        go_cut [2] from 38 (fun s2 wx => s2 = .string (Ba (120 :: 32 :: Lib.decDigits m)) ∧ Below w1.heap.size w1 wx)
        case first =>
          go_region_with
            ((go_at_call 23; go_must (refine (lib_itoa (B := B) m _ (by first | exact hL1.out | exact hL1.out.alloc _ | exact hL1.out.drew | exact (hL1.out.alloc _).drew | exact (hL1.out.drew).alloc _) (by omega)).mono ?_; rintro e w3 ⟨rfl, hb3⟩; have HB3 : Hid (Below w1.heap.size w1 w3) := Lib.hid (by first | exact hb3 | exact below_a1t hb3 | exact below_dt hb3 | exact below_a1t (below_dt hb3) | exact below_dt (below_a1t hb3)); have hbc3 := (bcell hb3).1; have hbf3 := (bcell hb3).2; have zz3 := HB3.out.size; have zz3' := hb3.size; (try simp only [World.size_alloc, World.size_drew] at zz3'); have t3 : g < w3.heap.size := (by omega); have t4 : g ≠ w3.heap.size := (by omega); (try have t5 : w1.heap.size < w3.heap.size := (by omega)); obtain ⟨z0, z1, z2⟩ := cells3t (hK1.out.below HB3.out t1); clear hb3)))
          all_goals go_wp2_with fail
          all_goals go_meet
          all_goals first
            | exact ⟨rfl, HB3.out⟩
            | exact ⟨rfl, HB3.out.alloc HB3.out.size _⟩
        case rest =>
          obtain ⟨wz, rfl⟩ : ∃ wz, wz = wc := ⟨_, rfl⟩
          obtain ⟨rfl, hbz⟩ := hcut
          have HBZ := Lib.hid (HB1.out.trans (hbz.mono (by omega)))
          clear hbz
          go_wp2_with fail
          go_ret
          exact ⟨by rw [hd.out]; rfl, by rw [hg]; exact HBZ.out⟩
      · have hd := Lib.hid (show Pl.dtext ⟨0, n, []⟩ = [] by rw [Pl.dtext_k0, if_neg hn])
        have CW := Lib.hid (fun w' : World => impl_within_f n 0 9999 w' hn)
        clear hn
        go_wp2_with fail
        refine (CW.out _).mono ?_
        rintro e w2 ⟨rfl, rfl⟩
        go_wp2_with fail
        go_ret
        exact ⟨by rw [hd.out]; rfl, by rw [hg]; exact HB1.out⟩
    · by_cases hn : 0 ≤ n ∧ n ≤ 9999
      · obtain ⟨m, rfl⟩ := Int.eq_ofNat_of_zero_le hn.1
        have hm : m ≤ 9999 := by omega
        have hd := Lib.hid (Pl.dtext_1 (n := m) hm)
        have CW := Lib.hid (fun w' : World => impl_within_t (m : Int) 0 9999 w' hn)
        have hlen := (Pl.dec_ne hm).2
        have ka : ∀ w, (Op.stringOp .add (⟨#[121, 32]⟩ : ByteArray) ⟨(Lib.decDigits m).toArray⟩).run Tryz.prog w = .ok (.string (Ba (121 :: 32 :: Lib.decDigits m))) w := fun w => add_BaL (P := Tryz.prog) [121, 32] (Lib.decDigits m) (by simp; omega) w
        have hL1 := Lib.hid HL1
        clear hn HL1 hlen
        go_wp2_with fail
        refine (CW.out _).mono ?_
        rintro e w2 ⟨rfl, rfl⟩
        have t1 : g < w1.heap.size := K1.lt
        have t2 : g ≠ w1.heap.size := by omega
        have hK1 := Lib.hid K1
        go_upto_region 8 with (fail)
        go_cut [2] from 38 (fun s2 wx => s2 = .string (Ba (121 :: 32 :: Lib.decDigits m)) ∧ Below w1.heap.size w1 wx)
        case first =>
          go_region_with
            ((go_at_call 23; go_must (refine (lib_itoa (B := B) m _ (by first | exact hL1.out | exact hL1.out.alloc _ | exact hL1.out.drew | exact (hL1.out.alloc _).drew | exact (hL1.out.drew).alloc _) (by omega)).mono ?_; rintro e w3 ⟨rfl, hb3⟩; have HB3 : Hid (Below w1.heap.size w1 w3) := Lib.hid (by first | exact hb3 | exact below_a1t hb3 | exact below_dt hb3 | exact below_a1t (below_dt hb3) | exact below_dt (below_a1t hb3)); have hbc3 := (bcell hb3).1; have hbf3 := (bcell hb3).2; have zz3 := HB3.out.size; have zz3' := hb3.size; (try simp only [World.size_alloc, World.size_drew] at zz3'); have t3 : g < w3.heap.size := (by omega); have t4 : g ≠ w3.heap.size := (by omega); (try have t5 : w1.heap.size < w3.heap.size := (by omega)); obtain ⟨z0, z1, z2⟩ := cells3t (hK1.out.below HB3.out t1); clear hb3)))
          all_goals go_wp2_with fail
          all_goals go_meet
          all_goals first
            | exact ⟨rfl, HB3.out⟩
            | exact ⟨rfl, HB3.out.alloc HB3.out.size _⟩
        case rest =>
          obtain ⟨wz, rfl⟩ : ∃ wz, wz = wc := ⟨_, rfl⟩
          obtain ⟨rfl, hbz⟩ := hcut
          have HBZ := Lib.hid (HB1.out.trans (hbz.mono (by omega)))
          clear hbz
          go_wp2_with fail
          go_ret
          exact ⟨by rw [hd.out]; rfl, by rw [hg]; exact HBZ.out⟩
      · have hd := Lib.hid (show Pl.dtext ⟨1, n, []⟩ = [] by rw [Pl.dtext_k1, if_neg hn])
        have CW := Lib.hid (fun w' : World => impl_within_f n 0 9999 w' hn)
        clear hn
        go_wp2_with fail
        refine (CW.out _).mono ?_
        rintro e w2 ⟨rfl, rfl⟩
        go_wp2_with fail
        go_ret
        exact ⟨by rw [hd.out]; rfl, by rw [hg]; exact HB1.out⟩
  · subst hk hn0
    have CT := Lib.hid (fun w' => impl_isText t w' (by omega))
    obtain ⟨b, hb⟩ : ∃ b, Pl.isTxt t = b := ⟨_, rfl⟩
    rw [hb] at CT
    have hK1 := Lib.hid K1
    have t1 : g < w1.heap.size := K1.lt
    cases b
    · have hd := Lib.hid (show Pl.dtext ⟨2, 0, t⟩ = [] by rw [Pl.dtext_k2, hb]; rfl)
      clear hb
      go_wp2_with fail
      refine (CT.out _).mono ?_
      rintro e w2 ⟨rfl, hb2⟩
      have HB2 := Lib.hid (HB1.out.trans (hb2.mono (by omega)))
      clear hb2
      go_wp2_with fail
      go_ret
      exact ⟨by rw [hd.out]; rfl, by rw [hg]; exact HB2.out⟩
    · have hd := Lib.hid (show Pl.dtext ⟨2, 0, t⟩ = 101 :: 120 :: 112 :: 114 :: 32 :: t by rw [Pl.dtext_k2, hb]; rfl)
      have ka : ∀ w, (Op.stringOp .add (⟨#[101, 120, 112, 114, 32]⟩ : ByteArray) (Ba t)).run Tryz.prog w = .ok (.string (Ba (101 :: 120 :: 112 :: 114 :: 32 :: t))) w := fun w => add_BaL (P := Tryz.prog) [101, 120, 112, 114, 32] t (by simp; omega) w
      clear hb
      go_wp2_with fail
      refine (CT.out _).mono ?_
      rintro e w2 ⟨rfl, hb2⟩
      have HB2 := Lib.hid (HB1.out.trans (hb2.mono (by omega)))
      obtain ⟨z0, z1, z2⟩ := cells3t (hK1.out.below hb2 t1)
      clear hb2 y0 y1 y2
      go_wp2_with fail
      go_ret
      exact ⟨by rw [hd.out]; rfl, by rw [hg]; exact HB2.out⟩
  · subst hn0 ht0
    have m0 : ∀ w : World, (Instr.makeMap 50 none).run Tryz.prog w = .ok (.map (some w.heap.size)) (w.alloc (.map #[] 0)) := fun w => rfl
    have m1 := mp_1
    have m2 := mp_2
    have m3 := mp_3
    have m4 := mp_a
    have m5 := mp_b
    have m6 := mp_c
    have t1 : g < w1.heap.size := K1.lt
    have t2 : g ≠ w1.heap.size := by omega
    have hB1 := HB1.out
    rcases hk with rfl | rfl | rfl
    · have hd := Lib.hid (show Pl.dtext ⟨3, 0, []⟩ = [115, 105, 109, 112, 108, 101] by unfold Pl.dtext; rfl)
      go_wp2_with fail
      go_ret
      exact ⟨by rw [hd.out]; rfl, by rw [hg]; exact HB1.out.alloc (by omega) _⟩
    · have hd := Lib.hid (show Pl.dtext ⟨4, 0, []⟩ = [115, 104, 111, 114, 116] by unfold Pl.dtext; rfl)
      go_wp2_with fail
      go_ret
      exact ⟨by rw [hd.out]; rfl, by rw [hg]; exact HB1.out.alloc (by omega) _⟩
    · have hd := Lib.hid (show Pl.dtext ⟨5, 0, []⟩ = [98, 97, 99, 107] by unfold Pl.dtext; rfl)
      go_wp2_with fail
      go_ret
      exact ⟨by rw [hd.out]; rfl, by rw [hg]; exact HB1.out.alloc (by omega) _⟩
end Go.Proofs.YtamhpgledbmnoaaGreatDoor
