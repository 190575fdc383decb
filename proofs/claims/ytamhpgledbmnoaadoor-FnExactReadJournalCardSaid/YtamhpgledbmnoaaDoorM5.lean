/-
  How the laws weigh, copy, compare and mark lists of deeds.
  Conditions: as stated.
-/
import Derived.Test.YtamhpgledbmnoaaDoorDl
import Derived.Test.YtamhpgledbmnoaaDoorM1
import Derived.Test.YtamhpgledbmnoaaDoorM2
namespace Go.Proofs.YtamhpgledbmnoaaDoor
set_option linter.unusedVariables false
set_option linter.unusedSimpArgs false
open Go.RowKit
set_option maxHeartbeats 1000000 in
theorem laws_eqDeed (k n : Int) (t : List UInt8) (w : World) : Calls Tryd.prog 18 #[deedV k n t, deedV k n t] w fun e w' => e = .returned (.bool true) ∧ Below w.heap.size w w' := by
  have h1 : (k != k) = false := by simp
  have h2 : (n != n) = false := by simp
  unfold deedV
  go_enter Tryd.func18, Tryd.ntmps18
  go_wp2
  go_ret
  exact ⟨rfl, by go_grown⟩
set_option maxRecDepth 100000 in
set_option maxHeartbeats 1000000 in
theorem laws_eqDeedS (A A' : Option Addr) (n c c' B : Nat) (ds : List Pl.Dd) (w : World) (hx : RdD w B A n ds) (hy : RdD w B A' n ds) (hB : B ≤ w.heap.size) (hn : n ≤ 10000000) :
    Calls Tryd.prog 15 #[.slice A n c, .slice A' n c'] w fun e w' => e = .returned (.bool true) ∧ Below w.heap.size w w' := by
  have hl := hx.1
  rcases Nat.eq_zero_or_pos n with h0 | h0
  · subst h0
    go_enter Tryd.func15, Tryd.ntmps15
    go_wp2
    refine wp_loop_rounds 1 ?_
    rw [rounds_succ]
    go_wp2
    go_ret
    exact ⟨rfl, Below.refl _ _⟩
  · obtain ⟨b, off, rfl, hbl, hc⟩ := hx.pos h0
    obtain ⟨b', off', rfl, hbl', hc'⟩ := hy.pos h0
    have HC := Lib.hid hc
    have HC' := Lib.hid hc'
    have hL := Lib.hid hl
    clear hc hc' hx hy hl
    go_enter Tryd.func15, Tryd.ntmps15
    go_wp2
    go_loopw [5] (fun i wr => ∃ j : Nat, j ≤ n ∧ i = .int .i64 j ∧ Below w.heap.size w wr) (fun i _ => n - (intOf i).toNat)
    case atStart => exact ⟨0, by omega, rfl, Below.refl _ _⟩
    case round =>
      obtain ⟨j, hj, rfl, hb⟩ := hrel
      have hz := hb.size
      by_cases hlt : j < n
      · obtain ⟨⟨p, q, r⟩, eo⟩ : ∃ o, ds[j]? = some o := ⟨_, List.getElem?_eq_getElem (by have := hL.out; omega)⟩
        obtain ⟨u1, u2, u3⟩ := HC.out j _ eo
        obtain ⟨v1, v2, v3⟩ := HC'.out j _ eo
        have c1 : wr.cell? ⟨b, off + j * 3, none⟩ = some (.int .i64 p) := (hb.cell (p := ⟨b, off + j * 3, none⟩) (show b < w.heap.size by omega)).trans u1
        have c2 : wr.cell? ⟨b, off + j * 3 + 1, none⟩ = some (.int .i64 q) := (hb.cell (p := ⟨b, off + j * 3 + 1, none⟩) (show b < w.heap.size by omega)).trans u2
        have c3 : wr.cell? ⟨b, off + j * 3 + 2, none⟩ = some (.string (Ba r)) := (hb.cell (p := ⟨b, off + j * 3 + 2, none⟩) (show b < w.heap.size by omega)).trans u3
        have e1 : wr.cell? ⟨b', off' + j * 3, none⟩ = some (.int .i64 p) := (hb.cell (p := ⟨b', off' + j * 3, none⟩) (show b' < w.heap.size by omega)).trans v1
        have e2 : wr.cell? ⟨b', off' + j * 3 + 1, none⟩ = some (.int .i64 q) := (hb.cell (p := ⟨b', off' + j * 3 + 1, none⟩) (show b' < w.heap.size by omega)).trans v2
        have e3 : wr.cell? ⟨b', off' + j * 3 + 2, none⟩ = some (.string (Ba r)) := (hb.cell (p := ⟨b', off' + j * 3 + 2, none⟩) (show b' < w.heap.size by omega)).trans v3
        have hin : (j : Int) < (n : Int) := by omega
        have hj0 : (0 : Int) ≤ j := by omega
        have CE := Lib.hid (fun w' => laws_eqDeed p q r w')
        unfold deedV at CE
        clear u1 u2 u3 v1 v2 v3 eo
        go_wp2_with fail
        go_region_law (first
          | (go_simp; go_at_call 18; refine (CE.out _).mono ?_; rintro e w5 ⟨rfl, hb5⟩; dsimp only))
        all_goals go_wp2_with fail
        all_goals go_roundw
        all_goals first
          | exact ⟨j + 1, by omega, by go_num, hb.trans ((⟨hb5.os, hb5.tape, hb5.output, hb5.size, hb5.block⟩ : Below wr.heap.size wr w5).mono hz)⟩
          | (simp [intOf]; omega)
      · obtain rfl : j = n := by omega
        go_wp2_with fail
        go_ret
        exact ⟨rfl, hb⟩
/-- The texts of deeds. -/
def dts (ds : List Pl.Dd) : List (List UInt8) := ds.map (·.t)
theorem dts_len (ds : List Pl.Dd) : (dts ds).length = ds.length := by simp [dts]
theorem dts_get {ds : List Pl.Dd} {j : Nat} {D : Pl.Dd} (h : ds[j]? = some D) : (dts ds)[j]? = some D.t := by simp [dts, h]
theorem dts_mem {ds : List Pl.Dd} {D : Pl.Dd} (h : D ∈ ds) : D.t ∈ dts ds := List.mem_map_of_mem (f := (·.t)) h
/-- What is known of deeds that passed the measure. -/
theorem szDs_f {left : Int} {ds : List Pl.Dd} (h : ¬ szT left (dts ds) < 0) : (ds.length : Int) ≤ left ∧ ∀ D ∈ ds, (D.t.length : Int) ≤ left := by
  unfold szT at h
  rw [dts_len] at h
  have h0 := lens_nonneg (dts ds)
  split at h
  · exact absurd (by decide) h
  · refine ⟨by omega, fun D hD => ?_⟩
    have := lens_mem (dts_mem hD)
    omega
set_option maxHeartbeats 1000000 in
theorem laws_szDeedS (A : Option Addr) (n c B : Nat) (ds : List Pl.Dd) (left : Int) (w : World) (hx : RdD w B A n ds) (hB : B ≤ w.heap.size) (h0 : 0 ≤ left) (h1 : left ≤ 1048576) (hn : n ≤ maxLen) (hs : ∀ D ∈ ds, D.t.length ≤ maxLen) :
    Calls Tryd.prog 11 #[.slice A n c, .int .i64 left] w fun e w' => e = .returned (.int .i64 (szT left (dts ds))) ∧ Below w.heap.size w w' := by
  have lx : ds.length = n := hx.1
  have lt : (dts ds).length = n := by rw [dts_len]; exact lx
  unfold maxLen at hn
  have hl0 := lens_nonneg (dts ds)
  by_cases hbig : left - (n : Int) < 0
  · have hr := Lib.hid (show szT left (dts ds) = -1 by unfold szT; rw [if_pos (by rw [lt]; omega)])
    clear hx lx hs lt
    go_enter Tryd.func11, Tryd.ntmps11
    go_wp2
    go_ret
    exact ⟨ret_int hr.out.symm, Below.refl _ _⟩
  · rcases Nat.eq_zero_or_pos n with hz | hz
    · subst hz
      have hr := Lib.hid (show szT left (dts ds) = left by rw [List.eq_nil_of_length_eq_zero lt]; unfold szT lens; simp <;> omega)
      clear hx lx hs lt
      go_enter Tryd.func11, Tryd.ntmps11
      go_wp2
      refine wp_loop_rounds 1 ?_
      rw [rounds_succ]
      go_wp2
      go_ret
      exact ⟨ret_int (by rw [hr.out]; first | done | omega), Below.refl _ _⟩
    · obtain ⟨b, off, rfl, hbB, hc⟩ := hx.pos hz
      have HC := Lib.hid hc
      have HL := Lib.hid lt
      have HLD := Lib.hid lx
      have HS := Lib.hid hs
      clear hc hx lx hs lt
      go_enter Tryd.func11, Tryd.ntmps11
      go_wp2
      go_loopw [1, 5] (fun v i wr => ∃ (j : Nat) (u : Int), j ≤ n ∧ i = .int .i64 j ∧ v = .int .i64 u ∧ 0 ≤ u ∧ u ≤ 1048576 ∧ Hid (u = left - n - lens ((dts ds).take j)) ∧ Hid (Below w.heap.size w wr)) (fun _ i _ => n - (intOf i).toNat)
      case atStart => exact ⟨0, left - n, by omega, rfl, rfl, by omega, by omega, by simp [Hid, lens], Lib.hid (Below.refl _ _)⟩
      case round =>
        obtain ⟨j, u, hj, rfl, rfl, u0, u1, hu, HB⟩ := hrel
        by_cases hlt : j < n
        · obtain ⟨⟨dk, dn, s⟩, ed⟩ : ∃ D, ds[j]? = some D := ⟨_, List.getElem?_eq_getElem (by have := HLD.out; omega)⟩
          have es := dts_get ed
          dsimp only at es
          obtain ⟨q1, q2, q3⟩ := HC.out j _ ed
          have c1 : wr.cell? ⟨b, off + j * 3, none⟩ = some (.int .i64 dk) := (HB.out.cell (p := ⟨b, off + j * 3, none⟩) (show b < w.heap.size by omega)).trans q1
          have c2 : wr.cell? ⟨b, off + j * 3 + 1, none⟩ = some (.int .i64 dn) := (HB.out.cell (p := ⟨b, off + j * 3 + 1, none⟩) (show b < w.heap.size by omega)).trans q2
          have c3 : wr.cell? ⟨b, off + j * 3 + 2, none⟩ = some (.string (Ba s)) := (HB.out.cell (p := ⟨b, off + j * 3 + 2, none⟩) (show b < w.heap.size by omega)).trans q3
          have hm : s.length ≤ maxLen := HS.out _ (List.mem_of_getElem? ed)
          have hin : (j : Int) < n := by omega
          have hj0 : (0 : Int) ≤ j := by omega
          have HN := Lib.hid (lens_snoc es)
          have HT := Lib.hid (lens_take (dts ds) (j + 1))
          have CS := Lib.hid (fun w' => laws_szDeed dk dn u s w' u0 u1 hm)
          unfold deedV at CS
          obtain ⟨M, hM⟩ : ∃ M, M = szD u s := ⟨_, rfl⟩
          rw [← hM] at CS
          have HM := Lib.hid hM
          clear es ed q1 q2 q3 hM hm
          go_wp2_with fail
          refine (CS.out _).mono ?_
          rintro e w2 ⟨rfl, hb2⟩
          have HB2 := Lib.hid (HB.out.trans (hb2.mono HB.out.size))
          clear hb2 c1 c2 c3 CS
          by_cases hneg : M < 0
          · have hr := Lib.hid (show szT left (dts ds) = -1 by
              unfold szT
              have e1 := hu.out
              have e2 := HN.out
              have e3 := HT.out
              have e4 := HL.out
              have e5 := HM.out
              unfold szD at e5
              split at e5
              · rw [if_pos (by omega)]
              · omega)
            go_wp2_with fail
            go_ret
            exact ⟨ret_int hr.out.symm, HB2.out⟩
          · have hMu : M = u - s.length := by
              have e5 := HM.out
              unfold szD at e5
              split at e5 <;> omega
            have HMU := Lib.hid hMu
            have hm0 : 0 ≤ M := by omega
            have hm1 : M ≤ 1048576 := by omega
            clear hMu
            go_wp2_with fail
            go_roundw
            case rel => exact ⟨j + 1, M, by omega, by go_num, rfl, by omega, by omega, Lib.hid (by rw [HN.out, HMU.out, hu.out]; omega), HB2⟩
            case measure => simp [intOf]; omega
        · obtain rfl : j = n := by omega
          have hr := Lib.hid (show szT left (dts ds) = u by
            have e1 := hu.out
            have e4 := HL.out
            rw [List.take_of_length_le (by omega)] at e1
            unfold szT
            rw [if_neg (by omega)]
            omega)
          go_wp2_with fail
          go_ret
          exact ⟨ret_int hr.out.symm, HB.out⟩
/-- What a call that hands back its own deeds leaves. -/
def OwnDs (base : Nat) (xs : List Pl.Dd) (w : World) (e : Ending) (w' : World) : Prop :=
  ∃ A c, e = .returned (.slice A xs.length c) ∧ w'.ownsRow base 26 3 (.slice A xs.length c) xs.length (D3 xs) ∧ Below base w w'
theorem ownDs_n {base n : Nat} {xs : List Pl.Dd} {w w' : World} {e : Ending} (h : OwnDs base xs w e w') (hl : xs.length = n) :
    ∃ A c, e = .returned (.slice A n c) ∧ w'.ownsRow base 26 3 (.slice A n c) n (D3 xs) ∧ Below base w w' := by
  subst hl; exact h
theorem deed_info : (Tryd.prog.info? 26).map (fun i => (i.zero, i.size, i.bytes)) = some (some (.agg #[.int .i64 0, .int .i64 0, .string ByteArray.empty]), 3, 32) := by kernel_rfl
set_option maxRecDepth 100000 in
set_option maxHeartbeats 2000000 in
theorem laws_toDeedS (A : Option Addr) (n c B : Nat) (xs : List Pl.Dd) (w : World) (hx : RdD w B A n xs) (hB : B ≤ w.heap.size) (hn : n ≤ 1048576) :
    Calls Tryd.prog 13 #[.slice A n c] w (OwnDs w.heap.size xs w) := by
  have lx : xs.length = n := hx.1
  have hX := Lib.hid hx
  have hL := Lib.hid lx
  clear hx lx
  obtain ⟨i0, hi0, hz0, hz1, hz2⟩ := info_parts deed_info
  obtain ⟨w1, hrun, hown, hg⟩ := run_make_full (P := Tryd.prog) w w.heap.size 32 26 i0 _ 3 Tryd.underlying32 hi0 hz0 hz1 .i64 .i64 n (by rw [hz2]; omega) (by unfold maxLen; omega) (Nat.le_refl _)
  clear hi0 hz0 hz1 hz2
  have hz := hg.size
  go_enter Tryd.func13, Tryd.ntmps13
  go_wp2
  go_loopw [4] (fun i wr => ∃ (j : Nat) (ys : List Value), j ≤ n ∧ i = .int .i64 j ∧ Hid (ys.length = n * 3) ∧ Hid (∀ t : Nat, t < j * 3 → ys[t]? = (D3 xs)[t]?) ∧ wr.ownsRow w.heap.size 26 3 (.slice (some ⟨w.heap.size, 0, none⟩) n n) n ys ∧ Below w.heap.size w wr) (fun i _ => n - (intOf i).toNat)
  case atStart => exact ⟨0, _, by omega, rfl, Lib.hid hown.1, Lib.hid (fun t ht => absurd ht (by omega)), hown, (Below.refl _ _).grown hg (Nat.le_refl _) (fun k hk => by cases hk)⟩
  case round =>
    obtain ⟨j, ys, hj, rfl, HYL, HY, hown1, hb⟩ := hrel
    by_cases hlt : j < n
    · obtain ⟨b, off, rfl, hbl, hc⟩ := hX.out.pos (by omega)
      obtain ⟨⟨p, q, r⟩, ex⟩ : ∃ x, xs[j]? = some x := ⟨_, List.getElem?_eq_getElem (by have := hL.out; omega)⟩
      obtain ⟨u1, u2, u3⟩ := hc j _ ex
      have hbz := hb.size
      have c1 : wr.cell? ⟨b, off + j * 3, none⟩ = some (.int .i64 p) := (hb.cell (p := ⟨b, off + j * 3, none⟩) (show b < w.heap.size by omega)).trans u1
      have c2 : wr.cell? ⟨b, off + j * 3 + 1, none⟩ = some (.int .i64 q) := (hb.cell (p := ⟨b, off + j * 3 + 1, none⟩) (show b < w.heap.size by omega)).trans u2
      have c3 : wr.cell? ⟨b, off + j * 3 + 2, none⟩ = some (.string (Ba r)) := (hb.cell (p := ⟨b, off + j * 3 + 2, none⟩) (show b < w.heap.size by omega)).trans u3
      have EX := Lib.hid ex
      have hin : (j : Int) < (n : Int) := by omega
      have hj0 : (0 : Int) ≤ j := by omega
      have CT := Lib.hid (fun w' => laws_toDeed p q r w')
      unfold deedV at CT
      clear hc u1 u2 u3 ex
      go_wp2_with fail
      refine (CT.out _).mono ?_
      rintro e w2 ⟨rfl, hb2⟩
      have own2 := own_below hown1 hb2
      have HB2 := Lib.hid (below_step hb hb2 hbz)
      have d1 : w2.cell? ⟨w.heap.size, j * 3, none⟩ = some (ys[j * 3]'(by have := HYL.out; omega)) := by rw [own2.cellAt _ (by omega)]; exact List.getElem?_eq_getElem _
      have d2 : w2.cell? ⟨w.heap.size, j * 3 + 1, none⟩ = some (ys[j * 3 + 1]'(by have := HYL.out; omega)) := by rw [own2.cellAt _ (by omega)]; exact List.getElem?_eq_getElem _
      have d3 : w2.cell? ⟨w.heap.size, j * 3 + 2, none⟩ = some (ys[j * 3 + 2]'(by have := HYL.out; omega)) := by rw [own2.cellAt _ (by omega)]; exact List.getElem?_eq_getElem _
      have f1 : w2.frozen? ⟨w.heap.size, j * 3, none⟩ = false := own2.frozenAt _
      have f2 : w2.frozen? ⟨w.heap.size, j * 3 + 1, none⟩ = false := own2.frozenAt _
      have f3 : w2.frozen? ⟨w.heap.size, j * 3 + 2, none⟩ = false := own2.frozenAt _
      have s1 := own2.stored (j * 3) (.int .i64 p)
      have s2 := s1.1.stored (j * 3 + 1) (.int .i64 q)
      have s3 := s2.1.stored (j * 3 + 2) (.string (Ba r))
      have hz2 := HB2.out.size
      have hb3 : Below w.heap.size w _ := ((HB2.out.grown s1.2 (by omega) (fun q hq => by simp [Value.ownBlock] at hq; omega)).grown s2.2 (by simp [World.setCell]; omega) (fun q hq => by simp [Value.ownBlock] at hq; omega)).grown s3.2 (by simp [World.setCell]; omega) (fun q hq => by simp [Value.ownBlock] at hq; omega)
      have S3 := Lib.hid (And.intro s3.1 hb3)
      clear s1 s2 s3 hb3 c1 c2 c3 hb2 hb hown1 own2
      go_wp2
      go_roundw
      case rel =>
        refine ⟨j + 1, ((ys.set (j * 3) (.int .i64 p)).set (j * 3 + 1) (.int .i64 q)).set (j * 3 + 2) (.string (Ba r)), by omega, by go_num, Lib.hid (by simp [HYL.out]), Lib.hid (fun t ht => ?_), S3.out.1, S3.out.2⟩
        have hy := HYL.out
        obtain ⟨g1, g2, g3⟩ := D3_get xs j _ EX.out
        rw [List.getElem?_set, List.getElem?_set, List.getElem?_set]
        simp only [List.length_set]
        by_cases e3 : j * 3 + 2 = t
        · subst e3; rw [if_pos rfl, if_pos (by omega)]; exact g3.symm
        · rw [if_neg e3]
          by_cases e2 : j * 3 + 1 = t
          · subst e2; rw [if_pos rfl, if_pos (by omega)]; exact g2.symm
          · rw [if_neg e2]
            by_cases e1 : j * 3 = t
            · subst e1; rw [if_pos rfl, if_pos (by omega)]; exact g1.symm
            · rw [if_neg e1]; exact HY.out t (by omega)
      case measure => simp [intOf]; omega
    · have hjn : j = n := by omega
      subst hjn
      have hfin : ys = D3 xs := by
        apply List.ext_getElem?
        intro i
        rcases Nat.lt_or_ge i (j * 3) with hi | hi
        · exact HY.out i hi
        · rw [List.getElem?_eq_none (by have := HYL.out; omega), List.getElem?_eq_none (by rw [D3_len]; have := hL.out; omega)]
      have HF := Lib.hid hfin
      clear hfin
      go_wp2
      go_ret
      have h1 := hL.out
      subst h1
      exact ⟨_, _, rfl, by rw [← HF.out]; exact hown1, hb⟩
/-- The marks on n deeds, from the number k on. -/
def mkDs (k : Nat) : Nat → List Pl.Dd
  | 0 => []
  | n + 1 => mkDs k n ++ [⟨((k + 3 * n : Nat) : Int), ((k + 3 * n + 1 : Nat) : Int), mkT (k + 3 * n + 2)⟩]
theorem mkDs_len (k n : Nat) : (mkDs k n).length = n := by
  induction n with
  | zero => rfl
  | succ n ih => simp [mkDs, ih]
theorem mkDs_get (k : Nat) : ∀ (n j : Nat), j < n → (mkDs k n)[j]? = some ⟨((k + 3 * j : Nat) : Int), ((k + 3 * j + 1 : Nat) : Int), mkT (k + 3 * j + 2)⟩
  | n + 1, j, h => by
    show (mkDs k n ++ _)[j]? = _
    rcases Nat.lt_or_ge j n with h1 | h1
    · rw [List.getElem?_append_left (by rw [mkDs_len]; exact h1)]; exact mkDs_get k n j h1
    · obtain rfl : j = n := by omega
      rw [List.getElem?_append_right (by rw [mkDs_len]; omega), mkDs_len]; simp
set_option maxHeartbeats 2000000 in
theorem laws_markDeedS (base n c k : Nat) (A : Option Addr) (xs : List Value) (w : World) (hown : w.ownsRow base 26 3 (.slice A n c) n xs) (hn : n ≤ 10000000) (hk0 : 1 ≤ k) (hk1 : k ≤ 10000000) (hB : base ≤ w.heap.size) :
    Calls Tryd.prog 21 #[.slice A n c, .int .i64 k] w fun e w' => e = .returned (.int .i64 ((k + 3 * n : Nat) : Int)) ∧ w'.ownsRow base 26 3 (.slice A n c) n (D3 (mkDs k n)) ∧ w.grownBy w' (Value.slice A n c).ownBlock := by
  rcases Nat.eq_zero_or_pos n with h0 | h0
  · subst h0
    have hx : xs = [] := List.eq_nil_of_length_eq_zero (by have := hown.1; omega)
    subst hx
    go_enter Tryd.func21, Tryd.ntmps21
    go_wp2
    refine wp_loop_rounds 1 ?_
    rw [rounds_succ]
    go_wp2
    go_ret
    exact ⟨ret_int (by omega), hown, World.grownBy.refl w _⟩
  · obtain ⟨g, rfl, hg0⟩ : ∃ g, A = some ⟨g, 0, none⟩ ∧ base ≤ g := by
      rcases hown.2 with ⟨_, h1⟩ | ⟨g', cap, cur, hv, hgb, _⟩
      · omega
      · injection hv with h1 h2 h3
        exact ⟨g', h1, hgb⟩
    have hl := hown.1
    have HL := Lib.hid hl
    clear hl
    show Calls _ _ _ _ (fun e w' => _ ∧ _ ∧ w.grownBy w' (some g))
    go_enter Tryd.func21, Tryd.ntmps21
    go_wp2
    go_loopw [1, 5] (fun v i wr => ∃ (j q : Nat) (ys : List Value), j ≤ n ∧ i = .int .i64 j ∧ v = .int .i64 q ∧ Hid (q = k + 3 * j) ∧ Hid (ys.length = n * 3) ∧ Hid (∀ t : Nat, t < j * 3 → ys[t]? = (D3 (mkDs k n))[t]?) ∧ wr.ownsRow base 26 3 (.slice (some ⟨g, 0, none⟩) n c) n ys ∧ Hid (w.grownBy wr (some g))) (fun _ i _ => n - (intOf i).toNat)
    case atStart => exact ⟨0, k, xs, by omega, rfl, rfl, Lib.hid (by omega), Lib.hid (by have := HL.out; omega), Lib.hid (fun t ht => absurd ht (by omega)), hown, Lib.hid (World.grownBy.refl w _)⟩
    case round =>
      obtain ⟨j, q, ys, hj, rfl, rfl, HQ, HYL, HY, hown1, HGR⟩ := hrel
      have hq1 : q ≤ 40000000 := by have := HQ.out; omega
      by_cases hlt : j < n
      · have c1 : wr.cell? ⟨g, j * 3, none⟩ = some (ys[j * 3]'(by have := HYL.out; omega)) := by rw [hown1.cellAt _ (by omega)]; exact List.getElem?_eq_getElem _
        have c2 : wr.cell? ⟨g, j * 3 + 1, none⟩ = some (ys[j * 3 + 1]'(by have := HYL.out; omega)) := by rw [hown1.cellAt _ (by omega)]; exact List.getElem?_eq_getElem _
        have f1 : wr.frozen? ⟨g, j * 3, none⟩ = false := hown1.frozenAt _
        have f2 : wr.frozen? ⟨g, j * 3 + 1, none⟩ = false := hown1.frozenAt _
        have s1 := hown1.stored (j * 3) (.int .i64 q)
        have s2 := s1.1.stored (j * 3 + 1) (.int .i64 (q + 1))
        have hin : (j : Int) < (n : Int) := by omega
        have hj0 : (0 : Int) ≤ j := by omega
        obtain ⟨w2, hw2⟩ : ∃ w2, w2 = (wr.setCell ⟨g, j * 3, none⟩ (.int .i64 q)).setCell ⟨g, j * 3 + 1, none⟩ (.int .i64 (q + 1)) := ⟨_, rfl⟩
        have own2 : w2.ownsRow base 26 3 (.slice (some ⟨g, 0, none⟩) n c) n ((ys.set (j * 3) (.int .i64 q)).set (j * 3 + 1) (.int .i64 (q + 1))) := by rw [hw2]; exact s2.1
        have HG2 := Lib.hid (show w.grownBy w2 (some g) by rw [hw2]; exact HGR.out.trans (s1.2.trans s2.2))
        have hqi : (q : Int) + 1 + 1 = ((q + 2 : Nat) : Int) := by omega
        have CM := Lib.hid (fun w' => laws_markText (q + 2) w' (by omega) (by omega))
        rw [← hqi] at CM
        clear s1 s2 hqi
        go_upto_region 7 with (fail)
        rw [← hw2]
        clear hw2 c1 c2 f1 f2 hown1
        go_wp2_with fail
        refine (CM.out _).mono ?_
        rintro e w3 ⟨rfl, hb3⟩
        have own3 := own_below own2 hb3
        have HG3 := Lib.hid (HG2.out.trans (grown_of_below hb3 (some g)))
        have d3 : w3.cell? ⟨g, j * 3 + 2, none⟩ = some (((ys.set (j * 3) (.int .i64 q)).set (j * 3 + 1) (.int .i64 (q + 1)))[j * 3 + 2]'(by have := HYL.out; simp; omega)) := by rw [own3.cellAt _ (by omega)]; exact List.getElem?_eq_getElem _
        have f3 : w3.frozen? ⟨g, j * 3 + 2, none⟩ = false := own3.frozenAt _
        have S3 := Lib.hid (own3.stored (j * 3 + 2) (.string (Ba (mkT (q + 2)))))
        clear hb3 own2 own3 HG2 CM
        go_wp2_with fail
        go_roundw
        case rel =>
          refine ⟨j + 1, q + 3, ((ys.set (j * 3) (.int .i64 q)).set (j * 3 + 1) (.int .i64 (q + 1))).set (j * 3 + 2) (.string (Ba (mkT (q + 2)))), by omega, by go_num, by go_num, Lib.hid (by have := HQ.out; omega), Lib.hid (by simp [HYL.out]), Lib.hid (fun t ht => ?_), S3.out.1, Lib.hid (HG3.out.trans S3.out.2)⟩
          have hy := HYL.out
          have hq := HQ.out
          obtain ⟨g1, g2, g3⟩ := D3_get (mkDs k n) j _ (mkDs_get k n j hlt)
          rw [List.getElem?_set, List.getElem?_set, List.getElem?_set]
          simp only [List.length_set]
          by_cases e3 : j * 3 + 2 = t
          · subst e3; rw [if_pos rfl, if_pos (by omega), hq]; exact g3.symm
          · rw [if_neg e3]
            by_cases e2 : j * 3 + 1 = t
            · subst e2; rw [if_pos rfl, if_pos (by omega), hq]; exact g2.symm
            · rw [if_neg e2]
              by_cases e1 : j * 3 = t
              · subst e1; rw [if_pos rfl, if_pos (by omega), hq]; exact g1.symm
              · rw [if_neg e1]; exact HY.out t (by omega)
        case measure => simp [intOf]; omega
      · have hjn : j = n := by omega
        subst hjn
        have hfin : ys = D3 (mkDs k j) := by
          apply List.ext_getElem?
          intro i
          rcases Nat.lt_or_ge i (j * 3) with hi | hi
          · exact HY.out i hi
          · rw [List.getElem?_eq_none (by have := HYL.out; omega), List.getElem?_eq_none (by rw [D3_len, mkDs_len]; omega)]
        have HF := Lib.hid hfin
        have HQI := Lib.hid (show (q : Int) = ((k + 3 * j : Nat) : Int) by rw [HQ.out])
        clear hfin
        go_wp2_with fail
        go_ret
        exact ⟨ret_int HQI.out, by rw [← HF.out]; exact hown1, HGR.out⟩
end Go.Proofs.YtamhpgledbmnoaaDoor
