/-
  The reference's ShortFor.
  Conditions: as stated at each.
-/
import Derived.Test.YtamhpgledbmnoaaGreatDoorKH
namespace Go.Proofs.YtamhpgledbmnoaaGreatDoor
set_option linter.unusedVariables false
set_option linter.unusedSimpArgs false
open Go.RowKit
theorem nones_at {k : Nat} {x : Int} (ex : Pl.lvs[k]? = some x) : Pl.nones[k]? = some [x] := by
  rcases k with _ | _ | _ | _ | k
  all_goals simp [Pl.lvs] at ex
  all_goals subst ex; rfl
set_option maxRecDepth 100000 in
set_option maxHeartbeats 16000000 in
theorem spec_ShortFor (A : Option Addr) (n c B0 : Nat) (xs : List Int) (w : World) (hx : Rd w B0 A n (I64 xs)) (hB0 : B0 ≤ w.heap.size) (hn : n ≤ 1000000000000) :
    Calls Tryz.prog 63 #[.slice A n c] w (OutSh ((Pl.shortFor xs).getD []) (Pl.shortFor xs).isSome w) := by
  have cv := fun w' => spec_ExprValid A n c B0 xs w'
  cases he : Pl.exprValid xs
  · have hr := Lib.hid (Pl.short_f he)
    rw [he] at cv
    clear he
    go_enter Tryz.func63, Tryz.ntmps63
    go_wp2_with fail
    refine (cv _ hx hn).mono ?_
    rintro e w' ⟨rfl, rfl⟩
    go_wp2_with fail
    go_ret2
    rw [hr.out]
    exact ⟨_, 0, rfl, World.ownsRow_made w #[] 0 (Nat.le_refl _) (by simp [maxLen]) rfl, (Below.refl _ _).alloc (Nat.le_refl _) _⟩
  rw [he] at cv
  have HE := Lib.hid he
  have HX := Lib.hid hx
  clear he hx
  obtain ⟨B, hB⟩ : ∃ B, w.heap.size = B := ⟨_, rfl⟩
  obtain ⟨w1, hw1⟩ : ∃ w1, w1 = ((w.alloc (.cells #[.int .i64 0, .int .i64 1, .int .i64 10, .int .i64 11] 3)).alloc (.cells #[] 41)).alloc (.cells #[] 41) := ⟨_, rfl⟩
  have HL := Lib.hid (show ∀ (j : Nat) (x : Int), Pl.lvs[j]? = some x → w1.cell? ⟨B, j, none⟩ = some (.int .i64 x) from fun j x h => by
    rw [hw1, ← hB, World.cell?_alloc_lt _ _ ⟨w.heap.size, j, none⟩ (by simp; omega), World.cell?_alloc_lt _ _ ⟨w.heap.size, j, none⟩ (by simp)]
    exact leaf_cells w j x h)
  have hz1 : w1.heap.size = B + 3 := by rw [hw1, ← hB]; simp
  have HB01 : Below B w w1 := by rw [hw1]; exact (((Below.refl B w).alloc (by omega) _).alloc (by simp; omega) _).alloc (by simp; omega) _
  have HT0 : Two w1 B (.slice (some ⟨B + 1, 0, none⟩) 0 0) (.slice (some ⟨B + 2, 0, none⟩) 0 0) [] [] := by
    refine ⟨⟨[], ?_, .nil⟩, ⟨[], ?_, .nil⟩, fun k h1 h2 => ?_⟩
    · rw [hw1]
      have := World.ownsRow_made (base := B + 1) (e := 41) (size := 1) (w.alloc (.cells #[.int .i64 0, .int .i64 1, .int .i64 10, .int .i64 11] 3)) #[] 0 (by simp; omega) (by simp [maxLen]) rfl
      simp only [World.size_alloc, hB] at this
      exact this.alloc _
    · rw [hw1]
      have := World.ownsRow_made (base := B + 1) (e := 41) (size := 1) ((w.alloc (.cells #[.int .i64 0, .int .i64 1, .int .i64 10, .int .i64 11] 3)).alloc (.cells #[] 41)) #[] 0 (by simp; omega) (by simp [maxLen]) rfl
      simp only [World.size_alloc, hB] at this
      exact this
    · simp [Value.ownBlock] at h1 h2; omega
  have HT0 := Lib.hid HT0
  go_enter Tryz.func63, Tryz.ntmps63
  go_wp2_with fail
  refine (cv _ HX.out hn).mono ?_
  rintro e w' ⟨rfl, rfl⟩
  go_wp2_with fail
  rw [← hw1]
  clear hw1
  go_loopw [6, 7] (fun v i wr => ∃ k : Nat, k ≤ 4 ∧ i = .int .i64 k ∧ Two wr B (.slice (some ⟨B + 1, 0, none⟩) 0 0) v [] (Pl.nones.take k) ∧ Below (B + 1) w1 wr) (fun _ i _ => 4 - (intOf i).toNat)
  case atStart => exact ⟨0, by omega, rfl, HT0.out, Below.refl _ _⟩
  case round =>
    obtain ⟨k, hk, rfl, hrow, hb⟩ := hrel
    have hz := hb.size
    by_cases hlt : k < 4
    · obtain ⟨x, ex⟩ : ∃ x, Pl.lvs[k]? = some x := ⟨_, List.getElem?_eq_getElem (show k < Pl.lvs.length from hlt)⟩
      have c1 : wr.cell? ⟨B, k, none⟩ = some (.int .i64 x) := (hb.cell (p := ⟨B, k, none⟩) (show B < B + 1 by omega)).trans (HL.out k x ex)
      have HN := Lib.hid (Pl.take_snocL (nones_at ex))
      have hle : (Pl.nones.take k).length ≤ 4 := by rw [List.length_take]; omega
      have hkn : (k : Int) < 4 := by omega
      have hk0 : (0 : Int) ≤ k := by omega
      have hrow1 := hrow.below (w' := wr.alloc (.cells #[.int .i64 x] 3)) ((Below.refl _ _).alloc (Nat.le_refl _) _)
      clear ex
      go_wp2_with (at_builtin; go_must (refine app_row (w := wr.alloc (.cells #[.int .i64 x] 3)) rfl (.tmp 33) (.tmp 39) rfl (B + 1) B _ _ [x] _ 1 1 rfl hrow1.2.1 (own_lit1 wr x (by omega) rfl) _ (by simp) rfl (by omega) (by simp; omega) (by omega) ?_; intro v2 w2 hrow2 hb2 hg2 hl2))
      have hrow3 := (hrow1.swap.push hrow2 hg2 hl2 (by omega)).swap
      go_roundw
      case rel => exact ⟨k + 1, by omega, by go_num, by rw [HN.out]; exact hrow3, (hb.alloc (by omega) _).trans hb2⟩
      case measure => simp [intOf]; omega
    · obtain rfl : k = 4 := by omega
      rw [show ((4 : Nat) : Int) = 4 from rfl]
      obtain ⟨Aa, ca, rfl, hca, _⟩ := hrow.2.1.n (F := Pl.nones) (n := 4) rfl rfl
      obtain ⟨w2, hw2⟩ : ∃ w2, w2 = wr := ⟨_, rfl⟩
      rw [← hw2] at hrow hb hz ⊢
      have HB02 := HB01.trans (hb.mono (by omega))
      have HL2 := Lib.hid (fun j x h => (hb.cell (p := ⟨B, j, none⟩) (show B < B + 1 by omega)).trans (HL.out j x h))
      have HT := Lib.hid (show Two w2 B (.slice (some ⟨B + 1, 0, none⟩) 0 0) (.slice Aa 4 ca) ((Pl.nones.take 0).flatMap Pl.uns) Pl.nones from hrow)
      have hz2 : B + 3 ≤ w2.heap.size := by omega
      clear hrow hw2 hk hlt hz hb
      go_wp2_with fail
      go_loopw [5, 8] (fun v i wr => ∃ k : Nat, k ≤ 4 ∧ i = .int .i64 k ∧ Two wr B v (.slice Aa 4 ca) ((Pl.nones.take k).flatMap Pl.uns) Pl.nones ∧ Below (B + 1) w2 wr) (fun _ i _ => 4 - (intOf i).toNat)
      case atStart => exact ⟨0, by omega, rfl, HT.out, Below.refl _ _⟩
      case round =>
        obtain ⟨k, hk, rfl, hrow, hb⟩ := hrel
        have hz := hb.size
        by_cases hlt : k < 4
        · obtain ⟨x, ex⟩ : ∃ x, Pl.lvs[k]? = some x := ⟨_, List.getElem?_eq_getElem (show k < Pl.lvs.length from hlt)⟩
          have hle := Pl.flat_take Pl.uns 3 Pl.uns_len Pl.nones k
          rw [Pl.nones_len'] at hle
          have hkn : (k : Int) < 4 := by omega
          have hk0 : (0 : Int) ≤ k := by omega
          have EX := Lib.hid ex
          have HEx := Lib.hid (Pl.flat_snoc Pl.uns (nones_at ex))
          clear ex
          go_wp2_with fail
          go_loopw [5, 9] (fun v i wr => ∃ s : Nat, s ≤ 3 ∧ i = .int .i64 (12 + (s : Int)) ∧ Two wr B v (.slice Aa 4 ca) (((Pl.nones.take k).flatMap Pl.uns) ++ Pl.unsTo [x] s) Pl.nones ∧ Below (B + 1) w2 wr) (fun _ i _ => 15 - (intOf i).toNat)
          case atStart => exact ⟨0, by omega, rfl, by simpa [Pl.unsTo] using hrow, hb⟩
          case round =>
            obtain ⟨s, hs, rfl, hrow2, hb2⟩ := hrel
            have hz2 := hb2.size
            by_cases hls : s < 3
            · have hsn : (12 : Int) + (s : Int) ≤ 14 := by omega
              have HS := Lib.hid (Pl.unsTo_succ [x] s)
              have hle2 := Pl.unsTo_len [x] s
              have c1 : wr.cell? ⟨B, k, none⟩ = some (.int .i64 x) := (hb2.cell (p := ⟨B, k, none⟩) (show B < B + 1 by omega)).trans (HL2.out k x EX.out)
              have hrow1 := hrow2.below (w' := wr.alloc (.cells #[.int .i64 x, .int .i64 (12 + (s : Int))] 3)) ((Below.refl _ _).alloc (Nat.le_refl _) _)
              go_wp2_with (at_builtin; go_must (refine app_row (w := wr.alloc (.cells #[.int .i64 x, .int .i64 (12 + (s : Int))] 3)) rfl (.tmp 49) (.tmp 56) rfl (B + 1) B _ _ [x, 12 + (s : Int)] _ 2 2 rfl hrow1.1 (own_lit2 wr x (12 + (s : Int)) (by omega) rfl) _ (by simp) rfl (by simp only [List.length_append]; omega) (by simp; omega) (by omega) ?_; intro v4 w4 hrow4 hb4 hg4 hl4))
              have hrow3 := hrow1.push hrow4 hg4 hl4 (by omega)
              have hbx := (hb2.alloc (by omega) _).trans hb4
              go_roundw
              case rel => exact ⟨s + 1, by omega, by go_num, by rw [HS.out, ← List.append_assoc]; exact hrow3, hbx⟩
              case measure => simp [intOf]; omega
            · obtain rfl : s = 3 := by omega
              go_wp2_with fail
              go_roundw
              case rel => exact ⟨k + 1, by omega, by go_num, by rw [HEx.out]; simpa [List.append_assoc, Pl.uns] using hrow2, hb2⟩
              case measure => simp [intOf]; omega
        · obtain rfl : k = 4 := by omega
          rw [show ((4 : Nat) : Int) = 4 from rfl]
          obtain ⟨w3, hw3⟩ : ∃ w3, w3 = wr := ⟨_, rfl⟩
          rw [← hw3] at hrow hb hz ⊢
          have HT3 := Lib.hid (show Two w3 B u5 (.slice Aa 4 ca) (Pl.nones.flatMap Pl.uns ++ (Pl.nones.take 0).flatMap Pl.binsL) Pl.nones by rw [Pl.flat_all Pl.uns (Nat.le_of_eq Pl.nones_len')] at hrow; simpa using hrow)
          have HB03 := HB02.trans (hb.mono (by omega))
          have HL3 := Lib.hid (fun j x h => (hb.cell (p := ⟨B, j, none⟩) (show B < B + 1 by omega)).trans (HL2.out j x h))
          have hz3 : B + 3 ≤ w3.heap.size := by omega
          have hu12 := Pl.flat_len Pl.uns 3 Pl.uns_len Pl.nones
          rw [Pl.nones_len'] at hu12
          clear hrow hw3 hk hlt hz hb
          go_wp2_with fail
          go_loopw [5, 10] (fun v i wr => ∃ k : Nat, k ≤ 4 ∧ i = .int .i64 k ∧ Two wr B v (.slice Aa 4 ca) (Pl.nones.flatMap Pl.uns ++ (Pl.nones.take k).flatMap Pl.binsL) Pl.nones ∧ Below (B + 1) w3 wr) (fun _ i _ => 4 - (intOf i).toNat)
          case atStart => exact ⟨0, by omega, rfl, HT3.out, Below.refl _ _⟩
          case round =>
            obtain ⟨k, hk, rfl, hrow, hb⟩ := hrel
            have hz := hb.size
            by_cases hlt : k < 4
            · obtain ⟨x, ex⟩ : ∃ x, Pl.lvs[k]? = some x := ⟨_, List.getElem?_eq_getElem (show k < Pl.lvs.length from hlt)⟩
              have hle := Pl.flat_take Pl.binsL 20 Pl.binsL_len Pl.nones k
              rw [Pl.nones_len'] at hle
              have hkn : (k : Int) < 4 := by omega
              have hk0 : (0 : Int) ≤ k := by omega
              have EX := Lib.hid ex
              have HEx := Lib.hid (Pl.flat_snoc Pl.binsL (nones_at ex))
              clear ex
              go_wp2_with fail
              go_loopw [5, 11] (fun v i wr => ∃ j : Nat, j ≤ 4 ∧ i = .int .i64 j ∧ Two wr B v (.slice Aa 4 ca) ((Pl.nones.flatMap Pl.uns ++ (Pl.nones.take k).flatMap Pl.binsL) ++ (Pl.lvs.take j).flatMap (Pl.bins [x])) Pl.nones ∧ Below (B + 1) w3 wr) (fun _ i _ => 4 - (intOf i).toNat)
              case atStart => exact ⟨0, by omega, rfl, by simpa using hrow, hb⟩
              case round =>
                obtain ⟨j, hj, rfl, hrow1, hb1⟩ := hrel
                have hz1' := hb1.size
                by_cases hlj : j < 4
                · obtain ⟨y, ey⟩ : ∃ x, Pl.lvs[j]? = some x := ⟨_, List.getElem?_eq_getElem (show j < Pl.lvs.length from hlj)⟩
                  have hlej := Pl.flat_take (Pl.bins [x]) 5 (Pl.bins_len [x]) Pl.lvs j
                  have hl4 : Pl.lvs.length = 4 := rfl
                  have hjn : (j : Int) < 4 := by omega
                  have hj0 : (0 : Int) ≤ j := by omega
                  have EY := Lib.hid ey
                  have HJ := Lib.hid (Pl.flat_snoc (Pl.bins [x]) ey)
                  clear ey
                  go_wp2_with fail
                  go_loopw [5, 12] (fun v i wr => ∃ s : Nat, s ≤ 5 ∧ i = .int .i64 (15 + (s : Int)) ∧ Two wr B v (.slice Aa 4 ca) (((Pl.nones.flatMap Pl.uns ++ (Pl.nones.take k).flatMap Pl.binsL) ++ (Pl.lvs.take j).flatMap (Pl.bins [x])) ++ Pl.binsTo [x] y s) Pl.nones ∧ Below (B + 1) w3 wr) (fun _ i _ => 20 - (intOf i).toNat)
                  case atStart => exact ⟨0, by omega, rfl, by simpa [Pl.binsTo] using hrow1, hb1⟩
                  case round =>
                    obtain ⟨s, hs, rfl, hrow2, hb2⟩ := hrel
                    have hz2 := hb2.size
                    by_cases hls : s < 5
                    · have hsn : (15 : Int) + (s : Int) ≤ 19 := by omega
                      have HS := Lib.hid (Pl.binsTo_succ [x] y s)
                      have hle2 := Pl.binsTo_len [x] y s
                      have c1 : wr.cell? ⟨B, k, none⟩ = some (.int .i64 x) := (hb2.cell (p := ⟨B, k, none⟩) (show B < B + 1 by omega)).trans (HL3.out k x EX.out)
                      have c2 : wr.cell? ⟨B, j, none⟩ = some (.int .i64 y) := (hb2.cell (p := ⟨B, j, none⟩) (show B < B + 1 by omega)).trans (HL3.out j y EY.out)
                      have hrow1 := hrow2.below (w' := wr.alloc (.cells #[.int .i64 x, .int .i64 y, .int .i64 (15 + (s : Int))] 3)) ((Below.refl _ _).alloc (Nat.le_refl _) _)
                      have hrow1 := hrow1.below (w' := (wr.alloc (.cells #[.int .i64 x, .int .i64 y, .int .i64 (15 + (s : Int))] 3)).alloc (.cells #[.slice (some ⟨wr.heap.size, 0, none⟩) 3 3] 41)) ((Below.refl _ _).alloc (Nat.le_refl _) _)
                      have own3 := (own_lit3 wr x y (15 + (s : Int)) (B := B) (by omega) rfl).alloc (.cells #[.slice (some ⟨wr.heap.size, 0, none⟩) 3 3] 41)
                      go_wp2_with fail
                      go_region_law ((refine step_row rfl (.tmp 70) (.tmp 81) rfl (B + 1) B u5 _ [x, y, 15 + (s : Int)] (some ⟨wr.heap.size, 0, none⟩) 3 3 ⟨wr.heap.size + 1, 0, none⟩ (by simp [Act.eval, Act.put]) (by simp [Act.eval, Act.put]) (by exact hrow1.1) (by exact own3) (by go_simp) (by simp only [List.length_append]; omega) (by go_simp; omega) (by omega) ?_; intro v4 w4 hrow4 hb4 hg4 hl4))
                      all_goals go_wp2
                      all_goals (
                        have hrow3 := hrow1.drew.push (w' := w4) hrow4 hg4 hl4 (Nat.le_refl _)
                        have hbx := ((hb2.alloc (by omega) (.cells #[.int .i64 x, .int .i64 y, .int .i64 (15 + (s : Int))] 3)).alloc (by simp; omega) (.cells #[.slice (some ⟨wr.heap.size, 0, none⟩) 3 3] 41)).drew.trans hb4
                        exact ⟨⟨s + 1, by omega, by go_num, by rw [HS.out, ← List.append_assoc]; exact hrow3, hbx⟩, by simp [intOf]; omega⟩)
                    · obtain rfl : s = 5 := by omega
                      go_wp2_with fail
                      go_roundw
                      case rel => exact ⟨j + 1, by omega, by go_num, by rw [HJ.out]; simpa [List.append_assoc, Pl.bins] using hrow2, hb2⟩
                      case measure => simp [intOf]; omega
                · obtain rfl : j = 4 := by omega
                  go_wp2_with fail
                  go_roundw
                  case rel => exact ⟨k + 1, by omega, by go_num, by rw [HEx.out]; simpa [List.append_assoc, Pl.binsL, Pl.lvs] using hrow1, hb1⟩
                  case measure => simp [intOf]; omega
            · obtain rfl : k = 4 := by omega
              rw [show ((4 : Nat) : Int) = 4 from rfl]
              obtain ⟨w4, hw4⟩ : ∃ w4, w4 = wr := ⟨_, rfl⟩
              rw [← hw4] at hrow hb hz ⊢
              have hT4 : Two w4 B u5 (.slice Aa 4 ca) Pl.onces Pl.nones := by rw [Pl.flat_all Pl.binsL (Nat.le_of_eq Pl.nones_len')] at hrow; exact hrow
              obtain ⟨Ao, co, rfl, hco, _⟩ := hT4.1.n (F := Pl.onces) (n := 92) rfl Pl.onces_len
              have HB04 := HB03.trans (hb.mono (by omega))
              have HL4 := Lib.hid (fun j x h => (hb.cell (p := ⟨B, j, none⟩) (show B < B + 1 by omega)).trans (HL3.out j x h))
              have hz4 : B + 3 ≤ w4.heap.size := by omega
              have hol := Pl.onces_len'
              have hnl := Pl.nones_len'
              clear hrow hw4 hk hlt hz hb
              go_wp2_with (at_builtin; go_must (refine app_rows rfl (.tmp 83) (.tmp 84) rfl (B + 1) (B + 1) B (.slice Aa 4 ca) Pl.nones Pl.onces _ 92 _ rfl hT4.2.1 rfl hT4.1 (by omega) (by omega) (by omega) (by omega) ?_; intro v5 w5 hrow5 hb5 hg5 hl5))
              have hT5 := (hT4.swap.push hrow5 hg5 hl5 (Nat.le_refl _)).swap
              have HB05 := HB04.trans (hb5.mono (by omega))
              have HL5 := Lib.hid (fun j x h => (hb5.cell (p := ⟨B, j, none⟩) (show B < B + 1 by omega)).trans (HL4.out j x h))
              have hz5 : B + 3 ≤ w5.heap.size := by have := hb5.size; omega
              obtain ⟨go, _, _, rfl, _⟩ := hT5.1.get (k := 0) (e := [0, 12]) (by decide)
              have HT5 := Lib.hid (show Two w5 B (.slice (some ⟨go, 0, none⟩) 92 co) v5 Pl.onces ((Pl.nones ++ Pl.onces) ++ (Pl.onces.take 0).flatMap Pl.uns) by simpa using hT5)
              clear hT4 hT5 hrow5 hb5 hg5 hl5
              go_loopw [6, 13] (fun v i wr => ∃ k : Nat, k ≤ 92 ∧ i = .int .i64 k ∧ Two wr B (.slice (some ⟨go, 0, none⟩) 92 co) v Pl.onces ((Pl.nones ++ Pl.onces) ++ (Pl.onces.take k).flatMap Pl.uns) ∧ Below (B + 1) w5 wr) (fun _ i _ => 92 - (intOf i).toNat)
              case atStart => exact ⟨0, by omega, rfl, HT5.out, Below.refl _ _⟩
              case round =>
                obtain ⟨k, hk, rfl, hrow, hb⟩ := hrel
                have hz := hb.size
                by_cases hlt : k < 92
                · obtain ⟨e, he, hem⟩ := Pl.at_of (L := Pl.onces) (n := 92) Pl.onces_len' hlt
                  obtain ⟨he0, he1⟩ := Pl.onces_mem hem
                  have hle := Pl.flat_take Pl.uns 3 Pl.uns_len Pl.onces k
                  rw [Pl.onces_len'] at hle
                  have hkn : (k : Int) < 92 := by omega
                  have hk0 : (0 : Int) ≤ k := by omega
                  have HO := Lib.hid he
                  have HEx := Lib.hid (Pl.flat_snoc Pl.uns he)
                  clear he hem
                  go_wp2_with fail
                  go_loopw [6, 14] (fun v i wr => ∃ s : Nat, s ≤ 3 ∧ i = .int .i64 (12 + (s : Int)) ∧ Two wr B (.slice (some ⟨go, 0, none⟩) 92 co) v Pl.onces (((Pl.nones ++ Pl.onces) ++ (Pl.onces.take k).flatMap Pl.uns) ++ Pl.unsTo e s) ∧ Below (B + 1) w5 wr) (fun _ i _ => 15 - (intOf i).toNat)
                  case atStart => exact ⟨0, by omega, rfl, by simpa [Pl.unsTo] using hrow, hb⟩
                  case round =>
                    obtain ⟨s, hs, rfl, hrow2, hb2⟩ := hrel
                    have hz2 := hb2.size
                    by_cases hls : s < 3
                    · have hsn : (12 : Int) + (s : Int) ≤ 14 := by omega
                      have HS := Lib.hid (Pl.unsTo_succ e s)
                      have hle2 := Pl.unsTo_len e s
                      obtain ⟨g', Ae, ce, e1, hg, c1, own1⟩ := hrow2.1.get HO.out
                      injection e1 with e1
                      injection e1 with e1 _ _
                      subst e1
                      obtain ⟨ge, rfl, _, _⟩ := own_some own1 (by omega)
                      have hrow2a := Lib.hid hrow2
                      clear hrow2
                      go_wp2_with (at_builtin; first
                        | (refine app_list rfl (.tmp 97) (.tmp 101) rfl wr.heap.size (.slice (some ⟨wr.heap.size, 0, none⟩) 0 0) 0 [] rfl (World.ownsRow_made wr #[] 0 (Nat.le_refl _) (by simp [maxLen]) rfl) ge e.length ce e B rfl (own1.alloc _) (by omega) (by omega) (by simp) ?_; intro v2 w2 own2 hb3; simp only [Nat.zero_add, List.nil_append] at own2; have hz3 := hb3.size; simp at hz3)
                        | (refine app_list rfl (.tmp 102) (.tmp 104) rfl wr.heap.size v2 e.length e rfl (own2.alloc _) w2.heap.size 1 1 [12 + (s : Int)] B rfl (own_lit1 w2 (12 + (s : Int)) (by omega) rfl) (by omega) (by omega) (by simp; omega) ?_; intro v3 w3 own3 hb4; obtain ⟨A3, c3, rfl, _, _⟩ := Rd.of_own own3; have hz4 := hb4.size; simp at hz4; have hbw : Below wr.heap.size wr w3 := ((((Below.refl _ _).alloc (Nat.le_refl _) _).trans hb3).alloc (by omega) _).trans hb4; have hrow2b := hrow2a.out.below hbw)
                        | (refine app_row (w := w3) rfl (.tmp 96) (.tmp 106) rfl (B + 1) B u6 _ (e ++ [12 + (s : Int)]) A3 _ c3 rfl hrow2b.2.1 (own3.mono (base' := B) (by omega)) _ rfl rfl (by simp only [List.length_append]; omega) (by omega) (by omega) ?_; intro v4 w4 hrow4 hb5 hg5 hl5))
                      have hrow3 := (hrow2b.swap.push hrow4 hg5 hl5 (by omega)).swap
                      have hbx := (hb2.trans (hbw.mono (by omega))).trans hb5
                      go_roundw
                      case rel => exact ⟨s + 1, by omega, by go_num, by rw [HS.out, ← List.append_assoc]; exact hrow3, hbx⟩
                      case measure => simp [intOf]; omega
                    · obtain rfl : s = 3 := by omega
                      go_wp2_with fail
                      go_roundw
                      case rel => exact ⟨k + 1, by omega, by go_num, by rw [HEx.out]; simpa [List.append_assoc, Pl.uns] using hrow2, hb2⟩
                      case measure => simp [intOf]; omega
                · obtain rfl : k = 92 := by omega
                  rw [show ((92 : Nat) : Int) = 92 from rfl]
                  obtain ⟨w6, hw6⟩ : ∃ w6, w6 = wr := ⟨_, rfl⟩
                  rw [← hw6] at hrow hb hz ⊢
                  have HT6 := Lib.hid (show Two w6 B (.slice (some ⟨go, 0, none⟩) 92 co) u6 Pl.onces ((Pl.nones ++ Pl.onces) ++ (Pl.onces.flatMap Pl.uns ++ (Pl.onces.take 0).flatMap Pl.binsL)) by rw [Pl.flat_all Pl.uns (Nat.le_of_eq Pl.onces_len')] at hrow; simpa using hrow)
                  have HB06 := HB05.trans (hb.mono (by omega))
                  have HL6 := Lib.hid (fun j x h => (hb.cell (p := ⟨B, j, none⟩) (show B < B + 1 by omega)).trans (HL5.out j x h))
                  have hz6 : B + 3 ≤ w6.heap.size := by omega
                  have hu13 := Pl.flat_len Pl.uns 3 Pl.uns_len Pl.onces
                  rw [Pl.onces_len'] at hu13
                  clear hrow hw6 hk hlt hz hb
                  go_wp2_with fail
                  go_loopw [6, 15] (fun v i wr => ∃ k : Nat, k ≤ 92 ∧ i = .int .i64 k ∧ Two wr B (.slice (some ⟨go, 0, none⟩) 92 co) v Pl.onces ((Pl.nones ++ Pl.onces) ++ (Pl.onces.flatMap Pl.uns ++ (Pl.onces.take k).flatMap Pl.binsL)) ∧ Below (B + 1) w6 wr) (fun _ i _ => 92 - (intOf i).toNat)
                  case atStart => exact ⟨0, by omega, rfl, HT6.out, Below.refl _ _⟩
                  case round =>
                    obtain ⟨k, hk, rfl, hrow, hb⟩ := hrel
                    have hz := hb.size
                    by_cases hlt : k < 92
                    · obtain ⟨e, he, hem⟩ := Pl.at_of (L := Pl.onces) (n := 92) Pl.onces_len' hlt
                      obtain ⟨he0, he1⟩ := Pl.onces_mem hem
                      have hle := Pl.flat_take Pl.binsL 20 Pl.binsL_len Pl.onces k
                      rw [Pl.onces_len'] at hle
                      have hkn : (k : Int) < 92 := by omega
                      have hk0 : (0 : Int) ≤ k := by omega
                      have HO := Lib.hid he
                      have HEx := Lib.hid (Pl.flat_snoc Pl.binsL he)
                      clear he hem
                      go_wp2_with fail
                      go_loopw [6, 16] (fun v i wr => ∃ j : Nat, j ≤ 4 ∧ i = .int .i64 j ∧ Two wr B (.slice (some ⟨go, 0, none⟩) 92 co) v Pl.onces (((Pl.nones ++ Pl.onces) ++ (Pl.onces.flatMap Pl.uns ++ (Pl.onces.take k).flatMap Pl.binsL)) ++ (Pl.lvs.take j).flatMap (Pl.bins e)) ∧ Below (B + 1) w6 wr) (fun _ i _ => 4 - (intOf i).toNat)
                      case atStart => exact ⟨0, by omega, rfl, by simpa using hrow, hb⟩
                      case round =>
                        obtain ⟨j, hj, rfl, hrow1, hb1⟩ := hrel
                        have hz1' := hb1.size
                        by_cases hlj : j < 4
                        · obtain ⟨y, ey⟩ : ∃ x, Pl.lvs[j]? = some x := ⟨_, List.getElem?_eq_getElem (show j < Pl.lvs.length from hlj)⟩
                          have hlej := Pl.flat_take (Pl.bins e) 5 (Pl.bins_len e) Pl.lvs j
                          have hl4 : Pl.lvs.length = 4 := rfl
                          have hjn : (j : Int) < 4 := by omega
                          have hj0 : (0 : Int) ≤ j := by omega
                          have EY := Lib.hid ey
                          have HJ := Lib.hid (Pl.flat_snoc (Pl.bins e) ey)
                          clear ey
                          go_wp2_with fail
                          go_loopw [6, 17] (fun v i wr => ∃ s : Nat, s ≤ 5 ∧ i = .int .i64 (15 + (s : Int)) ∧ Two wr B (.slice (some ⟨go, 0, none⟩) 92 co) v Pl.onces ((((Pl.nones ++ Pl.onces) ++ (Pl.onces.flatMap Pl.uns ++ (Pl.onces.take k).flatMap Pl.binsL)) ++ (Pl.lvs.take j).flatMap (Pl.bins e)) ++ Pl.binsTo e y s) ∧ Below (B + 1) w6 wr) (fun _ i _ => 20 - (intOf i).toNat)
                          case atStart => exact ⟨0, by omega, rfl, by simpa [Pl.binsTo] using hrow1, hb1⟩
                          case round =>
                            obtain ⟨s, hs, rfl, hrow2, hb2⟩ := hrel
                            have hz2 := hb2.size
                            by_cases hls : s < 5
                            · have hsn : (15 : Int) + (s : Int) ≤ 19 := by omega
                              have HS := Lib.hid (Pl.binsTo_succ e y s)
                              have hle2 := Pl.binsTo_len e y s
                              have c2 : wr.cell? ⟨B, j, none⟩ = some (.int .i64 y) := (hb2.cell (p := ⟨B, j, none⟩) (show B < B + 1 by omega)).trans (HL6.out j y EY.out)
                              obtain ⟨g', Ae, ce, e1, hg, c1, own1⟩ := hrow2.1.get HO.out
                              injection e1 with e1
                              injection e1 with e1 _ _
                              subst e1
                              obtain ⟨ge, rfl, _, _⟩ := own_some own1 (by omega)
                              have hrow2a := Lib.hid hrow2
                              clear hrow2
                              go_wp2_with fail
                              obtain ⟨wm, hwm⟩ : ∃ wm, wm = wr.alloc (.cells #[] 3) := ⟨_, rfl⟩
                              obtain ⟨wl, hwl⟩ : ∃ wl, wl = wr.alloc (.cells #[.int .i64 y, .int .i64 (15 + (s : Int))] 3) := ⟨_, rfl⟩
                              have hmade := World.ownsRow_made (base := wr.heap.size) (e := 3) (size := 1) wr #[] 0 (Nat.le_refl _) (by simp [maxLen]) rfl
                              have hmade2 := World.ownsRow_made (base := wr.heap.size) (e := 3) (size := 1) (wr.alloc (.cells #[.int .i64 y, .int .i64 (15 + (s : Int))] 3)) #[] 0 (by simp) (by simp [maxLen]) rfl
                              have hlit := own_lit2 wr y (15 + (s : Int)) (B := wr.heap.size) (Nat.le_refl _) rfl
                              have hlit2 := own_lit2 (wr.alloc (.cells #[] 3)) y (15 + (s : Int)) (B := wr.heap.size) (b0 := wr.heap.size + 1) (by simp) (by simp)
                              simp only [World.size_alloc] at hmade2
                              have bm : Below wr.heap.size wr (wr.alloc (.cells #[] 3)) := (Below.refl _ _).alloc (Nat.le_refl _) _
                              have bl : Below wr.heap.size wr (wr.alloc (.cells #[.int .i64 y, .int .i64 (15 + (s : Int))] 3)) := (Below.refl _ _).alloc (Nat.le_refl _) _
                              have bml : Below wr.heap.size wr ((wr.alloc (.cells #[] 3)).alloc (.cells #[.int .i64 y, .int .i64 (15 + (s : Int))] 3)) := bm.alloc (by simp) _
                              have blm : Below wr.heap.size wr ((wr.alloc (.cells #[.int .i64 y, .int .i64 (15 + (s : Int))] 3)).alloc (.cells #[] 3)) := bl.alloc (by simp) _
                              have hBw : B < wr.heap.size := by omega
                              clear hwm hwl
                              go_region_law (first
                                | (refine step_list rfl (.tmp 123) (.tmp 127) rfl wr.heap.size (.slice (some ⟨wr.heap.size, 0, none⟩) 0 0) 0 [] (by simp [Act.eval, Act.put]) ge e.length ce e B (by simp [Act.eval, Act.put]) (by exact hmade) (by exact own1.alloc _) (by omega) (by omega) (by go_simp <;> omega) ?_; intro v2 w2 own2 hb3 hg3; simp only [Nat.zero_add, List.nil_append] at own2; have hbA := (below_drewN bm 1).trans hb3; have c2' := (hbA.cell (p := ⟨B, j, none⟩) hBw).trans c2; have olit := True)
                                | (refine step_list rfl (.tmp 123) (.tmp 127) rfl wr.heap.size (.slice (some ⟨wr.heap.size, 0, none⟩) 0 0) 0 [] (by simp [Act.eval, Act.put]) ge e.length ce e B (by simp [Act.eval, Act.put]) (by exact hmade.alloc _) (by exact (own1.alloc _).alloc _) (by omega) (by omega) (by go_simp <;> omega) ?_; intro v2 w2 own2 hb3 hg3; simp only [Nat.zero_add, List.nil_append] at own2; have hbA := (below_drewN bml 1).trans hb3; have c2' := (hbA.cell (p := ⟨B, j, none⟩) hBw).trans c2; have olit := World.ownsRow.kept (w := (((wr.alloc (.cells #[] 3)).alloc (.cells #[.int .i64 y, .int .i64 (15 + (s : Int))] 3))).drewN 1) (by exact hlit2) hg3 (.inr (by simp [Value.ownBlock])))
                                | (refine step_list rfl (.tmp 123) (.tmp 127) rfl wr.heap.size (.slice (some ⟨wr.heap.size + 1, 0, none⟩) 0 0) 0 [] (by simp [Act.eval, Act.put]) ge e.length ce e B (by simp [Act.eval, Act.put]) (by exact hmade2) (by exact (own1.alloc _).alloc _) (by omega) (by omega) (by go_simp <;> omega) ?_; intro v2 w2 own2 hb3 hg3; simp only [Nat.zero_add, List.nil_append] at own2; have hbA := (below_drewN blm 1).trans hb3; have c2' := (hbA.cell (p := ⟨B, j, none⟩) hBw).trans c2; have olit := World.ownsRow.kept (w := (((wr.alloc (.cells #[.int .i64 y, .int .i64 (15 + (s : Int))] 3)).alloc (.cells #[] 3))).drewN 1) (by exact hlit.alloc _) hg3 (.inr (by simp [Value.ownBlock])))
                                | (refine step_list rfl (.tmp 128) (.tmp 134) rfl wr.heap.size v2 e.length e (by simp [Act.eval, Act.put]) w2.heap.size 2 2 [y, 15 + (s : Int)] wr.heap.size (by simp [Act.eval, Act.put]) (by exact own2.alloc _) (by exact own_lit2 w2 y (15 + (s : Int)) (by have := hbA.size; omega) rfl) (by omega) (by omega) (by have := hbA.size; go_simp <;> omega) ?_; intro v3 w3 own3 hb4 _; obtain ⟨A3, c3, rfl, _, _⟩ := Rd.of_own own3; have hbw := (hbA.alloc hbA.size (.cells #[.int .i64 y, .int .i64 (15 + (s : Int))] 3)).trans hb4; have hrow2b := hrow2a.out.below hbw)
                                | (refine step_list rfl (.tmp 128) (.tmp 134) rfl wr.heap.size v2 e.length e (by simp [Act.eval, Act.put]) (wr.heap.size + 1) 2 2 [y, 15 + (s : Int)] wr.heap.size (by simp [Act.eval, Act.put]) (by exact own2) (by exact olit) (by omega) (by omega) (by have := hbA.size; go_simp <;> omega) ?_; intro v3 w3 own3 hb4 _; obtain ⟨A3, c3, rfl, _, _⟩ := Rd.of_own own3; have hbw := hbA.trans hb4; have hrow2b := hrow2a.out.below hbw)
                                | (refine step_list rfl (.tmp 128) (.tmp 134) rfl wr.heap.size v2 e.length e (by simp [Act.eval, Act.put]) wr.heap.size 2 2 [y, 15 + (s : Int)] wr.heap.size (by simp [Act.eval, Act.put]) (by exact own2) (by exact olit) (by omega) (by omega) (by have := hbA.size; go_simp <;> omega) ?_; intro v3 w3 own3 hb4 _; obtain ⟨A3, c3, rfl, _, _⟩ := Rd.of_own own3; have hbw := hbA.trans hb4; have hrow2b := hrow2a.out.below hbw)
                                | (refine step_row rfl (.tmp 122) (.tmp 136) rfl (B + 1) B u6 _ (e ++ [y, 15 + (s : Int)]) A3 (e.length + 2) c3 ⟨w3.heap.size, 0, none⟩ (by simp [Act.eval, Act.put]) (by simp [Act.eval, Act.put]) (by exact hrow2b.2.1.alloc _) (by exact (own3.mono (base' := B) (by omega)).alloc _) (by go_simp) (by simp only [List.length_append]; omega) (by have := hbw.size; go_simp <;> omega) (by omega) ?_; intro v4 w4 hrow4 hb5 hg5 hl5))
                              all_goals go_wp2
                              all_goals (
                                have hrow3 := ((hrow2b.below (w' := w3.alloc (.cells #[.slice A3 (e.length + 2) c3] 41)) ((Below.refl _ _).alloc (Nat.le_refl _) _)).swap.push hrow4 hg5 hl5 (Nat.le_refl _)).swap
                                have hbx := ((hb2.trans (hbw.mono (by omega))).alloc (by have := hbw.size; omega) (.cells #[.slice A3 (e.length + 2) c3] 41)).trans hb5
                                exact ⟨⟨s + 1, by omega, by go_num, by rw [HS.out, ← List.append_assoc]; exact hrow3, hbx⟩, by simp [intOf]; omega⟩)
                            · obtain rfl : s = 5 := by omega
                              go_wp2_with fail
                              go_roundw
                              case rel => exact ⟨j + 1, by omega, by go_num, by rw [HJ.out]; simpa [List.append_assoc, Pl.bins] using hrow2, hb2⟩
                              case measure => simp [intOf]; omega
                        · obtain rfl : j = 4 := by omega
                          go_wp2_with fail
                          go_roundw
                          case rel => exact ⟨k + 1, by omega, by go_num, by rw [HEx.out]; simpa [List.append_assoc, Pl.binsL, Pl.lvs] using hrow1, hb1⟩
                          case measure => simp [intOf]; omega
                    · obtain rfl : k = 92 := by omega
                      rw [show ((92 : Nat) : Int) = 92 from rfl]
                      obtain ⟨w7, hw7⟩ : ∃ w7, w7 = wr := ⟨_, rfl⟩
                      rw [← hw7] at hrow hb hz ⊢
                      have hT7 : RowL w7 (B + 1) B u6 Pl.shorts := by rw [Pl.flat_all Pl.binsL (Nat.le_of_eq Pl.onces_len')] at hrow; exact hrow.2.1
                      obtain ⟨Ar, cr, rfl, hcr, hT7'⟩ := hT7.n (F := Pl.shorts) (n := 2212) rfl Pl.shorts_len
                      obtain ⟨ga, _, _, rfl, hga, _⟩ := hT7'.get (k := 0) (e := [0]) (by decide)
                      have HT7 := Lib.hid hT7'
                      have HB07 := HB06.trans (hb.mono (by omega))
                      clear hT7 hT7' hrow hw7 hk hlt hz hb HL6 HT6 HL5 HT5 HL4 HL3 HT3 HL2 HT HL HT0
                      go_wp2_with fail
                      have hz7 : B ≤ w7.heap.size := by have := HB07.size; omega
                      have hmw := World.ownsRow_made (base := w7.heap.size) (e := 3) (size := 1) w7 #[] 0 (Nat.le_refl _) (by simp [maxLen]) rfl
                      go_loopw [18, 19] (fun v i wr => ∃ c : Nat, c ≤ 64 ∧ i = .int .i64 c ∧ wr.ownsRow w7.heap.size 3 1 v c (I64 (Pl.wants xs c)) ∧ Below w7.heap.size w7 wr) (fun _ i _ => 64 - (intOf i).toNat)
                      case atStart => exact ⟨0, by omega, rfl, hmw, (Below.refl _ _).alloc (Nat.le_refl _) _⟩
                      case round =>
                        obtain ⟨m, hm, rfl, hown, hb⟩ := hrel
                        have hz := hb.size
                        by_cases hlt : m < 64
                        · have q1 := Pl.quo_8 m
                          have q2 := Pl.rem_8 m
                          have q3 : (m : Int) < 64 := by omega
                          have q4 : (0 : Int) ≤ m := by omega
                          have hv := Lib.hid (Pl.v2_64 hlt)
                          have HW := Lib.hid (Pl.wants_succ xs m)
                          have q5 : m / 8 < 8 := by omega
                          have q6 : m % 8 < 8 := by omega
                          have HBx := HB07.trans (hb.mono hz7)
                          go_wp2_with fail
                          refine (spec_l9Value 3 ((m / 8 : Nat) : Int) ((m % 8 : Nat) : Int) A n c B0 xs wr (HX.out.below (HBx.mono (by omega))) (by omega) HE.out hv.out).mono ?_
                          rintro e w8 ⟨rfl, hb8⟩
                          have hz8 := hb8.size
                          have hown8 := own_below hown hb8
                          go_wp2_with (at_builtin; go_must (refine app_int (w := w8) rfl (.tmp 143) (.tmp 150) rfl w7.heap.size _ m _ _ rfl hown8 rfl rfl (by omega) (by omega) ?_; intro v9 w9 hown9 hb9))
                          have hbx := (hb.trans (hb8.mono hz)).trans hb9
                          go_roundw
                          case rel => exact ⟨m + 1, by omega, by go_num, by rw [HW.out, I64_append]; exact hown9, hbx⟩
                          case measure => simp [intOf]; omega
                        · obtain rfl : m = 64 := by omega
                          rw [show ((64 : Nat) : Int) = 64 from rfl]
                          obtain ⟨w8, hw8⟩ : ∃ w8, w8 = wr := ⟨_, rfl⟩
                          rw [← hw8] at hown hb hz ⊢
                          obtain ⟨gw, cw, rfl, hgw0, hgw1⟩ := own_lt hown (by omega)
                          have HOW := Lib.hid hown
                          have HB08 := HB07.trans (hb.mono hz7)
                          have HT8 := Lib.hid (HT7.out.below hb)
                          clear hown hw8 hlt hm hb hmw HT7
                          go_wp2_with fail
                          go_loopw [20] (fun i wr => ∃ k : Nat, k ≤ 2212 ∧ i = .int .i64 k ∧ Hid (∀ j, j < k → ∀ g, Pl.shorts[j]? = some g → Pl.same3 xs g = false) ∧ Below w8.heap.size w8 wr) (fun i _ => 2212 - (intOf i).toNat)
                          case atStart => exact ⟨0, by omega, rfl, fun j hj => absurd hj (by omega), Below.refl _ _⟩
                          case round =>
                            obtain ⟨k, hk, rfl, hall, hb⟩ := hrel
                            have hz9 := hb.size
                            by_cases hlt : k < 2212
                            · obtain ⟨f, hf, hfm⟩ := Pl.at_of Pl.shorts_len hlt
                              obtain ⟨hf1, hf2, hf3⟩ := Pl.shorts_mem hfm
                              obtain ⟨g', Ae, ce, e1, hg, c0, own0⟩ := HT8.out.get hf
                              injection e1 with e1
                              injection e1 with e1 _ _
                              subst e1
                              have HF := Lib.hid hf
                              have HF1 := Lib.hid hf1
                              have OW0 := Lib.hid own0
                              have C0 := Lib.hid c0
                              have hkn : (k : Int) < 2212 := by omega
                              have hk0 : (0 : Int) ≤ k := by omega
                              have HB := HB08.trans (hb.mono (by omega))
                              clear hf hfm c0 own0 hf1 hf2
                              go_wp2_with fail
                              go_loopw [21] (fun i wr => ∃ m : Nat, m ≤ 64 ∧ i = .int .i64 m ∧ Hid (∀ c' : Nat, c' < m → Pl.value 3 xs ((c' / 8 : Nat) : Int) ((c' % 8 : Nat) : Int) = Pl.value 3 f ((c' / 8 : Nat) : Int) ((c' % 8 : Nat) : Int)) ∧ Below w8.heap.size w8 wr) (fun i _ => 64 - (intOf i).toNat)
                              case atStart => exact ⟨0, by omega, rfl, fun j hj => absurd hj (by omega), hb⟩
                              case round =>
                                obtain ⟨m, hm, rfl, heq, hb1⟩ := hrel
                                have hz10 := hb1.size
                                by_cases hlm : m < 64
                                · obtain ⟨a, ha⟩ : ∃ a : Int, ((m / 8 : Nat) : Int) = a := ⟨_, rfl⟩
                                  obtain ⟨b, hb⟩ : ∃ b : Int, ((m % 8 : Nat) : Int) = b := ⟨_, rfl⟩
                                  have q1 := Pl.quo_8 m
                                  have q2 := Pl.rem_8 m
                                  rw [ha] at q1
                                  rw [hb] at q2
                                  have q3 : (m : Int) < 64 := by omega
                                  have q4 : (0 : Int) ≤ m := by omega
                                  have q5 : 0 ≤ a ∧ a < 8 := by omega
                                  have q6 : 0 ≤ b ∧ b < 8 := by omega
                                  have q7 : IntKind.i64.wrap a = a := IntWalk.i64_in _ (by omega)
                                  have hv := Lib.hid (Pl.v2_64 hlm)
                                  have HFL := fun h => Pl.same3_f (c := m) HE.out HF1.out hlm h
                                  have HG := Pl.wants_get xs hlm
                                  rw [ha, hb] at hv HFL HG
                                  have HAB := Lib.hid (And.intro ha hb)
                                  clear ha hb
                                  have c1 : wr.cell? ⟨ga, k, none⟩ = some (.slice Ae f.length ce) := (hb1.cell (p := ⟨ga, k, none⟩) hg).trans C0.out
                                  have c2 : wr.cell? ⟨gw, m, none⟩ = some (.int .i64 (Pl.value 3 xs a b)) := (hb1.cell (p := ⟨gw, m, none⟩) hgw1).trans (own_cell HOW.out (I64_get HG))
                                  have own1 := own_below OW0.out hb1
                                  have rdf := Lib.hid (rd_own own1)
                                  have hgx : ga < wr.heap.size := by omega
                                  have hgy : gw < wr.heap.size := by omega
                                  have CV := fun w1 h => spec_l9Value 3 a b Ae f.length ce wr.heap.size f w1 h
                                  by_cases hee : Pl.value 3 f a b = Pl.value 3 xs a b
                                  · have HEE := Lib.hid hee
                                    rw [hee] at CV
                                    have CV := Lib.hid CV
                                    clear hee own1
                                    go_wp2_with fail
                                    go_region_held3 (fun w' => w'.cell? ⟨ga, k, none⟩ = some (.slice Ae f.length ce) ∧ w'.cell? ⟨gw, m, none⟩ = some (.int .i64 (Pl.value 3 xs a b))) (first | (exact ⟨c1, c2⟩) | (exact ⟨(hb9.cell (p := ⟨ga, k, none⟩) hgx).trans c1, (hb9.cell (p := ⟨gw, m, none⟩) hgy).trans c2⟩)) ((go_at_call 86; refine (CV.out _ (by exact rdf.out) (by exact Nat.le_refl _) HF1.out hv.out).mono ?_; rintro e w9 ⟨rfl, hb9⟩))
                                    all_goals have hbx := hb1.trans ((⟨hb9.os, hb9.tape, hb9.output, hb9.size, hb9.block⟩ : Below wr.heap.size wr w9).mono hz10)
                                    all_goals go_wp2_with fail
                                    all_goals go_roundw
                                    case rel =>
                                      refine ⟨m + 1, by omega, by go_num, fun c' hc' => ?_, hbx⟩
                                      rcases Nat.lt_or_ge c' m with h | h
                                      · exact heq.out c' h
                                      · obtain rfl : c' = m := by omega
                                        rw [HAB.out.1, HAB.out.2]; exact HEE.out.symm
                                    case measure => simp [intOf]; omega
                                  · have hne : (Pl.value 3 f a b == Pl.value 3 xs a b) = false := by rw [beq_eq_false_iff_ne]; exact hee
                                    have HEE := Lib.hid hee
                                    have CV := Lib.hid CV
                                    clear hee own1
                                    go_wp2_with fail
                                    have HS := Lib.hid (HFL (fun h => HEE.out h.symm))
                                    have hm64 : ((m : Int) == 64) = false := by rw [beq_eq_false_iff_ne]; omega
                                    go_region_held3 (fun w' => w'.cell? ⟨ga, k, none⟩ = some (.slice Ae f.length ce) ∧ w'.cell? ⟨gw, m, none⟩ = some (.int .i64 (Pl.value 3 xs a b))) (first | (exact ⟨c1, c2⟩) | (exact ⟨(hb9.cell (p := ⟨ga, k, none⟩) hgx).trans c1, (hb9.cell (p := ⟨gw, m, none⟩) hgy).trans c2⟩)) ((go_at_call 86; refine (CV.out _ (by exact rdf.out) (by exact Nat.le_refl _) HF1.out hv.out).mono ?_; rintro e w9 ⟨rfl, hb9⟩))
                                    all_goals have hbx := hb1.trans ((⟨hb9.os, hb9.tape, hb9.output, hb9.size, hb9.block⟩ : Below wr.heap.size wr w9).mono hz10)
                                    all_goals go_wp2_with fail
                                    all_goals go_roundw
                                    case rel =>
                                      refine ⟨k + 1, by omega, by go_num, fun j hj g' hg' => ?_, hbx⟩
                                      rcases Nat.lt_or_ge j k with h | h
                                      · exact hall.out j h g' hg'
                                      · obtain rfl : j = k := by omega
                                        rw [HF.out] at hg'
                                        injection hg' with hg'
                                        rw [← hg']
                                        exact HS.out
                                    case measure => simp [intOf]; omega
                                · obtain rfl : m = 64 := by omega
                                  have HS := Lib.hid (Pl.same3_t HE.out HF1.out heq.out)
                                  have hr := Lib.hid (Pl.short_at HE.out HF.out hall.out HS.out)
                                  have c1 : wr.cell? ⟨ga, k, none⟩ = some (.slice Ae f.length ce) := (hb1.cell (p := ⟨ga, k, none⟩) hg).trans C0.out
                                  have own1 := own_below OW0.out hb1
                                  have HBe := HB08.trans (hb1.mono (by omega))
                                  rw [show ((64 : Nat) : Int) = 64 from rfl]
                                  go_wp2_with fail
                                  have hd64 : decide ((64 : Int) < 64) = false := rfl
                                  go_quiet (fail)
                                  go_wp2_with fail
                                  go_ret2
                                  rw [hr.out]
                                  exact ⟨Ae, ce, rfl, by rw [hB]; exact own1, by rw [hB]; exact below_drewN HBe _⟩
                            · obtain rfl : k = 2212 := by omega
                              have hr := Lib.hid (Pl.short_none HE.out hall.out)
                              have HBe := HB08.trans (hb.mono (by omega))
                              go_wp2_with fail
                              go_ret2
                              rw [hr.out]
                              exact ⟨_, 0, rfl, World.ownsRow_made wr #[] 0 (by have := HBe.size; omega) (by simp [maxLen]) rfl, by rw [hB]; exact HBe.alloc (by have := HBe.size; omega) _⟩
--MARK1
end Go.Proofs.YtamhpgledbmnoaaGreatDoor
