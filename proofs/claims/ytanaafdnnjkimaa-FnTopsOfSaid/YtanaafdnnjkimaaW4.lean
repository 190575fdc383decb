/-
  Contracts of the functions on lanes.
  Conditions: as stated at each.
-/
import Derived.Test.YtanaafdnnjkimaaW1
import Derived.Test.YtanaafdnnjkimaaSl
import Derived.Test.YtanaafdnnjkimaaPn
namespace Go.Proofs.Ytanaafdnnjkimaa
set_option linter.unusedVariables false
set_option linter.unusedSimpArgs false
open Go.RowKit

set_option maxHeartbeats 400000 in
theorem impl_LanesValid (k l : Int) (w : World) :
    Calls Try.prog 12 #[.int .i64 k, .int .i64 l] w fun e w' => e = .returned (.bool (Pl.lv k l)) ∧ w = w' := by
  by_cases h0 : 1 ≤ k
  · by_cases h1 : k ≤ 12
    · by_cases h2 : 1 ≤ l
      · have he := Lib.hid (Pl.lv_rest h0 h1 h2)
        go_enter Try.func12, Try.ntmps12
        go_wp2
        all_goals (go_ret; exact ⟨ret_bool (by rw [he.out]), rfl⟩)
      · have he := Lib.hid (Pl.lv_no (k := k) (l := l) (by omega))
        go_enter Try.func12, Try.ntmps12
        go_wp2
        all_goals (go_ret; exact ⟨ret_bool he.out.symm, rfl⟩)
    · have he := Lib.hid (Pl.lv_no (k := k) (l := l) (by omega))
      go_enter Try.func12, Try.ntmps12
      go_wp2
      all_goals (go_ret; exact ⟨ret_bool he.out.symm, rfl⟩)
  · have he := Lib.hid (Pl.lv_no (k := k) (l := l) (by omega))
    go_enter Try.func12, Try.ntmps12
    go_wp2
    all_goals (go_ret; exact ⟨ret_bool he.out.symm, rfl⟩)
set_option maxHeartbeats 400000 in
theorem spec_LanesValid (k l : Int) (w : World) :
    Calls Try.prog 13 #[.int .i64 k, .int .i64 l] w fun e w' => e = .returned (.bool (Pl.lv k l)) ∧ w = w' := by
  by_cases h0 : 1 ≤ k
  · by_cases h1 : k ≤ 12
    · by_cases h2 : 1 ≤ l
      · by_cases h3 : l ≤ k
        · have he := Lib.hid (Pl.lv_rest h0 h1 h2)
          go_enter Try.func13, Try.ntmps13
          go_wp2
          all_goals (go_ret; exact ⟨ret_bool (by rw [he.out]), rfl⟩)
        · have he := Lib.hid (Pl.lv_no (k := k) (l := l) (by omega))
          go_enter Try.func13, Try.ntmps13
          go_wp2
          all_goals (go_ret; exact ⟨ret_bool he.out.symm, rfl⟩)
      · have he := Lib.hid (Pl.lv_no (k := k) (l := l) (by omega))
        go_enter Try.func13, Try.ntmps13
        go_wp2
        all_goals (go_ret; exact ⟨ret_bool he.out.symm, rfl⟩)
    · have he := Lib.hid (Pl.lv_no (k := k) (l := l) (by omega))
      go_enter Try.func13, Try.ntmps13
      go_wp2
      all_goals (go_ret; exact ⟨ret_bool he.out.symm, rfl⟩)
  · have he := Lib.hid (Pl.lv_no (k := k) (l := l) (by omega))
    go_enter Try.func13, Try.ntmps13
    go_wp2
    all_goals (go_ret; exact ⟨ret_bool he.out.symm, rfl⟩)
set_option maxHeartbeats 1000000 in
theorem impl_lanes (k l x : Int) (w : World) (h : Pl.lv k l = true) :
    Calls Try.prog 51 #[.int .i64 k, .int .i64 l, .int .i64 x] w (OwnInts w.heap.size (Pl.lanes l x (Pl.many k l)) w) := by
  obtain ⟨h0, h1, h2, h3, h4⟩ := Pl.lv_t h
  clear h4
  have hmp := Pl.many_pos h
  have H := Lib.hid h
  clear h
  go_enter Try.func51, Try.ntmps51
  go_wp2
  go_loopw [7, 8] (fun v i wr => ∃ (j : Nat) (t : Int), j ≤ Pl.many k l ∧ 0 ≤ t ∧ t ≤ k ∧ Hid (t = j * l) ∧ i = .int .i64 t ∧ wr.ownsRow w.heap.size 3 1 v j ((Pl.lanes l x j).map (.int .i64)) ∧ Below w.heap.size w wr) (fun _ i _ => 13 - (intOf i).toNat)
  case atStart => exact ⟨0, 0, by omega, by omega, by omega, by simp [Hid], rfl, World.ownsRow_nil _ _ _ _, Below.refl _ _⟩
  case round =>
    obtain ⟨j, t, hj, ht0, ht1, ht, rfl, hown, hb⟩ := hrel
    by_cases hlt : t < k
    · have hjm : j < Pl.many k l := by have := ht.out; rw [this] at hlt; exact (Pl.at_lt H.out).1 hlt
      have hbd := Pl.at_bd (i := j + 1) H.out (by omega)
      have hsu := Pl.at_succ l j
      rw [hsu, ← ht.out] at hbd
      have HS := Lib.hid hsu
      clear hsu
      have hz := hb.size
      go_wp2_with (first | (first | (go_at_call 76; refine (impl_cut _ _ _ (by omega) (by omega)).mono ?_; rintro e w' ⟨rfl, rfl⟩)) | (at_builtin; refine app_int rfl _ _ rfl w.heap.size u7 j _ _ rfl hown rfl rfl (by omega) hz ?_; intro v' w1 hown' hbl))
      exact ⟨⟨j + 1, t + l, by omega, by omega, by omega, Lib.hid (by rw [HS.out, ht.out]), rfl, by rw [Pl.lanes_succ, List.map_append]; rw [Pl.lane_at l x t j ht.out] at hown'; exact hown', hb.trans hbl⟩, by simp [intOf]; omega⟩
    · have hje : j = Pl.many k l := by
        rcases Nat.lt_or_ge j (Pl.many k l) with hc | hc
        · exact absurd ((Pl.at_lt H.out).2 hc) (by rw [← ht.out]; exact hlt)
        · omega
      have HJ := Lib.hid hje
      clear hje
      go_wp2
      go_ret
      exact ownInts_mk (v := u7) (by rw [Pl.lanes_len, ← HJ.out]; exact hown) hb
set_option maxHeartbeats 400000 in
theorem impl_LanesOf (k l x : Int) (w : World) :
    Calls Try.prog 18 #[.int .i64 k, .int .i64 l, .int .i64 x] w (OwnInts w.heap.size (Pl.lanesOf k l x) w) := by
  cases hl : Pl.lv k l
  · have he := Lib.hid (Pl.lanesOf_f (k := k) (l := l) (x := x) (by simp [hl]))
    go_enter Try.func18, Try.ntmps18
    go_wp2_with (first | (go_at_call 12; refine (impl_LanesValid _ _ _).mono ?_; rintro e w' ⟨rfl, rfl⟩) | go_in)
    go_ret
    exact ownInts_mk (by rw [he.out]; exact World.ownsRow_nil _ _ _ _) (Below.refl _ _)
  · cases hx : Pl.wvB k x
    · have he := Lib.hid (Pl.lanesOf_f (k := k) (l := l) (x := x) (by simp [hx]))
      go_enter Try.func18, Try.ntmps18
      go_wp2_with (first | (go_at_call 12; refine (impl_LanesValid _ _ _).mono ?_; rintro e w' ⟨rfl, rfl⟩) | (go_at_call 21; refine (impl_WordValid _ _ _).mono ?_; rintro e w' ⟨rfl, rfl⟩) | go_in)
      go_ret
      exact ownInts_mk (by rw [he.out]; exact World.ownsRow_nil _ _ _ _) (Below.refl _ _)
    · have he := Lib.hid (Pl.lanesOf_t hl hx)
      go_enter Try.func18, Try.ntmps18
      go_wp2_with (first | (first | (go_at_call 12; refine (impl_LanesValid _ _ _).mono ?_; rintro e w' ⟨rfl, rfl⟩) | (go_at_call 21; refine (impl_WordValid _ _ _).mono ?_; rintro e w' ⟨rfl, rfl⟩)) | (go_at_call 51; refine (impl_lanes _ _ _ _ hl).mono ?_; rintro e w' ⟨A, c, rfl, hown, hb⟩))
      go_ret
      rw [he.out]; exact ⟨A, c, rfl, hown, hb⟩
set_option maxHeartbeats 1000000 in
theorem spec_LanesOf (k l x : Int) (w : World) :
    Calls Try.prog 20 #[.int .i64 k, .int .i64 l, .int .i64 x] w (OwnInts w.heap.size (Pl.lanesOf k l x) w) := by
  by_cases h : Pl.lv k l = true ∧ Pl.wvB k x = true
  · obtain ⟨hl, hx⟩ := h
    obtain ⟨h0, h1, h2, h3, h4⟩ := Pl.lv_t hl
    obtain ⟨_, _, hx0, hx1⟩ := Pl.wv_t hx
    clear h4
    have hmp := Pl.many_pos hl
    have H := Lib.hid hl
    have hw2 := Pl.wrapK_pw l (by omega) (by omega)
    have hp0 := Pl.pw_pos l
    have hpn : ¬ Pl.pw l = 0 := by omega
    have he := Lib.hid (Pl.lanesOf_t hl hx)
    go_enter Try.func20, Try.ntmps20
    go_wp2
    go_loopw [7, 8] (fun v i wr => ∃ (j : Nat) (t : Int), j ≤ Pl.many k l ∧ 0 ≤ t ∧ t ≤ k ∧ Hid (t = j * l) ∧ i = .int .i64 t ∧ wr.ownsRow w.heap.size 3 1 v j ((Pl.lanes l x j).map (.int .i64)) ∧ Below w.heap.size w wr) (fun _ i _ => 13 - (intOf i).toNat)
    case atStart => exact ⟨0, 0, by omega, by omega, by omega, by simp [Hid], rfl, World.ownsRow_made _ _ 0 (Nat.le_refl _) (by simp [maxLen]) rfl, (Below.refl _ _).alloc (Nat.le_refl _) _⟩
    case round =>
      obtain ⟨j, t, hj, ht0, ht1, ht, rfl, hown, hb⟩ := hrel
      by_cases hlt : t < k
      · have hjm : j < Pl.many k l := by have := ht.out; rw [this] at hlt; exact (Pl.at_lt H.out).1 hlt
        have hbd := Pl.at_bd (i := j + 1) H.out (by omega)
        have hsu := Pl.at_succ l j
        rw [hsu, ← ht.out] at hbd
        have HS := Lib.hid hsu
        clear hsu
        have hz := hb.size
        have hd : 0 ≤ x / 2 ^ t.toNat := Int.ediv_nonneg hx0 (by have := Pl.pw_pos t; unfold Pl.pw at this; omega)
        go_wp2_with (first | (go_at_call 13; refine (spec_LanesValid _ _ _).mono ?_; rintro e w' ⟨rfl, rfl⟩) | (go_at_call 52; refine (spec_WordValid _ _ _).mono ?_; rintro e w' ⟨rfl, rfl⟩))
        go_region_law ((refine step_int rfl (.tmp 26) (.tmp 33) rfl w.heap.size u7 j _ (.int .i64 ((x / 2 ^ t.toNat).tmod (Pl.pw l))) ⟨wr.heap.size, 0, none⟩ (by simp [Act.eval, Act.put]) (by simp [Act.eval, Act.put]) (by exact hown.alloc _) (by go_simp) rfl (by omega) (by go_simp; omega) ?_; intro v' w1 hown' hbl))
        all_goals go_wp2
        all_goals exact ⟨⟨j + 1, t + l, by omega, by omega, by omega, Lib.hid (by rw [HS.out, ht.out]), rfl, by rw [Pl.lanes_succ, List.map_append]; rw [Pl.tmod_wmod l _ hd, Pl.lane_at l x t j ht.out] at hown'; exact hown', ((hb.alloc hz _).drew).trans hbl⟩, by simp [intOf]; omega⟩
      · have hje : j = Pl.many k l := by
          rcases Nat.lt_or_ge j (Pl.many k l) with hc | hc
          · exact absurd ((Pl.at_lt H.out).2 hc) (by rw [← ht.out]; exact hlt)
          · omega
        have HJ := Lib.hid hje
        clear hje
        go_wp2
        go_ret
        exact ownInts_mk (v := u7) (by rw [he.out, Pl.lanes_len, ← HJ.out]; exact hown) hb
  · have he := Lib.hid (Pl.lanesOf_f h)
    by_cases h0 : 0 < k
    · go_enter Try.func20, Try.ntmps20
      go_wp2
      refine wp_loop_rounds 1 ?_
      rw [rounds_succ]
      cases hl : Pl.lv k l
      · go_wp2_with (first | (go_at_call 13; refine (spec_LanesValid _ _ _).mono ?_; rintro e w' ⟨rfl, rfl⟩) | (go_at_call 52; refine (spec_WordValid _ _ _).mono ?_; rintro e w' ⟨rfl, rfl⟩))
        go_ret
        exact ownInts_mk (by rw [he.out]; exact World.ownsRow_made _ _ 0 (Nat.le_refl _) (by simp [maxLen]) rfl) (by go_grown)
      · have hx : Pl.wvB k x = false := by
          cases hx : Pl.wvB k x
          · rfl
          · exact absurd ⟨hl, hx⟩ h
        clear h
        go_wp2_with (first | (go_at_call 13; refine (spec_LanesValid _ _ _).mono ?_; rintro e w' ⟨rfl, rfl⟩) | (go_at_call 52; refine (spec_WordValid _ _ _).mono ?_; rintro e w' ⟨rfl, rfl⟩))
        go_ret
        exact ownInts_mk (by rw [he.out]; exact World.ownsRow_made _ _ 0 (Nat.le_refl _) (by simp [maxLen]) rfl) (by go_grown)
    · go_enter Try.func20, Try.ntmps20
      go_wp2
      refine wp_loop_rounds 1 ?_
      rw [rounds_succ]
      go_wp2
      go_ret
      exact ownInts_mk (by rw [he.out]; exact World.ownsRow_made _ _ 0 (Nat.le_refl _) (by simp [maxLen]) rfl) (by go_grown)
end Go.Proofs.Ytanaafdnnjkimaa
