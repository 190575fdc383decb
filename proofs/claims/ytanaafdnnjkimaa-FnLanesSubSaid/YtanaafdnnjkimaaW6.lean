/-
  Contracts of the program's sums, differences and zeros of all lanes.
  Conditions: none but those of the model.
-/
import Derived.Test.YtanaafdnnjkimaaW5
namespace Go.Proofs.Ytanaafdnnjkimaa
set_option linter.unusedVariables false
set_option linter.unusedSimpArgs false
open Go.RowKit

theorem lane_cell {w : World} {B : Nat} {l x : Int} {m c g : Nat} (h : w.ownsRow B 3 1 (.slice (some ⟨g, 0, none⟩) (Pl.lanes l x m).length c) (Pl.lanes l x m).length (I64 (Pl.lanes l x m))) (i : Nat) (hi : i < m) :
    w.cell? ⟨g, i, none⟩ = some (.int .i64 (Pl.lane l x i)) := by
  rw [h.cellAt i (by rw [Pl.lanes_len]; omega)]
  exact I64_get (Pl.lanes_get l x m i hi)

set_option maxHeartbeats 1000000 in
set_option maxRecDepth 100000 in
theorem impl_twoLanes0 (k l a b : Int) (w : World) (hl : Pl.lv k l = true) (hv : Pl.v2 k a b = true) (f : FuncId) (G : Nat → Int)
    (hcf : ∀ (args : Array Value) (w : World), Sem.run Try.prog (callFunc f args) w = .ok (.enter f args) w)
    (hdo : ∀ (i : Nat) W, Below w.heap.size w W → Calls Try.prog f #[.int .i64 (Pl.lane l a i), .int .i64 (Pl.lane l b i)] W fun e w' => e = .returned (.int .i64 (G i)) ∧ W = w') :
    Calls Try.prog 47 #[.int .i64 k, .int .i64 l, .int .i64 a, .int .i64 b, .func (.func f) #[] #[]] w fun e w' => e = .returned (.int .i64 (Pl.joinI l (fun i => Pl.wmod l (G i)) (Pl.many k l))) ∧ Below w.heap.size w w' := by
  have hmp := Pl.many_pos hl
  have HD := Lib.hid hdo
  have HCF := Lib.hid hcf
  clear hdo hcf
  go_enter Try.func47, Try.ntmps47
  go_wp2_with (first | (go_at_call 12; refine (impl_LanesValid _ _ _).mono ?_; rintro e w' ⟨rfl, rfl⟩) | (go_at_call 74; refine (impl_allValid2 _ a b _ _ (by go_simp) (by go_simp)).mono ?_; rintro e w' ⟨rfl, rfl⟩))
  refine (impl_lanes _ _ _ _ hl).mono ?_
  rintro e w1 ⟨A, c, rfl, own1, hb1⟩
  obtain ⟨gx, cx, e1, hg0, hg1⟩ := own_lt own1 (by rw [Pl.lanes_len]; omega)
  injection e1 with e1 e2 e3
  subst e1
  clear e2 e3
  go_wp2_with fail
  refine (impl_lanes _ _ _ _ hl).mono ?_
  rintro e w2 ⟨A', c', rfl, own2, hb2⟩
  obtain ⟨gy, cy, e1, hg2, hg3⟩ := own_lt own2 (by rw [Pl.lanes_len]; omega)
  injection e1 with e1 e2 e3
  subst e1
  clear e2 e3
  have hz1 : w.heap.size + 2 ≤ w1.heap.size := by have := hb1.size; simp at this; omega
  have hz2 : w1.heap.size ≤ w2.heap.size := hb2.size
  have hw2 : Below w.heap.size w w2 := by
    have h1 : Below w.heap.size w w1 := Below.trans (by go_grown) (hb1.mono (by simp; omega))
    exact h1.trans (hb2.mono (by omega))
  have k1 : w2.cell? ⟨w.heap.size, 0, none⟩ = some (.func (.func f) #[] #[]) := by
    rw [hb2.cell (p := ⟨w.heap.size, 0, none⟩) (by show w.heap.size < _; omega), hb1.cell (p := ⟨w.heap.size, 0, none⟩) (by first | (simp; done) | (simp; omega))]
    go_simp
  have kx : ∀ i, i < Pl.many k l → w2.cell? ⟨gx, i, none⟩ = some (.int .i64 (Pl.lane l a i)) := fun i hi => (hb2.cell (p := ⟨gx, i, none⟩) hg1).trans (lane_cell own1 i hi)
  have ky : ∀ i, i < Pl.many k l → w2.cell? ⟨gy, i, none⟩ = some (.int .i64 (Pl.lane l b i)) := fun i hi => lane_cell own2 i hi
  have K1 := Lib.hid k1
  have KX := Lib.hid kx
  have KY := Lib.hid ky
  clear k1 kx ky own1 own2
  go_wp2_with fail
  refine (impl_eachLane3 k l _ hl _ _ _ _ G (fun _ _ => by kernel_rfl) (fun i q hi => ?_)).mono ?_
  · have hbW : ∀ o1 o2, Below w2.heap.size w2 (((w2.alloc o1).alloc o2).drewN q) := fun o1 o2 => below_drewN (by go_grown) q
    refine (two_do0 i w.heap.size w2.heap.size (w2.heap.size + 1) gx gy c c' (Pl.lanes l a (Pl.many k l)).length (Pl.lanes l b (Pl.many k l)).length (Pl.lane l a i) (Pl.lane l b i) (G i) _ f HCF.out (cell_later (hbW _ _) K1.out) (by go_simp) (by go_simp) (cell_later (hbW _ _) (KX.out i hi)) (cell_later (hbW _ _) (KY.out i hi)) (by rw [Pl.lanes_len]; exact hi) (by rw [Pl.lanes_len]; exact hi) (fun q' => HD.out i _ ?_)).mono ?_
    · exact below_drewN (hw2.trans ((hbW _ _).mono (by omega))) q'
    · rintro e w' ⟨rfl, q', rfl⟩
      exact ⟨rfl, q + q', by rw [World.drewN_drewN]⟩
  · rintro e w' ⟨rfl, q, rfl⟩
    go_wp2
    go_ret
    refine ⟨ret_int rfl, below_drewN (hw2.trans ?_) q⟩
    exact Below.mono (B := w2.heap.size) (by go_grown) (by omega)

set_option maxHeartbeats 1000000 in
set_option maxRecDepth 100000 in
theorem impl_twoLanes1 (k l a b : Int) (w : World) (hl : Pl.lv k l = true) (hv : Pl.v2 k a b = true) (f : FuncId) (cp : Value) (G : Nat → Int)
    (hcf : ∀ (args : Array Value) (w : World), Sem.run Try.prog (callFunc f args) w = .ok (.enter f args) w)
    (hdo : ∀ (i : Nat) W, Below w.heap.size w W → Calls Try.prog f #[.int .i64 (Pl.lane l a i), .int .i64 (Pl.lane l b i), cp] W fun e w' => e = .returned (.int .i64 (G i)) ∧ W = w') :
    Calls Try.prog 47 #[.int .i64 k, .int .i64 l, .int .i64 a, .int .i64 b, .func (.func f) #[] #[cp]] w fun e w' => e = .returned (.int .i64 (Pl.joinI l (fun i => Pl.wmod l (G i)) (Pl.many k l))) ∧ Below w.heap.size w w' := by
  have hmp := Pl.many_pos hl
  have HD := Lib.hid hdo
  have HCF := Lib.hid hcf
  clear hdo hcf
  go_enter Try.func47, Try.ntmps47
  go_wp2_with (first | (go_at_call 12; refine (impl_LanesValid _ _ _).mono ?_; rintro e w' ⟨rfl, rfl⟩) | (go_at_call 74; refine (impl_allValid2 _ a b _ _ (by go_simp) (by go_simp)).mono ?_; rintro e w' ⟨rfl, rfl⟩))
  refine (impl_lanes _ _ _ _ hl).mono ?_
  rintro e w1 ⟨A, c, rfl, own1, hb1⟩
  obtain ⟨gx, cx, e1, hg0, hg1⟩ := own_lt own1 (by rw [Pl.lanes_len]; omega)
  injection e1 with e1 e2 e3
  subst e1
  clear e2 e3
  go_wp2_with fail
  refine (impl_lanes _ _ _ _ hl).mono ?_
  rintro e w2 ⟨A', c', rfl, own2, hb2⟩
  obtain ⟨gy, cy, e1, hg2, hg3⟩ := own_lt own2 (by rw [Pl.lanes_len]; omega)
  injection e1 with e1 e2 e3
  subst e1
  clear e2 e3
  have hz1 : w.heap.size + 2 ≤ w1.heap.size := by have := hb1.size; simp at this; omega
  have hz2 : w1.heap.size ≤ w2.heap.size := hb2.size
  have hw2 : Below w.heap.size w w2 := by
    have h1 : Below w.heap.size w w1 := Below.trans (by go_grown) (hb1.mono (by simp; omega))
    exact h1.trans (hb2.mono (by omega))
  have k1 : w2.cell? ⟨w.heap.size, 0, none⟩ = some (.func (.func f) #[] #[cp]) := by
    rw [hb2.cell (p := ⟨w.heap.size, 0, none⟩) (by show w.heap.size < _; omega), hb1.cell (p := ⟨w.heap.size, 0, none⟩) (by first | (simp; done) | (simp; omega))]
    go_simp
  have kx : ∀ i, i < Pl.many k l → w2.cell? ⟨gx, i, none⟩ = some (.int .i64 (Pl.lane l a i)) := fun i hi => (hb2.cell (p := ⟨gx, i, none⟩) hg1).trans (lane_cell own1 i hi)
  have ky : ∀ i, i < Pl.many k l → w2.cell? ⟨gy, i, none⟩ = some (.int .i64 (Pl.lane l b i)) := fun i hi => lane_cell own2 i hi
  have K1 := Lib.hid k1
  have KX := Lib.hid kx
  have KY := Lib.hid ky
  clear k1 kx ky own1 own2
  go_wp2_with fail
  refine (impl_eachLane3 k l _ hl _ _ _ _ G (fun _ _ => by kernel_rfl) (fun i q hi => ?_)).mono ?_
  · have hbW : ∀ o1 o2, Below w2.heap.size w2 (((w2.alloc o1).alloc o2).drewN q) := fun o1 o2 => below_drewN (by go_grown) q
    refine (two_do1 i w.heap.size w2.heap.size (w2.heap.size + 1) gx gy c c' (Pl.lanes l a (Pl.many k l)).length (Pl.lanes l b (Pl.many k l)).length (Pl.lane l a i) (Pl.lane l b i) (G i) _ f cp HCF.out (cell_later (hbW _ _) K1.out) (by go_simp) (by go_simp) (cell_later (hbW _ _) (KX.out i hi)) (cell_later (hbW _ _) (KY.out i hi)) (by rw [Pl.lanes_len]; exact hi) (by rw [Pl.lanes_len]; exact hi) (fun q' => HD.out i _ ?_)).mono ?_
    · exact below_drewN (hw2.trans ((hbW _ _).mono (by omega))) q'
    · rintro e w' ⟨rfl, q', rfl⟩
      exact ⟨rfl, q + q', by rw [World.drewN_drewN]⟩
  · rintro e w' ⟨rfl, q, rfl⟩
    go_wp2
    go_ret
    refine ⟨ret_int rfl, below_drewN (hw2.trans ?_) q⟩
    exact Below.mono (B := w2.heap.size) (by go_grown) (by omega)

set_option maxHeartbeats 400000 in
theorem do_LanesAdd (a b : Int) (w : World) (h0 : 0 ≤ a) (h1 : a < 4096) (h2 : 0 ≤ b) (h3 : b < 4096) :
    Calls Try.prog 48 #[.int .i64 a, .int .i64 b] w fun e w' => e = .returned (.int .i64 (a + b)) ∧ w = w' := by
  go_enter Try.func48, Try.ntmps48
  go_wp2
  go_ret
  exact ⟨ret_int rfl, rfl⟩
set_option maxHeartbeats 1000000 in
theorem impl_LanesAdd (k l a b : Int) (w : World) :
    Calls Try.prog 16 #[.int .i64 k, .int .i64 l, .int .i64 a, .int .i64 b] w fun e w' => e = .returned (.int .i64 (Pl.lanesAdd k l a b)) ∧ Below w.heap.size w w' := by
  by_cases h : Pl.lv k l = true ∧ Pl.v2 k a b = true
  · obtain ⟨hl, hv⟩ := h
    obtain ⟨h0, h1, h2, h3, h4⟩ := Pl.lv_t hl
    clear h4
    have hp := Pl.pw_lt l (by omega)
    have he := Lib.hid (show Pl.lanesAdd k l a b = Pl.joinI l (fun i => Pl.wmod l (Pl.lane l a i + Pl.lane l b i)) (Pl.many k l) by unfold Pl.lanesAdd; rw [if_pos ⟨hl, hv⟩]; rfl)
    go_enter Try.func16, Try.ntmps16
    go_wp2_with fail
    refine (impl_twoLanes0 k l a b _ hl hv _ (fun i => Pl.lane l a i + Pl.lane l b i) (fun _ _ => by kernel_rfl) (fun i W _ => do_LanesAdd _ _ W ?_ ?_ ?_ ?_)).mono ?_
    · exact (Pl.lane_lt l a i).1
    · have := Pl.lane_lt l a i; omega
    · exact (Pl.lane_lt l b i).1
    · have := Pl.lane_lt l b i; omega
    · rintro e w' ⟨rfl, hb⟩
      go_wp2
      go_ret
      exact ⟨ret_int he.out.symm, hb⟩
  · have he := Lib.hid (show Pl.lanesAdd k l a b = -1 by unfold Pl.lanesAdd; rw [if_neg h])
    cases hl : Pl.lv k l
    · clear h
      go_enter Try.func16, Try.ntmps16
      go_wp2_with (first | (go_at_call 12; refine (impl_LanesValid _ _ _).mono ?_; rintro e w' ⟨rfl, rfl⟩) | (go_at_call 74; refine (impl_allValid2 _ a b _ _ (by go_simp) (by go_simp)).mono ?_; rintro e w' ⟨rfl, rfl⟩) | go_in)
      go_ret
      exact ⟨ret_int he.out.symm, by go_grown⟩
    · have hv : Pl.v2 k a b = false := by
        cases hv : Pl.v2 k a b
        · rfl
        · exact absurd ⟨hl, hv⟩ h
      clear h
      go_enter Try.func16, Try.ntmps16
      go_wp2_with (first | (go_at_call 12; refine (impl_LanesValid _ _ _).mono ?_; rintro e w' ⟨rfl, rfl⟩) | (go_at_call 74; refine (impl_allValid2 _ a b _ _ (by go_simp) (by go_simp)).mono ?_; rintro e w' ⟨rfl, rfl⟩) | go_in)
      go_ret
      exact ⟨ret_int he.out.symm, by go_grown⟩
set_option maxHeartbeats 400000 in
theorem do_LanesSub (a b : Int) (w : World) (h0 : 0 ≤ a) (h1 : a < 4096) (h2 : 0 ≤ b) (h3 : b < 4096) :
    Calls Try.prog 65 #[.int .i64 a, .int .i64 b] w fun e w' => e = .returned (.int .i64 (a - b)) ∧ w = w' := by
  go_enter Try.func65, Try.ntmps65
  go_wp2
  go_ret
  exact ⟨ret_int rfl, rfl⟩
set_option maxHeartbeats 1000000 in
theorem impl_LanesSub (k l a b : Int) (w : World) :
    Calls Try.prog 32 #[.int .i64 k, .int .i64 l, .int .i64 a, .int .i64 b] w fun e w' => e = .returned (.int .i64 (Pl.lanesSub k l a b)) ∧ Below w.heap.size w w' := by
  by_cases h : Pl.lv k l = true ∧ Pl.v2 k a b = true
  · obtain ⟨hl, hv⟩ := h
    obtain ⟨h0, h1, h2, h3, h4⟩ := Pl.lv_t hl
    clear h4
    have hp := Pl.pw_lt l (by omega)
    have he := Lib.hid (show Pl.lanesSub k l a b = Pl.joinI l (fun i => Pl.wmod l (Pl.lane l a i - Pl.lane l b i)) (Pl.many k l) by unfold Pl.lanesSub; rw [if_pos ⟨hl, hv⟩]; rfl)
    go_enter Try.func32, Try.ntmps32
    go_wp2_with fail
    refine (impl_twoLanes0 k l a b _ hl hv _ (fun i => Pl.lane l a i - Pl.lane l b i) (fun _ _ => by kernel_rfl) (fun i W _ => do_LanesSub _ _ W ?_ ?_ ?_ ?_)).mono ?_
    · exact (Pl.lane_lt l a i).1
    · have := Pl.lane_lt l a i; omega
    · exact (Pl.lane_lt l b i).1
    · have := Pl.lane_lt l b i; omega
    · rintro e w' ⟨rfl, hb⟩
      go_wp2
      go_ret
      exact ⟨ret_int he.out.symm, hb⟩
  · have he := Lib.hid (show Pl.lanesSub k l a b = -1 by unfold Pl.lanesSub; rw [if_neg h])
    cases hl : Pl.lv k l
    · clear h
      go_enter Try.func32, Try.ntmps32
      go_wp2_with (first | (go_at_call 12; refine (impl_LanesValid _ _ _).mono ?_; rintro e w' ⟨rfl, rfl⟩) | (go_at_call 74; refine (impl_allValid2 _ a b _ _ (by go_simp) (by go_simp)).mono ?_; rintro e w' ⟨rfl, rfl⟩) | go_in)
      go_ret
      exact ⟨ret_int he.out.symm, by go_grown⟩
    · have hv : Pl.v2 k a b = false := by
        cases hv : Pl.v2 k a b
        · rfl
        · exact absurd ⟨hl, hv⟩ h
      clear h
      go_enter Try.func32, Try.ntmps32
      go_wp2_with (first | (go_at_call 12; refine (impl_LanesValid _ _ _).mono ?_; rintro e w' ⟨rfl, rfl⟩) | (go_at_call 74; refine (impl_allValid2 _ a b _ _ (by go_simp) (by go_simp)).mono ?_; rintro e w' ⟨rfl, rfl⟩) | go_in)
      go_ret
      exact ⟨ret_int he.out.symm, by go_grown⟩
def noneV (l a : Int) : Int := if a = 0 then Pl.pw (l - 1) else 0
set_option maxHeartbeats 400000 in
theorem do_LanesNone (a b l : Int) (B : Nat) (w : World) (h1 : 1 ≤ l) (h2 : l ≤ 12) (hc : w.cell? ⟨B, 0, none⟩ = some (.int .i64 l)) :
    Calls Try.prog 68 #[.int .i64 a, .int .i64 b, .pointer (some ⟨B, 0, none⟩)] w fun e w' => e = .returned (.int .i64 (noneV l a)) ∧ w = w' := by
  cases hb : (a == 0)
  · have he := Lib.hid (show noneV l a = 0 from if_neg (by simpa using hb))
    go_enter Try.func68, Try.ntmps68
    go_wp2
    go_ret
    exact ⟨ret_int he.out.symm, rfl⟩
  · have he := Lib.hid (show noneV l a = Pl.pw (l - 1) from if_pos (by simpa using hb))
    go_enter Try.func68, Try.ntmps68
    go_wp2_with (first | (go_at_call 57; refine (impl_power _ _ (by omega) (by omega)).mono ?_; rintro e w' ⟨rfl, rfl⟩))
    go_ret
    exact ⟨ret_int he.out.symm, rfl⟩
set_option maxHeartbeats 1000000 in
theorem impl_LanesNone (k l a : Int) (w : World) :
    Calls Try.prog 36 #[.int .i64 k, .int .i64 l, .int .i64 a] w fun e w' => e = .returned (.int .i64 (Pl.lanesNone k l a)) ∧ Below w.heap.size w w' := by
  by_cases h : Pl.lv k l = true ∧ Pl.wvB k a = true
  · obtain ⟨hl, hx⟩ := h
    have hv := Pl.v2_mk hx hx
    obtain ⟨h0, h1, h2, h3, h4⟩ := Pl.lv_t hl
    clear h4
    have he := Lib.hid (show Pl.lanesNone k l a = Pl.joinI l (fun i => Pl.wmod l (noneV l (Pl.lane l a i))) (Pl.many k l) by
      unfold Pl.lanesNone
      rw [if_pos ⟨hl, hx⟩]
      refine Pl.joinI_congr _ _ _ _ (fun i _ => ?_)
      have ht := Pl.pw_top h2
      have hp := Pl.pw_pos l
      unfold Pl.noneL noneV
      split
      · exact (Pl.wmod_small ht.1 ht.2).symm
      · exact (Pl.wmod_small (by omega) (by omega)).symm)
    go_enter Try.func36, Try.ntmps36
    go_wp2_with fail
    refine (impl_twoLanes1 k l a a _ hl hv _ _ (fun i => noneV l (Pl.lane l a i)) (fun _ _ => by kernel_rfl) (fun i W hW => do_LanesNone _ _ l w.heap.size W h2 (by omega) ?_)).mono ?_
    · rw [hW.cell (p := ⟨w.heap.size, 0, none⟩) (by first | (simp; done) | (simp; omega))]
      go_simp
    · rintro e w' ⟨rfl, hb⟩
      go_wp2
      go_ret
      exact ⟨ret_int he.out.symm, Below.trans (by go_grown) (hb.mono (by first | (simp; done) | (simp; omega)))⟩
  · have he := Lib.hid (show Pl.lanesNone k l a = -1 by unfold Pl.lanesNone; rw [if_neg h])
    cases hl : Pl.lv k l
    · clear h
      go_enter Try.func36, Try.ntmps36
      go_wp2_with (first | (go_at_call 12; refine (impl_LanesValid _ _ _).mono ?_; rintro e w' ⟨rfl, rfl⟩) | go_in)
      go_ret
      exact ⟨ret_int he.out.symm, by go_grown⟩
    · have hv : Pl.v2 k a a = false := by
        cases hv : Pl.v2 k a a
        · rfl
        · exact absurd ⟨hl, Pl.v2_l hv⟩ h
      clear h
      go_enter Try.func36, Try.ntmps36
      go_wp2_with (first | (first | (go_at_call 12; refine (impl_LanesValid _ _ _).mono ?_; rintro e w' ⟨rfl, rfl⟩)) | (go_at_call 74; refine (impl_allValid2 _ a a _ _ (by go_simp) (by go_simp)).mono ?_; rintro e w' ⟨rfl, rfl⟩) | go_in)
      go_ret
      exact ⟨ret_int he.out.symm, by go_grown⟩
end Go.Proofs.Ytanaafdnnjkimaa
