/-
  Contracts of the functions that make a word lane by lane.
  Conditions: as stated at each.
-/
import Derived.Test.YtanaafdnnjkimaaW4
import Derived.Test.YtanaafdnnjkimaaPk
namespace Go.Proofs.Ytanaafdnnjkimaa
set_option linter.unusedVariables false
set_option linter.unusedSimpArgs false
open Go.RowKit

set_option maxHeartbeats 1000000 in
set_option maxRecDepth 100000 in
theorem impl_eachLane1 (k l : Int) (w : World) (h : Pl.lv k l = true) (f : FuncId) (p0 : Value) (g : Nat → Int)
    (hcf : ∀ (args : Array Value) (w : World), Sem.run Try.prog (callFunc f args) w = .ok (.enter f args) w)
    (hdo : ∀ (i q : Nat), i < Pl.many k l → Calls Try.prog f #[.int .i64 i, p0] (w.drewN q) fun e w' => e = .returned (.int .i64 (g i)) ∧ ∃ q', w' = w.drewN q') :
    Calls Try.prog 55 #[.int .i64 k, .int .i64 l, .func (.func f) #[] #[p0]] w fun e w' => e = .returned (.int .i64 (Pl.joinI l (fun i => Pl.wmod l (g i)) (Pl.many k l))) ∧ ∃ q, w' = w.drewN q := by
  obtain ⟨h0, h1, h2, h3, h4⟩ := Pl.lv_t h
  clear h4
  have hmp := Pl.many_pos h
  have hmany : ((Pl.many k l : Nat) : Int) = k / l := by unfold Pl.many; exact Int.toNat_of_nonneg (Int.ediv_nonneg (by omega) (by omega))
  have H := Lib.hid h
  have HD := Lib.hid hdo
  have HM := Lib.hid hmany
  clear h hdo hmany
  go_enter Try.func55, Try.ntmps55
  go_wp2
  go_loopw [7, 12] (fun v i wr => ∃ (j q : Nat), j ≤ Pl.many k l ∧ i = .int .i64 j ∧ v = .int .i64 (Pl.joinI l (fun i => Pl.wmod l (g i)) j) ∧ wr = w.drewN q) (fun _ i _ => Pl.many k l - (intOf i).toNat)
  case atStart => exact ⟨0, 0, by omega, rfl, rfl, rfl⟩
  case round =>
    obtain ⟨j, q, hj, rfl, rfl, rfl⟩ := hrel
    by_cases hlt : j < Pl.many k l
    · have hjk : (j : Int) < k / l := by rw [← HM.out]; omega
      have hst := Lib.hid (Pl.each_step k l (fun i => Pl.wmod l (g i)) H.out (fun i => Pl.wmod_lt l (g i)) j hlt)
      go_wp2_with fail
      refine (HD.out j q hlt).mono ?_
      rintro e w' ⟨rfl, q', rfl⟩
      have hat := Pl.at_bd (i := j) H.out (by omega)
      go_wp2_with (first | (go_at_call 76; refine (impl_cut _ _ _ (by omega) (by omega)).mono ?_; rintro e w' ⟨rfl, rfl⟩))
      go_roundw
      case rel => exact ⟨j + 1, q', by omega, by go_num, by rw [hst.out], rfl⟩
      case measure => simp [intOf]; omega
    · have hjk : ¬ (j : Int) < k / l := by rw [← HM.out]; omega
      have hje : j = Pl.many k l := by omega
      have HJ := Lib.hid hje
      clear hje
      go_wp2
      go_ret
      exact ⟨ret_int (by rw [HJ.out]), _, rfl⟩

set_option maxHeartbeats 1000000 in
set_option maxRecDepth 100000 in
theorem impl_eachLane3 (k l : Int) (w : World) (h : Pl.lv k l = true) (f : FuncId) (p0 p1 p2 : Value) (g : Nat → Int)
    (hcf : ∀ (args : Array Value) (w : World), Sem.run Try.prog (callFunc f args) w = .ok (.enter f args) w)
    (hdo : ∀ (i q : Nat), i < Pl.many k l → Calls Try.prog f #[.int .i64 i, p0, p1, p2] (w.drewN q) fun e w' => e = .returned (.int .i64 (g i)) ∧ ∃ q', w' = w.drewN q') :
    Calls Try.prog 55 #[.int .i64 k, .int .i64 l, .func (.func f) #[] #[p0, p1, p2]] w fun e w' => e = .returned (.int .i64 (Pl.joinI l (fun i => Pl.wmod l (g i)) (Pl.many k l))) ∧ ∃ q, w' = w.drewN q := by
  obtain ⟨h0, h1, h2, h3, h4⟩ := Pl.lv_t h
  clear h4
  have hmp := Pl.many_pos h
  have hmany : ((Pl.many k l : Nat) : Int) = k / l := by unfold Pl.many; exact Int.toNat_of_nonneg (Int.ediv_nonneg (by omega) (by omega))
  have H := Lib.hid h
  have HD := Lib.hid hdo
  have HM := Lib.hid hmany
  clear h hdo hmany
  go_enter Try.func55, Try.ntmps55
  go_wp2
  go_loopw [7, 12] (fun v i wr => ∃ (j q : Nat), j ≤ Pl.many k l ∧ i = .int .i64 j ∧ v = .int .i64 (Pl.joinI l (fun i => Pl.wmod l (g i)) j) ∧ wr = w.drewN q) (fun _ i _ => Pl.many k l - (intOf i).toNat)
  case atStart => exact ⟨0, 0, by omega, rfl, rfl, rfl⟩
  case round =>
    obtain ⟨j, q, hj, rfl, rfl, rfl⟩ := hrel
    by_cases hlt : j < Pl.many k l
    · have hjk : (j : Int) < k / l := by rw [← HM.out]; omega
      have hst := Lib.hid (Pl.each_step k l (fun i => Pl.wmod l (g i)) H.out (fun i => Pl.wmod_lt l (g i)) j hlt)
      go_wp2_with fail
      refine (HD.out j q hlt).mono ?_
      rintro e w' ⟨rfl, q', rfl⟩
      have hat := Pl.at_bd (i := j) H.out (by omega)
      go_wp2_with (first | (go_at_call 76; refine (impl_cut _ _ _ (by omega) (by omega)).mono ?_; rintro e w' ⟨rfl, rfl⟩))
      go_roundw
      case rel => exact ⟨j + 1, q', by omega, by go_num, by rw [hst.out], rfl⟩
      case measure => simp [intOf]; omega
    · have hjk : ¬ (j : Int) < k / l := by rw [← HM.out]; omega
      have hje : j = Pl.many k l := by omega
      have HJ := Lib.hid hje
      clear hje
      go_wp2
      go_ret
      exact ⟨ret_int (by rw [HJ.out]), _, rfl⟩

set_option maxHeartbeats 400000 in
theorem tops_do (i l : Int) (B : Nat) (w : World) (h1 : 1 ≤ l) (h2 : l ≤ 12) (hc : w.cell? ⟨B, 0, none⟩ = some (.int .i64 l)) :
    Calls Try.prog 56 #[.int .i64 i, .pointer (some ⟨B, 0, none⟩)] w fun e w' => e = .returned (.int .i64 (Pl.pw (l - 1))) ∧ w = w' := by
  go_enter Try.func56, Try.ntmps56
  go_wp2_with (first | (go_at_call 57; refine (impl_power _ _ (by omega) (by omega)).mono ?_; rintro e w' ⟨rfl, rfl⟩))
  go_ret
  exact ⟨ret_int rfl, rfl⟩
set_option maxHeartbeats 1000000 in
theorem impl_TopsOf (k l : Int) (w : World) :
    Calls Try.prog 23 #[.int .i64 k, .int .i64 l] w fun e w' => e = .returned (.int .i64 (Pl.topsOf k l)) ∧ Below w.heap.size w w' := by
  cases hl : Pl.lv k l
  · have he := Lib.hid (show Pl.topsOf k l = -1 by simp [Pl.topsOf, hl])
    go_enter Try.func23, Try.ntmps23
    go_wp2_with (first | (go_at_call 12; refine (impl_LanesValid _ _ _).mono ?_; rintro e w' ⟨rfl, rfl⟩))
    go_ret
    exact ⟨ret_int he.out.symm, by go_grown⟩
  · obtain ⟨h0, h1, h2, h3, h4⟩ := Pl.lv_t hl
    clear h4
    have he : Pl.topsOf k l = Pl.joinI l (fun i => Pl.wmod l (Pl.pw (l - 1))) (Pl.many k l) := by
      unfold Pl.topsOf
      rw [if_pos hl]
      exact Pl.joinI_congr _ _ _ _ (fun i _ => (Pl.wmod_small (Pl.pw_top h2).1 (Pl.pw_top h2).2).symm)
    have HE := Lib.hid he
    clear he
    go_enter Try.func23, Try.ntmps23
    go_wp2_with (first | (first | (go_at_call 12; refine (impl_LanesValid _ _ _).mono ?_; rintro e w' ⟨rfl, rfl⟩)) | (go_at_call 55; go_must (refine (impl_eachLane1 k l _ hl _ _ (fun _ => Pl.pw (l - 1)) (fun _ _ => by kernel_rfl) (fun i q _ => (tops_do i l w.heap.size _ h2 (by omega) (by go_simp)).mono fun e w' ⟨a, b⟩ => ⟨a, q, b.symm⟩)).mono ?_); rintro e w' ⟨rfl, q, rfl⟩))
    go_ret
    exact ⟨ret_int HE.out.symm, by exact below_drewN (by go_grown) q⟩
def CF (f : FuncId) : Prop := ∀ (args : Array Value) (w : World), Sem.run Try.prog (callFunc f args) w = .ok (.enter f args) w
set_option maxHeartbeats 1000000 in
theorem two_do0 (i : Nat) (b1 b2 b3 gx gy cx cy n n' : Nat) (a b v : Int) (w : World) (f : FuncId) (hcf : ∀ (args : Array Value) (w : World), Sem.run Try.prog (callFunc f args) w = .ok (.enter f args) w)
    (c1 : w.cell? ⟨b1, 0, none⟩ = some (.func (.func f) #[] #[])) (c2 : w.cell? ⟨b2, 0, none⟩ = some (.slice (some ⟨gx, 0, none⟩) n cx)) (c3 : w.cell? ⟨b3, 0, none⟩ = some (.slice (some ⟨gy, 0, none⟩) n' cy))
    (hx : w.cell? ⟨gx, i, none⟩ = some (.int .i64 a)) (hy : w.cell? ⟨gy, i, none⟩ = some (.int .i64 b)) (hi : i < n) (hi2 : i < n')
    (hdo : ∀ q, Calls Try.prog f #[.int .i64 a, .int .i64 b] (w.drewN q) fun e w' => e = .returned (.int .i64 v) ∧ w.drewN q = w') :
    Calls Try.prog 75 #[.int .i64 i, .pointer (some ⟨b1, 0, none⟩), .pointer (some ⟨b2, 0, none⟩), .pointer (some ⟨b3, 0, none⟩)] w fun e w' => e = .returned (.int .i64 v) ∧ ∃ q, w' = w.drewN q := by
  have HD := Lib.hid hdo
  clear hdo
  have hi' : (i : Int) < n := by omega
  have hi3 : (i : Int) < n' := by omega
  have hi0 : (0 : Int) ≤ i := by omega
  go_enter Try.func75, Try.ntmps75
  go_wp2_with fail
  go_quiet ((first | exact quiet_left (HD.out _) | exact quiet_add_left (HD.out _)))
  go_wp2
  go_ret
  exact ⟨ret_int rfl, _, rfl⟩
set_option maxHeartbeats 1000000 in
theorem two_do1 (i : Nat) (b1 b2 b3 gx gy cx cy n n' : Nat) (a b v : Int) (w : World) (f : FuncId) (cp : Value) (hcf : ∀ (args : Array Value) (w : World), Sem.run Try.prog (callFunc f args) w = .ok (.enter f args) w)
    (c1 : w.cell? ⟨b1, 0, none⟩ = some (.func (.func f) #[] #[cp])) (c2 : w.cell? ⟨b2, 0, none⟩ = some (.slice (some ⟨gx, 0, none⟩) n cx)) (c3 : w.cell? ⟨b3, 0, none⟩ = some (.slice (some ⟨gy, 0, none⟩) n' cy))
    (hx : w.cell? ⟨gx, i, none⟩ = some (.int .i64 a)) (hy : w.cell? ⟨gy, i, none⟩ = some (.int .i64 b)) (hi : i < n) (hi2 : i < n')
    (hdo : ∀ q, Calls Try.prog f #[.int .i64 a, .int .i64 b, cp] (w.drewN q) fun e w' => e = .returned (.int .i64 v) ∧ w.drewN q = w') :
    Calls Try.prog 75 #[.int .i64 i, .pointer (some ⟨b1, 0, none⟩), .pointer (some ⟨b2, 0, none⟩), .pointer (some ⟨b3, 0, none⟩)] w fun e w' => e = .returned (.int .i64 v) ∧ ∃ q, w' = w.drewN q := by
  have HD := Lib.hid hdo
  clear hdo
  have hi' : (i : Int) < n := by omega
  have hi3 : (i : Int) < n' := by omega
  have hi0 : (0 : Int) ≤ i := by omega
  go_enter Try.func75, Try.ntmps75
  go_wp2_with fail
  go_quiet ((first | exact quiet_left (HD.out _) | exact quiet_add_left (HD.out _)))
  go_wp2
  go_ret
  exact ⟨ret_int rfl, _, rfl⟩
end Go.Proofs.Ytanaafdnnjkimaa
