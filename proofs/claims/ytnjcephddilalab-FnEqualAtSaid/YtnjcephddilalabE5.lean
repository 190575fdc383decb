/-
  Contracts of EqualAt in the program and the reference.
  Conditions: as stated at each.
-/
import Derived.Test.YtnjcephddilalabE4
namespace Go.Proofs.Ytnjcephddilalab
set_option linter.unusedVariables false
set_option linter.unusedSimpArgs false
open Go.RowKit

/-- What EqualAt returns: a truth and two numbers. -/
def OutEq (r : Bool × Int × Int) (w : World) (e : Ending) (w' : World) : Prop := e = .returned (.tuple #[.bool r.1, .int .i64 r.2.1, .int .i64 r.2.2]) ∧ Below w.heap.size w w'
set_option maxHeartbeats 2000000 in
theorem impl_EqualAt (k : Int) (A A' : Option Addr) (n c n' c' B : Nat) (xs ys : List Int) (w : World) (hx : Rd w B A n (I64 xs)) (hy : Rd w B A' n' (I64 ys)) (hB : B ≤ w.heap.size) (hn : n ≤ 1000000000000) (hn' : n' ≤ 1000000000000) :
    Calls Try.prog 36 #[.int .i64 k, .slice A n c, .slice A' n' c'] w (OutEq (Pl.equalAt k xs ys) w) := by
  have cx := fun w' => impl_ExprValid A n c B xs w'
  have cy := fun w' => impl_ExprValid A' n' c' B ys w'
  by_cases hv : (1 ≤ k ∧ k ≤ 5) ∧ Pl.exprValid xs = true ∧ Pl.exprValid ys = true
  · obtain ⟨⟨h0, h1⟩, ex, ey⟩ := hv
    rw [ex] at cx
    rw [ey] at cy
    have hp0 := Pl.pw_pos k
    have hp1 := Pl.pw_lt k (by omega)
    obtain ⟨P, hP⟩ := Int.eq_ofNat_of_zero_le (show 0 ≤ Pl.pw k by omega)
    have hword : ∀ m : Nat, m < P → Pl.wvB k m = true := fun m hm => Pl.wv_mk h0 (by omega) (by omega) (by omega)
    have HALL := Lib.hid (Pl.equalAt_all h0 h1 ex ey hP)
    have HAT := Lib.hid (fun (x y : Nat) => Pl.equalAt_at (x := x) (y := y) h0 h1 ex ey hP)
    have EX := Lib.hid ex
    have EY := Lib.hid ey
    have HW := Lib.hid hword
    have hpk := impl_power k
    rw [hP] at hpk hp0 hp1
    clear ex ey hword hP
    go_enter Try.func36, Try.ntmps36
    go_wp2_with fail
    refine (cx _ hx hn).mono ?_
    rintro e w' ⟨rfl, rfl⟩
    go_wp2_with fail
    refine (cy _ hy hn').mono ?_
    rintro e w' ⟨rfl, rfl⟩
    go_wp2_with (first | (go_at_call 51; refine (impl_within_t _ _ _ _ (by omega)).mono ?_; rintro e w' ⟨rfl, rfl⟩))
    refine (hpk _ (by omega) (by omega)).mono ?_
    rintro e w' ⟨rfl, rfl⟩
    go_wp2_with fail
    go_loopw [26] (fun i wr => ∃ x : Nat, x ≤ P ∧ i = .int .i64 x ∧ Hid (∀ x' : Nat, x' < x → ∀ y' : Nat, y' < P → Pl.value k xs x' y' = Pl.value k ys x' y') ∧ Below w.heap.size w wr) (fun i _ => P - (intOf i).toNat)
    case atStart => exact ⟨0, by omega, rfl, fun x' hx' => absurd hx' (by omega), Below.refl _ _⟩
    case round =>
      obtain ⟨x, hxP, rfl, hall, hb⟩ := hrel
      by_cases hlt : x < P
      · have hin : (x : Int) < (P : Int) := by omega
        have hz := hb.size
        go_wp2_with fail
        refine (hpk _ (by omega) (by omega)).mono ?_
        rintro e w' ⟨rfl, rfl⟩
        go_wp2_with fail
        go_loopw [31] (fun i wq => ∃ y : Nat, y ≤ P ∧ i = .int .i64 y ∧ Hid (∀ y' : Nat, y' < y → Pl.value k xs x y' = Pl.value k ys x y') ∧ Below w.heap.size w wq) (fun i _ => P - (intOf i).toNat)
        case atStart => exact ⟨0, by omega, rfl, fun y' hy' => absurd hy' (by omega), hb⟩
        case round =>
          obtain ⟨y, hyP, rfl, hrow, hbq⟩ := hrel
          by_cases hly : y < P
          · have hiy : (y : Int) < (P : Int) := by omega
            have hzq := hbq.size
            have hv2 := Lib.hid (Pl.v2_mk (HW.out x hlt) (HW.out y hly))
            go_wp2_with fail
            refine (impl_value k x y A n c B xs _ (hx.below (hbq.mono hB)) (by omega) EX.out hv2.out).mono ?_
            rintro e w1 ⟨rfl, hb1⟩
            have hz1 := hb1.size
            go_wp2_with fail
            refine (impl_value k x y A' n' c' B ys _ ((hy.below (hbq.mono hB)).below (hb1.mono (by omega))) (by omega) EY.out hv2.out).mono ?_
            rintro e w2 ⟨rfl, hb2⟩
            have hz2 := hb2.size
            have HB := Lib.hid ((hbq.trans (hb1.mono hzq)).trans (hb2.mono (by omega)))
            by_cases he : Pl.value k xs x y = Pl.value k ys x y
            · have HE := Lib.hid he
              rw [he]
              clear he
              go_wp2_with fail
              go_roundw
              case rel =>
                refine ⟨y + 1, by omega, by go_num, fun y' hy' => ?_, HB.out⟩
                rcases Nat.lt_or_ge y' y with h | h
                · exact hrow.out y' h
                · obtain rfl : y' = y := by omega
                  exact HE.out
              case measure => simp [intOf]; omega
            · have hne : (Pl.value k xs x y != Pl.value k ys x y) = true := by rw [bne_iff_ne]; exact he
              have HR := Lib.hid (HAT.out x y hlt hly hall.out hrow.out he)
              clear he
              go_wp2_with fail
              go_ret3
              exact ⟨by rw [HR.out]; rfl, HB.out⟩
          · obtain rfl : y = P := by omega
            go_wp2_with fail
            go_roundw
            case rel =>
              refine ⟨x + 1, by omega, by go_num, fun x' hx' => ?_, hbq⟩
              rcases Nat.lt_or_ge x' x with h | h
              · exact hall.out x' h
              · obtain rfl : x' = x := by omega
                exact hrow.out
            case measure => simp [intOf]; omega
      · obtain rfl : x = P := by omega
        have HR := Lib.hid (HALL.out (fun a b ha hb => hall.out a ha b hb))
        go_wp2_with fail
        go_ret3
        exact ⟨by rw [HR.out]; rfl, hb⟩
  · have HR := Lib.hid (Pl.equalAt_f hv)
    cases ex : Pl.exprValid xs
    · rw [ex] at cx
      clear hv ex
      go_enter Try.func36, Try.ntmps36
      go_wp2_with fail
      refine (cx _ hx hn).mono ?_
      rintro e w' ⟨rfl, rfl⟩
      go_wp2_with fail
      go_ret3
      exact ⟨by rw [HR.out]; rfl, Below.refl _ _⟩
    · cases ey : Pl.exprValid ys
      · rw [ex] at cx
        rw [ey] at cy
        clear hv ex ey
        go_enter Try.func36, Try.ntmps36
        go_wp2_with fail
        refine (cx _ hx hn).mono ?_
        rintro e w' ⟨rfl, rfl⟩
        go_wp2_with fail
        refine (cy _ hy hn').mono ?_
        rintro e w' ⟨rfl, rfl⟩
        go_wp2_with fail
        go_ret3
        exact ⟨by rw [HR.out]; rfl, Below.refl _ _⟩
      · have hk : ¬ (1 ≤ k ∧ k ≤ 5) := fun h => hv ⟨h, ex, ey⟩
        rw [ex] at cx
        rw [ey] at cy
        clear hv ex ey
        go_enter Try.func36, Try.ntmps36
        go_wp2_with fail
        refine (cx _ hx hn).mono ?_
        rintro e w' ⟨rfl, rfl⟩
        go_wp2_with fail
        refine (cy _ hy hn').mono ?_
        rintro e w' ⟨rfl, rfl⟩
        go_wp2_with (first | (go_at_call 51; refine (impl_within_f _ _ _ _ (by omega)).mono ?_; rintro e w' ⟨rfl, rfl⟩))
        go_ret3
        exact ⟨by rw [HR.out]; rfl, Below.refl _ _⟩
set_option maxHeartbeats 2000000 in
theorem spec_EqualAt (k : Int) (A A' : Option Addr) (n c n' c' B : Nat) (xs ys : List Int) (w : World) (hx : Rd w B A n (I64 xs)) (hy : Rd w B A' n' (I64 ys)) (hB : B ≤ w.heap.size) (hn : n ≤ 1000000000000) (hn' : n' ≤ 1000000000000) :
    Calls Try.prog 37 #[.int .i64 k, .slice A n c, .slice A' n' c'] w (OutEq (Pl.equalAt k xs ys) w) := by
  have cx := fun w' => spec_ExprValid A n c B xs w'
  have cy := fun w' => spec_ExprValid A' n' c' B ys w'
  by_cases hv : (1 ≤ k ∧ k ≤ 5) ∧ Pl.exprValid xs = true ∧ Pl.exprValid ys = true
  · obtain ⟨⟨h0, h1⟩, ex, ey⟩ := hv
    rw [ex] at cx
    rw [ey] at cy
    have hp0 := Pl.pw_pos k
    have hp1 := Pl.pw_lt k (by omega)
    obtain ⟨P, hP⟩ := Int.eq_ofNat_of_zero_le (show 0 ≤ Pl.pw k by omega)
    have hword : ∀ m : Nat, m < P → Pl.wvB k m = true := fun m hm => Pl.wv_mk h0 (by omega) (by omega) (by omega)
    have HALL := Lib.hid (Pl.equalAt_all h0 h1 ex ey hP)
    have HAT := Lib.hid (fun (x y : Nat) => Pl.equalAt_at (x := x) (y := y) h0 h1 ex ey hP)
    have EX := Lib.hid ex
    have EY := Lib.hid ey
    have HW := Lib.hid hword
    have hpk := Pl.wrap_pw k (by omega) (by omega)
    rw [hP] at hpk hp0 hp1
    clear ex ey hword hP
    go_enter Try.func37, Try.ntmps37
    go_wp2_with (first | (go_at_call 45; refine (spec_l1In_t _ _ _ _ (by omega)).mono ?_; rintro e w' ⟨rfl, rfl⟩))
    refine (cx _ hx hn).mono ?_
    rintro e w' ⟨rfl, rfl⟩
    go_wp2_with fail
    refine (cy _ hy hn').mono ?_
    rintro e w' ⟨rfl, rfl⟩
    go_wp2_with fail
    go_loopw [9] (fun i wr => ∃ x : Nat, x ≤ P ∧ i = .int .i64 x ∧ Hid (∀ x' : Nat, x' < x → ∀ y' : Nat, y' < P → Pl.value k xs x' y' = Pl.value k ys x' y') ∧ Below w.heap.size w wr) (fun i _ => P - (intOf i).toNat)
    case atStart => exact ⟨0, by omega, rfl, fun x' hx' => absurd hx' (by omega), Below.refl _ _⟩
    case round =>
      obtain ⟨x, hxP, rfl, hall, hb⟩ := hrel
      by_cases hlt : x < P
      · have hin : (x : Int) < (P : Int) := by omega
        have hz := hb.size
        go_wp2_with fail
        try simp only [hpk]
        go_loopw [10] (fun i wq => ∃ y : Nat, y ≤ P ∧ i = .int .i64 y ∧ Hid (∀ y' : Nat, y' < y → Pl.value k xs x y' = Pl.value k ys x y') ∧ Below w.heap.size w wq) (fun i _ => P - (intOf i).toNat)
        case atStart => exact ⟨0, by omega, rfl, fun y' hy' => absurd hy' (by omega), hb⟩
        case round =>
          obtain ⟨y, hyP, rfl, hrow, hbq⟩ := hrel
          by_cases hly : y < P
          · have hiy : (y : Int) < (P : Int) := by omega
            have hzq := hbq.size
            have hv2 := Lib.hid (Pl.v2_mk (HW.out x hlt) (HW.out y hly))
            go_wp2_with fail
            refine (spec_l9Value k x y A n c B xs _ (hx.below (hbq.mono hB)) (by omega) EX.out hv2.out).mono ?_
            rintro e w1 ⟨rfl, hb1⟩
            have hz1 := hb1.size
            go_wp2_with fail
            refine (spec_l9Value k x y A' n' c' B ys _ ((hy.below (hbq.mono hB)).below (hb1.mono (by omega))) (by omega) EY.out hv2.out).mono ?_
            rintro e w2 ⟨rfl, hb2⟩
            have hz2 := hb2.size
            have HB := Lib.hid ((hbq.trans (hb1.mono hzq)).trans (hb2.mono (by omega)))
            by_cases he : Pl.value k xs x y = Pl.value k ys x y
            · have HE := Lib.hid he
              rw [he]
              clear he
              go_wp2_with fail
              go_roundw
              case rel =>
                refine ⟨y + 1, by omega, by go_num, fun y' hy' => ?_, HB.out⟩
                rcases Nat.lt_or_ge y' y with h | h
                · exact hrow.out y' h
                · obtain rfl : y' = y := by omega
                  exact HE.out
              case measure => simp [intOf]; omega
            · have hne : (Pl.value k xs x y != Pl.value k ys x y) = true := by rw [bne_iff_ne]; exact he
              have HR := Lib.hid (HAT.out x y hlt hly hall.out hrow.out he)
              clear he
              go_wp2_with fail
              go_ret3
              exact ⟨by rw [HR.out]; rfl, HB.out⟩
          · obtain rfl : y = P := by omega
            go_wp2_with fail
            go_roundw
            case rel =>
              refine ⟨x + 1, by omega, by go_num, fun x' hx' => ?_, hbq⟩
              rcases Nat.lt_or_ge x' x with h | h
              · exact hall.out x' h
              · obtain rfl : x' = x := by omega
                exact hrow.out
            case measure => simp [intOf]; omega
      · obtain rfl : x = P := by omega
        have HR := Lib.hid (HALL.out (fun a b ha hb => hall.out a ha b hb))
        go_wp2_with fail
        go_ret3
        exact ⟨by rw [HR.out]; rfl, hb⟩
  · have HR := Lib.hid (Pl.equalAt_f hv)
    by_cases hk : 1 ≤ k ∧ k ≤ 5
    · cases ex : Pl.exprValid xs
      · rw [ex] at cx
        clear hv ex
        go_enter Try.func37, Try.ntmps37
        go_wp2_with (first | (go_at_call 45; refine (spec_l1In_t _ _ _ _ (by omega)).mono ?_; rintro e w' ⟨rfl, rfl⟩))
        refine (cx _ hx hn).mono ?_
        rintro e w' ⟨rfl, rfl⟩
        go_wp2_with fail
        go_ret3
        exact ⟨by rw [HR.out]; rfl, Below.refl _ _⟩
      · have ey : Pl.exprValid ys = false := by
          cases ey : Pl.exprValid ys
          · rfl
          · exact absurd ⟨hk, ex, ey⟩ hv
        rw [ex] at cx
        rw [ey] at cy
        clear hv ex ey
        go_enter Try.func37, Try.ntmps37
        go_wp2_with (first | (go_at_call 45; refine (spec_l1In_t _ _ _ _ (by omega)).mono ?_; rintro e w' ⟨rfl, rfl⟩))
        refine (cx _ hx hn).mono ?_
        rintro e w' ⟨rfl, rfl⟩
        go_wp2_with fail
        refine (cy _ hy hn').mono ?_
        rintro e w' ⟨rfl, rfl⟩
        go_wp2_with fail
        go_ret3
        exact ⟨by rw [HR.out]; rfl, Below.refl _ _⟩
    · clear hv
      go_enter Try.func37, Try.ntmps37
      go_wp2_with (first | (go_at_call 45; refine (spec_l1In_f _ _ _ _ (by omega)).mono ?_; rintro e w' ⟨rfl, rfl⟩))
      go_ret3
      exact ⟨by rw [HR.out]; rfl, Below.refl _ _⟩
end Go.Proofs.Ytnjcephddilalab
