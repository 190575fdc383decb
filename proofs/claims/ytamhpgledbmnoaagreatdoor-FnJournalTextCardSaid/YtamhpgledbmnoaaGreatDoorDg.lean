/-
  The given reader of digits.
  Conditions: none.
-/
import Derived.Test.YtamhpgledbmnoaaGreatDoorPy
import Derived.Test.YtamhpgledbmnoaaGreatDoorNm
import Derived.Test.YtamhpgledbmnoaaGreatDoorKN
namespace Go.Proofs.YtamhpgledbmnoaaGreatDoor
set_option linter.unusedVariables false
set_option linter.unusedSimpArgs false
open Go.RowKit
theorem dec_eq (n : Nat) : dec n = Lib.decDigits n := by
  induction n using Nat.strongRecOn with
  | ind n ih =>
    by_cases h : n < 10
    · rw [dec_1 h, Lib.decDigits_one h]; rfl
    · rw [dec_2 (by omega), ih (n / 10) (by omega), Lib.decDigits.eq_1 n, dif_neg h]; rfl
namespace Pl
theorem dval_snoc (l : List UInt8) (c : UInt8) : dval (l ++ [c]) = 10 * dval l + ((c.toNat : Int) - 48) := by unfold dval; rw [List.foldl_append]; rfl
theorem dval_bd (l : List UInt8) (h : l.all isD = true) : 0 ≤ dval l ∧ dval l < 10 ^ l.length := by
  induction hn : l.length generalizing l with
  | zero => obtain rfl := List.eq_nil_of_length_eq_zero hn; decide
  | succ n ih =>
    have hne : l ≠ [] := by rintro rfl; simp at hn
    obtain ⟨p, c, rfl⟩ : ∃ p c, l = p ++ [c] := ⟨l.dropLast, l.getLast hne, (List.dropLast_concat_getLast hne).symm⟩
    rw [List.all_append, Bool.and_eq_true] at h
    have hc : isD c = true := by simpa using h.2
    have hc := of_decide_eq_true hc
    have := ih p h.1 (by simpa using hn)
    rw [dval_snoc, Int.pow_succ]
    omega
theorem all_snoc {s : List UInt8} {i : Nat} {c : UInt8} (h : (s.take i).all isD = true) (hc : s[i]? = some c) (hd : isD c = true) : (s.take (i + 1)).all isD = true := by
  rw [List.take_add_one, hc, List.all_append, h]; simp [hd]
theorem dval_next {s : List UInt8} {i : Nat} {c : UInt8} (hc : s[i]? = some c) : dval (s.take (i + 1)) = 10 * dval (s.take i) + ((c.toNat : Int) - 48) := by
  rw [List.take_add_one, hc]; exact dval_snoc _ _
theorem dig_len {s : List UInt8} (h : s.length < 1 ∨ 4 < s.length) : digits s = -1 := by unfold digits; rw [if_pos (by rcases h with h | h; exact .inl h; exact .inr (.inl h))]
theorem dig_48 {s : List UInt8} (h : 1 < s.length) (hc : s[0]? = some 48) : digits s = -1 := by unfold digits; rw [if_pos (.inr (.inr ⟨h, by rw [List.head?_eq_getElem?]; exact hc⟩))]
theorem dig_no {s : List UInt8} {i : Nat} {c : UInt8} (hc : s[i]? = some c) (hd : ¬ isD c = true) : digits s = -1 := by
  unfold digits
  split
  · rfl
  · rw [if_neg]
    intro h
    exact hd (List.all_eq_true.1 h c (List.mem_of_getElem? hc))
theorem dig_yes {s : List UInt8} (h1 : ¬ (s.length < 1 ∨ 4 < s.length)) (h2 : ¬ (1 < s.length ∧ s[0]? = some 48)) (h : s.all isD = true) : digits s = dval s := by
  unfold digits
  rw [if_neg, if_pos h]
  rintro (h | h | h)
  · exact h1 (.inl h)
  · exact h1 (.inr h)
  · exact h2 ⟨h.1, by rw [← List.head?_eq_getElem?]; exact h.2⟩
end Pl
set_option maxRecDepth 100000 in
set_option maxHeartbeats 4000000 in
theorem spec_l10Digits (s : List UInt8) (w : World) (hs : s.length ≤ 2000000) : Calls Tryz.prog 34 #[.string (Ba s)] w fun e w' => e = .returned (.int .i64 (Pl.digits s)) ∧ w = w' := by
  have hsz := Ba_size s
  by_cases h1 : s.length < 1 ∨ 4 < s.length
  · have hd := Lib.hid (Pl.dig_len h1)
    have CI := Lib.hid (fun w => spec_l1In_f (s.length : Int) 1 4 w (by omega))
    clear h1
    go_enter Tryz.func34, Tryz.ntmps34
    go_wp2_with fail
    refine (CI.out _).mono ?_
    rintro e w' ⟨rfl, rfl⟩
    go_wp2_with fail
    go_ret
    rw [hd.out]
    exact ⟨rfl, rfl⟩
  have CI := Lib.hid (fun w => spec_l1In_t (s.length : Int) 1 4 w (by omega))
  have h1' := Lib.hid h1
  obtain ⟨c0, hc0⟩ : ∃ c, s[0]? = some c := ⟨_, List.getElem?_eq_getElem (by omega)⟩
  have hch := fun h => ba_at hc0 h
  have hz : (0 : Int) < (s.length : Int) := by omega
  by_cases h2 : 1 < s.length
  · have k1 : (1 : Int) < (s.length : Int) := by omega
    by_cases h3 : c0 = 48
    · subst h3
      have hd := Lib.hid (Pl.dig_48 h2 hc0)
      clear h1 hc0 h2
      go_enter Tryz.func34, Tryz.ntmps34
      go_wp2_with fail
      refine (CI.out _).mono ?_
      rintro e w' ⟨rfl, rfl⟩
      go_wp2_with fail
      go_ret
      rw [hd.out]
      exact ⟨rfl, rfl⟩
    · have HN0 : Hid (¬ (1 < s.length ∧ s[0]? = some 48)) := Lib.hid (by rintro ⟨_, h⟩; rw [hc0] at h; injection h with h; exact h3 h)
      have hb : ((c0.toNat : Int) == 48) = false := by
        rw [beq_eq_false_iff_ne]
        intro h
        exact h3 (UInt8.toNat_inj.1 (by show c0.toNat = 48; omega))
      clear h1 hc0 h2 h3
      go_enter Tryz.func34, Tryz.ntmps34
      go_wp2_with fail
      refine (CI.out _).mono ?_
      rintro e w' ⟨rfl, rfl⟩
      go_wp2_with fail
      go_loop [3, 4] (fun v3 v4 => ∃ i : Nat, i ≤ s.length ∧ v4 = .int .i64 (i : Int) ∧ v3 = .int .i64 (Pl.dval (s.take i)) ∧ Hid ((s.take i).all Pl.isD = true)) (fun _ v4 => s.length - (intOf v4).toNat)
      case atStart => exact ⟨0, by omega, rfl, rfl, Lib.hid rfl⟩
      case round =>
        obtain ⟨i, hi, rfl, rfl, hall⟩ := hrel
        have hb := Pl.dval_bd _ hall.out
        have hl4 : s.length ≤ 4 := by have := h1'.out; omega
        have hb0 := hb.1
        have hb1 : Pl.dval (s.take i) < 10000 := by
          have := hb.2
          rw [List.length_take] at this
          rcases (by omega : min i s.length = 0 ∨ min i s.length = 1 ∨ min i s.length = 2 ∨ min i s.length = 3 ∨ min i s.length = 4) with h | h | h | h | h <;> rw [h] at this <;> omega
        clear hb
        by_cases hlt : i < s.length
        · obtain ⟨c, hc⟩ : ∃ c, s[i]? = some c := ⟨_, List.getElem?_eq_getElem (by omega)⟩
          have hci := fun h => ba_at hc h
          have k2 : (i : Int) < ((s.length : Nat) : Int) := by omega
          have k3 : (0 : Int) ≤ (i : Int) := by omega
          have hcb : (c.toNat : Int) < 256 := by have := c.toNat_lt; omega
          have hcn : (0 : Int) ≤ (c.toNat : Int) := by omega
          by_cases hd : Pl.isD c = true
          · have hn := Pl.dval_next hc
            have ha := Lib.hid (Pl.all_snoc hall.out hc hd)
            have hd := of_decide_eq_true hd
            obtain ⟨v, hv⟩ : ∃ v, Pl.dval (s.take i) = v := ⟨_, rfl⟩
            rw [hv] at hn hb0 hb1
            rw [hv]
            obtain ⟨x, hx⟩ : ∃ x : Nat, c.toNat = x := ⟨_, rfl⟩
            rw [hx] at hn hd hcb hcn
            have k5 : ¬ (x : Int) < 48 := by omega
            have k6 : ¬ 57 < (x : Int) := by omega
            have J4 := Lib.hid (show IntKind.u8.wrap ((x : Int) - 48) = (x : Int) - 48 by unfold IntKind.wrap; first | omega | (simp [IntKind.signed, IntKind.bits]; done) | (simp [IntKind.signed, IntKind.bits]; omega))
            have J5 := Lib.hid (show IntKind.i64.wrap ((x : Int) - 48) = (x : Int) - 48 from IntWalk.i64_in _ (by omega))
            have J6 := Lib.hid (show IntKind.i64.wrap (10 * v) = 10 * v from IntWalk.i64_in _ (by omega))
            have J7 := Lib.hid (show IntKind.i64.wrap (10 * v + ((x : Int) - 48)) = 10 * v + ((x : Int) - 48) from IntWalk.i64_in _ (by omega))
            have HN := Lib.hid hn
            clear hn hc hv
            go_wp2_with fail
            go_round
            case rel => exact ⟨i + 1, by omega, by go_num, by rw [HN.out], ha⟩
            case measure => simp [intOf]; omega
          · have hn := Lib.hid (Pl.dig_no hc hd)
            have hd' : ¬ (48 ≤ c.toNat ∧ c.toNat ≤ 57) := fun h => hd (decide_eq_true h)
            clear hd hc
            rcases (by omega : (c.toNat : Int) < 48 ∨ (¬ (c.toNat : Int) < 48 ∧ 57 < (c.toNat : Int))) with k5 | ⟨k5, k6⟩
            all_goals
              clear hd'
              go_wp2_with fail
              go_ret
              rw [hn.out]
              exact ⟨rfl, rfl⟩
        · obtain rfl : i = s.length := by omega
          rw [List.take_length] at hall hb0 hb1 ⊢
          have hn := Lib.hid (Pl.dig_yes h1'.out HN0.out hall.out)
          go_wp2_with fail
          go_ret
          rw [hn.out]
          exact ⟨rfl, rfl⟩
  · have HN0 : Hid (¬ (1 < s.length ∧ s[0]? = some 48)) := Lib.hid (fun h => h2 h.1)
    have k1 : ¬ (1 : Int) < (s.length : Int) := by omega
    clear h1 hc0 h2
    go_enter Tryz.func34, Tryz.ntmps34
    go_wp2_with fail
    refine (CI.out _).mono ?_
    rintro e w' ⟨rfl, rfl⟩
    go_wp2_with fail
    go_loop [3, 4] (fun v3 v4 => ∃ i : Nat, i ≤ s.length ∧ v4 = .int .i64 (i : Int) ∧ v3 = .int .i64 (Pl.dval (s.take i)) ∧ Hid ((s.take i).all Pl.isD = true)) (fun _ v4 => s.length - (intOf v4).toNat)
    case atStart => exact ⟨0, by omega, rfl, rfl, Lib.hid rfl⟩
    case round =>
      obtain ⟨i, hi, rfl, rfl, hall⟩ := hrel
      have hb := Pl.dval_bd _ hall.out
      have hl4 : s.length ≤ 4 := by have := h1'.out; omega
      have hb0 := hb.1
      have hb1 : Pl.dval (s.take i) < 10000 := by
        have := hb.2
        rw [List.length_take] at this
        rcases (by omega : min i s.length = 0 ∨ min i s.length = 1 ∨ min i s.length = 2 ∨ min i s.length = 3 ∨ min i s.length = 4) with h | h | h | h | h <;> rw [h] at this <;> omega
      clear hb
      by_cases hlt : i < s.length
      · obtain ⟨c, hc⟩ : ∃ c, s[i]? = some c := ⟨_, List.getElem?_eq_getElem (by omega)⟩
        have hci := fun h => ba_at hc h
        have k2 : (i : Int) < ((s.length : Nat) : Int) := by omega
        have k3 : (0 : Int) ≤ (i : Int) := by omega
        have hcb : (c.toNat : Int) < 256 := by have := c.toNat_lt; omega
        have hcn : (0 : Int) ≤ (c.toNat : Int) := by omega
        by_cases hd : Pl.isD c = true
        · have hn := Pl.dval_next hc
          have ha := Lib.hid (Pl.all_snoc hall.out hc hd)
          have hd := of_decide_eq_true hd
          obtain ⟨v, hv⟩ : ∃ v, Pl.dval (s.take i) = v := ⟨_, rfl⟩
          rw [hv] at hn hb0 hb1
          rw [hv]
          obtain ⟨x, hx⟩ : ∃ x : Nat, c.toNat = x := ⟨_, rfl⟩
          rw [hx] at hn hd hcb hcn
          have k5 : ¬ (x : Int) < 48 := by omega
          have k6 : ¬ 57 < (x : Int) := by omega
          have J4 := Lib.hid (show IntKind.u8.wrap ((x : Int) - 48) = (x : Int) - 48 by unfold IntKind.wrap; first | omega | (simp [IntKind.signed, IntKind.bits]; done) | (simp [IntKind.signed, IntKind.bits]; omega))
          have J5 := Lib.hid (show IntKind.i64.wrap ((x : Int) - 48) = (x : Int) - 48 from IntWalk.i64_in _ (by omega))
          have J6 := Lib.hid (show IntKind.i64.wrap (10 * v) = 10 * v from IntWalk.i64_in _ (by omega))
          have J7 := Lib.hid (show IntKind.i64.wrap (10 * v + ((x : Int) - 48)) = 10 * v + ((x : Int) - 48) from IntWalk.i64_in _ (by omega))
          have HN := Lib.hid hn
          clear hn hc hv
          go_wp2_with fail
          go_round
          case rel => exact ⟨i + 1, by omega, by go_num, by rw [HN.out], ha⟩
          case measure => simp [intOf]; omega
        · have hn := Lib.hid (Pl.dig_no hc hd)
          have hd' : ¬ (48 ≤ c.toNat ∧ c.toNat ≤ 57) := fun h => hd (decide_eq_true h)
          clear hd hc
          rcases (by omega : (c.toNat : Int) < 48 ∨ (¬ (c.toNat : Int) < 48 ∧ 57 < (c.toNat : Int))) with k5 | ⟨k5, k6⟩
          all_goals
            clear hd'
            go_wp2_with fail
            go_ret
            rw [hn.out]
            exact ⟨rfl, rfl⟩
      · obtain rfl : i = s.length := by omega
        rw [List.take_length] at hall hb0 hb1 ⊢
        have hn := Lib.hid (Pl.dig_yes h1'.out HN0.out hall.out)
        go_wp2_with fail
        go_ret
        rw [hn.out]
        exact ⟨rfl, rfl⟩
end Go.Proofs.YtamhpgledbmnoaaGreatDoor
