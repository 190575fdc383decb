/-
  The laws' helpers on codes: whether two are equal; how many operations an expression has.
  Conditions: as stated at each.
-/
import Derived.Test.YtnjcephddilalabKC
import Derived.Test.YtnjcephddilalabKP
namespace Go.Proofs.Ytnjcephddilalab
set_option linter.unusedVariables false
set_option linter.unusedSimpArgs false
open Go.RowKit
set_option maxRecDepth 100000 in
set_option maxHeartbeats 1000000 in
theorem laws_sameCode (A A' : Option Addr) (n c c' B : Nat) (cs : List Pl.Op3) (w : World) (hx : RdI w B A n cs) (hy : RdI w B A' n cs) (hn : n ≤ 1000000) :
    Calls Try.prog 12 #[.slice A n c, .slice A' n c'] w fun e w' => e = .returned (.bool true) ∧ ∃ q, w' = w.drewN q := by
  have hl := hx.1
  rcases Nat.eq_zero_or_pos n with h0 | h0
  · subst h0
    go_enter Try.func12, Try.ntmps12
    go_wp2
    refine wp_loop_rounds 1 ?_
    rw [rounds_succ]
    go_wp2
    go_ret
    exact ⟨rfl, 0, rfl⟩
  · obtain ⟨b, off, rfl, hbl, hc⟩ := hx.pos h0
    obtain ⟨b', off', rfl, hbl', hc'⟩ := hy.pos h0
    have HC := Lib.hid hc
    have HC' := Lib.hid hc'
    have hL := Lib.hid hl
    clear hc hc' hx hy hl
    go_enter Try.func12, Try.ntmps12
    go_wp2
    go_loopw [5] (fun i wr => ∃ j q : Nat, j ≤ n ∧ i = .int .i64 j ∧ wr = w.drewN q) (fun i _ => n - (intOf i).toNat)
    case atStart => exact ⟨0, 0, by omega, rfl, rfl⟩
    case round =>
      obtain ⟨j, q, hj, rfl, rfl⟩ := hrel
      by_cases hlt : j < n
      · obtain ⟨⟨p, pa, pb⟩, eo⟩ : ∃ o, cs[j]? = some o := ⟨_, List.getElem?_eq_getElem (by have := hL.out; omega)⟩
        obtain ⟨u1, u2, u3⟩ := HC.out j _ eo
        obtain ⟨v1, v2, v3⟩ := HC'.out j _ eo
        have hin : (j : Int) < (n : Int) := by omega
        have hj0 : (0 : Int) ≤ j := by omega
        clear eo
        go_wp2_with fail
        go_quiet (fail)
        go_wp2_with fail
        go_roundw
        case rel => exact ⟨j + 1, q + nq, by omega, by go_num, by first | rfl | rw [World.drewN_drewN]⟩
        case measure => simp [intOf]; omega
      · obtain rfl : j = n := by omega
        go_wp2_with fail
        go_ret
        exact ⟨rfl, _, rfl⟩
set_option maxHeartbeats 1000000 in
theorem laws_works (A : Option Addr) (n c B : Nat) (xs : List Int) (w : World) (hx : Rd w B A n (I64 xs)) (hn : n ≤ 1000000) :
    Calls Try.prog 16 #[.slice A n c] w fun e w' => e = .returned (.int .i64 (Pl.worksL xs : Int)) ∧ w = w' := by
  have lx : xs.length = n := by have := hx.len; rwa [I64_len] at this
  rcases Nat.eq_zero_or_pos n with h0 | h0
  · subst h0
    have hv := Lib.hid (show Pl.worksL xs = 0 by rw [List.eq_nil_of_length_eq_zero lx]; rfl)
    clear lx hx
    go_enter Try.func16, Try.ntmps16
    go_wp2
    refine wp_loop_rounds 1 ?_
    rw [rounds_succ]
    go_wp2
    go_ret
    exact ⟨ret_int (by rw [hv.out]; rfl), rfl⟩
  · obtain ⟨b, off, rfl, _, hc⟩ := hx.pos h0
    have HC := Lib.hid hc
    have hL := Lib.hid lx
    clear hc lx hx
    go_enter Try.func16, Try.ntmps16
    go_wp2
    go_loop [3, 4] (fun v i => ∃ j u : Nat, j ≤ n ∧ u ≤ j ∧ i = .int .i64 j ∧ v = .int .i64 u ∧ Hid (Pl.worksL (xs.take j) = u)) (fun _ i => n - (intOf i).toNat)
    case atStart => exact ⟨0, 0, by omega, by omega, rfl, rfl, by simp [Hid, Pl.worksL]⟩
    case round =>
      obtain ⟨j, u, hj, huj, rfl, rfl, hs⟩ := hrel
      by_cases hlt : j < n
      · obtain ⟨s, es⟩ : ∃ s, xs[j]? = some s := ⟨_, List.getElem?_eq_getElem (by have := hL.out; omega)⟩
        have c1 : w.cell? ⟨b, off + j, none⟩ = some (.int .i64 s) := HC.out j _ (I64_get es)
        have hst := Pl.works_snoc es
        have hin : (j : Int) < (n : Int) := by omega
        have hj0 : (0 : Int) ≤ j := by omega
        clear es
        by_cases h12 : 12 ≤ s
        · rw [if_pos h12, hs.out] at hst
          have HST := Lib.hid hst
          clear hst
          go_wp2
          go_round
          case rel => exact ⟨j + 1, u + 1, by omega, by omega, by go_num, by go_num, HST⟩
          case measure => simp [intOf]; omega
        · rw [if_neg h12, hs.out] at hst
          have HST := Lib.hid hst
          clear hst
          go_wp2
          go_round
          case rel => exact ⟨j + 1, u, by omega, by omega, by go_num, rfl, HST⟩
          case measure => simp [intOf]; omega
      · obtain rfl : j = n := by omega
        have hf := hs.out
        rw [show xs.take j = xs by rw [← hL.out, List.take_length]] at hf
        have HF := Lib.hid hf
        clear hf
        go_wp2
        go_ret
        exact ⟨ret_int (by rw [HF.out]), rfl⟩
end Go.Proofs.Ytnjcephddilalab
