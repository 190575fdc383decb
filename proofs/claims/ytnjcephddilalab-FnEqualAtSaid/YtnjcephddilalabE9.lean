/-
  Looking for an operation in a code; the program's CodeOf.
  Conditions: as stated at each.
-/
import Derived.Test.YtnjcephddilalabE6
namespace Go.Proofs.Ytnjcephddilalab
set_option linter.unusedVariables false
set_option linter.unusedSimpArgs false
open Go.RowKit

theorem idx_at : ∀ {cs : List Pl.Op3} {c : Pl.Op3} {j : Nat}, cs[j]? = some c → (∀ t, t < j → cs[t]? ≠ some c) → cs.idxOf c = j
  | [], c, j, h, _ => by simp at h
  | d :: t, c, 0, h, _ => by simp at h; subst h; simp
  | d :: t, c, j + 1, h, hb => by
    have hd : (d == c) = false := by
      rw [beq_eq_false_iff_ne]
      exact fun e => hb 0 (by omega) (by simp [e])
    have ih := idx_at (cs := t) (c := c) (j := j) (by simpa using h) (fun s hs => by have := hb (s + 1) (by omega); simpa using this)
    rw [List.idxOf_cons, hd, ih]; rfl
theorem idx_none : ∀ {cs : List Pl.Op3} {c : Pl.Op3}, (∀ t, t < cs.length → cs[t]? ≠ some c) → cs.idxOf c = cs.length
  | [], c, _ => rfl
  | d :: t, c, hb => by
    have hd : (d == c) = false := by
      rw [beq_eq_false_iff_ne]
      exact fun e => hb 0 (by simp) (by simp [e])
    have ih := idx_none (cs := t) (c := c) (fun s hs => by have := hb (s + 1) (by simp; omega); simpa using this)
    rw [List.idxOf_cons, hd, ih]; rfl
/-- Where an operation first stands in a code; -1 if it does not. -/
def idxI (cs : List Pl.Op3) (c : Pl.Op3) (n : Nat) : Int := if cs.idxOf c < n then (cs.idxOf c : Int) else -1
set_option maxHeartbeats 1000000 in
theorem index_ins (A : Option Addr) (n cp B : Nat) (cs : List Pl.Op3) (c : Pl.Op3) (w : World) (hr : RdI w B A n cs) (hB : B ≤ w.heap.size) (hn : n ≤ 1000000) :
    Calls Try.prog 43 #[.slice A n cp, .agg #[.int .i64 c.1, .int .i64 c.2.1, .int .i64 c.2.2]] w
      fun e w' => e = .returned (.int .i64 (idxI cs c n)) ∧ Below w.heap.size w w' := by
  have hl := hr.1
  obtain ⟨op, oa, ob⟩ := c
  rcases Nat.eq_zero_or_pos n with h0 | h0
  · subst h0
    have he := Lib.hid (show idxI cs (op, oa, ob) 0 = -1 by simp [idxI])
    go_enter Try.func43, Try.ntmps43
    go_wp2
    refine wp_loop_rounds 1 ?_
    rw [rounds_succ]
    go_wp2
    go_ret
    exact ⟨ret_int he.out.symm, by go_grown⟩
  · obtain ⟨b, off, rfl, hbl, hc⟩ := hr.pos h0
    have HC := Lib.hid hc
    have hL := Lib.hid hl
    clear hc hr hl
    go_enter Try.func43, Try.ntmps43
    go_wp2
    go_loopw [8] (fun i wr => ∃ j q : Nat, j ≤ n ∧ i = .int .i64 j ∧ Hid (∀ t : Nat, t < j → cs[t]? ≠ some (op, oa, ob)) ∧ wr = (w.alloc (.cells #[.int .i64 op, .int .i64 oa, .int .i64 ob] 32)).drewN q) (fun i _ => n - (intOf i).toNat)
    case atStart => exact ⟨0, 0, by omega, rfl, fun t ht => absurd ht (by omega), rfl⟩
    case round =>
      obtain ⟨j, q, hj, rfl, hs, rfl⟩ := hrel
      by_cases hlt : j < n
      · obtain ⟨⟨p, pa, pb⟩, eo⟩ : ∃ o, cs[j]? = some o := ⟨_, List.getElem?_eq_getElem (by have := hL.out; omega)⟩
        obtain ⟨q1, q2, q3⟩ := HC.out j _ eo
        have c1 : (w.alloc (.cells #[.int .i64 op, .int .i64 oa, .int .i64 ob] 32)).cell? ⟨b, off + j * 3, none⟩ = some (.int .i64 p) := (World.cell?_alloc_lt w _ ⟨b, off + j * 3, none⟩ (show b < w.heap.size by omega)).trans q1
        have c2 : (w.alloc (.cells #[.int .i64 op, .int .i64 oa, .int .i64 ob] 32)).cell? ⟨b, off + j * 3 + 1, none⟩ = some (.int .i64 pa) := (World.cell?_alloc_lt w _ ⟨b, off + j * 3 + 1, none⟩ (show b < w.heap.size by omega)).trans q2
        have c3 : (w.alloc (.cells #[.int .i64 op, .int .i64 oa, .int .i64 ob] 32)).cell? ⟨b, off + j * 3 + 2, none⟩ = some (.int .i64 pb) := (World.cell?_alloc_lt w _ ⟨b, off + j * 3 + 2, none⟩ (show b < w.heap.size by omega)).trans q3
        have hin : (j : Int) < (n : Int) := by omega
        have hj0 : (0 : Int) ≤ j := by omega
        have EO := Lib.hid eo
        clear q1 q2 q3 eo
        by_cases e1 : op = p
        · subst e1
          by_cases e2 : oa = pa
          · subst e2
            by_cases e3 : ob = pb
            · subst e3
              have hi := idx_at EO.out hs.out
              have he := Lib.hid (show idxI cs (op, oa, ob) n = (j : Int) by unfold idxI; rw [hi, if_pos hlt])
              clear hi
              go_wp2_with fail
              go_quiet (fail)
              go_wp2_with fail
              go_ret
              exact ⟨ret_int he.out.symm, below_drewN (below_drewN ((Below.refl _ _).alloc (Nat.le_refl _) _) _) _⟩
            · have HD := Lib.hid (show (op, oa, pb) ≠ (op, oa, ob) from fun e => e3 (by injection e with _ e; injection e with _ e; exact e.symm))
              go_wp2_with fail
              go_quiet (fail)
              go_wp2_with fail
              go_roundw
              case rel =>
                refine ⟨j + 1, q + nq, by omega, by go_num, fun t ht => ?_, by first | rfl | rw [World.drewN_drewN]⟩
                rcases Nat.lt_or_ge t j with h | h
                · exact hs.out t h
                · obtain rfl : t = j := by omega
                  rw [EO.out]
                  exact fun e => HD.out (by injection e)
              case measure => simp [intOf]; omega
          · have HD := Lib.hid (show (op, pa, pb) ≠ (op, oa, ob) from fun e => e2 (by injection e with _ e; injection e with e _; exact e.symm))
            go_wp2_with fail
            go_quiet (fail)
            go_wp2_with fail
            go_roundw
            case rel =>
              refine ⟨j + 1, q + nq, by omega, by go_num, fun t ht => ?_, by first | rfl | rw [World.drewN_drewN]⟩
              rcases Nat.lt_or_ge t j with h | h
              · exact hs.out t h
              · obtain rfl : t = j := by omega
                rw [EO.out]
                exact fun e => HD.out (by injection e)
            case measure => simp [intOf]; omega
        · have HD := Lib.hid (show (p, pa, pb) ≠ (op, oa, ob) from fun e => e1 (by injection e with e _; exact e.symm))
          go_wp2_with fail
          go_quiet (fail)
          go_wp2_with fail
          go_roundw
          case rel =>
            refine ⟨j + 1, q + nq, by omega, by go_num, fun t ht => ?_, by first | rfl | rw [World.drewN_drewN]⟩
            rcases Nat.lt_or_ge t j with h | h
            · exact hs.out t h
            · obtain rfl : t = j := by omega
              rw [EO.out]
              exact fun e => HD.out (by injection e)
          case measure => simp [intOf]; omega
      · obtain rfl : j = n := by omega
        have hi := idx_none (cs := cs) (c := (op, oa, ob)) (fun t ht => hs.out t (by have := hL.out; omega))
        have he := Lib.hid (show idxI cs (op, oa, ob) j = -1 by unfold idxI; rw [hi, if_neg (by have := hL.out; omega)])
        clear hi
        go_wp2_with fail
        go_ret
        exact ⟨ret_int he.out.symm, below_drewN ((Below.refl _ _).alloc (Nat.le_refl _) _) _⟩
end Go.Proofs.Ytnjcephddilalab
