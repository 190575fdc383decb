/-
  The laws' helpers on slices of operations: comparing, marking, looking again.
  Conditions: as stated at each.
-/
import Derived.Test.YtnjcephddilalaaE10
import Derived.Test.YtnjcephddilalaaX4
namespace Go.Proofs.Ytnjcephddilalaa
set_option linter.unusedVariables false
set_option linter.unusedSimpArgs false
open Go.RowKit

set_option maxHeartbeats 1000000 in
theorem laws_eqIns (p q r : Int) (w : World) : Calls Try.prog 60 #[.agg #[.int .i64 p, .int .i64 q, .int .i64 r], .agg #[.int .i64 p, .int .i64 q, .int .i64 r]] w fun e w' => e = .returned (.bool true) ∧ Below w.heap.size w w' := by
  have h1 : (p != p) = false := by simp
  have h2 : (q != q) = false := by simp
  have h3 : (r != r) = false := by simp
  go_enter Try.func60, Try.ntmps60
  go_wp2
  go_ret
  exact ⟨rfl, by go_grown⟩
set_option maxRecDepth 100000 in
set_option maxHeartbeats 1000000 in
theorem laws_eqInsS (A A' : Option Addr) (n c c' B : Nat) (cs : List Pl.Op3) (w : World) (hx : RdI w B A n cs) (hy : RdI w B A' n cs) (hB : B ≤ w.heap.size) (hn : n ≤ 1048576) :
    Calls Try.prog 25 #[.slice A n c, .slice A' n c'] w fun e w' => e = .returned (.bool true) ∧ Below w.heap.size w w' := by
  have hl := hx.1
  rcases Nat.eq_zero_or_pos n with h0 | h0
  · subst h0
    go_enter Try.func25, Try.ntmps25
    go_wp2
    refine wp_loop_rounds 1 ?_
    rw [rounds_succ]
    go_wp2
    go_ret
    exact ⟨rfl, Below.refl _ _⟩
  · obtain ⟨b, off, rfl, hbl, hc⟩ := hx.pos h0
    obtain ⟨b', off', rfl, hbl', hc'⟩ := hy.pos h0
    have HC := Lib.hid hc
    have HC' := Lib.hid hc'
    have hL := Lib.hid hl
    clear hc hc' hx hy hl
    go_enter Try.func25, Try.ntmps25
    go_wp2
    go_loopw [5] (fun i wr => ∃ j : Nat, j ≤ n ∧ i = .int .i64 j ∧ Below w.heap.size w wr) (fun i _ => n - (intOf i).toNat)
    case atStart => exact ⟨0, by omega, rfl, Below.refl _ _⟩
    case round =>
      obtain ⟨j, hj, rfl, hb⟩ := hrel
      have hz := hb.size
      by_cases hlt : j < n
      · obtain ⟨⟨p, q, r⟩, eo⟩ : ∃ o, cs[j]? = some o := ⟨_, List.getElem?_eq_getElem (by have := hL.out; omega)⟩
        obtain ⟨u1, u2, u3⟩ := HC.out j _ eo
        obtain ⟨v1, v2, v3⟩ := HC'.out j _ eo
        have c1 : wr.cell? ⟨b, off + j * 3, none⟩ = some (.int .i64 p) := (hb.cell (p := ⟨b, off + j * 3, none⟩) (show b < w.heap.size by omega)).trans u1
        have c2 : wr.cell? ⟨b, off + j * 3 + 1, none⟩ = some (.int .i64 q) := (hb.cell (p := ⟨b, off + j * 3 + 1, none⟩) (show b < w.heap.size by omega)).trans u2
        have c3 : wr.cell? ⟨b, off + j * 3 + 2, none⟩ = some (.int .i64 r) := (hb.cell (p := ⟨b, off + j * 3 + 2, none⟩) (show b < w.heap.size by omega)).trans u3
        have e1 : wr.cell? ⟨b', off' + j * 3, none⟩ = some (.int .i64 p) := (hb.cell (p := ⟨b', off' + j * 3, none⟩) (show b' < w.heap.size by omega)).trans v1
        have e2 : wr.cell? ⟨b', off' + j * 3 + 1, none⟩ = some (.int .i64 q) := (hb.cell (p := ⟨b', off' + j * 3 + 1, none⟩) (show b' < w.heap.size by omega)).trans v2
        have e3 : wr.cell? ⟨b', off' + j * 3 + 2, none⟩ = some (.int .i64 r) := (hb.cell (p := ⟨b', off' + j * 3 + 2, none⟩) (show b' < w.heap.size by omega)).trans v3
        have hin : (j : Int) < (n : Int) := by omega
        have hj0 : (0 : Int) ≤ j := by omega
        clear u1 u2 u3 v1 v2 v3 eo
        go_wp2_with fail
        go_region_law (first
          | (go_simp; go_at_call 60; refine (laws_eqIns p q r _).mono ?_; rintro e w5 ⟨rfl, hb5⟩; dsimp only))
        all_goals go_wp2_with fail
        all_goals go_roundw
        all_goals first
          | exact ⟨j + 1, by omega, by go_num, hb.trans ((⟨hb5.os, hb5.tape, hb5.output, hb5.size, hb5.block⟩ : Below wr.heap.size wr w5).mono hz)⟩
          | (simp [intOf]; omega)
      · obtain rfl : j = n := by omega
        go_wp2_with fail
        go_ret
        exact ⟨rfl, hb⟩
/-- The slice '.slice A n c' of operations holds the numbers k, k + 1, .. -/
def RdM (w : World) (B : Nat) (A : Option Addr) (n : Nat) (k : Int) : Prop := n = 0 ∨ ∃ b off, A = some ⟨b, off, none⟩ ∧ b < B ∧ ∀ t : Nat, t < n * 3 → w.cell? ⟨b, off + t, none⟩ = some (.int .i64 (k + t))
theorem RdM.below {w w' : World} {B n : Nat} {A : Option Addr} {k : Int} (h : RdM w B A n k) (hb : Below B w w') : RdM w' B A n k := by
  rcases h with h | ⟨b, off, e, hlt, hc⟩
  · exact .inl h
  · exact .inr ⟨b, off, e, hlt, fun t ht => (hb.cell (p := ⟨b, off + t, none⟩) hlt).trans (hc t ht)⟩
set_option maxHeartbeats 1000000 in
theorem laws_heldInsS (A : Option Addr) (n c B : Nat) (k : Int) (w : World) (hx : RdM w B A n k) (hn : n ≤ 1000000) (hk0 : 0 ≤ k) (hk1 : k ≤ 1000000) :
    Calls Try.prog 28 #[.slice A n c, .int .i64 k] w fun e w' => e = .returned (.int .i64 (k + 3 * n)) ∧ w = w' := by
  rcases hx with h0 | ⟨b, off, rfl, hlt, hc⟩
  · subst h0
    go_enter Try.func28, Try.ntmps28
    go_wp2
    refine wp_loop_rounds 1 ?_
    rw [rounds_succ]
    go_wp2
    go_ret
    exact ⟨ret_int (by omega), rfl⟩
  · have HC := Lib.hid hc
    clear hc
    go_enter Try.func28, Try.ntmps28
    go_wp2
    go_loop [1, 5] (fun v i => ∃ j : Nat, j ≤ n ∧ i = .int .i64 j ∧ v = .int .i64 (k + 3 * j)) (fun _ i => n - (intOf i).toNat)
    case atStart => exact ⟨0, by omega, rfl, by go_num⟩
    case round =>
      obtain ⟨j, hj, rfl, rfl⟩ := hrel
      by_cases hlt : j < n
      · have c1 : w.cell? ⟨b, off + j * 3, none⟩ = some (.int .i64 (k + 3 * j)) := by rw [HC.out (j * 3) (by omega)]; congr 2; omega
        have c2 : w.cell? ⟨b, off + j * 3 + 1, none⟩ = some (.int .i64 (k + 3 * j + 1)) := by rw [Nat.add_assoc, HC.out (j * 3 + 1) (by omega)]; congr 2; omega
        have c3 : w.cell? ⟨b, off + j * 3 + 2, none⟩ = some (.int .i64 (k + 3 * j + 1 + 1)) := by rw [Nat.add_assoc, HC.out (j * 3 + 2) (by omega)]; congr 2; omega
        have hin : (j : Int) < (n : Int) := by omega
        have hj0 : (0 : Int) ≤ j := by omega
        go_wp2
        go_round
        case rel => exact ⟨j + 1, by omega, by go_num, by go_num⟩
        case measure => simp [intOf]; omega
      · have hjn : j = n := by omega
        subst hjn
        go_wp2
        go_ret
        exact ⟨ret_int rfl, rfl⟩
set_option maxHeartbeats 1000000 in
theorem laws_markInsS (base n c : Nat) (A : Option Addr) (xs : List Value) (k : Int) (w : World) (hown : w.ownsRow base 68 3 (.slice A n c) n xs) (hn : n ≤ 1000000) (hk0 : 0 ≤ k) (hk1 : k ≤ 1000000) (hB : base ≤ w.heap.size) :
    Calls Try.prog 27 #[.slice A n c, .int .i64 k] w fun e w' => e = .returned (.int .i64 (k + 3 * n)) ∧ RdM w' w'.heap.size A n k ∧ Below base w w' := by
  rcases Nat.eq_zero_or_pos n with h0 | h0
  · subst h0
    go_enter Try.func27, Try.ntmps27
    go_wp2
    refine wp_loop_rounds 1 ?_
    rw [rounds_succ]
    go_wp2
    go_ret
    exact ⟨ret_int (by omega), .inl rfl, Below.refl _ _⟩
  · obtain ⟨g, rfl, hg0⟩ : ∃ g, A = some ⟨g, 0, none⟩ ∧ base ≤ g := by
      rcases hown.2 with ⟨_, h1⟩ | ⟨g', cap, cur, hv, hgb, _⟩
      · omega
      · injection hv with h1 h2 h3
        exact ⟨g', h1, hgb⟩
    have hl := hown.1
    have HL := Lib.hid hl
    clear hl
    go_enter Try.func27, Try.ntmps27
    go_wp2
    go_loopw [1, 5] (fun v i wr => ∃ (j : Nat) (ys : List Value), j ≤ n ∧ i = .int .i64 j ∧ v = .int .i64 (k + 3 * j) ∧ Hid (ys.length = n * 3) ∧ Hid (∀ t : Nat, t < j * 3 → ys[t]? = some (.int .i64 (k + t))) ∧ wr.ownsRow base 68 3 (.slice (some ⟨g, 0, none⟩) n c) n ys ∧ Below base w wr) (fun _ i _ => n - (intOf i).toNat)
    case atStart => exact ⟨0, xs, by omega, rfl, by go_num, Lib.hid (by have := HL.out; omega), Lib.hid (fun t ht => absurd ht (by omega)), hown, Below.refl _ _⟩
    case round =>
      obtain ⟨j, ys, hj, rfl, rfl, hyl, hys, hown1, hb⟩ := hrel
      have hz := hb.size
      by_cases hlt : j < n
      · have c1 : wr.cell? ⟨g, j * 3, none⟩ = some (ys[j * 3]'(by have := hyl.out; omega)) := by rw [hown1.cellAt _ (by omega)]; exact List.getElem?_eq_getElem _
        have c2 : wr.cell? ⟨g, j * 3 + 1, none⟩ = some (ys[j * 3 + 1]'(by have := hyl.out; omega)) := by rw [hown1.cellAt _ (by omega)]; exact List.getElem?_eq_getElem _
        have c3 : wr.cell? ⟨g, j * 3 + 2, none⟩ = some (ys[j * 3 + 2]'(by have := hyl.out; omega)) := by rw [hown1.cellAt _ (by omega)]; exact List.getElem?_eq_getElem _
        have f1 : wr.frozen? ⟨g, j * 3, none⟩ = false := hown1.frozenAt _
        have f2 : wr.frozen? ⟨g, j * 3 + 1, none⟩ = false := hown1.frozenAt _
        have f3 : wr.frozen? ⟨g, j * 3 + 2, none⟩ = false := hown1.frozenAt _
        have s1 := hown1.stored (j * 3) (.int .i64 (k + 3 * j))
        have s2 := s1.1.stored (j * 3 + 1) (.int .i64 (k + 3 * j + 1))
        have s3 := s2.1.stored (j * 3 + 2) (.int .i64 (k + 3 * j + 1 + 1))
        have hb3 : Below base w _ := ((hb.grown s1.2 (by omega) (fun q hq => by simp [Value.ownBlock] at hq; omega)).grown s2.2 (by simp [World.setCell]; omega) (fun q hq => by simp [Value.ownBlock] at hq; omega)).grown s3.2 (by simp [World.setCell]; omega) (fun q hq => by simp [Value.ownBlock] at hq; omega)
        have S3 := Lib.hid (And.intro s3.1 hb3)
        have hin : (j : Int) < (n : Int) := by omega
        have hj0 : (0 : Int) ≤ j := by omega
        clear s1 s2 s3 hb3
        go_wp2
        go_roundw
        case rel =>
          refine ⟨j + 1, ((ys.set (j * 3) (.int .i64 (k + 3 * j))).set (j * 3 + 1) (.int .i64 (k + 3 * j + 1))).set (j * 3 + 2) (.int .i64 (k + 3 * j + 1 + 1)), by omega, by go_num, by go_num, Lib.hid (by simp [hyl.out]), Lib.hid (fun t ht => ?_), S3.out.1, S3.out.2⟩
          have hy := hyl.out
          rw [List.getElem?_set, List.getElem?_set, List.getElem?_set]
          simp only [List.length_set]
          by_cases e3 : j * 3 + 2 = t
          · subst e3; rw [if_pos rfl, if_pos (by omega)]; congr 2; omega
          · rw [if_neg e3]
            by_cases e2 : j * 3 + 1 = t
            · subst e2; rw [if_pos rfl, if_pos (by omega)]; congr 2; omega
            · rw [if_neg e2]
              by_cases e1 : j * 3 = t
              · subst e1; rw [if_pos rfl, if_pos (by omega)]; congr 2; omega
              · rw [if_neg e1]; exact hys.out t (by omega)
        case measure => simp [intOf]; omega
      · have hjn : j = n := by omega
        subst hjn
        go_wp2
        go_ret
        refine ⟨ret_int rfl, .inr ⟨g, 0, rfl, (hown1.lt g rfl).2, fun t ht => ?_⟩, hb⟩
        rw [Nat.zero_add, hown1.cellAt t (by omega)]
        exact hys.out t ht
end Go.Proofs.Ytnjcephddilalaa
