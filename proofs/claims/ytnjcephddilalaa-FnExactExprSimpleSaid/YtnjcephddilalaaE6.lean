/-
  Codes in memory: slices of operations, three numbers each; what is there under a number, and its value.
  Conditions: as stated at each.
-/
import Derived.Test.YtnjcephddilalaaE3
import Derived.Test.YtnjcephddilalaaPc
namespace Go.Proofs.Ytnjcephddilalaa
set_option linter.unusedVariables false
set_option linter.unusedSimpArgs false
open Go.RowKit

/-- The three cells of an operation. -/
def c3 (c : Pl.Op3) : List Value := [.int .i64 c.1, .int .i64 c.2.1, .int .i64 c.2.2]
def I3 (cs : List Pl.Op3) : List Value := cs.flatMap c3
theorem I3_len (cs : List Pl.Op3) : (I3 cs).length = cs.length * 3 := by
  induction cs with
  | nil => rfl
  | cons c t ih => show (c3 c ++ I3 t).length = _; rw [List.length_append, ih, List.length_cons]; simp [c3]; omega
theorem I3_append (a b : List Pl.Op3) : I3 (a ++ b) = I3 a ++ I3 b := by simp [I3, List.flatMap_append]
theorem I3_one (c : Pl.Op3) : I3 [c] = c3 c := by simp [I3]
theorem I3_get : ∀ (cs : List Pl.Op3) (j : Nat) (c : Pl.Op3), cs[j]? = some c → (I3 cs)[j * 3]? = some (.int .i64 c.1) ∧ (I3 cs)[j * 3 + 1]? = some (.int .i64 c.2.1) ∧ (I3 cs)[j * 3 + 2]? = some (.int .i64 c.2.2)
  | [], j, c, h => by simp at h
  | d :: t, 0, c, h => by
    simp at h; subst h
    exact ⟨rfl, rfl, rfl⟩
  | d :: t, j + 1, c, h => by
    have ih := I3_get t j c (by simpa using h)
    have e : ∀ m, (I3 (d :: t))[m + 3]? = (I3 t)[m]? := fun m => by
      show (c3 d ++ I3 t)[m + 3]? = _
      rw [List.getElem?_append_right (by simp [c3])]
      simp [c3]
    rw [show (j + 1) * 3 = j * 3 + 3 by omega, show j * 3 + 3 + 1 = (j * 3 + 1) + 3 by omega, show j * 3 + 3 + 2 = (j * 3 + 2) + 3 by omega, e, e, e]
    exact ih
/-- The slice '.slice A n c' holds the operations cs, below block B. -/
def RdI (w : World) (B : Nat) (A : Option Addr) (n : Nat) (cs : List Pl.Op3) : Prop :=
  cs.length = n ∧ (n = 0 ∨ ∃ b off, A = some ⟨b, off, none⟩ ∧ b < B ∧ ∀ j c, cs[j]? = some c → w.cell? ⟨b, off + j * 3, none⟩ = some (.int .i64 c.1) ∧ w.cell? ⟨b, off + j * 3 + 1, none⟩ = some (.int .i64 c.2.1) ∧ w.cell? ⟨b, off + j * 3 + 2, none⟩ = some (.int .i64 c.2.2))
section
variable {w w' : World} {B B' n : Nat} {A : Option Addr} {cs : List Pl.Op3}
theorem RdI.zero : RdI w B A 0 [] := ⟨rfl, .inl rfl⟩
theorem RdI.pos (h : RdI w B A n cs) (hn : 0 < n) : ∃ b off, A = some ⟨b, off, none⟩ ∧ b < B ∧ ∀ j c, cs[j]? = some c → w.cell? ⟨b, off + j * 3, none⟩ = some (.int .i64 c.1) ∧ w.cell? ⟨b, off + j * 3 + 1, none⟩ = some (.int .i64 c.2.1) ∧ w.cell? ⟨b, off + j * 3 + 2, none⟩ = some (.int .i64 c.2.2) := by
  rcases h.2 with h | h
  · omega
  · exact h
theorem RdI.keep (h : RdI w B A n cs) (hk : ∀ p : Addr, p.block < B → w'.cell? p = w.cell? p) : RdI w' B A n cs :=
  ⟨h.1, by
    rcases h.2 with h | ⟨b, off, e, hb, hc⟩
    · exact .inl h
    · exact .inr ⟨b, off, e, hb, fun j c hj => by
        obtain ⟨h1, h2, h3⟩ := hc j c hj
        exact ⟨(hk _ hb).trans h1, (hk _ hb).trans h2, (hk _ hb).trans h3⟩⟩⟩
theorem RdI.more (h : RdI w B A n cs) (hB : B ≤ B') : RdI w B' A n cs :=
  ⟨h.1, by
    rcases h.2 with h | ⟨b, off, e, hb, hc⟩
    · exact .inl h
    · exact .inr ⟨b, off, e, by omega, hc⟩⟩
theorem RdI.below (h : RdI w B A n cs) (hb : Below B w w') : RdI w' B A n cs := h.keep fun _ hp => hb.cell hp
theorem RdI.drewN (h : RdI w B A n cs) (k : Nat) : RdI (w.drewN k) B A n cs := h
/-- A row of the call's own holds operations. -/
theorem rdI_own {base c : Nat} {e : TypeId} (h : w.ownsRow base e 3 (.slice A n c) n (I3 cs)) : RdI w w.heap.size A n cs := by
  have hl := h.1
  rw [I3_len] at hl
  refine ⟨by omega, ?_⟩
  rcases h.2 with ⟨h0, rfl⟩ | ⟨g, cap, cur, hv, hg, hh, hnc, hm, hs, hx⟩
  · exact .inl rfl
  · injection hv with h1 h2 h3
    subst h1
    refine .inr ⟨g, 0, rfl, ?_, fun j d hj => ?_⟩
    · rcases Nat.lt_or_ge g w.heap.size with h1 | h1
      · exact h1
      · rw [Array.getElem?_eq_none h1] at hh; cases hh
    · obtain ⟨c1, c2, c3⟩ := I3_get cs j d hj
      have key : ∀ m u, (I3 cs)[m]? = some u → w.cell? ⟨g, m, none⟩ = some u := fun m u hu => by
        have h3 := h.cells (g := g) rfl m u hu
        have e : (⟨g, 0, none⟩ : Addr).add m = ⟨g, m, none⟩ := by
          unfold Addr.add
          split
          · rename_i h0; subst h0; rfl
          · simp
        rwa [e] at h3
      rw [Nat.zero_add]
      exact ⟨key _ _ c1, key _ _ c2, key _ _ c3⟩
end

/-- An append of one number as a step of a region that draws, with what stays as it was. -/
theorem step_int_far {ops : Array Oper} {o : Oper} {a : Act} {w : World} {K : Act → World → Prop} {Q : Exit → Act → World → Prop} {E : Prop} (hgd : o.guard = none) (s x : Operand)
    (ho : o.op = .call { callee := .builtin .append, args := #[s, x], argTypes := #[22, 22] })
    (base : Nat) (v : Value) (n : Nat) (xs : List Value) (u : Value) (ad : Addr) (hs : a.eval s = v) (hx : a.eval x = .slice (some ad) 1 1) (hown : w.ownsRow base 3 1 v n xs)
    (hc : w.cell? ad = some u) (h1 : u.oneCell' = true) (hn : n ≤ 1000000000000) (hbase : base ≤ w.heap.size)
    (h : ∀ v' w', w'.ownsRow base 3 1 v' (n + 1) (xs ++ [u]) → Below base w w' → w.grownBy w' v.ownBlock → K (a.put o.dst v') w') :
    if Region.wanted o (yielded ops a.tmps) = true then Oper.wp Try.prog o a w K Q else E := by
  have hw : Region.wanted o (yielded ops a.tmps) = true := by simp [Region.wanted, hgd]
  rw [if_pos hw]
  obtain ⟨i0, hi0, hz0, hz1, hz2⟩ := info_parts int_info
  have hc' : ∀ j u', [u][j]? = some u' → w.cell? (ad.add j) = some u' := by
    intro j u' hu
    rcases j with _ | j
    · simp at hu; subst hu; simpa [Addr.add] using hc
    · simp at hu
  exact wp_append_own w s x _ ho base 3 i0 _ 1 8 Try.underlying22 hi0 hz0 hz1 hz2 rfl (by decide) v n xs hs hown ad 1 1 [u] hx rfl
    hc' (by simpa using h1) (by simp only [maxLen]; omega) (by omega) hbase
    (fun v' w' h2 h3 _ => h v' w' h2 ((Below.refl base w).grown h3 hbase (fun k hk => (hown.lt k hk).1)) h3)
theorem far_cell {w w' : World} {base n g : Nat} {e : TypeId} {size : Nat} {v : Value} {xs : List Value} {o : Nat} {u : Value} (hown : w.ownsRow base e size v n xs) (hg : w.grownBy w' v.ownBlock)
    (hne : v.ownBlock ≠ some g) (hc : w.cell? ⟨g, o, none⟩ = some u) : w'.cell? ⟨g, o, none⟩ = some u := hg.cell hc (fun e => hne e.symm)

set_option maxHeartbeats 1000000 in
theorem spec_l9There (n : Int) (m : Nat) (w : World) (hm : m ≤ 1000000) :
    Calls Try.prog 69 #[.int .i64 n, .int .i64 m] w fun e w' => e = .returned (.bool (Pl.there n m)) ∧ w = w' := by
  by_cases h1 : 0 ≤ n ∧ n ≤ 11
  · have he := Lib.hid (show Pl.there n m = true from decide_eq_true (.inl h1))
    go_enter Try.func69, Try.ntmps69
    go_wp2_with (first | (go_at_call 48; refine (spec_l1In_t _ _ _ _ (by omega)).mono ?_; rintro e w' ⟨rfl, rfl⟩))
    go_ret
    exact ⟨ret_bool he.out.symm, rfl⟩
  · by_cases h2 : 100 ≤ n ∧ n ≤ 99 + (m : Int)
    · have he := Lib.hid (show Pl.there n m = true from decide_eq_true (.inr h2))
      go_enter Try.func69, Try.ntmps69
      go_wp2_with (first | (go_at_call 48; refine (spec_l1In_t _ _ _ _ (by omega)).mono ?_; rintro e w' ⟨rfl, rfl⟩) | (go_at_call 48; refine (spec_l1In_f _ _ _ _ (by omega)).mono ?_; rintro e w' ⟨rfl, rfl⟩))
      go_ret
      exact ⟨ret_bool he.out.symm, rfl⟩
    · have he := Lib.hid (show Pl.there n m = false from decide_eq_false (fun h => h.elim h1 h2))
      go_enter Try.func69, Try.ntmps69
      go_wp2_with (first | (go_at_call 48; refine (spec_l1In_f _ _ _ _ (by omega)).mono ?_; rintro e w' ⟨rfl, rfl⟩))
      go_ret
      exact ⟨ret_bool he.out.symm, rfl⟩
set_option maxHeartbeats 1000000 in
theorem spec_l9At (k n x y : Int) (A : Option Addr) (m c B : Nat) (vals : List Int) (w : World) (hr : Rd w B A m (I64 vals)) (hm : m ≤ 1000000) (ht : Pl.there n m = true) (h0 : 0 ≤ k) (h1 : k ≤ 61) :
    Calls Try.prog 71 #[.int .i64 k, .slice A m c, .int .i64 n, .int .i64 x, .int .i64 y] w fun e w' => e = .returned (.int .i64 (Pl.atv k vals n x y)) ∧ w = w' := by
  have ht := of_decide_eq_true ht
  have lv : vals.length = m := by have := hr.len; rwa [I64_len] at this
  by_cases h : 100 ≤ n
  · have he := Lib.hid (show Pl.atv k vals n x y = vals.getD (n - 100).toNat 0 by unfold Pl.atv; rw [if_pos h])
    obtain ⟨b, off, rfl, _, hc⟩ := hr.pos (by omega)
    obtain ⟨i, hi⟩ := Int.eq_ofNat_of_zero_le (show 0 ≤ n - 100 by omega)
    obtain rfl : n = 100 + (i : Int) := by omega
    have hc1 := hc i _ (I64_getD (xs := vals) (j := i) (by omega))
    have e2 : (100 + (i : Int) - 100).toNat = i := by omega
    rw [e2] at he
    generalize vals.getD i 0 = v at *
    have k1 : (100 : Int) + (i : Int) - 100 = (i : Int) := by omega
    have k2 : (i : Int) < (m : Int) := by omega
    have k3 : (0 : Int) ≤ (i : Int) := by omega
    clear ht lv hr hc hi e2
    go_enter Try.func71, Try.ntmps71
    go_wp2
    go_ret
    exact ⟨ret_int he.out.symm, rfl⟩
  · have he := Lib.hid (show Pl.atv k vals n x y = Pl.leafv k n x y by unfold Pl.atv; rw [if_neg h])
    go_enter Try.func71, Try.ntmps71
    go_wp2_with (first | (go_at_call 94; refine (spec_l9Leaf _ _ _ _ _ (by omega) (by omega) (by omega) (by omega)).mono ?_; rintro e w' ⟨rfl, rfl⟩))
    go_ret
    exact ⟨ret_int he.out.symm, rfl⟩
end Go.Proofs.Ytnjcephddilalaa
