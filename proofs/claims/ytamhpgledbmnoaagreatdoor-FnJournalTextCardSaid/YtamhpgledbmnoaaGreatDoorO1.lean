/-
  Slices of the call's own that may begin inside their block: how they read, what keeps them, what is put behind them.
  Conditions: as stated at each.
-/
import Derived.Test.YtamhpgledbmnoaaGreatDoorB7
import Derived.Test.YtamhpgledbmnoaaGreatDoorKE
namespace Go.Proofs.YtamhpgledbmnoaaGreatDoor
set_option linter.unusedVariables false
set_option linter.unusedSimpArgs false
open Go.RowKit
/-- The slice '.slice A n c' holds the one-cell values xs in memory of the call's own, from block 'base' on. -/
def ORow (w : World) (base : Nat) (t : TypeId) (A : Option Addr) (n c : Nat) (xs : List Value) : Prop :=
  xs.length = n ∧ n ≤ c ∧ c ≤ maxLen ∧ ((A = none ∧ c = 0) ∨ ∃ b off cs, A = some ⟨b, off, none⟩ ∧ base ≤ b ∧ w.heap[b]? = some (.cells cs t (0, 0)) ∧ off + c ≤ cs.size ∧ ∀ j u, xs[j]? = some u → cs[off + j]? = some u)
theorem heap_lt {w : World} {b : Nat} {o : Obj} (h : w.heap[b]? = some o) : b < w.heap.size := by
  rcases Nat.lt_or_ge b w.heap.size with h1 | h1
  · exact h1
  · rw [Array.getElem?_eq_none h1] at h; cases h
section
variable {w w' : World} {base B n c : Nat} {t : TypeId} {A : Option Addr} {xs : List Value}
theorem ORow.of_own (h : w.ownsRow base t 1 (.slice A n c) n xs) : ORow w base t A n c xs := by
  have hl := h.1
  rcases h.2 with ⟨e, h0⟩ | ⟨g, cap, cur, e, hg, hh, hnc, hm, hs, hx⟩
  · injection e with e1 e2 e3
    subst e1 e2 e3
    exact ⟨by simpa using hl, Nat.le_refl _, by simp [maxLen], .inl ⟨rfl, rfl⟩⟩
  · injection e with e1 e2 e3
    subst e1 e3
    refine ⟨by simpa using hl, hnc, hm, .inr ⟨g, 0, cur, rfl, hg, hh, by omega, fun j u hu => ?_⟩⟩
    rw [← hx] at hu
    have hj : j < n := by
      have := (List.getElem?_eq_some_iff.1 hu).1
      rw [List.length_take] at this
      omega
    rw [List.getElem?_take_of_lt (by omega)] at hu
    rw [Nat.zero_add]
    simpa using hu
theorem ORow.len (h : ORow w base t A n c xs) : xs.length = n := h.1
theorem ORow.cap (h : ORow w base t A n c xs) : n ≤ c := h.2.1
theorem ORow.rd (h : ORow w base t A n c xs) : Rd w w.heap.size A n xs := by
  obtain ⟨h1, h2, h3, h4⟩ := h
  rcases h4 with ⟨rfl, h4⟩ | ⟨b, off, cs, rfl, hb, hh, hs, hc⟩
  · exact ⟨h1, .inl (by omega)⟩
  · exact ⟨h1, .inr ⟨b, off, rfl, heap_lt hh, fun j u hu => (cell_of_row w b _ cs t (0, 0) hh).trans (hc j u hu)⟩⟩
theorem ORow.keep (h : ORow w base t A n c xs) (hk : ∀ b, base ≤ b → b < w.heap.size → w'.heap[b]? = w.heap[b]?) : ORow w' base t A n c xs := by
  obtain ⟨h1, h2, h3, h4⟩ := h
  refine ⟨h1, h2, h3, ?_⟩
  rcases h4 with h4 | ⟨b, off, cs, rfl, hb, hh, hs, hc⟩
  · exact .inl h4
  · exact .inr ⟨b, off, cs, rfl, hb, (hk b hb (heap_lt hh)).trans hh, hs, hc⟩
theorem ORow.below (h : ORow w base t A n c xs) (hb : Below w.heap.size w w') : ORow w' base t A n c xs := h.keep fun b _ hl => hb.block b hl
theorem ORow.alloc (h : ORow w base t A n c xs) (o : Obj) : ORow (w.alloc o) base t A n c xs := h.keep fun b _ hl => Below.heap_alloc w o b hl
theorem ORow.drew (h : ORow w base t A n c xs) : ORow w.drew base t A n c xs := h
theorem ORow.drewN (h : ORow w base t A n c xs) (k : Nat) : ORow (w.drewN k) base t A n c xs := h
theorem ORow.grown {R : Nat} (h : ORow w base t A n c xs) (hg : w.grownBy w' (some R)) (hR : R < base) : ORow w' base t A n c xs := h.keep fun b hb hl => hg.block b hl (fun e => by injection e; omega)
theorem ORow.setc {g o : Nat} (h : ORow w base t A n c xs) (hg : g < base) (u : Value) : ORow (w.setCell ⟨g, o, none⟩ u) base t A n c xs := h.keep fun b hb hl => Below.heap_setCell w ⟨g, o, none⟩ u b (show b ≠ g by omega)
theorem ORow.mono (h : ORow w base t A n c xs) (hB : B ≤ base) : ORow w B t A n c xs := by
  obtain ⟨h1, h2, h3, h4⟩ := h
  refine ⟨h1, h2, h3, ?_⟩
  rcases h4 with h4 | ⟨b, off, cs, rfl, hb, hh, hs, hc⟩
  · exact .inl h4
  · exact .inr ⟨b, off, cs, rfl, by omega, hh, hs, hc⟩
theorem ORow.take {k : Nat} (h : ORow w base t A n c xs) (hk : k ≤ n) : ORow w base t A k c (xs.take k) := by
  obtain ⟨h1, h2, h3, h4⟩ := h
  refine ⟨by rw [List.length_take]; omega, by omega, h3, ?_⟩
  rcases h4 with h4 | ⟨b, off, cs, rfl, hb, hh, hs, hc⟩
  · exact .inl h4
  · refine .inr ⟨b, off, cs, rfl, hb, hh, hs, fun j u hu => hc j u ?_⟩
    have hj : j < k := by
      have := (List.getElem?_eq_some_iff.1 hu).1
      rw [List.length_take] at this
      omega
    rwa [List.getElem?_take_of_lt hj] at hu
theorem ORow.drop1 (h : ORow w base t A n c xs) (h2 : 2 ≤ n) : ∃ b off, A = some ⟨b, off, none⟩ ∧ ORow w base t (some ⟨b, off + 1, none⟩) (n - 1) (c - 1) (xs.drop 1) := by
  obtain ⟨h1, h2', h3, h4⟩ := h
  rcases h4 with ⟨_, h4⟩ | ⟨b, off, cs, rfl, hb, hh, hs, hc⟩
  · omega
  · refine ⟨b, off, rfl, by rw [List.length_drop]; omega, by omega, by omega, .inr ⟨b, off + 1, cs, rfl, hb, hh, by omega, fun j u hu => ?_⟩⟩
    rw [List.getElem?_drop] at hu
    have := hc (1 + j) u hu
    rwa [show off + 1 + j = off + (1 + j) by omega]
theorem ORow.lt (h : ORow w base t A n c xs) : ∀ k, (Value.slice A n c).ownBlock = some k → base ≤ k ∧ k < w.heap.size := by
  obtain ⟨h1, h2, h3, h4⟩ := h
  intro k hk
  rcases h4 with ⟨rfl, _⟩ | ⟨b, off, cs, rfl, hb, hh, hs, hc⟩
  · simp [Value.ownBlock] at hk
  · simp [Value.ownBlock] at hk
    subst hk
    exact ⟨hb, heap_lt hh⟩
end
/-- Appending one value to such a slice. -/
theorem run_append_orow {w : World} (base : Nat) (t ty e : TypeId) (i : TypeInfo) (z : Value) (bytes : Nat) (ht : Tryz.prog.underlying t = some (.slice e)) (hi : Tryz.prog.info? e = some i) (hz : i.zero = some z) (hsize : i.size = 1) (hby : i.bytes = bytes) (hzs : z.cells.size = 1)
    {A : Option Addr} {n c : Nat} {xs : List Value} (h : ORow w base e A n c xs) (ad : Addr) (m : Nat) (u : Value) (hu : w.cell? ad = some u) (h1 : u.oneCell' = true)
    (h63 : n + 1 ≤ maxLen) (hbytes : (n + 1) * bytes ≤ 140737488355328) (hbase : base ≤ w.heap.size) :
    ∃ v' w', (Builtin.append_ #[t, t] ty #[.slice A n c, .slice (some ad) 1 m]).run Tryz.prog w = .ok v' w' ∧ (∃ A' c', v' = .slice A' (n + 1) c' ∧ ORow w' base e A' (n + 1) c' (xs ++ [u])) ∧ w.grownBy w' (Value.slice A n c).ownBlock := by
  have hnews : ∀ j y, [u][j]? = some y → w.cell? (ad.add j) = some y := by
    intro j y hy
    rcases j with _ | j
    · simp at hy; subst hy; simpa [Addr.add] using hu
    · simp at hy
  obtain ⟨l1, l2, l3, l4⟩ := h
  rcases l4 with ⟨rfl, hc0⟩ | ⟨b, off, cs, rfl, hb, hh, hs, hc⟩
  · subst hc0
    obtain rfl : n = 0 := by omega
    obtain rfl := List.eq_nil_of_length_eq_zero l1
    obtain ⟨v', w', hr, h2, h3, _, _⟩ := run_append_own_at (P := Tryz.prog) w base t ty e i z 1 bytes ht hi hz hsize hby hzs (by omega) (.slice none 0 0) 0 [] (World.ownsRow_nil _ _ _ _) ad 1 m [u] rfl hnews (by simpa using h1) h63 hbytes hbase
    obtain ⟨A', c', rfl, _, _⟩ := Rd.of_own h2
    exact ⟨_, w', hr, ⟨A', c', rfl, .of_own h2⟩, h3⟩
  · have hcell : ∀ k, w.cell? ⟨b, k, none⟩ = cs[k]? := fun k => cell_of_row w b k cs e (0, 0) hh
    by_cases hroom : n + 1 ≤ c
    · have hr := run_append_room_cells (P := Tryz.prog) w t ty e i ht hi b off n c ad 1 m [u] (by rw [hsize]; rfl) hnews (by simpa using h1) hroom
        (fun j hj => by rw [hcell, hsize, Array.getElem?_eq_getElem (by simp at hj; omega)]; rfl) (fun j hj => by simp [World.frozen?, hh])
      rw [hsize, Nat.mul_one] at hr
      refine ⟨_, _, hr, ⟨some ⟨b, off, none⟩, c, rfl, by rw [List.length_append, l1]; rfl, hroom, l3, .inr ⟨b, off, cs.setIfInBounds (off + n) u, rfl, hb, ?_, by simpa using hs, fun j y hy => ?_⟩⟩, ?_⟩
      · show (w.setCell ⟨b, off + n, none⟩ u).heap[b]? = _
        simp [World.setCell, Array.getElem?_modify, hh]
      · rcases Nat.lt_or_ge j n with hj | hj
        · rw [List.getElem?_append_left (by omega)] at hy
          rw [Array.getElem?_setIfInBounds_ne (by omega)]
          exact hc j y hy
        · rw [List.getElem?_append_right (by omega), l1] at hy
          obtain rfl : j = n := by
            have := (List.getElem?_eq_some_iff.1 hy).1
            simp at this
            omega
          simp at hy
          subst hy
          rw [Array.getElem?_setIfInBounds_self_of_lt (by omega)]
      · exact setc_grown u
    · obtain ⟨v', w', hr, h2, h3⟩ := run_append_arg_grows (P := Tryz.prog) w t ty e i z 1 bytes ht hi hz hsize hby hzs (by omega) ⟨b, off, none⟩ n c xs (by omega) (fun j y hy => by rw [addr_add]; exact (hcell _).trans (hc j y hy)) ad 1 m [u] rfl hnews (by omega) h63 hbytes
      obtain ⟨A', c', rfl, _, _⟩ := Rd.of_own h2
      exact ⟨_, w', hr, ⟨A', c', rfl, (ORow.of_own h2).mono hbase⟩, ⟨h3.os, h3.tape, h3.output, h3.size, fun k hk _ => h3.block k hk (by simp)⟩⟩
section
variable {w : World} {ops : Array Oper} {rest : List Oper} {o : Oper} {a : Act} {Q : Exit → Act → World → Prop} {K : Act → World → Prop} {E : Prop}
/-- A text behind texts. -/
theorem app_text (hgd : o.guard = none) (s x : Operand)
    (ho : o.op = .call { callee := .builtin .append, args := #[s, x], argTypes := #[42, 42] })
    (base n c : Nat) (A : Option Addr) (ts : List (List UInt8)) (t : List UInt8) (ad : Addr) (hs : a.eval s = .slice A n c) (hx : a.eval x = .slice (some ad) 1 1) (hrow : ORow w base 9 A n c (Tx ts)) (hc : w.cell? ad = some (.string (Ba t)))
    (hn : n ≤ 1000000) (hbase : base ≤ w.heap.size)
    (h : ∀ A' c' w', ORow w' base 9 A' (n + 1) c' (Tx (ts ++ [t])) → Below base w w' → w.grownBy w' (Value.slice A n c).ownBlock → wpList Tryz.prog ops Q rest (a.put o.dst (.slice A' (n + 1) c')) w') :
    wpList Tryz.prog ops Q (o :: rest) a w := by
  obtain ⟨i0, hi0, hz0, hz1, hz2⟩ := info_parts str_info
  refine wpList_plain hgd fun K hK => ?_
  obtain ⟨v', w', hr, ⟨A', c', rfl, h2⟩, h3⟩ := run_append_orow (w := w) base 42 o.type 9 i0 _ 16 Tryz.underlying42 hi0 hz0 hz1 hz2 rfl hrow ad 1 (.string (Ba t)) hc rfl (by simp only [maxLen]; omega) (by omega) hbase
  unfold Oper.wp execOp
  simp only [ho, resolve, invoke, builtin, Sem.run_bind, Sem.run_pure, Result.andThen_ok, List.map_toArray, List.map_cons, List.map_nil, hs, hx, hr]
  exact hK _ _ (h A' c' w' (by rw [Tx_append]; exact h2) ((Below.refl _ _).grown h3 hbase (fun k hk => (hrow.lt k hk).1)) h3)
theorem step_text (hgd : o.guard = none) (s x : Operand)
    (ho : o.op = .call { callee := .builtin .append, args := #[s, x], argTypes := #[42, 42] })
    (base n c : Nat) (A : Option Addr) (ts : List (List UInt8)) (t : List UInt8) (ad : Addr) (hs : a.eval s = .slice A n c) (hx : a.eval x = .slice (some ad) 1 1) (hrow : ORow w base 9 A n c (Tx ts)) (hc : w.cell? ad = some (.string (Ba t)))
    (hn : n ≤ 1000000) (hbase : base ≤ w.heap.size)
    (h : ∀ A' c' w', ORow w' base 9 A' (n + 1) c' (Tx (ts ++ [t])) → Below base w w' → w.grownBy w' (Value.slice A n c).ownBlock → K (a.put o.dst (.slice A' (n + 1) c')) w') :
    if Region.wanted o (yielded ops a.tmps) = true then Oper.wp Tryz.prog o a w K Q else E := by
  have hw : Region.wanted o (yielded ops a.tmps) = true := by simp [Region.wanted, hgd]
  rw [if_pos hw]
  obtain ⟨i0, hi0, hz0, hz1, hz2⟩ := info_parts str_info
  obtain ⟨v', w', hr, ⟨A', c', rfl, h2⟩, h3⟩ := run_append_orow (w := w) base 42 o.type 9 i0 _ 16 Tryz.underlying42 hi0 hz0 hz1 hz2 rfl hrow ad 1 (.string (Ba t)) hc rfl (by simp only [maxLen]; omega) (by omega) hbase
  unfold Oper.wp execOp
  simp only [ho, resolve, invoke, builtin, Sem.run_bind, Sem.run_pure, Result.andThen_ok, List.map_toArray, List.map_cons, List.map_nil, hs, hx, hr]
  exact h A' c' w' (by rw [Tx_append]; exact h2) ((Below.refl _ _).grown h3 hbase (fun k hk => (hrow.lt k hk).1)) h3
end
end Go.Proofs.YtamhpgledbmnoaaGreatDoor
