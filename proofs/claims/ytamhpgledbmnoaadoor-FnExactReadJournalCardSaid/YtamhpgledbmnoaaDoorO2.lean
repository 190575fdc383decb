/-
  The reference's copies of benches, and its comparison of lists.
  Conditions: as stated at each.
-/
import Derived.Test.YtamhpgledbmnoaaDoorO1
import Derived.Deep.Upon
namespace Go.Proofs.YtamhpgledbmnoaaDoor
set_option linter.unusedVariables false
set_option linter.unusedSimpArgs false
open Go.RowKit
section
variable {w : World} {ops : Array Oper} {rest : List Oper} {o : Oper} {a : Act} {Q : Exit → Act → World → Prop}
/-- Whatever slice is read, behind a row of the call's own. -/
theorem app_read (hgd : o.guard = none) (s x : Operand) (t e : TypeId) (z : Value) (bytes : Nat) (hinf : (Tryd.prog.info? e).map (fun i => (i.zero, i.size, i.bytes)) = some (some z, 1, bytes)) (hzc : z.cells.size = 1) (hby : bytes ≤ 16) (ht : Tryd.prog.underlying t = some (.slice e))
    (ho : o.op = .call { callee := .builtin .append, args := #[s, x], argTypes := #[t, t] })
    (B : Nat) (A : Option Addr) (n c : Nat) (xs : List Value) (hs : a.eval s = .slice A n c) (hown : w.ownsRow B e 1 (.slice A n c) n xs)
    (A2 : Option Addr) (m c2 : Nat) (ys : List Value) (B2 : Nat) (hx : a.eval x = .slice A2 m c2) (hr : Rd w B2 A2 m ys) (hone : ∀ u ∈ ys, u.oneCell' = true) (hn : n ≤ 1000000000000) (hm : m ≤ 1000000000000) (hB : B ≤ w.heap.size)
    (h : ∀ A' c' w', w'.ownsRow B e 1 (.slice A' (n + m) c') (n + m) (xs ++ ys) → Below B w w' → wpList Tryd.prog ops Q rest (a.put o.dst (.slice A' (n + m) c')) w') :
    wpList Tryd.prog ops Q (o :: rest) a w := by
  obtain ⟨i0, hi0, hz0, hz1, hz2⟩ := info_parts hinf
  rcases Nat.eq_zero_or_pos m with h0 | h0
  · subst h0
    have hy : ys = [] := List.eq_nil_of_length_eq_zero hr.len
    subst hy
    refine wpList_plain hgd fun K hK => ?_
    have hr := run_append_nothing (P := Tryd.prog) w t t o.type e i0 ht hi0 A n c (own_cap hown) (.slice A2 0 c2) (by
      cases A2 with
      | none => exact Src.ofNil w ht c2
      | some ad => exact Src.ofSlice w ht ad 0 c2 [] (by simp) (fun j u hu => by simp at hu) (fun u hu => by cases hu))
    unfold Oper.wp execOp
    simp only [ho, resolve, invoke, builtin, Sem.run_bind, Sem.run_pure, Result.andThen_ok, List.map_toArray, List.map_cons, List.map_nil, hs, hx, hr]
    have := h A c w
    simp only [Nat.add_zero, List.append_nil] at this
    exact hK _ _ (this hown (Below.refl _ _))
  · obtain ⟨b, off, rfl, _, hc⟩ := hr.pos h0
    refine wpList_append_own _ hgd s x _ ho B e i0 _ 1 bytes ht hi0 hz0 hz1 hz2 hzc (by decide) (.slice A n c) n xs hs hown ⟨b, off, none⟩ m c2 ys hx (by rw [hr.len, Nat.mul_one])
      (fun j u hu => by rw [addr_add]; exact hc j u hu) hone (by simp only [maxLen]; omega) (Nat.le_trans (Nat.mul_le_mul_left (n + m) hby) (by omega)) hB
      (fun v' w' h2 h3 _ => by
        obtain ⟨A', c', rfl, _⟩ := Rd.of_own h2
        exact h A' c' w' h2 ((Below.refl _ _).grown h3 hB (fun k hk => (hown.lt k hk).1)))
end
theorem one_I64 {xs : List Int} : ∀ u ∈ I64 xs, u.oneCell' = true := fun u hu => by unfold I64 at hu; obtain ⟨_, _, rfl⟩ := List.mem_map.1 hu; rfl
theorem one_Tx {ts : List (List UInt8)} : ∀ u ∈ Tx ts, u.oneCell' = true := fun u hu => by unfold Tx at hu; obtain ⟨_, _, rfl⟩ := List.mem_map.1 hu; rfl
/-- A bench of the call's own. -/
def BnO (w : World) (base : Nat) (v : Value) (b : Pl.Bn) : Prop := ∃ (A P : Option Addr) (n c m d : Nat), v = benchV b.k b.x b.y A n c P m d ∧ ORow w base 3 A n c (I64 b.e) ∧ ORow w base 9 P m d (Tx b.past)
section
variable {w w' : World} {base B : Nat} {v : Value} {b : Pl.Bn}
theorem BnO.keep (h : BnO w base v b) (hk : ∀ b, base ≤ b → b < w.heap.size → w'.heap[b]? = w.heap[b]?) : BnO w' base v b := by
  obtain ⟨A, P, n, c, m, d, e, h1, h2⟩ := h
  exact ⟨A, P, n, c, m, d, e, h1.keep hk, h2.keep hk⟩
theorem BnO.below (h : BnO w base v b) (hb : Below w.heap.size w w') : BnO w' base v b := h.keep fun b _ hl => hb.block b hl
theorem BnO.alloc (h : BnO w base v b) (o : Obj) : BnO (w.alloc o) base v b := h.keep fun b _ hl => Below.heap_alloc w o b hl
theorem BnO.drewN (h : BnO w base v b) (k : Nat) : BnO (w.drewN k) base v b := h.keep fun _ _ _ => rfl
theorem BnO.grown {R : Nat} (h : BnO w base v b) (hg : w.grownBy w' (some R)) (hR : R < base) : BnO w' base v b := h.keep fun b hb hl => hg.block b hl (fun e => by injection e; omega)
theorem BnO.mono (h : BnO w base v b) (hB : B ≤ base) : BnO w B v b := by
  obtain ⟨A, P, n, c, m, d, e, h1, h2⟩ := h
  exact ⟨A, P, n, c, m, d, e, h1.mono hB, h2.mono hB⟩
end
theorem own_lt_below {w w' : World} {base size n D : Nat} {e : TypeId} {v : Value} {xs : List Value} (h : w.ownsRow base e size v n xs) (hl : ∀ k, v.ownBlock = some k → k < D) (hb : Below D w w') : w'.ownsRow base e size v n xs := by
  obtain ⟨h1, h2⟩ := h
  refine ⟨h1, ?_⟩
  rcases h2 with h2 | ⟨g, cap, cur, rfl, a, b, d⟩
  · exact .inl h2
  · exact .inr ⟨g, cap, cur, rfl, a, (hb.block g (hl g rfl)).trans b, d⟩
end Go.Proofs.YtamhpgledbmnoaaDoor
