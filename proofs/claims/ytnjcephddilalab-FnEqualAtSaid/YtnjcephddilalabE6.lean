/-
  Codes in memory: slices of operations, three numbers each; what is there under a number, and its value.
  Conditions: as stated at each.
-/
import Derived.Test.YtnjcephddilalabE3
import Derived.Test.YtnjcephddilalabPc
namespace Go.Proofs.Ytnjcephddilalab
set_option linter.unusedVariables false
set_option linter.unusedSimpArgs false
open Go.RowKit

/-- The three cells of an operation. -/
def c3 (c : Pl.Op3) : List Value := [.int .i64 c.1, .int .i64 c.2.1, .int .i64 c.2.2]
def I3 (cs : List Pl.Op3) : List Value := cs.flatMap c3
theorem I3_len (cs : List Pl.Op3) : (I3 cs).length = cs.length * 3 := by
  induction cs with
  | nil => rfl
  | cons c t ih => show (c3 c ++ I3 t).length = _; rw [List.length_append, ih, List.length_cons]; simp [c3]; omega
theorem I3_append (a b : List Pl.Op3) : I3 (a ++ b) = I3 a ++ I3 b := by simp [I3, List.flatMap_append]
theorem I3_one (c : Pl.Op3) : I3 [c] = c3 c := by simp [I3]
theorem I3_get : ∀ (cs : List Pl.Op3) (j : Nat) (c : Pl.Op3), cs[j]? = some c → (I3 cs)[j * 3]? = some (.int .i64 c.1) ∧ (I3 cs)[j * 3 + 1]? = some (.int .i64 c.2.1) ∧ (I3 cs)[j * 3 + 2]? = some (.int .i64 c.2.2)
  | [], j, c, h => by simp at h
  | d :: t, 0, c, h => by
    simp at h; subst h
    exact ⟨rfl, rfl, rfl⟩
  | d :: t, j + 1, c, h => by
    have ih := I3_get t j c (by simpa using h)
    have e : ∀ m, (I3 (d :: t))[m + 3]? = (I3 t)[m]? := fun m => by
      show (c3 d ++ I3 t)[m + 3]? = _
      rw [List.getElem?_append_right (by simp [c3])]
      simp [c3]
    rw [show (j + 1) * 3 = j * 3 + 3 by omega, show j * 3 + 3 + 1 = (j * 3 + 1) + 3 by omega, show j * 3 + 3 + 2 = (j * 3 + 2) + 3 by omega, e, e, e]
    exact ih
/-- The slice '.slice A n c' holds the operations cs, below block B. -/
def RdI (w : World) (B : Nat) (A : Option Addr) (n : Nat) (cs : List Pl.Op3) : Prop :=
  cs.length = n ∧ (n = 0 ∨ ∃ b off, A = some ⟨b, off, none⟩ ∧ b < B ∧ ∀ j c, cs[j]? = some c → w.cell? ⟨b, off + j * 3, none⟩ = some (.int .i64 c.1) ∧ w.cell? ⟨b, off + j * 3 + 1, none⟩ = some (.int .i64 c.2.1) ∧ w.cell? ⟨b, off + j * 3 + 2, none⟩ = some (.int .i64 c.2.2))
section
variable {w w' : World} {B B' n : Nat} {A : Option Addr} {cs : List Pl.Op3}
theorem RdI.zero : RdI w B A 0 [] := ⟨rfl, .inl rfl⟩
theorem RdI.pos (h : RdI w B A n cs) (hn : 0 < n) : ∃ b off, A = some ⟨b, off, none⟩ ∧ b < B ∧ ∀ j c, cs[j]? = some c → w.cell? ⟨b, off + j * 3, none⟩ = some (.int .i64 c.1) ∧ w.cell? ⟨b, off + j * 3 + 1, none⟩ = some (.int .i64 c.2.1) ∧ w.cell? ⟨b, off + j * 3 + 2, none⟩ = some (.int .i64 c.2.2) := by
  rcases h.2 with h | h
  · omega
  · exact h
theorem RdI.keep (h : RdI w B A n cs) (hk : ∀ p : Addr, p.block < B → w'.cell? p = w.cell? p) : RdI w' B A n cs :=
  ⟨h.1, by
    rcases h.2 with h | ⟨b, off, e, hb, hc⟩
    · exact .inl h
    · exact .inr ⟨b, off, e, hb, fun j c hj => by
        obtain ⟨h1, h2, h3⟩ := hc j c hj
        exact ⟨(hk _ hb).trans h1, (hk _ hb).trans h2, (hk _ hb).trans h3⟩⟩⟩
theorem RdI.more (h : RdI w B A n cs) (hB : B ≤ B') : RdI w B' A n cs :=
  ⟨h.1, by
    rcases h.2 with h | ⟨b, off, e, hb, hc⟩
    · exact .inl h
    · exact .inr ⟨b, off, e, by omega, hc⟩⟩
theorem RdI.below (h : RdI w B A n cs) (hb : Below B w w') : RdI w' B A n cs := h.keep fun _ hp => hb.cell hp
theorem RdI.drewN (h : RdI w B A n cs) (k : Nat) : RdI (w.drewN k) B A n cs := h
/-- A row of the call's own holds operations. -/
theorem rdI_own {base c : Nat} {e : TypeId} (h : w.ownsRow base e 3 (.slice A n c) n (I3 cs)) : RdI w w.heap.size A n cs := by
  have hl := h.1
  rw [I3_len] at hl
  refine ⟨by omega, ?_⟩
  rcases h.2 with ⟨h0, rfl⟩ | ⟨g, cap, cur, hv, hg, hh, hnc, hm, hs, hx⟩
  · exact .inl rfl
  · injection hv with h1 h2 h3
    subst h1
    refine .inr ⟨g, 0, rfl, ?_, fun j d hj => ?_⟩
    · rcases Nat.lt_or_ge g w.heap.size with h1 | h1
      · exact h1
      · rw [Array.getElem?_eq_none h1] at hh; cases hh
    · obtain ⟨c1, c2, c3⟩ := I3_get cs j d hj
      have key : ∀ m u, (I3 cs)[m]? = some u → w.cell? ⟨g, m, none⟩ = some u := fun m u hu => by
        have h3 := h.cells (g := g) rfl m u hu
        have e : (⟨g, 0, none⟩ : Addr).add m = ⟨g, m, none⟩ := by
          unfold Addr.add
          split
          · rename_i h0; subst h0; rfl
          · simp
        rwa [e] at h3
      rw [Nat.zero_add]
      exact ⟨key _ _ c1, key _ _ c2, key _ _ c3⟩
end

/-- An append of one number as a step of a region that draws, with what stays as it was. -/
theorem step_int_far {ops : Array Oper} {o : Oper} {a : Act} {w : World} {K : Act → World → Prop} {Q : Exit → Act → World → Prop} {E : Prop} (hgd : o.guard = none) (s x : Operand)
    (ho : o.op = .call { callee := .builtin .append, args := #[s, x], argTypes := #[23, 23] })
    (base : Nat) (v : Value) (n : Nat) (xs : List Value) (u : Value) (ad : Addr) (hs : a.eval s = v) (hx : a.eval x = .slice (some ad) 1 1) (hown : w.ownsRow base 3 1 v n xs)
    (hc : w.cell? ad = some u) (h1 : u.oneCell' = true) (hn : n ≤ 1000000000000) (hbase : base ≤ w.heap.size)
    (h : ∀ v' w', w'.ownsRow base 3 1 v' (n + 1) (xs ++ [u]) → Below base w w' → w.grownBy w' v.ownBlock → K (a.put o.dst v') w') :
    if Region.wanted o (yielded ops a.tmps) = true then Oper.wp Try.prog o a w K Q else E := by
  have hw : Region.wanted o (yielded ops a.tmps) = true := by simp [Region.wanted, hgd]
  rw [if_pos hw]
  obtain ⟨i0, hi0, hz0, hz1, hz2⟩ := info_parts int_info
  have hc' : ∀ j u', [u][j]? = some u' → w.cell? (ad.add j) = some u' := by
    intro j u' hu
    rcases j with _ | j
    · simp at hu; subst hu; simpa [Addr.add] using hc
    · simp at hu
  exact wp_append_own w s x _ ho base 3 i0 _ 1 8 Try.underlying23 hi0 hz0 hz1 hz2 rfl (by decide) v n xs hs hown ad 1 1 [u] hx rfl
    hc' (by simpa using h1) (by simp only [maxLen]; omega) (by omega) hbase
    (fun v' w' h2 h3 _ => h v' w' h2 ((Below.refl base w).grown h3 hbase (fun k hk => (hown.lt k hk).1)) h3)
theorem far_cell {w w' : World} {base n g : Nat} {e : TypeId} {size : Nat} {v : Value} {xs : List Value} {o : Nat} {u : Value} (hown : w.ownsRow base e size v n xs) (hg : w.grownBy w' v.ownBlock)
    (hne : v.ownBlock ≠ some g) (hc : w.cell? ⟨g, o, none⟩ = some u) : w'.cell? ⟨g, o, none⟩ = some u := hg.cell hc (fun e => hne e.symm)

end Go.Proofs.Ytnjcephddilalab
