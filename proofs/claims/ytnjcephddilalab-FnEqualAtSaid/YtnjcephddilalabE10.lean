/-
  The program's CodeOf.
  Conditions: as stated at each.
-/
import Derived.Test.YtnjcephddilalabE9
namespace Go.Proofs.Ytnjcephddilalab
set_option linter.unusedVariables false
set_option linter.unusedSimpArgs false
open Go.RowKit

theorem rows_apart {w : World} {base n n' size size' : Nat} {e e' : TypeId} {v v' : Value} {xs xs' : List Value} (h : w.ownsRow base e size v n xs) (h' : w.ownsRow base e' size' v' n' xs') (hne : e ≠ e') :
    v.ownBlock = none ∨ v.ownBlock ≠ v'.ownBlock := by
  rcases h.2 with ⟨rfl, _⟩ | ⟨g, cap, cur, rfl, _, hh, _⟩
  · exact .inl rfl
  · refine .inr (fun he => ?_)
    rcases h'.2 with ⟨rfl, _⟩ | ⟨g', cap', cur', rfl, _, hh', _⟩
    · simp [Value.ownBlock] at he
    · have hg : g = g' := by simpa [Value.ownBlock] using he
      subst hg
      rw [hh] at hh'
      injection hh' with hh'
      injection hh' with _ ht
      exact hne ht
theorem ins_info : (Try.prog.info? 32).map (fun i => (i.zero, i.size, i.bytes)) = some (some (.agg #[.int .i64 0, .int .i64 0, .int .i64 0]), 3, 24) := by kernel_rfl
section
variable {w : World} {ops : Array Oper} {rest : List Oper} {o : Oper} {a : Act} {Q : Exit → Act → World → Prop}
/-- A number behind a row, with what stays as it was. -/
theorem app_int_far (hgd : o.guard = none) (s x : Operand)
    (ho : o.op = .call { callee := .builtin .append, args := #[s, x], argTypes := #[23, 23] })
    (base : Nat) (v : Value) (n : Nat) (xs : List Int) (z : Int) (hs : a.eval s = v) (hown : w.ownsRow base 3 1 v n (I64 xs))
    (hx : a.eval x = .slice (some ⟨w.heap.size, 0, none⟩) 1 1) (hn : n ≤ 1000000000000) (hbase : base ≤ w.heap.size)
    (h : ∀ v' w', w'.ownsRow base 3 1 v' (n + 1) (I64 (xs ++ [z])) → Below base w w' → (w.alloc (.cells #[.int .i64 z] 3)).grownBy w' v.ownBlock → wpList Try.prog ops Q rest (a.put o.dst v') w') :
    wpList Try.prog ops Q (o :: rest) a (w.alloc (.cells #[.int .i64 z] 3)) := by
  obtain ⟨i0, hi0, hz0, hz1, hz2⟩ := info_parts int_info
  exact wpList_append_own _ hgd s x _ ho base 3 i0 _ 1 8 Try.underlying23 hi0 hz0 hz1 hz2 rfl (by decide) v n (I64 xs) hs (hown.alloc _) ⟨w.heap.size, 0, none⟩ 1 1 [.int .i64 z] hx rfl
    (cell_one_new _ _ _) (by simp [Value.oneCell']) (by simp only [maxLen]; omega) (by omega) (by simp; omega)
    (fun v' w' h2 h3 _ => h v' w' (by rw [I64_append]; exact h2) (below_of_grown hown hbase h3) h3)
/-- An operation behind a row. -/
theorem app_op (hgd : o.guard = none) (s x : Operand)
    (ho : o.op = .call { callee := .builtin .append, args := #[s, x], argTypes := #[25, 25] })
    (base : Nat) (v : Value) (n : Nat) (xs : List Pl.Op3) (c : Pl.Op3) (hs : a.eval s = v) (hown : w.ownsRow base 32 3 v n (I3 xs))
    (hx : a.eval x = .slice (some ⟨w.heap.size, 0, none⟩) 1 1) (hn : n ≤ 1000000) (hbase : base ≤ w.heap.size)
    (h : ∀ v' w', w'.ownsRow base 32 3 v' (n + 1) (I3 (xs ++ [c])) → Below base w w' → (w.alloc (.cells #[.int .i64 c.1, .int .i64 c.2.1, .int .i64 c.2.2] 32)).grownBy w' v.ownBlock → wpList Try.prog ops Q rest (a.put o.dst v') w') :
    wpList Try.prog ops Q (o :: rest) a (w.alloc (.cells #[.int .i64 c.1, .int .i64 c.2.1, .int .i64 c.2.2] 32)) := by
  obtain ⟨i0, hi0, hz0, hz1, hz2⟩ := info_parts ins_info
  have hnew := (Blk.new w 32 #[.int .i64 c.1, .int .i64 c.2.1, .int .i64 c.2.2])
  refine wpList_append_own _ hgd s x _ ho base 32 i0 _ 3 24 Try.underlying25 hi0 hz0 hz1 hz2 rfl (by decide) v n (I3 xs) hs (hown.alloc _) ⟨w.heap.size, 0, none⟩ 1 1 (c3 c) hx rfl
    (fun j u hu => ?_) (fun u hu => ?_) (by simp only [maxLen]; omega) (by omega) (by simp; omega)
    (fun v' w' h2 h3 _ => h v' w' (by rw [I3_append, I3_one]; exact h2) (below_of_grown hown hbase h3) h3)
  · have e : (⟨w.heap.size, 0, none⟩ : Addr).add j = ⟨w.heap.size, j, none⟩ := by
      unfold Addr.add
      split
      · rename_i h0; subst h0; rfl
      · simp
    rw [e, hnew.cell]
    simpa [c3] using hu
  · simp [c3] at hu
    rcases hu with rfl | rfl | rfl <;> rfl
end
def OutC (r : List Pl.Op3 × Int) (w : World) (e : Ending) (w' : World) : Prop :=
  ∃ A c, e = .returned (.tuple #[.slice A r.1.length c, .int .i64 r.2]) ∧ w'.ownsRow w.heap.size 32 3 (.slice A r.1.length c) r.1.length (I3 r.1) ∧ Below w.heap.size w w'
theorem codeOf_f {e : List Int} (h : Pl.exprValid e = false) : Pl.codeOf e = ([], -1) := by unfold Pl.codeOf; rw [h]; rfl
theorem codeOf_t {e : List Int} (h : Pl.exprValid e = true) : Pl.codeOf e = ((Pl.codeS e).1, (Pl.codeS e).2.headD 0) := by unfold Pl.codeOf; rw [if_pos h]
theorem code_0 {code : List Pl.Op3} {st : List Int} {s : Int} (h : s < 12) : Pl.codeStep (code, st) s = (code, st ++ [s]) := by unfold Pl.codeStep; rw [if_pos (Pl.takes_0 h)]
theorem code_1 {code : List Pl.Op3} {st : List Int} {s : Int} {m : Nat} (h : 12 ≤ s) (h' : s < 15) (hm : st.length = m + 1) :
    Pl.codeStep (code, st) s = (if code.idxOf (s, st.getD m 0, 0) < code.length then code else code ++ [(s, st.getD m 0, 0)], st.take m ++ [100 + (code.idxOf (s, st.getD m 0, (0 : Int)) : Int)]) := by
  unfold Pl.codeStep Pl.mkOp
  simp only [Pl.takes_1 h h', hm]
  rfl
theorem code_2 {code : List Pl.Op3} {st : List Int} {s : Int} {m : Nat} (h : 15 ≤ s) (hm : st.length = m + 2) :
    Pl.codeStep (code, st) s = (if code.idxOf (s, st.getD m 0, st.getD (m + 1) 0) < code.length then code else code ++ [(s, st.getD m 0, st.getD (m + 1) 0)], st.take m ++ [100 + (code.idxOf (s, st.getD m 0, st.getD (m + 1) 0) : Int)]) := by
  unfold Pl.codeStep Pl.mkOp
  simp only [Pl.takes_2 h, hm]
  rfl
end Go.Proofs.Ytnjcephddilalab
