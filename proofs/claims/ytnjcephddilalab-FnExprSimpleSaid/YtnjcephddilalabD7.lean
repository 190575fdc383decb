/-
  Appends of whole lists, as the laws on expressions make them.
  Conditions: as stated at each.
-/
import Derived.Test.YtnjcephddilalabD6
import Derived.Test.YtnjcephddilalabE4
import Derived.Test.YtnjcephddilalabLa
import Derived.Test.YtnjcephddilalabPf
namespace Go.Proofs.Ytnjcephddilalab
set_option linter.unusedVariables false
set_option linter.unusedSimpArgs false
open Go.RowKit
section
variable {w : World} {ops : Array Oper} {rest : List Oper} {o : Oper} {a : Act} {Q : Exit → Act → World → Prop}
/-- A list behind a list. -/
theorem app_list (hgd : o.guard = none) (s x : Operand)
    (ho : o.op = .call { callee := .builtin .append, args := #[s, x], argTypes := #[23, 23] })
    (B : Nat) (v : Value) (n : Nat) (xs : List Int) (hs : a.eval s = v) (hown : w.ownsRow B 3 1 v n (I64 xs))
    (g m c : Nat) (ys : List Int) (B2 : Nat) (hx : a.eval x = .slice (some ⟨g, 0, none⟩) m c) (hown2 : w.ownsRow B2 3 1 (.slice (some ⟨g, 0, none⟩) m c) m (I64 ys)) (hn : n ≤ 1000000) (hm : m ≤ 1000000) (hB : B ≤ w.heap.size)
    (h : ∀ v' w', w'.ownsRow B 3 1 v' (n + m) (I64 (xs ++ ys)) → Below B w w' → wpList Try.prog ops Q rest (a.put o.dst v') w') :
    wpList Try.prog ops Q (o :: rest) a w := by
  obtain ⟨i0, hi0, hz0, hz1, hz2⟩ := info_parts int_info
  refine wpList_append_own _ hgd s x _ ho B 3 i0 _ 1 8 Try.underlying23 hi0 hz0 hz1 hz2 rfl (by decide) v n (I64 xs) hs hown ⟨g, 0, none⟩ m c (I64 ys) hx hown2.1
    (hown2.cells rfl) (fun u hu => ?_) (by simp only [maxLen]; omega) (by omega) hB
    (fun v' w' h2 h3 _ => h v' w' (by rw [I64_append]; exact h2) ((Below.refl _ _).grown h3 hB (fun k hk => (hown.lt k hk).1)))
  unfold I64 at hu
  obtain ⟨_, _, rfl⟩ := List.mem_map.1 hu
  rfl
end
theorem own_len {w : World} {B n : Nat} {v : Value} {xs : List Int} (h : w.ownsRow B 3 1 v n (I64 xs)) : xs.length = n := by
  have := h.1
  rw [I64_len] at this
  omega
end Go.Proofs.Ytnjcephddilalab
