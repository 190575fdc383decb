/-
  What the laws draw out of their codes: an expression, as a list of at most 25 numbers in the call's own memory.
  Conditions: none but those of the model.
-/
import Derived.Test.YtnjcephddilalabD3
import Derived.Deep.Onto
namespace Go.Proofs.Ytnjcephddilalab
set_option linter.unusedVariables false
set_option linter.unusedSimpArgs false
open Go.RowKit

theorem I64_app (xs ys : List Int) : I64 (xs ++ ys) = I64 xs ++ I64 ys := by simp [I64]
/-- A row of ints of the call's own, d long. -/
def IntRow (w : World) (B : Nat) (v : Value) (d : Nat) : Prop := ∃ ys : List Int, ys.length = d ∧ w.ownsRow B 3 1 v d (I64 ys)
section
variable {w w' : World} {B B' R d : Nat} {v : Value}
theorem IntRow.form (h : IntRow w B v d) : ∃ A c, v = .slice A d c ∧ d ≤ c := by
  obtain ⟨ys, rfl, h⟩ := h
  obtain ⟨A, c, e, h1, _⟩ := Rd.of_own h
  exact ⟨A, c, e, h1⟩
theorem IntRow.keptR (h : IntRow w B v d) (hR : R < B) (hg : w.grownBy w' (some R)) : IntRow w' B v d := by
  obtain ⟨ys, e, h⟩ := h
  refine ⟨ys, e, h.kept hg ?_⟩
  cases hv : v.ownBlock with
  | none => exact .inl rfl
  | some k => exact .inr (fun hk => by injection hk with hk; have := (h.lt k hv).1; omega)
theorem IntRow.mono (h : IntRow w B v d) (hB : B' ≤ B) : IntRow w B' v d := by
  obtain ⟨ys, e, h⟩ := h
  exact ⟨ys, e, h.mono hB⟩
theorem IntRow.alloc (h : IntRow w B v d) (o : Obj) : IntRow (w.alloc o) B v d := by
  obtain ⟨ys, e, h⟩ := h
  exact ⟨ys, e, h.alloc o⟩
theorem IntRow.lit (w : World) (xs : List Int) (hB : B ≤ w.heap.size) (hx : xs.length ≤ maxLen) : IntRow (w.alloc (.cells (I64 xs).toArray 3)) B (.slice (some ⟨w.heap.size, 0, none⟩) xs.length xs.length) xs.length := by
  refine ⟨xs, rfl, ?_⟩
  have h := World.ownsRow_lit (base := B) (e := 3) (size := 1) w (I64 xs).toArray xs.length hB hx (by simp [I64_len])
  simpa using h
end
section
variable {w : World} {ops : Array Oper} {rest : List Oper} {o : Oper} {a : Act} {Q : Exit → Act → World → Prop}
/-- One number behind a row. -/
theorem app1 (hgd : o.guard = none) (s x : Operand)
    (ho : o.op = .call { callee := .builtin .append, args := #[s, x], argTypes := #[23, 23] })
    (B : Nat) (v : Value) (d : Nat) (z : Int) (hs : a.eval s = v) (hrow : IntRow w B v d)
    (hx : a.eval x = .slice (some ⟨w.heap.size, 0, none⟩) 1 1) (hd : d ≤ 1000000) (hB : B ≤ w.heap.size)
    (h : ∀ v' w', IntRow w' B v' (d + 1) → Below B w w' → wpList Try.prog ops Q rest (a.put o.dst v') w') :
    wpList Try.prog ops Q (o :: rest) a (w.alloc (.cells #[.int .i64 z] 3)) := by
  obtain ⟨ys, e, hown⟩ := hrow
  refine app_int hgd s x ho B v d (I64 ys) (.int .i64 z) hs hown hx rfl (by omega) hB (fun v' w' h1 h2 => h v' w' ⟨ys ++ [z], by simp [e], ?_⟩ h2)
  rw [I64_app]
  exact h1
/-- A row behind a row. -/
theorem app2 (hgd : o.guard = none) (s x : Operand)
    (ho : o.op = .call { callee := .builtin .append, args := #[s, x], argTypes := #[23, 23] })
    (B : Nat) (v : Value) (d : Nat) (hs : a.eval s = v) (hrow : IntRow w B v d)
    (B2 : Nat) (v2 : Value) (d2 : Nat) (hx : a.eval x = v2) (hrow2 : IntRow w B2 v2 d2) (hd2 : 0 < d2) (hd : d ≤ 1000000) (hd' : d2 ≤ 1000000) (hB : B ≤ w.heap.size)
    (h : ∀ v' w', IntRow w' B v' (d + d2) → Below B w w' → wpList Try.prog ops Q rest (a.put o.dst v') w') :
    wpList Try.prog ops Q (o :: rest) a w := by
  obtain ⟨i0, hi0, hz0, hz1, hz2⟩ := info_parts int_info
  obtain ⟨ys, e, hown⟩ := hrow
  obtain ⟨zs, e2, hown2⟩ := hrow2
  obtain ⟨g, c, rfl, _, _⟩ := own_lt hown2 hd2
  refine wpList_append_own _ hgd s x _ ho B 3 i0 _ 1 8 Try.underlying23 hi0 hz0 hz1 hz2 rfl (by decide) v d (I64 ys) hs hown ⟨g, 0, none⟩ d2 c (I64 zs) hx (by rw [I64_len, e2]; omega)
    (hown2.cells rfl) (fun u hu => ?_) (by simp only [maxLen]; omega) (by omega) hB
    (fun v' w' h2 h3 _ => h v' w' ⟨ys ++ zs, by rw [List.length_append, e, e2], by rw [I64_app]; exact h2⟩ ((Below.refl _ _).grown h3 hB (fun k hk => (hown.lt k hk).1)))
  unfold I64 at hu
  obtain ⟨_, _, rfl⟩ := List.mem_map.1 hu
  rfl
end
theorem only_trans {a b c : World} {R : Nat} (h : a.grownBy b (some R)) (h' : b.grownBy c (some R)) : a.grownBy c (some R) := h.trans h'
/-- What has turned above a world is nothing of it. -/
theorem only_below {a b c : World} {R B : Nat} (h : a.grownBy b (some R)) (h' : Below B b c) (hB : a.heap.size ≤ B) : a.grownBy c (some R) :=
  ⟨h'.os.trans h.os, h'.tape.trans h.tape, h'.output.trans h.output, Nat.le_trans h.size h'.size, fun i hi hne => (h'.block i (by omega)).trans (h.block i hi hne)⟩

def Leafed (R N : Nat) (w : World) (e : Ending) (w' : World) : Prop := ∃ v, e = .returned v ∧ IntRow w' w.heap.size v 1 ∧ Rdr w' R (N + 2) ∧ w.grownBy w' (some R)
set_option maxHeartbeats 1000000 in
theorem spec_l20Leaf (R N : Nat) (w : World) (h : Rdr w R N) (hN : N ≤ 100000) :
    Calls Try.prog 68 #[.pointer (some ⟨R, 0, none⟩)] w (Leafed R N w) := by
  have hlt := h.lt
  go_enter Try.func68, Try.ntmps68
  go_wp2_with fail
  refine (spec_pick R N 10 _ h (by omega) (by omega)).mono ?_
  rintro e w1 ⟨p, rfl, hp, hr1, hg1⟩
  have hlt1 := hr1.lt
  have hz1 := hg1.size
  go_wp2_with fail
  refine (spec_pick R (N + 1) 7 _ (hr1.alloc _) (by omega) (by omega)).mono ?_
  rintro e w2 ⟨v, rfl, hv, hr2, hg2⟩
  obtain ⟨h1, h2, x, hx, hc⟩ := pick_cell [10, 10, 11, 11, 0, 1, p] hlt1 hg2 hv rfl (by omega)
  have HG := Lib.hid (grown_alloc hg1 hg2)
  have hz2 := hg2.size
  clear hv hx hg1 hg2
  go_wp2
  go_ret
  refine ⟨_, rfl, IntRow.lit w2 [x] (by have := HG.out.size; omega) (by simp [maxLen]), hr2.alloc _, only_below HG.out ((Below.refl w2.heap.size w2).alloc (Nat.le_refl _) _) HG.out.size⟩
end Go.Proofs.Ytnjcephddilalab
