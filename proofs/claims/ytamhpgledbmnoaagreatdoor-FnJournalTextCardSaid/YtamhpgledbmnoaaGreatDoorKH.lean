/-
  The program's short expressions, and rows of lists.
  Conditions: as stated at each.
-/
import Derived.Test.YtamhpgledbmnoaaGreatDoorKR
import Derived.Test.YtamhpgledbmnoaaGreatDoorKE
import Derived.Test.YtamhpgledbmnoaaGreatDoorKP
namespace Go.Proofs.YtamhpgledbmnoaaGreatDoor
set_option linter.unusedVariables false
set_option linter.unusedSimpArgs false
open Go.RowKit
/-- Slices, each of them a row of the call's own that holds a list. -/
def Lists (w : World) (B : Nat) (vs : List Value) (es : List (List Int)) : Prop :=
  vs.length = es.length ∧ ∀ (k : Nat) (e : List Int), es[k]? = some e → ∃ A c, vs[k]? = some (.slice A e.length c) ∧ w.ownsRow B 3 1 (.slice A e.length c) e.length (I64 e)
section
variable {w w' : World} {B : Nat} {vs vs' : List Value} {es es' : List (List Int)}
theorem Lists.nil : Lists w B [] [] := ⟨rfl, fun k e h => by simp at h⟩
theorem Lists.keep (h : Lists w B vs es) (hk : ∀ v n xs, w.ownsRow B 3 1 v n xs → w'.ownsRow B 3 1 v n xs) : Lists w' B vs es :=
  ⟨h.1, fun k e he => by
    obtain ⟨A, c, h1, h2⟩ := h.2 k e he
    exact ⟨A, c, h1, hk _ _ _ h2⟩⟩
theorem Lists.below (h : Lists w B vs es) (hb : Below w.heap.size w w') : Lists w' B vs es := h.keep fun _ _ _ h => own_below h hb
theorem Lists.alloc (h : Lists w B vs es) (o : Obj) : Lists (w.alloc o) B vs es := h.keep fun _ _ _ h => h.alloc o
theorem Lists.drew (h : Lists w B vs es) : Lists w.drew B vs es := h.keep fun _ _ _ h => h.drew
theorem Lists.grown {v : Value} {n : Nat} {xs : List Value} (h : Lists w B vs es) (hown : w.ownsRow B 41 1 v n xs) (hg : w.grownBy w' v.ownBlock) : Lists w' B vs es :=
  h.keep fun _ _ _ h1 => h1.kept hg (rows_apart h1 hown (by decide))
theorem Lists.append (h : Lists w B vs es) (h' : Lists w B vs' es') : Lists w B (vs ++ vs') (es ++ es') := by
  refine ⟨by rw [List.length_append, List.length_append, h.1, h'.1], fun k e he => ?_⟩
  rcases Nat.lt_or_ge k es.length with hk | hk
  · rw [List.getElem?_append_left hk] at he
    rw [List.getElem?_append_left (by rw [h.1]; exact hk)]
    exact h.2 k e he
  · rw [List.getElem?_append_right hk] at he
    rw [List.getElem?_append_right (by rw [h.1]; exact hk), h.1]
    exact h'.2 _ e he
theorem Lists.one {A : Option Addr} {c m : Nat} {e : List Int} (h : w.ownsRow B 3 1 (.slice A m c) m (I64 e)) : Lists w B [.slice A m c] [e] := by
  have hm : e.length = m := own_ilen h
  subst hm
  refine ⟨rfl, fun k e' he => ?_⟩
  rcases k with _ | k
  · simp at he
    subst he
    exact ⟨A, c, rfl, h⟩
  · simp at he
end
/-- A slice that is a row of slices of the call's own, each of them a list. -/
def RowL (w : World) (Bo B : Nat) (v : Value) (es : List (List Int)) : Prop := ∃ vs, w.ownsRow Bo 41 1 v es.length vs ∧ Lists w B vs es
section
variable {w w' : World} {Bo B : Nat} {v : Value} {es : List (List Int)}
theorem RowL.nil : RowL w Bo B (.slice none 0 0) [] := ⟨[], World.ownsRow_nil _ _ _ _, .nil⟩
theorem RowL.below (h : RowL w Bo B v es) (hb : Below w.heap.size w w') : RowL w' Bo B v es := by
  obtain ⟨vs, h1, h2⟩ := h
  exact ⟨vs, own_below h1 hb, h2.below hb⟩
theorem RowL.alloc (h : RowL w Bo B v es) (o : Obj) : RowL (w.alloc o) Bo B v es := by
  obtain ⟨vs, h1, h2⟩ := h
  exact ⟨vs, h1.alloc o, h2.alloc o⟩
theorem RowL.drew (h : RowL w Bo B v es) : RowL w.drew Bo B v es := by
  obtain ⟨vs, h1, h2⟩ := h
  exact ⟨vs, h1.drew, h2.drew⟩
theorem RowL.form (h : RowL w Bo B v es) : ∃ A c, v = .slice A es.length c ∧ es.length ≤ c := by
  obtain ⟨vs, h1, h2⟩ := h
  obtain ⟨A, c, e, h3, _⟩ := Rd.of_own h1
  exact ⟨A, c, e, h3⟩
theorem RowL.lt (h : RowL w Bo B v es) : ∀ k, v.ownBlock = some k → Bo ≤ k ∧ k < w.heap.size := by
  obtain ⟨vs, h1, h2⟩ := h
  exact h1.lt
/-- What lies at a place of the row. -/
theorem RowL.get {A : Option Addr} {n c k : Nat} {e : List Int} (h : RowL w Bo B (.slice A n c) es) (hk : es[k]? = some e) :
    ∃ g Ae ce, A = some ⟨g, 0, none⟩ ∧ g < w.heap.size ∧ w.cell? ⟨g, k, none⟩ = some (.slice Ae e.length ce) ∧ w.ownsRow B 3 1 (.slice Ae e.length ce) e.length (I64 e) := by
  obtain ⟨vs, h1, h2⟩ := h
  obtain ⟨Ae, ce, h3, h4⟩ := h2.2 k e hk
  have hkl : k < es.length := by
    rcases Nat.lt_or_ge k es.length with h | h
    · exact h
    · rw [List.getElem?_eq_none h] at hk; cases hk
  obtain ⟨g, c', e1, hg0, hg1⟩ := own_lt h1 (by omega)
  injection e1 with e1 e2 e3
  subst e1
  subst e2
  exact ⟨g, Ae, ce, rfl, hg1, own_cell h1 h3, h4⟩
theorem RowL.apart {Bo' : Nat} {v' : Value} {es' : List (List Int)} (h : RowL w Bo B v es) (h' : RowL w Bo' B v' es') (hB' : B ≤ Bo') (hg : w.grownBy w' v'.ownBlock) (hne : ∀ k, v.ownBlock = some k → v'.ownBlock ≠ some k) : RowL w' Bo B v es := by
  obtain ⟨vs, h1, h2⟩ := h
  obtain ⟨vs', h3, h4⟩ := h'
  refine ⟨vs, h1.kept hg ?_, h2.grown (h3.mono hB') hg⟩
  cases hv : v.ownBlock with
  | none => exact .inl rfl
  | some k => exact .inr (fun e => hne k hv e.symm)
theorem own_lit2 (w : World) (n m : Int) {B b0 : Nat} (hB : B ≤ w.heap.size) (hb0 : w.heap.size = b0) : (w.alloc (.cells #[.int .i64 n, .int .i64 m] 3)).ownsRow B 3 1 (.slice (some ⟨b0, 0, none⟩) 2 2) 2 (I64 [n, m]) := by
  subst hb0
  exact World.ownsRow_lit (base := B) (e := 3) (size := 1) w (I64 [n, m]).toArray 2 hB (by simp [maxLen]) (by simp [I64_len])
theorem RowL.n {n : Nat} {F : List (List Int)} (h : RowL w Bo B v es) (hes : es = F) (hl : F.length = n) : ∃ A c, v = .slice A n c ∧ n ≤ c ∧ RowL w Bo B (.slice A n c) F := by
  subst hes
  subst hl
  obtain ⟨A, c, rfl, hc⟩ := h.form
  exact ⟨A, c, rfl, hc, h⟩
end
section
variable {w : World} {ops : Array Oper} {rest : List Oper} {o : Oper} {a : Act} {Q : Exit → Act → World → Prop}
/-- A list behind a row of lists. -/
theorem app_row (hgd : o.guard = none) (s x : Operand)
    (ho : o.op = .call { callee := .builtin .append, args := #[s, x], argTypes := #[87, 87] })
    (Bo B : Nat) (v : Value) (es : List (List Int)) (e : List Int) (A : Option Addr) (m c : Nat) (hs : a.eval s = v) (hrow : RowL w Bo B v es) (hnew : w.ownsRow B 3 1 (.slice A m c) m (I64 e))
    (b0 : Nat) (hb0 : w.heap.size = b0) (hx : a.eval x = .slice (some ⟨b0, 0, none⟩) 1 1) (hn : es.length ≤ 1000000) (hbase : Bo ≤ w.heap.size) (hB : B ≤ Bo)
    (h : ∀ v' w', RowL w' Bo B v' (es ++ [e]) → Below Bo w w' → w.grownBy w' v.ownBlock → (v'.ownBlock = v.ownBlock ∨ v'.ownBlock = some (w.heap.size + 1)) → wpList Tryz.prog ops Q rest (a.put o.dst v') w') :
    wpList Tryz.prog ops Q (o :: rest) a (w.alloc (.cells #[.slice A m c] 41)) := by
  subst hb0
  obtain ⟨i0, hi0, hz0, hz1, hz2⟩ := info_parts sl_info
  obtain ⟨vs, hown, hls⟩ := hrow
  refine wpList_append_own_at _ hgd s x _ ho Bo 41 i0 _ 1 24 Tryz.underlying87 hi0 hz0 hz1 hz2 rfl (by decide) v es.length vs hs (hown.alloc _) ⟨w.heap.size, 0, none⟩ 1 1 [.slice A m c] hx rfl
    (cell_one_new _ _ _) (by simp [Value.oneCell']) (by simp only [maxLen]; omega) (by omega) (by simp; omega)
    (fun v' w' h2 h3 _ h5 => h v' w' ⟨vs ++ [.slice A m c], by rw [List.length_append]; exact h2, ?_⟩ (below_of_grown hown hbase h3) ((World.grownBy_alloc w _ _).trans h3) (by simpa using h5))
  exact ((hls.append (.one hnew)).alloc _).grown ((hown.mono hB).alloc _) h3
/-- A row of lists behind a row of lists. -/
theorem app_rows (hgd : o.guard = none) (s x : Operand)
    (ho : o.op = .call { callee := .builtin .append, args := #[s, x], argTypes := #[87, 87] })
    (Bo Bx B : Nat) (v : Value) (es fs : List (List Int)) (A : Option Addr) (m c : Nat) (hs : a.eval s = v) (hrow : RowL w Bo B v es) (hx : a.eval x = .slice A m c) (hnew : RowL w Bx B (.slice A m c) fs)
    (hm0 : 0 < m) (hn : es.length + fs.length ≤ 1000000) (hbase : Bo ≤ w.heap.size) (hB : B ≤ Bo)
    (h : ∀ v' w', RowL w' Bo B v' (es ++ fs) → Below Bo w w' → w.grownBy w' v.ownBlock → (v'.ownBlock = v.ownBlock ∨ v'.ownBlock = some w.heap.size) → wpList Tryz.prog ops Q rest (a.put o.dst v') w') :
    wpList Tryz.prog ops Q (o :: rest) a w := by
  obtain ⟨i0, hi0, hz0, hz1, hz2⟩ := info_parts sl_info
  obtain ⟨vs, hown, hls⟩ := hrow
  obtain ⟨vs', hown', hls'⟩ := hnew
  obtain ⟨g, c', e1, hg0, hg1⟩ := own_lt hown' (by
    obtain ⟨A', c', e0, _, _, _⟩ := Rd.of_own hown'
    injection e0 with _ e2 _
    omega)
  injection e1 with e1 e2 e3
  subst e1
  subst e2
  refine wpList_append_own_at _ hgd s x _ ho Bo 41 i0 _ 1 24 Tryz.underlying87 hi0 hz0 hz1 hz2 rfl (by decide) v es.length vs hs hown ⟨g, 0, none⟩ fs.length c vs' hx (by rw [hls'.1, Nat.mul_one])
    (hown'.cells rfl) (fun u hu => ?_) (by simp only [maxLen]; omega) (by omega) hbase
    (fun v' w' h2 h3 _ h5 => h v' w' ⟨vs ++ vs', by rw [List.length_append]; exact h2, ?_⟩ ((Below.refl _ _).grown h3 hbase (fun k hk => (hown.lt k hk).1)) h3 h5)
  · obtain ⟨k, hk, rfl⟩ := List.mem_iff_getElem.1 hu
    obtain ⟨Ae, ce, h3, _⟩ := hls'.2 k (fs[k]'(by rw [← hls'.1]; exact hk)) (List.getElem?_eq_getElem _)
    rw [List.getElem?_eq_getElem hk] at h3
    have h3 := Option.some.inj h3
    rw [h3]
    rfl
  · exact (hls.append hls').grown (hown.mono hB) h3
end
end Go.Proofs.YtamhpgledbmnoaaGreatDoor
namespace Go.Proofs.YtamhpgledbmnoaaGreatDoor
set_option linter.unusedVariables false
set_option linter.unusedSimpArgs false
open Go.RowKit
set_option maxRecDepth 100000 in
theorem leaf_cells (w : World) : ∀ (j : Nat) (x : Int), Pl.lvs[j]? = some x → (w.alloc (.cells #[.int .i64 0, .int .i64 1, .int .i64 10, .int .i64 11] 3)).cell? ⟨w.heap.size, j, none⟩ = some (.int .i64 x) := by
  intro j x hx
  rw [cell_of_row _ _ _ _ _ _ (heap_alloc_new w _)]
  rcases j with _ | _ | _ | _ | j
  all_goals simp [Pl.lvs] at hx
  all_goals subst hx; rfl
end Go.Proofs.YtamhpgledbmnoaaGreatDoor
namespace Go.Proofs.YtamhpgledbmnoaaGreatDoor
set_option linter.unusedVariables false
set_option linter.unusedSimpArgs false
open Go.RowKit
/-- A list of the call's own, and a truth. -/
def OutSh (X : List Int) (ok : Bool) (w : World) (e : Ending) (w' : World) : Prop :=
  ∃ (A : Option Addr) (c : Nat), e = .returned (.tuple #[.slice A X.length c, .bool ok]) ∧ w'.ownsRow w.heap.size 3 1 (.slice A X.length c) X.length (I64 X) ∧ Below w.heap.size w w'
theorem equalAt_same (e f : List Int) : ∃ p q, Pl.equalAt 3 e f = (Pl.same3 e f, p, q) := ⟨_, _, rfl⟩
end Go.Proofs.YtamhpgledbmnoaaGreatDoor
namespace Go.Proofs.YtamhpgledbmnoaaGreatDoor
set_option linter.unusedVariables false
set_option linter.unusedSimpArgs false
open Go.RowKit
/-- Two rows of lists, in blocks of their own. -/
def Two (w : World) (B : Nat) (v u : Value) (es fs : List (List Int)) : Prop := RowL w (B + 1) B v es ∧ RowL w (B + 1) B u fs ∧ ∀ k, v.ownBlock = some k → u.ownBlock ≠ some k
section
variable {w w' : World} {B : Nat} {v u : Value} {es fs : List (List Int)}
theorem Two.below (h : Two w B v u es fs) (hb : Below w.heap.size w w') : Two w' B v u es fs := ⟨h.1.below hb, h.2.1.below hb, h.2.2⟩
theorem Two.drew (h : Two w B v u es fs) : Two w.drew B v u es fs := ⟨h.1.drew, h.2.1.drew, h.2.2⟩
theorem Two.swap (h : Two w B v u es fs) : Two w B u v fs es := ⟨h.2.1, h.1, fun k h1 h2 => h.2.2 k h2 h1⟩
theorem Two.push {v' : Value} {es' : List (List Int)} {b : Nat} (h : Two w B v u es fs) (h' : RowL w' (B + 1) B v' es') (hg : w.grownBy w' v.ownBlock) (hl : v'.ownBlock = v.ownBlock ∨ v'.ownBlock = some b) (hb : w.heap.size ≤ b) : Two w' B v' u es' fs := by
  refine ⟨h', h.2.1.apart h.1 (by omega) hg (fun k h1 h2 => h.2.2 k h2 h1), fun k h1 h2 => ?_⟩
  rcases hl with e | e
  · exact h.2.2 k (e ▸ h1) h2
  · rw [e] at h1
    injection h1 with h1
    have := (h.2.1.lt k h2).2
    omega
end
theorem own_lit3 (w : World) (n m l : Int) {B b0 : Nat} (hB : B ≤ w.heap.size) (hb0 : w.heap.size = b0) : (w.alloc (.cells #[.int .i64 n, .int .i64 m, .int .i64 l] 3)).ownsRow B 3 1 (.slice (some ⟨b0, 0, none⟩) 3 3) 3 (I64 [n, m, l]) := by
  subst hb0
  exact World.ownsRow_lit (base := B) (e := 3) (size := 1) w (I64 [n, m, l]).toArray 3 hB (by simp [maxLen]) (by simp [I64_len])
/-- A row that a block bears stands while that block stands. -/
theorem own_under {w w' : World} {base size n g D c : Nat} {e : TypeId} {xs : List Value} (h : w.ownsRow base e size (.slice (some ⟨g, 0, none⟩) n c) n xs) (hb : Below D w w') (hg : g < D) : w'.ownsRow base e size (.slice (some ⟨g, 0, none⟩) n c) n xs := by
  obtain ⟨h1, h2⟩ := h
  refine ⟨h1, ?_⟩
  rcases h2 with ⟨h2, _⟩ | ⟨g', cap, cur, hv, a, b, d⟩
  · cases h2
  · have hv' := hv
    injection hv' with e1 _ _
    injection e1 with e1
    injection e1 with e1 _ _
    subst e1
    exact .inr ⟨g, cap, cur, hv, a, (hb.block g hg).trans b, d⟩
section
variable {ops : Array Oper} {o : Oper} {a : Act} {w : World} {K : Act → World → Prop} {Q : Exit → Act → World → Prop} {E : Prop}
theorem step_row (hgd : o.guard = none) (s x : Operand)
    (ho : o.op = .call { callee := .builtin .append, args := #[s, x], argTypes := #[87, 87] })
    (Bo B : Nat) (v : Value) (es : List (List Int)) (e : List Int) (A : Option Addr) (m c : Nat) (ad : Addr) (hs : a.eval s = v) (hx : a.eval x = .slice (some ad) 1 1) (hrow : RowL w Bo B v es) (hnew : w.ownsRow B 3 1 (.slice A m c) m (I64 e))
    (hc : w.cell? ad = some (.slice A m c)) (hn : es.length ≤ 1000000) (hbase : Bo ≤ w.heap.size) (hB : B ≤ Bo)
    (h : ∀ v' w', RowL w' Bo B v' (es ++ [e]) → Below Bo w w' → w.grownBy w' v.ownBlock → (v'.ownBlock = v.ownBlock ∨ v'.ownBlock = some w.heap.size) → K (a.put o.dst v') w') :
    if Region.wanted o (yielded ops a.tmps) = true then Oper.wp Tryz.prog o a w K Q else E := by
  have hw : Region.wanted o (yielded ops a.tmps) = true := by simp [Region.wanted, hgd]
  rw [if_pos hw]
  obtain ⟨i0, hi0, hz0, hz1, hz2⟩ := info_parts sl_info
  obtain ⟨vs, hown, hls⟩ := hrow
  have hc' : ∀ j u', [Value.slice A m c][j]? = some u' → w.cell? (ad.add j) = some u' := by
    intro j u' hu
    rcases j with _ | j
    · simp at hu; subst hu; simpa [Addr.add] using hc
    · simp at hu
  obtain ⟨v', w', hr, h2, h3, h4, h5⟩ := run_append_own_at (P := Tryz.prog) w Bo 87 o.type 41 i0 _ 1 24 Tryz.underlying87 hi0 hz0 hz1 hz2 rfl (by decide) v es.length vs hown ad 1 1 [.slice A m c] rfl hc' (by simp [Value.oneCell']) (by simp only [maxLen]; omega) (by omega) hbase
  unfold Oper.wp execOp
  simp only [ho, resolve, invoke, builtin, Sem.run_bind, Sem.run_pure, Result.andThen_ok, List.map_toArray, List.map_cons, List.map_nil, hs, hx, hr]
  exact h v' w' ⟨vs ++ [.slice A m c], by rw [List.length_append]; exact h2, (hls.append (.one hnew)).grown (hown.mono hB) h3⟩ ((Below.refl _ _).grown h3 hbase (fun k hk => (hown.lt k hk).1)) h3 h5
theorem step_list (hgd : o.guard = none) (s x : Operand)
    (ho : o.op = .call { callee := .builtin .append, args := #[s, x], argTypes := #[41, 41] })
    (B : Nat) (v : Value) (n : Nat) (xs : List Int) (hs : a.eval s = v)
    (g m c : Nat) (ys : List Int) (B2 : Nat) (hx : a.eval x = .slice (some ⟨g, 0, none⟩) m c) (hown : w.ownsRow B 3 1 v n (I64 xs)) (hown2 : w.ownsRow B2 3 1 (.slice (some ⟨g, 0, none⟩) m c) m (I64 ys)) (hn : n ≤ 1000000) (hm : m ≤ 1000000) (hB : B ≤ w.heap.size)
    (h : ∀ v' w', w'.ownsRow B 3 1 v' (n + m) (I64 (xs ++ ys)) → Below B w w' → w.grownBy w' v.ownBlock → K (a.put o.dst v') w') :
    if Region.wanted o (yielded ops a.tmps) = true then Oper.wp Tryz.prog o a w K Q else E := by
  have hw : Region.wanted o (yielded ops a.tmps) = true := by simp [Region.wanted, hgd]
  rw [if_pos hw]
  obtain ⟨i0, hi0, hz0, hz1, hz2⟩ := info_parts int_info
  obtain ⟨v', w', hr, h2, h3, h4, h5⟩ := run_append_own_at (P := Tryz.prog) w B 41 o.type 3 i0 _ 1 8 Tryz.underlying41 hi0 hz0 hz1 hz2 rfl (by decide) v n (I64 xs) hown ⟨g, 0, none⟩ m c (I64 ys) hown2.1 (hown2.cells rfl) (fun u hu => by unfold I64 at hu; obtain ⟨_, _, rfl⟩ := List.mem_map.1 hu; rfl) (by simp only [maxLen]; omega) (by omega) hB
  unfold Oper.wp execOp
  simp only [ho, resolve, invoke, builtin, Sem.run_bind, Sem.run_pure, Result.andThen_ok, List.map_toArray, List.map_cons, List.map_nil, hs, hx, hr]
  exact h v' w' (by rw [I64_append]; exact h2) ((Below.refl _ _).grown h3 hB (fun k hk => (hown.lt k hk).1)) h3
end
end Go.Proofs.YtamhpgledbmnoaaGreatDoor
