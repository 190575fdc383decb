/-
  Codes of expressions as plain functions on lists: making one, running one, and that the code does what the expression says. No program is in sight.
-/
import Derived.Test.YtnjcephddilalabPe
namespace Go.Proofs.Ytnjcephddilalab
set_option linter.unusedVariables false
set_option linter.unusedSimpArgs false
open Go.RowKit
namespace Pl
/-- An operation: its step and the numbers of what it takes. -/
abbrev Op3 := Int × Int × Int
/-- The operation that a step makes of the stack. -/
def mkOp (st : List Int) (s : Int) : Op3 :=
  (s, st.getD (st.length - (takes s).toNat) 0, if takes s = 2 then st.getD (st.length - 1) 0 else 0)
def codeStep (c : List Op3 × List Int) (s : Int) : List Op3 × List Int :=
  if takes s = 0 then (c.1, c.2 ++ [s])
  else
    (if c.1.idxOf (mkOp c.2 s) < c.1.length then c.1 else c.1 ++ [mkOp c.2 s],
      c.2.take (c.2.length - (takes s).toNat) ++ [100 + (c.1.idxOf (mkOp c.2 s) : Int)])
def codeS (e : List Int) : List Op3 × List Int := e.foldl codeStep ([], [])
def codeOf (e : List Int) : List Op3 × Int := if exprValid e = true then ((codeS e).1, (codeS e).2.headD 0) else ([], -1)
def there (n : Int) (m : Nat) : Bool := decide ((0 ≤ n ∧ n ≤ 11) ∨ (100 ≤ n ∧ n ≤ 99 + m))
def atv (k : Int) (vals : List Int) (n x y : Int) : Int := if 100 ≤ n then vals.getD (n - 100).toNat 0 else leafv k n x y
def opOk (c : Op3) (m : Nat) : Bool := decide (12 ≤ c.1 ∧ c.1 ≤ 19) && there c.2.1 m && there c.2.2 m && !(decide (takes c.1 = 1) && decide (c.2.2 ≠ 0))
def doOp (k x y : Int) (vals : List Int) (c : Op3) : List Int := vals ++ [opv k c.1 (atv k vals c.2.1 x y) (atv k vals c.2.2 x y)]
/-- What the first operations of a code leave; none if one of them cannot be done. -/
def runC (k x y : Int) : List Op3 → List Int → Option (List Int)
  | [], vals => some vals
  | c :: t, vals => if opOk c vals.length = true then runC k x y t (doOp k x y vals c) else none
def codeRun (k : Int) (code : List Op3) (n x y : Int) : Int :=
  if v2 k x y = true ∧ code.length ≤ 24 then
    match runC k x y code [] with
    | some vals => if there n vals.length = true then atv k vals n x y else -1
    | none => -1
  else -1
theorem runC_append (k x y : Int) : ∀ (a b : List Op3) (vals : List Int), runC k x y (a ++ b) vals = (runC k x y a vals).bind (runC k x y b)
  | [], b, vals => by simp [runC]
  | c :: t, b, vals => by
    show runC k x y (c :: (t ++ b)) vals = _
    unfold runC
    split
    · exact runC_append k x y t b _
    · rfl
theorem codeS_snoc {e : List Int} {j : Nat} {s : Int} (h : e[j]? = some s) : codeS (e.take (j + 1)) = codeStep (codeS (e.take j)) s := by
  unfold codeS
  rw [take_snoc h, List.foldl_append]; rfl
theorem there_mono {n : Int} {m m' : Nat} (h : there n m = true) (hm : m ≤ m') : there n m' = true := by
  unfold there at *
  have := of_decide_eq_true h
  exact decide_eq_true (by omega)
theorem atv_append {k x y n : Int} {vals more : List Int} (h : there n vals.length = true) : atv k (vals ++ more) n x y = atv k vals n x y := by
  have h := of_decide_eq_true h
  unfold atv
  split
  · rw [List.getD_eq_getElem?_getD, List.getD_eq_getElem?_getD, List.getElem?_append_left (by omega)]
  · rfl
theorem take_snoc3 {e : List Op3} {j : Nat} {s : Op3} (h : e[j]? = some s) : e.take (j + 1) = e.take j ++ [s] := by
  rw [List.take_add_one, h]; rfl
theorem drop_cons3 {e : List Op3} {j : Nat} {s : Op3} (h : e[j]? = some s) : e.drop j = s :: e.drop (j + 1) := by
  obtain ⟨hj, he⟩ := List.getElem?_eq_some_iff.1 h
  rw [List.drop_eq_getElem_cons hj, he]
theorem runC_snoc {k x y : Int} {code : List Op3} {j : Nat} {c : Op3} {vals : List Int} (h : code[j]? = some c) (hv : runC k x y (code.take j) [] = some vals) (hc : opOk c vals.length = true) :
    runC k x y (code.take (j + 1)) [] = some (doOp k x y vals c) := by
  rw [take_snoc3 h, runC_append, hv]
  show runC k x y [c] vals = _
  unfold runC
  rw [if_pos hc]; rfl
theorem runC_bad {k x y : Int} {code : List Op3} {j : Nat} {c : Op3} {vals : List Int} (h : code[j]? = some c) (hv : runC k x y (code.take j) [] = some vals) (hc : opOk c vals.length = false) :
    runC k x y code [] = none := by
  have e : runC k x y code [] = runC k x y (code.take j ++ code.drop j) [] := by rw [List.take_append_drop]
  rw [e, runC_append, hv, drop_cons3 h]
  show runC k x y (c :: code.drop (j + 1)) vals = none
  unfold runC
  rw [hc]; rfl
theorem codeRun_none {k : Int} {code : List Op3} {n x y : Int} (h : runC k x y code [] = none) : codeRun k code n x y = -1 := by
  unfold codeRun
  split
  · rw [h]
  · rfl
theorem codeRun_f {k : Int} {code : List Op3} {n x y : Int} (h : ¬ (v2 k x y = true ∧ code.length ≤ 24)) : codeRun k code n x y = -1 := by
  unfold codeRun; rw [if_neg h]
theorem codeRun_end {k : Int} {code : List Op3} {n x y : Int} {vals : List Int} (h : v2 k x y = true) (hl : code.length ≤ 24) (hv : runC k x y code [] = some vals) :
    codeRun k code n x y = if there n vals.length = true then atv k vals n x y else -1 := by
  unfold codeRun; rw [if_pos ⟨h, hl⟩, hv]
theorem atv_word {k x y n : Int} {vals : List Int} (h : v2 k x y = true) (hw : Words k vals) : wvB k (atv k vals n x y) = true := by
  obtain ⟨h0, h1, x0, x1, y0, y1⟩ := v2_t h
  unfold atv
  split
  · have := words_get hw (n - 100).toNat
    exact wv_mk h0 h1 this.1 this.2
  · have := leafv_lt (k := k) (s := n) x0 x1 y0 y1
    exact wv_mk h0 h1 this.1 this.2
theorem words_doOp {k x y : Int} {vals : List Int} {c : Op3} (h : v2 k x y = true) (hw : Words k vals) : Words k (doOp k x y vals c) := by
  intro v hv
  unfold doOp at hv
  rcases List.mem_append.1 hv with hv | hv
  · exact hw v hv
  · rw [List.mem_singleton.1 hv]
    obtain ⟨_, _, a0, a1⟩ := wv_t (atv_word (n := c.2.1) h hw)
    obtain ⟨_, _, b0, b1⟩ := wv_t (atv_word (n := c.2.2) h hw)
    exact opv_lt a0 a1 b0 b1
theorem opOk_t {c : Op3} {m : Nat} (h : opOk c m = true) : (12 ≤ c.1 ∧ c.1 ≤ 19) ∧ there c.2.1 m = true ∧ there c.2.2 m = true ∧ ¬ (takes c.1 = 1 ∧ c.2.2 ≠ 0) := by
  unfold opOk at h
  simp only [Bool.and_eq_true, Bool.not_eq_true', decide_eq_true_eq, Bool.and_eq_false_iff, decide_eq_false_iff_not] at h
  obtain ⟨⟨⟨h1, h2⟩, h3⟩, h4⟩ := h
  exact ⟨h1, h2, h3, fun hx => h4.elim (fun g => g hx.1) (fun g => g hx.2)⟩
theorem opOk_mk {c : Op3} {m : Nat} (h1 : 12 ≤ c.1 ∧ c.1 ≤ 19) (h2 : there c.2.1 m = true) (h3 : there c.2.2 m = true) (h4 : ¬ (takes c.1 = 1 ∧ c.2.2 ≠ 0)) : opOk c m = true := by
  unfold opOk
  rw [decide_eq_true h1, h2, h3]
  simp only [Bool.and_eq_true, Bool.not_eq_true', Bool.true_and, Bool.and_eq_false_iff, decide_eq_false_iff_not]
  rcases Classical.em (takes c.1 = 1) with g | g
  · exact .inr (fun hx => h4 ⟨g, hx⟩)
  · exact .inl g
theorem opOk_f {c : Op3} {m : Nat} (h : ¬ ((12 ≤ c.1 ∧ c.1 ≤ 19) ∧ there c.2.1 m = true ∧ there c.2.2 m = true ∧ ¬ (takes c.1 = 1 ∧ c.2.2 ≠ 0))) : opOk c m = false := by
  cases hc : opOk c m
  · rfl
  · exact absurd (opOk_t hc) h
end Pl
end Go.Proofs.Ytnjcephddilalab
