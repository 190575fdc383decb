/-
  The code of an expression does what the expression says, has no operation twice, and at most as many as the expression. No program is in sight.
-/
import Derived.Test.YtnjcephddilalabPc
namespace Go.Proofs.Ytnjcephddilalab
set_option linter.unusedVariables false
set_option linter.unusedSimpArgs false
open Go.RowKit
namespace Pl
def CInv (k x y : Int) (code : List Op3) (st vals ev : List Int) : Prop :=
  runC k x y code [] = some vals ∧ vals.length = code.length ∧ st.map (fun n => atv k vals n x y) = ev ∧ (∀ n ∈ st, there n vals.length = true) ∧
  (∀ (i : Nat) (c : Op3), code[i]? = some c → there c.2.1 vals.length = true ∧ there c.2.2 vals.length = true ∧ vals[i]? = some (opv k c.1 (atv k vals c.2.1 x y) (atv k vals c.2.2 x y)))
theorem cinv_0 {k x y s : Int} {code : List Op3} {st vals ev : List Int} (h : CInv k x y code st vals ev) (h0 : 0 ≤ s) (h1 : s < 12) : CInv k x y code (st ++ [s]) vals (ev ++ [leafv k s x y]) := by
  obtain ⟨a, b, c, d, e⟩ := h
  refine ⟨a, b, ?_, ?_, e⟩
  · rw [List.map_append, c]
    show ev ++ [atv k vals s x y] = _
    unfold atv
    rw [if_neg (by omega)]
  · intro n hn
    rcases List.mem_append.1 hn with hn | hn
    · exact d n hn
    · rw [List.mem_singleton.1 hn]
      exact decide_eq_true (.inl ⟨h0, by omega⟩)
theorem atv_100 {k x y : Int} {vals : List Int} {i : Nat} {v : Int} (h : vals[i]? = some v) : atv k vals (100 + (i : Int)) x y = v := by
  unfold atv
  rw [if_pos (by omega), show (100 + (i : Int) - 100).toNat = i by omega, List.getD_eq_getElem?_getD, h]; rfl
theorem cinv_op {k x y : Int} {code : List Op3} {st vals ev : List Int} {X : Op3} {m : Nat} (h : CInv k x y code st vals ev) (hX : opOk X vals.length = true) :
    ∃ vals', CInv k x y (if code.idxOf X < code.length then code else code ++ [X]) (st.take m ++ [100 + (code.idxOf X : Int)]) vals' (ev.take m ++ [opv k X.1 (atv k vals X.2.1 x y) (atv k vals X.2.2 x y)]) := by
  obtain ⟨a, b, c, d, e⟩ := h
  by_cases hf : code.idxOf X < code.length
  · rw [if_pos hf]
    have hg : code[code.idxOf X]? = some X := by rw [List.getElem?_eq_getElem hf, List.getElem_idxOf]
    obtain ⟨e1, e2, e3⟩ := e _ X hg
    refine ⟨vals, a, b, ?_, ?_, e⟩
    · rw [List.map_append, List.map_take, c]
      show ev.take m ++ [atv k vals (100 + (code.idxOf X : Int)) x y] = _
      rw [atv_100 e3]
    · intro n hn
      rcases List.mem_append.1 hn with hn | hn
      · exact d n (List.mem_of_mem_take hn)
      · rw [List.mem_singleton.1 hn]
        exact decide_eq_true (.inr ⟨by omega, by omega⟩)
  · rw [if_neg hf]
    have hI : code.idxOf X = code.length := by have := List.idxOf_le_length (a := X) (l := code); omega
    have hl : (doOp k x y vals X).length = vals.length + 1 := by unfold doOp; simp
    have hold : ∀ n, there n vals.length = true → atv k (doOp k x y vals X) n x y = atv k vals n x y := fun n hn => by unfold doOp; exact atv_append hn
    obtain ⟨_, t1, t2, _⟩ := opOk_t hX
    have hnew : (doOp k x y vals X)[vals.length]? = some (opv k X.1 (atv k vals X.2.1 x y) (atv k vals X.2.2 x y)) := by unfold doOp; simp
    refine ⟨doOp k x y vals X, ?_, ?_, ?_, ?_, ?_⟩
    · rw [runC_append, a]
      show runC k x y [X] vals = _
      unfold runC
      rw [if_pos hX]; rfl
    · rw [hl, b, List.length_append]; rfl
    · rw [List.map_append]
      congr 1
      · rw [← c, ← List.map_take]
        exact List.map_congr_left (fun n hn => hold n (d n (List.mem_of_mem_take hn)))
      · show [atv k (doOp k x y vals X) (100 + (code.idxOf X : Int)) x y] = _
        rw [hI, ← b, atv_100 hnew]
    · intro n hn
      rw [hl]
      rcases List.mem_append.1 hn with hn | hn
      · exact there_mono (d n (List.mem_of_mem_take hn)) (by omega)
      · rw [List.mem_singleton.1 hn, hI]
        exact decide_eq_true (.inr ⟨by omega, by omega⟩)
    · intro i c' hc
      rw [hl]
      rcases Nat.lt_or_ge i code.length with hi | hi
      · rw [List.getElem?_append_left hi] at hc
        obtain ⟨e1, e2, e3⟩ := e i c' hc
        refine ⟨there_mono e1 (by omega), there_mono e2 (by omega), ?_⟩
        rw [hold _ e1, hold _ e2]
        unfold doOp
        rw [List.getElem?_append_left (by omega)]
        exact e3
      · have hi' : i = code.length := by
          have := (List.getElem?_eq_some_iff.1 hc).1
          rw [List.length_append] at this
          simp at this
          omega
        subst hi'
        have hcX : c' = X := by
          rw [List.getElem?_append_right (Nat.le_refl _)] at hc
          simpa using hc.symm
        subst hcX
        refine ⟨there_mono t1 (by omega), there_mono t2 (by omega), ?_⟩
        rw [hold _ t1, hold _ t2, ← b]
        exact hnew
theorem atv_zero (k x y : Int) (vals : List Int) : atv k vals 0 x y = 0 := by
  unfold atv leafv
  rw [if_neg (by omega), if_neg (by omega), if_neg (by omega)]
  exact wmod_0 k
theorem getD_map {f : Int → Int} {st ev : List Int} (h : st.map f = ev) {i : Nat} (hi : i < st.length) : ev.getD i 0 = f (st.getD i 0) := by
  subst h
  simp [List.getD_eq_getElem?_getD, List.getElem?_eq_getElem hi]
theorem mem_getD {st : List Int} {i : Nat} (hi : i < st.length) : st.getD i 0 ∈ st := by
  rw [List.getD_eq_getElem?_getD, List.getElem?_eq_getElem hi]
  exact List.getElem_mem hi
theorem there_0 (m : Nat) : there 0 m = true := decide_eq_true (.inl ⟨by omega, by omega⟩)
theorem code_inv {k x y : Int} (hv : v2 k x y = true) {e : List Int} (he : exprValid e = true) : ∀ j, j ≤ e.length → ∃ vals, CInv k x y (codeS (e.take j)).1 (codeS (e.take j)).2 vals (evalS k x y (e.take j))
  | 0, _ => ⟨[], rfl, rfl, rfl, fun n hn => absurd hn (List.not_mem_nil), fun i c hc => by simp [codeS] at hc⟩
  | j + 1, hj => by
    obtain ⟨vals, hi⟩ := code_inv hv he j (by omega)
    obtain ⟨h0, h1, x0, x1, y0, y1⟩ := v2_t hv
    have hs : e[j]? = some e[j] := List.getElem?_eq_getElem (by omega)
    obtain ⟨w1, w2⟩ := eval_at x0 x1 y0 y1 (valid_t he).2.2 j (by omega)
    obtain ⟨⟨s0, s1⟩, ht⟩ := scan_at (valid_t he).2.2 hs w2
    rw [codeS_snoc hs, evalS_snoc hs]
    generalize e[j] = s at *
    generalize evalS k x y (e.take j) = ev at *
    generalize hcs : codeS (e.take j) = cs at *
    obtain ⟨code, st⟩ := cs
    simp only at hi
    have hlen : st.length = ev.length := by rw [← hi.2.2.1, List.length_map]
    have hmap := hi.2.2.1
    have hmem := hi.2.2.2.1
    by_cases t0 : s < 12
    · refine ⟨vals, ?_⟩
      unfold codeStep pushS
      rw [takes_0 t0]
      exact cinv_0 hi s0 t0
    · by_cases t1 : s < 15
      · have htk := takes_1 (by omega) t1
        rw [htk] at ht
        obtain ⟨m, hm⟩ : ∃ m, st.length = m + 1 := ⟨st.length - 1, by omega⟩
        have hX : opOk (s, st.getD m 0, 0) vals.length = true := opOk_mk ⟨by omega, by omega⟩ (hmem _ (mem_getD (by omega))) (there_0 _) (fun h => h.2 rfl)
        obtain ⟨vals', hn⟩ := cinv_op (m := m) hi hX
        refine ⟨vals', ?_⟩
        have e1 : codeStep (code, st) s = (if code.idxOf (s, st.getD m 0, 0) < code.length then code else code ++ [(s, st.getD m 0, 0)], st.take m ++ [100 + (code.idxOf (s, st.getD m 0, (0 : Int)) : Int)]) := by
          unfold codeStep mkOp
          simp only [htk, hm]
          rfl
        have e2 : pushS k x y ev s = ev.take m ++ [opv k s (ev.getD m 0) 0] := by
          unfold pushS
          rw [htk, ← hlen, hm]; rfl
        rw [e1, e2, getD_map hmap (by omega)]
        simp only [atv_zero] at hn
        exact hn
      · have htk := takes_2 (s := s) (by omega)
        rw [htk] at ht
        obtain ⟨m, hm⟩ : ∃ m, st.length = m + 2 := ⟨st.length - 2, by omega⟩
        have hX : opOk (s, st.getD m 0, st.getD (m + 1) 0) vals.length = true := opOk_mk ⟨by omega, by omega⟩ (hmem _ (mem_getD (by omega))) (hmem _ (mem_getD (by omega))) (fun h => by rw [htk] at h; omega)
        obtain ⟨vals', hn⟩ := cinv_op (m := m) hi hX
        refine ⟨vals', ?_⟩
        have e1 : codeStep (code, st) s = (if code.idxOf (s, st.getD m 0, st.getD (m + 1) 0) < code.length then code else code ++ [(s, st.getD m 0, st.getD (m + 1) 0)], st.take m ++ [100 + (code.idxOf (s, st.getD m 0, st.getD (m + 1) 0) : Int)]) := by
          unfold codeStep mkOp
          simp only [htk, hm]
          rfl
        have e2 : pushS k x y ev s = ev.take m ++ [opv k s (ev.getD m 0) (ev.getD (m + 1) 0)] := by
          unfold pushS
          rw [htk, ← hlen, hm]; rfl
        rw [e1, e2, getD_map hmap (by omega), getD_map hmap (by omega)]
        exact hn
/-- How many operations an expression has. -/
def worksL (e : List Int) : Nat := (e.filter (fun s => decide (12 ≤ s))).length
theorem works_snoc {e : List Int} {j : Nat} {s : Int} (h : e[j]? = some s) : worksL (e.take (j + 1)) = worksL (e.take j) + if 12 ≤ s then 1 else 0 := by
  unfold worksL
  rw [take_snoc h, List.filter_append, List.length_append]
  by_cases h12 : 12 ≤ s
  · simp [h12]
  · simp [h12]
theorem code_short (e : List Int) : ∀ j, j ≤ e.length → (codeS (e.take j)).1.length ≤ worksL (e.take j) ∧ (∀ (a b : Nat) (c : Op3), a < b → (codeS (e.take j)).1[a]? = some c → (codeS (e.take j)).1[b]? ≠ some c)
  | 0, _ => ⟨by simp [codeS], fun a b c hab h => by simp [codeS] at h⟩
  | j + 1, hj => by
    obtain ⟨h1, h2⟩ := code_short e j (by omega)
    have hs : e[j]? = some e[j] := List.getElem?_eq_getElem (by omega)
    rw [codeS_snoc hs, works_snoc hs]
    generalize e[j] = s at *
    generalize codeS (e.take j) = cs at *
    obtain ⟨code, st⟩ := cs
    simp only at h1 h2
    unfold codeStep
    by_cases t0 : takes s = 0
    · rw [if_pos t0]; exact ⟨by show code.length ≤ _; omega, h2⟩
    · rw [if_neg t0]
      have h12 : 12 ≤ s := by
        rcases Int.lt_or_le s 12 with h | h
        · exact absurd (takes_0 h) t0
        · exact h
      rw [if_pos h12]
      simp only
      generalize mkOp st s = X
      by_cases hf : code.idxOf X < code.length
      · rw [if_pos hf]; exact ⟨by omega, h2⟩
      · rw [if_neg hf]
        refine ⟨by rw [List.length_append]; simp; omega, fun a b c hab ha hb => ?_⟩
        have hbl := (List.getElem?_eq_some_iff.1 hb).1
        rw [List.length_append] at hbl
        simp at hbl
        rw [List.getElem?_append_left (by omega)] at ha
        rcases Nat.lt_or_ge b code.length with hb' | hb'
        · rw [List.getElem?_append_left hb'] at hb
          exact h2 a b c hab ha hb
        · rw [List.getElem?_append_right hb', show b - code.length = 0 by omega] at hb
          have hXc : X = c := by simpa using hb
          subst hXc
          have hmem := List.mem_of_getElem? ha
          exact hf (List.idxOf_lt_length_of_mem hmem)
/-- The law of codes. -/
theorem code_law {k x y : Int} (hv : v2 k x y = true) {e : List Int} (he : exprValid e = true) : codeRun k (codeOf e).1 (codeOf e).2 x y = valueOf k e x y := by
  obtain ⟨h0, h1, x0, x1, y0, y1⟩ := v2_t hv
  obtain ⟨vals, a, b, c, d, _⟩ := code_inv hv he e.length (Nat.le_refl _)
  obtain ⟨hs, _⟩ := code_short e e.length (Nat.le_refl _)
  rw [List.take_length] at a b c d hs
  rw [(eval_end x0 x1 y0 y1 he).1] at c
  have hw : worksL e ≤ e.length := List.length_filter_le _ _
  have hl := valid_t he
  unfold codeOf
  rw [if_pos he]
  show codeRun k (codeS e).1 ((codeS e).2.headD 0) x y = _
  generalize codeS e = cs at *
  obtain ⟨code, st⟩ := cs
  simp only at *
  obtain ⟨n, rfl⟩ : ∃ n, st = [n] := List.length_eq_one_iff.1 (by have h := congrArg List.length c; simpa using h)
  have hn : atv k vals n x y = value k e x y := by simpa using c
  rw [codeRun_end hv (by omega) a]
  show (if there n vals.length = true then atv k vals n x y else -1) = _
  rw [if_pos (d n (by simp)), hn, valueOf_t he hv]
end Pl
end Go.Proofs.Ytnjcephddilalab
