/-
  Expressions and their values as plain functions on lists of integers. No program is in sight.
-/
import Derived.Test.YtnjcephddilalabPw
namespace Go.Proofs.Ytnjcephddilalab
set_option linter.unusedVariables false
set_option linter.unusedSimpArgs false
open Go.RowKit
namespace Pl
/-- How many a step takes from the stack. -/
def takes (s : Int) : Int := if 15 ≤ s then 2 else if 12 ≤ s then 1 else 0
theorem takes_bd (s : Int) : 0 ≤ takes s ∧ takes s ≤ 2 := by
  unfold takes
  repeat' split
  all_goals omega
theorem takes_2 {s : Int} (h : 15 ≤ s) : takes s = 2 := by unfold takes; rw [if_pos h]
theorem takes_1 {s : Int} (h : 12 ≤ s) (h' : s < 15) : takes s = 1 := by unfold takes; rw [if_neg (by omega), if_pos h]
theorem takes_0 {s : Int} (h : s < 12) : takes s = 0 := by unfold takes; rw [if_neg (by omega), if_neg (by omega)]
/-- The depth of the stack behind some steps; none where a step fails. -/
def scan : List Int → Int → Option Int
  | [], d => some d
  | s :: t, d => if (0 ≤ s ∧ s ≤ 19) ∧ takes s ≤ d then scan t (d + 1 - takes s) else none
def exprValid (e : List Int) : Bool := decide (1 ≤ e.length ∧ e.length ≤ 24 ∧ scan e 0 = some 1)
theorem scan_append : ∀ (a b : List Int) (d : Int), scan (a ++ b) d = (scan a d).bind (scan b)
  | [], b, d => by simp [scan]
  | s :: t, b, d => by
    show scan (s :: (t ++ b)) d = _
    unfold scan
    split
    · exact scan_append t b _
    · rfl
theorem drop_cons {e : List Int} {j : Nat} {s : Int} (h : e[j]? = some s) : e.drop j = s :: e.drop (j + 1) := by
  obtain ⟨hj, he⟩ := List.getElem?_eq_some_iff.1 h
  rw [List.drop_eq_getElem_cons hj, he]
theorem take_snoc {e : List Int} {j : Nat} {s : Int} (h : e[j]? = some s) : e.take (j + 1) = e.take j ++ [s] := by
  rw [List.take_add_one, h]; rfl
/-- One more step of a scan that goes on from the front. -/
theorem scan_snoc {e : List Int} {j : Nat} {s d : Int} (h : e[j]? = some s) (hd : scan (e.take j) 0 = some d) (h0 : 0 ≤ s) (h1 : s ≤ 19) (ht : takes s ≤ d) :
    scan (e.take (j + 1)) 0 = some (d + 1 - takes s) := by
  rw [take_snoc h, scan_append, hd]
  show scan [s] d = _
  unfold scan
  rw [if_pos ⟨⟨h0, h1⟩, ht⟩]; rfl
theorem scan_split {e : List Int} {j : Nat} {d : Int} (hd : scan (e.take j) 0 = some d) : scan e 0 = scan (e.drop j) d := by
  have h := scan_append (e.take j) (e.drop j) 0
  rw [List.take_append_drop, hd] at h
  exact h
theorem scan_bad {e : List Int} {j : Nat} {s d : Int} (h : e[j]? = some s) (hd : scan (e.take j) 0 = some d) (hn : ¬ ((0 ≤ s ∧ s ≤ 19) ∧ takes s ≤ d)) : scan e 0 = none := by
  rw [scan_split hd, drop_cons h]
  unfold scan
  rw [if_neg hn]
theorem scan_nonneg : ∀ (e : List Int) (d r : Int), 0 ≤ d → scan e d = some r → 0 ≤ r ∧ r ≤ d + e.length
  | [], d, r, h, hr => by simp [scan] at hr; simp; omega
  | s :: t, d, r, h, hr => by
    unfold scan at hr
    split at hr
    · rename_i hc
      have hb := takes_bd s
      have := scan_nonneg t _ r (by omega) hr
      rw [List.length_cons]
      omega
    · cases hr
theorem valid_bad {e : List Int} {j : Nat} {s d : Int} (h : e[j]? = some s) (hd : scan (e.take j) 0 = some d) (hn : ¬ ((0 ≤ s ∧ s ≤ 19) ∧ takes s ≤ d)) : exprValid e = false := by
  unfold exprValid
  rw [scan_bad h hd hn]
  simp
theorem valid_end {e : List Int} {d : Int} (hd : scan (e.take e.length) 0 = some d) (h0 : 1 ≤ e.length) (h1 : e.length ≤ 24) : exprValid e = decide (d = 1) := by
  rw [List.take_length] at hd
  unfold exprValid
  rw [hd]
  simp [h0, h1]
theorem valid_len {e : List Int} (h : ¬ (1 ≤ e.length ∧ e.length ≤ 24)) : exprValid e = false := by
  unfold exprValid
  exact decide_eq_false (fun hx => h ⟨hx.1, hx.2.1⟩)
theorem valid_t {e : List Int} (h : exprValid e = true) : 1 ≤ e.length ∧ e.length ≤ 24 ∧ scan e 0 = some 1 := of_decide_eq_true h
/-- In a valid expression each step finds what it takes. -/
theorem scan_get {e : List Int} {r : Int} (h : scan e 0 = some r) : ∀ j, j ≤ e.length → ∃ d, scan (e.take j) 0 = some d ∧ 0 ≤ d ∧ d ≤ j := by
  intro j hj
  have hs := scan_append (e.take j) (e.drop j) 0
  rw [List.take_append_drop, h] at hs
  cases hd : scan (e.take j) 0 with
  | none => rw [hd] at hs; cases hs
  | some d =>
    have := scan_nonneg (e.take j) 0 d (by omega) hd
    rw [List.length_take] at this
    exact ⟨d, rfl, this.1, by omega⟩
theorem scan_at {e : List Int} {r : Int} (h : scan e 0 = some r) {j : Nat} {s d : Int} (hs : e[j]? = some s) (hd : scan (e.take j) 0 = some d) : (0 ≤ s ∧ s ≤ 19) ∧ takes s ≤ d := by
  rcases Classical.em ((0 ≤ s ∧ s ≤ 19) ∧ takes s ≤ d) with hc | hc
  · exact hc
  · rw [scan_bad hs hd hc] at h; cases h

/-- What a step makes of words. -/
def opv (k s a b : Int) : Int :=
  if s = 12 then pw k - 1 - a
  else if s = 13 then wmod k (2 * a)
  else if s = 14 then a / 2
  else if s = 15 then wmod k (a + b)
  else if s = 16 then wmod k (a - b)
  else if s = 17 then land a b
  else if s = 18 then lor a b
  else lxor a b
def leafv (k s x y : Int) : Int := if s = 10 then x else if s = 11 then y else wmod k s
theorem opv_lt {k s a b : Int} (ha0 : 0 ≤ a) (ha : a < pw k) (hb0 : 0 ≤ b) (hb : b < pw k) : 0 ≤ opv k s a b ∧ opv k s a b < pw k := by
  unfold opv
  have h1 := wmod_lt k (2 * a)
  have h2 := wmod_lt k (a + b)
  have h3 := wmod_lt k (a - b)
  have h4 := land_nonneg a b
  have h5 := land_lt (a := a) hb0 hb
  have h6 := lor_nonneg a b
  have h7 := lor_lt ha0 ha hb0 hb
  have h8 := lxor_nonneg a b
  have h9 := lxor_lt ha0 ha hb0 hb
  repeat' split
  all_goals omega
theorem leafv_lt {k s x y : Int} (hx0 : 0 ≤ x) (hx : x < pw k) (hy0 : 0 ≤ y) (hy : y < pw k) : 0 ≤ leafv k s x y ∧ leafv k s x y < pw k := by
  unfold leafv
  have := wmod_lt k s
  repeat' split
  all_goals omega
/-- One step on a stack whose top is at the end. -/
def pushS (k x y : Int) (st : List Int) (s : Int) : List Int :=
  if takes s = 0 then st ++ [leafv k s x y]
  else if takes s = 1 then st.take (st.length - 1) ++ [opv k s (st.getD (st.length - 1) 0) 0]
  else st.take (st.length - 2) ++ [opv k s (st.getD (st.length - 2) 0) (st.getD (st.length - 1) 0)]
def evalS (k x y : Int) (e : List Int) : List Int := e.foldl (pushS k x y) []
def value (k : Int) (e : List Int) (x y : Int) : Int := (evalS k x y e).headD 0
def valueOf (k : Int) (e : List Int) (x y : Int) : Int := if exprValid e = true ∧ v2 k x y = true then value k e x y else -1
theorem evalS_snoc {k x y : Int} {e : List Int} {j : Nat} {s : Int} (h : e[j]? = some s) : evalS k x y (e.take (j + 1)) = pushS k x y (evalS k x y (e.take j)) s := by
  unfold evalS
  rw [take_snoc h, List.foldl_append]; rfl
def Words (k : Int) (st : List Int) : Prop := ∀ v ∈ st, 0 ≤ v ∧ v < pw k
theorem words_get {k : Int} {st : List Int} (h : Words k st) (j : Nat) : 0 ≤ st.getD j 0 ∧ st.getD j 0 < pw k := by
  rcases Nat.lt_or_ge j st.length with hj | hj
  · rw [List.getD_eq_getElem?_getD, List.getElem?_eq_getElem hj]
    exact h _ (List.getElem_mem hj)
  · rw [List.getD_eq_getElem?_getD, List.getElem?_eq_none hj]
    have := pw_pos k
    exact ⟨Int.le_refl _, by simp; omega⟩
theorem words_push {k x y : Int} (hx0 : 0 ≤ x) (hx : x < pw k) (hy0 : 0 ≤ y) (hy : y < pw k) {st : List Int} (h : Words k st) (s : Int) : Words k (pushS k x y st s) := by
  have h1 := words_get h (st.length - 1)
  have h2 := words_get h (st.length - 2)
  have hp := pw_pos k
  unfold pushS
  intro v hv
  split at hv
  · rcases List.mem_append.1 hv with hv | hv
    · exact h v hv
    · rw [List.mem_singleton.1 hv]; exact leafv_lt hx0 hx hy0 hy
  · split at hv
    · rcases List.mem_append.1 hv with hv | hv
      · exact h v (List.mem_of_mem_take hv)
      · rw [List.mem_singleton.1 hv]; exact opv_lt h1.1 h1.2 (Int.le_refl _) (by omega)
    · rcases List.mem_append.1 hv with hv | hv
      · exact h v (List.mem_of_mem_take hv)
      · rw [List.mem_singleton.1 hv]; exact opv_lt h2.1 h2.2 h1.1 h1.2
theorem push_len {k x y s : Int} {st : List Int} (h : takes s ≤ st.length) : ((pushS k x y st s).length : Int) = st.length + 1 - takes s := by
  unfold pushS
  have hb := takes_bd s
  split
  · rename_i h0; rw [List.length_append, h0]; simp
  · split
    · rename_i h0 h1; rw [List.length_append, List.length_take, h1]; simp; omega
    · have : takes s = 2 := by omega
      rw [List.length_append, List.length_take, this]; simp; omega
/-- What is known of the stack on the way. -/
theorem eval_at {k x y : Int} (hx0 : 0 ≤ x) (hx : x < pw k) (hy0 : 0 ≤ y) (hy : y < pw k) {e : List Int} {r : Int} (h : scan e 0 = some r) :
    ∀ j, j ≤ e.length → Words k (evalS k x y (e.take j)) ∧ scan (e.take j) 0 = some ((evalS k x y (e.take j)).length : Int)
  | 0, _ => by
    refine ⟨fun v hv => ?_, ?_⟩
    · simp [evalS] at hv
    · simp [evalS, scan]
  | j + 1, hj => by
    obtain ⟨h1, h2⟩ := eval_at hx0 hx hy0 hy h j (by omega)
    have hs : e[j]? = some e[j] := List.getElem?_eq_getElem (by omega)
    have hc := scan_at h hs h2
    rw [evalS_snoc hs]
    exact ⟨words_push hx0 hx hy0 hy h1 _, by rw [scan_snoc hs h2 hc.1.1 hc.1.2 hc.2, push_len hc.2]⟩
theorem eval_end {k x y : Int} (hx0 : 0 ≤ x) (hx : x < pw k) (hy0 : 0 ≤ y) (hy : y < pw k) {e : List Int} (h : exprValid e = true) :
    evalS k x y e = [value k e x y] ∧ 0 ≤ value k e x y ∧ value k e x y < pw k := by
  obtain ⟨h0, h1, h2⟩ := valid_t h
  obtain ⟨h3, h4⟩ := eval_at hx0 hx hy0 hy h2 e.length (Nat.le_refl _)
  rw [List.take_length] at h3 h4
  rw [h2] at h4
  unfold value
  match hst : evalS k x y e with
  | [] => rw [hst] at h4; simp at h4
  | [v] => exact ⟨rfl, h3 v (by rw [hst]; simp)⟩
  | a :: b :: t => rw [hst] at h4; simp at h4; omega
def diffAt (k : Int) (e f : List Int) (P c : Nat) : Bool := decide (value k e ((c / P : Nat) : Int) ((c % P : Nat) : Int) ≠ value k f ((c / P : Nat) : Int) ((c % P : Nat) : Int))
/-- Whether two expressions have the same values, and the first two words for which they have not. -/
def equalAt (k : Int) (e f : List Int) : Bool × Int × Int :=
  if (1 ≤ k ∧ k ≤ 5) ∧ exprValid e = true ∧ exprValid f = true then
    match (List.range ((pw k).toNat * (pw k).toNat)).find? (diffAt k e f (pw k).toNat) with
    | none => (true, 0, 0)
    | some c => (false, ((c / (pw k).toNat : Nat) : Int), ((c % (pw k).toNat : Nat) : Int))
  else (false, -1, -1)
theorem equalAt_f {k : Int} {e f : List Int} (h : ¬ ((1 ≤ k ∧ k ≤ 5) ∧ exprValid e = true ∧ exprValid f = true)) : equalAt k e f = (false, -1, -1) := by
  unfold equalAt; rw [if_neg h]
theorem equalAt_all {k : Int} {e f : List Int} {P : Nat} (h0 : 1 ≤ k) (h1 : k ≤ 5) (he : exprValid e = true) (hf : exprValid f = true) (hP : pw k = P)
    (h : ∀ x y : Nat, x < P → y < P → value k e x y = value k f x y) : equalAt k e f = (true, 0, 0) := by
  unfold equalAt
  rw [if_pos ⟨⟨h0, h1⟩, he, hf⟩, hP, Int.toNat_natCast]
  have hn : (List.range (P * P)).find? (diffAt k e f P) = none := by
    rw [List.find?_eq_none]
    intro c hc
    have hc := List.mem_range.1 hc
    have hp : 0 < P := by
      rcases Nat.eq_zero_or_pos P with h0 | h0
      · subst h0; omega
      · exact h0
    rw [show diffAt k e f P c = false from decide_eq_false (fun hh => hh (h (c / P) (c % P) ((Nat.div_lt_iff_lt_mul hp).2 hc) (Nat.mod_lt _ hp)))]
    decide
  rw [hn]
theorem equalAt_at {k : Int} {e f : List Int} {P : Nat} (h0 : 1 ≤ k) (h1 : k ≤ 5) (he : exprValid e = true) (hf : exprValid f = true) (hP : pw k = P) {x y : Nat} (hx : x < P) (hy : y < P)
    (hb : ∀ x' : Nat, x' < x → ∀ y' : Nat, y' < P → value k e x' y' = value k f x' y') (hc : ∀ y' : Nat, y' < y → value k e x y' = value k f x y')
    (hd : value k e x y ≠ value k f x y) : equalAt k e f = (false, (x : Int), (y : Int)) := by
  unfold equalAt
  rw [if_pos ⟨⟨h0, h1⟩, he, hf⟩, hP, Int.toNat_natCast]
  have hp : 0 < P := by omega
  have d1 : (P * x + y) / P = x := by rw [Nat.mul_add_div hp, Nat.div_eq_of_lt hy, Nat.add_zero]
  have d2 : (P * x + y) % P = y := by rw [Nat.mul_add_mod, Nat.mod_eq_of_lt hy]
  have hlt : P * x + y < P * P := by
    have : P * (x + 1) ≤ P * P := Nat.mul_le_mul_left P hx
    rw [Nat.mul_add, Nat.mul_one] at this
    omega
  have hn : (List.range (P * P)).find? (diffAt k e f P) = some (P * x + y) := by
    rw [List.find?_range_eq_some]
    refine ⟨?_, List.mem_range.2 hlt, fun j hj => ?_⟩
    · unfold diffAt; rw [d1, d2]; simpa using hd
    · have hq : j / P < x ∨ (j / P = x ∧ j % P < y) := by
        have e1 := Nat.div_add_mod j P
        have e2 := Nat.mod_lt j hp
        rcases Nat.lt_trichotomy (j / P) x with q | q | q
        · exact .inl q
        · rw [q] at e1; exact .inr ⟨q, by omega⟩
        · have : P * (x + 1) ≤ P * (j / P) := Nat.mul_le_mul_left P q
          rw [Nat.mul_add, Nat.mul_one] at this
          omega
      rw [show diffAt k e f P j = false from decide_eq_false (fun hh => hh (by
        rcases hq with q | ⟨q, r⟩
        · exact hb _ q _ (Nat.mod_lt j hp)
        · rw [q]; exact hc _ r))]
      decide
  rw [hn]
  show (false, (((P * x + y) / P : Nat) : Int), (((P * x + y) % P : Nat) : Int)) = _
  rw [d1, d2]
theorem valueOf_t {k : Int} {e : List Int} {x y : Int} (h : exprValid e = true) (h' : v2 k x y = true) : valueOf k e x y = value k e x y := by unfold valueOf; rw [if_pos ⟨h, h'⟩]
theorem valueOf_f {k : Int} {e : List Int} {x y : Int} (h : ¬ (exprValid e = true ∧ v2 k x y = true)) : valueOf k e x y = -1 := by unfold valueOf; rw [if_neg h]
theorem value_word {k : Int} {e : List Int} {x y : Int} (h : exprValid e = true) (h' : v2 k x y = true) : wvB k (value k e x y) = true := by
  obtain ⟨h0, h1, x0, x1, y0, y1⟩ := v2_t h'
  have := (eval_end x0 x1 y0 y1 h).2
  exact wv_mk h0 h1 this.1 this.2
end Pl
end Go.Proofs.Ytnjcephddilalab
