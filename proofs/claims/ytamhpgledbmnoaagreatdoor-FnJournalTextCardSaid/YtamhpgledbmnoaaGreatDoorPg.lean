/-
  Journals as texts, texts as journals: plain functions and what they keep.
  Conditions: none.
-/
import Derived.Test.YtamhpgledbmnoaaGreatDoorPy
namespace Go.Proofs.YtamhpgledbmnoaaGreatDoor.Pl
set_option linter.unusedVariables false
set_option linter.unusedSimpArgs false
/-- The lines of deeds. -/
def jt (ds : List Dd) : List UInt8 := ds.flatMap fun d => dtext d ++ [10]
/-- The text of a journal; the empty one if a deed has none. -/
def jtext (ds : List Dd) : List UInt8 := if ∀ d ∈ ds, dtext d ≠ [] then jt ds else []
theorem jt_nil : jt [] = [] := rfl
theorem jt_cons (d : Dd) (ds : List Dd) : jt (d :: ds) = dtext d ++ 10 :: jt ds := by simp [jt]
theorem jt_snoc (ds : List Dd) (d : Dd) : jt (ds ++ [d]) = jt ds ++ (dtext d ++ [10]) := by simp [jt]
theorem jt_len (ds : List Dd) : (jt ds).length ≤ 76 * ds.length := by
  induction ds with
  | nil => simp [jt]
  | cons d ds ih =>
    have := dtext_len d
    rw [jt_cons, List.length_append, List.length_cons, List.length_cons]
    omega
theorem jtext_len (ds : List Dd) : (jtext ds).length ≤ 76 * ds.length := by
  unfold jtext
  split
  · exact jt_len ds
  · simp
theorem jtext_t {ds : List Dd} (h : ∀ d ∈ ds, dtext d ≠ []) : jtext ds = jt ds := by unfold jtext; rw [if_pos h]
theorem jtext_f {ds : List Dd} {d : Dd} (h : d ∈ ds) (hd : dtext d = []) : jtext ds = [] := by unfold jtext; rw [if_neg (fun g => g d h hd)]
theorem jtext_all {ds : List Dd} (h : jtext ds ≠ []) : ∀ d ∈ ds, dtext d ≠ [] := by
  intro d hd he
  exact h (jtext_f hd he)
/-- The deeds with which a text begins, and how many bytes they take; 'f' is at least the length. -/
def rj : Nat → List UInt8 → List Dd × Nat
  | 0, _ => ([], 0)
  | f + 1, s => if s.idxOf 10 < s.length then
      (match readD (s.take (s.idxOf 10)) with
        | none => ([], 0)
        | some d => (d :: (rj f (s.drop (s.idxOf 10 + 1))).1, s.idxOf 10 + 1 + (rj f (s.drop (s.idxOf 10 + 1))).2))
    else ([], 0)
def readJ (s : List UInt8) : List Dd × Nat := rj s.length s
theorem rj_more : ∀ (f g : Nat) (s : List UInt8), s.length ≤ f → s.length ≤ g → rj f s = rj g s := by
  intro f
  induction f with
  | zero =>
    intro g s h _
    have : s = [] := List.eq_nil_of_length_eq_zero (by omega)
    subst this
    cases g with
    | zero => rfl
    | succ g => simp [rj]
  | succ f ih =>
    intro g s h h'
    cases g with
    | zero =>
      have : s = [] := List.eq_nil_of_length_eq_zero (by omega)
      subst this
      simp [rj]
    | succ g =>
      unfold rj
      by_cases hi : s.idxOf 10 < s.length
      · rw [if_pos hi, if_pos hi, ih g (s.drop (s.idxOf 10 + 1)) (by rw [List.length_drop]; omega) (by rw [List.length_drop]; omega)]
      · rw [if_neg hi, if_neg hi]
theorem readJ_eq (s : List UInt8) : readJ s = if s.idxOf 10 < s.length then
      (match readD (s.take (s.idxOf 10)) with
        | none => ([], 0)
        | some d => (d :: (readJ (s.drop (s.idxOf 10 + 1))).1, s.idxOf 10 + 1 + (readJ (s.drop (s.idxOf 10 + 1))).2))
    else ([], 0) := by
  unfold readJ
  cases hs : s.length with
  | zero =>
    have : s = [] := List.eq_nil_of_length_eq_zero hs
    subst this
    rfl
  | succ n =>
    rw [rj, hs]
    by_cases hi : s.idxOf 10 < n + 1
    · rw [if_pos hi, if_pos hi, rj_more n _ (s.drop (s.idxOf 10 + 1)) (by rw [List.length_drop]; omega) (Nat.le_refl _)]
    · rw [if_neg hi, if_neg hi]
theorem readJ_no {s : List UInt8} (h : ¬ s.idxOf 10 < s.length) : readJ s = ([], 0) := by rw [readJ_eq, if_neg h]
theorem readJ_bad {s : List UInt8} (h : readD (s.take (s.idxOf 10)) = none) : readJ s = ([], 0) := by
  rw [readJ_eq, h]
  split <;> rfl
theorem readJ_go {s : List UInt8} {d : Dd} (hi : s.idxOf 10 < s.length) (h : readD (s.take (s.idxOf 10)) = some d) : readJ s = (d :: (readJ (s.drop (s.idxOf 10 + 1))).1, s.idxOf 10 + 1 + (readJ (s.drop (s.idxOf 10 + 1))).2) := by
  rw [readJ_eq, if_pos hi, h]
/-- How far reading has come: the deeds ds were read, they took 'a' bytes. -/
def Read (s : List UInt8) (ds : List Dd) (a : Nat) : Prop := a ≤ s.length ∧ readJ s = (ds ++ (readJ (s.drop a)).1, a + (readJ (s.drop a)).2)
theorem read_start (s : List UInt8) : Read s [] 0 := ⟨by omega, by simp⟩
theorem read_end {s : List UInt8} {ds : List Dd} {a : Nat} (h : Read s ds a) (hr : readJ (s.drop a) = ([], 0)) : readJ s = (ds, a) := by
  rw [h.2, hr]; simp
theorem read_step {s : List UInt8} {ds : List Dd} {a i : Nat} {d : Dd} (h : Read s ds a) (hi : (s.drop a).idxOf 10 = i) (hl : i < (s.drop a).length) (hd : readD ((s.drop a).take i) = some d) : Read s (ds ++ [d]) (a + (i + 1)) := by
  have hl' := hl
  rw [List.length_drop] at hl'
  refine ⟨by omega, ?_⟩
  rw [h.2, readJ_go (by rw [hi]; exact hl) (by rw [hi]; exact hd), hi, List.drop_drop]
  simp
  omega
theorem idx_app {l : List UInt8} (h : ∀ c ∈ l, c ≠ 10) (r : List UInt8) : (l ++ 10 :: r).idxOf 10 = l.length := by
  induction l with
  | nil => simp
  | cons x l ih =>
    have hx : x ≠ 10 := h x (by simp)
    have hb : (x == 10) = false := by rw [beq_eq_false_iff_ne]; exact hx
    rw [List.cons_append, List.idxOf_cons, ih (fun c hc => h c (by simp [hc])), hb]
    rfl
/-- Journals are read. -/
theorem readJ_jt : ∀ (ds : List Dd), (∀ d ∈ ds, dtext d ≠ []) → readJ (jt ds) = (ds, (jt ds).length)
  | [], _ => by rw [jt_nil]; exact readJ_no (by simp)
  | d :: ds, h => by
    have hd := h d (by simp)
    have hi : (jt (d :: ds)).idxOf 10 = (dtext d).length := by rw [jt_cons]; exact idx_app (dtext_mem d) _
    have hl : (jt (d :: ds)).length = (dtext d).length + 1 + (jt ds).length := by rw [jt_cons]; simp; omega
    have htk : (jt (d :: ds)).take (dtext d).length = dtext d := by rw [jt_cons]; simp
    have hdr : (jt (d :: ds)).drop ((dtext d).length + 1) = jt ds := by rw [jt_cons]; simp
    rw [readJ_go (d := d) (by rw [hi, hl]; omega) (by rw [hi, htk]; exact readD_text hd), hi, hdr, readJ_jt ds (fun e he => h e (by simp [he])), hl]
theorem jtext_read {ds : List Dd} (h : jtext ds ≠ []) : readJ (jtext ds) = (ds, (jtext ds).length) := by
  have ha := jtext_all h
  rw [jtext_t ha]
  exact readJ_jt ds ha
end Go.Proofs.YtamhpgledbmnoaaGreatDoor.Pl
