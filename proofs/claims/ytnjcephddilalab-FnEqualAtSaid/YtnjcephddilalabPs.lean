/-
  Where a part of an expression begins, and how texts of expressions are read: plain functions. No program is in sight.
-/
import Derived.Test.YtnjcephddilalabPr
namespace Go.Proofs.Ytnjcephddilalab
set_option linter.unusedVariables false
set_option linter.unusedSimpArgs false
namespace Pl
/-- What is still to come, seen from the end of a part. -/
def nd (n s : Int) : Int := n - 1 + takes s
theorem nd_run : ∀ (t : Tr), t.ok → ∀ n, t.post.reverse.foldl nd n = n - 1
  | .leaf s, h, n => by
    show nd n s = _
    unfold nd; rw [takes_0 h.2]; omega
  | .un s t, h, n => by
    show (t.post ++ [s]).reverse.foldl nd n = _
    rw [List.reverse_append, List.foldl_append]
    show t.post.reverse.foldl nd (nd n s) = _
    rw [nd_run t h.2]
    unfold nd; rw [takes_1 h.1.1 h.1.2]; omega
  | .bin s l r, h, n => by
    show (l.post ++ r.post ++ [s]).reverse.foldl nd n = _
    rw [List.reverse_append, List.reverse_append, List.foldl_append, List.foldl_append]
    show l.post.reverse.foldl nd (r.post.reverse.foldl nd (nd n s)) = _
    rw [nd_run r h.2.2, nd_run l h.2.1]
    unfold nd; rw [takes_2 h.1.1]; omega
theorem nd_ge : ∀ (t : Tr), t.ok → ∀ n k, k < t.post.length → n ≤ (t.post.reverse.take k).foldl nd n
  | .leaf s, h, n, k, hk => by
    simp [Tr.post] at hk; subst hk; simp
  | .un s t, h, n, k, hk => by
    simp [Tr.post] at hk
    rcases k with _ | k
    · simp
    · show n ≤ (((t.post ++ [s]).reverse).take (k + 1)).foldl nd n
      rw [List.reverse_append]
      show n ≤ (t.post.reverse.take k).foldl nd (nd n s)
      have := nd_ge t h.2 (nd n s) k (by omega)
      have h2 : nd n s = n := by unfold nd; rw [takes_1 h.1.1 h.1.2]; omega
      omega
  | .bin s l r, h, n, k, hk => by
    simp [Tr.post] at hk
    rcases k with _ | k
    · simp
    · show n ≤ (((l.post ++ r.post ++ [s]).reverse).take (k + 1)).foldl nd n
      rw [List.reverse_append, List.reverse_append]
      show n ≤ ((r.post.reverse ++ l.post.reverse).take k).foldl nd (nd n s)
      have h2 : nd n s = n + 1 := by unfold nd; rw [takes_2 h.1.1]; omega
      rw [h2, List.take_append, List.foldl_append]
      by_cases hr : k < r.post.length
      · have := nd_ge r h.2.2 (n + 1) k hr
        rw [show k - r.post.reverse.length = 0 by simp; omega]
        simp only [List.take_zero, List.foldl_nil]
        omega
      · rw [List.take_of_length_le (by simp; omega), nd_run r h.2.2]
        have := nd_ge l h.2.1 (n + 1 - 1) (k - r.post.reverse.length) (by simp; omega)
        omega
/-- What is still to come behind k steps from the end. -/
def ndk (e : List Int) (k : Nat) : Int := (e.reverse.take k).foldl nd 1
theorem ndk_0 (e : List Int) : ndk e 0 = 1 := by simp [ndk]
theorem ndk_pos {t : Tr} (h : t.ok) {k : Nat} (hk : k < t.post.length) : 0 < ndk t.post k := by have := nd_ge t h 1 k hk; unfold ndk; omega
theorem ndk_end {t : Tr} (h : t.ok) : ndk t.post t.post.length = 0 := by unfold ndk; rw [List.take_of_length_le (by simp), nd_run t h]; rfl
theorem ndk_succ {e : List Int} {k : Nat} {s : Int} (hk : k < e.length) (hs : e[e.length - 1 - k]? = some s) : ndk e (k + 1) = ndk e k - 1 + takes s := by
  unfold ndk
  have h1 : e.reverse[k]? = some s := by rw [List.getElem?_reverse hk]; exact hs
  rw [List.take_add_one, h1, List.foldl_append]
  rfl
theorem ndk_bd {e : List Int} : ∀ (k : Nat), k ≤ e.length → ndk e k ≤ k + 1 ∧ -(k : Int) ≤ ndk e k
  | 0, _ => by rw [ndk_0]; omega
  | k + 1, h => by
    have ih := ndk_bd (e := e) k (by omega)
    have hs : e[e.length - 1 - k]? = some (e[e.length - 1 - k]'(by omega)) := List.getElem?_eq_getElem _
    rw [ndk_succ (by omega) hs]
    have := takes_bd (e[e.length - 1 - k]'(by omega))
    omega

/-! Reading. -/
def dig (c : UInt8) : Option Int := if 48 ≤ c.toNat ∧ c.toNat ≤ 57 then some ((c.toNat : Int) - 48) else if c = 120 then some 10 else if c = 121 then some 11 else none
def unI (c : UInt8) : Option Int := if c = 126 then some 0 else if c = 60 then some 1 else if c = 62 then some 2 else none
def sgn (c : UInt8) : Option Int := if c = 43 then some 0 else if c = 45 then some 1 else if c = 38 then some 2 else if c = 124 then some 3 else if c = 94 then some 4 else none
abbrev Rs := Option (List Int × Nat)
def loopP (chk : Bool) (small : Nat → Rs) (s : List UInt8) : Nat → Int → List Int × Nat → Rs
  | 0, _, st => some st
  | m + 1, sg, st => match s[st.2]? with
    | none => some st
    | some c => match sgn c with
      | none => some st
      | some k => if chk = true ∧ 0 ≤ sg ∧ k ≠ sg then some st else match small (st.2 + 1) with
        | none => none
        | some st' => loopP chk small s m k (st.1 ++ st'.1 ++ [15 + k], st'.2)
def rowP (chk : Bool) (small : Nat → Rs) (s : List UInt8) (at_ : Nat) : Rs := match small at_ with
  | none => none
  | some st => loopP chk small s s.length (-1) st
def closeP (s : List UInt8) (st : List Int × Nat) : Rs := if s[st.2]? = some 41 then some (st.1, st.2 + 1) else none
def opP (chk : Bool) (s : List UInt8) : Nat → Nat → Rs
  | 0, _ => none
  | f + 1, at_ => match s[at_]? with
    | none => none
    | some c => match dig c with
      | some n => some ([n], at_ + 1)
      | none => match unI c with
        | some n => (opP chk s f (at_ + 1)).map fun st => (st.1 ++ [12 + n], st.2)
        | none => if c = 40 then (rowP chk (opP chk s f) s (at_ + 1)).bind (closeP s) else none
end Pl
end Go.Proofs.Ytnjcephddilalab
