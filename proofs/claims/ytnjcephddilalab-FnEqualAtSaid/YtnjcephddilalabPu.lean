/-
  What is written is read as it was: plain functions on texts of expressions. No program is in sight.
-/
import Derived.Test.YtnjcephddilalabPs
namespace Go.Proofs.Ytnjcephddilalab
set_option linter.unusedVariables false
set_option linter.unusedSimpArgs false
namespace Pl
theorem get_of_drop {s : List UInt8} {a : Nat} {c : UInt8} {tl : List UInt8} (h : s.drop a = c :: tl) : s[a]? = some c ∧ s.drop (a + 1) = tl ∧ a < s.length := by
  have h1 : a < s.length := by
    rcases Nat.lt_or_ge a s.length with h1 | h1
    · exact h1
    · rw [List.drop_eq_nil_of_le h1] at h; cases h
  rw [List.drop_eq_getElem_cons h1] at h
  injection h with h2 h3
  exact ⟨by rw [List.getElem?_eq_getElem h1, h2], h3, h1⟩
theorem drop_more {s a b : List UInt8} {k : Nat} (h : s.drop k = a ++ b) : s.drop (k + a.length) = b := by
  rw [← List.drop_drop, h, List.drop_left]
theorem dig_leaf {s : Int} (h0 : 0 ≤ s) (h1 : s < 12) : dig (leafCh s) = some s := by
  rcases (by omega : s = 0 ∨ s = 1 ∨ s = 2 ∨ s = 3 ∨ s = 4 ∨ s = 5 ∨ s = 6 ∨ s = 7 ∨ s = 8 ∨ s = 9 ∨ s = 10 ∨ s = 11) with rfl | rfl | rfl | rfl | rfl | rfl | rfl | rfl | rfl | rfl | rfl | rfl <;> rfl
theorem un_sign {s : Int} (h0 : 12 ≤ s) (h1 : s < 15) : dig (signCh s) = none ∧ unI (signCh s) = some (s - 12) := by
  rcases (by omega : s = 12 ∨ s = 13 ∨ s = 14) with rfl | rfl | rfl <;> exact ⟨rfl, rfl⟩
theorem bin_sign {s : Int} (h0 : 15 ≤ s) (h1 : s ≤ 19) : sgn (signCh s) = some (s - 15) := by
  rcases (by omega : s = 15 ∨ s = 16 ∨ s = 17 ∨ s = 18 ∨ s = 19) with rfl | rfl | rfl | rfl | rfl <;> rfl
def Tr.isBin : Tr → Nat
  | .bin _ _ _ => 1
  | _ => 0
/-- A text in its place is read by the reader of operands. -/
def OpReads (chk : Bool) (s : List UInt8) (t : Tr) : Prop := ∀ f a rest, t.post.length ≤ f → s.drop a = brk (t.two (-1)) t.txt ++ rest → opP chk s f a = some (t.post, a + (brk (t.two (-1)) t.txt).length)
/-- A text in its place is read by the reader of rows, which goes on behind it. -/
def RowReads (chk : Bool) (s : List UInt8) (t : Tr) : Prop := ∀ f a rest, t.post.length ≤ f + t.isBin → s.drop a = t.txt ++ rest →
  ∃ m sg, rowP chk (opP chk s f) s a = loopP chk (opP chk s f) s m sg (t.post, a + t.txt.length) ∧ (sg = -1 ∨ (t.isBin = 1 ∧ sg = t.top - 15)) ∧ s.length ≤ m + (a + t.txt.length)
theorem loop_stop {chk : Bool} {small : Nat → Rs} {s : List UInt8} {m : Nat} {sg : Int} {st : List Int × Nat} (h : s[st.2]? = none ∨ ∃ c, s[st.2]? = some c ∧ sgn c = none) : loopP chk small s m sg st = some st := by
  cases m with
  | zero => rfl
  | succ m =>
    unfold loopP
    rcases h with h | ⟨c, h, h2⟩
    · rw [h]
    · rw [h]; simp only [h2]
theorem loop_go {chk : Bool} {small : Nat → Rs} {s : List UInt8} {m : Nat} {sg k : Int} {st st' : List Int × Nat} {c : UInt8} (h : s[st.2]? = some c) (hc : sgn c = some k) (hs : sg = -1 ∨ sg = k) (h' : small (st.2 + 1) = some st') :
    loopP chk small s (m + 1) sg st = loopP chk small s m k (st.1 ++ st'.1 ++ [15 + k], st'.2) := by
  rw [loopP, h]
  simp only [hc]
  rw [if_neg (by omega), h']
theorem row_start {chk : Bool} {small : Nat → Rs} {s : List UInt8} {a : Nat} {st : List Int × Nat} (h : small a = some st) : rowP chk small s a = loopP chk small s s.length (-1) st := by
  unfold rowP; rw [h]
theorem op_leaf {chk : Bool} {s : List UInt8} {f a : Nat} {c : UInt8} {n : Int} (h : s[a]? = some c) (hd : dig c = some n) : opP chk s (f + 1) a = some ([n], a + 1) := by
  rw [opP, h]; simp only [hd]
theorem op_un {chk : Bool} {s : List UInt8} {f a : Nat} {c : UInt8} {n : Int} (h : s[a]? = some c) (hd : dig c = none) (hu : unI c = some n) : opP chk s (f + 1) a = (opP chk s f (a + 1)).map fun st => (st.1 ++ [12 + n], st.2) := by
  rw [opP, h]; simp only [hd, hu]
theorem op_open {chk : Bool} {s : List UInt8} {f a : Nat} (h : s[a]? = some 40) : opP chk s (f + 1) a = (rowP chk (opP chk s f) s (a + 1)).bind (closeP s) := by
  rw [opP, h]; rfl
theorem reads_all (chk : Bool) (s : List UInt8) : ∀ (t : Tr), t.ok → RowReads chk s t ∧ OpReads chk s t
  | .leaf n, ok => by
    have ho : OpReads chk s (.leaf n) := by
      intro f a rest hf hd
      obtain ⟨h1, h2, h3⟩ := get_of_drop hd
      obtain ⟨f, rfl⟩ : ∃ g, f = g + 1 := ⟨f - 1, by simp [Tr.post] at hf; omega⟩
      exact op_leaf h1 (dig_leaf ok.1 ok.2)
    refine ⟨fun f a rest hf hd => ?_, ho⟩
    exact ⟨s.length, -1, row_start (ho f a rest hf hd), .inl rfl, by omega⟩
  | .un n t, ok => by
    obtain ⟨_, iho⟩ := reads_all chk s t ok.2
    have ho : OpReads chk s (.un n t) := by
      intro f a rest hf hd
      obtain ⟨h1, h2, h3⟩ := get_of_drop hd
      obtain ⟨f, rfl⟩ : ∃ g, f = g + 1 := ⟨f - 1, by simp [Tr.post] at hf; omega⟩
      obtain ⟨hs1, hs2⟩ := un_sign ok.1.1 ok.1.2
      rw [op_un h1 hs1 hs2, iho f (a + 1) rest (by simp [Tr.post] at hf; omega) h2]
      have e1 : (12 : Int) + (n - 12) = n := by omega
      show some (t.post ++ [12 + (n - 12)], _) = some (t.post ++ [n], a + (signCh n :: brk (t.two (-1)) t.txt).length)
      rw [e1, List.length_cons]
      congr 2
      omega
    refine ⟨fun f a rest hf hd => ?_, ho⟩
    exact ⟨s.length, -1, row_start (ho f a rest hf hd), .inl rfl, by omega⟩
  | .bin n l r, ok => by
    obtain ⟨ihlr, ihlo⟩ := reads_all chk s l ok.2.1
    obtain ⟨_, ihro⟩ := reads_all chk s r ok.2.2
    have hr : RowReads chk s (.bin n l r) := by
      intro f a rest hf hd
      have hlen : l.post.length + r.post.length + 1 ≤ f + 1 := by simpa [Tr.post, Tr.isBin, Nat.add_assoc] using hf
      have hp1 := l.post_pos
      have hp2 := r.post_pos
      have hd' : s.drop a = brk (l.two n) l.txt ++ (signCh n :: (brk (r.two (-1)) r.txt ++ rest)) := by rw [hd]; simp [Tr.txt]
      have hd2 := drop_more hd'
      obtain ⟨g1, g2, g3⟩ := get_of_drop hd2
      have hop := ihro f (a + (brk (l.two n) l.txt).length + 1) rest (by omega) g2
      have hsg := bin_sign ok.1.1 ok.1.2
      have eT : (Tr.bin n l r).txt.length = (brk (l.two n) l.txt).length + 1 + (brk (r.two (-1)) r.txt).length := by simp [Tr.txt]; omega
      -- what is read of the first part
      have hfirst : ∃ m sg, rowP chk (opP chk s f) s a = loopP chk (opP chk s f) s m sg (l.post, a + (brk (l.two n) l.txt).length) ∧ (sg = -1 ∨ sg = n - 15) ∧ s.length ≤ m + (a + (brk (l.two n) l.txt).length) := by
        cases hb : l.two n with
        | true =>
          have h2 : l.two (-1) = true := by
            cases l with
            | leaf s => simp [Tr.two] at hb
            | un s t => simp [Tr.two] at hb
            | bin s l' r' => have := ok.2.1.1.1; simp [Tr.two]; omega
          have h3 := ihlo f a _ (by omega) (by rw [h2]; rw [hb] at hd'; exact hd')
          rw [h2] at h3
          exact ⟨s.length, -1, row_start h3, .inl rfl, by omega⟩
        | false =>
          rw [hb] at hd'
          obtain ⟨m, sg, h4, h5, h6⟩ := ihlr f a _ (by omega) hd'
          refine ⟨m, sg, h4, ?_, h6⟩
          rcases h5 with h5 | ⟨h5, h7⟩
          · exact .inl h5
          · cases l with
            | leaf s => simp [Tr.isBin] at h5
            | un s t => simp [Tr.isBin] at h5
            | bin s l' r' => simp [Tr.two] at hb; subst hb; exact .inr h7
      obtain ⟨m, sg, h4, h5, h6⟩ := hfirst
      obtain ⟨m, rfl⟩ : ∃ m', m = m' + 1 := ⟨m - 1, by omega⟩
      refine ⟨m, n - 15, ?_, .inr ⟨rfl, rfl⟩, by omega⟩
      rw [h4, loop_go (k := n - 15) g1 hsg h5 hop]
      have e1 : (15 : Int) + (n - 15) = n := by omega
      rw [e1, eT]
      congr 2
      simp only []
      omega
    refine ⟨hr, fun f a rest hf hd => ?_⟩
    have h2 : (Tr.bin n l r).two (-1) = true := by have := ok.1.1; simp [Tr.two]; omega
    rw [h2] at hd ⊢
    have hp : 1 < (Tr.bin n l r).post.length := by have := l.post_pos; have := r.post_pos; simp [Tr.post]; omega
    have hd' : s.drop a = 40 :: ((Tr.bin n l r).txt ++ (41 :: rest)) := by rw [hd]; simp [brk]
    obtain ⟨g1, g2, g3⟩ := get_of_drop hd'
    obtain ⟨f, rfl⟩ : ∃ g, f = g + 1 := ⟨f - 1, by omega⟩
    obtain ⟨m, sg, h4, h5, h6⟩ := hr f (a + 1) _ (by simp [Tr.isBin]; omega) g2
    have g4 := drop_more g2
    obtain ⟨k1, k2, k3⟩ := get_of_drop g4
    rw [op_open g1, h4, loop_stop (.inr ⟨41, k1, rfl⟩)]
    show closeP s _ = _
    unfold closeP
    rw [if_pos k1]
    simp [brk]; omega
theorem row_reads {chk : Bool} {s : List UInt8} {t : Tr} (ok : t.ok) (hs : t.txt = s) {f : Nat} (hf : t.post.length ≤ f + t.isBin) : rowP chk (opP chk s f) s 0 = some (t.post, s.length) := by
  obtain ⟨m, sg, h1, _, _⟩ := (reads_all chk s t ok).1 f 0 [] hf (by rw [hs]; simp)
  rw [h1, hs, loop_stop (.inl (by simp))]
  simp
theorem post_le_txt : ∀ (t : Tr), t.post.length ≤ t.txt.length
  | .leaf s => by simp [Tr.post, Tr.txt]
  | .un s t => by
    have := post_le_txt t
    have h2 : t.txt.length ≤ (brk (t.two (-1)) t.txt).length := by unfold brk; split <;> simp; omega
    simp [Tr.post, Tr.txt]; omega
  | .bin s l r => by
    have := post_le_txt l
    have := post_le_txt r
    have h2 : l.txt.length ≤ (brk (l.two s) l.txt).length := by unfold brk; split <;> simp; omega
    have h3 : r.txt.length ≤ (brk (r.two (-1)) r.txt).length := by unfold brk; split <;> simp; omega
    simp [Tr.post, Tr.txt]; omega
/-- The expression of a text. -/
def readE (s : List UInt8) : Option (List Int) :=
  match rowP false (opP false s s.length) s 0 with
  | none => none
  | some st => if exprText st.1 = s ∧ s ≠ [] then some st.1 else none
theorem text_some {e : List Int} {s : List UInt8} (h : exprText e = s) (hs : s ≠ []) : exprValid e = true := by
  unfold exprText at h
  split at h
  · assumption
  · exact absurd h.symm hs
theorem text_valid {e : List Int} (h : exprValid e = true) : exprText e = (tree e).txt := by unfold exprText; rw [if_pos h]
theorem text_pos {e : List Int} (h : exprValid e = true) : exprText e ≠ [] := by
  rw [text_valid h]
  have := txt_pos (tree e)
  intro hx
  rw [hx] at this
  simp at this
theorem text_len {e : List Int} (h : exprValid e = true) : (exprText e).length ≤ 70 := by
  rw [text_valid h]
  have h1 := txt_len (tree e)
  rw [(run_valid h).2.2] at h1
  have := (valid_t h).2.1
  omega
theorem text_len' (e : List Int) : (exprText e).length ≤ 70 := by
  cases h : exprValid e with
  | true => exact text_len h
  | false => unfold exprText; rw [h]; simp
theorem text_reads {chk : Bool} {e : List Int} {s : List UInt8} (h : exprText e = s) (hs : s ≠ []) {f : Nat} (hf : e.length ≤ f) : rowP chk (opP chk s f) s 0 = some (e, s.length) := by
  have hv := text_some h hs
  obtain ⟨h1, h2, h3⟩ := run_valid hv
  rw [text_valid hv] at h
  have := row_reads (chk := chk) h2 h (f := f) (by rw [h3]; omega)
  rw [h3] at this
  exact this
theorem expr_le {e : List Int} {s : List UInt8} (h : exprText e = s) (hs : s ≠ []) : e.length ≤ s.length := by
  have hv := text_some h hs
  have := post_le_txt (tree e)
  rw [(run_valid hv).2.2, ← text_valid hv, h] at this
  exact this
theorem readE_of {e : List Int} {s : List UInt8} (h : exprText e = s) (hs : s ≠ []) : readE s = some e := by
  unfold readE
  rw [text_reads h hs (expr_le h hs)]
  simp only [h]
  rw [if_pos ⟨trivial, hs⟩]
theorem readE_some {e : List Int} {s : List UInt8} (h : readE s = some e) : exprText e = s ∧ s ≠ [] := by
  unfold readE at h
  split at h
  · cases h
  · split at h
    · rename_i hc
      injection h with h
      subst h
      exact hc
    · cases h
theorem readE_valid {e : List Int} {s : List UInt8} (h : readE s = some e) : exprValid e = true := text_some (readE_some h).1 (readE_some h).2
theorem readE_long {s : List UInt8} (h : 70 < s.length) : readE s = none := by
  cases hr : readE s with
  | none => rfl
  | some e => have := text_len' e; rw [(readE_some hr).1] at this; omega
theorem readE_text {e : List Int} (h : exprValid e = true) : readE (exprText e) = some e := readE_of rfl (text_pos h)
/-- What is read, if its text is the text. -/
def checkT (s : List UInt8) : Rs → Option (List Int)
  | none => none
  | some st => if exprText st.1 = s ∧ s ≠ [] then some st.1 else none
/-- Any reader that comes to what is read from texts in their places tells the same. -/
theorem readE_by {s : List UInt8} {R : Rs} (hR : ∀ e, exprText e = s → s ≠ [] → ∃ n, R = some (e, n)) : checkT s R = readE s := by
  cases hr : readE s with
  | some e =>
    obtain ⟨h1, h2⟩ := readE_some hr
    obtain ⟨n, hn⟩ := hR e h1 h2
    rw [hn, checkT]
    simp only [h1]
    rw [if_pos ⟨trivial, h2⟩]
  | none =>
    cases R with
    | none => rfl
    | some st =>
      show (if exprText st.1 = s ∧ s ≠ [] then some st.1 else none) = none
      by_cases hc : exprText st.1 = s ∧ s ≠ []
      · rw [readE_of hc.1 hc.2] at hr
        cases hr
      · rw [if_neg hc]
/-- The last letter of a text is no sign. -/
theorem txt_last : ∀ (t : Tr), t.ok → ∃ p c, t.txt = p ++ [c] ∧ c ≠ 43
  | .leaf s, ok => by
    refine ⟨[], leafCh s, rfl, ?_⟩
    have h0 := ok.1
    have h1 := ok.2
    rcases (by omega : s = 0 ∨ s = 1 ∨ s = 2 ∨ s = 3 ∨ s = 4 ∨ s = 5 ∨ s = 6 ∨ s = 7 ∨ s = 8 ∨ s = 9 ∨ s = 10 ∨ s = 11) with rfl | rfl | rfl | rfl | rfl | rfl | rfl | rfl | rfl | rfl | rfl | rfl <;> decide
  | .un s t, ok => by
    obtain ⟨p, c, h, hc⟩ := txt_last t ok.2
    cases hb : t.two (-1) with
    | true => exact ⟨signCh s :: 40 :: t.txt, 41, by simp [Tr.txt, hb, brk], by decide⟩
    | false => exact ⟨signCh s :: p, c, by simp [Tr.txt, hb, brk, h], hc⟩
  | .bin s l r, ok => by
    obtain ⟨p, c, h, hc⟩ := txt_last r ok.2.2
    cases hb : r.two (-1) with
    | true => exact ⟨brk (l.two s) l.txt ++ signCh s :: 40 :: r.txt, 41, by simp [Tr.txt, hb, brk], by decide⟩
    | false => exact ⟨brk (l.two s) l.txt ++ signCh s :: p, c, by simp [Tr.txt, hb, brk, h], hc⟩
theorem readE_plus (s : List UInt8) : readE (s ++ [43]) = none := by
  cases hr : readE (s ++ [43]) with
  | none => rfl
  | some e =>
    exfalso
    obtain ⟨h1, h2⟩ := readE_some hr
    have hv := readE_valid hr
    rw [text_valid hv] at h1
    obtain ⟨p, c, h3, hc⟩ := txt_last (tree e) (run_valid hv).2.1
    rw [h1] at h3
    have := List.append_inj' h3 rfl
    exact hc (by simpa using this.2.symm)
end Pl
end Go.Proofs.Ytnjcephddilalab
