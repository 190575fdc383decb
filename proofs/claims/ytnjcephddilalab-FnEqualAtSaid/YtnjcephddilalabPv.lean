/-
  Simpler expressions as trees: the same value, no more steps, and simple again is the same. No program is in sight.
-/
import Derived.Test.YtnjcephddilalabPs
namespace Go.Proofs.Ytnjcephddilalab
set_option linter.unusedVariables false
set_option linter.unusedSimpArgs false
namespace Pl
def simp1 (s : Int) : Tr → Tr
  | .un q t => if s = 12 ∧ q = 12 then t else .un s (.un q t)
  | t => .un s t
def simp2 (s : Int) (a b : Tr) : Tr :=
  if a = b ∧ (s = 16 ∨ s = 19) then .leaf 0
  else if a = b ∧ (s = 17 ∨ s = 18) then a
  else if b = .leaf 0 ∧ s = 17 then .leaf 0
  else if b = .leaf 0 then a
  else if a = .leaf 0 ∧ s = 17 then .leaf 0
  else if a = .leaf 0 ∧ s ≠ 16 then b
  else .bin s a b
def simpT : Tr → Tr
  | .leaf s => .leaf s
  | .un s t => simp1 s (simpT t)
  | .bin s l r => simp2 s (simpT l) (simpT r)
theorem simp1_cases (s : Int) (t : Tr) : (s = 12 ∧ ∃ u, t = .un 12 u ∧ simp1 s t = u) ∨ simp1 s t = .un s t := by
  cases t with
  | leaf q => exact .inr rfl
  | bin q l r => exact .inr rfl
  | un q u =>
    by_cases h : s = 12 ∧ q = 12
    · obtain ⟨rfl, rfl⟩ := h
      exact .inl ⟨rfl, u, rfl, by simp [simp1]⟩
    · exact .inr (by simp only [simp1]; exact if_neg h)
theorem simp2_cases (s : Int) (a b : Tr) : simp2 s a b = .leaf 0 ∨ simp2 s a b = a ∨ simp2 s a b = b ∨ simp2 s a b = .bin s a b := by
  unfold simp2
  repeat' split
  all_goals simp
theorem zero_ok : (Tr.leaf 0).ok := ⟨by omega, by omega⟩
theorem simp1_ok {s : Int} {t : Tr} (hs : 12 ≤ s ∧ s < 15) (ht : t.ok) : (simp1 s t).ok := by
  rcases simp1_cases s t with ⟨_, u, rfl, h⟩ | h
  · rw [h]; exact ht.2
  · rw [h]; exact ⟨hs, ht⟩
theorem simp2_ok {s : Int} {a b : Tr} (hs : 15 ≤ s ∧ s ≤ 19) (ha : a.ok) (hb : b.ok) : (simp2 s a b).ok := by
  rcases simp2_cases s a b with h | h | h | h <;> rw [h]
  · exact zero_ok
  · exact ha
  · exact hb
  · exact ⟨hs, ha, hb⟩
theorem simpT_ok : ∀ t : Tr, t.ok → (simpT t).ok
  | .leaf s, h => h
  | .un s t, h => simp1_ok h.1 (simpT_ok t h.2)
  | .bin s l r, h => simp2_ok h.1 (simpT_ok l h.2.1) (simpT_ok r h.2.2)
theorem simp1_len (s : Int) (t : Tr) : (simp1 s t).post.length ≤ t.post.length + 1 := by
  rcases simp1_cases s t with ⟨_, u, rfl, h⟩ | h
  · rw [h]; simp [Tr.post]; omega
  · rw [h]; simp [Tr.post]
theorem simp2_len (s : Int) (a b : Tr) : (simp2 s a b).post.length ≤ a.post.length + b.post.length + 1 := by
  have h1 := a.post_pos
  have h2 := b.post_pos
  rcases simp2_cases s a b with h | h | h | h <;> rw [h]
  · simp [Tr.post]
  · omega
  · omega
  · simp only [Tr.post, List.length_append, List.length_cons, List.length_nil]
    omega
theorem simpT_len : ∀ t : Tr, (simpT t).post.length ≤ t.post.length
  | .leaf s => Nat.le_refl _
  | .un s t => by
    have := simpT_len t
    have := simp1_len s (simpT t)
    simp [simpT, Tr.post]; omega
  | .bin s l r => by
    have := simpT_len l
    have := simpT_len r
    have := simp2_len s (simpT l) (simpT r)
    simp [simpT, Tr.post]; omega
/-- A tree is as simple as can be. -/
def Simple : Tr → Prop
  | .leaf s => True
  | .un s t => Simple t ∧ simp1 s t = .un s t
  | .bin s l r => Simple l ∧ Simple r ∧ simp2 s l r = .bin s l r
theorem simp1_simple {s : Int} {t : Tr} (h : Simple t) : Simple (simp1 s t) := by
  rcases simp1_cases s t with ⟨_, u, rfl, e⟩ | e
  · rw [e]; exact h.1
  · rw [e]; exact ⟨h, e⟩
theorem simp2_simple {s : Int} {a b : Tr} (ha : Simple a) (hb : Simple b) : Simple (simp2 s a b) := by
  rcases simp2_cases s a b with h | h | h | h
  · rw [h]; trivial
  · rw [h]; exact ha
  · rw [h]; exact hb
  · rw [h]; exact ⟨ha, hb, h⟩
theorem simpT_simple : ∀ t : Tr, Simple (simpT t)
  | .leaf s => trivial
  | .un s t => simp1_simple (simpT_simple t)
  | .bin s l r => simp2_simple (simpT_simple l) (simpT_simple r)
theorem simple_same : ∀ t : Tr, Simple t → simpT t = t
  | .leaf s, h => rfl
  | .un s t, h => by rw [simpT, simple_same t h.1, h.2]
  | .bin s l r, h => by rw [simpT, simple_same l h.1, simple_same r h.2.1, h.2.2]
theorem simpT_again (t : Tr) : simpT (simpT t) = simpT t := simple_same _ (simpT_simple t)
/-- The value of a tree. -/
def tval (k x y : Int) : Tr → Int
  | .leaf s => leafv k s x y
  | .un s t => opv k s (tval k x y t) 0
  | .bin s l r => opv k s (tval k x y l) (tval k x y r)
theorem getD_snoc (st : List Int) (v : Int) : (st ++ [v]).getD st.length 0 = v := by
  rw [List.getD_eq_getElem?_getD, List.getElem?_append_right (Nat.le_refl _)]; simp
theorem eval_post (k x y : Int) : ∀ t : Tr, t.ok → ∀ st, t.post.foldl (pushS k x y) st = st ++ [tval k x y t]
  | .leaf s, h, st => by
    show pushS k x y st s = _
    unfold pushS; rw [if_pos (takes_0 h.2)]; rfl
  | .un s t, h, st => by
    show (t.post ++ [s]).foldl (pushS k x y) st = _
    rw [List.foldl_append, eval_post k x y t h.2 st]
    show pushS k x y (st ++ [tval k x y t]) s = _
    unfold pushS
    rw [takes_1 h.1.1 h.1.2, if_neg (by decide), if_pos rfl]
    have e : (st ++ [tval k x y t]).length - 1 = st.length := by simp
    rw [e, getD_snoc, List.take_left]
    rfl
  | .bin s l r, h, st => by
    show (l.post ++ r.post ++ [s]).foldl (pushS k x y) st = _
    rw [List.foldl_append, List.foldl_append, eval_post k x y l h.2.1 st, eval_post k x y r h.2.2]
    show pushS k x y (st ++ [tval k x y l] ++ [tval k x y r]) s = _
    unfold pushS
    rw [takes_2 h.1.1, if_neg (by decide), if_neg (by decide)]
    have e : (st ++ [tval k x y l] ++ [tval k x y r]).length - 2 = st.length := by simp
    have e1 : (st ++ [tval k x y l] ++ [tval k x y r]).length - 1 = (st ++ [tval k x y l]).length := by simp
    have e2 : (st ++ [tval k x y l] ++ [tval k x y r]).getD st.length 0 = tval k x y l := by
      rw [List.getD_eq_getElem?_getD, List.append_assoc, List.getElem?_append_right (Nat.le_refl _)]; simp
    have e3 : (st ++ [tval k x y l] ++ [tval k x y r]).take st.length = st := by rw [List.append_assoc, List.take_left]
    rw [e, e1, getD_snoc, e2, e3]
    rfl
theorem value_post (k x y : Int) (t : Tr) (h : t.ok) : value k t.post x y = tval k x y t := by
  unfold value evalS
  rw [eval_post k x y t h]
  rfl
theorem tval_word {k x y : Int} (hx0 : 0 ≤ x) (hx : x < pw k) (hy0 : 0 ≤ y) (hy : y < pw k) : ∀ t : Tr, 0 ≤ tval k x y t ∧ tval k x y t < pw k
  | .leaf s => leafv_lt hx0 hx hy0 hy
  | .un s t => by
    have := tval_word hx0 hx hy0 hy t
    have hp := pw_pos k
    exact opv_lt this.1 this.2 (by omega) (by omega)
  | .bin s l r => by
    have h1 := tval_word hx0 hx hy0 hy l
    have h2 := tval_word hx0 hx hy0 hy r
    exact opv_lt h1.1 h1.2 h2.1 h2.2
theorem leafv_0 (k x y : Int) : leafv k 0 x y = 0 := by
  unfold leafv
  rw [if_neg (by decide), if_neg (by decide)]
  exact wmod_0 k
theorem land_z (a : Int) : land a 0 = 0 := by unfold land; simp
theorem land_z' (a : Int) : land 0 a = 0 := by unfold land; simp
theorem lor_z (a : Int) (h : 0 ≤ a) : lor 0 a = a := by unfold lor; simp; omega
theorem lxor_z (a : Int) (h : 0 ≤ a) : lxor 0 a = a := by unfold lxor; simp; omega
theorem lxor_z' (a : Int) (h : 0 ≤ a) : lxor a 0 = a := by unfold lxor; simp; omega
theorem lxor_same (a : Int) : lxor a a = 0 := by unfold lxor; simp
theorem opv_not2 (k a : Int) : opv k 12 (opv k 12 a 0) 0 = a := by unfold opv; rw [if_pos rfl, if_pos rfl]; omega
theorem opv_16 (k a b : Int) : opv k 16 a b = wmod k (a - b) := rfl
theorem opv_17 (k a b : Int) : opv k 17 a b = land a b := rfl
theorem opv_18 (k a b : Int) : opv k 18 a b = lor a b := rfl
theorem opv_19 (k a b : Int) : opv k 19 a b = lxor a b := rfl
theorem opv_15 (k a b : Int) : opv k 15 a b = wmod k (a + b) := rfl
theorem simpT_val {k x y : Int} (hx0 : 0 ≤ x) (hx : x < pw k) (hy0 : 0 ≤ y) (hy : y < pw k) : ∀ t : Tr, t.ok → tval k x y (simpT t) = tval k x y t
  | .leaf s, h => rfl
  | .un s t, h => by
    have ih := simpT_val hx0 hx hy0 hy t h.2
    show tval k x y (simp1 s (simpT t)) = opv k s (tval k x y t) 0
    rw [← ih]
    rcases simp1_cases s (simpT t) with ⟨rfl, u, e, e'⟩ | e
    · rw [e', e]
      exact (opv_not2 k _).symm
    · rw [e]; rfl
  | .bin s l r, h => by
    have ih := simpT_val hx0 hx hy0 hy l h.2.1
    have ih' := simpT_val hx0 hx hy0 hy r h.2.2
    show tval k x y (simp2 s (simpT l) (simpT r)) = opv k s (tval k x y l) (tval k x y r)
    rw [← ih, ← ih']
    generalize simpT l = a
    generalize simpT r = b
    have ha := tval_word hx0 hx hy0 hy a
    have hb := tval_word hx0 hx hy0 hy b
    have hz : tval k x y (.leaf 0) = 0 := leafv_0 k x y
    have hs := h.1
    clear ih ih' h
    unfold simp2
    split
    · rename_i hc
      obtain ⟨rfl, rfl | rfl⟩ := hc
      · rw [hz, opv_16, Int.sub_self, wmod_0]
      · rw [hz, opv_19, lxor_same]
    · split
      · rename_i hc
        obtain ⟨rfl, rfl | rfl⟩ := hc
        · rw [opv_17, land_self _ ha.1]
        · rw [opv_18, lor, Nat.or_self]; omega
      · split
        · rename_i hc
          obtain ⟨rfl, rfl⟩ := hc
          rw [hz, opv_17, land_z]
        · split
          · rename_i hc hd
            subst hd
            rw [hz]
            rcases (by omega : s = 15 ∨ s = 16 ∨ s = 17 ∨ s = 18 ∨ s = 19) with rfl | rfl | rfl | rfl | rfl
            · rw [opv_15, Int.add_zero, wmod_small ha.1 ha.2]
            · rw [opv_16, Int.sub_zero, wmod_small ha.1 ha.2]
            · exact absurd ⟨rfl, rfl⟩ hc
            · rw [opv_18, lor_0 _ ha.1]
            · rw [opv_19, lxor_z' _ ha.1]
          · split
            · rename_i hc
              obtain ⟨rfl, rfl⟩ := hc
              rw [hz, opv_17, land_z']
            · split
              · rename_i hc hd
                obtain ⟨rfl, hd⟩ := hd
                rw [hz]
                rcases (by omega : s = 15 ∨ s = 17 ∨ s = 18 ∨ s = 19) with rfl | rfl | rfl | rfl
                · rw [opv_15, Int.zero_add, wmod_small hb.1 hb.2]
                · exact absurd ⟨rfl, rfl⟩ hc
                · rw [opv_18, lor_z _ hb.1]
                · rw [opv_19, lxor_z _ hb.1]
              · rfl
/-- A valid expression made simpler; nothing of others. -/
def exprSimple (e : List Int) : List Int := if exprValid e = true then (simpT (tree e)).post else []
theorem exprSimple_t {e : List Int} (h : exprValid e = true) : exprSimple e = (simpT (tree e)).post := by unfold exprSimple; rw [if_pos h]
theorem exprSimple_f {e : List Int} (h : exprValid e = false) : exprSimple e = [] := by unfold exprSimple; rw [h]; rfl
theorem simple_len {e : List Int} : (exprSimple e).length ≤ e.length := by
  unfold exprSimple
  split
  · rename_i h
    have := simpT_len (tree e)
    rw [(run_valid h).2.2] at this
    exact this
  · simp
theorem simple_valid {e : List Int} (h : exprValid e = true) : exprValid (exprSimple e) = true := by
  have h1 := simple_len (e := e)
  have h2 := (valid_t h).2.1
  rw [exprSimple_t h] at h1 ⊢
  exact valid_post (simpT_ok _ (run_valid h).2.1) (by omega)
theorem simple_again {e : List Int} (h : exprValid e = true) : exprSimple (exprSimple e) = exprSimple e := by
  have hv := simple_valid h
  rw [exprSimple_t hv, exprSimple_t h, tree_post (simpT_ok _ (run_valid h).2.1), simpT_again]
theorem simple_value {k x y : Int} {e : List Int} (h : exprValid e = true) (hv : v2 k x y = true) : valueOf k (exprSimple e) x y = valueOf k e x y := by
  obtain ⟨h0, h1, x0, x1, y0, y1⟩ := v2_t hv
  rw [valueOf_t (simple_valid h) hv, valueOf_t h hv, exprSimple_t h, value_post k x y _ (simpT_ok _ (run_valid h).2.1), simpT_val x0 x1 y0 y1 _ (run_valid h).2.1, ← value_post k x y _ (run_valid h).2.1, (run_valid h).2.2]
theorem simple_value' {k x y : Int} {e : List Int} (h : exprValid e = true) : valueOf k (exprSimple e) x y = valueOf k e x y := by
  cases hv : v2 k x y with
  | true => exact simple_value h hv
  | false => rw [valueOf_f (by rw [hv]; simp), valueOf_f (by rw [hv]; simp)]
end Pl
end Go.Proofs.Ytnjcephddilalab
