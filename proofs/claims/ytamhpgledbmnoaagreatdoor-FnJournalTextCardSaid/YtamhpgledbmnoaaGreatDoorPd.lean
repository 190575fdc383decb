/-
  What deeds leave: a valid bench stays valid, expressions that were set can be taken back, runs in two parts.
  Conditions: none.
-/
import Derived.Test.YtamhpgledbmnoaaGreatDoorKN
namespace Go.Proofs.YtamhpgledbmnoaaGreatDoor.Pl
set_option linter.unusedVariables false
theorem isTxt_text {e : List Int} (h : exprValid e = true) : isTxt (exprText e) = true := by unfold isTxt; rw [readE_text h]; rfl
theorem isTxt_some {s : List UInt8} (h : isTxt s = true) : ∃ e, readE s = some e := by unfold isTxt at h; exact Option.isSome_iff_exists.1 h
theorem isTxt_len {s : List UInt8} (h : isTxt s = true) : s.length ≤ 70 := by
  rcases Nat.lt_or_ge 70 s.length with h1 | h1
  · unfold isTxt at h; rw [readE_long h1] at h; exact absurd h (by decide)
  · exact h1
theorem bv_mk {b : Bn} (h1 : v2 b.k b.x b.y = true) (h2 : exprValid b.e = true) (h3 : b.past.length ≤ 20) (h4 : b.past.all isTxt = true) : benchValid b = true := by
  unfold benchValid
  rw [h1, h2, h4, decide_eq_true h3]
  rfl
theorem pushP_len {ps : List (List UInt8)} {t : List UInt8} (h : ps.length ≤ 20) : (pushP ps t).length ≤ 20 := by
  by_cases h1 : 20 < ps.length + 1
  · rw [pushP_t h1]; simp; omega
  · rw [pushP_f h1]; simp; omega
theorem pushP_all {ps : List (List UInt8)} {t : List UInt8} (h : ps.all isTxt = true) (ht : isTxt t = true) : (pushP ps t).all isTxt = true := by
  have ha : (ps ++ [t]).all isTxt = true := by rw [List.all_append, h]; simp [ht]
  by_cases h1 : 20 < ps.length + 1
  · rw [pushP_t h1, List.all_eq_true]
    intro s hs
    exact List.all_eq_true.1 ha s (List.mem_of_mem_drop hs)
  · rw [pushP_f h1]; exact ha
theorem setB_valid {b : Bn} {e : List Int} (h : benchValid b = true) (he : exprValid e = true) : benchValid (setB b e) = true := by
  obtain ⟨h1, h2, h3, h4⟩ := bv_parts h
  exact bv_mk h1 he (pushP_len h3) (pushP_all h4 (isTxt_text h2))
/-- What the steps of a deed are. -/
theorem stepB_some {b b' : Bn} {d : Dd} (h : benchValid b = true) (h' : stepB b d = some b') :
    (d.k = 0 ∧ wvB b.k d.n = true ∧ b' = ⟨b.k, d.n, b.y, b.e, b.past⟩) ∨ (d.k = 1 ∧ wvB b.k d.n = true ∧ b' = ⟨b.k, b.x, d.n, b.e, b.past⟩) ∨
    ((d.k = 2 ∨ d.k = 3 ∨ d.k = 4) ∧ ∃ e, exprValid e = true ∧ b' = setB b e ∧ (d.k = 3 → e = exprSimple b.e)) ∨
    (d.k = 5 ∧ ∃ s ∈ b.past, ∃ e, readE s = some e ∧ b' = ⟨b.k, b.x, b.y, e, b.past.dropLast⟩) := by
  obtain ⟨h1, h2, h3, h4⟩ := bv_parts h
  unfold stepB at h'
  by_cases k0 : d.k = 0
  · rw [if_pos k0] at h'
    split at h'
    · rename_i hc; injection h' with h'; exact .inl ⟨k0, hc.2, h'.symm⟩
    · exact absurd h' (by simp)
  rw [if_neg k0] at h'
  by_cases k1 : d.k = 1
  · rw [if_pos k1] at h'
    split at h'
    · rename_i hc; injection h' with h'; exact .inr (.inl ⟨k1, hc.2, h'.symm⟩)
    · exact absurd h' (by simp)
  rw [if_neg k1] at h'
  by_cases k2 : d.k = 2
  · rw [if_pos k2] at h'
    split at h'
    · cases hr : readE d.t with
      | none => rw [hr] at h'; exact absurd h' (by simp)
      | some e =>
        rw [hr] at h'
        dsimp only [Option.bind] at h'
        split at h'
        · exact absurd h' (by simp)
        · injection h' with h'; exact .inr (.inr (.inl ⟨.inl k2, e, readE_valid hr, h'.symm, fun h => absurd h (by omega)⟩))
    · exact absurd h' (by simp)
  rw [if_neg k2] at h'
  by_cases k3 : d.k = 3
  · rw [if_pos k3] at h'
    split at h'
    · split at h'
      · exact absurd h' (by simp)
      · injection h' with h'; exact .inr (.inr (.inl ⟨.inr (.inl k3), _, simple_valid h2, h'.symm, fun _ => rfl⟩))
    · exact absurd h' (by simp)
  rw [if_neg k3] at h'
  by_cases k4 : d.k = 4
  · rw [if_pos k4] at h'
    split at h'
    · cases hr : shortFor b.e with
      | none => rw [hr] at h'; exact absurd h' (by simp)
      | some e =>
        rw [hr] at h'
        dsimp only [Option.bind] at h'
        split at h'
        · exact absurd h' (by simp)
        · injection h' with h'; exact .inr (.inr (.inl ⟨.inr (.inr k4), e, (short_some hr).2.2.1.1, h'.symm, fun h => absurd h (by omega)⟩))
    · exact absurd h' (by simp)
  rw [if_neg k4] at h'
  by_cases k5 : d.k = 5
  · rw [if_pos k5] at h'
    split at h'
    · cases hr : b.past.getLast? with
      | none => rw [hr] at h'; exact absurd h' (by simp)
      | some s =>
        rw [hr] at h'
        have hm : s ∈ b.past := List.mem_of_getLast? hr
        obtain ⟨e, he⟩ := isTxt_some (List.all_eq_true.1 h4 s hm)
        simp only [Option.map_some, he, Option.getD_some] at h'
        injection h' with h'
        exact .inr (.inr (.inr ⟨k5, s, hm, e, he, h'.symm⟩))
    · exact absurd h' (by simp)
  rw [if_neg k5] at h'
  exact absurd h' (by simp)
theorem stepB_valid {b b' : Bn} {d : Dd} (h : benchValid b = true) (h' : stepB b d = some b') : benchValid b' = true ∧ b'.k = b.k := by
  obtain ⟨h1, h2, h3, h4⟩ := bv_parts h
  rcases stepB_some h h' with ⟨_, hw, rfl⟩ | ⟨_, hw, rfl⟩ | ⟨_, e, he, rfl, _⟩ | ⟨_, s, hs, e, he, rfl⟩
  · exact ⟨bv_mk (v2_mk hw (v2_r h1)) h2 h3 h4, rfl⟩
  · exact ⟨bv_mk (v2_mk (v2_l h1) hw) h2 h3 h4, rfl⟩
  · exact ⟨setB_valid h he, rfl⟩
  · refine ⟨bv_mk h1 (readE_valid he) ?_ ?_, rfl⟩
    · show b.past.dropLast.length ≤ 20
      rw [List.length_dropLast]; omega
    · show b.past.dropLast.all isTxt = true
      rw [List.all_eq_true]
      intro s hs
      exact List.all_eq_true.1 h4 s (List.dropLast_subset _ hs)
theorem doB_valid {b : Bn} {d : Dd} (h : benchValid b = true) : benchValid (doB b d).1 = true ∧ (doB b d).1.k = b.k := by
  cases h' : stepB b d with
  | none => rw [doB_none h h']; exact ⟨h, rfl⟩
  | some b' => rw [doB_some h h']; exact stepB_valid h h'
theorem doB_ok {b : Bn} {d : Dd} (h : (doB b d).2 = true) : benchValid b = true ∧ ∃ b', stepB b d = some b' ∧ doB b d = (b', true) := by
  cases hv : benchValid b
  · rw [doB_f hv] at h; exact absurd h (by decide)
  · cases h' : stepB b d with
    | none => rw [doB_none hv h'] at h; exact Bool.noConfusion h
    | some b' => exact ⟨rfl, b', rfl, doB_some hv h'⟩
theorem doB_same {b : Bn} {d : Dd} (h : benchValid b = true) (h' : (doB b d).2 = false) : (doB b d).1 = b := by
  cases h1 : stepB b d with
  | none => rw [doB_none h h1]
  | some b' => rw [doB_some h h1] at h'; exact Bool.noConfusion h'
theorem bv_size {b : Bn} (h : benchValid b = true) : 1 ≤ b.e.length ∧ b.e.length ≤ 24 ∧ b.past.length ≤ 20 ∧ ∀ s ∈ b.past, s.length ≤ 70 := by
  obtain ⟨h1, h2, h3, h4⟩ := bv_parts h
  exact ⟨(valid_t h2).1, (valid_t h2).2.1, h3, fun s hs => isTxt_len (List.all_eq_true.1 h4 s hs)⟩
/-- An expression that was set is taken back. -/
theorem back_set {b : Bn} {e : List Int} (h : benchValid b = true) (hl : b.past.length < 20) : stepB (setB b e) ⟨5, 0, []⟩ = some b := by
  obtain ⟨h1, h2, h3, h4⟩ := bv_parts h
  obtain ⟨k, x, y, E, ts⟩ := b
  have hp : pushP ts (exprText E) = ts ++ [exprText E] := pushP_f (by dsimp only at hl; omega)
  unfold stepB setB
  dsimp only at h2 ⊢
  rw [hp, if_neg (by decide), if_neg (by decide), if_neg (by decide), if_neg (by decide), if_neg (by decide), if_pos rfl, if_pos ⟨rfl, rfl⟩, List.getLast?_concat, List.dropLast_concat, Option.map_some, readE_text h2]
  rfl
theorem simple_bench {b : Bn} (h : benchValid b = true) : benchValue (setB b (exprSimple b.e)) = benchValue b := by
  obtain ⟨h1, h2, h3, h4⟩ := bv_parts h
  rw [← bval_o h, ← bval_o (setB_valid h (simple_valid h2))]
  exact simple_value' h2
/-- One deed of a run: the bench, and how many deeds were done. -/
def runS (s : Bn × Nat) (d : Dd) : Bn × Nat := ((doB s.1 d).1, s.2 + if (doB s.1 d).2 then 1 else 0)
def runD (b : Bn) (ds : List Dd) : Bn × Nat := ds.foldl runS (b, 0)
theorem runD_nil (b : Bn) : runD b [] = (b, 0) := rfl
theorem runD_snoc (b : Bn) (ds : List Dd) (d : Dd) : runD b (ds ++ [d]) = runS (runD b ds) d := by unfold runD; rw [List.foldl_append]; rfl
theorem runS_from (ds : List Dd) : ∀ (b : Bn) (n : Nat), ds.foldl runS (b, n) = ((ds.foldl runS (b, 0)).1, n + (ds.foldl runS (b, 0)).2) := by
  induction ds with
  | nil => intro b n; rfl
  | cons d ds ih =>
    intro b n
    obtain ⟨c, hc⟩ : ∃ c, c = if (doB b d).2 then 1 else 0 := ⟨_, rfl⟩
    have h1 : ∀ m, (d :: ds).foldl runS (b, m) = ds.foldl runS ((doB b d).1, m + c) := fun m => by rw [hc]; rfl
    rw [h1, h1, ih _ (n + c), ih _ (0 + c)]
    dsimp only
    rw [Nat.zero_add, Nat.add_assoc]
theorem runD_parts (b : Bn) (ds es : List Dd) : runD b (ds ++ es) = ((runD (runD b ds).1 es).1, (runD b ds).2 + (runD (runD b ds).1 es).2) := by
  unfold runD
  rw [List.foldl_append]
  have := runS_from es (ds.foldl runS (b, 0)).1 (ds.foldl runS (b, 0)).2
  exact this
theorem runD_valid {b : Bn} (h : benchValid b = true) : ∀ ds : List Dd, benchValid (runD b ds).1 = true ∧ (runD b ds).1.k = b.k := by
  intro ds
  unfold runD
  suffices ∀ (s : Bn × Nat), benchValid s.1 = true → benchValid (ds.foldl runS s).1 = true ∧ (ds.foldl runS s).1.k = s.1.k from this (b, 0) h
  induction ds with
  | nil => intro s hs; exact ⟨hs, rfl⟩
  | cons d ds ih =>
    intro s hs
    obtain ⟨v1, v2⟩ := doB_valid (d := d) hs
    obtain ⟨u1, u2⟩ := ih (runS s d) v1
    exact ⟨u1, u2.trans v2⟩
end Go.Proofs.YtamhpgledbmnoaaGreatDoor.Pl
