/-
  Deeds in memory: slices of deeds, three cells each.
  Conditions: none.
-/
import Derived.Test.YtamhpgledbmnoaaGreatDoorO0
namespace Go.Proofs.YtamhpgledbmnoaaGreatDoor
set_option linter.unusedVariables false
set_option linter.unusedSimpArgs false
open Go.RowKit
/-- The three cells of a deed. -/
def d3 (D : Pl.Dd) : List Value := [.int .i64 D.k, .int .i64 D.n, .string (Ba D.t)]
def D3 (ds : List Pl.Dd) : List Value := ds.flatMap d3
theorem D3_len (ds : List Pl.Dd) : (D3 ds).length = ds.length * 3 := by
  induction ds with
  | nil => rfl
  | cons c t ih => show (d3 c ++ D3 t).length = _; rw [List.length_append, ih, List.length_cons]; simp [d3]; omega
theorem D3_append (a b : List Pl.Dd) : D3 (a ++ b) = D3 a ++ D3 b := by simp [D3, List.flatMap_append]
theorem D3_one (c : Pl.Dd) : D3 [c] = d3 c := by simp [D3]
theorem D3_get : ∀ (ds : List Pl.Dd) (j : Nat) (c : Pl.Dd), ds[j]? = some c → (D3 ds)[j * 3]? = some (.int .i64 c.k) ∧ (D3 ds)[j * 3 + 1]? = some (.int .i64 c.n) ∧ (D3 ds)[j * 3 + 2]? = some (.string (Ba c.t))
  | [], j, c, h => by simp at h
  | d :: t, 0, c, h => by
    simp at h; subst h
    exact ⟨rfl, rfl, rfl⟩
  | d :: t, j + 1, c, h => by
    have ih := D3_get t j c (by simpa using h)
    have e : ∀ m, (D3 (d :: t))[m + 3]? = (D3 t)[m]? := fun m => by
      show (d3 d ++ D3 t)[m + 3]? = _
      rw [List.getElem?_append_right (by simp [d3])]
      simp [d3]
    rw [show (j + 1) * 3 = j * 3 + 3 by omega, show j * 3 + 3 + 1 = (j * 3 + 1) + 3 by omega, show j * 3 + 3 + 2 = (j * 3 + 2) + 3 by omega, e, e, e]
    exact ih
/-- The slice '.slice A n c' holds the deeds ds, below block B. -/
def RdD (w : World) (B : Nat) (A : Option Addr) (n : Nat) (ds : List Pl.Dd) : Prop :=
  ds.length = n ∧ (n = 0 ∨ ∃ b off, A = some ⟨b, off, none⟩ ∧ b < B ∧ ∀ j D, ds[j]? = some D → w.cell? ⟨b, off + j * 3, none⟩ = some (.int .i64 D.k) ∧ w.cell? ⟨b, off + j * 3 + 1, none⟩ = some (.int .i64 D.n) ∧ w.cell? ⟨b, off + j * 3 + 2, none⟩ = some (.string (Ba D.t)))
section
variable {w w' : World} {B B' n : Nat} {A : Option Addr} {ds : List Pl.Dd}
theorem RdD.zero : RdD w B A 0 [] := ⟨rfl, .inl rfl⟩
theorem RdD.pos (h : RdD w B A n ds) (hn : 0 < n) : ∃ b off, A = some ⟨b, off, none⟩ ∧ b < B ∧ ∀ j D, ds[j]? = some D → w.cell? ⟨b, off + j * 3, none⟩ = some (.int .i64 D.k) ∧ w.cell? ⟨b, off + j * 3 + 1, none⟩ = some (.int .i64 D.n) ∧ w.cell? ⟨b, off + j * 3 + 2, none⟩ = some (.string (Ba D.t)) := by
  rcases h.2 with h | h
  · omega
  · exact h
theorem RdD.keep (h : RdD w B A n ds) (hk : ∀ p : Addr, p.block < B → w'.cell? p = w.cell? p) : RdD w' B A n ds :=
  ⟨h.1, by
    rcases h.2 with h | ⟨b, off, e, hb, hc⟩
    · exact .inl h
    · exact .inr ⟨b, off, e, hb, fun j c hj => by
        obtain ⟨h1, h2, h3⟩ := hc j c hj
        exact ⟨(hk _ hb).trans h1, (hk _ hb).trans h2, (hk _ hb).trans h3⟩⟩⟩
theorem RdD.more (h : RdD w B A n ds) (hB : B ≤ B') : RdD w B' A n ds :=
  ⟨h.1, by
    rcases h.2 with h | ⟨b, off, e, hb, hc⟩
    · exact .inl h
    · exact .inr ⟨b, off, e, by omega, hc⟩⟩
theorem RdD.below (h : RdD w B A n ds) (hb : Below B w w') : RdD w' B A n ds := h.keep fun _ hp => hb.cell hp
theorem RdD.drewN (h : RdD w B A n ds) (k : Nat) : RdD (w.drewN k) B A n ds := h
theorem RdD.alloc (h : RdD w B A n ds) (hB : B ≤ w.heap.size) (o : Obj) : RdD (w.alloc o) B A n ds := h.keep fun p hp => World.cell?_alloc_lt w o p (by omega)
theorem RdD.take {k : Nat} (h : RdD w B A n ds) (hk : k ≤ n) : RdD w B A k (ds.take k) := by
  obtain ⟨h1, h2⟩ := h
  refine ⟨by rw [List.length_take]; omega, ?_⟩
  rcases h2 with h2 | ⟨b, off, rfl, hb, hc⟩
  · exact .inl (by omega)
  · refine .inr ⟨b, off, rfl, hb, fun j D hj => hc j D ?_⟩
    have hl := (List.getElem?_eq_some_iff.1 hj).1
    rw [List.length_take] at hl
    rwa [List.getElem?_take_of_lt (by omega)] at hj
theorem RdD.drop {b off k : Nat} (h : RdD w B (some ⟨b, off, none⟩) n ds) (hk : k ≤ n) : RdD w B (some ⟨b, off + k * 3, none⟩) (n - k) (ds.drop k) := by
  obtain ⟨h1, h2⟩ := h
  refine ⟨by rw [List.length_drop]; omega, ?_⟩
  rcases h2 with h2 | ⟨b', off', e, hb, hc⟩
  · exact .inl (by omega)
  · injection e with e
    injection e with e1 e2
    subst e1 e2
    refine .inr ⟨b, off + k * 3, rfl, hb, fun j D hj => ?_⟩
    rw [List.getElem?_drop] at hj
    have := hc (k + j) D hj
    rw [show off + k * 3 + j * 3 = off + (k + j) * 3 by omega]
    exact this
/-- A row of the call's own holds deeds. -/
theorem rdD_own {base c : Nat} {e : TypeId} (h : w.ownsRow base e 3 (.slice A n c) n (D3 ds)) : RdD w w.heap.size A n ds := by
  have hl := h.1
  rw [D3_len] at hl
  refine ⟨by omega, ?_⟩
  rcases h.2 with ⟨h0, rfl⟩ | ⟨g, cap, cur, hv, hg, hh, hnc, hm, hs, hx⟩
  · exact .inl rfl
  · injection hv with h1 h2 h3
    subst h1
    refine .inr ⟨g, 0, rfl, ?_, fun j d hj => ?_⟩
    · rcases Nat.lt_or_ge g w.heap.size with h1 | h1
      · exact h1
      · rw [Array.getElem?_eq_none h1] at hh; cases hh
    · obtain ⟨c1, c2, c3⟩ := D3_get ds j d hj
      have key : ∀ m u, (D3 ds)[m]? = some u → w.cell? ⟨g, m, none⟩ = some u := fun m u hu => by
        have h3 := h.cells (g := g) rfl m u hu
        have e : (⟨g, 0, none⟩ : Addr).add m = ⟨g, m, none⟩ := by
          unfold Addr.add
          split
          · rename_i h0; subst h0; rfl
          · simp
        rwa [e] at h3
      rw [Nat.zero_add]
      exact ⟨key _ _ c1, key _ _ c2, key _ _ c3⟩
end
namespace Pl
/-- A run of deeds, as the program answers it. -/
def runB (b : Bn) (ds : List Dd) : Bn × Nat := if benchValid b = true ∧ ds.length ≤ 40 then runD b ds else (zeroB, 0)
theorem runB_f {b : Bn} (ds : List Dd) (h : benchValid b = false) : runB b ds = (zeroB, 0) := by unfold runB; rw [if_neg (by rintro ⟨h1, _⟩; rw [h] at h1; cases h1)]
theorem runB_l {b : Bn} {ds : List Dd} (h : ¬ ds.length ≤ 40) : runB b ds = (zeroB, 0) := by unfold runB; rw [if_neg (fun h1 => h h1.2)]
theorem runB_t {b : Bn} {ds : List Dd} (h : benchValid b = true) (hl : ds.length ≤ 40) : runB b ds = runD b ds := by unfold runB; rw [if_pos ⟨h, hl⟩]
theorem runD_take {b : Bn} {ds : List Dd} {j : Nat} {d : Dd} (h : ds[j]? = some d) : runD b (ds.take (j + 1)) = runS (runD b (ds.take j)) d := by
  rw [List.take_add_one, h]
  exact runD_snoc b _ d
theorem runD_n (b : Bn) (ds : List Dd) : (runD b ds).2 ≤ ds.length := by
  unfold runD
  suffices ∀ (s : Bn × Nat), (ds.foldl runS s).2 ≤ s.2 + ds.length by have := this (b, 0); simpa using this
  induction ds with
  | nil => intro s; simp
  | cons d ds ih =>
    intro s
    have := ih (runS s d)
    have h : (runS s d).2 ≤ s.2 + 1 := by unfold runS; dsimp only; split <;> omega
    show (ds.foldl runS (runS s d)).2 ≤ _
    simp only [List.length_cons]
    omega
end Pl
end Go.Proofs.YtamhpgledbmnoaaGreatDoor
