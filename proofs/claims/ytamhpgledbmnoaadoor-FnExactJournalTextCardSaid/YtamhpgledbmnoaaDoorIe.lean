/-
  A list of deeds that came in: how it reads.
  Conditions: none.
-/
import Derived.Test.YtamhpgledbmnoaaDoorKN
import Derived.Test.YtamhpgledbmnoaaDoorDl
import Derived.Deep.Slices
import Derived.Deep.Fields
import Derived.ChangeSame
namespace Go.Proofs.YtamhpgledbmnoaaDoor
set_option linter.unusedVariables false
set_option linter.unusedSimpArgs false
open Go.RowKit Go.ChangeShapes Go.WideShapes
section
open Go.ChangeShapes Go.WideShapes Go.Deep
variable {H : Type} {enc : TypeId × Value → H} {P : Program} {w : World} {base : Nat} {spare : Nat → Bool} {held : Bool}
theorem open_slice_parts {t e : TypeId} {fs : Array Field} {fuel : Nat} {cs : List Value} {x : DataW H × List MemPlace} (ht : P.underlying t = some (.slice e)) (he : P.underlying e = some (.struct fs))
    (hone : oneCellFields P fs = true) (hC : P.cellsOf e = fs.size) (h : DataW.trod enc P w base spare held fuel t cs = some x) :
    (cs = [.slice none 0 0] ∧ x = (.nil, [])) ∨
    ∃ (a : Addr) (len cap m : Nat) (D : Nat → DataW H) (Pl : Nat → List MemPlace), cs = [.slice (some a) len cap] ∧ base ≤ a.block ∧ len ≤ cap ∧ cap ≤ maxLen ∧ m = (if spare a.block then cap else len) ∧
      x = (.slice ((List.range len).map D) ((List.range (m - len)).map fun j => D (len + j)), MemPlace.row a (m * fs.size) ++ (List.range m).flatMap Pl) ∧
      ∀ i, i < m → ∃ (ys : List (DataW H × List MemPlace)) (n : Nat), D i = .agg (ys.map (·.1)) ∧ Pl i = ys.flatMap (·.2) ∧ ys.length = fs.size ∧
        ∀ (j : Nat) (f : Field), fs[j]? = some f → ∃ (v : Value) (y : DataW H × List MemPlace), w.cell? (a.add (i * fs.size + j)) = some v ∧ ys[j]? = some y ∧ DataW.trod enc P w base spare held n f.type [v] = some y := by
  rcases open_slice ht h with h0 | ⟨a, len, cap, m, n, D, Pl, hcs, hb, hl, hm, hmm, hx, hi⟩
  · exact .inl h0
  · refine .inr ⟨a, len, cap, m, D, Pl, hcs, hb, hl, hm, hmm, by rw [hC] at hx; exact hx, fun i him => ?_⟩
    obtain ⟨cs', hc, ht'⟩ := hi i him
    rw [hC] at hc
    obtain ⟨ys, n', hn', hy, hlen, hyl, hf⟩ := DataW.trod_struct he ht'
    obtain ⟨_, hcl, hat⟩ := World.cells?_some hc
    simp only [Prod.mk.injEq] at hy
    refine ⟨ys, n', hy.1, hy.2, hyl, fun j f hj => ?_⟩
    obtain ⟨ho, hk⟩ := hone_of hone j f hj
    have hjl : j < fs.size := (Array.getElem?_eq_some_iff.1 hj).1
    have hcell := hat j hjl
    have hv : cs'[j]? = some (cs'[j]'(by omega)) := List.getElem?_eq_getElem (by omega)
    have h1 := hf j f hj
    rw [ho, hk] at h1
    have hone' : (cs'.drop j).take 1 = [cs'[j]'(by omega)] := by
      rw [List.drop_eq_getElem_cons (by omega)]
      rfl
    rw [hone'] at h1
    have hys : ys[j]? = some (ys[j]'(by omega)) := List.getElem?_eq_getElem (by omega)
    refine ⟨_, _, ?_, hys, h1.trans hys⟩
    rw [← Go.Deep.add_add, hcell, hv]
end
theorem add_flat (b off j : Nat) : (⟨b, off, none⟩ : Addr).add j = ⟨b, off + j, none⟩ := by
  unfold Addr.add
  split
  · rename_i h0; subst h0; rfl
  · rfl
/-- What is told of a list of deeds that came in. -/
def IsDeeds (w : World) (v : Value) : Prop := ∃ (L : Option Addr) (l lc : Nat) (ds : List Pl.Dd), v = .slice L l lc ∧ RdD w w.heap.size L l ds ∧ l ≤ maxLen ∧ ∀ D ∈ ds, D.t.length ≤ maxLen
theorem isDeeds_of {w : World} {x : Addr} {l lc : Nat} (hl : l ≤ maxLen) (hc : ∀ i, i < l → ∃ (p q : Int) (s : List UInt8), w.cell? (x.add (i * 3)) = some (.int .i64 p) ∧ w.cell? (x.add (i * 3 + 1)) = some (.int .i64 q) ∧ w.cell? (x.add (i * 3 + 2)) = some (.string (Ba s)) ∧ s.length ≤ maxLen) :
    IsDeeds w (.slice (some x) l lc) := by
  rcases Nat.eq_zero_or_pos l with h0 | h0
  · subst h0
    exact ⟨_, _, _, [], rfl, RdD.zero, hl, fun D hD => by cases hD⟩
  · obtain ⟨b, off, spot⟩ := x
    obtain ⟨p0, q0, r0, h1, _⟩ := hc 0 h0
    have hspot : spot = none := by simpa [Addr.add] using World.cell?_spot h1
    subst hspot
    have hc' : ∀ i, ∃ o : Pl.Dd, i < l → w.cell? ⟨b, off + i * 3, none⟩ = some (.int .i64 o.k) ∧ w.cell? ⟨b, off + i * 3 + 1, none⟩ = some (.int .i64 o.n) ∧ w.cell? ⟨b, off + i * 3 + 2, none⟩ = some (.string (Ba o.t)) ∧ o.t.length ≤ maxLen := by
      intro i
      by_cases hi : i < l
      · obtain ⟨p, q, r, g1, g2, g3, g4⟩ := hc i hi
        rw [add_flat] at g1 g2 g3
        exact ⟨⟨p, q, r⟩, fun _ => ⟨g1, g2, g3, g4⟩⟩
      · exact ⟨⟨0, 0, []⟩, fun h => absurd h hi⟩
    refine ⟨_, _, _, (List.range l).map fun i => (hc' i).choose, rfl, ⟨by simp, .inr ⟨b, off, rfl, ?_, fun j c hj => ?_⟩⟩, hl, fun D hD => ?_⟩
    · have := World.block_lt_of_cell? w _ h1
      rwa [block_of_add] at this
    · have hjl : j < l := by
        have := (List.getElem?_eq_some_iff.1 hj).1
        simpa using this
      have e : c = (hc' j).choose := by
        rw [List.getElem?_map, List.getElem?_range hjl] at hj
        simpa using hj.symm
      rw [e]
      obtain ⟨g1, g2, g3, _⟩ := (hc' j).choose_spec hjl
      exact ⟨g1, g2, g3⟩
    · obtain ⟨i, hi, rfl⟩ := List.mem_map.1 hD
      exact ((hc' i).choose_spec (List.mem_range.1 hi)).2.2.2
set_option maxRecDepth 100000 in
theorem isDeeds_open {H : Type} {enc : TypeId × Value → H} {w : World} {base b0 : Nat} {r : Reach} {spare : Nat → Bool} {held : Bool} {v : Value} {d : DataW H} {p : List MemPlace}
    (hv : Value.okWide Tryd.prog w r b0 29 v) (h : DataW.Trod enc Tryd.prog w base spare held 29 v d p) : IsDeeds w v := by
  obtain ⟨a0, len0, cap0, rfl⟩ := okWide_slice Tryd.underlying29 hv
  obtain ⟨fuel, hf⟩ := h
  rcases open_slice_parts Tryd.underlying29 Tryd.underlying23 (by kernel_rfl) (by kernel_rfl) hf with ⟨hcs, _⟩ | ⟨x, l, c, m, D, Pl, hcs, _, hl, hm, hmm, hx, hi⟩
  · simp [Value.cells] at hcs
    obtain ⟨rfl, rfl, rfl⟩ := hcs
    exact ⟨_, _, _, [], rfl, RdD.zero, Nat.zero_le _, fun D hD => by cases hD⟩
  · simp [Value.cells] at hcs
    obtain ⟨rfl, rfl, rfl⟩ := hcs
    refine isDeeds_of (Nat.le_trans hl hm) fun i hi0 => ?_
    obtain ⟨ys, n, _, _, _, hg⟩ := hi i (by rw [hmm]; split <;> omega)
    obtain ⟨g0, y0, hc0, _, ht0⟩ := hg 0 _ rfl
    obtain ⟨t0, e0, _, _⟩ := DataW.trod_int Tryd.underlying3 ht0
    obtain rfl : g0 = .int .i64 t0 := by simpa using e0
    obtain ⟨g1, y1, hc1, _, ht1⟩ := hg 1 _ rfl
    obtain ⟨t1, e1, _, _⟩ := DataW.trod_int Tryd.underlying3 ht1
    obtain rfl : g1 = .int .i64 t1 := by simpa using e1
    obtain ⟨g2, y2, hc2, _, ht2⟩ := hg 2 _ rfl
    obtain ⟨s, e2, _, hs⟩ := DataW.trod_string Tryd.underlying9 ht2
    obtain rfl : g2 = .string s := by simpa using e2
    exact ⟨t0, t1, s.data.toList, hc0, hc1, by simpa [Ba] using hc2, by simpa using hs⟩
end Go.Proofs.YtamhpgledbmnoaaDoor
