/-
  The reference's bench with another expression.
  Conditions: as stated at each.
-/
import Derived.Test.YtamhpgledbmnoaaDoorO3
namespace Go.Proofs.YtamhpgledbmnoaaDoor
set_option linter.unusedVariables false
set_option linter.unusedSimpArgs false
open Go.RowKit
theorem ORow.ne_blk {w : World} {base n c G : Nat} {t t' : TypeId} {A : Option Addr} {xs : List Value} {cs' : Array Value} (h : ORow w base t A n c xs) (hb : Blk w G t' cs') (hne : t ≠ t') : ∀ k, (Value.slice A n c).ownBlock = some k → k ≠ G := by
  obtain ⟨h1, h2, h3, h4⟩ := h
  intro k hk
  rcases h4 with ⟨rfl, _⟩ | ⟨b, off, cs, rfl, hb', hh, hs, hc⟩
  · simp [Value.ownBlock] at hk
  · simp [Value.ownBlock] at hk
    subst hk
    rintro rfl
    unfold Blk at hb
    rw [hh] at hb
    injection hb with hb
    injection hb with _ hb
    exact hne hb
theorem ORow.set_blk {w : World} {base n c G o : Nat} {t t' : TypeId} {A : Option Addr} {xs : List Value} {cs' : Array Value} (h : ORow w base t A n c xs) (hb : Blk w G t' cs') (hne : t ≠ t') (u : Value) : ORow (w.setCell ⟨G, o, none⟩ u) base t A n c xs := by
  have hk := h.ne_blk hb hne
  obtain ⟨h1, h2, h3, h4⟩ := h
  refine ⟨h1, h2, h3, ?_⟩
  rcases h4 with h4 | ⟨b, off, cs, rfl, hb', hh, hs, hc⟩
  · exact .inl h4
  · exact .inr ⟨b, off, cs, rfl, hb', (Below.heap_setCell w ⟨G, o, none⟩ u b (hk b rfl)).trans hh, hs, hc⟩
theorem ORow.grown_ne {w w' : World} {base base' n c n' c' : Nat} {t t' : TypeId} {A A' : Option Addr} {xs xs' : List Value} (h : ORow w base t A n c xs) (h' : ORow w base' t' A' n' c' xs') (hne : t ≠ t') (hg : w.grownBy w' (Value.slice A' n' c').ownBlock) : ORow w' base t A n c xs := by
  obtain ⟨h1, h2, h3, h4⟩ := h
  refine ⟨h1, h2, h3, ?_⟩
  rcases h4 with h4 | ⟨b, off, cs, rfl, hb', hh, hs, hc⟩
  · exact .inl h4
  · refine .inr ⟨b, off, cs, rfl, hb', (hg.block b (heap_lt hh) (fun e => ?_)).trans hh, hs, hc⟩
    exact h'.ne_blk (G := b) (t' := t) (cs' := cs) hh (fun e => hne e.symm) b e.symm rfl
theorem ORow.below_lt {w w' : World} {base n c D : Nat} {t : TypeId} {A : Option Addr} {xs : List Value} (h : ORow w base t A n c xs) (hl : ∀ k, (Value.slice A n c).ownBlock = some k → k < D) (hb : Below D w w') : ORow w' base t A n c xs := by
  obtain ⟨h1, h2, h3, h4⟩ := h
  refine ⟨h1, h2, h3, ?_⟩
  rcases h4 with h4 | ⟨b, off, cs, rfl, hb', hh, hs, hc⟩
  · exact .inl h4
  · exact .inr ⟨b, off, cs, rfl, hb', (hb.block b (hl b rfl)).trans hh, hs, hc⟩
theorem Blk.grown_ne {w w' : World} {G n' c' base' : Nat} {t t' : TypeId} {cs : Array Value} {A' : Option Addr} {xs' : List Value} (h : Blk w G t cs) (h' : ORow w base' t' A' n' c' xs') (hne : t' ≠ t) (hg : w.grownBy w' (Value.slice A' n' c').ownBlock) : Blk w' G t cs :=
  h.grown hg (fun e => h'.ne_blk h hne G e.symm rfl)
end Go.Proofs.YtamhpgledbmnoaaDoor
