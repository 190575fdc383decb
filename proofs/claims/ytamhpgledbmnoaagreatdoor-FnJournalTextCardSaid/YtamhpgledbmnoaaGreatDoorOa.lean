/-
  Rows of deeds beside other memory of the call's own: what keeps them, what is put behind them.
  Conditions: as stated.
-/
import Derived.Test.YtamhpgledbmnoaaGreatDoorDl
namespace Go.Proofs.YtamhpgledbmnoaaGreatDoor
set_option linter.unusedVariables false
set_option linter.unusedSimpArgs false
open Go.RowKit
section
variable {w w' : World} {base size n B c n' : Nat} {e t : TypeId} {v : Value} {A : Option Addr} {xs ys : List Value}
theorem own_keep (h : w.ownsRow base e size v n xs) (hk : ∀ b, base ≤ b → b < w.heap.size → w'.heap[b]? = w.heap[b]?) : w'.ownsRow base e size v n xs := by
  obtain ⟨h1, h2⟩ := h
  refine ⟨h1, ?_⟩
  rcases h2 with h2 | ⟨g, cap, cur, rfl, a, b, d⟩
  · exact .inl h2
  · exact .inr ⟨g, cap, cur, rfl, a, (hk g a (heap_lt b)).trans b, d⟩
theorem orow_apart (h : ORow w B t A n c xs) (ho : w.ownsRow base e size v n' ys) (hne : e ≠ t) (hg : w.grownBy w' v.ownBlock) : ORow w' B t A n c xs := by
  obtain ⟨h1, h2, h3, h4⟩ := h
  refine ⟨h1, h2, h3, ?_⟩
  rcases h4 with h4 | ⟨b, off, cs, rfl, hb, hh, hs, hc⟩
  · exact .inl h4
  · exact .inr ⟨b, off, cs, rfl, hb, (hg.block b (heap_lt hh) (fun he => own_blk_ne ho (show Blk w b t cs from hh) hne he.symm)).trans hh, hs, hc⟩
theorem blk_apart {g : Nat} {cs : Array Value} (h : Blk w g t cs) (ho : w.ownsRow base e size v n' ys) (hne : e ≠ t) (hg : w.grownBy w' v.ownBlock) : Blk w' g t cs :=
  h.grown hg (fun he => own_blk_ne ho h hne he.symm)
end
section
variable {w w' : World} {base R n c : Nat} {e : TypeId} {v : Value} {A : Option Addr} {xs : List Value}
theorem own_grownR {size : Nat} (h : w.ownsRow base e size v n xs) (hg : w.grownBy w' (some R)) (hR : R < base) : w'.ownsRow base e size v n xs :=
  own_keep h fun b hb hl => hg.block b hl (fun he => by injection he; omega)
theorem own_alloc {size : Nat} (h : w.ownsRow base e size v n xs) (o : Obj) : (w.alloc o).ownsRow base e size v n xs := own_keep h fun b _ hl => Below.heap_alloc w o b hl
theorem own_setcB {size g o : Nat} {t : TypeId} {cs : Array Value} (h : w.ownsRow base e size v n xs) (hb : Blk w g t cs) (hne : e ≠ t) (u : Value) : (w.setCell ⟨g, o, none⟩ u).ownsRow base e size v n xs := by
  obtain ⟨h1, h2⟩ := h
  refine ⟨h1, ?_⟩
  rcases h2 with h2 | ⟨b, cap, cur, rfl, a, hh, d⟩
  · exact .inl h2
  · refine .inr ⟨b, cap, cur, rfl, a, (Below.heap_setCell w ⟨g, o, none⟩ u b (show b ≠ g from ?_)).trans hh, d⟩
    rintro rfl
    exact Blk.ne_ (show Blk w b e cur from hh) hb hne rfl
theorem own_put5 {size g : Nat} {t : TypeId} {a0 a1 a2 a3 a4 u0 u1 u2 u3 u4 : Value} (h : w.ownsRow base e size v n xs) (hb : Blk w g t #[a0, a1, a2, a3, a4]) (hne : e ≠ t) : (put5 w g u0 u1 u2 u3 u4).ownsRow base e size v n xs :=
  own_setcB (own_setcB (own_setcB (own_setcB (own_setcB h hb hne u0) (hb.set_ 0 u0) hne u1) ((hb.set_ 0 u0).set_ 1 u1) hne u2) (((hb.set_ 0 u0).set_ 1 u1).set_ 2 u2) hne u3) ((((hb.set_ 0 u0).set_ 1 u1).set_ 2 u2).set_ 3 u3) hne u4
end
theorem deed_infoA : (Tryz.prog.info? 24).map (fun i => (i.zero, i.size, i.bytes)) = some (some (.agg #[.int .i64 0, .int .i64 0, .string ByteArray.empty]), 3, 32) := by kernel_rfl
section
variable {w : World} {ops : Array Oper} {rest : List Oper} {o : Oper} {a : Act} {Q : Exit → Act → World → Prop}
/-- A deed behind a row of deeds. -/
theorem app_deed (hgd : o.guard = none) (s x : Operand)
    (ho : o.op = .call { callee := .builtin .append, args := #[s, x], argTypes := #[32, 32] })
    (base : Nat) (v : Value) (n : Nat) (xs : List Pl.Dd) (c : Pl.Dd) (hs : a.eval s = v) (hown : w.ownsRow base 24 3 v n (D3 xs))
    (hx : a.eval x = .slice (some ⟨w.heap.size, 0, none⟩) 1 1) (hn : n ≤ 1000000) (hbase : base ≤ w.heap.size)
    (h : ∀ v' w', w'.ownsRow base 24 3 v' (n + 1) (D3 (xs ++ [c])) → Below base w w' → (w.alloc (.cells #[.int .i64 c.k, .int .i64 c.n, .string (Ba c.t)] 24)).grownBy w' v.ownBlock → wpList Tryz.prog ops Q rest (a.put o.dst v') w') :
    wpList Tryz.prog ops Q (o :: rest) a (w.alloc (.cells #[.int .i64 c.k, .int .i64 c.n, .string (Ba c.t)] 24)) := by
  obtain ⟨i0, hi0, hz0, hz1, hz2⟩ := info_parts deed_infoA
  have hnew := (Blk.new w 24 #[.int .i64 c.k, .int .i64 c.n, .string (Ba c.t)])
  refine wpList_append_own _ hgd s x _ ho base 24 i0 _ 3 32 Tryz.underlying32 hi0 hz0 hz1 hz2 rfl (by decide) v n (D3 xs) hs (hown.alloc _) ⟨w.heap.size, 0, none⟩ 1 1 (d3 c) hx rfl
    (fun j u hu => ?_) (fun u hu => ?_) (by simp only [maxLen]; omega) (by omega) (by simp; omega)
    (fun v' w' h2 h3 _ => h v' w' (by rw [D3_append, D3_one]; exact h2) (below_of_grown hown hbase h3) h3)
  · have e : (⟨w.heap.size, 0, none⟩ : Addr).add j = ⟨w.heap.size, j, none⟩ := by
      unfold Addr.add
      split
      · rename_i h0; subst h0; rfl
      · simp
    rw [e, hnew.cell]
    simpa [d3] using hu
  · simp [d3] at hu
    rcases hu with rfl | rfl | rfl <;> rfl
end
theorem own_form3 {w : World} {base n : Nat} {e : TypeId} {v : Value} {xs : List Value} (h : w.ownsRow base e 3 v n xs) : ∃ A c, v = .slice A n c := by
  rcases h.2 with ⟨rfl, h2⟩ | ⟨g, cap, cur, rfl, _⟩
  · exact ⟨none, 0, by rw [h2]⟩
  · exact ⟨_, cap, rfl⟩
end Go.Proofs.YtamhpgledbmnoaaGreatDoor
