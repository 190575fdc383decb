/-
  Small lemmas of the exact laws of benches and deeds.
  Conditions: none.
-/
import Derived.Test.YtamhpgledbmnoaaGreatO0
import Derived.Test.YtamhpgledbmnoaaGreatKN
namespace Go.Proofs.YtamhpgledbmnoaaGreat
set_option linter.unusedVariables false
set_option linter.unusedSimpArgs false
open Go.RowKit
theorem cells5 {w : World} {g : Nat} {T : TypeId} {a b c d e : Value} (h : Blk w g T #[a, b, c, d, e]) :
    w.cell? ⟨g, 0, none⟩ = some a ∧ w.cell? ⟨g, 1, none⟩ = some b ∧ w.cell? ⟨g, 2, none⟩ = some c ∧ w.cell? ⟨g, 3, none⟩ = some d ∧ w.cell? ⟨g, 4, none⟩ = some e :=
  ⟨(h.cell 0).trans rfl, (h.cell 1).trans rfl, (h.cell 2).trans rfl, (h.cell 3).trans rfl, (h.cell 4).trans rfl⟩
theorem cells3 {w : World} {g : Nat} {T : TypeId} {a b c : Value} (h : Blk w g T #[a, b, c]) :
    w.cell? ⟨g, 0, none⟩ = some a ∧ w.cell? ⟨g, 1, none⟩ = some b ∧ w.cell? ⟨g, 2, none⟩ = some c :=
  ⟨(h.cell 0).trans rfl, (h.cell 1).trans rfl, (h.cell 2).trans rfl⟩
theorem szB_le (n : Nat) (ts : List (List UInt8)) : szB n ts ≤ 1048576 := by
  unfold szB szT
  have := lens_nonneg ts
  split
  · omega
  · split <;> omega
theorem small_res (b : Pl.Bn) (D : Pl.Dd) : (Pl.doB b D).1.e.length ≤ 24 ∧ (Pl.doB b D).1.past.length ≤ 21 := by
  cases hv : Pl.benchValid b
  · rw [Pl.doB_f hv]; exact ⟨by decide, by decide⟩
  · obtain ⟨_, g2, g3, _⟩ := Pl.bv_size (Pl.doB_valid (d := D) hv).1
    exact ⟨g2, by omega⟩
section
variable {w w' a : World} {o : Obj}
theorem below_a1x (h : Below (w.alloc o).heap.size (w.alloc o) w') : Below w.heap.size w w' := ((Below.refl _ w).alloc (Nat.le_refl _) o).trans (h.mono (by simp))
theorem below_dx (h : Below w.drew.heap.size w.drew w') : Below w.heap.size w w' := ⟨h.os, h.tape, h.output, h.size, h.block⟩
theorem Blk.newx {w : World} {D : Nat} {t : TypeId} {cs : Array Value} (h : D = w.heap.size) : Blk (w.alloc (.cells cs t)) D t cs := by subst h; exact Blk.new w t cs
end
theorem same_drew0 {w : World} {D : Nat} : ∀ (b o : Nat), b < D → w.drew.cell? ⟨b, o, none⟩ = w.cell? ⟨b, o, none⟩ := fun _ _ _ => rfl
theorem same_refl0 {w : World} {D : Nat} : ∀ (b o : Nat), b < D → w.cell? ⟨b, o, none⟩ = w.cell? ⟨b, o, none⟩ := fun _ _ _ => rfl
theorem same_alloc {v w : World} {D : Nat} {o : Obj} (h : ∀ (b o : Nat), b < D → w.cell? ⟨b, o, none⟩ = v.cell? ⟨b, o, none⟩) (hD : D ≤ w.heap.size) : ∀ (b o' : Nat), b < D → (w.alloc o).cell? ⟨b, o', none⟩ = v.cell? ⟨b, o', none⟩ :=
  fun b o' hb => (World.cell?_alloc_lt w o ⟨b, o', none⟩ (show b < w.heap.size by omega)).trans (h b o' hb)
theorem same_alloc_d {v w : World} {D : Nat} {o : Obj} (h : ∀ (b o : Nat), b < D → w.cell? ⟨b, o, none⟩ = v.cell? ⟨b, o, none⟩) (hD : D ≤ w.heap.size) : ∀ (b o' : Nat), b < D → (w.alloc o).drew.cell? ⟨b, o', none⟩ = v.cell? ⟨b, o', none⟩ := same_alloc h hD
theorem same_setc {v w : World} {D X i : Nat} {u : Value} (h : ∀ (b o : Nat), b < D → w.cell? ⟨b, o, none⟩ = v.cell? ⟨b, o, none⟩) (hD : D ≤ X) : ∀ (b o' : Nat), b < D → (w.setCell ⟨X, i, none⟩ u).cell? ⟨b, o', none⟩ = v.cell? ⟨b, o', none⟩ :=
  fun b o' hb => (World.cell?_of_block (Below.heap_setCell w ⟨X, i, none⟩ u b (show b ≠ X by omega))).trans (h b o' hb)
theorem same_put5 {v w : World} {D X : Nat} {u0 u1 u2 u3 u4 : Value} (h : ∀ (b o : Nat), b < D → w.cell? ⟨b, o, none⟩ = v.cell? ⟨b, o, none⟩) (hD : D ≤ X) : ∀ (b o' : Nat), b < D → (((((w.setCell ⟨X, 0, none⟩ u0).setCell ⟨X, 1, none⟩ u1).setCell ⟨X, 2, none⟩ u2).setCell ⟨X, 3, none⟩ u3).setCell ⟨X, 4, none⟩ u4).cell? ⟨b, o', none⟩ = v.cell? ⟨b, o', none⟩ :=
  same_setc (same_setc (same_setc (same_setc (same_setc h hD) hD) hD) hD) hD
/-- A variable that holds a bench: its block, and the rows that it leads to, from block B on. -/
def BAt (B : Nat) (w : World) (s : Value) (b : Pl.Bn) : Prop := ∃ (W : Nat) (A P : Option Addr) (n c m d : Nat), s = .pointer (some ⟨W, 0, none⟩) ∧ B ≤ W ∧ Blk w W 30 #[.int .i64 b.k, .int .i64 b.x, .int .i64 b.y, .slice A n c, .slice P m d] ∧ ORow w B 3 A n c (I64 b.e) ∧ ORow w B 9 P m d (Tx b.past)
section
variable {w W : World} {B X : Nat} {k x y : Int} {E : List Int} {ts : List (List UInt8)} {A P : Option Addr} {n c m d : Nat} {a0 a1 a2 a3 a4 : Value}
theorem put5_orow_nex {w : World} {r base n c : Nat} {t t' : TypeId} {A : Option Addr} {xs : List Value} {u0 u1 u2 u3 u4 v0 v1 v2 v3 v4 : Value} (h : ORow w base t A n c xs) (hb : Blk w r t' #[u0, u1, u2, u3, u4]) (hne : t ≠ t') : ORow (put5 w r v0 v1 v2 v3 v4) base t A n c xs :=
  ((((h.set_blk hb hne v0).set_blk (hb.set_ 0 v0) hne v1).set_blk ((hb.set_ 0 v0).set_ 1 v1) hne v2).set_blk (((hb.set_ 0 v0).set_ 1 v1).set_ 2 v2) hne v3).set_blk ((((hb.set_ 0 v0).set_ 1 v1).set_ 2 v2).set_ 3 v3) hne v4
/-- .. its block was made last. -/
theorem bat_a (o : ORow w B 3 A n c (I64 E)) (p : ORow w B 9 P m d (Tx ts)) (hB : B ≤ w.heap.size) :
    BAt B (w.alloc (.cells #[.int .i64 k, .int .i64 x, .int .i64 y, .slice A n c, .slice P m d] 30)) (.pointer (some ⟨w.heap.size, 0, none⟩)) ⟨k, x, y, E, ts⟩ :=
  ⟨_, A, P, n, c, m, d, rfl, hB, Blk.new _ _ _, o.alloc _, p.alloc _⟩
/-- .. its block was made earlier. -/
theorem bat_b (KX : Blk w X 30 #[a0, a1, a2, a3, a4]) (hX : B ≤ X) (o : ORow w B 3 A n c (I64 E)) (p : ORow w B 9 P m d (Tx ts)) (hW : W = put5 w X (.int .i64 k) (.int .i64 x) (.int .i64 y) (.slice A n c) (.slice P m d)) :
    BAt B W (.pointer (some ⟨X, 0, none⟩)) ⟨k, x, y, E, ts⟩ := by
  subst hW
  exact ⟨_, A, P, n, c, m, d, rfl, hX, put5_blk KX, put5_orow_nex o KX (by decide), put5_orow_nex p KX (by decide)⟩
theorem below_put5 {v : World} {u0 u1 u2 u3 u4 : Value} (h : Below B v w) (hX : B ≤ X) (hW : W = put5 w X u0 u1 u2 u3 u4) : Below B v W := by subst hW; exact put5_below h hX
theorem bat_c {v : World} {S : Prop} (KX : Blk w X 30 #[.int .i64 0, .int .i64 0, .int .i64 0, .slice none 0 0, .slice none 0 0]) (hX : B ≤ X) (o : ORow w B 3 A n c (I64 E)) (p : ORow w B 9 P m d (Tx ts)) (h : Below B v w) (hs : S) (hW : W = put5 w X (.int .i64 k) (.int .i64 x) (.int .i64 y) (.slice A n c) (.slice P m d)) :
    BAt B W (.pointer (some ⟨X, 0, none⟩)) ⟨k, x, y, E, ts⟩ ∧ S ∧ Below B v W := ⟨bat_b KX hX o p hW, hs, below_put5 h hX hW⟩
end
end Go.Proofs.YtamhpgledbmnoaaGreat
