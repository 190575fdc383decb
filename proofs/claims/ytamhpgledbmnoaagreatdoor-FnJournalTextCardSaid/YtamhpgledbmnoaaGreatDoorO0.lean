/-
  Small lemmas for benches and deeds in memory, and the cases of a deed.
  Conditions: as stated at each.
-/
import Derived.Test.YtamhpgledbmnoaaGreatDoorO4
import Derived.Test.YtamhpgledbmnoaaGreatDoorPd
namespace Go.Proofs.YtamhpgledbmnoaaGreatDoor
set_option linter.unusedVariables false
set_option linter.unusedSimpArgs false
open Go.RowKit
/-- The end of a function, as a form that the walk does not open: where a result lies in a cell, the walk's way back into a caller costs half a minute. -/
structure AtEnd (P : Program) (fn : Func) (R : Ending → World → Prop) (a : Act) (w : World) : Prop where
  out : bodyPost P fn R .ret a w
theorem AtEnd.of {P : Program} {fn : Func} {R : Ending → World → Prop} {a : Act} {w : World} (h : AtEnd P fn R a w) : bodyPost P fn R .ret a w := h.out
theorem atEnd_ret {P : Program} {fn : Func} {R : Ending → World → Prop} {a : Act} {w : World} {v : Value} (hr : (results fn a.tmps).run P w = .ok v w) (hd : a.defers = []) (hR : R (.returned v) w) : AtEnd P fn R a w := ⟨bodyPost_ret hr hd hR⟩
/-- A deed as a value. -/
def deedV (k n : Int) (t : List UInt8) : Value := .agg #[.int .i64 k, .int .i64 n, .string (Ba t)]
/-- Five cells of a block written, one behind the other. -/
def put5 (w : World) (r : Nat) (v0 v1 v2 v3 v4 : Value) : World := ((((w.setCell ⟨r, 0, none⟩ v0).setCell ⟨r, 1, none⟩ v1).setCell ⟨r, 2, none⟩ v2).setCell ⟨r, 3, none⟩ v3).setCell ⟨r, 4, none⟩ v4
section
variable {w a : World} {r g base n c : Nat} {t t' : TypeId} {A : Option Addr} {xs : List Value} {u0 u1 u2 u3 u4 v0 v1 v2 v3 v4 : Value}
theorem put5_blk (h : Blk w r t #[u0, u1, u2, u3, u4]) : Blk (put5 w r v0 v1 v2 v3 v4) r t #[v0, v1, v2, v3, v4] := ((((h.set_ 0 v0).set_ 1 v1).set_ 2 v2).set_ 3 v3).set_ 4 v4
theorem put5_below (h : Below g a w) (hr : g ≤ r) : Below g a (put5 w r v0 v1 v2 v3 v4) :=
  ((((h.setCell (p := ⟨r, 0, none⟩) hr v0).setCell (p := ⟨r, 1, none⟩) hr v1).setCell (p := ⟨r, 2, none⟩) hr v2).setCell (p := ⟨r, 3, none⟩) hr v3).setCell (p := ⟨r, 4, none⟩) hr v4
theorem put5_orow (h : ORow w base t A n c xs) (hr : r < base) : ORow (put5 w r v0 v1 v2 v3 v4) base t A n c xs := ((((h.setc hr v0).setc hr v1).setc hr v2).setc hr v3).setc hr v4
theorem put5_far {cs : Array Value} {r' : Nat} (h : r ≠ r') (hb : Blk w r' t cs) : Blk (put5 w r v0 v1 v2 v3 v4) r' t cs :=
  ((((hb.far (p := ⟨r, 0, none⟩) (Ne.symm h) v0).far (p := ⟨r, 1, none⟩) (Ne.symm h) v1).far (p := ⟨r, 2, none⟩) (Ne.symm h) v2).far (p := ⟨r, 3, none⟩) (Ne.symm h) v3).far (p := ⟨r, 4, none⟩) (Ne.symm h) v4
end
theorem results_cell_tmp {P : Program} {fn : Func} {a u : Tmp} {ty : TypeId} (h : fn.results = #[.cell a ty, .tmp u]) {tmps : Array Value} {w : World} {ad : Addr} {v x : Value} (hp : tmps.getD a undef = .pointer (some ad)) (hl : (loadVar ty ad).run P w = .ok v w) (hu : tmps.getD u undef = x) :
    (results fn tmps).run P w = .ok (.tuple #[v, x]) w := by
  simp only [results, h]
  rw [Array.getD_eq_getD_getElem?] at hp hu
  simp [hp, hu, asAddr, hl]
theorem load_bench {w : World} {r : Nat} {v0 v1 v2 v3 v4 : Value} (h : Blk w r 44 #[v0, v1, v2, v3, v4]) : (loadVar 44 ⟨r, 0, none⟩).run Tryz.prog w = .ok (.agg #[v0, v1, v2, v3, v4]) w := by
  have c0 : w.cell? ⟨r, 0, none⟩ = some v0 := h.cell 0
  have c1 : w.cell? ⟨r, 1, none⟩ = some v1 := h.cell 1
  have c2 : w.cell? ⟨r, 2, none⟩ = some v2 := h.cell 2
  have c3 : w.cell? ⟨r, 3, none⟩ = some v3 := h.cell 3
  have c4 : w.cell? ⟨r, 4, none⟩ = some v4 := h.cell 4
  simp [go_sem, c0, c1, c2, c3, c4]
theorem Tx_take {ts : List (List UInt8)} {j : Nat} : (Tx ts).take j = Tx (ts.take j) := by simp [Tx, List.map_take]
theorem ORow.some {w : World} {base n c : Nat} {t : TypeId} {A : Option Addr} {xs : List Value} (h : ORow w base t A n c xs) (hn : 1 ≤ n) : ∃ b off, A = Option.some ⟨b, off, none⟩ := by
  obtain ⟨h1, h2, h3, h4⟩ := h
  rcases h4 with ⟨_, h4⟩ | ⟨b, off, cs, rfl, _⟩
  · omega
  · exact ⟨b, off, rfl⟩
theorem exprSimple_24 (e : List Int) : (Pl.exprSimple e).length ≤ 24 := by
  cases h : Pl.exprValid e
  · rw [Pl.exprSimple_f h]; simp
  · have := Pl.simple_len (e := e); have := (Pl.valid_t h).2.1; omega
theorem ys_len {t : List UInt8} {ys : List Int} (h : ys = (Pl.readE t).getD []) : ys.length ≤ 24 := by
  subst h
  cases h : Pl.readE t with
  | none => simp
  | some e => exact (Pl.valid_t (Pl.readE_valid h)).2.1
namespace Pl
theorem getD_some {o : Option (List Int)} {ys : List Int} {b : Bool} (h : o.isSome = b) (hb : b = true) (h' : ys = o.getD []) : o = some ys := by
  subst h'
  cases o with
  | none => rw [hb] at h; exact Bool.noConfusion h
  | some e => rfl
theorem getD_none {o : Option (List Int)} {b : Bool} (h : o.isSome = b) (hb : b = false) : o = none := by
  cases o with
  | none => rfl
  | some e => rw [hb] at h; exact Bool.noConfusion h
section
variable {b : Bn} {n : Int} {t : List UInt8} {e : List Int} {s : List UInt8}
theorem st0_t (h : true = (decide (t = []) && wvB b.k n)) : stepB b ⟨0, n, t⟩ = some ⟨b.k, n, b.y, b.e, b.past⟩ := by
  have h := h.symm
  rw [Bool.and_eq_true, decide_eq_true_eq] at h
  unfold stepB
  dsimp only
  rw [if_pos rfl, if_pos h]
theorem st0_f (h : false = (decide (t = []) && wvB b.k n)) : stepB b ⟨0, n, t⟩ = none := by
  have h' : ¬ (t = [] ∧ wvB b.k n = true) := by rintro ⟨h1, h2⟩; rw [h2, decide_eq_true h1] at h; exact absurd h (by decide)
  unfold stepB
  dsimp only
  rw [if_pos rfl, if_neg h']
theorem st1_t (h : true = (decide (t = []) && wvB b.k n)) : stepB b ⟨1, n, t⟩ = some ⟨b.k, b.x, n, b.e, b.past⟩ := by
  have h := h.symm
  rw [Bool.and_eq_true, decide_eq_true_eq] at h
  unfold stepB
  dsimp only
  rw [if_neg (by decide), if_pos rfl, if_pos h]
theorem st1_f (h : false = (decide (t = []) && wvB b.k n)) : stepB b ⟨1, n, t⟩ = none := by
  have h' : ¬ (t = [] ∧ wvB b.k n = true) := by rintro ⟨h1, h2⟩; rw [h2, decide_eq_true h1] at h; exact absurd h (by decide)
  unfold stepB
  dsimp only
  rw [if_neg (by decide), if_pos rfl, if_neg h']
theorem st2_n (h : n ≠ 0) : stepB b ⟨2, n, t⟩ = none := by unfold stepB; dsimp only; rw [if_neg (by decide), if_neg (by decide), if_pos rfl, if_neg h]
theorem st2_r (h : readE t = none) : stepB b ⟨2, 0, t⟩ = none := by unfold stepB; dsimp only; rw [if_neg (by decide), if_neg (by decide), if_pos rfl, if_pos rfl, h]; rfl
theorem st2_e (h : readE t = some e) (he : e = b.e) : stepB b ⟨2, 0, t⟩ = none := by unfold stepB; dsimp only; rw [if_neg (by decide), if_neg (by decide), if_pos rfl, if_pos rfl, h]; show (if e = b.e then none else _) = _; rw [if_pos he]
theorem st2_t (h : readE t = some e) (he : ¬ e = b.e) : stepB b ⟨2, 0, t⟩ = some (setB b e) := by unfold stepB; dsimp only; rw [if_neg (by decide), if_neg (by decide), if_pos rfl, if_pos rfl, h]; show (if e = b.e then none else _) = _; rw [if_neg he]
theorem bare_t (h : true = (decide (n = 0) && decide (t = []))) : n = 0 ∧ t = [] := by
  have h := h.symm
  rwa [Bool.and_eq_true, decide_eq_true_eq, decide_eq_true_eq] at h
theorem bare_f (h : false = (decide (n = 0) && decide (t = []))) : ¬ (n = 0 ∧ t = []) := by
  rintro ⟨h1, h2⟩; rw [decide_eq_true h1, decide_eq_true h2] at h; exact absurd h (by decide)
theorem st3_b (h : false = (decide (n = 0) && decide (t = []))) : stepB b ⟨3, n, t⟩ = none := by unfold stepB; dsimp only; rw [if_neg (by decide), if_neg (by decide), if_neg (by decide), if_pos rfl, if_neg (bare_f h)]
theorem st3_e (h : true = (decide (n = 0) && decide (t = []))) (he : exprSimple b.e = b.e) : stepB b ⟨3, n, t⟩ = none := by unfold stepB; dsimp only; rw [if_neg (by decide), if_neg (by decide), if_neg (by decide), if_pos rfl, if_pos (bare_t h), if_pos he]
theorem st3_t (h : true = (decide (n = 0) && decide (t = []))) (he : ¬ exprSimple b.e = b.e) : stepB b ⟨3, n, t⟩ = some (setB b (exprSimple b.e)) := by unfold stepB; dsimp only; rw [if_neg (by decide), if_neg (by decide), if_neg (by decide), if_pos rfl, if_pos (bare_t h), if_neg he]
theorem st4_b (h : false = (decide (n = 0) && decide (t = []))) : stepB b ⟨4, n, t⟩ = none := by unfold stepB; dsimp only; rw [if_neg (by decide), if_neg (by decide), if_neg (by decide), if_neg (by decide), if_pos rfl, if_neg (bare_f h)]
theorem st4_n (h : true = (decide (n = 0) && decide (t = []))) (hs : shortFor b.e = none) : stepB b ⟨4, n, t⟩ = none := by unfold stepB; dsimp only; rw [if_neg (by decide), if_neg (by decide), if_neg (by decide), if_neg (by decide), if_pos rfl, if_pos (bare_t h), hs]; rfl
theorem st4_e (h : true = (decide (n = 0) && decide (t = []))) (hs : shortFor b.e = some e) (he : e = b.e) : stepB b ⟨4, n, t⟩ = none := by unfold stepB; dsimp only; rw [if_neg (by decide), if_neg (by decide), if_neg (by decide), if_neg (by decide), if_pos rfl, if_pos (bare_t h), hs]; show (if e = b.e then none else _) = _; rw [if_pos he]
theorem st4_t (h : true = (decide (n = 0) && decide (t = []))) (hs : shortFor b.e = some e) (he : ¬ e = b.e) : stepB b ⟨4, n, t⟩ = some (setB b e) := by unfold stepB; dsimp only; rw [if_neg (by decide), if_neg (by decide), if_neg (by decide), if_neg (by decide), if_pos rfl, if_pos (bare_t h), hs]; show (if e = b.e then none else _) = _; rw [if_neg he]
theorem st5_b (h : false = (decide (n = 0) && decide (t = []))) : stepB b ⟨5, n, t⟩ = none := by unfold stepB; dsimp only; rw [if_neg (by decide), if_neg (by decide), if_neg (by decide), if_neg (by decide), if_neg (by decide), if_pos rfl, if_neg (bare_f h)]
theorem st5_n (h : true = (decide (n = 0) && decide (t = []))) (hp : b.past.length = 0) : stepB b ⟨5, n, t⟩ = none := by
  rw [List.length_eq_zero_iff] at hp
  unfold stepB; dsimp only; rw [if_neg (by decide), if_neg (by decide), if_neg (by decide), if_neg (by decide), if_neg (by decide), if_pos rfl, if_pos (bare_t h), hp]; rfl
theorem st5_t {j : Nat} (h : true = (decide (n = 0) && decide (t = []))) (hp : b.past.length = j + 1) (hs : b.past[j]? = some s) : stepB b ⟨5, n, t⟩ = some ⟨b.k, b.x, b.y, (readE s).getD [], b.past.take j⟩ := by
  have h1 : b.past.getLast? = some s := by rw [List.getLast?_eq_getElem?, hp]; exact hs
  have h2 : b.past.dropLast = b.past.take j := by rw [List.dropLast_eq_take, hp]; rfl
  unfold stepB; dsimp only; rw [if_neg (by decide), if_neg (by decide), if_neg (by decide), if_neg (by decide), if_neg (by decide), if_pos rfl, if_pos (bare_t h), h1, h2]; rfl
theorem st6 {i : Int} (h0 : i ≠ 0) (h1 : i ≠ 1) (h2 : i ≠ 2) (h3 : i ≠ 3) (h4 : i ≠ 4) (h5 : i ≠ 5) : stepB b ⟨i, n, t⟩ = none := by unfold stepB; dsimp only; rw [if_neg h0, if_neg h1, if_neg h2, if_neg h3, if_neg h4, if_neg h5]
end
end Pl
end Go.Proofs.YtamhpgledbmnoaaGreatDoor
