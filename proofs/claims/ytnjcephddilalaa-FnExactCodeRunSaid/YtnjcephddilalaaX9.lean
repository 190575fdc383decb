/-
  The exact law of CodeRun.
  Conditions: none.
-/
import Derived.Test.YtnjcephddilalaaE7
import Derived.Test.YtnjcephddilalaaE8
import Derived.Test.YtnjcephddilalaaE15
import Derived.Deep.Slices
import Derived.Deep.Fields
import Derived.ChangeSame
namespace Go.Proofs.Ytnjcephddilalaa
set_option linter.unusedVariables false
set_option linter.unusedSimpArgs false
open Go.RowKit
section
open Go.ChangeShapes Go.WideShapes Go.Deep
variable {H : Type} {enc : TypeId × Value → H} {P : Program} {w : World} {base : Nat} {spare : Nat → Bool} {held : Bool}
theorem open_slice_fields {t e : TypeId} {fs : Array Field} {fuel : Nat} {cs : List Value} {x : DataW H × List MemPlace} (ht : P.underlying t = some (.slice e)) (he : P.underlying e = some (.struct fs))
    (hone : oneCellFields P fs = true) (hC : P.cellsOf e = fs.size) (h : DataW.trod enc P w base spare held fuel t cs = some x) :
    (cs = [.slice none 0 0] ∧ x = (.nil, [])) ∨
    ∃ (a : Addr) (len cap m : Nat) (D : Nat → DataW H) (Pl : Nat → List MemPlace), cs = [.slice (some a) len cap] ∧ base ≤ a.block ∧ len ≤ cap ∧ cap ≤ maxLen ∧ m = (if spare a.block then cap else len) ∧
      x = (.slice ((List.range len).map D) ((List.range (m - len)).map fun j => D (len + j)), MemPlace.row a (m * fs.size) ++ (List.range m).flatMap Pl) ∧
      ∀ i, i < m → ∃ (ys : List (DataW H × List MemPlace)) (n : Nat), D i = .agg (ys.map (·.1)) ∧ Pl i = ys.flatMap (·.2) ∧ ys.length = fs.size ∧
        ∀ (j : Nat) (f : Field), fs[j]? = some f → ∃ (v : Value) (y : DataW H × List MemPlace), w.cell? (a.add (i * fs.size + j)) = some v ∧ ys[j]? = some y ∧ DataW.trod enc P w base spare held n f.type [v] = some y := by
  rcases open_slice ht h with h0 | ⟨a, len, cap, m, n, D, Pl, hcs, hb, hl, hm, hmm, hx, hi⟩
  · exact .inl h0
  · refine .inr ⟨a, len, cap, m, D, Pl, hcs, hb, hl, hm, hmm, by rw [hC] at hx; exact hx, fun i him => ?_⟩
    obtain ⟨cs', hc, ht'⟩ := hi i him
    rw [hC] at hc
    obtain ⟨ys, n', hn', hy, hlen, hyl, hf⟩ := DataW.trod_struct he ht'
    obtain ⟨_, hcl, hat⟩ := World.cells?_some hc
    simp only [Prod.mk.injEq] at hy
    refine ⟨ys, n', hy.1, hy.2, hyl, fun j f hj => ?_⟩
    obtain ⟨ho, hk⟩ := hone_of hone j f hj
    have hjl : j < fs.size := (Array.getElem?_eq_some_iff.1 hj).1
    have hcell := hat j hjl
    have hv : cs'[j]? = some (cs'[j]'(by omega)) := List.getElem?_eq_getElem (by omega)
    have h1 := hf j f hj
    rw [ho, hk] at h1
    have hone' : (cs'.drop j).take 1 = [cs'[j]'(by omega)] := by
      rw [List.drop_eq_getElem_cons (by omega)]
      rfl
    rw [hone'] at h1
    have hys : ys[j]? = some (ys[j]'(by omega)) := List.getElem?_eq_getElem (by omega)
    refine ⟨_, _, ?_, hys, h1.trans hys⟩
    rw [← Go.Deep.add_add, hcell, hv]
end
/-- A slice of operations that came in: its cells are numbers. -/
def IsOps (w : World) (a : Option Addr) (len cap : Nat) : Prop :=
  (a = none ∧ len = 0) ∨ ∃ x, a = some x ∧ len ≤ maxLen ∧ ∀ i, i < len → ∃ p q r : Int, w.cell? (x.add (i * 3)) = some (.int .i64 p) ∧ w.cell? (x.add (i * 3 + 1)) = some (.int .i64 q) ∧ w.cell? (x.add (i * 3 + 2)) = some (.int .i64 r)
theorem add_plain (b off j : Nat) : (⟨b, off, none⟩ : Addr).add j = ⟨b, off + j, none⟩ := by
  unfold Addr.add
  split
  · rename_i h0; subst h0; rfl
  · rfl
/-- .. and it reads as a list of operations. -/
theorem ops_of_row {w : World} {a : Option Addr} {len cap : Nat} (h : IsOps w a len cap) : ∃ xs, RdI w w.heap.size a len xs := by
  rcases h with ⟨rfl, rfl⟩ | ⟨x, rfl, hm, hc⟩
  · exact ⟨[], RdI.zero⟩
  · rcases Nat.eq_zero_or_pos len with h0 | h0
    · subst h0
      exact ⟨[], RdI.zero⟩
    · obtain ⟨b, off, spot⟩ := x
      obtain ⟨p0, q0, r0, h1, _⟩ := hc 0 h0
      have hspot : spot = none := by simpa [Addr.add] using World.cell?_spot h1
      subst hspot
      have hc' : ∀ i, ∃ o : Pl.Op3, i < len → w.cell? ⟨b, off + i * 3, none⟩ = some (.int .i64 o.1) ∧ w.cell? ⟨b, off + i * 3 + 1, none⟩ = some (.int .i64 o.2.1) ∧ w.cell? ⟨b, off + i * 3 + 2, none⟩ = some (.int .i64 o.2.2) := by
        intro i
        by_cases hi : i < len
        · obtain ⟨p, q, r, g1, g2, g3⟩ := hc i hi
          rw [add_plain] at g1 g2 g3
          exact ⟨(p, q, r), fun _ => ⟨g1, g2, g3⟩⟩
        · exact ⟨(0, 0, 0), fun h => absurd h hi⟩
      refine ⟨(List.range len).map fun i => (hc' i).choose, by simp, .inr ⟨b, off, rfl, ?_, fun j c hj => ?_⟩⟩
      · have := World.block_lt_of_cell? w _ h1
        rwa [block_of_add] at this
      · have hjl : j < len := by
          have := (List.getElem?_eq_some_iff.1 hj).1
          simpa using this
        have e : c = (hc' j).choose := by
          rw [List.getElem?_map, List.getElem?_range hjl] at hj
          simpa using hj.symm
        rw [e]
        exact (hc' j).choose_spec hjl
theorem rdI_len {w : World} {B n : Nat} {A : Option Addr} {xs : List Pl.Op3} (h : RdI w B A n xs) : xs.length = n := h.1
theorem ownIns_n {base n : Nat} {xs : List Pl.Op3} {w w' : World} {e : Ending} (h : OwnIns base xs w e w') (hl : xs.length = n) :
    ∃ A c, e = .returned (.slice A n c) ∧ w'.ownsRow base 68 3 (.slice A n c) n (I3 xs) ∧ Below base w w' := by
  subst hl; exact h
set_option maxHeartbeats 2000000 in
theorem law_FnExactCodeRun (k : Int) (a0 : Option Addr) (len0 cap0 : Nat) (num x y : Int) (w : World) (wk : (Lit.int .i64 k).wf = true) (w0 : IsOps w a0 len0 cap0) (wn : (Lit.int .i64 num).wf = true) (wx : (Lit.int .i64 x).wf = true) (wy : (Lit.int .i64 y).wf = true) :
    Calls Try.prog 10 #[.int .i64 k, .slice a0 len0 cap0, .int .i64 num, .int .i64 x, .int .i64 y] w fun e w' => e = .returned (.bool true) ∧ Below w.heap.size w w' := by
  have hlen : len0 ≤ maxLen := by rcases w0 with ⟨_, h⟩ | ⟨_, _, h, _⟩ <;> first | exact h | (subst h; exact Nat.zero_le _)
  obtain ⟨xs, hr⟩ := ops_of_row w0
  clear w0
  have lx := rdI_len hr
  by_cases hbig : 1048576 < len0
  · have hbi : (1048576 : Int) - (len0 : Int) < 0 := by omega
    go_enter Try.func10, Try.ntmps10
    go_wp2_with fail
    refine (laws_szInsS_f a0 len0 cap0 _ hbig hlen).mono ?_
    rintro e w1 ⟨rfl, rfl⟩
    go_wp2_with fail
    go_ret
    exact ⟨rfl, Below.refl _ _⟩
  have cs := Lib.hid (fun A n c B w => spec_CodeRun k num x y A n c B xs w)
  have ci := Lib.hid (fun A n c B w => impl_CodeRun k num x y A n c B xs w)
  generalize Pl.codeRun k xs num x y = V at *
  have hVV : (V != V) = false := by simp
  have hneg : ¬ (1048576 : Int) - (len0 : Int) < 0 := by omega
  go_enter Try.func10, Try.ntmps10
  go_wp2_with fail
  refine (laws_szInsS_t a0 len0 cap0 _ (by omega)).mono ?_
  rintro e w1 ⟨rfl, rfl⟩
  go_wp2_with fail
  refine (laws_toInsS a0 len0 cap0 _ xs _ hr (Nat.le_refl _) (by omega)).mono ?_
  rintro e w1 hh
  obtain ⟨A1, c1, rfl, own1, HB1⟩ := ownIns_n hh lx
  clear hh
  have z1 := HB1.size
  go_wp2_with fail
  refine (cs.out _ _ _ _ _ (rdI_own own1) (Nat.le_refl _) (by omega)).mono ?_
  rintro e w2 ⟨rfl, hb2⟩
  have z2 := hb2.size
  have HB2 := below_step HB1 hb2 z1
  clear own1 hb2 HB1
  go_wp2_with fail
  refine (laws_toInsS a0 len0 cap0 _ xs _ (hr.below HB2) (by omega) (by omega)).mono ?_
  rintro e w3 hh
  obtain ⟨A3, c3, rfl, own3, hb3⟩ := ownIns_n hh lx
  have z3 := hb3.size
  have HB3 := below_step HB2 hb3 (by omega)
  clear hh hb3 HB2
  go_wp2_with fail
  refine (ci.out _ _ _ _ _ (rdI_own own3) (Nat.le_refl _) (by omega)).mono ?_
  rintro e w4 ⟨rfl, hb4⟩
  have z4 := hb4.size
  have HB4 := below_step HB3 hb4 (by omega)
  have own3' := own_below own3 hb4
  clear hb4 HB3 own3
  go_wp2_with fail
  refine (laws_toInsS a0 len0 cap0 _ xs _ (hr.below HB4) (by omega) (by omega)).mono ?_
  rintro e w5 hh
  obtain ⟨A5, c5, rfl, own5, hb5⟩ := ownIns_n hh lx
  have z5 := hb5.size
  have HB5 := below_step HB4 hb5 (by omega)
  have own3a := own_below own3' hb5
  clear hh hb5 HB4 own3'
  go_wp2_with fail
  refine (laws_eqInsS _ _ _ _ _ _ xs _ (rdI_own own3a) (rdI_own own5) (Nat.le_refl _) (by omega)).mono ?_
  rintro e w6 ⟨rfl, hb6⟩
  have HB6 := below_step HB5 hb6 (by omega)
  clear hb6 HB5 own3a own5
  go_wp2_with fail
  go_ret
  exact ⟨rfl, HB6⟩
end Go.Proofs.Ytnjcephddilalaa
