/-
  The exact law of ExprValid: for every list of numbers the program and the reference agree, and what was given is as it was.
  Conditions: none.
-/
import Derived.Test.YtpjikmnddkobfaaE1
namespace Go.Proofs.Ytpjikmnddkobfaa
set_option linter.unusedVariables false
set_option linter.unusedSimpArgs false
open Go.RowKit
/-- A slice of ints that came in reads as a list. -/
theorem ints_of_row {w : World} {a : Option Addr} {len cap : Nat} {zs : List Int} (h : IsRow .i64 w a len cap zs) :
    ∃ xs, Rd w w.heap.size a len (I64 xs) ∧ (∀ x ∈ xs, (Lit.int .i64 x).wf = true) := by
  rcases h with ⟨rfl, rfl, rfl, rfl⟩ | ⟨x, rfl, hl, hm, hz, hc, hw⟩
  · exact ⟨[], Rd.zero, fun z hz => by cases hz⟩
  · refine ⟨zs.take len, ⟨by simp [I64]; omega, ?_⟩, fun z hz => hw z (List.mem_of_mem_take hz)⟩
    rcases Nat.eq_zero_or_pos len with h0 | h0
    · exact .inl h0
    · obtain ⟨b, off, spot⟩ := x
      have h1 := hc 0 (by omega)
      have hspot : spot = none := by simpa [Addr.add] using World.cell?_spot h1
      subst hspot
      refine .inr ⟨b, off, rfl, ?_, fun j u hu => ?_⟩
      · have := World.block_lt_of_cell? w _ h1
        rwa [block_of_add] at this
      · have hj : j < len := by
          have := (List.getElem?_eq_some_iff.1 hu).1
          simp [I64] at this
          omega
        have h2 := hc j (by omega)
        have e : (⟨b, off, none⟩ : Addr).add j = ⟨b, off + j, none⟩ := by
          unfold Addr.add
          split
          · rename_i h0; subst h0; rfl
          · rfl
        rw [e] at h2
        rw [h2]
        have hx : (I64 (zs.take len))[j]? = some (.int .i64 (zs.getD j 0)) := by
          simp [I64, List.getElem?_take, hj]
          rw [List.getElem?_eq_getElem (by omega)]
          simp
        rw [hx] at hu
        exact hu
end Go.Proofs.Ytpjikmnddkobfaa
