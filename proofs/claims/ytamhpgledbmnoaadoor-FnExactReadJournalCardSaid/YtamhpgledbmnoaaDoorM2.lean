/-
  How the laws copy and weigh deeds.
  Conditions: as stated.
-/
import Derived.Test.YtamhpgledbmnoaaDoorO0
namespace Go.Proofs.YtamhpgledbmnoaaDoor
set_option linter.unusedVariables false
set_option linter.unusedSimpArgs false
open Go.RowKit
theorem load_deedx {w : World} {r : Nat} {v0 v1 v2 : Value} (h : Blk w r 26 #[v0, v1, v2]) : (loadVar 26 ⟨r, 0, none⟩).run Tryd.prog w = .ok (.agg #[v0, v1, v2]) w := by
  have c0 : w.cell? ⟨r, 0, none⟩ = some v0 := h.cell 0
  have c1 : w.cell? ⟨r, 1, none⟩ = some v1 := h.cell 1
  have c2 : w.cell? ⟨r, 2, none⟩ = some v2 := h.cell 2
  simp [go_sem, c0, c1, c2]
theorem results_cellx {P : Program} {fn : Func} {a : Tmp} {ty : TypeId} (h : fn.results = #[.cell a ty]) {tmps : Array Value} {w : World} {ad : Addr} {v : Value} (hp : tmps.getD a undef = .pointer (some ad)) (hl : (loadVar ty ad).run P w = .ok v w) :
    (results fn tmps).run P w = .ok v w := by
  simp only [results, h]
  rw [Array.getD_eq_getD_getElem?] at hp
  simp [hp, asAddr, hl]
/-- What is left of the measure behind a deed. -/
def szD (left : Int) (t : List UInt8) : Int := if left - (t.length : Int) < 0 then -1 else left - t.length
theorem szD_f {left : Int} {t : List UInt8} (h : ¬ szD left t < 0) : (t.length : Int) ≤ left := by
  unfold szD at h
  split at h <;> omega
set_option maxHeartbeats 1000000 in
theorem laws_szDeed (k n left : Int) (t : List UInt8) (w : World) (h0 : 0 ≤ left) (h1 : left ≤ 1048576) (ht : t.length ≤ maxLen) :
    Calls Tryd.prog 7 #[deedV k n t, .int .i64 left] w fun e w' => e = .returned (.int .i64 (szD left t)) ∧ Below w.heap.size w w' := by
  unfold maxLen at ht
  obtain ⟨r, hr⟩ : ∃ r, r = szD left t := ⟨_, rfl⟩
  have HR := Lib.hid hr
  obtain ⟨l, hl⟩ : ∃ l, l = t.length := ⟨_, rfl⟩
  unfold szD at hr
  rw [← hl] at hr
  have hsz : (Ba t).size = l := by rw [hl]; first | rfl | simp [Ba]
  have j1 : IntKind.i64.wrap (left - (l : Int)) = left - l := IntWalk.i64_in _ (by omega)
  rw [← HR.out]
  unfold deedV
  by_cases h : left - (l : Int) < 0
  · rw [if_pos h] at hr
    have hr := Lib.hid hr
    go_enter Tryd.func7, Tryd.ntmps7
    go_wp2_with fail
    go_ret
    exact ⟨ret_int (by first | rfl | rw [hr.out]), by go_grown⟩
  · rw [if_neg h] at hr
    have hr := Lib.hid hr
    go_enter Tryd.func7, Tryd.ntmps7
    go_wp2_with fail
    go_ret
    exact ⟨ret_int (by first | rfl | rw [hr.out]), by go_grown⟩
set_option maxHeartbeats 2000000 in
theorem laws_toDeed (k n : Int) (t : List UInt8) (w : World) :
    Calls Tryd.prog 9 #[deedV k n t] w fun e w' => e = .returned (deedV k n t) ∧ Below w.heap.size w w' := by
  unfold deedV
  go_enter Tryd.func9, Tryd.ntmps9
  go_wp2_with (with_reducible refine AtEnd.of ?_)
  obtain ⟨wf, hwf⟩ : ∃ wf, wf = ((w.alloc (.cells #[.int .i64 k, .int .i64 n, .string (Ba t)] 23)).alloc (.cells #[.int .i64 k, .int .i64 n, .string (Ba t)] 26)).alloc (.cells #[.int .i64 k, .int .i64 n, .string (Ba t)] 26) := ⟨_, rfl⟩
  have KF : Blk wf (w.heap.size + 1) 26 #[.int .i64 k, .int .i64 n, .string (Ba t)] := by
    rw [hwf]
    have := Blk.new (w.alloc (.cells #[.int .i64 k, .int .i64 n, .string (Ba t)] 23)) 26 #[.int .i64 k, .int .i64 n, .string (Ba t)]
    rw [World.size_alloc] at this
    exact this.alloc _
  have HB : Below w.heap.size w wf := by rw [hwf]; go_grown
  rw [← hwf]
  exact atEnd_ret (results_cellx Tryd.results9 rfl (load_deedx KF)) rfl ⟨rfl, HB⟩
end Go.Proofs.YtamhpgledbmnoaaDoor
