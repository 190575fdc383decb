/-
  How the laws mark a bench, and look whether the marks still stand.
  Conditions: as stated at each.
-/
import Derived.Test.YtamhpgledbmnoaaGreatM1
namespace Go.Proofs.YtamhpgledbmnoaaGreat
set_option linter.unusedVariables false
set_option linter.unusedSimpArgs false
open Go.RowKit
/-- What turned lies from block base on and below block hi, or is new. -/
def Mk (base hi : Nat) (w w' : World) : Prop := Below base w w' ∧ (∀ g, hi ≤ g → g < w.heap.size → w'.heap[g]? = w.heap[g]?) ∧ ∀ G t cs, t ≠ 3 → t ≠ 9 → Blk w G t cs → Blk w' G t cs
section
variable {w w' : World} {base hi g n c B : Nat} {t : TypeId} {cs : Array Value} {A : Option Addr} {xs : List Value}
theorem Mk.size (h : Mk base hi w w') : w.heap.size ≤ w'.heap.size := h.1.size
theorem Mk.blk_lo (h : Mk base hi w w') (hb : Blk w g t cs) (hg : g < base) : Blk w' g t cs := hb.below h.1 hg
theorem Mk.blk (h : Mk base hi w w') (hb : Blk w g t cs) (h1 : t ≠ 3) (h2 : t ≠ 9) : Blk w' g t cs := h.2.2 g t cs h1 h2 hb
theorem Mk.rd_lo (h : Mk base hi w w') (hr : Rd w B A n xs) (hB : B ≤ base) : Rd w' B A n xs := hr.below (h.1.mono hB)
theorem Mk.orow_hi (h : Mk base hi w w') (hr : ORow w B t A n c xs) (hB : hi ≤ B) : ORow w' B t A n c xs := hr.keep (fun b h1 h2 => h.2.1 b (by omega) h2)
theorem Mk.orow_lo (h : Mk base hi w w') (hr : ORow w B t A n c xs) (hl : ∀ k, (Value.slice A n c).ownBlock = some k → k < base) : ORow w' B t A n c xs := hr.below_lt hl h.1
end
set_option maxHeartbeats 2000000 in
theorem laws_markBenchO (W X Y : Int) (base hi k n c m d : Nat) (A P : Option Addr) (xs ys : List Value) (w : World) (o : ORow w base 3 A n c xs) (p : ORow w base 9 P m d ys)
    (hA : ∀ k, (Value.slice A n c).ownBlock = some k → k < hi) (hP : ∀ k, (Value.slice P m d).ownBlock = some k → k < hi) (hB : base ≤ w.heap.size) (hn : n ≤ 3000000) (hm : m ≤ 3000000) (hk0 : 1 ≤ k) (hk1 : k ≤ 1000000) :
    Calls Tryz.prog 13 #[benchV W X Y A n c P m d, .int .i64 k] w fun e w' => e = .returned (.int .i64 ((k + n + m : Nat) : Int)) ∧ ORow w' base 3 A n c (I64 (marks k n)) ∧ ORow w' base 9 P m d (Tx (mkTs (k + n) m)) ∧ Mk base hi w w' := by
  obtain ⟨q, hq⟩ : ∃ q, q = k + n := ⟨_, rfl⟩
  obtain ⟨r, hr⟩ : ∃ r, r = k + n + m := ⟨_, rfl⟩
  have CI := Lib.hid (fun w' h => laws_markIntO base n c k A xs w' h (by omega) (by omega))
  have CT := Lib.hid (fun w' h => laws_markTextO base m d q P ys w' h (by omega) (by omega) (by omega))
  rw [← hr]
  rw [← hq]
  rw [← hq] at CI
  have hqr : q + m = r := by omega
  rw [hqr] at CT
  clear hq hr hqr
  obtain ⟨w0, hw0⟩ : ∃ w0, w0 = w.alloc (.cells #[.int .i64 W, .int .i64 X, .int .i64 Y, .slice A n c, .slice P m d] 30) := ⟨_, rfl⟩
  have K0 : Blk w0 w.heap.size 30 #[.int .i64 W, .int .i64 X, .int .i64 Y, .slice A n c, .slice P m d] := by rw [hw0]; exact Blk.new w _ _
  have o0 : ORow w0 base 3 A n c xs := by rw [hw0]; exact o.alloc _
  have p0 : ORow w0 base 9 P m d ys := by rw [hw0]; exact p.alloc _
  have hb0 : Below base w w0 := by rw [hw0]; exact (Below.refl _ _).alloc hB _
  have hk : ∀ g, g < w.heap.size → w0.heap[g]? = w.heap[g]? := fun g hg => by rw [hw0]; exact Below.heap_alloc w _ g hg
  have hkk : ∀ G t cs, Blk w G t cs → Blk w0 G t cs := fun G t cs h => by rw [hw0]; exact h.alloc _
  have hz0 : w0.heap.size = w.heap.size + 1 := by rw [hw0]; simp
  have oA := o.lt
  have oP := p.lt
  unfold benchV
  go_enter Tryz.func13, Tryz.ntmps13
  go_wp2_with fail
  rw [← hw0]
  clear hw0
  refine (CI.out _ o0).mono ?_
  rintro e w1 ⟨rfl, o1, hg1⟩
  have K1 := K0.grown hg1 (fun e => by have := (oA _ e.symm).2; omega)
  have p1 := p0.grown_ne o0 (by decide) hg1
  have a4 : w1.cell? ⟨w.heap.size, 4, none⟩ = some (.slice P m d) := K1.cell 4
  have hb1 := hb0.grown hg1 (by omega) (fun k hk => (oA k hk).1)
  clear K0 K1
  go_wp2_with fail
  refine (CT.out _ p1).mono ?_
  rintro e w2 ⟨rfl, p2, hg2⟩
  have o2 := o1.grown_ne p1 (by decide) hg2
  go_wp2_with fail
  go_ret
  refine ⟨rfl, o2, p2, hb1.grown hg2 ?_ (fun k hk => (oP k hk).1), fun g h1 h2 => ?_, fun G t cs h1 h2 h3 => ((hkk G t cs h3).grown_ne o0 (Ne.symm h1) hg1).grown_ne p1 (Ne.symm h2) hg2⟩
  · have := hg1.size; omega
  · have := hg1.size
    exact ((hg2.block g (by omega) (fun e => by have := hP g e.symm; omega)).trans (hg1.block g (by omega) (fun e => by have := hA g e.symm; omega))).trans (hk g h2)
set_option maxHeartbeats 2000000 in
theorem laws_heldBenchO (W X Y : Int) (B k n c m d : Nat) (A P : Option Addr) (w : World) (o : Rd w B A n (I64 (marks k n))) (p : Rd w B P m (Tx (mkTs (k + n) m))) (hB : B ≤ w.heap.size) (hn : n ≤ 3000000) (hm : m ≤ 3000000) (hk0 : 1 ≤ k) (hk1 : k ≤ 1000000) :
    Calls Tryz.prog 14 #[benchV W X Y A n c P m d, .int .i64 k] w fun e w' => e = .returned (.int .i64 ((k + n + m : Nat) : Int)) ∧ Below w.heap.size w w' := by
  obtain ⟨q, hq⟩ : ∃ q, q = k + n := ⟨_, rfl⟩
  obtain ⟨r, hr⟩ : ∃ r, r = k + n + m := ⟨_, rfl⟩
  have CI := Lib.hid (fun w' h => laws_heldIntS A n c B k w' h (by omega) (by omega) (by omega))
  have CT := Lib.hid (fun w' h hb => laws_heldTextO P m d B q w' h hb (by omega) (by omega) (by omega))
  rw [← hr]
  rw [← hq] at p
  have hki : (k : Int) + (n : Int) = q := by omega
  rw [hki] at CI
  have hqr : q + m = r := by omega
  rw [hqr] at CT
  have q0 : ¬ (q : Int) < 0 := by omega
  have r0 : ¬ (r : Int) < 0 := by omega
  have HO := Lib.hid o
  have HP := Lib.hid p
  clear hq hr hqr hki o p
  unfold benchV
  go_enter Tryz.func14, Tryz.ntmps14
  go_wp2_with fail
  refine (CI.out _ (HO.out.alloc hB _)).mono ?_
  rintro e w1 ⟨rfl, rfl⟩
  go_wp2_with fail
  refine (CT.out _ (HP.out.alloc hB _) (by simp; omega)).mono ?_
  rintro e w2 ⟨rfl, hb2⟩
  have HB := Lib.hid (((Below.refl w.heap.size w).alloc (Nat.le_refl _) _).trans (hb2.mono (by simp)))
  go_wp2_with fail
  go_ret
  exact ⟨rfl, HB.out⟩
end Go.Proofs.YtamhpgledbmnoaaGreat
