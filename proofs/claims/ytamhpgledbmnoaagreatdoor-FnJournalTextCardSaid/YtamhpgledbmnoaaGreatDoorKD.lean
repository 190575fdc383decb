/-
  Contracts of the functions that draw words and expressions.
  Conditions: as stated at each.
-/
import Derived.Test.YtamhpgledbmnoaaGreatDoorKB
import Derived.Test.YtamhpgledbmnoaaGreatDoorKW
import Derived.Deep.Onto
namespace Go.Proofs.YtamhpgledbmnoaaGreatDoor
set_option linter.unusedVariables false
set_option linter.unusedSimpArgs false
open Go.RowKit

def U8 (zs : List Int) : List Value := zs.map (.int .u8)
/-- Block R is a reader that has picked at most N times: a code of at most 2000 bytes below R, and its place. -/
def Rdr (w : World) (R N : Nat) : Prop :=
  ∃ (A : Option Addr) (n c : Nat) (p : Int) (zs : List Int), Blk w R 71 #[.slice A n c, .int .i64 p] ∧ 0 ≤ p ∧ p ≤ N ∧ n ≤ 2000 ∧ Rd w R A n (U8 zs) ∧ ∀ z ∈ zs, 0 ≤ z ∧ z ≤ 255
theorem Rdr.more {w : World} {R N M : Nat} (h : Rdr w R N) (hM : N ≤ M) : Rdr w R M := by
  obtain ⟨A, n, c, p, zs, h1, h2, h3, h4⟩ := h
  exact ⟨A, n, c, p, zs, h1, h2, by omega, h4⟩
theorem Rdr.lt {w : World} {R N : Nat} (h : Rdr w R N) : R < w.heap.size := by
  obtain ⟨A, n, c, p, zs, h1, _⟩ := h
  exact h1.lt
theorem Rdr.below {w w' : World} {R N B : Nat} (h : Rdr w R N) (hb : Below B w w') (hR : R < B) : Rdr w' R N := by
  obtain ⟨A, n, c, p, zs, h1, h2, h3, h4, h5, h6⟩ := h
  exact ⟨A, n, c, p, zs, h1.below hb hR, h2, h3, h4, h5.keep fun q hq => hb.cell (p := q) (by omega), h6⟩
theorem Rdr.drewN {w : World} {R N : Nat} (h : Rdr w R N) (q : Nat) : Rdr (w.drewN q) R N := h

/-- What was drawn lies in its range. -/
def InR (n v : Int) : Prop := (n < 1 → v = 0) ∧ (1 ≤ n → 0 ≤ v ∧ v < n)
def Picked (n : Int) (R N : Nat) (w : World) (e : Ending) (w' : World) : Prop :=
  ∃ v, e = .returned (.int .i64 v) ∧ InR n v ∧ Rdr w' R (N + 1) ∧ w.grownBy w' (some R)

theorem only_drewN {a w : World} {row : Option Nat} (h : a.grownBy w row) (n : Nat) : a.grownBy (w.drewN n) row := ⟨h.os, h.tape, h.output, h.size, h.block⟩
theorem only_of_below {a w : World} (h : Below a.heap.size a w) (row : Option Nat) : a.grownBy w row := ⟨h.os, h.tape, h.output, h.size, fun i hi _ => h.block i hi⟩
theorem only_setCell {w : World} {g o : Nat} (u : Value) : w.grownBy (w.setCell ⟨g, o, none⟩ u) (some g) :=
  ⟨rfl, rfl, rfl, by simp [World.setCell], fun i hi hne => Below.heap_setCell w ⟨g, o, none⟩ u i (by rintro rfl; exact hne rfl)⟩

theorem mod_in {n x : Int} (hn : 1 ≤ n) : InR n (x % n) := ⟨fun h => absurd h (by omega), fun _ => ⟨Int.emod_nonneg _ (by omega), Int.emod_lt_of_pos _ (by omega)⟩⟩
theorem xor_in {n x : Int} (hn : 1 ≤ n) (h0 : 0 ≤ x) (h1 : x < 4611686018427387904) : InR n ((bits .xor .i64 x (x / 64)).tmod n) := by
  rw [Pl.i64_xor x (x / 64) h0 (by omega) (by omega) (by omega), Int.tmod_eq_emod_of_nonneg (Pl.lxor_nonneg _ _)]
  exact mod_in hn
theorem U8_get {zs : List Int} {n i : Nat} (h : (U8 zs).length = n) (hi : i < n) : ∃ z, zs[i]? = some z ∧ (U8 zs)[i]? = some (.int .u8 z) := by
  have hl : i < zs.length := by simp [U8] at h; omega
  exact ⟨zs[i], List.getElem?_eq_getElem hl, by simp [U8, hl]⟩

set_option maxHeartbeats 1000000 in
set_option maxRecDepth 100000 in
theorem spec_pick (R N : Nat) (n : Int) (w : World) (h : Rdr w R N) (hN : N ≤ 1000000) (hn : n ≤ 1000000000) :
    Calls Tryz.prog 32 #[.pointer (some ⟨R, 0, none⟩), .int .i64 n] w (Picked n R N w) := by
  obtain ⟨A, m, c, p, zs, hb, hp0, hp1, hm, hr, hz⟩ := h
  have c0 : w.cell? ⟨R, 0, none⟩ = some (.slice A m c) := by rw [hb.cell]; rfl
  have c1 : w.cell? ⟨R, 1, none⟩ = some (.int .i64 p) := by rw [hb.cell]; rfl
  have f1 : w.frozen? ⟨R, 1, none⟩ = false := hb.frozen 1
  have hb2 : Blk (w.setCell ⟨R, 1, none⟩ (.int .i64 (p + 1))) R 71 #[.slice A m c, .int .i64 (p + 1)] := hb.set_ 1 _
  have hr2 : Rd (w.setCell ⟨R, 1, none⟩ (.int .i64 (p + 1))) R A m (U8 zs) := hr.keep fun q hq => World.cell?_setCell_other w _ q _ (fun e => by subst e; exact absurd hq (Nat.lt_irrefl _))
  have hend : Rdr (w.setCell ⟨R, 1, none⟩ (.int .i64 (p + 1))) R (N + 1) := ⟨A, m, c, p + 1, zs, hb2, by omega, by omega, hm, hr2, hz⟩
  have HE := Lib.hid hend
  have HR := Lib.hid hr2
  have HZ := Lib.hid hz
  have d0 : (w.setCell ⟨R, 1, none⟩ (.int .i64 (p + 1))).cell? ⟨R, 0, none⟩ = some (.slice A m c) := by rw [hb2.cell]; rfl
  have d1 : (w.setCell ⟨R, 1, none⟩ (.int .i64 (p + 1))).cell? ⟨R, 1, none⟩ = some (.int .i64 (p + 1)) := by rw [hb2.cell]; rfl
  clear hend hr2 hz hb hb2 hr
  by_cases h1 : n < 1
  · have HI : Hid (InR n 0) := Lib.hid ⟨fun _ => rfl, fun h => absurd h (by omega)⟩
    go_enter Tryz.func32, Tryz.ntmps32
    go_wp2
    go_ret
    exact ⟨0, rfl, HI.out, HE.out, only_setCell _⟩
  · rcases Nat.eq_zero_or_pos m with h0 | h0
    · subst h0
      have HI : Hid (InR n 0) := Lib.hid ⟨fun _ => rfl, fun _ => by omega⟩
      go_enter Tryz.func32, Tryz.ntmps32
      go_wp2
      go_ret
      exact ⟨0, rfl, HI.out, HE.out, only_setCell _⟩
    · obtain ⟨b, off, rfl, hbR, hc⟩ := HR.out.pos h0
      have hl := HR.out.len
      have HL := Lib.hid hl
      have HC := Lib.hid hc
      clear hl hc
      have hm0 : ((m : Int) == 0) = false := by simp; omega
      by_cases hlt : p < m
      · obtain ⟨i, rfl⟩ := Int.eq_ofNat_of_zero_le hp0
        obtain ⟨z, e1, e2⟩ := U8_get HL.out (show i < m by omega)
        have hzz := HZ.out z (List.mem_of_getElem? e1)
        have x1 : (w.setCell ⟨R, 1, none⟩ (.int .i64 ((i : Int) + 1))).cell? ⟨b, off + i, none⟩ = some (.int .u8 z) := HC.out i _ e2
        clear e1 e2
        have HI := Lib.hid (mod_in (n := n) (x := z) (by omega))
        go_enter Tryz.func32, Tryz.ntmps32
        go_wp2
        go_ret
        exact ⟨_, rfl, HI.out, HE.out, only_setCell _⟩
      · obtain ⟨i, rfl⟩ := Int.eq_ofNat_of_zero_le hp0
        obtain ⟨y, e1, e2⟩ := U8_get HL.out (show i % m < m from Nat.mod_lt _ h0)
        have hyy := HZ.out y (List.mem_of_getElem? e1)
        have x1 : (w.setCell ⟨R, 1, none⟩ (.int .i64 ((i : Int) + 1))).cell? ⟨b, off + i % m, none⟩ = some (.int .u8 y) := HC.out _ _ e2
        clear e1 e2
        obtain ⟨z, e1, e2⟩ := U8_get HL.out (show (i * 7 + 3) % m < m from Nat.mod_lt _ h0)
        have hzz := HZ.out z (List.mem_of_getElem? e1)
        have x2 : (w.setCell ⟨R, 1, none⟩ (.int .i64 ((i : Int) + 1))).cell? ⟨b, off + (i * 7 + 3) % m, none⟩ = some (.int .u8 z) := HC.out _ _ e2
        clear e1 e2
        have hmp : (0 : Int) < m := by omega
        have a1 : 0 ≤ (i : Int) % m := Int.emod_nonneg _ (by omega)
        have a2 : (i : Int) % m < m := Int.emod_lt_of_pos _ hmp
        have a3 : 0 ≤ ((i : Int) * 7 + 3) % m := Int.emod_nonneg _ (by omega)
        have a4 : ((i : Int) * 7 + 3) % m < m := Int.emod_lt_of_pos _ hmp
        have a5 : 0 ≤ (i : Int) / m := Int.ediv_nonneg (by omega) (by omega)
        have a6 : (i : Int) / m ≤ i := Int.ediv_le_self _ (by omega)
        have hmne : ¬ (m : Int) = 0 := by omega
        go_enter Tryz.func32, Tryz.ntmps32
        go_wp2_with fail
        go_quiet (fail)
        go_wp2
        go_ret
        exact ⟨_, rfl, xor_in (by omega) (by omega) (by omega), HE.out.drewN _, only_drewN (only_setCell _) _⟩

/-- A code that came in, as the reader takes it. -/
def Code8 (w : World) (a : Option Addr) (n : Nat) : Prop := ∃ zs : List Int, Rd w w.heap.size a n (U8 zs) ∧ ∀ z ∈ zs, 0 ≤ z ∧ z ≤ 255
theorem code_of_row {w : World} {a : Option Addr} {len cap : Nat} {zs : List Int} (h : IsRow .u8 w a len cap zs) : Code8 w a len ∧ len ≤ cap ∧ cap ≤ maxLen := by
  rcases h with ⟨rfl, rfl, rfl, rfl⟩ | ⟨x, rfl, hl, hm, hz, hc, hw⟩
  · exact ⟨⟨[], Rd.zero, fun z hz => by cases hz⟩, Nat.le_refl _, by simp [maxLen]⟩
  · have hu : ∀ z ∈ zs, 0 ≤ z ∧ z ≤ 255 := fun z hz => by
      have := bounds_u8 (hw z hz)
      omega
    refine ⟨⟨zs.take len, ⟨by simp [U8]; omega, ?_⟩, fun z hz => hu z (List.mem_of_mem_take hz)⟩, hl, hm⟩
    rcases Nat.eq_zero_or_pos len with h0 | h0
    · exact .inl h0
    · obtain ⟨b, off, spot⟩ := x
      have h1 := hc 0 (by omega)
      have hspot : spot = none := by simpa [Addr.add] using World.cell?_spot h1
      subst hspot
      refine .inr ⟨b, off, rfl, ?_, fun j u hu => ?_⟩
      · have := World.block_lt_of_cell? w _ h1
        rwa [block_of_add] at this
      · have hj : j < len := by
          have := (List.getElem?_eq_some_iff.1 hu).1
          simp [U8] at this
          omega
        have h2 := hc j (by omega)
        have e : (⟨b, off, none⟩ : Addr).add j = ⟨b, off + j, none⟩ := by
          unfold Addr.add
          split
          · rename_i h0; subst h0; rfl
          · rfl
        rw [e] at h2
        rw [h2]
        have hx : (U8 (zs.take len))[j]? = some (.int .u8 (zs.getD j 0)) := by
          simp [U8, List.getElem?_take, hj]
          rw [List.getElem?_eq_getElem (by omega)]
          simp
        rw [hx] at hu
        exact hu
theorem Code8.take {w : World} {a : Option Addr} {n : Nat} (h : Code8 w a n) {m : Nat} (hm : m ≤ n) : Code8 w a m := by
  obtain ⟨zs, h1, h2⟩ := h
  refine ⟨zs.take m, ⟨?_, ?_⟩, fun z hz => h2 z (List.mem_of_mem_take hz)⟩
  · have := h1.len
    simp [U8] at this ⊢
    omega
  · rcases Nat.eq_zero_or_pos m with h0 | h0
    · exact .inl h0
    · obtain ⟨b, off, rfl, hb, hc⟩ := h1.pos (by omega)
      refine .inr ⟨b, off, rfl, hb, fun j u hu => hc j u ?_⟩
      have hj : j < m := by
        have := (List.getElem?_eq_some_iff.1 hu).1
        simp [U8] at this
        omega
      simpa [U8, List.getElem?_take, hj] using hu
/-- The reader as it is opened. -/
def Opened (w : World) (e : Ending) (w' : World) : Prop := ∃ R, e = .returned (.pointer (some ⟨R, 0, none⟩)) ∧ w.heap.size ≤ R ∧ Rdr w' R 0 ∧ Below w.heap.size w w'
set_option maxHeartbeats 400000 in
theorem spec_l20Open (a : Option Addr) (n c : Nat) (w : World) (h : Code8 w a n) (hc : n ≤ c) (hm : c ≤ maxLen) :
    Calls Tryz.prog 18 #[.slice a n c] w (Opened w) := by
  unfold maxLen at hm
  by_cases hn : 2000 < n
  · obtain ⟨zs, h1, h2⟩ := h.take (m := 2000) (by omega)
    have HZ := Lib.hid h2
    clear h2 h
    have hn' : (2000 : Int) < n := by omega
    go_enter Tryz.func18, Tryz.ntmps18
    go_wp2
    go_ret
    exact ⟨_, rfl, Nat.le_refl _, ⟨a, 2000, c, 0, zs, Blk.new _ _ _, by omega, by omega, by omega, h1.alloc (Nat.le_refl _) _, HZ.out⟩, by go_grown⟩
  · obtain ⟨zs, h1, h2⟩ := h
    have HZ := Lib.hid h2
    clear h2
    have hn' : ¬ (2000 : Int) < n := by omega
    go_enter Tryz.func18, Tryz.ntmps18
    go_wp2
    go_ret
    exact ⟨_, rfl, Nat.le_refl _, ⟨a, n, c, 0, zs, Blk.new _ _ _, by omega, by omega, by omega, h1.alloc (Nat.le_refl _) _, HZ.out⟩, by go_grown⟩

/-- Whether one of n is met. -/
def OddOf (n : Int) (R N : Nat) (w : World) (e : Ending) (w' : World) : Prop := ∃ b, e = .returned (.bool b) ∧ (b = true → 0 < n) ∧ Rdr w' R (N + 1) ∧ w.grownBy w' (some R)
set_option maxHeartbeats 400000 in
theorem spec_odd (R N : Nat) (n : Int) (w : World) (h : Rdr w R N) (hN : N ≤ 1000000) (hn : n ≤ 1000000000) :
    Calls Tryz.prog 36 #[.pointer (some ⟨R, 0, none⟩), .int .i64 n] w (OddOf n R N w) := by
  by_cases h0 : 0 < n
  · go_enter Tryz.func36, Tryz.ntmps36
    go_wp2_with fail
    refine (spec_pick R N n _ h hN hn).mono ?_
    rintro e w1 ⟨v, rfl, hv, hr, hg⟩
    go_wp2
    go_ret
    exact ⟨_, rfl, fun _ => h0, hr, hg⟩
  · go_enter Tryz.func36, Tryz.ntmps36
    go_wp2
    go_ret
    exact ⟨false, rfl, (fun hf => by cases hf), Rdr.more h (by omega), World.grownBy.refl w _⟩
end Go.Proofs.YtamhpgledbmnoaaGreatDoor
namespace Go.Proofs.YtamhpgledbmnoaaGreatDoor
set_option linter.unusedVariables false
set_option linter.unusedSimpArgs false
open Go.RowKit

def Drawn (lo hi : Int) (R N : Nat) (w : World) (e : Ending) (w' : World) : Prop :=
  ∃ v, e = .returned (.int .i64 v) ∧ lo ≤ v ∧ v ≤ hi ∧ Rdr w' R N ∧ w.grownBy w' (some R)
theorem Rdr.alloc {w : World} {R N : Nat} (h : Rdr w R N) (o : Obj) : Rdr (w.alloc o) R N := h.below ((Below.refl w.heap.size _).alloc (Nat.le_refl _) o) h.lt
theorem grown_alloc {w w' w2 : World} {R : Nat} {o : Obj} (h : w.grownBy w' (some R)) (h2 : (w'.alloc o).grownBy w2 (some R)) : w.grownBy w2 (some R) :=
  h.trans ((World.grownBy_alloc w' o (some R)).trans h2)
/-- A list of numbers that was just made, indexed by what was picked. -/
theorem pick_cell {W w2 : World} {R : Nat} {T : TypeId} (xs : List Int) (hR : R < W.heap.size) (hg : (W.alloc (.cells (I64 xs).toArray T)).grownBy w2 (some R)) {n v : Int} (hv : InR n v) (hn : n = xs.length) (h1 : 1 ≤ n) :
    0 ≤ v ∧ v < n ∧ ∃ x, x ∈ xs ∧ w2.cell? ⟨W.heap.size, v.toNat, none⟩ = some (.int .i64 x) := by
  obtain ⟨h2, h3⟩ := hv.2 h1
  refine ⟨h2, h3, xs[v.toNat]'(by omega), List.getElem_mem _, ?_⟩
  have hb : w2.heap[W.heap.size]? = some (.cells (I64 xs).toArray T (0, 0)) := by
    rw [hg.block W.heap.size (by simp) (by simp; omega)]
    exact heap_alloc_new W _
  rw [cell_of_row w2 _ _ _ _ _ hb]
  simp [I64, show v.toNat < xs.length by omega]

set_option maxHeartbeats 1000000 in
theorem spec_l20Width (R N : Nat) (n : Int) (w : World) (h : Rdr w R N) (hN : N ≤ 900000) (hn : n ≤ 1000000) :
    Calls Tryz.prog 43 #[.pointer (some ⟨R, 0, none⟩), .int .i64 n] w (Drawn (-1) 13 R (N + 2) w) := by
  go_enter Tryz.func43, Tryz.ntmps43
  go_wp2_with fail
  refine (spec_odd R N n _ h (by omega) (by omega)).mono ?_
  rintro e w1 ⟨b, rfl, hbn, hr, hg⟩
  have hlt := hr.lt
  clear hbn
  cases b
  · go_wp2_with fail
    refine (spec_pick R (N + 1) 12 _ (hr.alloc _) (by omega) (by omega)).mono ?_
    rintro e w2 ⟨v, rfl, hv, hr2, hg2⟩
    obtain ⟨h1, h2, x, hx, hc⟩ := pick_cell [1, 2, 3, 4, 5, 6, 7, 8, 8, 8, 10, 12] hlt hg2 hv rfl (by omega)
    have hx' : 1 ≤ x ∧ x ≤ 12 := by simp at hx; omega
    have HG := Lib.hid (grown_alloc hg hg2)
    clear hx hg hg2 hv
    go_wp2
    go_ret
    exact ⟨_, rfl, by omega, by omega, hr2, HG.out⟩
  · go_wp2_with fail
    refine (spec_pick R (N + 1) 3 _ (hr.alloc _) (by omega) (by omega)).mono ?_
    rintro e w2 ⟨v, rfl, hv, hr2, hg2⟩
    obtain ⟨h1, h2, x, hx, hc⟩ := pick_cell [0, -1, 13] hlt hg2 hv rfl (by omega)
    have hx' : -1 ≤ x ∧ x ≤ 13 := by simp at hx; omega
    have HG := Lib.hid (grown_alloc hg hg2)
    clear hx hg hg2 hv
    go_wp2
    go_ret
    exact ⟨_, rfl, by omega, by omega, hr2, HG.out⟩
set_option maxHeartbeats 1000000 in
theorem spec_l20Word_lo (R N : Nat) (k n : Int) (w : World) (h : Rdr w R N) (hN : N ≤ 900000) (hn : n ≤ 1000000) (lo : Int) (hlo : lo ≤ -1 ∨ lo ≤ 0 ∧ n ≤ 0) (hk : k < 1) :
    Calls Tryz.prog 39 #[.pointer (some ⟨R, 0, none⟩), .int .i64 k, .int .i64 n] w (Drawn lo 4096 R (N + 4) w) := by
  go_enter Tryz.func39, Tryz.ntmps39
  go_wp2_with fail
  refine (spec_odd R N n _ h (by omega) (by omega)).mono ?_
  rintro e w1 ⟨b, rfl, hbn, hr, hg⟩
  have hlt := hr.lt
  cases b
  · clear hbn
    go_wp2_with fail
    refine (spec_pick R (N + 1) 6 _ hr (by omega) (by omega)).mono ?_
    rintro e w2 ⟨v, rfl, hv, hr2, hg2⟩
    have hlt2 := hr2.lt
    have hg3 := hg.trans hg2
    have HG3 := Lib.hid hg3
    clear hg hg2 hg3 hv
    by_cases hv0 : v = 0
    · subst hv0
      go_wp2_with fail
      refine (spec_pick R (N + 2) 5 _ (hr2.alloc _) (by omega) (by omega)).mono ?_
      rintro e w3 ⟨u, rfl, hu, hr3, hg3⟩
      obtain ⟨h1, h2, x, hx, hc⟩ := pick_cell [0, 1, 1, 0, 1] hlt2 hg3 hu rfl (by omega)
      have hx' : 0 ≤ x ∧ x ≤ 4096 := by simp at hx; omega
      have hx0 : 0 ≤ x := hx'.1
      have hm0 : 0 ≤ x % 2 := Int.emod_nonneg _ (by omega)
      have hm1 : x % 2 < 2 := Int.emod_lt_of_pos _ (by omega)
      have HG := Lib.hid (grown_alloc HG3.out hg3)
      clear hx hg3 hu
      go_wp2
      go_ret
      exact ⟨_, rfl, by omega, by omega, hr3.more (by omega), HG.out⟩
    · have hb : (v == 0) = false := by simpa using hv0
      clear hv0
      go_wp2_with fail
      refine (spec_pick R (N + 2) 256 _ hr2 (by omega) (by omega)).mono ?_
      rintro e w3 ⟨u, rfl, hu, hr3, hg3⟩
      obtain ⟨u0, u1⟩ := hu.2 (by omega)
      clear hu
      go_wp2_with fail
      refine (spec_pick R (N + 3) 16 _ hr3 (by omega) (by omega)).mono ?_
      rintro e w4 ⟨t, rfl, ht, hr4, hg4⟩
      obtain ⟨t0, t1⟩ := ht.2 (by omega)
      have HG := Lib.hid (HG3.out.trans (hg3.trans hg4))
      clear ht hg3 hg4
      have hm0 : 0 ≤ (u * 16 + t) % 2 := Int.emod_nonneg _ (by omega)
      have hm1 : (u * 16 + t) % 2 < 2 := Int.emod_lt_of_pos _ (by omega)
      go_wp2
      go_ret
      exact ⟨_, rfl, by omega, by omega, hr4, HG.out⟩
  · have hn0 : 0 < n := hbn rfl
    clear hbn
    go_wp2_with fail
    refine (spec_pick R (N + 1) 2 _ (hr.alloc _) (by omega) (by omega)).mono ?_
    rintro e w2 ⟨v, rfl, hv, hr2, hg2⟩
    obtain ⟨h1, h2, x, hx, hc⟩ := pick_cell [-1, 2] hlt hg2 hv rfl (by omega)
    have hx' : -1 ≤ x ∧ x ≤ 4096 := by simp at hx; omega
    have HG := Lib.hid (grown_alloc hg hg2)
    clear hx hg hg2 hv
    go_wp2
    go_ret
    exact ⟨_, rfl, by omega, by omega, hr2.more (by omega), HG.out⟩
set_option maxHeartbeats 1000000 in
theorem spec_l20Word_hi (R N : Nat) (k n : Int) (w : World) (h : Rdr w R N) (hN : N ≤ 900000) (hn : n ≤ 1000000) (lo : Int) (hlo : lo ≤ -1 ∨ lo ≤ 0 ∧ n ≤ 0) (hk : 12 < k) :
    Calls Tryz.prog 39 #[.pointer (some ⟨R, 0, none⟩), .int .i64 k, .int .i64 n] w (Drawn lo 4096 R (N + 4) w) := by
  go_enter Tryz.func39, Tryz.ntmps39
  go_wp2_with fail
  refine (spec_odd R N n _ h (by omega) (by omega)).mono ?_
  rintro e w1 ⟨b, rfl, hbn, hr, hg⟩
  have hlt := hr.lt
  cases b
  · clear hbn
    go_wp2_with fail
    refine (spec_pick R (N + 1) 6 _ hr (by omega) (by omega)).mono ?_
    rintro e w2 ⟨v, rfl, hv, hr2, hg2⟩
    have hlt2 := hr2.lt
    have hg3 := hg.trans hg2
    have HG3 := Lib.hid hg3
    clear hg hg2 hg3 hv
    by_cases hv0 : v = 0
    · subst hv0
      go_wp2_with fail
      refine (spec_pick R (N + 2) 5 _ (hr2.alloc _) (by omega) (by omega)).mono ?_
      rintro e w3 ⟨u, rfl, hu, hr3, hg3⟩
      obtain ⟨h1, h2, x, hx, hc⟩ := pick_cell [0, 4095, 2048, 2047, 1] hlt2 hg3 hu rfl (by omega)
      have hx' : 0 ≤ x ∧ x ≤ 4096 := by simp at hx; omega
      have hx0 : 0 ≤ x := hx'.1
      have hm0 : 0 ≤ x % 4096 := Int.emod_nonneg _ (by omega)
      have hm1 : x % 4096 < 4096 := Int.emod_lt_of_pos _ (by omega)
      have HG := Lib.hid (grown_alloc HG3.out hg3)
      clear hx hg3 hu
      go_wp2
      go_ret
      exact ⟨_, rfl, by omega, by omega, hr3.more (by omega), HG.out⟩
    · have hb : (v == 0) = false := by simpa using hv0
      clear hv0
      go_wp2_with fail
      refine (spec_pick R (N + 2) 256 _ hr2 (by omega) (by omega)).mono ?_
      rintro e w3 ⟨u, rfl, hu, hr3, hg3⟩
      obtain ⟨u0, u1⟩ := hu.2 (by omega)
      clear hu
      go_wp2_with fail
      refine (spec_pick R (N + 3) 16 _ hr3 (by omega) (by omega)).mono ?_
      rintro e w4 ⟨t, rfl, ht, hr4, hg4⟩
      obtain ⟨t0, t1⟩ := ht.2 (by omega)
      have HG := Lib.hid (HG3.out.trans (hg3.trans hg4))
      clear ht hg3 hg4
      have hm0 : 0 ≤ (u * 16 + t) % 4096 := Int.emod_nonneg _ (by omega)
      have hm1 : (u * 16 + t) % 4096 < 4096 := Int.emod_lt_of_pos _ (by omega)
      go_wp2
      go_ret
      exact ⟨_, rfl, by omega, by omega, hr4, HG.out⟩
  · have hn0 : 0 < n := hbn rfl
    clear hbn
    go_wp2_with fail
    refine (spec_pick R (N + 1) 2 _ (hr.alloc _) (by omega) (by omega)).mono ?_
    rintro e w2 ⟨v, rfl, hv, hr2, hg2⟩
    obtain ⟨h1, h2, x, hx, hc⟩ := pick_cell [-1, 4096] hlt hg2 hv rfl (by omega)
    have hx' : -1 ≤ x ∧ x ≤ 4096 := by simp at hx; omega
    have HG := Lib.hid (grown_alloc hg hg2)
    clear hx hg hg2 hv
    go_wp2
    go_ret
    exact ⟨_, rfl, by omega, by omega, hr2.more (by omega), HG.out⟩
set_option maxHeartbeats 1000000 in
theorem spec_l20Word_in (R N : Nat) (k n : Int) (w : World) (h : Rdr w R N) (hN : N ≤ 900000) (hn : n ≤ 1000000) (lo : Int) (hlo : lo ≤ -1 ∨ lo ≤ 0 ∧ n ≤ 0) (hk : 1 ≤ k) (hk2 : k ≤ 12) :
    Calls Tryz.prog 39 #[.pointer (some ⟨R, 0, none⟩), .int .i64 k, .int .i64 n] w (Drawn lo 4096 R (N + 4) w) := by
  have he := Pl.wrap_pw k (by omega) (by omega)
  have hp := Pl.pw_lt k hk2
  have hp0 := Pl.pw_le 1 k hk
  have hp1 : Pl.pw 1 = 2 := by decide
  rw [hp1] at hp0
  clear hp1
  go_enter Tryz.func39, Tryz.ntmps39
  go_wp2_with fail
  refine (spec_odd R N n _ h (by omega) (by omega)).mono ?_
  rintro e w1 ⟨b, rfl, hbn, hr, hg⟩
  have hlt := hr.lt
  cases b
  · clear hbn
    go_wp2_with fail
    refine (spec_pick R (N + 1) 6 _ hr (by omega) (by omega)).mono ?_
    rintro e w2 ⟨v, rfl, hv, hr2, hg2⟩
    have hlt2 := hr2.lt
    have hg3 := hg.trans hg2
    have HG3 := Lib.hid hg3
    clear hg hg2 hg3 hv
    by_cases hv0 : v = 0
    · subst hv0
      go_wp2_with fail
      refine (spec_pick R (N + 2) 5 _ (hr2.alloc _) (by omega) (by omega)).mono ?_
      rintro e w3 ⟨u, rfl, hu, hr3, hg3⟩
      obtain ⟨h1, h2, x, hx, hc⟩ := pick_cell [0, Pl.pw k - 1, Pl.pw k / 2, Pl.pw k / 2 - 1, 1] hlt2 hg3 hu rfl (by omega)
      have hx' : 0 ≤ x ∧ x ≤ 4096 := by simp at hx; omega
      have hx0 : 0 ≤ x := hx'.1
      have hm0 : 0 ≤ x % Pl.pw k := Int.emod_nonneg _ (by omega)
      have hm1 : x % Pl.pw k < Pl.pw k := Int.emod_lt_of_pos _ (by omega)
      have HG := Lib.hid (grown_alloc HG3.out hg3)
      clear hx hg3 hu
      go_wp2
      go_ret
      exact ⟨_, rfl, by omega, by omega, hr3.more (by omega), HG.out⟩
    · have hb : (v == 0) = false := by simpa using hv0
      clear hv0
      go_wp2_with fail
      refine (spec_pick R (N + 2) 256 _ hr2 (by omega) (by omega)).mono ?_
      rintro e w3 ⟨u, rfl, hu, hr3, hg3⟩
      obtain ⟨u0, u1⟩ := hu.2 (by omega)
      clear hu
      go_wp2_with fail
      refine (spec_pick R (N + 3) 16 _ hr3 (by omega) (by omega)).mono ?_
      rintro e w4 ⟨t, rfl, ht, hr4, hg4⟩
      obtain ⟨t0, t1⟩ := ht.2 (by omega)
      have HG := Lib.hid (HG3.out.trans (hg3.trans hg4))
      clear ht hg3 hg4
      have hm0 : 0 ≤ (u * 16 + t) % Pl.pw k := Int.emod_nonneg _ (by omega)
      have hm1 : (u * 16 + t) % Pl.pw k < Pl.pw k := Int.emod_lt_of_pos _ (by omega)
      go_wp2
      go_ret
      exact ⟨_, rfl, by omega, by omega, hr4, HG.out⟩
  · have hn0 : 0 < n := hbn rfl
    clear hbn
    go_wp2_with fail
    refine (spec_pick R (N + 1) 2 _ (hr.alloc _) (by omega) (by omega)).mono ?_
    rintro e w2 ⟨v, rfl, hv, hr2, hg2⟩
    obtain ⟨h1, h2, x, hx, hc⟩ := pick_cell [-1, Pl.pw k] hlt hg2 hv rfl (by omega)
    have hx' : -1 ≤ x ∧ x ≤ 4096 := by simp at hx; omega
    have HG := Lib.hid (grown_alloc hg hg2)
    clear hx hg hg2 hv
    go_wp2
    go_ret
    exact ⟨_, rfl, by omega, by omega, hr2.more (by omega), HG.out⟩
theorem spec_l20WordL (R N : Nat) (k n : Int) (w : World) (h : Rdr w R N) (hN : N ≤ 900000) (hn : n ≤ 1000000) (lo : Int) (hlo : lo ≤ -1 ∨ lo ≤ 0 ∧ n ≤ 0) :
    Calls Tryz.prog 39 #[.pointer (some ⟨R, 0, none⟩), .int .i64 k, .int .i64 n] w (Drawn lo 4096 R (N + 4) w) := by
  by_cases h1 : k < 1
  · exact spec_l20Word_lo R N k n w h hN hn lo hlo h1
  · by_cases h2 : 12 < k
    · exact spec_l20Word_hi R N k n w h hN hn lo hlo h2
    · exact spec_l20Word_in R N k n w h hN hn lo hlo (by omega) (by omega)
theorem spec_l20Word (R N : Nat) (k n : Int) (w : World) (h : Rdr w R N) (hN : N ≤ 900000) (hn : n ≤ 1000000) :
    Calls Tryz.prog 39 #[.pointer (some ⟨R, 0, none⟩), .int .i64 k, .int .i64 n] w (Drawn (-1) 4096 R (N + 4) w) := spec_l20WordL R N k n w h hN hn (-1) (by omega)

def Drawn2 (R N : Nat) (w : World) (e : Ending) (w' : World) : Prop :=
  ∃ k x, e = .returned (.tuple #[.int .i64 k, .int .i64 x]) ∧ -1 ≤ k ∧ k ≤ 13 ∧ -1 ≤ x ∧ x ≤ 4096 ∧ Rdr w' R N ∧ w.grownBy w' (some R)
def Drawn3 (R N : Nat) (w : World) (e : Ending) (w' : World) : Prop :=
  ∃ k x y, e = .returned (.tuple #[.int .i64 k, .int .i64 x, .int .i64 y]) ∧ -1 ≤ k ∧ k ≤ 13 ∧ -1 ≤ x ∧ x ≤ 4096 ∧ -1 ≤ y ∧ y ≤ 4096 ∧ Rdr w' R N ∧ w.grownBy w' (some R)

end Go.Proofs.YtamhpgledbmnoaaGreatDoor
namespace Go.Proofs.YtamhpgledbmnoaaGreatDoor
set_option linter.unusedVariables false
set_option linter.unusedSimpArgs false
open Go.RowKit

theorem open_below {w w1 w2 : World} {R : Nat} (h : Below w.heap.size w w1) (hg : w1.grownBy w2 (some R)) (hR : w.heap.size ≤ R) : Below w.heap.size w w2 :=
  h.grown hg h.size (fun k hk => by injection hk with hk; omega)
def Out2 (w : World) (e : Ending) (w' : World) : Prop := ∃ k x : Int, e = .returned (.tuple #[.int .i64 k, .int .i64 x]) ∧ -1 ≤ k ∧ k ≤ 13 ∧ -2 ≤ x ∧ x ≤ 4096 ∧ Below w.heap.size w w'
def Out3 (w : World) (e : Ending) (w' : World) : Prop := ∃ k x y : Int, e = .returned (.tuple #[.int .i64 k, .int .i64 x, .int .i64 y]) ∧ -1 ≤ k ∧ k ≤ 13 ∧ -2 ≤ x ∧ x ≤ 4096 ∧ -2 ≤ y ∧ y ≤ 4096 ∧ Below w.heap.size w w'
def Out4 (w : World) (e : Ending) (w' : World) : Prop := ∃ k x y z : Int, e = .returned (.tuple #[.int .i64 k, .int .i64 x, .int .i64 y, .int .i64 z]) ∧ -1 ≤ k ∧ k ≤ 13 ∧ -2 ≤ x ∧ x ≤ 4096 ∧ -2 ≤ y ∧ y ≤ 4096 ∧ -2 ≤ z ∧ z ≤ 4096 ∧ Below w.heap.size w w'
theorem results_tmp4 {fn : Func} {t u v x : Tmp} (h : fn.results = #[.tmp t, .tmp u, .tmp v, .tmp x]) (tmps : Array Value) (P : Program) (w : World) :
    (results fn tmps).run P w = .ok (.tuple #[tmps.getD t undef, tmps.getD u undef, tmps.getD v undef, tmps.getD x undef]) w := by simp [results, h]


















end Go.Proofs.YtamhpgledbmnoaaGreatDoor
namespace Go.Proofs.YtamhpgledbmnoaaGreatDoor
set_option linter.unusedVariables false
set_option linter.unusedSimpArgs false
open Go.RowKit

theorem I64_app (xs ys : List Int) : I64 (xs ++ ys) = I64 xs ++ I64 ys := by simp [I64]
/-- A row of ints of the call's own, d long. -/
def IntRow (w : World) (B : Nat) (v : Value) (d : Nat) : Prop := ∃ ys : List Int, ys.length = d ∧ w.ownsRow B 3 1 v d (I64 ys)
section
variable {w w' : World} {B B' R d : Nat} {v : Value}
theorem IntRow.form (h : IntRow w B v d) : ∃ A c, v = .slice A d c ∧ d ≤ c := by
  obtain ⟨ys, rfl, h⟩ := h
  obtain ⟨A, c, e, h1, _⟩ := Rd.of_own h
  exact ⟨A, c, e, h1⟩
theorem IntRow.keptR (h : IntRow w B v d) (hR : R < B) (hg : w.grownBy w' (some R)) : IntRow w' B v d := by
  obtain ⟨ys, e, h⟩ := h
  refine ⟨ys, e, h.kept hg ?_⟩
  cases hv : v.ownBlock with
  | none => exact .inl rfl
  | some k => exact .inr (fun hk => by injection hk with hk; have := (h.lt k hv).1; omega)
theorem IntRow.mono (h : IntRow w B v d) (hB : B' ≤ B) : IntRow w B' v d := by
  obtain ⟨ys, e, h⟩ := h
  exact ⟨ys, e, h.mono hB⟩
theorem IntRow.alloc (h : IntRow w B v d) (o : Obj) : IntRow (w.alloc o) B v d := by
  obtain ⟨ys, e, h⟩ := h
  exact ⟨ys, e, h.alloc o⟩
theorem IntRow.lit (w : World) (xs : List Int) (hB : B ≤ w.heap.size) (hx : xs.length ≤ maxLen) : IntRow (w.alloc (.cells (I64 xs).toArray 3)) B (.slice (some ⟨w.heap.size, 0, none⟩) xs.length xs.length) xs.length := by
  refine ⟨xs, rfl, ?_⟩
  have h := World.ownsRow_lit (base := B) (e := 3) (size := 1) w (I64 xs).toArray xs.length hB hx (by simp [I64_len])
  simpa using h
end
section
variable {w : World} {ops : Array Oper} {rest : List Oper} {o : Oper} {a : Act} {Q : Exit → Act → World → Prop}
/-- One number behind a row. -/
theorem app1 (hgd : o.guard = none) (s x : Operand)
    (ho : o.op = .call { callee := .builtin .append, args := #[s, x], argTypes := #[41, 41] })
    (B : Nat) (v : Value) (d : Nat) (z : Int) (hs : a.eval s = v) (hrow : IntRow w B v d)
    (hx : a.eval x = .slice (some ⟨w.heap.size, 0, none⟩) 1 1) (hd : d ≤ 1000000) (hB : B ≤ w.heap.size)
    (h : ∀ v' w', IntRow w' B v' (d + 1) → Below B w w' → wpList Tryz.prog ops Q rest (a.put o.dst v') w') :
    wpList Tryz.prog ops Q (o :: rest) a (w.alloc (.cells #[.int .i64 z] 3)) := by
  obtain ⟨ys, e, hown⟩ := hrow
  refine app_int hgd s x ho B v d (I64 ys) (.int .i64 z) hs hown hx rfl (by omega) hB (fun v' w' h1 h2 => h v' w' ⟨ys ++ [z], by simp [e], ?_⟩ h2)
  rw [I64_app]
  exact h1
/-- A row behind a row. -/
theorem app2 (hgd : o.guard = none) (s x : Operand)
    (ho : o.op = .call { callee := .builtin .append, args := #[s, x], argTypes := #[41, 41] })
    (B : Nat) (v : Value) (d : Nat) (hs : a.eval s = v) (hrow : IntRow w B v d)
    (B2 : Nat) (v2 : Value) (d2 : Nat) (hx : a.eval x = v2) (hrow2 : IntRow w B2 v2 d2) (hd2 : 0 < d2) (hd : d ≤ 1000000) (hd' : d2 ≤ 1000000) (hB : B ≤ w.heap.size)
    (h : ∀ v' w', IntRow w' B v' (d + d2) → Below B w w' → wpList Tryz.prog ops Q rest (a.put o.dst v') w') :
    wpList Tryz.prog ops Q (o :: rest) a w := by
  obtain ⟨i0, hi0, hz0, hz1, hz2⟩ := info_parts int_info
  obtain ⟨ys, e, hown⟩ := hrow
  obtain ⟨zs, e2, hown2⟩ := hrow2
  obtain ⟨g, c, rfl, _, _⟩ := own_lt hown2 hd2
  refine wpList_append_own _ hgd s x _ ho B 3 i0 _ 1 8 Tryz.underlying41 hi0 hz0 hz1 hz2 rfl (by decide) v d (I64 ys) hs hown ⟨g, 0, none⟩ d2 c (I64 zs) hx (by rw [I64_len, e2]; omega)
    (hown2.cells rfl) (fun u hu => ?_) (by simp only [maxLen]; omega) (by omega) hB
    (fun v' w' h2 h3 _ => h v' w' ⟨ys ++ zs, by rw [List.length_append, e, e2], by rw [I64_app]; exact h2⟩ ((Below.refl _ _).grown h3 hB (fun k hk => (hown.lt k hk).1)))
  unfold I64 at hu
  obtain ⟨_, _, rfl⟩ := List.mem_map.1 hu
  rfl
end
theorem only_trans {a b c : World} {R : Nat} (h : a.grownBy b (some R)) (h' : b.grownBy c (some R)) : a.grownBy c (some R) := h.trans h'
/-- What has turned above a world is nothing of it. -/
theorem only_below {a b c : World} {R B : Nat} (h : a.grownBy b (some R)) (h' : Below B b c) (hB : a.heap.size ≤ B) : a.grownBy c (some R) :=
  ⟨h'.os.trans h.os, h'.tape.trans h.tape, h'.output.trans h.output, Nat.le_trans h.size h'.size, fun i hi hne => (h'.block i (by omega)).trans (h.block i hi hne)⟩

def Leafed (R N : Nat) (w : World) (e : Ending) (w' : World) : Prop := ∃ v, e = .returned v ∧ IntRow w' w.heap.size v 1 ∧ Rdr w' R (N + 2) ∧ w.grownBy w' (some R)
set_option maxHeartbeats 1000000 in
theorem spec_l20Leaf (R N : Nat) (w : World) (h : Rdr w R N) (hN : N ≤ 100000) :
    Calls Tryz.prog 81 #[.pointer (some ⟨R, 0, none⟩)] w (Leafed R N w) := by
  have hlt := h.lt
  go_enter Tryz.func81, Tryz.ntmps81
  go_wp2_with fail
  refine (spec_pick R N 10 _ h (by omega) (by omega)).mono ?_
  rintro e w1 ⟨p, rfl, hp, hr1, hg1⟩
  have hlt1 := hr1.lt
  have hz1 := hg1.size
  go_wp2_with fail
  refine (spec_pick R (N + 1) 7 _ (hr1.alloc _) (by omega) (by omega)).mono ?_
  rintro e w2 ⟨v, rfl, hv, hr2, hg2⟩
  obtain ⟨h1, h2, x, hx, hc⟩ := pick_cell [10, 10, 11, 11, 0, 1, p] hlt1 hg2 hv rfl (by omega)
  have HG := Lib.hid (grown_alloc hg1 hg2)
  have hz2 := hg2.size
  clear hv hx hg1 hg2
  go_wp2
  go_ret
  refine ⟨_, rfl, IntRow.lit w2 [x] (by have := HG.out.size; omega) (by simp [maxLen]), hr2.alloc _, only_below HG.out ((Below.refl w2.heap.size w2).alloc (Nat.le_refl _) _) HG.out.size⟩
end Go.Proofs.YtamhpgledbmnoaaGreatDoor
namespace Go.Proofs.YtamhpgledbmnoaaGreatDoor
set_option linter.unusedVariables false
set_option linter.unusedSimpArgs false
open Go.RowKit

def Expred (R N : Nat) (w : World) (e : Ending) (w' : World) : Prop := ∃ d v, e = .returned v ∧ IntRow w' w.heap.size v d ∧ d ≤ 25 ∧ Rdr w' R N ∧ w.grownBy w' (some R) ∧ (d = 0 → ∃ g c, v = .slice (some ⟨g, 0, none⟩) 0 c)
set_option maxRecDepth 100000 in
set_option maxHeartbeats 4000000 in
theorem spec_l20Expr (R N p : Nat) (n : Int) (w : World) (h : Rdr w R N) (hN : N ≤ 90000) (hp : p ≤ 7) (hn : n ≤ 100) :
    Calls Tryz.prog 57 #[.pointer (some ⟨R, 0, none⟩), .int .i64 p, .int .i64 n] w (Expred R (N + 70) w) := by
  have hR := h.lt
  go_enter Tryz.func57, Tryz.ntmps57
  go_wp2_with fail
  refine (spec_l20Leaf R N _ h (by omega)).mono ?_
  rintro e w1 ⟨v1, rfl, row1, hr1, hg1⟩
  have hz1 := hg1.size
  go_wp2_with fail
  refine (spec_pick R (N + 2) (p + 1) _ hr1 (by omega) (by omega)).mono ?_
  rintro e w2 ⟨k, rfl, hk, hr2, hg2⟩
  obtain ⟨k0, k1⟩ := hk.2 (by omega)
  obtain ⟨r0, rfl⟩ := Int.eq_ofNat_of_zero_le k0
  have row2 := row1.keptR hR hg2
  have hg := hg1.trans hg2
  clear hg1 hg2 row1 hr1 hk h
  go_wp2_with fail
  go_loopw [7, 8] (fun v i wr => ∃ (r M d : Nat), r ≤ p ∧ i = .int .i64 r ∧ M + 8 * r ≤ N + 3 + 8 * p ∧ 1 ≤ d ∧ d + 4 * r ≤ 16 + 4 * p ∧ Rdr wr R M ∧ IntRow wr w.heap.size v d ∧ w.grownBy wr (some R)) (fun _ i _ => (intOf i).toNat)
  case atStart => exact ⟨r0, N + 3, 1, by omega, rfl, by omega, by omega, by omega, hr2, row2, hg⟩
  case round =>
    obtain ⟨r, M, d, hrp, rfl, hM, hd1, hd2, hr, row, hgr⟩ := hrel
    have hz := hgr.size
    clear hr2 row2 hg
    by_cases hpos : 0 < r
    · obtain ⟨r, rfl⟩ : ∃ q, r = q + 1 := ⟨r - 1, by omega⟩
      have hri : (0 : Int) < ((r + 1 : Nat) : Int) := by omega
      go_wp2_with fail
      refine (spec_pick R M 7 _ hr (by omega) (by omega)).mono ?_
      rintro e w3 ⟨c, rfl, hc, hr3, hg3⟩
      obtain ⟨c0, c1⟩ := hc.2 (by omega)
      have hgr3 := hgr.trans hg3
      have row3 := row.keptR hR hg3
      have hz3 := hgr3.size
      clear hc hg3 row hr hgr
      have hcs : c = 0 ∨ c = 1 ∨ c = 2 ∨ c = 3 ∨ c = 4 ∨ c = 5 ∨ c = 6 := by omega
      clear c0 c1
      rcases hcs with rfl | rfl | rfl | rfl | rfl | rfl | rfl
      · go_wp2_with fail
        refine (spec_pick R (M + 1) 3 _ hr3 (by omega) (by omega)).mono ?_
        rintro e w4 ⟨q, rfl, hq, hr4, hg4⟩
        obtain ⟨q0, q1⟩ := hq.2 (by omega)
        have row4 := row3.keptR hR hg4
        have hgr4 := hgr3.trans hg4
        have hz4 := hgr4.size
        clear hg4 hq row3
        go_wp2_with (at_builtin; refine app1 rfl (.tmp 34) (.tmp 38) rfl w.heap.size u7 d _ rfl row4 rfl (by omega) hz4 ?_; intro v' w5 row5 hb5)
        exact ⟨⟨r, M + 8, d + 1, by omega, by go_num, by omega, by omega, by omega, (hr4.below hb5 hR).more (by omega), row5, only_below hgr4 hb5 (Nat.le_refl _)⟩, by simp [intOf]⟩
      · go_wp2_with fail
        refine (spec_pick R (M + 1) 3 _ hr3 (by omega) (by omega)).mono ?_
        rintro e w4 ⟨q, rfl, hq, hr4, hg4⟩
        obtain ⟨q0, q1⟩ := hq.2 (by omega)
        have row4 := row3.keptR hR hg4
        have hgr4 := hgr3.trans hg4
        have hz4 := hgr4.size
        clear hg4 hq row3
        go_wp2_with (at_builtin; refine app1 rfl (.tmp 34) (.tmp 38) rfl w.heap.size u7 d _ rfl row4 rfl (by omega) hz4 ?_; intro v' w5 row5 hb5)
        exact ⟨⟨r, M + 8, d + 1, by omega, by go_num, by omega, by omega, by omega, (hr4.below hb5 hR).more (by omega), row5, only_below hgr4 hb5 (Nat.le_refl _)⟩, by simp [intOf]⟩
      · go_wp2_with fail
        refine (spec_l20Leaf R (M + 1) _ hr3 (by omega)).mono ?_
        rintro e w4 ⟨v4, rfl, leaf4, hr4, hg4⟩
        have row4 := row3.keptR hR hg4
        have hgr4 := hgr3.trans hg4
        have hz4 := hg4.size
        have hz4' := hgr4.size
        clear hg4 row3
        go_wp2_with (at_builtin; refine app2 rfl (.tmp 43) (.tmp 44) rfl w3.heap.size v4 1 rfl leaf4 w.heap.size u7 d rfl row4 (by omega) (by omega) (by omega) hz4 ?_; intro v5 w5 row5 hb5)
        have hr5 := hr4.below hb5 (by omega)
        have hgr5 := only_below hgr4 hb5 hz3
        refine (spec_pick R (M + 3) 5 _ hr5 (by omega) (by omega)).mono ?_
        rintro e w6 ⟨q, rfl, hq, hr6, hg6⟩
        obtain ⟨q0, q1⟩ := hq.2 (by omega)
        have row6 := row5.keptR (by omega) hg6
        have hgr6 := hgr5.trans hg6
        have hz6 := hg6.size
        have hz5 := hb5.size
        clear hg6 hq row4 row5
        go_wp2_with (at_builtin; refine app1 rfl (.tmp 45) (.tmp 49) rfl w3.heap.size v5 (1 + d) _ rfl row6 rfl (by omega) (by omega) ?_; intro v7 w7 row7 hb7)
        exact ⟨⟨r, M + 8, 1 + d + 1, by omega, by go_num, by omega, by omega, by omega, (hr6.below hb7 (by omega)).more (by omega), row7.mono hz3, only_below hgr6 hb7 hz3⟩, by simp [intOf]⟩
      · obtain ⟨A3, c3, rfl, _⟩ := row3.form
        by_cases hd8 : d < 8
        · have hdi : (d : Int) < 8 := by omega
          go_wp2_with (at_builtin; refine app2 rfl (.tmp 56) (.tmp 57) rfl w.heap.size (.slice A3 d c3) d rfl row3 w.heap.size (.slice A3 d c3) d rfl row3 (by omega) (by omega) (by omega) hz3 ?_; intro v5 w5 row5 hb5)
          have hr5 := hr3.below hb5 hR
          have hgr5 := only_below hgr3 hb5 (Nat.le_refl _)
          refine (spec_pick R (M + 1) 5 _ hr5 (by omega) (by omega)).mono ?_
          rintro e w6 ⟨q, rfl, hq, hr6, hg6⟩
          obtain ⟨q0, q1⟩ := hq.2 (by omega)
          have row6 := row5.keptR (by omega) hg6
          have hgr6 := hgr5.trans hg6
          have hz6 := hgr6.size
          clear hg6 hq row5
          go_wp2_with (at_builtin; refine app1 rfl (.tmp 58) (.tmp 62) rfl w.heap.size v5 (d + d) _ rfl row6 rfl (by omega) (by omega) ?_; intro v7 w7 row7 hb7)
          exact ⟨⟨r, M + 8, d + d + 1, by omega, by go_num, by omega, by omega, by omega, (hr6.below hb7 (by omega)).more (by omega), row7, only_below hgr6 hb7 (Nat.le_refl _)⟩, by simp [intOf]⟩
        · have hdi : ¬ (d : Int) < 8 := by omega
          go_wp2_with fail
          exact ⟨⟨r, M + 8, d, by omega, by go_num, by omega, by omega, by omega, (hr3).more (by omega), row3, hgr3⟩, by simp [intOf]⟩
      · go_wp2_with fail
        refine (spec_l20Leaf R (M + 1) _ hr3 (by omega)).mono ?_
        rintro e w4 ⟨v4, rfl, leaf4, hr4, hg4⟩
        have hz4 := hg4.size
        go_wp2_with fail
        refine (spec_l20Leaf R (M + 3) _ hr4 (by omega)).mono ?_
        rintro e w5 ⟨v5, rfl, leaf5, hr5, hg5⟩
        have s5 := leaf4.keptR (by omega) hg5
        have g5 := hg4.trans hg5
        have hz5 := hg5.size
        clear hg4 hg5 leaf4
        go_wp2_with (at_builtin; refine app2 rfl (.tmp 67) (.tmp 69) rfl w3.heap.size v4 1 rfl s5 w4.heap.size v5 1 rfl leaf5 (by omega) (by omega) (by omega) (by omega) ?_; intro v6 w6 s6 hb6)
        have hr6 := hr5.below hb6 (by omega)
        have g6 := only_below g5 hb6 (Nat.le_refl _)
        have hz6 := hb6.size
        clear s5 leaf5 g5 hb6
        refine (spec_pick R (M + 5) 5 _ hr6 (by omega) (by omega)).mono ?_
        rintro e w7 ⟨q, rfl, hq, hr7, hg7⟩
        obtain ⟨q0, q1⟩ := hq.2 (by omega)
        have s7 := s6.keptR (by omega) hg7
        have g7 := g6.trans hg7
        have hz7 := hg7.size
        clear hg7 hq s6 g6
        go_wp2_with (first
          | (at_builtin; refine app1 rfl (.tmp 70) (.tmp 74) rfl w3.heap.size v6 (1 + 1) _ rfl s7 rfl (by omega) (by omega) ?_; intro v8 w8 s8 hb8)
          | (at_builtin; refine app2 rfl (.tmp 76) (.tmp 77) rfl w.heap.size u7 d rfl (row3.keptR hR (only_below g7 hb8 (Nat.le_refl _))) w3.heap.size v8 (1 + 1 + 1) rfl s8 (by omega) (by omega) (by omega) (by have := hb8.size; omega) ?_; intro v9 w9 row9 hb9))
        have hz8 := hb8.size
        have hr9 := (hr7.below hb8 (by omega)).below hb9 hR
        have g9 := only_below (hgr3.trans (only_below g7 hb8 (Nat.le_refl _))) hb9 (Nat.le_refl _)
        have hz9 := hb9.size
        clear s7 s8 row3 g7 hb8 hb9 hgr3
        refine (spec_pick R (M + 6) 5 _ hr9 (by omega) (by omega)).mono ?_
        rintro e w10 ⟨t, rfl, ht, hr10, hg10⟩
        obtain ⟨t0, t1⟩ := ht.2 (by omega)
        have row10 := row9.keptR hR hg10
        have g10 := g9.trans hg10
        have hz10 := hg10.size
        clear hg10 ht row9 g9
        go_wp2_with (at_builtin; refine app1 rfl (.tmp 78) (.tmp 82) rfl w.heap.size v9 (d + (1 + 1 + 1)) _ rfl row10 rfl (by omega) (by omega) ?_; intro v11 w11 row11 hb11)
        exact ⟨⟨r, M + 8, d + (1 + 1 + 1) + 1, by omega, by go_num, by omega, by omega, by omega, (hr10.below hb11 (by omega)).more (by omega), row11, only_below g10 hb11 (Nat.le_refl _)⟩, by simp [intOf]⟩
      · go_wp2_with fail
        refine (spec_l20Leaf R (M + 1) _ hr3 (by omega)).mono ?_
        rintro e w4 ⟨v4, rfl, leaf4, hr4, hg4⟩
        have row4 := row3.keptR hR hg4
        have hgr4 := hgr3.trans hg4
        have hz4 := hgr4.size
        clear hg4 row3
        go_wp2_with (at_builtin; refine app2 rfl (.tmp 22) (.tmp 24) rfl w.heap.size u7 d rfl row4 w3.heap.size v4 1 rfl leaf4 (by omega) (by omega) (by omega) hz4 ?_; intro v5 w5 row5 hb5)
        have hr5 := hr4.below hb5 (by omega)
        have hgr5 := only_below hgr4 hb5 (Nat.le_refl _)
        refine (spec_pick R (M + 3) 5 _ hr5 (by omega) (by omega)).mono ?_
        rintro e w6 ⟨q, rfl, hq, hr6, hg6⟩
        obtain ⟨q0, q1⟩ := hq.2 (by omega)
        have row6 := row5.keptR (by omega) hg6
        have hgr6 := hgr5.trans hg6
        have hz6 := hgr6.size
        clear hg6 hq row4 row5
        go_wp2_with (at_builtin; refine app1 rfl (.tmp 25) (.tmp 29) rfl w.heap.size v5 (d + 1) _ rfl row6 rfl (by omega) (by omega) ?_; intro v7 w7 row7 hb7)
        exact ⟨⟨r, M + 8, d + 1 + 1, by omega, by go_num, by omega, by omega, by omega, (hr6.below hb7 (by omega)).more (by omega), row7, only_below hgr6 hb7 (Nat.le_refl _)⟩, by simp [intOf]⟩
      · go_wp2_with fail
        refine (spec_l20Leaf R (M + 1) _ hr3 (by omega)).mono ?_
        rintro e w4 ⟨v4, rfl, leaf4, hr4, hg4⟩
        have row4 := row3.keptR hR hg4
        have hgr4 := hgr3.trans hg4
        have hz4 := hgr4.size
        clear hg4 row3
        go_wp2_with (at_builtin; refine app2 rfl (.tmp 22) (.tmp 24) rfl w.heap.size u7 d rfl row4 w3.heap.size v4 1 rfl leaf4 (by omega) (by omega) (by omega) hz4 ?_; intro v5 w5 row5 hb5)
        have hr5 := hr4.below hb5 (by omega)
        have hgr5 := only_below hgr4 hb5 (Nat.le_refl _)
        refine (spec_pick R (M + 3) 5 _ hr5 (by omega) (by omega)).mono ?_
        rintro e w6 ⟨q, rfl, hq, hr6, hg6⟩
        obtain ⟨q0, q1⟩ := hq.2 (by omega)
        have row6 := row5.keptR (by omega) hg6
        have hgr6 := hgr5.trans hg6
        have hz6 := hgr6.size
        clear hg6 hq row4 row5
        go_wp2_with (at_builtin; refine app1 rfl (.tmp 25) (.tmp 29) rfl w.heap.size v5 (d + 1) _ rfl row6 rfl (by omega) (by omega) ?_; intro v7 w7 row7 hb7)
        exact ⟨⟨r, M + 8, d + 1 + 1, by omega, by go_num, by omega, by omega, by omega, (hr6.below hb7 (by omega)).more (by omega), row7, only_below hgr6 hb7 (Nat.le_refl _)⟩, by simp [intOf]⟩
    · obtain rfl : r = 0 := by omega
      obtain ⟨A, c, rfl, _⟩ := row.form
      by_cases hbig : 24 < d
      · have hbi : (24 : Int) < d := by omega
        clear row
        go_wp2_with fail
        refine (spec_odd R M n _ (hr.alloc _) (by omega) (by omega)).mono ?_
        rintro e wA ⟨b, rfl, hbn, hrA, hgA⟩
        have rowA := (IntRow.lit wr [10, 11, 19] hz (by simp [maxLen])).keptR hR hgA
        have hgrA := (only_below hgr ((Below.refl wr.heap.size wr).alloc (Nat.le_refl _) _) hz).trans hgA
        have hzA := hgrA.size
        clear hgA hbn
        cases b
        · go_wp2_with fail
          go_ret
          exact ⟨3, _, rfl, rowA, by omega, hrA.more (by omega), hgrA, fun h0 => absurd h0 (by omega)⟩
        · go_wp2_with fail
          refine (spec_pick R (M + 1) 4 _ hrA (by omega) (by omega)).mono ?_
          rintro e wB ⟨q, rfl, hq, hrB, hgB⟩
          obtain ⟨q0, q1⟩ := hq.2 (by omega)
          have rowB := rowA.keptR hR hgB
          have hgrB := hgrA.trans hgB
          have hzB := hgrB.size
          have hltB := hrB.lt
          clear hgB hq rowA hrA hgrA
          have hqs : q = 0 ∨ q = 1 ∨ q = 2 ∨ q = 3 := by omega
          clear q0 q1
          rcases hqs with rfl | rfl | rfl | rfl
          · go_wp2_with fail
            go_ret
            exact ⟨0, _, rfl, IntRow.lit wB [] hzB (by simp [maxLen]), by omega, (hrB.alloc _).more (by omega), only_below hgrB ((Below.refl wB.heap.size wB).alloc (Nat.le_refl _) _) hzB, fun _ => ⟨_, _, rfl⟩⟩
          · go_wp2_with (at_builtin; refine app1 rfl (.tmp 106) (.tmp 107) rfl w.heap.size (.slice (some ⟨wr.heap.size, 0, none⟩) 3 3) 3 _ rfl rowB rfl (by omega) hzB ?_; intro v' w' row' hb')
            go_ret
            exact ⟨3 + 1, v', rfl, row', by omega, (hrB.below hb' hR).more (by omega), only_below hgrB hb' (Nat.le_refl _), fun h0 => absurd h0 (by omega)⟩
          · go_wp2_with (at_builtin; refine app2 rfl (.tmp 111) (.tmp 112) rfl wB.heap.size (.slice (some ⟨wB.heap.size, 0, none⟩) 1 1) 1 rfl (IntRow.lit wB [12] (Nat.le_refl _) (by simp [maxLen])) w.heap.size (.slice (some ⟨wr.heap.size, 0, none⟩) 3 3) 3 rfl (rowB.alloc _) (by omega) (by omega) (by omega) (by simp) ?_; intro v' w' row' hb')
            go_ret
            exact ⟨1 + 3, v', rfl, row'.mono hzB, by omega, ((hrB.alloc _).below hb' hltB).more (by omega), only_below hgrB (((Below.refl wB.heap.size wB).alloc (Nat.le_refl _) _).trans hb') hzB, fun h0 => absurd h0 (by omega)⟩
          · go_wp2_with fail
            refine (spec_pick R (M + 2) 2 _ (hrB.alloc _) (by omega) (by omega)).mono ?_
            rintro e wC ⟨t, rfl, ht, hrC, hgC⟩
            obtain ⟨t0, t1, x, hx, hc⟩ := pick_cell [-1, 20] hltB hgC ht rfl (by omega)
            have rowC := (rowB.alloc _).keptR hR hgC
            have hgrC := grown_alloc hgrB hgC
            have hzC := hgrC.size
            clear hgC ht hx rowB hrB hgrB
            go_wp2_with (at_builtin; refine app1 rfl (.tmp 93) (.tmp 99) rfl w.heap.size (.slice (some ⟨wr.heap.size, 0, none⟩) 3 3) 3 _ rfl rowC rfl (by omega) hzC ?_; intro v' w' row' hb')
            go_ret
            exact ⟨3 + 1, v', rfl, row', by omega, (hrC.below hb' hR).more (by omega), only_below hgrC hb' (Nat.le_refl _), fun h0 => absurd h0 (by omega)⟩
      · have hbi : ¬ (24 : Int) < d := by omega
        go_wp2_with fail
        refine (spec_odd R M n _ hr (by omega) (by omega)).mono ?_
        rintro e wA ⟨b, rfl, hbn, hrA, hgA⟩
        have rowA := (row).keptR hR hgA
        have hgrA := (hgr).trans hgA
        have hzA := hgrA.size
        clear hgA hbn
        cases b
        · go_wp2_with fail
          go_ret
          exact ⟨d, _, rfl, rowA, by omega, hrA.more (by omega), hgrA, fun h0 => absurd h0 (by omega)⟩
        · go_wp2_with fail
          refine (spec_pick R (M + 1) 4 _ hrA (by omega) (by omega)).mono ?_
          rintro e wB ⟨q, rfl, hq, hrB, hgB⟩
          obtain ⟨q0, q1⟩ := hq.2 (by omega)
          have rowB := rowA.keptR hR hgB
          have hgrB := hgrA.trans hgB
          have hzB := hgrB.size
          have hltB := hrB.lt
          clear hgB hq rowA hrA hgrA
          have hqs : q = 0 ∨ q = 1 ∨ q = 2 ∨ q = 3 := by omega
          clear q0 q1
          rcases hqs with rfl | rfl | rfl | rfl
          · go_wp2_with fail
            go_ret
            exact ⟨0, _, rfl, IntRow.lit wB [] hzB (by simp [maxLen]), by omega, (hrB.alloc _).more (by omega), only_below hgrB ((Below.refl wB.heap.size wB).alloc (Nat.le_refl _) _) hzB, fun _ => ⟨_, _, rfl⟩⟩
          · go_wp2_with (at_builtin; refine app1 rfl (.tmp 106) (.tmp 107) rfl w.heap.size (.slice A d c) d _ rfl rowB rfl (by omega) hzB ?_; intro v' w' row' hb')
            go_ret
            exact ⟨d + 1, v', rfl, row', by omega, (hrB.below hb' hR).more (by omega), only_below hgrB hb' (Nat.le_refl _), fun h0 => absurd h0 (by omega)⟩
          · go_wp2_with (at_builtin; refine app2 rfl (.tmp 111) (.tmp 112) rfl wB.heap.size (.slice (some ⟨wB.heap.size, 0, none⟩) 1 1) 1 rfl (IntRow.lit wB [12] (Nat.le_refl _) (by simp [maxLen])) w.heap.size (.slice A d c) d rfl (rowB.alloc _) (by omega) (by omega) (by omega) (by simp) ?_; intro v' w' row' hb')
            go_ret
            exact ⟨1 + d, v', rfl, row'.mono hzB, by omega, ((hrB.alloc _).below hb' hltB).more (by omega), only_below hgrB (((Below.refl wB.heap.size wB).alloc (Nat.le_refl _) _).trans hb') hzB, fun h0 => absurd h0 (by omega)⟩
          · go_wp2_with fail
            refine (spec_pick R (M + 2) 2 _ (hrB.alloc _) (by omega) (by omega)).mono ?_
            rintro e wC ⟨t, rfl, ht, hrC, hgC⟩
            obtain ⟨t0, t1, x, hx, hc⟩ := pick_cell [-1, 20] hltB hgC ht rfl (by omega)
            have rowC := (rowB.alloc _).keptR hR hgC
            have hgrC := grown_alloc hgrB hgC
            have hzC := hgrC.size
            clear hgC ht hx rowB hrB hgrB
            go_wp2_with (at_builtin; refine app1 rfl (.tmp 93) (.tmp 99) rfl w.heap.size (.slice A d c) d _ rfl rowC rfl (by omega) hzC ?_; intro v' w' row' hb')
            go_ret
            exact ⟨d + 1, v', rfl, row', by omega, (hrC.below hb' hR).more (by omega), only_below hgrC hb' (Nat.le_refl _), fun h0 => absurd h0 (by omega)⟩
end Go.Proofs.YtamhpgledbmnoaaGreatDoor
namespace Go.Proofs.YtamhpgledbmnoaaGreatDoor
set_option linter.unusedVariables false
set_option linter.unusedSimpArgs false
open Go.RowKit

/-- An expression that was drawn: a row of the call's own. -/
def OutE (w : World) (e : Ending) (w' : World) : Prop := ∃ xs g c, e = .returned (.slice (some ⟨g, 0, none⟩) xs.length c) ∧ w'.ownsRow w.heap.size 3 1 (.slice (some ⟨g, 0, none⟩) xs.length c) xs.length (I64 xs) ∧ xs.length ≤ 25 ∧ Below w.heap.size w w'
theorem row_some {w : World} {B d : Nat} {v : Value} (h : IntRow w B v d) (h0 : d = 0 → ∃ g c, v = .slice (some ⟨g, 0, none⟩) 0 c) :
    ∃ xs : List Int, ∃ g c, d = xs.length ∧ v = .slice (some ⟨g, 0, none⟩) d c ∧ w.ownsRow B 3 1 v d (I64 xs) := by
  obtain ⟨ys, e, h⟩ := h
  rcases Nat.eq_zero_or_pos d with hd | hd
  · obtain ⟨g, c, rfl⟩ := h0 hd
    exact ⟨ys, g, c, e.symm, by rw [hd], h⟩
  · obtain ⟨g, c, rfl, _, _⟩ := own_lt h hd
    exact ⟨ys, g, c, e.symm, rfl, h⟩
theorem outE_mk {w w1 w2 : World} {R N : Nat} {e : Ending} (hb : Below w.heap.size w w1) (hR : w.heap.size ≤ R) (h : Expred R N w1 e w2) : ∃ v, e = .returned v ∧ OutE w (.returned v) w2 := by
  obtain ⟨d, v, rfl, row, hd, hr, hg, h0⟩ := h
  obtain ⟨xs, g, c, rfl, rfl, hown⟩ := row_some row h0
  exact ⟨_, rfl, xs, g, c, rfl, hown.mono hb.size, hd, open_below hb hg hR⟩
/-- A width, an expression and two words that were drawn. -/
def OutV (w : World) (e : Ending) (w' : World) : Prop := ∃ (k x y : Int) (xs : List Int) (g c : Nat), e = .returned (.tuple #[.int .i64 k, .slice (some ⟨g, 0, none⟩) xs.length c, .int .i64 x, .int .i64 y]) ∧ -1 ≤ k ∧ k ≤ 13 ∧ -2 ≤ x ∧ x ≤ 4096 ∧ -2 ≤ y ∧ y ≤ 4096 ∧
  w'.ownsRow w.heap.size 3 1 (.slice (some ⟨g, 0, none⟩) xs.length c) xs.length (I64 xs) ∧ xs.length ≤ 25 ∧ Below w.heap.size w w'
end Go.Proofs.YtamhpgledbmnoaaGreatDoor
namespace Go.Proofs.YtamhpgledbmnoaaGreatDoor
set_option linter.unusedVariables false
set_option linter.unusedSimpArgs false
open Go.RowKit

theorem three (v : Bool) (p : Prop) : v = false ∨ (v = true ∧ p) ∨ (v = true ∧ ¬ p) := by
  cases v
  · exact .inl rfl
  · exact (Classical.em p).elim (fun h => .inr (.inl ⟨rfl, h⟩)) (fun h => .inr (.inr ⟨rfl, h⟩))
theorem four (v : Bool) (a b : Int) : v = false ∨ (v = true ∧ a < b) ∨ (v = true ∧ a = b) ∨ (v = true ∧ b < a) := by
  cases v
  · exact .inl rfl
  · rcases Int.lt_trichotomy a b with h | h | h
    · exact .inr (.inl ⟨rfl, h⟩)
    · exact .inr (.inr (.inl ⟨rfl, h⟩))
    · exact .inr (.inr (.inr ⟨rfl, h⟩))
set_option maxHeartbeats 1000000 in
theorem laws_alive (w : World) : Calls Tryz.prog 9 #[] w fun e w' => e = .returned (.bool true) ∧ Below w.heap.size w w' := by
  have e1 : Pl.wordAdd 4 9 9 = 2 := by decide
  have e2 : Pl.wordNot 3 0 = 7 := by decide
  go_enter Tryz.func9, Tryz.ntmps9
  go_wp2_with fail
  refine (impl_WordAdd _ _ _ _).mono ?_
  rintro e w1 ⟨rfl, hb1⟩
  go_wp2_with fail
  refine (impl_WordNot _ _ _).mono ?_
  rintro e w2 ⟨rfl, hb2⟩
  go_wp2
  go_ret
  exact ⟨rfl, hb1.trans (hb2.mono hb1.size)⟩
end Go.Proofs.YtamhpgledbmnoaaGreatDoor
