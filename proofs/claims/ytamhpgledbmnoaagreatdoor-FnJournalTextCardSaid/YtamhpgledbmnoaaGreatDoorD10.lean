/-
  Two drawn expressions that are often equal (l20Equals): two slices that read as short lists.
  Conditions: none but those of the model.
-/
import Derived.Test.YtamhpgledbmnoaaGreatDoorKD
import Derived.Test.YtamhpgledbmnoaaGreatDoorS8
namespace Go.Proofs.YtamhpgledbmnoaaGreatDoor
set_option linter.unusedVariables false
set_option linter.unusedSimpArgs false
open Go.RowKit
/-- A slice that reads as a short list, apart from the reader R. -/
def RdX (w : World) (R : Nat) (v : Value) : Prop :=
  ∃ (A : Option Addr) (xs : List Int) (c : Nat), v = .slice A xs.length c ∧ xs.length ≤ 25 ∧ xs.length ≤ c ∧
    (xs.length = 0 ∨ ∃ b off, A = some ⟨b, off, none⟩ ∧ b < w.heap.size ∧ b ≠ R ∧ ∀ j u, (I64 xs)[j]? = some u → w.cell? ⟨b, off + j, none⟩ = some u)
theorem RdX.grown {w w' : World} {R : Nat} {v : Value} (h : RdX w R v) (hg : w.grownBy w' (some R)) : RdX w' R v := by
  obtain ⟨A, xs, c, h1, h2, h3, h4⟩ := h
  refine ⟨A, xs, c, h1, h2, h3, h4.imp id ?_⟩
  rintro ⟨b, off, e, hb, hR, hc⟩
  exact ⟨b, off, e, by have := hg.size; omega, hR, fun j u hu => hg.cell (hc j u hu) (by simpa using hR)⟩
theorem RdX.rd {w : World} {R : Nat} {v : Value} (h : RdX w R v) : ∃ (A : Option Addr) (xs : List Int) (c : Nat), v = .slice A xs.length c ∧ xs.length ≤ 25 ∧ xs.length ≤ c ∧ Rd w w.heap.size A xs.length (I64 xs) := by
  obtain ⟨A, xs, c, h1, h2, h3, h4⟩ := h
  refine ⟨A, xs, c, h1, h2, h3, by rw [I64_len], h4.imp id ?_⟩
  rintro ⟨b, off, e, hb, hR, hc⟩
  exact ⟨b, off, e, hb, hc⟩
theorem rdX_own {w : World} {B R n c : Nat} {A : Option Addr} {xs : List Int} (h : w.ownsRow B 3 1 (.slice A n c) n (I64 xs)) (hR : R < B) (hn : n ≤ 25) : RdX w R (.slice A n c) := by
  have hl : xs.length = n := by have := h.1; rw [I64_len] at this; omega
  subst hl
  refine ⟨A, xs, c, rfl, hn, own_cap h, ?_⟩
  rcases Nat.eq_zero_or_pos xs.length with h0 | h0
  · exact .inl h0
  · obtain ⟨g, rfl, hg0, hg1⟩ := own_some h h0
    exact .inr ⟨g, 0, rfl, hg1, by omega, fun j u hu => by rw [Nat.zero_add]; exact own_cell h hu⟩
/-- Many blocks at once. -/
def allocs (w : World) (os : List Obj) : World := os.foldl World.alloc w
theorem allocs_old (w : World) (os : List Obj) (k : Nat) (hk : k < w.heap.size) : (allocs w os).heap[k]? = w.heap[k]? := by
  induction os generalizing w with
  | nil => rfl
  | cons o os ih =>
    show (allocs (w.alloc o) os).heap[k]? = _
    rw [ih (w.alloc o) (by simp; omega)]
    exact Below.heap_alloc w o k hk
theorem allocs_size (w : World) (os : List Obj) : (allocs w os).heap.size = w.heap.size + os.length := by
  induction os generalizing w with
  | nil => rfl
  | cons o os ih =>
    show (allocs (w.alloc o) os).heap.size = _
    rw [ih (w.alloc o)]
    simp; omega
theorem allocs_new (w : World) (os : List Obj) (k : Nat) (o : Obj) (h : os[k]? = some o) : (allocs w os).heap[w.heap.size + k]? = some o := by
  induction os generalizing w k with
  | nil => cases h
  | cons a os ih =>
    show (allocs (w.alloc a) os).heap[w.heap.size + k]? = _
    rcases k with _ | k
    · injection h with h
      subst h
      rw [allocs_old (w.alloc a) os _ (by simp)]
      exact heap_alloc_new w a
    · have := ih (w.alloc a) k h
      rw [← this]
      congr 1
      simp; omega
theorem allocs_grown (w : World) (os : List Obj) (row : Option Nat) : w.grownBy (allocs w os) row := by
  induction os generalizing w with
  | nil => exact World.grownBy.refl w row
  | cons o os ih => exact (World.grownBy_alloc w o row).trans (ih (w.alloc o))
/-- A literal list among them. -/
theorem rdX_lit (w : World) (os : List Obj) (k R : Nat) (xs : List Int) (h : os[k]? = some (.cells (I64 xs).toArray 3)) (hR : R < w.heap.size) (hx : xs.length ≤ 25) :
    RdX (allocs w os) R (.slice (some ⟨w.heap.size + k, 0, none⟩) xs.length xs.length) := by
  have hb := allocs_new w os k _ h
  have hk : k < os.length := (List.getElem?_eq_some_iff.1 h).1
  refine ⟨_, xs, xs.length, rfl, hx, Nat.le_refl _, .inr ⟨w.heap.size + k, 0, rfl, by rw [allocs_size]; omega, by omega, fun j u hu => ?_⟩⟩
  rw [Nat.zero_add, cell_of_row _ _ _ _ _ _ hb]
  simpa using hu
/-- The blocks of the table. -/
def osT (h : Nat) : List Obj := [.cells (I64 [10]).toArray 3,
  .cells (I64 [11]).toArray 3,
  .cells (I64 [10, 11, 15]).toArray 3,
  .cells (I64 [10, 11, 19, 10, 11, 17, 13, 15]).toArray 3,
  .cells #[.slice (some ⟨h + 2, 0, none⟩) 3 3, .slice (some ⟨h + 3, 0, none⟩) 8 8] 41,
  .cells (I64 [10, 11, 18]).toArray 3,
  .cells (I64 [10, 11, 15, 10, 11, 17, 16]).toArray 3,
  .cells #[.slice (some ⟨h + 5, 0, none⟩) 3 3, .slice (some ⟨h + 6, 0, none⟩) 7 7] 41,
  .cells (I64 [10, 11, 16]).toArray 3,
  .cells (I64 [10, 12, 11, 15, 12]).toArray 3,
  .cells #[.slice (some ⟨h + 8, 0, none⟩) 3 3, .slice (some ⟨h + 9, 0, none⟩) 5 5] 41,
  .cells (I64 [0, 10, 16]).toArray 3,
  .cells (I64 [10, 12, 1, 15]).toArray 3,
  .cells #[.slice (some ⟨h + 11, 0, none⟩) 3 3, .slice (some ⟨h + 12, 0, none⟩) 4 4] 41,
  .cells (I64 [10, 11, 19]).toArray 3,
  .cells (I64 [10, 11, 18, 10, 11, 17, 16]).toArray 3,
  .cells #[.slice (some ⟨h + 14, 0, none⟩) 3 3, .slice (some ⟨h + 15, 0, none⟩) 7 7] 41,
  .cells (I64 [10, 13, 14]).toArray 3,
  .cells #[.slice (some ⟨h + 17, 0, none⟩) 3 3, .slice (some ⟨h + 0, 0, none⟩) 1 1] 41,
  .cells (I64 [10, 10, 15]).toArray 3,
  .cells (I64 [10, 13]).toArray 3,
  .cells #[.slice (some ⟨h + 19, 0, none⟩) 3 3, .slice (some ⟨h + 20, 0, none⟩) 2 2] 41,
  .cells (I64 [10, 11, 17, 12]).toArray 3,
  .cells (I64 [10, 12, 11, 12, 18]).toArray 3,
  .cells #[.slice (some ⟨h + 22, 0, none⟩) 4 4, .slice (some ⟨h + 23, 0, none⟩) 5 5] 41,
  .cells #[.slice (some ⟨h + 4, 0, none⟩) 2 2, .slice (some ⟨h + 7, 0, none⟩) 2 2, .slice (some ⟨h + 10, 0, none⟩) 2 2, .slice (some ⟨h + 13, 0, none⟩) 2 2, .slice (some ⟨h + 16, 0, none⟩) 2 2, .slice (some ⟨h + 18, 0, none⟩) 2 2, .slice (some ⟨h + 21, 0, none⟩) 2 2, .slice (some ⟨h + 24, 0, none⟩) 2 2] 87]
/-- A table of eight pairs of slices that read as short lists. -/
def Table (w : World) (R g : Nat) : Prop := g < w.heap.size ∧ g ≠ R ∧ ∀ i, i < 8 → ∃ gp v1 v2, w.cell? ⟨g, i, none⟩ = some (.slice (some ⟨gp, 0, none⟩) 2 2) ∧ w.cell? ⟨gp, 0, none⟩ = some v1 ∧ w.cell? ⟨gp, 1, none⟩ = some v2 ∧ gp < w.heap.size ∧ gp ≠ R ∧ RdX w R v1 ∧ RdX w R v2
theorem Table.grown {w w' : World} {R g : Nat} (h : Table w R g) (hg : w.grownBy w' (some R)) : Table w' R g := by
  obtain ⟨h1, h2, h3⟩ := h
  have hz := hg.size
  refine ⟨by omega, h2, fun i hi => ?_⟩
  obtain ⟨gp, v1, v2, a, b, c, d, e, f, k⟩ := h3 i hi
  exact ⟨gp, v1, v2, hg.cell a (by simpa using h2), hg.cell b (by simpa using e), hg.cell c (by simpa using e), by omega, e, f.grown hg, k.grown hg⟩
theorem table_os (w : World) (R : Nat) (hR : R < w.heap.size) : Table (allocs w (osT w.heap.size)) R (w.heap.size + 25) := by
  have hz : (allocs w (osT w.heap.size)).heap.size = w.heap.size + 26 := by rw [allocs_size]; rfl
  refine ⟨by omega, by omega, fun i hi => ?_⟩
  rcases (by omega : i = 0 ∨ i = 1 ∨ i = 2 ∨ i = 3 ∨ i = 4 ∨ i = 5 ∨ i = 6 ∨ i = 7) with rfl | rfl | rfl | rfl | rfl | rfl | rfl | rfl
  · exact ⟨w.heap.size + 4, _, _, (cell_of_row _ _ _ _ _ _ (allocs_new w (osT w.heap.size) 25 _ rfl)).trans rfl, (cell_of_row _ _ _ _ _ _ (allocs_new w (osT w.heap.size) 4 _ rfl)).trans rfl, (cell_of_row _ _ _ _ _ _ (allocs_new w (osT w.heap.size) 4 _ rfl)).trans rfl, by omega, by omega,
      rdX_lit w (osT w.heap.size) 2 R [10, 11, 15] rfl hR (by decide), rdX_lit w (osT w.heap.size) 3 R [10, 11, 19, 10, 11, 17, 13, 15] rfl hR (by decide)⟩
  · exact ⟨w.heap.size + 7, _, _, (cell_of_row _ _ _ _ _ _ (allocs_new w (osT w.heap.size) 25 _ rfl)).trans rfl, (cell_of_row _ _ _ _ _ _ (allocs_new w (osT w.heap.size) 7 _ rfl)).trans rfl, (cell_of_row _ _ _ _ _ _ (allocs_new w (osT w.heap.size) 7 _ rfl)).trans rfl, by omega, by omega,
      rdX_lit w (osT w.heap.size) 5 R [10, 11, 18] rfl hR (by decide), rdX_lit w (osT w.heap.size) 6 R [10, 11, 15, 10, 11, 17, 16] rfl hR (by decide)⟩
  · exact ⟨w.heap.size + 10, _, _, (cell_of_row _ _ _ _ _ _ (allocs_new w (osT w.heap.size) 25 _ rfl)).trans rfl, (cell_of_row _ _ _ _ _ _ (allocs_new w (osT w.heap.size) 10 _ rfl)).trans rfl, (cell_of_row _ _ _ _ _ _ (allocs_new w (osT w.heap.size) 10 _ rfl)).trans rfl, by omega, by omega,
      rdX_lit w (osT w.heap.size) 8 R [10, 11, 16] rfl hR (by decide), rdX_lit w (osT w.heap.size) 9 R [10, 12, 11, 15, 12] rfl hR (by decide)⟩
  · exact ⟨w.heap.size + 13, _, _, (cell_of_row _ _ _ _ _ _ (allocs_new w (osT w.heap.size) 25 _ rfl)).trans rfl, (cell_of_row _ _ _ _ _ _ (allocs_new w (osT w.heap.size) 13 _ rfl)).trans rfl, (cell_of_row _ _ _ _ _ _ (allocs_new w (osT w.heap.size) 13 _ rfl)).trans rfl, by omega, by omega,
      rdX_lit w (osT w.heap.size) 11 R [0, 10, 16] rfl hR (by decide), rdX_lit w (osT w.heap.size) 12 R [10, 12, 1, 15] rfl hR (by decide)⟩
  · exact ⟨w.heap.size + 16, _, _, (cell_of_row _ _ _ _ _ _ (allocs_new w (osT w.heap.size) 25 _ rfl)).trans rfl, (cell_of_row _ _ _ _ _ _ (allocs_new w (osT w.heap.size) 16 _ rfl)).trans rfl, (cell_of_row _ _ _ _ _ _ (allocs_new w (osT w.heap.size) 16 _ rfl)).trans rfl, by omega, by omega,
      rdX_lit w (osT w.heap.size) 14 R [10, 11, 19] rfl hR (by decide), rdX_lit w (osT w.heap.size) 15 R [10, 11, 18, 10, 11, 17, 16] rfl hR (by decide)⟩
  · exact ⟨w.heap.size + 18, _, _, (cell_of_row _ _ _ _ _ _ (allocs_new w (osT w.heap.size) 25 _ rfl)).trans rfl, (cell_of_row _ _ _ _ _ _ (allocs_new w (osT w.heap.size) 18 _ rfl)).trans rfl, (cell_of_row _ _ _ _ _ _ (allocs_new w (osT w.heap.size) 18 _ rfl)).trans rfl, by omega, by omega,
      rdX_lit w (osT w.heap.size) 17 R [10, 13, 14] rfl hR (by decide), rdX_lit w (osT w.heap.size) 0 R [10] rfl hR (by decide)⟩
  · exact ⟨w.heap.size + 21, _, _, (cell_of_row _ _ _ _ _ _ (allocs_new w (osT w.heap.size) 25 _ rfl)).trans rfl, (cell_of_row _ _ _ _ _ _ (allocs_new w (osT w.heap.size) 21 _ rfl)).trans rfl, (cell_of_row _ _ _ _ _ _ (allocs_new w (osT w.heap.size) 21 _ rfl)).trans rfl, by omega, by omega,
      rdX_lit w (osT w.heap.size) 19 R [10, 10, 15] rfl hR (by decide), rdX_lit w (osT w.heap.size) 20 R [10, 13] rfl hR (by decide)⟩
  · exact ⟨w.heap.size + 24, _, _, (cell_of_row _ _ _ _ _ _ (allocs_new w (osT w.heap.size) 25 _ rfl)).trans rfl, (cell_of_row _ _ _ _ _ _ (allocs_new w (osT w.heap.size) 24 _ rfl)).trans rfl, (cell_of_row _ _ _ _ _ _ (allocs_new w (osT w.heap.size) 24 _ rfl)).trans rfl, by omega, by omega,
      rdX_lit w (osT w.heap.size) 22 R [10, 11, 17, 12] rfl hR (by decide), rdX_lit w (osT w.heap.size) 23 R [10, 12, 11, 12, 18] rfl hR (by decide)⟩
/-- What l20Equals leaves. -/
def Eqd (R N : Nat) (w : World) (e : Ending) (w' : World) : Prop := ∃ v v', e = .returned (.tuple #[v, v']) ∧ RdX w' R v ∧ RdX w' R v' ∧ Rdr w' R N ∧ w.grownBy w' (some R)
theorem Rdr.grown0 {w w' : World} {R N : Nat} (h : Rdr w R N) (hg : w.grownBy w' none) : Rdr w' R N :=
  h.below (B := w.heap.size) ⟨hg.os, hg.tape, hg.output, hg.size, fun k hk => hg.block k hk (by simp)⟩ h.lt
def pickV (a b c : Value) (j : Nat) : Value := if j = 0 then a else if j = 1 then b else c
theorem pickV_all {P : Value → Prop} {a b c : Value} (ha : P a) (hb : P b) (hc : P c) (j : Nat) : P (pickV a b c j) := by
  unfold pickV
  split
  · exact ha
  · split
    · exact hb
    · exact hc
theorem pickV_at (a b c : Value) (j : Nat) (h : j < ([a, b, c] : List Value).length) : ([a, b, c] : List Value)[j]'h = pickV a b c j := by
  have h : j < 3 := h
  rcases (by omega : j = 0 ∨ j = 1 ∨ j = 2) with rfl | rfl | rfl <;> rfl
theorem grown_cellsR {W w1 : World} {R : Nat} (h : W.grownBy w1 (some R)) : ∀ (b o : Nat), b < W.heap.size → b ≠ R → w1.cell? ⟨b, o, none⟩ = W.cell? ⟨b, o, none⟩ :=
  fun b o hb hne => h.cell_far ⟨b, o, none⟩ hb (by simpa using hne)
set_option maxRecDepth 100000 in
set_option maxHeartbeats 8000000 in
theorem spec_l20Equals (R N : Nat) (w : World) (h : Rdr w R N) (hN : N ≤ 80000) :
    Calls Tryz.prog 40 #[.pointer (some ⟨R, 0, none⟩)] w (Eqd R (N + 200) w) := by
  have hR := h.lt
  have HT := Lib.hid (table_os w R hR)
  have HX := Lib.hid (rdX_lit w (osT w.heap.size) 0 R [10] rfl hR (by decide))
  have HY := Lib.hid (rdX_lit w (osT w.heap.size) 1 R [11] rfl hR (by decide))
  have HG := Lib.hid (allocs_grown w (osT w.heap.size) (some R))
  have HRd := Lib.hid (h.grown0 (allocs_grown w (osT w.heap.size) none))
  go_enter Tryz.func40, Tryz.ntmps40
  clear h
  go_upto_region 3 with (fail)
  go_cut [6] (fun s6 wx => ∃ g, s6 = .slice (some ⟨g, 0, none⟩) 8 8 ∧ Table wx R g ∧ RdX wx R (.slice (some ⟨w.heap.size, 0, none⟩) 1 1) ∧ RdX wx R (.slice (some ⟨w.heap.size + 1, 0, none⟩) 1 1) ∧ Rdr wx R N ∧ w.grownBy wx (some R))
  case first =>
    go_wp2_with fail
    go_meet
    exact ⟨w.heap.size + 25, rfl, HT.out, HX.out, HY.out, HRd.out, HG.out⟩
  case rest =>
    obtain ⟨g, rfl, tb, rx, ry, hr0, hg0⟩ := hcut
    clear HT HX HY HG HRd
    have TB := Lib.hid tb
    have RX := Lib.hid rx
    have RY := Lib.hid ry
    clear tb rx ry
    go_wp2_with fail
    refine (spec_pick R N 3 _ hr0 (by omega) (by omega)).mono ?_
    rintro e w1 ⟨p, rfl, hp, hr1, hg1⟩
    have hr1l := hr1.lt
    have HG1 := Lib.hid (hg0.trans hg1)
    have TB1 := Lib.hid (TB.out.grown hg1)
    have RX1 := Lib.hid (RX.out.grown hg1)
    have RY1 := Lib.hid (RY.out.grown hg1)
    obtain ⟨h0, h1⟩ := hp.2 (by omega)
    clear hp hr0 hg0 hg1 TB RX RY
    rcases (by omega : p = 0 ∨ p = 1 ∨ p = 2) with rfl | rfl | rfl
    · clear TB1 RX1 RY1
      go_wp2_with fail
      refine (spec_l20Expr R (N + 1) 5 14 _ hr1 (by omega) (by omega) (by omega)).mono ?_
      rintro e w2 ⟨d, v, rfl, row, hd, hr2, hg2, hz⟩
      obtain ⟨xs, g2, c2, rfl, rfl, own2⟩ := row_some row hz
      have hr2l := hr2.lt
      have hcc := own_cap own2
      have z2 := hg2.size
      go_wp2_with fail
      refine (spec_ExprSimple _ _ _ _ xs _ (rd_own own2) (Nat.le_refl _) (by omega) hcc).mono ?_
      rintro e w3 ⟨A3, c3, rfl, own3, hb3⟩
      have hsl := Pl.simple_len (e := xs)
      have HG3 := Lib.hid ((HG1.out.trans hg2).trans (only_of_below hb3 (some R)))
      have o2 := Lib.hid (rdX_own (own_below own2 hb3) hr1l hd)
      have o3 := Lib.hid (rdX_own own3 hr2l (by omega))
      have hr3 := Lib.hid ((hr2.below hb3 hr2l).more (show N + 1 + 70 ≤ N + 200 by omega))
      clear own2 own3 hb3 hr2 hg2 row hz hr1
      go_wp2_with fail
      go_ret2
      exact ⟨_, _, rfl, o2.out, o3.out, hr3.out, HG3.out⟩
    · clear RX1 RY1
      go_wp2_with fail
      refine (spec_pick R (N + 1) 8 _ hr1 (by omega) (by omega)).mono ?_
      rintro e w2 ⟨p2, rfl, hp2, hr2, hg2⟩
      obtain ⟨i0, i1⟩ := hp2.2 (by omega)
      obtain ⟨i, rfl⟩ := Int.eq_ofNat_of_zero_le i0
      obtain ⟨hgl, hgR, hall⟩ := TB1.out.grown hg2
      obtain ⟨gp, v1, v2, ca, cb, cc, hpl, hpR, X1, X2⟩ := hall i (by omega)
      have O1 := Lib.hid X1
      have O2 := Lib.hid X2
      have HR2 := Lib.hid (hr2.more (show N + 1 + 1 ≤ N + 200 by omega))
      have HG2 := Lib.hid (HG1.out.trans hg2)
      clear hall X1 X2 hp2 hr1 hr2 hg2 TB1 HG1
      go_wp2_with fail
      go_quiet (fail)
      go_wp2_with fail
      go_ret2
      exact ⟨v1, v2, rfl, O1.out, O2.out, HR2.out.drewN _, only_drewN HG2.out _⟩
    · clear TB1
      have E1 := Lib.hid (fun w0 h => spec_l20Expr R (N + 1) 3 14 w0 h (by omega) (by omega) (by omega))
      have E2 := Lib.hid (fun w0 h => spec_l20Expr R (N + 1 + 70) 2 14 w0 h (by omega) (by omega) (by omega))
      have E3 := Lib.hid (fun w0 h => spec_pick R (N + 1 + 70 + 70) 3 w0 h (by omega) (by omega))
      have HR1 := Lib.hid hr1
      have hlit := pickV_at
      have hp0 : ∀ a b c, pickV a b c 0 = a := fun _ _ _ => rfl
      have hp1 : ∀ a b c, pickV a b c 1 = b := fun _ _ _ => rfl
      have hp2 : ∀ a b c, pickV a b c 2 = c := fun _ _ _ => rfl
      clear hr1
      go_upto_region 11 with (fail)
      go_region_with (first
        | (go_at_call_of 57 (Value.int IntKind.i64 3); refine (E1.out _ (by exact HR1.out)).mono ?_; rintro e w2 ⟨d, v, rfl, row, hd, hr2, hg2, hz⟩; obtain ⟨xs, g2, c2, rfl, rfl, own2⟩ := row_some row hz; have HR2 := Lib.hid hr2; have OW2 := Lib.hid own2; have HG2 := Lib.hid hg2; clear hr2 own2 hg2 row hz)
        | (go_at_call_of 57 (Value.int IntKind.i64 2); go_loud (refine (E2.out _ (by exact HR2.out)).mono ?_; rintro e w3 ⟨d3, v3, rfl, row3, hd3, hr3, hg3, hz3⟩; obtain ⟨ys, g3, c3, rfl, rfl, own3⟩ := row_some row3 hz3; have hr3l := hr3.lt; have hne3 : w3.heap.size ≠ R := by omega); have HR3 := Lib.hid hr3; have OW3 := Lib.hid own3; have HG3 := Lib.hid hg3; clear hr3 own3 hg3 row3 hz3)
        | (go_at_call 32; refine (E3.out _ (by first | exact HR3.out | exact HR3.out.alloc _)).mono ?_; rintro e w5 ⟨p5, rfl, hp5, hr5, hg5⟩; obtain ⟨j0, j1⟩ := hp5.2 (by omega); obtain ⟨j, rfl⟩ := Int.eq_ofNat_of_zero_le j0; have j2 : IntKind.i64.wrap (j : Int) = j := IntWalk.i64_in _ (by omega); have j3 : j < 3 := Int.ofNat_lt.1 j1; have hgc := grown_cellsR hg5))
      all_goals go_wp2_with fail
      all_goals go_ret2
      all_goals have G5 : w3.grownBy w5 (some R) := by first | exact hg5 | exact (World.grownBy_alloc w3 _ (some R)).trans hg5
      all_goals have G25 := HG3.out.trans G5
      all_goals have G12 : w1.grownBy w2 (some R) := by first | exact HG2.out | exact (only_drewN (World.grownBy.refl w1 (some R)) 1).trans HG2.out
      all_goals have G15 := G12.trans G25
      all_goals have X2 := (rdX_own OW2.out hr1l hd).grown G25
      all_goals have X3 := (rdX_own OW3.out HR2.out.lt hd3).grown G5
      all_goals have XP := pickV_all (P := RdX w5 R) (RX1.out.grown G15) (RY1.out.grown G15) X3 j
      all_goals have XG := HG1.out.trans G15
      all_goals have XR := hr5.more (show N + 1 + 70 + 70 + 1 ≤ N + 200 by omega)
      · exact ⟨_, _, rfl, X2, XP, XR, XG⟩
      · first
          | exact ⟨_, _, rfl, X2, XP, XR, XG⟩
          | exact ⟨_, _, rfl, X2.grown (World.grownBy_alloc w5 _ (some R)), pickV_all (P := RdX _ R) ((RX1.out.grown G15).grown (World.grownBy_alloc w5 _ (some R))) ((RY1.out.grown G15).grown (World.grownBy_alloc w5 _ (some R))) (X3.grown (World.grownBy_alloc w5 _ (some R))) j, XR.alloc _, XG.trans (World.grownBy_alloc w5 _ (some R))⟩
          | exact ⟨_, _, rfl, X2.grown (World.grownBy_alloc w5 _ (some R)), pickV_all (P := RdX _ R) ((RX1.out.grown G15).grown (World.grownBy_alloc w5 _ (some R))) ((RY1.out.grown G15).grown (World.grownBy_alloc w5 _ (some R))) (X3.grown (World.grownBy_alloc w5 _ (some R))) j, (XR.alloc _).drewN _, only_drewN (XG.trans (World.grownBy_alloc w5 _ (some R))) _⟩
end Go.Proofs.YtamhpgledbmnoaaGreatDoor
