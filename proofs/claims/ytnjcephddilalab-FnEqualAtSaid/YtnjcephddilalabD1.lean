/-
  The reader of codes that the laws draw their inputs by: opening it, picking numbers. Whatever is picked lies in its range; only the reader's own block turns.
  Conditions: as stated at each.
-/
import Derived.Test.YtnjcephddilalabSl
namespace Go.Proofs.Ytnjcephddilalab
set_option linter.unusedVariables false
set_option linter.unusedSimpArgs false
open Go.RowKit

def U8 (zs : List Int) : List Value := zs.map (.int .u8)
/-- Block R is a reader that has picked at most N times: a code of at most 2000 bytes below R, and its place. -/
def Rdr (w : World) (R N : Nat) : Prop :=
  ∃ (A : Option Addr) (n c : Nat) (p : Int) (zs : List Int), Blk w R 86 #[.slice A n c, .int .i64 p] ∧ 0 ≤ p ∧ p ≤ N ∧ n ≤ 2000 ∧ Rd w R A n (U8 zs) ∧ ∀ z ∈ zs, 0 ≤ z ∧ z ≤ 255
theorem Rdr.more {w : World} {R N M : Nat} (h : Rdr w R N) (hM : N ≤ M) : Rdr w R M := by
  obtain ⟨A, n, c, p, zs, h1, h2, h3, h4⟩ := h
  exact ⟨A, n, c, p, zs, h1, h2, by omega, h4⟩
theorem Rdr.lt {w : World} {R N : Nat} (h : Rdr w R N) : R < w.heap.size := by
  obtain ⟨A, n, c, p, zs, h1, _⟩ := h
  exact h1.lt
theorem Rdr.below {w w' : World} {R N B : Nat} (h : Rdr w R N) (hb : Below B w w') (hR : R < B) : Rdr w' R N := by
  obtain ⟨A, n, c, p, zs, h1, h2, h3, h4, h5, h6⟩ := h
  exact ⟨A, n, c, p, zs, h1.below hb hR, h2, h3, h4, h5.keep fun q hq => hb.cell (p := q) (by omega), h6⟩
theorem Rdr.drewN {w : World} {R N : Nat} (h : Rdr w R N) (q : Nat) : Rdr (w.drewN q) R N := h

/-- What was drawn lies in its range. -/
def InR (n v : Int) : Prop := (n < 1 → v = 0) ∧ (1 ≤ n → 0 ≤ v ∧ v < n)
def Picked (n : Int) (R N : Nat) (w : World) (e : Ending) (w' : World) : Prop :=
  ∃ v, e = .returned (.int .i64 v) ∧ InR n v ∧ Rdr w' R (N + 1) ∧ w.grownBy w' (some R)

theorem only_drewN {a w : World} {row : Option Nat} (h : a.grownBy w row) (n : Nat) : a.grownBy (w.drewN n) row := ⟨h.os, h.tape, h.output, h.size, h.block⟩
theorem only_of_below {a w : World} (h : Below a.heap.size a w) (row : Option Nat) : a.grownBy w row := ⟨h.os, h.tape, h.output, h.size, fun i hi _ => h.block i hi⟩
theorem only_setCell {w : World} {g o : Nat} (u : Value) : w.grownBy (w.setCell ⟨g, o, none⟩ u) (some g) :=
  ⟨rfl, rfl, rfl, by simp [World.setCell], fun i hi hne => Below.heap_setCell w ⟨g, o, none⟩ u i (by rintro rfl; exact hne rfl)⟩

theorem mod_in {n x : Int} (hn : 1 ≤ n) : InR n (x % n) := ⟨fun h => absurd h (by omega), fun _ => ⟨Int.emod_nonneg _ (by omega), Int.emod_lt_of_pos _ (by omega)⟩⟩
theorem xor_in {n x : Int} (hn : 1 ≤ n) (h0 : 0 ≤ x) (h1 : x < 4611686018427387904) : InR n ((bits .xor .i64 x (x / 64)).tmod n) := by
  rw [Pl.i64_xor x (x / 64) h0 (by omega) (by omega) (by omega), Int.tmod_eq_emod_of_nonneg (Pl.lxor_nonneg _ _)]
  exact mod_in hn
theorem U8_get {zs : List Int} {n i : Nat} (h : (U8 zs).length = n) (hi : i < n) : ∃ z, zs[i]? = some z ∧ (U8 zs)[i]? = some (.int .u8 z) := by
  have hl : i < zs.length := by simp [U8] at h; omega
  exact ⟨zs[i], List.getElem?_eq_getElem hl, by simp [U8, hl]⟩

set_option maxHeartbeats 1000000 in
set_option maxRecDepth 100000 in
theorem spec_pick (R N : Nat) (n : Int) (w : World) (h : Rdr w R N) (hN : N ≤ 1000000) (hn : n ≤ 1000000000) :
    Calls Try.prog 58 #[.pointer (some ⟨R, 0, none⟩), .int .i64 n] w (Picked n R N w) := by
  obtain ⟨A, m, c, p, zs, hb, hp0, hp1, hm, hr, hz⟩ := h
  have c0 : w.cell? ⟨R, 0, none⟩ = some (.slice A m c) := by rw [hb.cell]; rfl
  have c1 : w.cell? ⟨R, 1, none⟩ = some (.int .i64 p) := by rw [hb.cell]; rfl
  have f1 : w.frozen? ⟨R, 1, none⟩ = false := hb.frozen 1
  have hb2 : Blk (w.setCell ⟨R, 1, none⟩ (.int .i64 (p + 1))) R 86 #[.slice A m c, .int .i64 (p + 1)] := hb.set_ 1 _
  have hr2 : Rd (w.setCell ⟨R, 1, none⟩ (.int .i64 (p + 1))) R A m (U8 zs) := hr.keep fun q hq => World.cell?_setCell_other w _ q _ (fun e => by subst e; exact absurd hq (Nat.lt_irrefl _))
  have hend : Rdr (w.setCell ⟨R, 1, none⟩ (.int .i64 (p + 1))) R (N + 1) := ⟨A, m, c, p + 1, zs, hb2, by omega, by omega, hm, hr2, hz⟩
  have HE := Lib.hid hend
  have HR := Lib.hid hr2
  have HZ := Lib.hid hz
  have d0 : (w.setCell ⟨R, 1, none⟩ (.int .i64 (p + 1))).cell? ⟨R, 0, none⟩ = some (.slice A m c) := by rw [hb2.cell]; rfl
  have d1 : (w.setCell ⟨R, 1, none⟩ (.int .i64 (p + 1))).cell? ⟨R, 1, none⟩ = some (.int .i64 (p + 1)) := by rw [hb2.cell]; rfl
  clear hend hr2 hz hb hb2 hr
  by_cases h1 : n < 1
  · have HI : Hid (InR n 0) := Lib.hid ⟨fun _ => rfl, fun h => absurd h (by omega)⟩
    go_enter Try.func58, Try.ntmps58
    go_wp2
    go_ret
    exact ⟨0, rfl, HI.out, HE.out, only_setCell _⟩
  · rcases Nat.eq_zero_or_pos m with h0 | h0
    · subst h0
      have HI : Hid (InR n 0) := Lib.hid ⟨fun _ => rfl, fun _ => by omega⟩
      go_enter Try.func58, Try.ntmps58
      go_wp2
      go_ret
      exact ⟨0, rfl, HI.out, HE.out, only_setCell _⟩
    · obtain ⟨b, off, rfl, hbR, hc⟩ := HR.out.pos h0
      have hl := HR.out.len
      have HL := Lib.hid hl
      have HC := Lib.hid hc
      clear hl hc
      have hm0 : ((m : Int) == 0) = false := by simp; omega
      by_cases hlt : p < m
      · obtain ⟨i, rfl⟩ := Int.eq_ofNat_of_zero_le hp0
        obtain ⟨z, e1, e2⟩ := U8_get HL.out (show i < m by omega)
        have hzz := HZ.out z (List.mem_of_getElem? e1)
        have x1 : (w.setCell ⟨R, 1, none⟩ (.int .i64 ((i : Int) + 1))).cell? ⟨b, off + i, none⟩ = some (.int .u8 z) := HC.out i _ e2
        clear e1 e2
        have HI := Lib.hid (mod_in (n := n) (x := z) (by omega))
        go_enter Try.func58, Try.ntmps58
        go_wp2
        go_ret
        exact ⟨_, rfl, HI.out, HE.out, only_setCell _⟩
      · obtain ⟨i, rfl⟩ := Int.eq_ofNat_of_zero_le hp0
        obtain ⟨y, e1, e2⟩ := U8_get HL.out (show i % m < m from Nat.mod_lt _ h0)
        have hyy := HZ.out y (List.mem_of_getElem? e1)
        have x1 : (w.setCell ⟨R, 1, none⟩ (.int .i64 ((i : Int) + 1))).cell? ⟨b, off + i % m, none⟩ = some (.int .u8 y) := HC.out _ _ e2
        clear e1 e2
        obtain ⟨z, e1, e2⟩ := U8_get HL.out (show (i * 7 + 3) % m < m from Nat.mod_lt _ h0)
        have hzz := HZ.out z (List.mem_of_getElem? e1)
        have x2 : (w.setCell ⟨R, 1, none⟩ (.int .i64 ((i : Int) + 1))).cell? ⟨b, off + (i * 7 + 3) % m, none⟩ = some (.int .u8 z) := HC.out _ _ e2
        clear e1 e2
        have hmp : (0 : Int) < m := by omega
        have a1 : 0 ≤ (i : Int) % m := Int.emod_nonneg _ (by omega)
        have a2 : (i : Int) % m < m := Int.emod_lt_of_pos _ hmp
        have a3 : 0 ≤ ((i : Int) * 7 + 3) % m := Int.emod_nonneg _ (by omega)
        have a4 : ((i : Int) * 7 + 3) % m < m := Int.emod_lt_of_pos _ hmp
        have a5 : 0 ≤ (i : Int) / m := Int.ediv_nonneg (by omega) (by omega)
        have a6 : (i : Int) / m ≤ i := Int.ediv_le_self _ (by omega)
        have hmne : ¬ (m : Int) = 0 := by omega
        go_enter Try.func58, Try.ntmps58
        go_wp2_with fail
        go_quiet (fail)
        go_wp2
        go_ret
        exact ⟨_, rfl, xor_in (by omega) (by omega) (by omega), HE.out.drewN _, only_drewN (only_setCell _) _⟩

/-- A code that came in, as the reader takes it. -/
def Code8 (w : World) (a : Option Addr) (n : Nat) : Prop := ∃ zs : List Int, Rd w w.heap.size a n (U8 zs) ∧ ∀ z ∈ zs, 0 ≤ z ∧ z ≤ 255
theorem code_of_row {w : World} {a : Option Addr} {len cap : Nat} {zs : List Int} (h : IsRow .u8 w a len cap zs) : Code8 w a len ∧ len ≤ cap ∧ cap ≤ maxLen := by
  rcases h with ⟨rfl, rfl, rfl, rfl⟩ | ⟨x, rfl, hl, hm, hz, hc, hw⟩
  · exact ⟨⟨[], Rd.zero, fun z hz => by cases hz⟩, Nat.le_refl _, by simp [maxLen]⟩
  · have hu : ∀ z ∈ zs, 0 ≤ z ∧ z ≤ 255 := fun z hz => by
      have := bounds_u8 (hw z hz)
      omega
    refine ⟨⟨zs.take len, ⟨by simp [U8]; omega, ?_⟩, fun z hz => hu z (List.mem_of_mem_take hz)⟩, hl, hm⟩
    rcases Nat.eq_zero_or_pos len with h0 | h0
    · exact .inl h0
    · obtain ⟨b, off, spot⟩ := x
      have h1 := hc 0 (by omega)
      have hspot : spot = none := by simpa [Addr.add] using World.cell?_spot h1
      subst hspot
      refine .inr ⟨b, off, rfl, ?_, fun j u hu => ?_⟩
      · have := World.block_lt_of_cell? w _ h1
        rwa [block_of_add] at this
      · have hj : j < len := by
          have := (List.getElem?_eq_some_iff.1 hu).1
          simp [U8] at this
          omega
        have h2 := hc j (by omega)
        have e : (⟨b, off, none⟩ : Addr).add j = ⟨b, off + j, none⟩ := by
          unfold Addr.add
          split
          · rename_i h0; subst h0; rfl
          · rfl
        rw [e] at h2
        rw [h2]
        have hx : (U8 (zs.take len))[j]? = some (.int .u8 (zs.getD j 0)) := by
          simp [U8, List.getElem?_take, hj]
          rw [List.getElem?_eq_getElem (by omega)]
          simp
        rw [hx] at hu
        exact hu
theorem Code8.take {w : World} {a : Option Addr} {n : Nat} (h : Code8 w a n) {m : Nat} (hm : m ≤ n) : Code8 w a m := by
  obtain ⟨zs, h1, h2⟩ := h
  refine ⟨zs.take m, ⟨?_, ?_⟩, fun z hz => h2 z (List.mem_of_mem_take hz)⟩
  · have := h1.len
    simp [U8] at this ⊢
    omega
  · rcases Nat.eq_zero_or_pos m with h0 | h0
    · exact .inl h0
    · obtain ⟨b, off, rfl, hb, hc⟩ := h1.pos (by omega)
      refine .inr ⟨b, off, rfl, hb, fun j u hu => hc j u ?_⟩
      have hj : j < m := by
        have := (List.getElem?_eq_some_iff.1 hu).1
        simp [U8] at this
        omega
      simpa [U8, List.getElem?_take, hj] using hu
/-- The reader as it is opened. -/
def Opened (w : World) (e : Ending) (w' : World) : Prop := ∃ R, e = .returned (.pointer (some ⟨R, 0, none⟩)) ∧ w.heap.size ≤ R ∧ Rdr w' R 0 ∧ Below w.heap.size w w'
set_option maxHeartbeats 400000 in
theorem spec_l20Open (a : Option Addr) (n c : Nat) (w : World) (h : Code8 w a n) (hc : n ≤ c) (hm : c ≤ maxLen) :
    Calls Try.prog 41 #[.slice a n c] w (Opened w) := by
  unfold maxLen at hm
  by_cases hn : 2000 < n
  · obtain ⟨zs, h1, h2⟩ := h.take (m := 2000) (by omega)
    have HZ := Lib.hid h2
    clear h2 h
    have hn' : (2000 : Int) < n := by omega
    go_enter Try.func41, Try.ntmps41
    go_wp2
    go_ret
    exact ⟨_, rfl, Nat.le_refl _, ⟨a, 2000, c, 0, zs, Blk.new _ _ _, by omega, by omega, by omega, h1.alloc (Nat.le_refl _) _, HZ.out⟩, by go_grown⟩
  · obtain ⟨zs, h1, h2⟩ := h
    have HZ := Lib.hid h2
    clear h2
    have hn' : ¬ (2000 : Int) < n := by omega
    go_enter Try.func41, Try.ntmps41
    go_wp2
    go_ret
    exact ⟨_, rfl, Nat.le_refl _, ⟨a, n, c, 0, zs, Blk.new _ _ _, by omega, by omega, by omega, h1.alloc (Nat.le_refl _) _, HZ.out⟩, by go_grown⟩

/-- Whether one of n is met. -/
def OddOf (n : Int) (R N : Nat) (w : World) (e : Ending) (w' : World) : Prop := ∃ b, e = .returned (.bool b) ∧ (b = true → 0 < n) ∧ Rdr w' R (N + 1) ∧ w.grownBy w' (some R)
set_option maxHeartbeats 400000 in
theorem spec_odd (R N : Nat) (n : Int) (w : World) (h : Rdr w R N) (hN : N ≤ 1000000) (hn : n ≤ 1000000000) :
    Calls Try.prog 69 #[.pointer (some ⟨R, 0, none⟩), .int .i64 n] w (OddOf n R N w) := by
  by_cases h0 : 0 < n
  · go_enter Try.func69, Try.ntmps69
    go_wp2_with fail
    refine (spec_pick R N n _ h hN hn).mono ?_
    rintro e w1 ⟨v, rfl, hv, hr, hg⟩
    go_wp2
    go_ret
    exact ⟨_, rfl, fun _ => h0, hr, hg⟩
  · go_enter Try.func69, Try.ntmps69
    go_wp2
    go_ret
    exact ⟨false, rfl, (fun hf => by cases hf), Rdr.more h (by omega), World.grownBy.refl w _⟩
end Go.Proofs.Ytnjcephddilalab
