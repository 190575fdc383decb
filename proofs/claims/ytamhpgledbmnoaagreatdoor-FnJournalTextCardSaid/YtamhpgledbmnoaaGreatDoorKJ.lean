/-
  Contracts of texts of journals, and of the program's reading of them.
  Conditions: as stated at each.
-/
import Derived.Test.YtamhpgledbmnoaaGreatDoorPy
import Derived.Test.YtamhpgledbmnoaaGreatDoorDl
import Derived.Test.YtamhpgledbmnoaaGreatDoorSd
import Derived.Test.YtamhpgledbmnoaaGreatDoorPg
import Derived.Test.YtamhpgledbmnoaaGreatDoorDt
import Derived.Test.YtamhpgledbmnoaaGreatDoorRi
import Derived.Test.YtamhpgledbmnoaaGreatDoorRs
namespace Go.Proofs.YtamhpgledbmnoaaGreatDoor
set_option linter.unusedVariables false
open Go.RowKit
/-- What a reader of a journal leaves. -/
def OutJ (x : List Pl.Dd × Nat) (w : World) (e : Ending) (w' : World) : Prop :=
  ∃ A c, e = .returned (.tuple #[.slice A x.1.length c, .int .i64 (x.2 : Int)]) ∧ w'.ownsRow w.heap.size 24 3 (.slice A x.1.length c) x.1.length (D3 x.1) ∧ Below w.heap.size w w'
end Go.Proofs.YtamhpgledbmnoaaGreatDoor
namespace Go.Proofs.YtamhpgledbmnoaaGreatDoor
set_option linter.unusedVariables false
set_option linter.unusedSimpArgs false
open Go.RowKit
namespace Pl
theorem jt_take {ds : List Dd} {j : Nat} {d : Dd} (h : ds[j]? = some d) : jt (ds.take (j + 1)) = jt (ds.take j) ++ (dtext d ++ [10]) := by
  rw [List.take_add_one, h]; exact jt_snoc _ _
theorem jtext_all' {ds : List Dd} (h : ∀ (j : Nat) (d : Dd), j < ds.length → ds[j]? = some d → dtext d ≠ []) : jtext ds = jt ds := by
  refine jtext_t fun d hd => ?_
  obtain ⟨j, hj⟩ := List.getElem?_of_mem hd
  exact h j d (List.getElem?_eq_some_iff.1 hj).1 hj
end Pl
theorem isEmpty_cases (u : List UInt8) : (u = [] ∧ (Ba u).toList.isEmpty = true) ∨ (u ≠ [] ∧ (Ba u).toList.isEmpty = false) := by
  rw [Ba_list]
  cases u with
  | nil => exact .inl ⟨rfl, rfl⟩
  | cons a r => exact .inr ⟨by simp, rfl⟩
set_option maxRecDepth 100000 in
set_option maxHeartbeats 4000000 in
theorem spec_JournalText (A : Option Addr) (n c B : Nat) (ds : List Pl.Dd) (w : World) (hx : RdD w B A n ds) (hB : B ≤ w.heap.size) (hn : n ≤ 2000000) (ht : ∀ D ∈ ds, D.t.length ≤ 2000000) :
    Calls Tryz.prog 15 #[.slice A n c] w fun e w' => e = .returned (.string (Ba (Pl.jtext ds))) ∧ Below w.heap.size w w' := by
  have hl := hx.1
  have HTX := Lib.hid ht
  rcases Nat.eq_zero_or_pos n with h0 | h0
  · subst h0
    obtain rfl := List.eq_nil_of_length_eq_zero hl
    have hr := Lib.hid (show Pl.jtext [] = [] from rfl)
    clear hx hl ht
    go_enter Tryz.func15, Tryz.ntmps15
    go_wp2_with fail
    refine wp_loop_rounds 1 ?_
    rw [rounds_succ]
    go_wp2_with fail
    go_ret
    exact ⟨by rw [hr.out]; rfl, Below.refl _ _⟩
  obtain ⟨b, off, rfl, hbl, hc⟩ := hx.pos h0
  have HC := Lib.hid hc
  have hL := Lib.hid hl
  clear hc hx hl ht
  go_enter Tryz.func15, Tryz.ntmps15
  go_wp2_with fail
  go_loopw [3, 4] (fun vs vi wr => ∃ j : Nat, j ≤ n ∧ vi = .int .i64 (j : Int) ∧ vs = .string (Ba (Pl.jt (ds.take j))) ∧ Hid (∀ (i : Nat) (d : Pl.Dd), i < j → ds[i]? = some d → Pl.dtext d ≠ []) ∧ Below w.heap.size w wr) (fun _ vi _ => n - (intOf vi).toNat)
  case atStart => exact ⟨0, by omega, rfl, rfl, Lib.hid (fun i d h => by omega), Below.refl _ _⟩
  case round =>
    obtain ⟨j, hj, rfl, rfl, hall, hb⟩ := hrel
    have hz := hb.size
    have hXl := Pl.jt_len (ds.take j)
    have hXl2 : (ds.take j).length ≤ 2000000 := by rw [List.length_take]; omega
    by_cases hlt : j < n
    · obtain ⟨⟨p, q, r⟩, eo⟩ : ∃ o, ds[j]? = some o := ⟨_, List.getElem?_eq_getElem (by have := hL.out; omega)⟩
      have hjt := Pl.jt_take eo
      obtain ⟨X, hX⟩ : ∃ X, Pl.jt (ds.take j) = X := ⟨_, rfl⟩
      rw [hX] at hjt hXl
      rw [hX]
      have hu0 := Pl.dtext_len ⟨p, q, r⟩
      obtain ⟨u1, u2, u3⟩ := HC.out j _ eo
      have c1 : wr.cell? ⟨b, off + j * 3, none⟩ = some (.int .i64 p) := (hb.cell (p := ⟨b, off + j * 3, none⟩) (show b < w.heap.size by omega)).trans u1
      have c2 : wr.cell? ⟨b, off + j * 3 + 1, none⟩ = some (.int .i64 q) := (hb.cell (p := ⟨b, off + j * 3 + 1, none⟩) (show b < w.heap.size by omega)).trans u2
      have c4 : wr.cell? ⟨b, off + j * 3 + 2, none⟩ = some (.string (Ba r)) := (hb.cell (p := ⟨b, off + j * 3 + 2, none⟩) (show b < w.heap.size by omega)).trans u3
      have hin : (j : Int) < (n : Int) := by omega
      have hj0 : (0 : Int) ≤ j := by omega
      have htr := HTX.out _ (List.mem_of_getElem? eo)
      have CT := Lib.hid (fun w' => spec_DeedText ⟨p, q, r⟩ w' htr)
      obtain ⟨u, hu⟩ : ∃ u, Pl.dtext ⟨p, q, r⟩ = u := ⟨_, rfl⟩
      rw [hu] at CT hjt hu0
      have HU := Lib.hid hu
      have HJ := Lib.hid hjt
      have EO := Lib.hid eo
      clear hu htr u1 u2 u3 hjt hX eo
      unfold deedV at CT
      go_wp2_with fail
      refine (CT.out _).mono ?_
      rintro e w5 ⟨rfl, hb5⟩
      have hz5 := hb5.size
      have hb5' : Below w.heap.size w w5 := hb.trans (hb5.mono hz)
      replace c1 := (hb5.cell (p := ⟨b, off + j * 3, none⟩) (show b < wr.heap.size by omega)).trans c1
      replace c2 := (hb5.cell (p := ⟨b, off + j * 3 + 1, none⟩) (show b < wr.heap.size by omega)).trans c2
      replace c4 := (hb5.cell (p := ⟨b, off + j * 3 + 2, none⟩) (show b < wr.heap.size by omega)).trans c4
      rcases isEmpty_cases u with ⟨hu, hbe⟩ | ⟨hu, hbe⟩
      · have hr := Lib.hid (Pl.jtext_f (List.mem_of_getElem? EO.out) (HU.out.trans hu))
        clear hu hb5 hb
        go_wp2_with fail
        go_ret
        exact ⟨by rw [hr.out]; rfl, hb5'⟩
      · have HN := Lib.hid hu
        have ka : ∀ w, (Op.stringOp .add (Ba X) (Ba u)).run Tryz.prog w = .ok (.string (Ba (X ++ u))) w := fun w => add_BaM (P := Tryz.prog) X u (by omega) w
        have kb : ∀ w, (Op.stringOp .add (Ba (X ++ u)) (⟨#[10]⟩ : ByteArray)).run Tryz.prog w = .ok (.string (Ba (X ++ (u ++ [10])))) w := fun w => by
          have := add_BaM (P := Tryz.prog) (X ++ u) [10] (by simp; omega) w
          rw [List.append_assoc] at this
          exact this
        clear hu hb5 hb
        go_wp2_with fail
        refine (CT.out _).mono ?_
        rintro e w6 ⟨rfl, hb6⟩
        have hb6' : Below w.heap.size w w6 := hb5'.trans (hb6.mono (by omega))
        clear hb6 hb5'
        go_wp2_with fail
        go_roundw
        case rel =>
          refine ⟨j + 1, by omega, by go_num, by rw [HJ.out], Lib.hid (fun i d hi hd => ?_), hb6'⟩
          rcases Nat.lt_or_ge i j with h | h
          · exact hall.out i d h hd
          · obtain rfl : i = j := by omega
            rw [EO.out] at hd
            injection hd with hd
            subst hd
            rw [HU.out]; exact HN.out
        case measure => simp [intOf]; omega
    · obtain rfl : j = n := by omega
      have hr := Lib.hid (show Pl.jtext ds = Pl.jt (ds.take j) by rw [Pl.jtext_all' (fun i d hi hd => hall.out i d (by have := hL.out; omega) hd), List.take_of_length_le (by have := hL.out; omega)])
      go_wp2_with fail
      go_ret
      exact ⟨by rw [hr.out]; rfl, hb⟩
end Go.Proofs.YtamhpgledbmnoaaGreatDoor
namespace Go.Proofs.YtamhpgledbmnoaaGreatDoor
set_option linter.unusedVariables false
set_option linter.unusedSimpArgs false
open Go.RowKit
theorem bld_below {T e : TypeId} {B b : Nat} {bs : List Value} {w w' : World} (h : Lib.IsBuilderF T e B b bs w) (hb : Below w.heap.size w w') : Lib.IsBuilderF T e B b bs w' := by
  have key : ∀ p, Lib.BuilderAtF T e B b p bs w → Lib.BuilderAtF T e B b p bs w' := by
    rintro p ⟨h1, v, h2, ⟨h3, h4⟩, h5⟩
    have lt : ∀ {k : Nat} {o : Obj}, w.heap[k]? = some o → w'.heap[k]? = some o := fun {k o} hk => (hb.block k (Array.getElem?_eq_some_iff.1 hk).1).trans hk
    refine ⟨h1, v, lt h2, ⟨h3, ?_⟩, h5⟩
    rcases h4 with h4 | ⟨g, cap, cur, fz, a1, a2, a3, a4⟩
    · exact .inl h4
    · exact .inr ⟨g, cap, cur, fz, a1, a2, lt a3, a4⟩
  exact h.elim (fun x => .inl (key _ x)) (fun x => .inr (key _ x))
theorem bld_new {T e : TypeId} (w : World) : Lib.IsBuilderF T e w.heap.size w.heap.size [] (w.alloc (.cells #[.pointer none, .slice none 0 0] T)) :=
  Lib.IsBuilderF.of (.inl ⟨Nat.le_refl _, .slice none 0 0, Blk.new w _ _, World.ownsRow_nil _ _ _ _, by simp [Value.ownBlock]⟩)
theorem byteCells_app (a b : List UInt8) : Lib.byteCells a ++ Lib.strCells (Ba b) = Lib.byteCells (a ++ b) := by
  simp [Lib.byteCells, Lib.strCells, Ba]
theorem lib_write {g : Nat} (X u : List UInt8) (w : World) (h : Lib.IsBuilderF 68 5 g g (Lib.byteCells X) w) (hX : X.length ≤ 1000000000000) (hu : u.length ≤ 1000000000000) (hg : g ≤ w.heap.size) :
    Calls Tryz.prog 37 #[.pointer (some ⟨g, 0, none⟩), .string (Ba u)] w fun e w' => (∃ v, e = .returned v) ∧ Lib.IsBuilderF 68 5 g g (Lib.byteCells (X ++ u)) w' ∧ Below g w w' := by
  refine (Tryz.Builder_WriteString_k g g (Lib.byteCells X) (Ba u) w h (by rw [Lib.byteCells_length, Ba_size]; omega) hg).mono ?_
  rintro e w' ⟨rfl, h1, h2, _⟩
  rw [byteCells_app] at h1
  exact ⟨⟨_, rfl⟩, .inr h1, h2⟩
set_option maxRecDepth 100000 in
set_option maxHeartbeats 4000000 in
theorem impl_JournalText (A : Option Addr) (n c B0 B : Nat) (ds : List Pl.Dd) (w : World) (hlib : LibOk B0 w) (hx : RdD w B A n ds) (hB : B ≤ w.heap.size) (hn : n ≤ 2000000) (ht : ∀ D ∈ ds, D.t.length ≤ 2000000) :
    Calls Tryz.prog 14 #[.slice A n c] w fun e w' => e = .returned (.string (Ba (Pl.jtext ds))) ∧ Below w.heap.size w w' := by
  have hl := hx.1
  have HTX := Lib.hid ht
  obtain ⟨g, hg⟩ : ∃ g, w.heap.size = g := ⟨_, rfl⟩
  have hBg : B ≤ g := by omega
  have hB0g : B0 ≤ g := by rw [← hg]; exact hlib.sz
  obtain ⟨w0, hw0⟩ : ∃ w0, w0 = w.alloc (.cells #[.pointer none, .slice none 0 0] 68) := ⟨_, rfl⟩
  have hz0 : w0.heap.size = g + 1 := by rw [hw0, ← hg]; simp
  have HB0 : Below g w w0 := by rw [hw0, ← hg]; go_grown
  have HI0 : Lib.IsBuilderF 68 5 g g (Lib.byteCells []) w0 := by rw [hw0, ← hg]; exact bld_new w
  have HL0 : LibOk B0 w0 := by rw [hw0]; exact hlib.alloc _
  have hc : ∀ j D, ds[j]? = some D → ∃ b off, A = some ⟨b, off, none⟩ ∧ b < g ∧ w.cell? ⟨b, off + j * 3, none⟩ = some (.int .i64 D.k) ∧ w.cell? ⟨b, off + j * 3 + 1, none⟩ = some (.int .i64 D.n) ∧ w.cell? ⟨b, off + j * 3 + 2, none⟩ = some (.string (Ba D.t)) := fun j D hj => by
    obtain ⟨b, off, rfl, hbl, h⟩ := hx.pos (by have := (List.getElem?_eq_some_iff.1 hj).1; omega)
    exact ⟨b, off, rfl, by omega, h j D hj⟩
  have HC := Lib.hid hc
  have hL := Lib.hid hl
  clear hc hx hl ht hlib
  go_enter Tryz.func14, Tryz.ntmps14
  go_upto_region 2 with (fail)
  rw [← hw0]
  clear hw0
  have HI0 := Lib.hid HI0
  go_wp2_with fail
  go_loopw [9] (fun vi wr => ∃ j : Nat, j ≤ n ∧ vi = .int .i64 (j : Int) ∧ Hid (∀ (i : Nat) (d : Pl.Dd), i < j → ds[i]? = some d → Pl.dtext d ≠ []) ∧ Hid (Lib.IsBuilderF 68 5 g g (Lib.byteCells (Pl.jt (ds.take j))) wr) ∧ LibOk B0 wr ∧ g + 1 ≤ wr.heap.size ∧ Below g w wr) (fun vi _ => n - (intOf vi).toNat)
  case atStart => exact ⟨0, by omega, rfl, Lib.hid (fun i d h => by omega), HI0, HL0, by omega, HB0⟩
  case round =>
    obtain ⟨j, hj, rfl, hall, HI, HL, hz, hb⟩ := hrel
    have hXl := Pl.jt_len (ds.take j)
    have hXl2 : (ds.take j).length ≤ 2000000 := by rw [List.length_take]; omega
    by_cases hlt : j < n
    · obtain ⟨⟨p, q, r⟩, eo⟩ : ∃ o, ds[j]? = some o := ⟨_, List.getElem?_eq_getElem (by have := hL.out; omega)⟩
      have hjt := Pl.jt_take eo
      obtain ⟨X, hX⟩ : ∃ X, Pl.jt (ds.take j) = X := ⟨_, rfl⟩
      rw [hX] at hjt hXl HI
      have hu0 := Pl.dtext_len ⟨p, q, r⟩
      obtain ⟨b, off, rfl, hbl, u1, u2, u3⟩ := HC.out j _ eo
      have c1 : wr.cell? ⟨b, off + j * 3, none⟩ = some (.int .i64 p) := (hb.cell (p := ⟨b, off + j * 3, none⟩) (show b < g by omega)).trans u1
      have c2 : wr.cell? ⟨b, off + j * 3 + 1, none⟩ = some (.int .i64 q) := (hb.cell (p := ⟨b, off + j * 3 + 1, none⟩) (show b < g by omega)).trans u2
      have c4 : wr.cell? ⟨b, off + j * 3 + 2, none⟩ = some (.string (Ba r)) := (hb.cell (p := ⟨b, off + j * 3 + 2, none⟩) (show b < g by omega)).trans u3
      have hin : (j : Int) < (n : Int) := by omega
      have hj0 : (0 : Int) ≤ j := by omega
      have htr := HTX.out _ (List.mem_of_getElem? eo)
      have CT := Lib.hid (fun w' h => impl_DeedText ⟨p, q, r⟩ B0 w' h htr)
      obtain ⟨u, hu⟩ : ∃ u, Pl.dtext ⟨p, q, r⟩ = u := ⟨_, rfl⟩
      rw [hu] at CT hjt hu0
      have HU := Lib.hid hu
      have HJ := Lib.hid hjt
      have EO := Lib.hid eo
      clear hu htr u1 u2 u3 hjt hX eo
      unfold deedV at CT
      obtain ⟨w1, hw1⟩ : ∃ w1, w1 = wr.alloc (.cells #[.int .i64 p, .int .i64 q, .string (Ba r)] 24) := ⟨_, rfl⟩
      have K1 : Blk w1 wr.heap.size 24 #[.int .i64 p, .int .i64 q, .string (Ba r)] := by rw [hw1]; exact Blk.new _ _ _
      have hb1 : Below wr.heap.size wr w1 := by rw [hw1]; go_grown
      have HL1 : LibOk B0 w1 := by rw [hw1]; exact HL.alloc _
      go_upto_region 5 with (fail)
      rw [← hw1]
      clear hw1 c1 c2 c4
      obtain ⟨c1, c2, c4⟩ := cells3t K1
      clear K1
      go_wp2_with fail
      refine (CT.out _ HL1).mono ?_
      rintro e w5 ⟨rfl, hb5⟩
      have hz1 := hb1.size
      have hz5 := hb5.size
      have hb5' : Below wr.heap.size wr w5 := hb1.trans (hb5.mono hz1)
      have HI5 := Lib.hid (bld_below HI.out hb5')
      have HL5 := HL1.on hb5
      have HB5 : Below g w w5 := hb.trans (hb5'.mono (by omega))
      clear c1 c2 c4 hb5 hb5' hb1 HL1 HL HI hb
      rcases isEmpty_cases u with ⟨hu, hbe⟩ | ⟨hu, hbe⟩
      · have hr := Lib.hid (Pl.jtext_f (List.mem_of_getElem? EO.out) (HU.out.trans hu))
        clear hu
        go_wp2_with fail
        go_ret
        exact ⟨by rw [hr.out]; rfl, by rw [hg]; exact HB5⟩
      · have HN := Lib.hid hu
        have ka : ∀ w, (Op.stringOp .add (Ba u) (⟨#[10]⟩ : ByteArray)).run Tryz.prog w = .ok (.string (Ba (u ++ [10]))) w := fun w => add_BaL (P := Tryz.prog) u [10] (by simp; omega) w
        have CWr := Lib.hid (lib_write X (u ++ [10]) w5 HI5.out (by omega) (by simp; omega) (by omega))
        clear hu
        go_wp2_with fail
        refine (CWr.out).mono ?_
        rintro e w6 ⟨⟨v6, rfl⟩, HI6, hb6⟩
        have hz6 := hb6.size
        have HB6 : Below g w w6 := HB5.trans hb6
        have HI6 := Lib.hid HI6
        have HL6 : LibOk B0 w6 := HL5.below (hb6.mono hB0g)
        clear hb6
        go_wp2_with fail
        go_roundw
        case rel =>
          refine ⟨j + 1, by omega, by go_num, Lib.hid (fun i d hi hd => ?_), by rw [HJ.out]; exact HI6, HL6, by omega, HB6⟩
          rcases Nat.lt_or_ge i j with h | h
          · exact hall.out i d h hd
          · obtain rfl : i = j := by omega
            rw [EO.out] at hd
            injection hd with hd
            subst hd
            rw [HU.out]; exact HN.out
        case measure => simp [intOf]; omega
    · obtain rfl : j = n := by omega
      have hr := Lib.hid (show Pl.jtext ds = Pl.jt (ds.take j) by rw [Pl.jtext_all' (fun i d hi hd => hall.out i d (by have := hL.out; omega) hd), List.take_of_length_le (by have := hL.out; omega)])
      have CSt := Lib.hid (Tryz.Builder_String_any_k g g (Pl.jt (ds.take j)) wr HI.out (by omega))
      go_wp2_with fail
      refine (CSt.out).mono ?_
      rintro e w7 ⟨rfl, _, hb7, _⟩
      have HB7 := hb.trans hb7
      clear hb7
      go_wp2_with fail
      go_ret
      exact ⟨by rw [hr.out]; rfl, by rw [hg]; exact HB7⟩
end Go.Proofs.YtamhpgledbmnoaaGreatDoor
namespace Go.Proofs.YtamhpgledbmnoaaGreatDoor
set_option linter.unusedVariables false
set_option linter.unusedSimpArgs false
open Go.RowKit
set_option maxRecDepth 100000 in
set_option maxHeartbeats 8000000 in
theorem impl_ReadJournal (s : List UInt8) (B : Nat) (w : World) (hl : LibOkE B w) (hs : s.length ≤ 2000000) :
    Calls Tryz.prog 16 #[.string (Ba s)] w (OutJ (Pl.readJ s) w) := by
  have hsz := Ba_size s
  obtain ⟨g, hg⟩ : ∃ g, w.heap.size = g := ⟨_, rfl⟩
  have hBg : B ≤ g := by rw [← hg]; exact hl.sz
  have hb0 : Below g w w := by rw [← hg]; exact Below.refl _ _
  unfold OutJ
  rw [hg]
  have HL0 := Lib.hid hl
  have HG := Lib.hid hg
  clear hl hg
  go_enter Tryz.func16, Tryz.ntmps16
  go_wp2_with fail
  go_loopw [4, 5] (fun vd vp wr => ∃ (ds : List Pl.Dd) (A : Option Addr) (n c a : Nat), vd = .slice A n c ∧ vp = .int .i64 (a : Int) ∧ Hid (ds.length = n) ∧ Hid (Pl.Read s ds a) ∧ a ≤ s.length ∧ n ≤ a ∧ Hid (wr.ownsRow g 24 3 (.slice A n c) n (D3 ds)) ∧ g ≤ wr.heap.size ∧ LibOkE B wr ∧ Below g w wr) (fun _ vp _ => s.length - (intOf vp).toNat)
  case atStart => exact ⟨[], none, 0, 0, 0, rfl, rfl, Lib.hid rfl, Lib.hid (Pl.read_start s), by omega, by omega, Lib.hid (World.ownsRow_nil _ _ _ _), by rw [HG.out]; exact Nat.le_refl _, HL0.out, hb0⟩
  case round =>
    obtain ⟨ds, A, n, c, a, rfl, rfl, HN, HR, ha, hda, OWN, hz, HL, hb⟩ := hrel
    have ex := Ba_drop' s a
    have k1 : (0 : Int) ≤ (a : Int) := by omega
    have k2 : (a : Int) ≤ ((s.length : Nat) : Int) := by omega
    obtain ⟨t, ht⟩ : ∃ t, s.drop a = t := ⟨_, rfl⟩
    have htl : t.length = s.length - a := by rw [← ht, List.length_drop]
    rw [ht] at ex
    have HT := Lib.hid ht
    have htl2 : t.length ≤ 2000000 := by omega
    have HTL := Lib.hid htl
    clear ht htl
    by_cases hi : t.idxOf 10 < t.length
    · have CC := Lib.hid (lib_cutB 10 t _ _ _ wr HL htl2 (Pl.cut_at 10 hi))
      obtain ⟨i, hi'⟩ : ∃ i, t.idxOf 10 = i := ⟨_, rfl⟩
      rw [hi'] at CC hi
      obtain ⟨h, hh⟩ : ∃ h, t.take i = h := ⟨_, rfl⟩
      have hhl : h.length = i := by rw [← hh, List.length_take]; omega
      have hhs := Ba_size h
      rw [hhl] at hhs
      rw [hh] at CC
      have CD := Lib.hid (fun w' hL => impl_ReadDeed h B w' hL (by omega))
      obtain ⟨rd, hrd⟩ : ∃ rd, Pl.readD h = rd := ⟨_, rfl⟩
      rw [hrd] at CD
      unfold RdO deedV at CD
      have HI := Lib.hid hi'
      have HH := Lib.hid hh
      have HRD := Lib.hid hrd
      have hin : i < t.length := hi
      have HIN := Lib.hid hin
      have hia : a + (i + 1) ≤ s.length := by have := HTL.out; omega
      clear hi hi' hh hhl hrd hin
      go_wp2_with fail
      refine (CC.out).mono ?_
      rintro e w1 ⟨rfl, q, rfl⟩
      go_wp2_with fail
      refine (CD.out _ (HL.drewN q)).mono ?_
      rintro e w2 ⟨rfl, hb2⟩
      have hb2' : Below wr.heap.size wr w2 := ⟨hb2.os, hb2.tape, hb2.output, hb2.size, hb2.block⟩
      have hz2 : wr.heap.size ≤ w2.heap.size := hb2'.size
      have HB2 : Below g w w2 := hb.trans (hb2'.mono hz)
      have HL2 : LibOkE B w2 := HL.on hb2'
      have OWN2 := Lib.hid (own_new OWN.out hb2')
      clear hb2 hb2' HL OWN hb CC CD
      cases rd with
      | none =>
        have hr := Lib.hid (Pl.read_end HR.out (by rw [HT.out]; exact Pl.readJ_bad (by rw [HI.out, HH.out, HRD.out])))
        go_wp2_with fail
        go_ret2
        rw [hr.out]
        have hn := HN.out
        subst hn
        exact ⟨A, c, rfl, own_alloc OWN2.out _, HB2.alloc (by omega) _⟩
      | some d =>
        obtain ⟨p, q2, r⟩ := d
        obtain ⟨w3, hw3⟩ : ∃ w3, w3 = w2.alloc (.cells #[.int .i64 p, .int .i64 q2, .string (Ba r)] 24) := ⟨_, rfl⟩
        have K3 : Blk w3 w2.heap.size 24 #[.int .i64 p, .int .i64 q2, .string (Ba r)] := by rw [hw3]; exact Blk.new _ _ _
        have HB3 : Below g w w3 := by rw [hw3]; exact HB2.alloc (by omega) _
        have HL3 : LibOkE B w3 := by rw [hw3]; exact HL2.alloc _
        have OWN3 : Hid (w3.ownsRow g 24 3 (.slice A n c) n (D3 ds)) := Lib.hid (by rw [hw3]; exact own_alloc OWN2.out _)
        have hz3 : w2.heap.size ≤ w3.heap.size := by rw [hw3]; simp
        have HX := Lib.hid (Pl.read_step (i := i) HR.out (by rw [HT.out]; exact HI.out) (by rw [HT.out]; exact HIN.out) (by rw [HT.out, HH.out]; exact HRD.out))
        go_upto_region 7 with (fail)
        try simp only [Option.getD_some]
        rw [← hw3]
        clear hw3 OWN2 HB2 HL2
        obtain ⟨⟨c0, c1, c2⟩, _⟩ := cells3q K3
        clear K3
        go_wp2_with (at_builtin; go_must (refine app_deedB rfl (.tmp 32) (.tmp 34) rfl g (.slice A n c) n ds rfl (own_alloc OWN3.out _) _ 1 1 [⟨p, q2, r⟩] _ (by first | rfl | (go_simp; done)) rfl (Blk.new _ _ _) rfl (by omega) (by omega) (by omega) (by simp; omega) ?_; intro A7 c7 wb own7 hb7; have HBb : Below g w3 wb := ((Below.refl _ _).alloc (by omega) _).trans hb7; have OWN7 := Lib.hid own7; clear own7 hb7))
        have hz7 := HBb.size
        have HB7 := HB3.trans HBb
        have HL7 : LibOkE B wb := HL3.below (HBb.mono hBg)
        go_roundw
        case rel => exact ⟨ds ++ [⟨p, q2, r⟩], A7, n + 1, c7, a + (i + 1), rfl, by go_num, Lib.hid (by rw [List.length_append, HN.out]; rfl), HX, hia, by omega, OWN7, by omega, HL7, HB7⟩
        case measure => simp [intOf]; omega
    · have CC := Lib.hid (lib_cutB 10 t _ _ _ wr HL htl2 (Pl.cut_none 10 hi))
      have CD := Lib.hid (fun w' hL => impl_ReadDeed t B w' hL (by omega))
      obtain ⟨rd, hrd⟩ : ∃ rd, Pl.readD t = rd := ⟨_, rfl⟩
      rw [hrd] at CD
      unfold RdO deedV at CD
      have hr := Lib.hid (Pl.read_end HR.out (by rw [HT.out]; exact Pl.readJ_no hi))
      clear hrd hi
      go_wp2_with fail
      refine (CC.out).mono ?_
      rintro e w1 ⟨rfl, q, rfl⟩
      go_wp2_with fail
      refine (CD.out _ (HL.drewN q)).mono ?_
      rintro e w2 ⟨rfl, hb2⟩
      have hb2' : Below wr.heap.size wr w2 := ⟨hb2.os, hb2.tape, hb2.output, hb2.size, hb2.block⟩
      have hz2 : wr.heap.size ≤ w2.heap.size := hb2'.size
      have HB2 : Below g w w2 := hb.trans (hb2'.mono hz)
      have OWN2 := Lib.hid (own_new OWN.out hb2')
      clear hb2 hb2' HL OWN hb CC CD
      go_wp2_with fail
      go_ret2
      rw [hr.out]
      have hn := HN.out
      subst hn
      exact ⟨A, c, rfl, own_alloc OWN2.out _, HB2.alloc (by omega) _⟩
end Go.Proofs.YtamhpgledbmnoaaGreatDoor
