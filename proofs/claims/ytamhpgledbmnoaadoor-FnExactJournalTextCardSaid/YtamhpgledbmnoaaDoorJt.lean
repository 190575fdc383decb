/-
  The program's text of a journal.
  Conditions: the library's table stands; as stated.
-/
import Derived.Test.YtamhpgledbmnoaaDoorDt
import Derived.Test.YtamhpgledbmnoaaDoorJs
namespace Go.Proofs.YtamhpgledbmnoaaDoor
set_option linter.unusedVariables false
set_option linter.unusedSimpArgs false
open Go.RowKit
theorem bld_below {T e : TypeId} {B b : Nat} {bs : List Value} {w w' : World} (h : Lib.IsBuilderF T e B b bs w) (hb : Below w.heap.size w w') : Lib.IsBuilderF T e B b bs w' := by
  have key : ∀ p, Lib.BuilderAtF T e B b p bs w → Lib.BuilderAtF T e B b p bs w' := by
    rintro p ⟨h1, v, h2, ⟨h3, h4⟩, h5⟩
    have lt : ∀ {k : Nat} {o : Obj}, w.heap[k]? = some o → w'.heap[k]? = some o := fun {k o} hk => (hb.block k (Array.getElem?_eq_some_iff.1 hk).1).trans hk
    refine ⟨h1, v, lt h2, ⟨h3, ?_⟩, h5⟩
    rcases h4 with h4 | ⟨g, cap, cur, fz, a1, a2, a3, a4⟩
    · exact .inl h4
    · exact .inr ⟨g, cap, cur, fz, a1, a2, lt a3, a4⟩
  exact h.elim (fun x => .inl (key _ x)) (fun x => .inr (key _ x))
theorem bld_new {T e : TypeId} (w : World) : Lib.IsBuilderF T e w.heap.size w.heap.size [] (w.alloc (.cells #[.pointer none, .slice none 0 0] T)) :=
  Lib.IsBuilderF.of (.inl ⟨Nat.le_refl _, .slice none 0 0, Blk.new w _ _, World.ownsRow_nil _ _ _ _, by simp [Value.ownBlock]⟩)
theorem byteCells_app (a b : List UInt8) : Lib.byteCells a ++ Lib.strCells (Ba b) = Lib.byteCells (a ++ b) := by
  simp [Lib.byteCells, Lib.strCells, Ba]
theorem lib_write {g : Nat} (X u : List UInt8) (w : World) (h : Lib.IsBuilderF 54 5 g g (Lib.byteCells X) w) (hX : X.length ≤ 1000000000000) (hu : u.length ≤ 1000000000000) (hg : g ≤ w.heap.size) :
    Calls Tryd.prog 30 #[.pointer (some ⟨g, 0, none⟩), .string (Ba u)] w fun e w' => (∃ v, e = .returned v) ∧ Lib.IsBuilderF 54 5 g g (Lib.byteCells (X ++ u)) w' ∧ Below g w w' := by
  refine (Tryd.Builder_WriteString_k g g (Lib.byteCells X) (Ba u) w h (by rw [Lib.byteCells_length, Ba_size]; omega) hg).mono ?_
  rintro e w' ⟨rfl, h1, h2, _⟩
  rw [byteCells_app] at h1
  exact ⟨⟨_, rfl⟩, .inr h1, h2⟩
set_option maxRecDepth 100000 in
set_option maxHeartbeats 4000000 in
theorem impl_JournalText (A : Option Addr) (n c B0 B : Nat) (ds : List Pl.Dd) (w : World) (hlib : LibOk B0 w) (hx : RdD w B A n ds) (hB : B ≤ w.heap.size) (hn : n ≤ 2000000) (ht : ∀ D ∈ ds, D.t.length ≤ 2000000) :
    Calls Tryd.prog 14 #[.slice A n c] w fun e w' => e = .returned (.string (Ba (Pl.jtext ds))) ∧ Below w.heap.size w w' := by
  have hl := hx.1
  have HTX := Lib.hid ht
  obtain ⟨g, hg⟩ : ∃ g, w.heap.size = g := ⟨_, rfl⟩
  have hBg : B ≤ g := by omega
  have hB0g : B0 ≤ g := by rw [← hg]; exact hlib.sz
  obtain ⟨w0, hw0⟩ : ∃ w0, w0 = w.alloc (.cells #[.pointer none, .slice none 0 0] 54) := ⟨_, rfl⟩
  have hz0 : w0.heap.size = g + 1 := by rw [hw0, ← hg]; simp
  have HB0 : Below g w w0 := by rw [hw0, ← hg]; go_grown
  have HI0 : Lib.IsBuilderF 54 5 g g (Lib.byteCells []) w0 := by rw [hw0, ← hg]; exact bld_new w
  have HL0 : LibOk B0 w0 := by rw [hw0]; exact hlib.alloc _
  have hc : ∀ j D, ds[j]? = some D → ∃ b off, A = some ⟨b, off, none⟩ ∧ b < g ∧ w.cell? ⟨b, off + j * 3, none⟩ = some (.int .i64 D.k) ∧ w.cell? ⟨b, off + j * 3 + 1, none⟩ = some (.int .i64 D.n) ∧ w.cell? ⟨b, off + j * 3 + 2, none⟩ = some (.string (Ba D.t)) := fun j D hj => by
    obtain ⟨b, off, rfl, hbl, h⟩ := hx.pos (by have := (List.getElem?_eq_some_iff.1 hj).1; omega)
    exact ⟨b, off, rfl, by omega, h j D hj⟩
  have HC := Lib.hid hc
  have hL := Lib.hid hl
  clear hc hx hl ht hlib
  go_enter Tryd.func14, Tryd.ntmps14
  go_upto_region 2 with (fail)
  rw [← hw0]
  clear hw0
  have HI0 := Lib.hid HI0
  go_wp2_with fail
  go_loopw [9] (fun vi wr => ∃ j : Nat, j ≤ n ∧ vi = .int .i64 (j : Int) ∧ Hid (∀ (i : Nat) (d : Pl.Dd), i < j → ds[i]? = some d → Pl.dtext d ≠ []) ∧ Hid (Lib.IsBuilderF 54 5 g g (Lib.byteCells (Pl.jt (ds.take j))) wr) ∧ LibOk B0 wr ∧ g + 1 ≤ wr.heap.size ∧ Below g w wr) (fun vi _ => n - (intOf vi).toNat)
  case atStart => exact ⟨0, by omega, rfl, Lib.hid (fun i d h => by omega), HI0, HL0, by omega, HB0⟩
  case round =>
    obtain ⟨j, hj, rfl, hall, HI, HL, hz, hb⟩ := hrel
    have hXl := Pl.jt_len (ds.take j)
    have hXl2 : (ds.take j).length ≤ 2000000 := by rw [List.length_take]; omega
    by_cases hlt : j < n
    · obtain ⟨⟨p, q, r⟩, eo⟩ : ∃ o, ds[j]? = some o := ⟨_, List.getElem?_eq_getElem (by have := hL.out; omega)⟩
      have hjt := Pl.jt_take eo
      obtain ⟨X, hX⟩ : ∃ X, Pl.jt (ds.take j) = X := ⟨_, rfl⟩
      rw [hX] at hjt hXl HI
      have hu0 := Pl.dtext_len ⟨p, q, r⟩
      obtain ⟨b, off, rfl, hbl, u1, u2, u3⟩ := HC.out j _ eo
      have c1 : wr.cell? ⟨b, off + j * 3, none⟩ = some (.int .i64 p) := (hb.cell (p := ⟨b, off + j * 3, none⟩) (show b < g by omega)).trans u1
      have c2 : wr.cell? ⟨b, off + j * 3 + 1, none⟩ = some (.int .i64 q) := (hb.cell (p := ⟨b, off + j * 3 + 1, none⟩) (show b < g by omega)).trans u2
      have c4 : wr.cell? ⟨b, off + j * 3 + 2, none⟩ = some (.string (Ba r)) := (hb.cell (p := ⟨b, off + j * 3 + 2, none⟩) (show b < g by omega)).trans u3
      have hin : (j : Int) < (n : Int) := by omega
      have hj0 : (0 : Int) ≤ j := by omega
      have htr := HTX.out _ (List.mem_of_getElem? eo)
      have CT := Lib.hid (fun w' h => impl_DeedText ⟨p, q, r⟩ B0 w' h htr)
      obtain ⟨u, hu⟩ : ∃ u, Pl.dtext ⟨p, q, r⟩ = u := ⟨_, rfl⟩
      rw [hu] at CT hjt hu0
      have HU := Lib.hid hu
      have HJ := Lib.hid hjt
      have EO := Lib.hid eo
      clear hu htr u1 u2 u3 hjt hX eo
      unfold deedV at CT
      obtain ⟨w1, hw1⟩ : ∃ w1, w1 = wr.alloc (.cells #[.int .i64 p, .int .i64 q, .string (Ba r)] 26) := ⟨_, rfl⟩
      have K1 : Blk w1 wr.heap.size 26 #[.int .i64 p, .int .i64 q, .string (Ba r)] := by rw [hw1]; exact Blk.new _ _ _
      have hb1 : Below wr.heap.size wr w1 := by rw [hw1]; go_grown
      have HL1 : LibOk B0 w1 := by rw [hw1]; exact HL.alloc _
      go_upto_region 5 with (fail)
      rw [← hw1]
      clear hw1 c1 c2 c4
      obtain ⟨c1, c2, c4⟩ := cells3t K1
      clear K1
      go_wp2_with fail
      refine (CT.out _ HL1).mono ?_
      rintro e w5 ⟨rfl, hb5⟩
      have hz1 := hb1.size
      have hz5 := hb5.size
      have hb5' : Below wr.heap.size wr w5 := hb1.trans (hb5.mono hz1)
      have HI5 := Lib.hid (bld_below HI.out hb5')
      have HL5 := HL1.on hb5
      have HB5 : Below g w w5 := hb.trans (hb5'.mono (by omega))
      clear c1 c2 c4 hb5 hb5' hb1 HL1 HL HI hb
      rcases isEmpty_cases u with ⟨hu, hbe⟩ | ⟨hu, hbe⟩
      · have hr := Lib.hid (Pl.jtext_f (List.mem_of_getElem? EO.out) (HU.out.trans hu))
        clear hu
        go_wp2_with fail
        go_ret
        exact ⟨by rw [hr.out]; rfl, by rw [hg]; exact HB5⟩
      · have HN := Lib.hid hu
        have ka : ∀ w, (Op.stringOp .add (Ba u) (⟨#[10]⟩ : ByteArray)).run Tryd.prog w = .ok (.string (Ba (u ++ [10]))) w := fun w => add_BaL (P := Tryd.prog) u [10] (by simp; omega) w
        have CWr := Lib.hid (lib_write X (u ++ [10]) w5 HI5.out (by omega) (by simp; omega) (by omega))
        clear hu
        go_wp2_with fail
        refine (CWr.out).mono ?_
        rintro e w6 ⟨⟨v6, rfl⟩, HI6, hb6⟩
        have hz6 := hb6.size
        have HB6 : Below g w w6 := HB5.trans hb6
        have HI6 := Lib.hid HI6
        have HL6 : LibOk B0 w6 := HL5.below (hb6.mono hB0g)
        clear hb6
        go_wp2_with fail
        go_roundw
        case rel =>
          refine ⟨j + 1, by omega, by go_num, Lib.hid (fun i d hi hd => ?_), by rw [HJ.out]; exact HI6, HL6, by omega, HB6⟩
          rcases Nat.lt_or_ge i j with h | h
          · exact hall.out i d h hd
          · obtain rfl : i = j := by omega
            rw [EO.out] at hd
            injection hd with hd
            subst hd
            rw [HU.out]; exact HN.out
        case measure => simp [intOf]; omega
    · obtain rfl : j = n := by omega
      have hr := Lib.hid (show Pl.jtext ds = Pl.jt (ds.take j) by rw [Pl.jtext_all' (fun i d hi hd => hall.out i d (by have := hL.out; omega) hd), List.take_of_length_le (by have := hL.out; omega)])
      have CSt := Lib.hid (Tryd.Builder_String_any_k g g (Pl.jt (ds.take j)) wr HI.out (by omega))
      go_wp2_with fail
      refine (CSt.out).mono ?_
      rintro e w7 ⟨rfl, _, hb7, _⟩
      have HB7 := hb.trans hb7
      clear hb7
      go_wp2_with fail
      go_ret
      exact ⟨by rw [hr.out]; rfl, by rw [hg]; exact HB7⟩
end Go.Proofs.YtamhpgledbmnoaaDoor
