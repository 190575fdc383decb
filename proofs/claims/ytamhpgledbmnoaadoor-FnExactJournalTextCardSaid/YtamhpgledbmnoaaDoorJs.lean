/-
  The given text of a journal.
  Conditions: as stated.
-/
import Derived.Test.YtamhpgledbmnoaaDoorSd
import Derived.Test.YtamhpgledbmnoaaDoorPg
import Derived.Test.YtamhpgledbmnoaaDoorDl
namespace Go.Proofs.YtamhpgledbmnoaaDoor
set_option linter.unusedVariables false
set_option linter.unusedSimpArgs false
open Go.RowKit
namespace Pl
theorem jt_take {ds : List Dd} {j : Nat} {d : Dd} (h : ds[j]? = some d) : jt (ds.take (j + 1)) = jt (ds.take j) ++ (dtext d ++ [10]) := by
  rw [List.take_add_one, h]; exact jt_snoc _ _
theorem jtext_all' {ds : List Dd} (h : ∀ (j : Nat) (d : Dd), j < ds.length → ds[j]? = some d → dtext d ≠ []) : jtext ds = jt ds := by
  refine jtext_t fun d hd => ?_
  obtain ⟨j, hj⟩ := List.getElem?_of_mem hd
  exact h j d (List.getElem?_eq_some_iff.1 hj).1 hj
end Pl
theorem isEmpty_cases (u : List UInt8) : (u = [] ∧ (Ba u).toList.isEmpty = true) ∨ (u ≠ [] ∧ (Ba u).toList.isEmpty = false) := by
  rw [Ba_list]
  cases u with
  | nil => exact .inl ⟨rfl, rfl⟩
  | cons a r => exact .inr ⟨by simp, rfl⟩
set_option maxRecDepth 100000 in
set_option maxHeartbeats 4000000 in
theorem spec_JournalText (A : Option Addr) (n c B : Nat) (ds : List Pl.Dd) (w : World) (hx : RdD w B A n ds) (hB : B ≤ w.heap.size) (hn : n ≤ 2000000) (ht : ∀ D ∈ ds, D.t.length ≤ 2000000) :
    Calls Tryd.prog 12 #[.slice A n c] w fun e w' => e = .returned (.string (Ba (Pl.jtext ds))) ∧ Below w.heap.size w w' := by
  have hl := hx.1
  have HTX := Lib.hid ht
  rcases Nat.eq_zero_or_pos n with h0 | h0
  · subst h0
    obtain rfl := List.eq_nil_of_length_eq_zero hl
    have hr := Lib.hid (show Pl.jtext [] = [] from rfl)
    clear hx hl ht
    go_enter Tryd.func12, Tryd.ntmps12
    go_wp2_with fail
    refine wp_loop_rounds 1 ?_
    rw [rounds_succ]
    go_wp2_with fail
    go_ret
    exact ⟨by rw [hr.out]; rfl, Below.refl _ _⟩
  obtain ⟨b, off, rfl, hbl, hc⟩ := hx.pos h0
  have HC := Lib.hid hc
  have hL := Lib.hid hl
  clear hc hx hl ht
  go_enter Tryd.func12, Tryd.ntmps12
  go_wp2_with fail
  go_loopw [3, 4] (fun vs vi wr => ∃ j : Nat, j ≤ n ∧ vi = .int .i64 (j : Int) ∧ vs = .string (Ba (Pl.jt (ds.take j))) ∧ Hid (∀ (i : Nat) (d : Pl.Dd), i < j → ds[i]? = some d → Pl.dtext d ≠ []) ∧ Below w.heap.size w wr) (fun _ vi _ => n - (intOf vi).toNat)
  case atStart => exact ⟨0, by omega, rfl, rfl, Lib.hid (fun i d h => by omega), Below.refl _ _⟩
  case round =>
    obtain ⟨j, hj, rfl, rfl, hall, hb⟩ := hrel
    have hz := hb.size
    have hXl := Pl.jt_len (ds.take j)
    have hXl2 : (ds.take j).length ≤ 2000000 := by rw [List.length_take]; omega
    by_cases hlt : j < n
    · obtain ⟨⟨p, q, r⟩, eo⟩ : ∃ o, ds[j]? = some o := ⟨_, List.getElem?_eq_getElem (by have := hL.out; omega)⟩
      have hjt := Pl.jt_take eo
      obtain ⟨X, hX⟩ : ∃ X, Pl.jt (ds.take j) = X := ⟨_, rfl⟩
      rw [hX] at hjt hXl
      rw [hX]
      have hu0 := Pl.dtext_len ⟨p, q, r⟩
      obtain ⟨u1, u2, u3⟩ := HC.out j _ eo
      have c1 : wr.cell? ⟨b, off + j * 3, none⟩ = some (.int .i64 p) := (hb.cell (p := ⟨b, off + j * 3, none⟩) (show b < w.heap.size by omega)).trans u1
      have c2 : wr.cell? ⟨b, off + j * 3 + 1, none⟩ = some (.int .i64 q) := (hb.cell (p := ⟨b, off + j * 3 + 1, none⟩) (show b < w.heap.size by omega)).trans u2
      have c4 : wr.cell? ⟨b, off + j * 3 + 2, none⟩ = some (.string (Ba r)) := (hb.cell (p := ⟨b, off + j * 3 + 2, none⟩) (show b < w.heap.size by omega)).trans u3
      have hin : (j : Int) < (n : Int) := by omega
      have hj0 : (0 : Int) ≤ j := by omega
      have htr := HTX.out _ (List.mem_of_getElem? eo)
      have CT := Lib.hid (fun w' => spec_DeedText ⟨p, q, r⟩ w' htr)
      obtain ⟨u, hu⟩ : ∃ u, Pl.dtext ⟨p, q, r⟩ = u := ⟨_, rfl⟩
      rw [hu] at CT hjt hu0
      have HU := Lib.hid hu
      have HJ := Lib.hid hjt
      have EO := Lib.hid eo
      clear hu htr u1 u2 u3 hjt hX eo
      unfold deedV at CT
      go_wp2_with fail
      refine (CT.out _).mono ?_
      rintro e w5 ⟨rfl, hb5⟩
      have hz5 := hb5.size
      have hb5' : Below w.heap.size w w5 := hb.trans (hb5.mono hz)
      replace c1 := (hb5.cell (p := ⟨b, off + j * 3, none⟩) (show b < wr.heap.size by omega)).trans c1
      replace c2 := (hb5.cell (p := ⟨b, off + j * 3 + 1, none⟩) (show b < wr.heap.size by omega)).trans c2
      replace c4 := (hb5.cell (p := ⟨b, off + j * 3 + 2, none⟩) (show b < wr.heap.size by omega)).trans c4
      rcases isEmpty_cases u with ⟨hu, hbe⟩ | ⟨hu, hbe⟩
      · have hr := Lib.hid (Pl.jtext_f (List.mem_of_getElem? EO.out) (HU.out.trans hu))
        clear hu hb5 hb
        go_wp2_with fail
        go_ret
        exact ⟨by rw [hr.out]; rfl, hb5'⟩
      · have HN := Lib.hid hu
        have ka : ∀ w, (Op.stringOp .add (Ba X) (Ba u)).run Tryd.prog w = .ok (.string (Ba (X ++ u))) w := fun w => add_BaM (P := Tryd.prog) X u (by omega) w
        have kb : ∀ w, (Op.stringOp .add (Ba (X ++ u)) (⟨#[10]⟩ : ByteArray)).run Tryd.prog w = .ok (.string (Ba (X ++ (u ++ [10])))) w := fun w => by
          have := add_BaM (P := Tryd.prog) (X ++ u) [10] (by simp; omega) w
          rw [List.append_assoc] at this
          exact this
        clear hu hb5 hb
        go_wp2_with fail
        refine (CT.out _).mono ?_
        rintro e w6 ⟨rfl, hb6⟩
        have hb6' : Below w.heap.size w w6 := hb5'.trans (hb6.mono (by omega))
        clear hb6 hb5'
        go_wp2_with fail
        go_roundw
        case rel =>
          refine ⟨j + 1, by omega, by go_num, by rw [HJ.out], Lib.hid (fun i d hi hd => ?_), hb6'⟩
          rcases Nat.lt_or_ge i j with h | h
          · exact hall.out i d h hd
          · obtain rfl : i = j := by omega
            rw [EO.out] at hd
            injection hd with hd
            subst hd
            rw [HU.out]; exact HN.out
        case measure => simp [intOf]; omega
    · obtain rfl : j = n := by omega
      have hr := Lib.hid (show Pl.jtext ds = Pl.jt (ds.take j) by rw [Pl.jtext_all' (fun i d hi hd => hall.out i d (by have := hL.out; omega) hd), List.take_of_length_le (by have := hL.out; omega)])
      go_wp2_with fail
      go_ret
      exact ⟨by rw [hr.out]; rfl, hb⟩
end Go.Proofs.YtamhpgledbmnoaaDoor
