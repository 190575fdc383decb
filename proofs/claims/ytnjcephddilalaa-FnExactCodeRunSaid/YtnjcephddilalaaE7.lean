/-
  Contracts of CodeRun in the reference.
  Conditions: as stated at each.
-/
import Derived.Test.YtnjcephddilalaaE6
namespace Go.Proofs.Ytnjcephddilalaa
set_option linter.unusedVariables false
set_option linter.unusedSimpArgs false
open Go.RowKit

set_option maxRecDepth 100000 in
set_option maxHeartbeats 1000000 in
theorem spec_CodeRun (k num x y : Int) (A : Option Addr) (n c B : Nat) (code : List Pl.Op3) (w : World) (hx : RdI w B A n code) (hB : B ≤ w.heap.size) (hn : n ≤ 1000000000000) :
    Calls Try.prog 37 #[.int .i64 k, .slice A n c, .int .i64 num, .int .i64 x, .int .i64 y] w fun e w' => e = .returned (.int .i64 (Pl.codeRun k code num x y)) ∧ Below w.heap.size w w' := by
  have lx : code.length = n := hx.1
  by_cases hv : Pl.v2 k x y = true ∧ n ≤ 24
  rotate_left
  · have he := Lib.hid (Pl.codeRun_f (n := num) (code := code) (by rw [lx]; exact hv))
    cases h2 : Pl.v2 k x y
    · clear hv
      go_enter Try.func37, Try.ntmps37
      go_wp2_with (first | (go_at_call 64; refine (spec_l1Both _ _ _ _).mono ?_; rintro e w' ⟨rfl, rfl⟩))
      go_ret
      exact ⟨ret_int he.out.symm, Below.refl _ _⟩
    · have i24 : (24 : Int) < (n : Int) := by
        have : ¬ n ≤ 24 := fun h => hv ⟨h2, h⟩
        omega
      clear hv
      go_enter Try.func37, Try.ntmps37
      go_wp2_with (first | (go_at_call 64; refine (spec_l1Both _ _ _ _).mono ?_; rintro e w' ⟨rfl, rfl⟩))
      go_ret
      exact ⟨ret_int he.out.symm, Below.refl _ _⟩
  · obtain ⟨h2, hn24⟩ := hv
    obtain ⟨h0, h1, x0, x1, y0, y1⟩ := Pl.v2_t h2
    have i24 : (n : Int) ≤ 24 := by omega
    have hp := Pl.pw_lt k h1
    have H2 := Lib.hid h2
    have hL := Lib.hid lx
    go_enter Try.func37, Try.ntmps37
    go_wp2_with (first | (go_at_call 64; refine (spec_l1Both _ _ _ _).mono ?_; rintro e w' ⟨rfl, rfl⟩))
    go_loopw [11, 12] (fun v i wr => ∃ (j : Nat) (vals : List Int) (A' : Option Addr) (c' : Nat), j ≤ n ∧ i = .int .i64 j ∧ Hid (Pl.runC k x y (code.take j) [] = some vals) ∧ Hid (vals.length = j) ∧ v = .slice A' j c' ∧ wr.ownsRow w.heap.size 3 1 (.slice A' j c') j (I64 vals) ∧ Hid (Pl.Words k vals) ∧ Below w.heap.size w wr) (fun _ i _ => n - (intOf i).toNat)
    case atStart => exact ⟨0, [], _, 0, by omega, rfl, Lib.hid rfl, Lib.hid rfl, rfl, World.ownsRow_made _ _ 0 (Nat.le_refl _) (by simp [maxLen]) rfl, Lib.hid (fun v hv => absurd hv (List.not_mem_nil)), (Below.refl _ _).alloc (Nat.le_refl _) _⟩
    case round =>
      obtain ⟨j, vals, A', c', hj, rfl, hrun, hlen, rfl, hown, hw, hb⟩ := hrel
      by_cases hlt : j < n
      · obtain ⟨b, off, rfl, hbl, hc⟩ := hx.pos (by omega)
        obtain ⟨⟨op, oa, ob⟩, eo⟩ : ∃ o, code[j]? = some o := ⟨_, List.getElem?_eq_getElem (by have := hL.out; omega)⟩
        obtain ⟨q1, q2, q3⟩ := hc j _ eo
        have c1 : wr.cell? ⟨b, off + j * 3, none⟩ = some (.int .i64 op) := (hb.cell (p := ⟨b, off + j * 3, none⟩) (show b < w.heap.size by omega)).trans q1
        have c2 : wr.cell? ⟨b, off + j * 3 + 1, none⟩ = some (.int .i64 oa) := (hb.cell (p := ⟨b, off + j * 3 + 1, none⟩) (show b < w.heap.size by omega)).trans q2
        have c3 : wr.cell? ⟨b, off + j * 3 + 2, none⟩ = some (.int .i64 ob) := (hb.cell (p := ⟨b, off + j * 3 + 2, none⟩) (show b < w.heap.size by omega)).trans q3
        have hin : (j : Int) < (n : Int) := by omega
        have hj0 : (0 : Int) ≤ j := by omega
        have EO := Lib.hid eo
        clear q1 q2 q3 hc eo
        by_cases o1 : 12 ≤ op ∧ op ≤ 19
        · obtain ⟨o2, o3⟩ := o1
          cases hA : Pl.there oa j
          · have hbad := Lib.hid (Pl.codeRun_none (n := num) (Pl.runC_bad EO.out hrun.out (Pl.opOk_f (fun h => by rw [hlen.out, hA] at h; exact absurd h.2.1 (by simp)))))
            go_wp2_with (first | (go_at_call 48; refine (spec_l1In_t _ _ _ _ (by omega)).mono ?_; rintro e w' ⟨rfl, rfl⟩) | (go_at_call 48; refine (spec_l1In_f _ _ _ _ (by omega)).mono ?_; rintro e w' ⟨rfl, rfl⟩))
            refine (spec_l9There oa j _ (by omega)).mono ?_
            rw [hA]
            rintro e w' ⟨rfl, rfl⟩
            go_wp2_with fail
            go_ret
            exact ⟨ret_int hbad.out.symm, hb.alloc (by have := hb.size; omega) _⟩
          · cases hBt : Pl.there ob j
            · have hbad := Lib.hid (Pl.codeRun_none (n := num) (Pl.runC_bad EO.out hrun.out (Pl.opOk_f (fun h => by rw [hlen.out, hBt] at h; exact absurd h.2.2.1 (by simp)))))
              go_wp2_with (first | (go_at_call 48; refine (spec_l1In_t _ _ _ _ (by omega)).mono ?_; rintro e w' ⟨rfl, rfl⟩) | (go_at_call 48; refine (spec_l1In_f _ _ _ _ (by omega)).mono ?_; rintro e w' ⟨rfl, rfl⟩))
              refine (spec_l9There oa j _ (by omega)).mono ?_
              rw [hA]
              rintro e w' ⟨rfl, rfl⟩
              go_wp2_with fail
              refine (spec_l9There ob j _ (by omega)).mono ?_
              rw [hBt]
              rintro e w' ⟨rfl, rfl⟩
              go_wp2_with fail
              go_ret
              exact ⟨ret_int hbad.out.symm, hb.alloc (by have := hb.size; omega) _⟩
            · by_cases hT : Pl.takes op = 1 ∧ ob ≠ 0
              · have hbad := Lib.hid (Pl.codeRun_none (n := num) (Pl.runC_bad EO.out hrun.out (Pl.opOk_f (fun h => h.2.2.2 hT))))
                obtain ⟨t1, t2⟩ := hT
                have t3 : (ob != 0) = true := by rw [bne_iff_ne]; exact t2
                go_wp2_with (first | (go_at_call 48; refine (spec_l1In_t _ _ _ _ (by omega)).mono ?_; rintro e w' ⟨rfl, rfl⟩) | (go_at_call 48; refine (spec_l1In_f _ _ _ _ (by omega)).mono ?_; rintro e w' ⟨rfl, rfl⟩))
                refine (spec_l9There oa j _ (by omega)).mono ?_
                rw [hA]
                rintro e w' ⟨rfl, rfl⟩
                go_wp2_with fail
                refine (spec_l9There ob j _ (by omega)).mono ?_
                rw [hBt]
                rintro e w' ⟨rfl, rfl⟩
                go_wp2_with fail
                refine (spec_l9Takes op _).mono ?_
                rw [t1]
                rintro e w' ⟨rfl, rfl⟩
                go_wp2_with fail
                go_ret
                exact ⟨ret_int hbad.out.symm, hb.alloc (by have := hb.size; omega) _⟩
              · have hok : Pl.opOk (op, oa, ob) vals.length = true := Pl.opOk_mk ⟨o2, o3⟩ (by rw [hlen.out]; exact hA) (by rw [hlen.out]; exact hBt) hT
                have hnext := Lib.hid (Pl.runC_snoc EO.out hrun.out hok)
                have hw' := Lib.hid (Pl.words_doOp (c := (op, oa, ob)) H2.out hw.out)
                have hva := Pl.atv_word (n := oa) H2.out hw.out
                have hvb := Pl.atv_word (n := ob) H2.out hw.out
                have hv2 := Lib.hid (Pl.v2_mk hva hvb)
                have HA := Lib.hid hA
                have HBt := Lib.hid hBt
                have hz := hb.size
                have rd0 := rd_own hown
                clear hok hva hvb hA hBt
                by_cases ht1 : Pl.takes op = 1
                · have hob : ob = 0 := by
                    rcases Classical.em (ob = 0) with h | h
                    · exact h
                    · exact absurd ⟨ht1, h⟩ hT
                  subst hob
                  clear hT
                  go_wp2_with (first | (go_at_call 48; refine (spec_l1In_t _ _ _ _ (by omega)).mono ?_; rintro e w' ⟨rfl, rfl⟩) | (go_at_call 48; refine (spec_l1In_f _ _ _ _ (by omega)).mono ?_; rintro e w' ⟨rfl, rfl⟩))
                  refine (spec_l9There oa j _ (by omega)).mono ?_
                  rw [HA.out]
                  rintro e w' ⟨rfl, rfl⟩
                  go_wp2_with fail
                  refine (spec_l9There 0 j _ (by omega)).mono ?_
                  rw [HBt.out]
                  rintro e w' ⟨rfl, rfl⟩
                  go_wp2_with fail
                  refine (spec_l9Takes op _).mono ?_
                  rw [ht1]
                  rintro e w' ⟨rfl, rfl⟩
                  go_wp2_with fail
                  go_region_held3 (fun w' => w'.cell? ⟨wr.heap.size, 0, none⟩ = some (.int .i64 op) ∧ w'.cell? ⟨wr.heap.size, 1, none⟩ = some (.int .i64 oa) ∧ w'.cell? ⟨wr.heap.size, 2, none⟩ = some (.int .i64 0)) (first | go_keep | (exact ⟨far_cell ((World.ownsRow.drew (hown.alloc _)).alloc _) hgr5 (fun e => absurd (hown.lt _ e).2 (by omega)) (by go_simp), far_cell ((World.ownsRow.drew (hown.alloc _)).alloc _) hgr5 (fun e => absurd (hown.lt _ e).2 (by omega)) (by go_simp), far_cell ((World.ownsRow.drew (hown.alloc _)).alloc _) hgr5 (fun e => absurd (hown.lt _ e).2 (by omega)) (by go_simp)⟩)) (first
                    | (go_at_call_of 71 (Value.int IntKind.i64 oa); refine (spec_l9At k oa x y A' j c' wr.heap.size vals _ ?_ (by omega) HA.out (by omega) (by omega)).mono ?_; exact (rd0.alloc (Nat.le_refl _) _).drew; rintro e w' ⟨rfl, rfl⟩)
                    | (go_at_call_of 71 (Value.int IntKind.i64 0); refine (spec_l9At k 0 x y A' j c' wr.heap.size vals _ ?_ (by omega) HBt.out (by omega) (by omega)).mono ?_; exact (rd0.alloc (Nat.le_refl _) _).drew; rintro e w' ⟨rfl, rfl⟩)
                    | (go_at_call 70; refine (spec_l9Do k op _ _ _ (by omega) (by omega) hv2.out).mono ?_; rintro e w' ⟨rfl, rfl⟩)
                    | (refine step_int_far rfl (.tmp 64) (.tmp 83) rfl w.heap.size (.slice A' j c') j _ (.int .i64 (Pl.opv k op (Pl.atv k vals oa x y) (Pl.atv k vals 0 x y))) ⟨wr.heap.size + 1, 0, none⟩ (by simp [Act.eval, Act.put]) (by simp [Act.eval, Act.put]) ((World.ownsRow.drew (hown.alloc _)).alloc _) (by go_simp) rfl (by omega) (by go_simp; omega) ?_; intro v' w5 row5 hb5 hgr5))
                  all_goals go_wp2
                  all_goals (
                    obtain ⟨A5, c5, rfl, _⟩ := Rd.of_own row5
                    exact ⟨⟨j + 1, vals ++ [(Pl.opv k op (Pl.atv k vals oa x y) (Pl.atv k vals 0 x y))], A5, c5, by omega, by go_num, hnext, Lib.hid (by rw [List.length_append, hlen.out]; rfl), rfl, by rw [I64_append]; exact row5, hw', (below_drewN (hb.alloc (by omega) _) 1 |>.alloc (by go_simp; omega) _).trans hb5⟩, by simp [intOf]; omega⟩)
                · have ht1' : (Pl.takes op == 1) = false := by rw [beq_eq_false_iff_ne]; exact ht1
                  clear hT ht1
                  go_wp2_with (first | (go_at_call 48; refine (spec_l1In_t _ _ _ _ (by omega)).mono ?_; rintro e w' ⟨rfl, rfl⟩) | (go_at_call 48; refine (spec_l1In_f _ _ _ _ (by omega)).mono ?_; rintro e w' ⟨rfl, rfl⟩))
                  refine (spec_l9There oa j _ (by omega)).mono ?_
                  rw [HA.out]
                  rintro e w' ⟨rfl, rfl⟩
                  go_wp2_with fail
                  refine (spec_l9There ob j _ (by omega)).mono ?_
                  rw [HBt.out]
                  rintro e w' ⟨rfl, rfl⟩
                  go_wp2_with fail
                  refine (spec_l9Takes op _).mono ?_
                  rintro e w' ⟨rfl, rfl⟩
                  go_wp2_with fail
                  go_region_held3 (fun w' => w'.cell? ⟨wr.heap.size, 0, none⟩ = some (.int .i64 op) ∧ w'.cell? ⟨wr.heap.size, 1, none⟩ = some (.int .i64 oa) ∧ w'.cell? ⟨wr.heap.size, 2, none⟩ = some (.int .i64 ob)) (first | go_keep | (exact ⟨far_cell ((World.ownsRow.drew (hown.alloc _)).alloc _) hgr5 (fun e => absurd (hown.lt _ e).2 (by omega)) (by go_simp), far_cell ((World.ownsRow.drew (hown.alloc _)).alloc _) hgr5 (fun e => absurd (hown.lt _ e).2 (by omega)) (by go_simp), far_cell ((World.ownsRow.drew (hown.alloc _)).alloc _) hgr5 (fun e => absurd (hown.lt _ e).2 (by omega)) (by go_simp)⟩)) (first
                    | (go_at_call_of 71 (Value.int IntKind.i64 oa); refine (spec_l9At k oa x y A' j c' wr.heap.size vals _ ?_ (by omega) HA.out (by omega) (by omega)).mono ?_; exact (rd0.alloc (Nat.le_refl _) _).drew; rintro e w' ⟨rfl, rfl⟩)
                    | (go_at_call_of 71 (Value.int IntKind.i64 ob); refine (spec_l9At k ob x y A' j c' wr.heap.size vals _ ?_ (by omega) HBt.out (by omega) (by omega)).mono ?_; exact (rd0.alloc (Nat.le_refl _) _).drew; rintro e w' ⟨rfl, rfl⟩)
                    | (go_at_call 70; refine (spec_l9Do k op _ _ _ (by omega) (by omega) hv2.out).mono ?_; rintro e w' ⟨rfl, rfl⟩)
                    | (refine step_int_far rfl (.tmp 64) (.tmp 83) rfl w.heap.size (.slice A' j c') j _ (.int .i64 (Pl.opv k op (Pl.atv k vals oa x y) (Pl.atv k vals ob x y))) ⟨wr.heap.size + 1, 0, none⟩ (by simp [Act.eval, Act.put]) (by simp [Act.eval, Act.put]) ((World.ownsRow.drew (hown.alloc _)).alloc _) (by go_simp) rfl (by omega) (by go_simp; omega) ?_; intro v' w5 row5 hb5 hgr5))
                  all_goals go_wp2
                  all_goals (
                    obtain ⟨A5, c5, rfl, _⟩ := Rd.of_own row5
                    exact ⟨⟨j + 1, vals ++ [(Pl.opv k op (Pl.atv k vals oa x y) (Pl.atv k vals ob x y))], A5, c5, by omega, by go_num, hnext, Lib.hid (by rw [List.length_append, hlen.out]; rfl), rfl, by rw [I64_append]; exact row5, hw', (below_drewN (hb.alloc (by omega) _) 1 |>.alloc (by go_simp; omega) _).trans hb5⟩, by simp [intOf]; omega⟩)
        · have hbad := Lib.hid (Pl.codeRun_none (n := num) (Pl.runC_bad EO.out hrun.out (Pl.opOk_f (fun h => o1 h.1))))
          go_wp2_with (first | (go_at_call 48; refine (spec_l1In_t _ _ _ _ (by omega)).mono ?_; rintro e w' ⟨rfl, rfl⟩) | (go_at_call 48; refine (spec_l1In_f _ _ _ _ (by omega)).mono ?_; rintro e w' ⟨rfl, rfl⟩))
          go_ret
          exact ⟨ret_int hbad.out.symm, hb.alloc (by have := hb.size; omega) _⟩
      · obtain rfl : j = n := by omega
        have hfin := hrun.out
        rw [show code.take j = code by rw [← hL.out, List.take_length]] at hfin
        have hend := Lib.hid (Pl.codeRun_end (n := num) H2.out (by have := hL.out; omega) hfin)
        rw [hlen.out] at hend
        cases hT : Pl.there num j
        · go_wp2_with fail
          refine (spec_l9There num j _ (by omega)).mono ?_
          rw [hT]
          rintro e w' ⟨rfl, rfl⟩
          go_wp2_with fail
          go_ret
          exact ⟨ret_int (by rw [hend.out, hT]; rfl), hb⟩
        · have rd0 := rd_own hown
          go_wp2_with fail
          refine (spec_l9There num j _ (by omega)).mono ?_
          rw [hT]
          rintro e w' ⟨rfl, rfl⟩
          go_wp2_with fail
          refine (spec_l9At k num x y A' j c' wr.heap.size vals _ rd0 (by omega) hT (by omega) (by omega)).mono ?_
          rintro e w' ⟨rfl, rfl⟩
          go_wp2_with fail
          go_ret
          exact ⟨ret_int (by rw [hend.out, if_pos hT]), hb⟩
end Go.Proofs.Ytnjcephddilalaa
