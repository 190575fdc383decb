/-
  The reference's CodeOf: the walk.
  Conditions: as stated.
-/
import Derived.Test.YtnjcephddilalabE11
namespace Go.Proofs.Ytnjcephddilalab
set_option linter.unusedVariables false
set_option linter.unusedSimpArgs false
open Go.RowKit
theorem own_drewN {w : World} {base n size : Nat} {e : TypeId} {v : Value} {xs : List Value} (h : w.ownsRow base e size v n xs) (q : Nat) : (w.drewN q).ownsRow base e size v n xs := h
set_option maxRecDepth 100000 in
set_option maxHeartbeats 2000000 in
theorem spec_CodeOf (A : Option Addr) (n c B : Nat) (xs : List Int) (w : World) (hx : Rd w B A n (I64 xs)) (hB : B ≤ w.heap.size) (hn : n ≤ 1000000000000) :
    Calls Try.prog 11 #[.slice A n c] w (OutC (Pl.codeOf xs) w) := by
  have lx : xs.length = n := by have := hx.len; rwa [I64_len] at this
  have cv := fun w' => spec_ExprValid A n c B xs w'
  cases he : Pl.exprValid xs
  · have hr := Lib.hid (codeOf_f he)
    rw [he] at cv
    go_enter Try.func11, Try.ntmps11
    go_wp2_with fail
    refine (cv _ (hx.alloc hB _) hn).mono ?_
    rintro e w' ⟨rfl, rfl⟩
    go_wp2_with fail
    go_ret2
    rw [hr.out]
    exact ⟨_, _, rfl, World.ownsRow_made _ _ 0 (Nat.le_refl _) (by simp [maxLen]) rfl, (Below.refl _ _).alloc (Nat.le_refl _) _⟩
  · have hr := Lib.hid (codeOf_t he)
    rw [he] at cv
    obtain ⟨e0, e1, e2⟩ := Pl.valid_t he
    rw [lx] at e0 e1
    obtain ⟨b, off, rfl, hbl, hc⟩ := hx.pos (by omega)
    have HC := Lib.hid hc
    have hL := Lib.hid lx
    have HSC := Lib.hid e2
    have hx' := hx.alloc hB (.cells #[] 32)
    clear hc he e2 lx
    go_enter Try.func11, Try.ntmps11
    go_wp2_with fail
    refine (cv _ hx' hn).mono ?_
    rintro e w' ⟨rfl, rfl⟩
    clear hx hx' cv
    go_wp2_with fail
    go_loopw [4, 5, 6] (fun vc vs i wr => ∃ (j d nc : Nat) (code : List Pl.Op3) (st : List Int) (Ac As : Option Addr) (cc cs : Nat), j ≤ n ∧ i = .int .i64 j ∧ Hid (Pl.codeS (xs.take j) = (code, st)) ∧ Hid (Pl.scan (xs.take j) 0 = some (d : Int)) ∧ d ≤ j ∧ nc ≤ j ∧ Hid (code.length = nc) ∧ Hid (st.length = d) ∧ vc = .slice Ac nc cc ∧ vs = .slice As d cs ∧
      wr.ownsRow w.heap.size 32 3 (.slice Ac nc cc) nc (I3 code) ∧ wr.ownsRow w.heap.size 3 1 (.slice As d cs) d (I64 st) ∧ Below w.heap.size w wr) (fun _ _ i _ => n - (intOf i).toNat)
    case atStart => exact ⟨0, 0, 0, [], [], _, _, 0, 0, by omega, rfl, Lib.hid rfl, Lib.hid (by simp [Pl.scan]), by omega, by omega, Lib.hid rfl, Lib.hid rfl, rfl, rfl, (World.ownsRow_made _ _ 0 (Nat.le_refl _) (by simp [maxLen]) rfl : World.ownsRow (w.alloc (.cells #[] 32)) w.heap.size 32 3 (.slice (some ⟨w.heap.size, 0, none⟩) 0 0) 0 []).alloc _, by
      have h := World.ownsRow_made (base := w.heap.size) (e := 3) (size := 1) (w.alloc (.cells #[] 32)) #[] 0 (by simp) (by simp [maxLen]) rfl
      have h' : (w.alloc (.cells #[] 32)).heap.size = w.heap.size + 1 := by simp
      rw [h'] at h
      exact h, by go_grown⟩
    case round =>
      obtain ⟨j, d, nc, code, st, Ac, As, cc, cs, hj, rfl, hcode, hscan, hdj, hncj, hnc, hd, rfl, rfl, ownC, ownS, hb⟩ := hrel
      have hz := hb.size
      by_cases hlt : j < n
      · obtain ⟨s, es⟩ : ∃ s, xs[j]? = some s := ⟨_, List.getElem?_eq_getElem (by have := hL.out; omega)⟩
        have c1 : wr.cell? ⟨b, off + j, none⟩ = some (.int .i64 s) := (hb.cell (p := ⟨b, off + j, none⟩) (show b < w.heap.size by omega)).trans (HC.out j _ (I64_get es))
        obtain ⟨⟨s0, s1⟩, ht⟩ := Pl.scan_at HSC.out es hscan.out
        have hnext := Pl.codeS_snoc es
        rw [hcode.out] at hnext
        have HN := Lib.hid hnext
        have HS := Lib.hid (Pl.scan_snoc es hscan.out s0 s1 ht)
        have hin : (j : Int) < (n : Int) := by omega
        have hj0 : (0 : Int) ≤ j := by omega
        clear es hnext
        by_cases t0 : s < 12
        · have ht0 := Pl.takes_0 t0
          rw [ht0] at HS ht
          have hpu := Lib.hid (code_0 (code := code) (st := st) t0)
          go_wp2_with (first
            | (first | (go_at_call 44; refine (spec_l9Takes _ _).mono ?_; rintro e w' ⟨rfl, rfl⟩))
            | (at_builtin; refine app_int_far rfl (.tmp 28) (.tmp 33) rfl w.heap.size (.slice As d cs) d st s rfl ownS rfl (by omega) hz ?_; intro v' w1 own1 hb1 hg1))
          obtain ⟨A1, k1, rfl, _⟩ := Rd.of_own own1
          have ownC1 := (ownC.alloc (.cells #[.int .i64 s] 3)).kept hg1 (rows_apart ownC ownS (by decide))
          exact ⟨⟨j + 1, d + 1, nc, code, st ++ [s], Ac, A1, cc, k1, by omega, by go_num, Lib.hid (by rw [HN.out, hpu.out]), Lib.hid (by rw [HS.out]; simp), by omega, by omega, hnc, Lib.hid (by rw [List.length_append, hd.out]; rfl), rfl, rfl, ownC1, own1, hb.trans hb1⟩, by simp [intOf]; omega⟩
        · have bne1 : ¬ b = wr.heap.size := by omega
          have bne2 : ¬ wr.heap.size = b := by omega
          by_cases t1 : s < 15
          · have ht1 := Pl.takes_1 (by omega) t1
            rw [ht1] at HS ht
            obtain ⟨m, rfl⟩ : ∃ m, d = m + 1 := ⟨d - 1, by omega⟩
            have hpu := Lib.hid (code_1 (code := code) (st := st) (by omega) t1 hd.out)
            obtain ⟨g, rfl, hg0, hg1⟩ := own_some ownS (by omega)
            have hgm := Lib.hid (I64_getD (xs := st) (j := m) (by have := hd.out; omega))
            generalize st.getD m 0 = a at *
            have d2 : wr.cell? ⟨g, m, none⟩ = some (.int .i64 a) := by rw [ownS.cellAt m (by omega)]; exact hgm.out
            have hm0 : (0 : Int) ≤ (m : Int) := by omega
            have hm1 : (m : Int) < (m : Int) + 1 := by omega
            have gne1 : ¬ g = wr.heap.size := by omega
            have gne2 : ¬ wr.heap.size = g := by omega
            have n1 := World.new_ne wr _ d2
            have n2 := World.new_ne wr _ c1
            go_wp2_with (first | (go_at_call 44; refine (spec_l9Takes _ _).mono ?_; rintro e w' ⟨rfl, rfl⟩))
            go_region_held3 (fun w' => w'.cell? ⟨b, off + j, none⟩ = some (.int .i64 s) ∧ w'.cell? ⟨g, m, none⟩ = some (.int .i64 a)) (go_keep) (fail)
            go_wp2_with (first | (go_at_call 44; refine (spec_l9Takes _ _).mono ?_; rintro e w' ⟨rfl, rfl⟩))
            obtain ⟨w5, hw5⟩ : ∃ w5, w5 = ((wr.alloc (.cells #[.int .i64 s, .int .i64 a, .int .i64 0] 32)).drew) := ⟨_, rfl⟩
            have bl5 : Blk w5 wr.heap.size 32 #[.int .i64 s, .int .i64 a, .int .i64 0] := by rw [hw5]; exact (Blk.new wr _ _).drew
            have ownC5 := World.ownsRow.drew (ownC.alloc (.cells #[.int .i64 s, .int .i64 a, .int .i64 0] 32))
            have ownS5 := World.ownsRow.drew (ownS.alloc (.cells #[.int .i64 s, .int .i64 a, .int .i64 0] 32))
            have HB5 := below_drewN (hb.alloc hz (.cells #[.int .i64 s, .int .i64 a, .int .i64 0] 32)) 1
            have hz5 : w5.heap.size = wr.heap.size + 1 := by rw [hw5]; show (wr.alloc _).heap.size = _; simp
            rw [← hw5] at ownC5 ownS5 ⊢
            replace HB5 : Below w.heap.size w w5 := by rw [hw5]; exact HB5
            clear hw5
            have hcap : (m : Int) ≤ (cs : Int) := by obtain ⟨_, _, e, hle, _⟩ := Rd.of_own ownS5; injection e with _ _ e3; omega
            have ownSc := own_cut ownS5 (m := m) (by omega)
            rw [I64_take] at ownSc
            have rdC5 := rdI_own ownC5
            have y0 : w5.cell? ⟨wr.heap.size, 0, none⟩ = some (.int .i64 s) := (bl5.cell 0).trans rfl
            have y1 : w5.cell? ⟨wr.heap.size, 1, none⟩ = some (.int .i64 a) := (bl5.cell 1).trans rfl
            have y2 : w5.cell? ⟨wr.heap.size, 2, none⟩ = some (.int .i64 0) := (bl5.cell 2).trans rfl
            have hnc' := hnc.out
            clear c1 ownC ownS hb bl5 ownS5
            go_loopw [9] (fun i wq => ∃ t q : Nat, t ≤ nc ∧ i = .int .i64 t ∧ Hid (∀ u : Nat, u < t → code[u]? ≠ some (s, a, 0)) ∧ wq = w5.drewN q) (fun i _ => nc - (intOf i).toNat)
            case atStart => exact ⟨0, 0, by omega, rfl, fun u hu => absurd hu (by omega), rfl⟩
            case round =>
              obtain ⟨t, q, htc, rfl, hs, rfl⟩ := hrel
              by_cases htn : t < nc
              · obtain ⟨gb, go, rfl, hgl, hcells⟩ := rdC5.pos (by omega)
                obtain ⟨⟨p, pa, pb⟩, eo⟩ : ∃ o, code[t]? = some o := ⟨_, List.getElem?_eq_getElem (by omega)⟩
                obtain ⟨p1, p2, p3⟩ := hcells t _ eo
                have hti : (t : Int) < (nc : Int) := by omega
                have ht0 : (0 : Int) ≤ (t : Int) := by omega
                have EO := Lib.hid eo
                clear eo hcells
                by_cases e1 : s = p
                · subst e1
                  by_cases e2 : a = pa
                  · subst e2
                    by_cases e3 : 0 = pb
                    · subst e3
                      have hi := idx_at EO.out hs.out
                      have hif : (if code.idxOf (s, a, 0) < code.length then code else code ++ [(s, a, 0)]) = code := by rw [if_pos (by omega)]
                      have HIF := Lib.hid hif
                      have HIE := Lib.hid hi
                      have htne : ((t : Int) == (nc : Int)) = false := by rw [beq_eq_false_iff_ne]; omega
                      clear hi hif
                      go_wp2_with fail
                      go_quiet (fail)
                      go_wp2_with (at_builtin; refine app_int_far rfl (.tmp 93) (.tmp 96) rfl w.heap.size (.slice (some ⟨g, 0, none⟩) m cs) m (st.take m) (100 + (t : Int)) rfl (by exact ownSc) (by first | rfl | (go_simp; done) | (simp [Act.eval]; done)) (by omega) (by show w.heap.size ≤ w5.heap.size; omega) ?_; intro v7 w7 own7 hb7 hg7)
                      obtain ⟨A7, k7, rfl, _⟩ := Rd.of_own own7
                      have ownC7 := (World.ownsRow.alloc (own_drewN ownC5 (q + nq)) _).kept hg7 (rows_apart ownC5 ownSc (by decide))
                      exact ⟨⟨j + 1, m + 1, nc, code, st.take m ++ [100 + (t : Int)], some ⟨gb, go, none⟩, A7, cc, k7, by omega, by go_num, Lib.hid (by rw [HN.out, hpu.out, HIF.out, HIE.out]), Lib.hid (by rw [HS.out]; simp), by omega, by omega, hnc, Lib.hid (by rw [List.length_append, List.length_take, hd.out]; simp), rfl, rfl, ownC7, own7, (below_drewN HB5 (q + nq)).trans hb7⟩, by simp [intOf]; omega⟩
                    · have HD := Lib.hid (show (s, a, pb) ≠ (s, a, 0) from fun e => e3 (by injection e with _ e; injection e with _ e; exact e.symm))
                      go_wp2_with fail
                      go_quiet (fail)
                      go_wp2_with fail
                      go_roundw
                      case rel =>
                        refine ⟨t + 1, q + nq, by omega, by go_num, fun u hu => ?_, by first | rfl | rw [World.drewN_drewN]⟩
                        rcases Nat.lt_or_ge u t with h | h
                        · exact hs.out u h
                        · obtain rfl : u = t := by omega
                          rw [EO.out]
                          exact fun e => HD.out (by injection e)
                      case measure => simp [intOf]; omega
                  · have HD := Lib.hid (show (s, pa, pb) ≠ (s, a, 0) from fun e => e2 (by injection e with _ e; injection e with e _; exact e.symm))
                    go_wp2_with fail
                    go_quiet (fail)
                    go_wp2_with fail
                    go_roundw
                    case rel =>
                      refine ⟨t + 1, q + nq, by omega, by go_num, fun u hu => ?_, by first | rfl | rw [World.drewN_drewN]⟩
                      rcases Nat.lt_or_ge u t with h | h
                      · exact hs.out u h
                      · obtain rfl : u = t := by omega
                        rw [EO.out]
                        exact fun e => HD.out (by injection e)
                    case measure => simp [intOf]; omega
                · have HD := Lib.hid (show (p, pa, pb) ≠ (s, a, 0) from fun e => e1 (by injection e with e _; exact e.symm))
                  go_wp2_with fail
                  go_quiet (fail)
                  go_wp2_with fail
                  go_roundw
                  case rel =>
                    refine ⟨t + 1, q + nq, by omega, by go_num, fun u hu => ?_, by first | rfl | rw [World.drewN_drewN]⟩
                    rcases Nat.lt_or_ge u t with h | h
                    · exact hs.out u h
                    · obtain rfl : u = t := by omega
                      rw [EO.out]
                      exact fun e => HD.out (by injection e)
                  case measure => simp [intOf]; omega
              · obtain rfl : t = nc := by omega
                have hi := idx_none (cs := code) (c := (s, a, 0)) (fun u hu => hs.out u (by omega))
                have hif : (if code.idxOf (s, a, 0) < code.length then code else code ++ [(s, a, 0)]) = code ++ [(s, a, 0)] := by rw [if_neg (by omega)]
                rw [hnc'] at hi
                have HIF := Lib.hid hif
                have HIE := Lib.hid hi
                clear hi hif
                have htt : ((t : Int) == (t : Int)) = true := by simp
                go_wp2_with fail
                go_quiet (fail)
                go_wp2_with (first
                  | (at_builtin; refine app_op rfl (.tmp 87) (.tmp 89) rfl w.heap.size (.slice Ac t cc) t code (s, a, 0) rfl (by exact ownC5) (by first | rfl | (go_simp; done) | (simp [Act.eval]; done)) (by omega) (by show w.heap.size ≤ w5.heap.size; omega) ?_; intro v6 w6 own6 hb6 hg6; obtain ⟨A6, k6, rfl⟩ := own_form own6; have hz6 := hb6.size; have ownS6 := (World.ownsRow.alloc (own_drewN ownSc (q + nq)) (.cells #[.int .i64 s, .int .i64 a, .int .i64 0] 32)).kept hg6 (rows_apart ownSc ownC5 (by decide)))
                  | (at_builtin; refine app_int_far rfl (.tmp 93) (.tmp 96) rfl w.heap.size (.slice (some ⟨g, 0, none⟩) m cs) m (st.take m) (100 + (t : Int)) rfl ownS6 rfl (by omega) (by have h5 : w5.heap.size ≤ w6.heap.size := hz6; omega) ?_; intro v7 w7 own7 hb7 hg7))
                obtain ⟨A7, k7, rfl, _⟩ := Rd.of_own own7
                have ownC7 := (own6.alloc (.cells #[.int .i64 (100 + (t : Int))] 3)).kept hg7 (rows_apart own6 ownS6 (by decide))
                exact ⟨⟨j + 1, m + 1, t + 1, code ++ [(s, a, 0)], st.take m ++ [100 + (t : Int)], A6, A7, k6, k7, by omega, by go_num, Lib.hid (by rw [HN.out, hpu.out, HIF.out, HIE.out]), Lib.hid (by rw [HS.out]; simp), by omega, by omega, Lib.hid (by rw [List.length_append, hnc.out]; rfl), Lib.hid (by rw [List.length_append, List.length_take, hd.out]; simp), rfl, rfl, ownC7, own7, ((below_drewN HB5 (q + nq)).trans hb6).trans hb7⟩, by simp [intOf]; omega⟩
          · have ht2 := Pl.takes_2 (s := s) (by omega)
            rw [ht2] at HS ht
            obtain ⟨m, rfl⟩ : ∃ m, d = m + 2 := ⟨d - 2, by omega⟩
            have hpu := Lib.hid (code_2 (code := code) (st := st) (s := s) (by omega) hd.out)
            obtain ⟨g, rfl, hg0, hg1⟩ := own_some ownS (by omega)
            have hgm := Lib.hid (I64_getD (xs := st) (j := m) (by have := hd.out; omega))
            have hgm' := Lib.hid (I64_getD (xs := st) (j := m + 1) (by have := hd.out; omega))
            generalize st.getD m 0 = a at *
            generalize st.getD (m + 1) 0 = a' at *
            have d2 : wr.cell? ⟨g, m, none⟩ = some (.int .i64 a) := by rw [ownS.cellAt m (by omega)]; exact hgm.out
            have d3 : wr.cell? ⟨g, m + 1, none⟩ = some (.int .i64 a') := by rw [ownS.cellAt (m + 1) (by omega)]; exact hgm'.out
            have hm0 : (0 : Int) ≤ (m : Int) := by omega
            have hm1 : (m : Int) < (m : Int) + 2 := by omega
            have hm2 : (m : Int) + 1 < (m : Int) + 2 := by omega
            have hm3 : (0 : Int) ≤ (m : Int) + 1 := by omega
            have hm4 : ((m : Int) + 1).toNat = m + 1 := by omega
            have hm5 : (m : Int) + 2 - 1 = (m : Int) + 1 := by omega
            have hk1 : IntKind.i64.wrap (m : Int) = m := IntWalk.i64_in _ (by omega)
            have gne1 : ¬ g = wr.heap.size := by omega
            have gne2 : ¬ wr.heap.size = g := by omega
            have n1 := World.new_ne wr _ d2
            have n2 := World.new_ne wr _ c1
            have n3 := World.new_ne wr _ d3
            go_wp2_with (first | (go_at_call 44; refine (spec_l9Takes _ _).mono ?_; rintro e w' ⟨rfl, rfl⟩))
            go_region_held3 (fun w' => w'.cell? ⟨b, off + j, none⟩ = some (.int .i64 s) ∧ w'.cell? ⟨g, m, none⟩ = some (.int .i64 a) ∧ w'.cell? ⟨g, m + 1, none⟩ = some (.int .i64 a')) (go_keep) (fail)
            go_wp2_with (first | (go_at_call 44; refine (spec_l9Takes _ _).mono ?_; rintro e w' ⟨rfl, rfl⟩))
            go_region_held3 (fun w' => w'.cell? ⟨b, off + j, none⟩ = some (.int .i64 s) ∧ w'.cell? ⟨g, m, none⟩ = some (.int .i64 a) ∧ w'.cell? ⟨g, m + 1, none⟩ = some (.int .i64 a')) (go_keep) (fail)
            go_wp2_with (first | (go_at_call 44; refine (spec_l9Takes _ _).mono ?_; rintro e w' ⟨rfl, rfl⟩))
            obtain ⟨w5, hw5⟩ : ∃ w5, w5 = (wr.alloc (.cells #[.int .i64 s, .int .i64 a, .int .i64 a'] 32)).drew.drew := ⟨_, rfl⟩
            have bl5 : Blk w5 wr.heap.size 32 #[.int .i64 s, .int .i64 a, .int .i64 a'] := by rw [hw5]; exact (Blk.new wr _ _).drew.drew
            have ownC5 := World.ownsRow.drew (World.ownsRow.drew (ownC.alloc (.cells #[.int .i64 s, .int .i64 a, .int .i64 a'] 32)))
            have ownS5 := World.ownsRow.drew (World.ownsRow.drew (ownS.alloc (.cells #[.int .i64 s, .int .i64 a, .int .i64 a'] 32)))
            have HB5 : Below w.heap.size w w5 := by rw [hw5]; exact below_drewN (hb.alloc hz (.cells #[.int .i64 s, .int .i64 a, .int .i64 a'] 32)) 2
            have hz5 : w5.heap.size = wr.heap.size + 1 := by rw [hw5]; show (wr.alloc _).heap.size = _; simp
            rw [← hw5] at ownC5 ownS5 ⊢
            clear hw5
            have hcap : (m : Int) ≤ (cs : Int) := by obtain ⟨_, _, e, hle, _⟩ := Rd.of_own ownS5; injection e with _ _ e3; omega
            have ownSc := own_cut ownS5 (m := m) (by omega)
            rw [I64_take] at ownSc
            have rdC5 := rdI_own ownC5
            have y0 : w5.cell? ⟨wr.heap.size, 0, none⟩ = some (.int .i64 s) := (bl5.cell 0).trans rfl
            have y1 : w5.cell? ⟨wr.heap.size, 1, none⟩ = some (.int .i64 a) := (bl5.cell 1).trans rfl
            have y2 : w5.cell? ⟨wr.heap.size, 2, none⟩ = some (.int .i64 a') := (bl5.cell 2).trans rfl
            have hnc' := hnc.out
            clear c1 ownC ownS hb bl5 ownS5
            go_loopw [9] (fun i wq => ∃ t q : Nat, t ≤ nc ∧ i = .int .i64 t ∧ Hid (∀ u : Nat, u < t → code[u]? ≠ some (s, a, a')) ∧ wq = w5.drewN q) (fun i _ => nc - (intOf i).toNat)
            case atStart => exact ⟨0, 0, by omega, rfl, fun u hu => absurd hu (by omega), rfl⟩
            case round =>
              obtain ⟨t, q, htc, rfl, hs, rfl⟩ := hrel
              by_cases htn : t < nc
              · obtain ⟨gb, go, rfl, hgl, hcells⟩ := rdC5.pos (by omega)
                obtain ⟨⟨p, pa, pb⟩, eo⟩ : ∃ o, code[t]? = some o := ⟨_, List.getElem?_eq_getElem (by omega)⟩
                obtain ⟨p1, p2, p3⟩ := hcells t _ eo
                have hti : (t : Int) < (nc : Int) := by omega
                have ht0 : (0 : Int) ≤ (t : Int) := by omega
                have EO := Lib.hid eo
                clear eo hcells
                by_cases e1 : s = p
                · subst e1
                  by_cases e2 : a = pa
                  · subst e2
                    by_cases e3 : a' = pb
                    · subst e3
                      have hi := idx_at EO.out hs.out
                      have hif : (if code.idxOf (s, a, a') < code.length then code else code ++ [(s, a, a')]) = code := by rw [if_pos (by omega)]
                      have HIF := Lib.hid hif
                      have HIE := Lib.hid hi
                      have htne : ((t : Int) == (nc : Int)) = false := by rw [beq_eq_false_iff_ne]; omega
                      clear hi hif
                      go_wp2_with fail
                      go_quiet (fail)
                      go_wp2_with (at_builtin; refine app_int_far rfl (.tmp 93) (.tmp 96) rfl w.heap.size (.slice (some ⟨g, 0, none⟩) m cs) m (st.take m) (100 + (t : Int)) rfl (by exact ownSc) (by first | rfl | (go_simp; done) | (simp [Act.eval]; done)) (by omega) (by show w.heap.size ≤ w5.heap.size; omega) ?_; intro v7 w7 own7 hb7 hg7)
                      obtain ⟨A7, k7, rfl, _⟩ := Rd.of_own own7
                      have ownC7 := (World.ownsRow.alloc (own_drewN ownC5 (q + nq)) _).kept hg7 (rows_apart ownC5 ownSc (by decide))
                      exact ⟨⟨j + 1, m + 1, nc, code, st.take m ++ [100 + (t : Int)], some ⟨gb, go, none⟩, A7, cc, k7, by omega, by go_num, Lib.hid (by rw [HN.out, hpu.out, HIF.out, HIE.out]), Lib.hid (by rw [HS.out]; simp; omega), by omega, by omega, hnc, Lib.hid (by rw [List.length_append, List.length_take, hd.out]; simp), rfl, rfl, ownC7, own7, (below_drewN HB5 (q + nq)).trans hb7⟩, by simp [intOf]; omega⟩
                    · have HD := Lib.hid (show (s, a, pb) ≠ (s, a, a') from fun e => e3 (by injection e with _ e; injection e with _ e; exact e.symm))
                      go_wp2_with fail
                      go_quiet (fail)
                      go_wp2_with fail
                      go_roundw
                      case rel =>
                        refine ⟨t + 1, q + nq, by omega, by go_num, fun u hu => ?_, by first | rfl | rw [World.drewN_drewN]⟩
                        rcases Nat.lt_or_ge u t with h | h
                        · exact hs.out u h
                        · obtain rfl : u = t := by omega
                          rw [EO.out]
                          exact fun e => HD.out (by injection e)
                      case measure => simp [intOf]; omega
                  · have HD := Lib.hid (show (s, pa, pb) ≠ (s, a, a') from fun e => e2 (by injection e with _ e; injection e with e _; exact e.symm))
                    go_wp2_with fail
                    go_quiet (fail)
                    go_wp2_with fail
                    go_roundw
                    case rel =>
                      refine ⟨t + 1, q + nq, by omega, by go_num, fun u hu => ?_, by first | rfl | rw [World.drewN_drewN]⟩
                      rcases Nat.lt_or_ge u t with h | h
                      · exact hs.out u h
                      · obtain rfl : u = t := by omega
                        rw [EO.out]
                        exact fun e => HD.out (by injection e)
                    case measure => simp [intOf]; omega
                · have HD := Lib.hid (show (p, pa, pb) ≠ (s, a, a') from fun e => e1 (by injection e with e _; exact e.symm))
                  go_wp2_with fail
                  go_quiet (fail)
                  go_wp2_with fail
                  go_roundw
                  case rel =>
                    refine ⟨t + 1, q + nq, by omega, by go_num, fun u hu => ?_, by first | rfl | rw [World.drewN_drewN]⟩
                    rcases Nat.lt_or_ge u t with h | h
                    · exact hs.out u h
                    · obtain rfl : u = t := by omega
                      rw [EO.out]
                      exact fun e => HD.out (by injection e)
                  case measure => simp [intOf]; omega
              · obtain rfl : t = nc := by omega
                have hi := idx_none (cs := code) (c := (s, a, a')) (fun u hu => hs.out u (by omega))
                have hif : (if code.idxOf (s, a, a') < code.length then code else code ++ [(s, a, a')]) = code ++ [(s, a, a')] := by rw [if_neg (by omega)]
                rw [hnc'] at hi
                have HIF := Lib.hid hif
                have HIE := Lib.hid hi
                clear hi hif
                have htt : ((t : Int) == (t : Int)) = true := by simp
                go_wp2_with fail
                go_quiet (fail)
                go_wp2_with (first
                  | (at_builtin; refine app_op rfl (.tmp 87) (.tmp 89) rfl w.heap.size (.slice Ac t cc) t code (s, a, a') rfl (by exact ownC5) (by first | rfl | (go_simp; done) | (simp [Act.eval]; done)) (by omega) (by show w.heap.size ≤ w5.heap.size; omega) ?_; intro v6 w6 own6 hb6 hg6; obtain ⟨A6, k6, rfl⟩ := own_form own6; have hz6 := hb6.size; have ownS6 := (World.ownsRow.alloc (own_drewN ownSc (q + nq)) (.cells #[.int .i64 s, .int .i64 a, .int .i64 a'] 32)).kept hg6 (rows_apart ownSc ownC5 (by decide)))
                  | (at_builtin; refine app_int_far rfl (.tmp 93) (.tmp 96) rfl w.heap.size (.slice (some ⟨g, 0, none⟩) m cs) m (st.take m) (100 + (t : Int)) rfl ownS6 rfl (by omega) (by have h5 : w5.heap.size ≤ w6.heap.size := hz6; omega) ?_; intro v7 w7 own7 hb7 hg7))
                obtain ⟨A7, k7, rfl, _⟩ := Rd.of_own own7
                have ownC7 := (own6.alloc (.cells #[.int .i64 (100 + (t : Int))] 3)).kept hg7 (rows_apart own6 ownS6 (by decide))
                exact ⟨⟨j + 1, m + 1, t + 1, code ++ [(s, a, a')], st.take m ++ [100 + (t : Int)], A6, A7, k6, k7, by omega, by go_num, Lib.hid (by rw [HN.out, hpu.out, HIF.out, HIE.out]), Lib.hid (by rw [HS.out]; simp; omega), by omega, by omega, Lib.hid (by rw [List.length_append, hnc.out]; rfl), Lib.hid (by rw [List.length_append, List.length_take, hd.out]; simp), rfl, rfl, ownC7, own7, ((below_drewN HB5 (q + nq)).trans hb6).trans hb7⟩, by simp [intOf]; omega⟩
      · obtain rfl : j = n := by omega
        have hs1 := hscan.out
        have hcd := hcode.out
        rw [show xs.take j = xs by rw [← hL.out, List.take_length]] at hs1 hcd
        rw [HSC.out] at hs1
        have hd1 : d = 1 := by injection hs1 with h; omega
        subst hd1
        obtain ⟨v, rfl⟩ : ∃ v, st = [v] := List.length_eq_one_iff.1 hd.out
        obtain ⟨g, rfl, hg0, hg1⟩ := own_some ownS (by omega)
        have d2 : wr.cell? ⟨g, 0, none⟩ = some (.int .i64 v) := by rw [ownS.cellAt 0 (by omega)]; rfl
        have hre := hr.out
        rw [hcd] at hre
        have HR := Lib.hid hre
        clear hre hs1 hcd
        go_wp2_with fail
        go_quiet (fail)
        go_wp2_with fail
        go_ret2
        rw [HR.out]
        have hnn := hnc.out
        subst hnn
        exact ⟨Ac, cc, rfl, ownC, below_drewN hb _⟩
end Go.Proofs.Ytnjcephddilalab
