/-
  The program's CodeOf: the walk.
  Conditions: as stated.
-/
import Derived.Test.YtnjcephddilalabE10
namespace Go.Proofs.Ytnjcephddilalab
set_option linter.unusedVariables false
set_option linter.unusedSimpArgs false
open Go.RowKit
theorem own_form {w : World} {base n size : Nat} {e : TypeId} {v : Value} {xs : List Value} (h : w.ownsRow base e size v n xs) : ∃ A c, v = .slice A n c := by
  rcases h.2 with ⟨rfl, rfl⟩ | ⟨g, cap, cur, rfl, _⟩
  · exact ⟨_, _, rfl⟩
  · exact ⟨_, _, rfl⟩
set_option maxRecDepth 100000 in
set_option maxHeartbeats 2000000 in
theorem impl_CodeOf (A : Option Addr) (n c B : Nat) (xs : List Int) (w : World) (hx : Rd w B A n (I64 xs)) (hB : B ≤ w.heap.size) (hn : n ≤ 1000000000000) :
    Calls Try.prog 10 #[.slice A n c] w (OutC (Pl.codeOf xs) w) := by
  have lx : xs.length = n := by have := hx.len; rwa [I64_len] at this
  have cv := fun w' => impl_ExprValid A n c B xs w'
  cases he : Pl.exprValid xs
  · have hr := Lib.hid (codeOf_f he)
    rw [he] at cv
    go_enter Try.func10, Try.ntmps10
    go_wp2_with fail
    refine (cv _ hx hn).mono ?_
    rintro e w' ⟨rfl, rfl⟩
    go_wp2_with fail
    go_ret2
    rw [hr.out]
    exact ⟨_, _, rfl, World.ownsRow_nil _ _ _ _, Below.refl _ _⟩
  · have hr := Lib.hid (codeOf_t he)
    rw [he] at cv
    obtain ⟨e0, e1, e2⟩ := Pl.valid_t he
    rw [lx] at e0 e1
    obtain ⟨b, off, rfl, hbl, hc⟩ := hx.pos (by omega)
    have HC := Lib.hid hc
    have hL := Lib.hid lx
    have HSC := Lib.hid e2
    have hx' := hx
    clear hc he e2 lx
    go_enter Try.func10, Try.ntmps10
    go_wp2_with fail
    refine (cv _ hx' hn).mono ?_
    rintro e w' ⟨rfl, rfl⟩
    clear hx hx' cv
    go_wp2_with fail
    go_loopw [4, 5, 16] (fun vc vs i wr => ∃ (j d nc : Nat) (code : List Pl.Op3) (st : List Int) (Ac As : Option Addr) (cc cs : Nat), j ≤ n ∧ i = .int .i64 j ∧ Hid (Pl.codeS (xs.take j) = (code, st)) ∧ Hid (Pl.scan (xs.take j) 0 = some (d : Int)) ∧ d ≤ j ∧ nc ≤ j ∧ Hid (code.length = nc) ∧ Hid (st.length = d) ∧ vc = .slice Ac nc cc ∧ vs = .slice As d cs ∧
      wr.ownsRow w.heap.size 32 3 (.slice Ac nc cc) nc (I3 code) ∧ wr.ownsRow w.heap.size 3 1 (.slice As d cs) d (I64 st) ∧ Below w.heap.size w wr) (fun _ _ i _ => n - (intOf i).toNat)
    case atStart => exact ⟨0, 0, 0, [], [], none, none, 0, 0, by omega, rfl, Lib.hid rfl, Lib.hid (by simp [Pl.scan]), by omega, by omega, Lib.hid rfl, Lib.hid rfl, rfl, rfl, World.ownsRow_nil _ _ _ _, World.ownsRow_nil _ _ _ _, Below.refl _ _⟩
    case round =>
      obtain ⟨j, d, nc, code, st, Ac, As, cc, cs, hj, rfl, hcode, hscan, hdj, hncj, hnc, hd, rfl, rfl, ownC, ownS, hb⟩ := hrel
      have hz := hb.size
      by_cases hlt : j < n
      · obtain ⟨s, es⟩ : ∃ s, xs[j]? = some s := ⟨_, List.getElem?_eq_getElem (by have := hL.out; omega)⟩
        have c1 : wr.cell? ⟨b, off + j, none⟩ = some (.int .i64 s) := (hb.cell (p := ⟨b, off + j, none⟩) (show b < w.heap.size by omega)).trans (HC.out j _ (I64_get es))
        obtain ⟨⟨s0, s1⟩, ht⟩ := Pl.scan_at HSC.out es hscan.out
        have hnext := Pl.codeS_snoc es
        rw [hcode.out] at hnext
        have HN := Lib.hid hnext
        have HS := Lib.hid (Pl.scan_snoc es hscan.out s0 s1 ht)
        have hin : (j : Int) < (n : Int) := by omega
        have hj0 : (0 : Int) ≤ j := by omega
        clear es hnext
        by_cases t0 : s < 12
        · have ht0 := Pl.takes_0 t0
          rw [ht0] at HS ht
          have hpu := Lib.hid (code_0 (code := code) (st := st) t0)
          go_wp2_with (first | (first | (go_at_call 42; refine (impl_takes _ _).mono ?_; rintro e w' ⟨rfl, rfl⟩)) | (at_builtin; refine app_int_far rfl (.tmp 25) (.tmp 27) rfl w.heap.size (.slice As d cs) d st s rfl ownS rfl (by omega) hz ?_; intro v' w1 own1 hb1 hg1))
          obtain ⟨A1, k1, rfl, _⟩ := Rd.of_own own1
          have ownC1 := (ownC.alloc (.cells #[.int .i64 s] 3)).kept hg1 (rows_apart ownC ownS (by decide))
          exact ⟨⟨j + 1, d + 1, nc, code, st ++ [s], Ac, A1, cc, k1, by omega, by go_num, Lib.hid (by rw [HN.out, hpu.out]), Lib.hid (by rw [HS.out]; simp), by omega, by omega, hnc, Lib.hid (by rw [List.length_append, hd.out]; rfl), rfl, rfl, ownC1, own1, hb.trans hb1⟩, by simp [intOf]; omega⟩
        · by_cases t1 : s < 15
          · have ht1 := Pl.takes_1 (by omega) t1
            rw [ht1] at HS ht
            obtain ⟨m, rfl⟩ : ∃ m, d = m + 1 := ⟨d - 1, by omega⟩
            have hpu := Lib.hid (code_1 (code := code) (st := st) (by omega) t1 hd.out)
            obtain ⟨g, rfl, hg0, hg1⟩ := own_some ownS (by omega)
            have hgm := Lib.hid (I64_getD (xs := st) (j := m) (by have := hd.out; omega))
            generalize st.getD m 0 = a at *
            have d2 : wr.cell? ⟨g, m, none⟩ = some (.int .i64 a) := by rw [ownS.cellAt m (by omega)]; exact hgm.out
            have hm0 : (0 : Int) ≤ (m : Int) := by omega
            go_wp2_with (first | (go_at_call 42; refine (impl_takes _ _).mono ?_; rintro e w' ⟨rfl, rfl⟩))
            refine (index_ins Ac nc cc _ code (s, a, 0) _ ((rdI_own ownC).below ((Below.refl wr.heap.size wr).alloc (Nat.le_refl _) (.cells #[.int .i64 s, .int .i64 a, .int .i64 0] 32))) (by simp) (by omega)).mono ?_
            have bl := Blk.new wr 32 #[.int .i64 s, .int .i64 a, .int .i64 0]
            have ownCa := ownC.alloc (.cells #[.int .i64 s, .int .i64 a, .int .i64 0] 32)
            have ownSa := ownS.alloc (.cells #[.int .i64 s, .int .i64 a, .int .i64 0] 32)
            have hba := hb.alloc hz (.cells #[.int .i64 s, .int .i64 a, .int .i64 0] 32)
            have hcap : (m : Int) ≤ (cs : Int) := by obtain ⟨_, _, e, hle, _⟩ := Rd.of_own ownS; injection e with _ _ e3; omega
            have hnc' := hnc.out
            by_cases hf : code.idxOf (s, a, 0) < nc
            · have hI : idxI code (s, a, 0) nc = (code.idxOf (s, a, 0) : Int) := by unfold idxI; rw [if_pos hf]
              rw [hI]
              have hif : (if code.idxOf (s, a, 0) < code.length then code else code ++ [(s, a, 0)]) = code := by rw [if_pos (by omega)]
              have HIF := Lib.hid hif
              have hN : ∃ I : Nat, I = code.idxOf (s, a, 0) := ⟨_, rfl⟩
              obtain ⟨I, hIe⟩ := hN
              rw [← hIe] at hf ⊢
              have HIE := Lib.hid hIe
              clear hI hif hIe
              have hI0 : ¬ (I : Int) < 0 := by omega
              rintro e w5 ⟨rfl, hb5⟩
              have ownC5 := own_below ownCa hb5
              have ownS5 := own_below ownSa hb5
              have ownSc := own_cut ownS5 (m := m) (by omega)
              rw [I64_take] at ownSc
              have hz5 := hb5.size
              have hz5' : wr.heap.size + 1 ≤ w5.heap.size := by simpa using hz5
              have HB5 := below_step hba hb5 (by simp; omega)
              clear ownCa ownSa ownS5 hba bl
              go_wp2_with (first | (first | (go_at_call 42; refine (impl_takes _ _).mono ?_; rintro e w' ⟨rfl, rfl⟩)) | (at_builtin; refine app_int_far rfl (.tmp 63) (.tmp 66) rfl w.heap.size (.slice (some ⟨g, 0, none⟩) m cs) m (st.take m) (100 + (I : Int)) rfl ownSc rfl (by omega) (by omega) ?_; intro v7 w7 own7 hb7 hg7))
              obtain ⟨A7, k7, rfl, _⟩ := Rd.of_own own7
              have ownC7 := (ownC5.alloc (.cells #[.int .i64 (100 + (I : Int))] 3)).kept hg7 (rows_apart ownC5 ownSc (by decide))
              exact ⟨⟨j + 1, m + 1, nc, code, st.take m ++ [100 + (I : Int)], Ac, A7, cc, k7, by omega, by go_num, Lib.hid (by rw [HN.out, hpu.out, HIF.out, HIE.out]), Lib.hid (by rw [HS.out]; simp), by omega, by omega, hnc, Lib.hid (by rw [List.length_append, List.length_take, hd.out]; simp), rfl, rfl, ownC7, own7, HB5.trans hb7⟩, by simp [intOf]; omega⟩
            · have hI : idxI code (s, a, 0) nc = -1 := by unfold idxI; rw [if_neg hf]
              rw [hI]
              have hif : (if code.idxOf (s, a, 0) < code.length then code else code ++ [(s, a, 0)]) = code ++ [(s, a, 0)] := by rw [if_neg (by omega)]
              have hidx : code.idxOf (s, a, 0) = nc := by have := List.idxOf_le_length (a := (s, a, 0)) (l := code); omega
              have HIF := Lib.hid hif
              have HIE := Lib.hid hidx
              clear hI hif hidx hf
              rintro e w5 ⟨rfl, hb5⟩
              have ownC5 := own_below ownCa hb5
              have ownS5 := own_below ownSa hb5
              have ownSc := own_cut ownS5 (m := m) (by omega)
              rw [I64_take] at ownSc
              have hz5 := hb5.size
              have hz5' : wr.heap.size + 1 ≤ w5.heap.size := by simpa using hz5
              have bl5 := bl.below hb5 bl.lt
              have y0 : w5.cell? ⟨wr.heap.size, 0, none⟩ = some (.int .i64 s) := (bl5.cell 0).trans rfl
              have y1 : w5.cell? ⟨wr.heap.size, 1, none⟩ = some (.int .i64 a) := (bl5.cell 1).trans rfl
              have y2 : w5.cell? ⟨wr.heap.size, 2, none⟩ = some (.int .i64 0) := (bl5.cell 2).trans rfl
              have HB5 := below_step hba hb5 (by simp; omega)
              clear ownCa ownSa ownS5 hba bl bl5
              go_wp2_with (first
                | (first | (go_at_call 42; refine (impl_takes _ _).mono ?_; rintro e w' ⟨rfl, rfl⟩))
                | (at_builtin; refine app_op rfl (.tmp 54) (.tmp 56) rfl w.heap.size (.slice Ac nc cc) nc code (s, a, 0) rfl ownC5 rfl (by omega) (by omega) ?_; intro v6 w6 own6 hb6 hg6; obtain ⟨A6, k6, rfl⟩ := own_form own6; have hz6 := hb6.size; have ownS6 := (ownSc.alloc (.cells #[.int .i64 s, .int .i64 a, .int .i64 0] 32)).kept hg6 (rows_apart ownSc ownC5 (by decide)))
                | (at_builtin; refine app_int_far rfl (.tmp 63) (.tmp 66) rfl w.heap.size (.slice (some ⟨g, 0, none⟩) m cs) m (st.take m) (100 + (nc : Int)) rfl ownS6 rfl (by omega) (by omega) ?_; intro v7 w7 own7 hb7 hg7))
              obtain ⟨A7, k7, rfl, _⟩ := Rd.of_own own7
              have ownC7 := (own6.alloc (.cells #[.int .i64 (100 + (nc : Int))] 3)).kept hg7 (rows_apart own6 ownS6 (by decide))
              exact ⟨⟨j + 1, m + 1, nc + 1, code ++ [(s, a, 0)], st.take m ++ [100 + (nc : Int)], A6, A7, k6, k7, by omega, by go_num, Lib.hid (by rw [HN.out, hpu.out, HIF.out, HIE.out]), Lib.hid (by rw [HS.out]; simp), by omega, by omega, Lib.hid (by rw [List.length_append, hnc.out]; rfl), Lib.hid (by rw [List.length_append, List.length_take, hd.out]; simp), rfl, rfl, ownC7, own7, (HB5.trans hb6).trans hb7⟩, by simp [intOf]; omega⟩
          · have ht2 := Pl.takes_2 (s := s) (by omega)
            rw [ht2] at HS ht
            obtain ⟨m, rfl⟩ : ∃ m, d = m + 2 := ⟨d - 2, by omega⟩
            have hpu := Lib.hid (code_2 (code := code) (st := st) (s := s) (by omega) hd.out)
            obtain ⟨g, rfl, hg0, hg1⟩ := own_some ownS (by omega)
            have hgm := Lib.hid (I64_getD (xs := st) (j := m) (by have := hd.out; omega))
            have hgm' := Lib.hid (I64_getD (xs := st) (j := m + 1) (by have := hd.out; omega))
            generalize st.getD m 0 = a at *
            generalize st.getD (m + 1) 0 = a' at *
            have d2 : wr.cell? ⟨g, m, none⟩ = some (.int .i64 a) := by rw [ownS.cellAt m (by omega)]; exact hgm.out
            have d3 : wr.cell? ⟨g, m + 1, none⟩ = some (.int .i64 a') := by rw [ownS.cellAt (m + 1) (by omega)]; exact hgm'.out
            have hm0 : (0 : Int) ≤ (m : Int) := by omega
            have hm1 : (m : Int) < (m : Int) + 2 := by omega
            have hm2 : (m : Int) + 1 < (m : Int) + 2 := by omega
            have hm3 : (0 : Int) ≤ (m : Int) + 1 := by omega
            have hm4 : ((m : Int) + 1).toNat = m + 1 := by omega
            have hm5 : (m : Int) + 2 - 1 = (m : Int) + 1 := by omega
            have hgne : ¬ g = wr.heap.size := by omega
            have hgne' : ¬ wr.heap.size = g := by omega
            have d3' : (wr.alloc (.cells #[.int .i64 s, .int .i64 a, .int .i64 0] 32)).cell? ⟨g, m + 1, none⟩ = some (.int .i64 a') := (World.cell?_alloc_lt wr _ ⟨g, m + 1, none⟩ hg1).trans d3
            go_wp2_with (first | (go_at_call 42; refine (impl_takes _ _).mono ?_; rintro e w' ⟨rfl, rfl⟩))
            refine (index_ins Ac nc cc _ code (s, a, a') _ ((rdI_own ownC).below ((Below.refl wr.heap.size wr).alloc (Nat.le_refl _) (.cells #[.int .i64 s, .int .i64 a, .int .i64 a'] 32))) (by simp) (by omega)).mono ?_
            have bl := Blk.new wr 32 #[.int .i64 s, .int .i64 a, .int .i64 a']
            have ownCa := ownC.alloc (.cells #[.int .i64 s, .int .i64 a, .int .i64 a'] 32)
            have ownSa := ownS.alloc (.cells #[.int .i64 s, .int .i64 a, .int .i64 a'] 32)
            have hba := hb.alloc hz (.cells #[.int .i64 s, .int .i64 a, .int .i64 a'] 32)
            have hcap : (m : Int) ≤ (cs : Int) := by obtain ⟨_, _, e, hle, _⟩ := Rd.of_own ownS; injection e with _ _ e3; omega
            have hnc' := hnc.out
            by_cases hf : code.idxOf (s, a, a') < nc
            · have hI : idxI code (s, a, a') nc = (code.idxOf (s, a, a') : Int) := by unfold idxI; rw [if_pos hf]
              rw [hI]
              have hif : (if code.idxOf (s, a, a') < code.length then code else code ++ [(s, a, a')]) = code := by rw [if_pos (by omega)]
              have HIF := Lib.hid hif
              have hN : ∃ I : Nat, I = code.idxOf (s, a, a') := ⟨_, rfl⟩
              obtain ⟨I, hIe⟩ := hN
              rw [← hIe] at hf ⊢
              have HIE := Lib.hid hIe
              clear hI hif hIe
              have hI0 : ¬ (I : Int) < 0 := by omega
              rintro e w5 ⟨rfl, hb5⟩
              have ownC5 := own_below ownCa hb5
              have ownS5 := own_below ownSa hb5
              have ownSc := own_cut ownS5 (m := m) (by omega)
              rw [I64_take] at ownSc
              have hz5 := hb5.size
              have hz5' : wr.heap.size + 1 ≤ w5.heap.size := by simpa using hz5
              have HB5 := below_step hba hb5 (by simp; omega)
              clear ownCa ownSa ownS5 hba bl
              go_wp2_with (first | (first | (go_at_call 42; refine (impl_takes _ _).mono ?_; rintro e w' ⟨rfl, rfl⟩)) | (at_builtin; refine app_int_far rfl (.tmp 63) (.tmp 66) rfl w.heap.size (.slice (some ⟨g, 0, none⟩) m cs) m (st.take m) (100 + (I : Int)) rfl ownSc rfl (by omega) (by omega) ?_; intro v7 w7 own7 hb7 hg7))
              obtain ⟨A7, k7, rfl, _⟩ := Rd.of_own own7
              have ownC7 := (ownC5.alloc (.cells #[.int .i64 (100 + (I : Int))] 3)).kept hg7 (rows_apart ownC5 ownSc (by decide))
              exact ⟨⟨j + 1, m + 1, nc, code, st.take m ++ [100 + (I : Int)], Ac, A7, cc, k7, by omega, by go_num, Lib.hid (by rw [HN.out, hpu.out, HIF.out, HIE.out]), Lib.hid (by rw [HS.out]; simp; omega), by omega, by omega, hnc, Lib.hid (by rw [List.length_append, List.length_take, hd.out]; simp), rfl, rfl, ownC7, own7, HB5.trans hb7⟩, by simp [intOf]; omega⟩
            · have hI : idxI code (s, a, a') nc = -1 := by unfold idxI; rw [if_neg hf]
              rw [hI]
              have hif : (if code.idxOf (s, a, a') < code.length then code else code ++ [(s, a, a')]) = code ++ [(s, a, a')] := by rw [if_neg (by omega)]
              have hidx : code.idxOf (s, a, a') = nc := by have := List.idxOf_le_length (a := (s, a, a')) (l := code); omega
              have HIF := Lib.hid hif
              have HIE := Lib.hid hidx
              clear hI hif hidx hf
              rintro e w5 ⟨rfl, hb5⟩
              have ownC5 := own_below ownCa hb5
              have ownS5 := own_below ownSa hb5
              have ownSc := own_cut ownS5 (m := m) (by omega)
              rw [I64_take] at ownSc
              have hz5 := hb5.size
              have hz5' : wr.heap.size + 1 ≤ w5.heap.size := by simpa using hz5
              have bl5 := bl.below hb5 bl.lt
              have y0 : w5.cell? ⟨wr.heap.size, 0, none⟩ = some (.int .i64 s) := (bl5.cell 0).trans rfl
              have y1 : w5.cell? ⟨wr.heap.size, 1, none⟩ = some (.int .i64 a) := (bl5.cell 1).trans rfl
              have y2 : w5.cell? ⟨wr.heap.size, 2, none⟩ = some (.int .i64 a') := (bl5.cell 2).trans rfl
              have HB5 := below_step hba hb5 (by simp; omega)
              clear ownCa ownSa ownS5 hba bl bl5
              go_wp2_with (first
                | (first | (go_at_call 42; refine (impl_takes _ _).mono ?_; rintro e w' ⟨rfl, rfl⟩))
                | (at_builtin; refine app_op rfl (.tmp 54) (.tmp 56) rfl w.heap.size (.slice Ac nc cc) nc code (s, a, a') rfl ownC5 rfl (by omega) (by omega) ?_; intro v6 w6 own6 hb6 hg6; obtain ⟨A6, k6, rfl⟩ := own_form own6; have hz6 := hb6.size; have ownS6 := (ownSc.alloc (.cells #[.int .i64 s, .int .i64 a, .int .i64 a'] 32)).kept hg6 (rows_apart ownSc ownC5 (by decide)))
                | (at_builtin; refine app_int_far rfl (.tmp 63) (.tmp 66) rfl w.heap.size (.slice (some ⟨g, 0, none⟩) m cs) m (st.take m) (100 + (nc : Int)) rfl ownS6 rfl (by omega) (by omega) ?_; intro v7 w7 own7 hb7 hg7))
              obtain ⟨A7, k7, rfl, _⟩ := Rd.of_own own7
              have ownC7 := (own6.alloc (.cells #[.int .i64 (100 + (nc : Int))] 3)).kept hg7 (rows_apart own6 ownS6 (by decide))
              exact ⟨⟨j + 1, m + 1, nc + 1, code ++ [(s, a, a')], st.take m ++ [100 + (nc : Int)], A6, A7, k6, k7, by omega, by go_num, Lib.hid (by rw [HN.out, hpu.out, HIF.out, HIE.out]), Lib.hid (by rw [HS.out]; simp; omega), by omega, by omega, Lib.hid (by rw [List.length_append, hnc.out]; rfl), Lib.hid (by rw [List.length_append, List.length_take, hd.out]; simp), rfl, rfl, ownC7, own7, (HB5.trans hb6).trans hb7⟩, by simp [intOf]; omega⟩
      · obtain rfl : j = n := by omega
        have hs1 := hscan.out
        have hcd := hcode.out
        rw [show xs.take j = xs by rw [← hL.out, List.take_length]] at hs1 hcd
        rw [HSC.out] at hs1
        have hd1 : d = 1 := by injection hs1 with h; omega
        subst hd1
        obtain ⟨v, rfl⟩ : ∃ v, st = [v] := List.length_eq_one_iff.1 hd.out
        obtain ⟨g, rfl, hg0, hg1⟩ := own_some ownS (by omega)
        have d2 : wr.cell? ⟨g, 0, none⟩ = some (.int .i64 v) := by rw [ownS.cellAt 0 (by omega)]; rfl
        have hre := hr.out
        rw [hcd] at hre
        have HR := Lib.hid hre
        clear hre hs1 hcd
        go_wp2_with fail
        go_quiet (fail)
        go_wp2_with fail
        go_ret2
        rw [HR.out]
        have hnn := hnc.out
        subst hnn
        exact ⟨Ac, cc, rfl, ownC, below_drewN hb _⟩
end Go.Proofs.Ytnjcephddilalab
