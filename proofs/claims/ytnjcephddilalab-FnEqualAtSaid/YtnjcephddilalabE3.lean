/-
  Contracts of the values of expressions: the program's stack and the reference's.
  Conditions: as stated at each.
-/
import Derived.Test.YtnjcephddilalabE2
namespace Go.Proofs.Ytnjcephddilalab
set_option linter.unusedVariables false
set_option linter.unusedSimpArgs false
open Go.RowKit

theorem own_below {w w' : World} {base size n : Nat} {e : TypeId} {v : Value} {xs : List Value} (h : w.ownsRow base e size v n xs) (hb : Below w.heap.size w w') : w'.ownsRow base e size v n xs := by
  have hl := h.lt
  obtain ⟨h1, h2⟩ := h
  refine ⟨h1, ?_⟩
  rcases h2 with h2 | ⟨g, cap, cur, rfl, a, b, d⟩
  · exact .inl h2
  · exact .inr ⟨g, cap, cur, rfl, a, (hb.block g (hl g rfl).2).trans b, d⟩
theorem own_cut {w : World} {base g n cap m : Nat} {e : TypeId} {xs : List Value} (h : w.ownsRow base e 1 (.slice (some ⟨g, 0, none⟩) n cap) n xs) (hm : m ≤ n) :
    w.ownsRow base e 1 (.slice (some ⟨g, 0, none⟩) m cap) m (xs.take m) := by
  obtain ⟨h1, h2⟩ := h
  refine ⟨by rw [List.length_take, h1]; omega, ?_⟩
  rcases h2 with ⟨h0, _⟩ | ⟨g', cap', cur, hv, hg, hh, hn, hcap, hsz, htake⟩
  · cases h0
  · cases hv
    refine .inr ⟨g, cap, cur, rfl, hg, hh, by omega, hcap, hsz, ?_⟩
    rw [← htake, List.take_take, Nat.mul_one, Nat.mul_one, Nat.min_eq_left hm]
/-- What is known of the row of a stack that is not empty. -/
theorem own_some {w : World} {base n : Nat} {e : TypeId} {A : Option Addr} {c : Nat} {xs : List Value} (h : w.ownsRow base e 1 (.slice A n c) n xs) (hn : 0 < n) :
    ∃ g, A = some ⟨g, 0, none⟩ ∧ base ≤ g ∧ g < w.heap.size := by
  obtain ⟨g, c', e, hg, hl⟩ := own_lt h hn
  injection e with e1 e2 e3
  exact ⟨g, e1, hg, hl⟩
theorem set_last {α : Type} {xs : List α} {m : Nat} (h : xs.length = m + 1) (v : α) : xs.set m v = xs.take m ++ [v] := by
  apply List.ext_getElem?
  intro i
  rw [List.getElem?_set, List.getElem?_append, List.length_take, Nat.min_eq_left (by omega)]
  rcases Nat.lt_trichotomy i m with hi | rfl | hi
  · rw [if_neg (by omega), if_pos hi, List.getElem?_take_of_lt hi]
  · rw [if_pos rfl, if_pos (by omega), if_neg (by omega)]; simp
  · rw [if_neg (by omega), if_neg (by omega), List.getElem?_eq_none (by omega), List.getElem?_eq_none (by simp; omega)]
theorem I64_append (xs ys : List Int) : I64 (xs ++ ys) = I64 xs ++ I64 ys := by simp [I64]
theorem I64_take (xs : List Int) (n : Nat) : (I64 xs).take n = I64 (xs.take n) := by simp [I64, List.map_take]
theorem I64_getD {xs : List Int} {j : Nat} (h : j < xs.length) : (I64 xs)[j]? = some (.int .i64 (xs.getD j 0)) := by
  simp [I64, List.getD_eq_getElem?_getD, List.getElem?_eq_getElem h]
theorem push_0 {k x y s : Int} {st : List Int} (h : s < 12) : Pl.pushS k x y st s = st ++ [Pl.leafv k s x y] := by
  unfold Pl.pushS; rw [if_pos (Pl.takes_0 h)]
theorem push_1 {k x y s : Int} {st : List Int} {m : Nat} (h : 12 ≤ s) (h' : s < 15) (hm : st.length = m + 1) : Pl.pushS k x y st s = st.take m ++ [Pl.opv k s (st.getD m 0) 0] := by
  unfold Pl.pushS; rw [Pl.takes_1 h h', hm]; rfl
theorem push_2 {k x y s : Int} {st : List Int} {m : Nat} (h : 15 ≤ s) (hm : st.length = m + 2) : Pl.pushS k x y st s = st.take m ++ [Pl.opv k s (st.getD m 0) (st.getD (m + 1) 0)] := by
  unfold Pl.pushS; rw [Pl.takes_2 h, hm]; rfl

set_option maxRecDepth 100000 in
set_option maxHeartbeats 4000000 in
theorem impl_value (k x y : Int) (A : Option Addr) (n c B : Nat) (xs : List Int) (w : World) (hx : Rd w B A n (I64 xs)) (hB : B ≤ w.heap.size) (he : Pl.exprValid xs = true) (hv : Pl.v2 k x y = true) :
    Calls Try.prog 54 #[.int .i64 k, .slice A n c, .int .i64 x, .int .i64 y] w fun e w' => e = .returned (.int .i64 (Pl.value k xs x y)) ∧ Below w.heap.size w w' := by
  obtain ⟨h0, h1, x0, x1, y0, y1⟩ := Pl.v2_t hv
  obtain ⟨e0, e1, e2⟩ := Pl.valid_t he
  have lx : xs.length = n := by have := hx.len; rwa [I64_len] at this
  obtain ⟨b, off, rfl, hbl, hc⟩ := hx.pos (by omega)
  have hp := Pl.pw_lt k h1
  have hp0 := Pl.pw_pos k
  have HEND := Lib.hid (Pl.eval_end x0 x1 y0 y1 he)
  have HC := Lib.hid hc
  have hL := Lib.hid lx
  have HAT := Lib.hid (Pl.eval_at x0 x1 y0 y1 e2)
  have HSC := Lib.hid e2
  have HV := Lib.hid hv
  rw [lx] at e0 e1
  clear hc hx he hv e2 lx
  go_enter Try.func54, Try.ntmps54
  go_wp2
  go_loopw [9, 15] (fun v i wr => ∃ (j d : Nat) (st : List Int) (A' : Option Addr) (c' : Nat), j ≤ n ∧ i = .int .i64 j ∧ Hid (st = Pl.evalS k x y (xs.take j)) ∧ st.length = d ∧ v = .slice A' d c' ∧ wr.ownsRow w.heap.size 3 1 (.slice A' d c') d (I64 st) ∧ Below w.heap.size w wr) (fun _ i _ => n - (intOf i).toNat)
  case atStart => exact ⟨0, 0, [], none, 0, by omega, rfl, by simp [Hid, Pl.evalS], rfl, rfl, World.ownsRow_nil _ _ _ _, Below.refl _ _⟩
  case round =>
    obtain ⟨j, d, st, A', c', hj, rfl, hst, hd, rfl, hown, hb⟩ := hrel
    have HD := Lib.hid hd
    by_cases hlt : j < n
    · obtain ⟨s, es⟩ : ∃ s, xs[j]? = some s := ⟨_, List.getElem?_eq_getElem (by have := hL.out; omega)⟩
      have c1 : wr.cell? ⟨b, off + j, none⟩ = some (.int .i64 s) := (hb.cell (p := ⟨b, off + j, none⟩) (show b < w.heap.size by omega)).trans (HC.out j _ (I64_get es))
      obtain ⟨hw, hsc⟩ := HAT.out j (by have := hL.out; omega)
      have hnext := Pl.evalS_snoc (k := k) (x := x) (y := y) es
      rw [← hst.out] at hw hsc hnext
      rw [hd] at hsc
      obtain ⟨⟨s0, s1⟩, ht⟩ := Pl.scan_at HSC.out es hsc
      have hdj : d ≤ j := by
        obtain ⟨d', q1, q2, q3⟩ := Pl.scan_get HSC.out j (by have := hL.out; omega)
        rw [hsc] at q1
        injection q1 with q1
        omega
      have hin : (j : Int) < (n : Int) := by omega
      have hj0 : (0 : Int) ≤ j := by omega
      have hz := hb.size
      have HW := Lib.hid hw
      have HN := Lib.hid hnext
      clear hw hsc hnext es hd
      by_cases t0 : s < 12
      · have ht0 := Pl.takes_0 t0
        have hpu := Lib.hid (push_0 (k := k) (x := x) (y := y) (st := st) t0)
        clear ht
        go_wp2_with (first | (first | (go_at_call 42; refine (impl_takes _ _).mono ?_; rintro e w' ⟨rfl, rfl⟩) | (go_at_call 52; refine (impl_leaf _ _ _ _ _ (by omega) (by omega)).mono ?_; rintro e w' ⟨rfl, rfl⟩)) | (at_builtin; refine app_int rfl _ _ rfl w.heap.size (.slice A' d c') d _ _ rfl hown rfl rfl (by omega) hz ?_; intro v' w1 hown' hbl))
        obtain ⟨A2, c2, rfl, _⟩ := Rd.of_own hown'
        exact ⟨⟨j + 1, d + 1, st ++ [Pl.leafv k s x y], A2, c2, by omega, by go_num, Lib.hid (by rw [HN.out, hpu.out]), by rw [List.length_append, HD.out]; rfl, rfl, by rw [I64_append]; exact hown', hb.trans hbl⟩, by simp [intOf]; omega⟩
      · by_cases t1 : s < 15
        · have ht1 := Pl.takes_1 (by omega) t1
          rw [ht1] at ht
          obtain ⟨m, rfl⟩ : ∃ m, d = m + 1 := ⟨d - 1, by omega⟩
          have hpu := Lib.hid (push_1 (k := k) (x := x) (y := y) (st := st) (by omega) t1 HD.out)
          obtain ⟨g, rfl, hg0, hg1⟩ := own_some hown (by omega)
          have v1 := Pl.words_get HW.out m
          have hv1 := Lib.hid (Pl.v2_mk (Pl.wv_mk h0 h1 v1.1 v1.2) (Pl.wv_mk h0 h1 (Int.le_refl 0) (by omega)))
          have hg := Lib.hid (I64_getD (xs := st) (j := m) (by have := HD.out; omega))
          generalize st.getD m 0 = a at *
          have d2 : wr.cell? ⟨g, m, none⟩ = some (.int .i64 a) := by rw [hown.cellAt m (by omega)]; exact hg.out
          clear ht v1
          have hm0 : (0 : Int) ≤ (m : Int) := by omega
          go_wp2_with (first | (go_at_call 42; refine (impl_takes _ _).mono ?_; rintro e w' ⟨rfl, rfl⟩))
          refine (impl_operate k s _ 0 _ (by omega) (by omega) hv1.out).mono ?_
          rintro e w1 ⟨rfl, hb1⟩
          have own1 := own_below hown hb1
          have d3 : w1.cell? ⟨g, m, none⟩ = some (.int .i64 a) := by rw [own1.cellAt m (by omega)]; exact hg.out
          have f3 : w1.frozen? ⟨g, m, none⟩ = false := own1.frozenAt m
          have hst1 := own1.stored m (.int .i64 (Pl.opv k s a 0))
          have HST := Lib.hid hst1
          have hb2 := hb1.size
          clear hst1
          go_wp2_with fail
          exact ⟨⟨j + 1, m + 1, st.take m ++ [Pl.opv k s a 0], some ⟨g, 0, none⟩, c', by omega, by go_num, Lib.hid (by rw [HN.out, hpu.out]), by rw [List.length_append, List.length_take, HD.out]; simp, rfl,
            by have h := HST.out.1; rw [set_last (by rw [I64_len]; exact HD.out), I64_take] at h; rw [I64_append]; exact h, (hb.trans (hb1.mono hz)).grown HST.out.2 (by omega) (fun q hq => by simp [Value.ownBlock] at hq; omega)⟩, by simp [intOf]; omega⟩
        · have ht2 := Pl.takes_2 (s := s) (by omega)
          rw [ht2] at ht
          obtain ⟨m, rfl⟩ : ∃ m, d = m + 2 := ⟨d - 2, by omega⟩
          have hpu := Lib.hid (push_2 (k := k) (x := x) (y := y) (s := s) (st := st) (by omega) HD.out)
          obtain ⟨g, rfl, hg0, hg1⟩ := own_some hown (by omega)
          have v1 := Pl.words_get HW.out m
          have v2 := Pl.words_get HW.out (m + 1)
          have hv1 := Lib.hid (Pl.v2_mk (Pl.wv_mk h0 h1 v1.1 v1.2) (Pl.wv_mk h0 h1 v2.1 v2.2))
          have hg := Lib.hid (I64_getD (xs := st) (j := m) (by have := HD.out; omega))
          have hg' := Lib.hid (I64_getD (xs := st) (j := m + 1) (by have := HD.out; omega))
          generalize st.getD m 0 = a at *
          generalize st.getD (m + 1) 0 = a' at *
          have d2 : wr.cell? ⟨g, m, none⟩ = some (.int .i64 a) := by rw [hown.cellAt m (by omega)]; exact hg.out
          have d3 : wr.cell? ⟨g, m + 1, none⟩ = some (.int .i64 a') := by rw [hown.cellAt (m + 1) (by omega)]; exact hg'.out
          have hcut := own_cut hown (m := m) (by omega)
          have hcap : (m : Int) ≤ (c' : Int) := by obtain ⟨_, _, e, hle, _⟩ := Rd.of_own hown; injection e with _ _ e3; omega
          clear ht v1 v2
          have hm0 : (0 : Int) ≤ (m : Int) := by omega
          have k1 : IntKind.i64.wrap (m : Int) = m := IntWalk.i64_in _ (by omega)
          have k2 : IntKind.i64.wrap ((m : Int) + 2 - 1) = (m : Int) + 1 := by rw [IntWalk.i64_in _ (by omega)]; omega
          have k6 : ((m : Int) + 1).toNat = m + 1 := by omega
          have k3 : (m : Int) < (m : Int) + 2 := by omega
          have k4 : (m : Int) + 1 < (m : Int) + 2 := by omega
          have k5 : (0 : Int) ≤ (m : Int) + 1 := by omega
          go_wp2_with (first | (go_at_call 42; refine (impl_takes _ _).mono ?_; rintro e w' ⟨rfl, rfl⟩))
          go_region_law (first
            | (refine step_int rfl (.tmp 52) (.tmp 66) rfl w.heap.size (.slice (some ⟨g, 0, none⟩) m c') m _ (.int .i64 (Pl.opv k s a a')) ⟨w1.heap.size, 0, none⟩ (by simp [Act.eval, Act.put]) (by simp [Act.eval, Act.put]) ((own_below (w := wr.drew) hcut hb1).alloc _) (by go_simp) rfl (by omega) (by have h1 := hb1.size; go_simp; simp at h1; omega) ?_; intro v' w2 hown' hbl)
            | (go_simp; go_at_call 53; refine (impl_operate k s a a' _ (by omega) (by omega) hv1.out).mono ?_; rintro e w1 ⟨rfl, hb1⟩; dsimp only))
          all_goals go_wp2
          all_goals (
            obtain ⟨A2, c2, rfl, _⟩ := Rd.of_own hown'
            have hz1 : wr.heap.size ≤ w1.heap.size := hb1.size
            have hbw : Below w.heap.size wr w1 := (⟨hb1.os, hb1.tape, hb1.output, hb1.size, hb1.block⟩ : Below wr.heap.size wr w1).mono hz
            exact ⟨⟨j + 1, m + 1, st.take m ++ [Pl.opv k s a a'], A2, c2, by omega, by go_num, Lib.hid (by rw [HN.out, hpu.out]), by rw [List.length_append, List.length_take, HD.out]; simp, rfl,
              by rw [I64_append, ← I64_take]; exact hown', ((hb.trans hbw).alloc (by omega) _).trans hbl⟩, by simp [intOf]; omega⟩)
    · obtain rfl : j = n := by omega
      have hv := HEND.out.1
      have hst' := hst.out
      rw [show xs.take j = xs by rw [← hL.out, List.take_length]] at hst'
      rw [hv] at hst'
      subst hst'
      have hd1 : d = 1 := by rw [← hd]; rfl
      subst hd1
      obtain ⟨g, rfl, hg0, hg1⟩ := own_some hown (by omega)
      have d2 : wr.cell? ⟨g, 0, none⟩ = some (.int .i64 (Pl.value k xs x y)) := by rw [hown.cellAt 0 (by omega)]; rfl
      go_wp2_with fail
      go_ret
      exact ⟨ret_int rfl, hb⟩
theorem set_take {α : Type} {xs : List α} {m : Nat} (h : m < xs.length) (v : α) : (xs.set m v).take (m + 1) = xs.take m ++ [v] := by
  apply List.ext_getElem?
  intro i
  rw [List.getElem?_take, List.getElem?_set, List.getElem?_append, List.length_take, Nat.min_eq_left (by omega)]
  rcases Nat.lt_trichotomy i m with hi | rfl | hi
  · rw [if_pos (by omega), if_neg (by omega), if_pos hi, List.getElem?_take_of_lt hi]
  · rw [if_pos (by omega), if_pos rfl, if_pos h, if_neg (by omega)]; simp
  · rw [if_neg (by omega), if_neg (by omega), List.getElem?_eq_none (by simp; omega)]
set_option maxRecDepth 100000 in
set_option maxHeartbeats 4000000 in
theorem spec_l9Value (k x y : Int) (A : Option Addr) (n c B : Nat) (xs : List Int) (w : World) (hx : Rd w B A n (I64 xs)) (hB : B ≤ w.heap.size) (he : Pl.exprValid xs = true) (hv : Pl.v2 k x y = true) :
    Calls Try.prog 55 #[.int .i64 k, .slice A n c, .int .i64 x, .int .i64 y] w fun e w' => e = .returned (.int .i64 (Pl.value k xs x y)) ∧ Below w.heap.size w w' := by
  obtain ⟨h0, h1, x0, x1, y0, y1⟩ := Pl.v2_t hv
  obtain ⟨e0, e1, e2⟩ := Pl.valid_t he
  have lx : xs.length = n := by have := hx.len; rwa [I64_len] at this
  obtain ⟨b, off, rfl, hbl, hc⟩ := hx.pos (by omega)
  have hp := Pl.pw_lt k h1
  have hp0 := Pl.pw_pos k
  have HEND := Lib.hid (Pl.eval_end x0 x1 y0 y1 he)
  have HC := Lib.hid hc
  have hL := Lib.hid lx
  have HAT := Lib.hid (Pl.eval_at x0 x1 y0 y1 e2)
  have HSC := Lib.hid e2
  have HV := Lib.hid hv
  rw [lx] at e0 e1
  clear hc hx he hv e2 lx
  go_enter Try.func55, Try.ntmps55
  go_wp2
  go_loopw [9, 10] (fun v i wr => ∃ (j d : Nat) (st : List Int) (A' : Option Addr) (c' : Nat), j ≤ n ∧ i = .int .i64 j ∧ Hid (st = Pl.evalS k x y (xs.take j)) ∧ st.length = d ∧ v = .slice A' d c' ∧ wr.ownsRow w.heap.size 3 1 (.slice A' d c') d (I64 st) ∧ Below w.heap.size w wr) (fun _ i _ => n - (intOf i).toNat)
  case atStart => exact ⟨0, 0, [], _, 0, by omega, rfl, by simp [Hid, Pl.evalS], rfl, rfl, World.ownsRow_made _ _ 0 (Nat.le_refl _) (by simp [maxLen]) rfl, (Below.refl _ _).alloc (Nat.le_refl _) _⟩
  case round =>
    obtain ⟨j, d, st, A', c', hj, rfl, hst, hd, rfl, hown, hb⟩ := hrel
    have HD := Lib.hid hd
    by_cases hlt : j < n
    · obtain ⟨s, es⟩ : ∃ s, xs[j]? = some s := ⟨_, List.getElem?_eq_getElem (by have := hL.out; omega)⟩
      have c1 : wr.cell? ⟨b, off + j, none⟩ = some (.int .i64 s) := (hb.cell (p := ⟨b, off + j, none⟩) (show b < w.heap.size by omega)).trans (HC.out j _ (I64_get es))
      obtain ⟨hw, hsc⟩ := HAT.out j (by have := hL.out; omega)
      have hnext := Pl.evalS_snoc (k := k) (x := x) (y := y) es
      rw [← hst.out] at hw hsc hnext
      rw [hd] at hsc
      obtain ⟨⟨s0, s1⟩, ht⟩ := Pl.scan_at HSC.out es hsc
      have hdj : d ≤ j := by
        obtain ⟨d', q1, q2, q3⟩ := Pl.scan_get HSC.out j (by have := hL.out; omega)
        rw [hsc] at q1
        injection q1 with q1
        omega
      have hin : (j : Int) < (n : Int) := by omega
      have hj0 : (0 : Int) ≤ j := by omega
      have hz := hb.size
      have HW := Lib.hid hw
      have HN := Lib.hid hnext
      clear hw hsc hnext es hd
      by_cases t0 : s < 12
      · have ht0 := Pl.takes_0 t0
        have hpu := Lib.hid (push_0 (k := k) (x := x) (y := y) (st := st) t0)
        clear ht
        go_wp2_with (first | (first | (go_at_call 44; refine (spec_l9Takes _ _).mono ?_; rintro e w' ⟨rfl, rfl⟩) | (go_at_call 85; refine (spec_l9Leaf _ _ _ _ _ (by omega) (by omega) (by omega) (by omega)).mono ?_; rintro e w' ⟨rfl, rfl⟩)) | (at_builtin; refine app_int rfl _ _ rfl w.heap.size (.slice A' d c') d _ _ rfl hown rfl rfl (by omega) hz ?_; intro v' w1 hown' hbl))
        obtain ⟨A2, c2, rfl, _⟩ := Rd.of_own hown'
        exact ⟨⟨j + 1, d + 1, st ++ [Pl.leafv k s x y], A2, c2, by omega, by go_num, Lib.hid (by rw [HN.out, hpu.out]), by rw [List.length_append, HD.out]; rfl, rfl, by rw [I64_append]; exact hown', hb.trans hbl⟩, by simp [intOf]; omega⟩
      · by_cases t1 : s < 15
        · have ht1 := Pl.takes_1 (by omega) t1
          rw [ht1] at ht
          obtain ⟨m, rfl⟩ : ∃ m, d = m + 1 := ⟨d - 1, by omega⟩
          have hpu := Lib.hid (push_1 (k := k) (x := x) (y := y) (st := st) (by omega) t1 HD.out)
          obtain ⟨g, rfl, hg0, hg1⟩ := own_some hown (by omega)
          have v1 := Pl.words_get HW.out m
          have hv1 := Lib.hid (Pl.v2_mk (Pl.wv_mk h0 h1 v1.1 v1.2) (Pl.wv_mk h0 h1 (Int.le_refl 0) (by omega)))
          have hg := Lib.hid (I64_getD (xs := st) (j := m) (by have := HD.out; omega))
          generalize st.getD m 0 = a at *
          have d2 : wr.cell? ⟨g, m, none⟩ = some (.int .i64 a) := by rw [hown.cellAt m (by omega)]; exact hg.out
          clear ht v1
          have hm0 : (0 : Int) ≤ (m : Int) := by omega
          have f2 : wr.frozen? ⟨g, m, none⟩ = false := hown.frozenAt m
          have HST := Lib.hid ((World.ownsRow.drew hown).stored m (.int .i64 (Pl.opv k s a 0)))
          have k1 : IntKind.i64.wrap (m : Int) = m := IntWalk.i64_in _ (by omega)
          have k3 : (m : Int) < (m : Int) + 1 := by omega
          go_wp2_with (first | (go_at_call 44; refine (spec_l9Takes _ _).mono ?_; rintro e w' ⟨rfl, rfl⟩))
          go_region_law (first
            | (go_simp; go_at_call 86; refine (spec_l9Do k s a 0 _ (by omega) (by omega) hv1.out).mono ?_; rintro e w1 ⟨rfl, rfl⟩; dsimp only))
          all_goals go_wp2
          all_goals exact ⟨⟨j + 1, m + 1, st.take m ++ [Pl.opv k s a 0], some ⟨g, 0, none⟩, c', by omega, by go_num, Lib.hid (by rw [HN.out, hpu.out]), by rw [List.length_append, List.length_take, HD.out]; simp, rfl,
            by have h := HST.out.1; rw [set_last (by rw [I64_len]; exact HD.out), I64_take] at h; rw [I64_append]; exact h, (below_drewN hb 1).grown HST.out.2 hz (fun q hq => by simp [Value.ownBlock] at hq; omega)⟩, by simp [intOf]; omega⟩
        · have ht2 := Pl.takes_2 (s := s) (by omega)
          rw [ht2] at ht
          obtain ⟨m, rfl⟩ : ∃ m, d = m + 2 := ⟨d - 2, by omega⟩
          have hpu := Lib.hid (push_2 (k := k) (x := x) (y := y) (s := s) (st := st) (by omega) HD.out)
          obtain ⟨g, rfl, hg0, hg1⟩ := own_some hown (by omega)
          have v1 := Pl.words_get HW.out m
          have v2 := Pl.words_get HW.out (m + 1)
          have hv1 := Lib.hid (Pl.v2_mk (Pl.wv_mk h0 h1 v1.1 v1.2) (Pl.wv_mk h0 h1 v2.1 v2.2))
          have hg := Lib.hid (I64_getD (xs := st) (j := m) (by have := HD.out; omega))
          have hg' := Lib.hid (I64_getD (xs := st) (j := m + 1) (by have := HD.out; omega))
          generalize st.getD m 0 = a at *
          generalize st.getD (m + 1) 0 = a' at *
          have d2 : wr.cell? ⟨g, m, none⟩ = some (.int .i64 a) := by rw [hown.cellAt m (by omega)]; exact hg.out
          have d3 : wr.cell? ⟨g, m + 1, none⟩ = some (.int .i64 a') := by rw [hown.cellAt (m + 1) (by omega)]; exact hg'.out
          have f2 : wr.frozen? ⟨g, m, none⟩ = false := hown.frozenAt m
          have HST := Lib.hid ((World.ownsRow.drew hown).stored m (.int .i64 (Pl.opv k s a a')))
          have hcap : (m : Int) + 1 ≤ (c' : Int) := by obtain ⟨_, _, e, hle, _⟩ := Rd.of_own hown; injection e with _ _ e3; omega
          clear ht v1 v2
          have hm0 : (0 : Int) ≤ (m : Int) := by omega
          have k1 : IntKind.i64.wrap (m : Int) = m := IntWalk.i64_in _ (by omega)
          have k3 : (m : Int) < (m : Int) + 2 := by omega
          have k4 : (m : Int) + 1 < (m : Int) + 2 := by omega
          have k5 : (0 : Int) ≤ (m : Int) + 1 := by omega
          have k6 : ((m : Int) + 1).toNat = m + 1 := by omega
          have k7 : (m : Int) + 2 - 1 = (m : Int) + 1 := by omega
          have k8 : IntKind.i64.wrap ((m : Int) + 1 - 1) = m := by rw [IntWalk.i64_in _ (by omega)]; omega
          go_wp2_with (first | (go_at_call 44; refine (spec_l9Takes _ _).mono ?_; rintro e w' ⟨rfl, rfl⟩))
          go_region_law (first
            | (go_simp; go_at_call 86; refine (spec_l9Do k s a a' _ (by omega) (by omega) hv1.out).mono ?_; rintro e w1 ⟨rfl, rfl⟩; dsimp only))
          all_goals go_wp2
          all_goals exact ⟨⟨j + 1, m + 1, st.take m ++ [Pl.opv k s a a'], some ⟨g, 0, none⟩, c', by omega, by go_num, Lib.hid (by rw [HN.out, hpu.out]), by rw [List.length_append, List.length_take, HD.out]; simp, rfl,
            by have h := own_cut HST.out.1 (m := m + 1) (by omega); rw [set_take (by rw [I64_len, HD.out]; omega), I64_take] at h; rw [I64_append]; exact h, (below_drewN hb 1).grown HST.out.2 hz (fun q hq => by simp [Value.ownBlock] at hq; omega)⟩, by simp [intOf]; omega⟩
    · obtain rfl : j = n := by omega
      have hv := HEND.out.1
      have hst' := hst.out
      rw [show xs.take j = xs by rw [← hL.out, List.take_length]] at hst'
      rw [hv] at hst'
      subst hst'
      have hd1 : d = 1 := by rw [← hd]; rfl
      subst hd1
      obtain ⟨g, rfl, hg0, hg1⟩ := own_some hown (by omega)
      have d2 : wr.cell? ⟨g, 0, none⟩ = some (.int .i64 (Pl.value k xs x y)) := by rw [hown.cellAt 0 (by omega)]; rfl
      go_wp2_with fail
      go_ret
      exact ⟨ret_int rfl, hb⟩
end Go.Proofs.Ytnjcephddilalab
