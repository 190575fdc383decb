/-
  Contracts of CodeRun in the program.
  Conditions: as stated at each.
-/
import Derived.Test.YtfnolajhhdnpoaaKC
namespace Go.Proofs.Ytfnolajhhdnpoaa
set_option linter.unusedVariables false
set_option linter.unusedSimpArgs false
open Go.RowKit

theorem set_only {w : World} {g o : Nat} (u : Value) : w.grownBy (w.setCell ⟨g, o, none⟩ u) (some g) :=
  ⟨rfl, rfl, rfl, by simp [World.setCell], fun i hi hne => Below.heap_setCell w ⟨g, o, none⟩ u i (by rintro rfl; exact hne rfl)⟩
theorem set_far {w : World} {g g' : Nat} {v : Value} (u : Value) (h : w.cell? ⟨g, 0, none⟩ = some v) (hne : g ≠ g') : (w.setCell ⟨g', 0, none⟩ u).cell? ⟨g, 0, none⟩ = some v :=
  (World.cell?_setCell_other w ⟨g', 0, none⟩ ⟨g, 0, none⟩ u (fun e => hne (congrArg Addr.block e).symm)).trans h
/-- What the program's closure returns of a number. -/
def getv (k : Int) (vals : List Int) (n x y : Int) : Value := .tuple #[.int .i64 (if Pl.there n vals.length = true then Pl.atv k vals n x y else 0), .bool (Pl.there n vals.length)]
set_option maxHeartbeats 1000000 in
theorem impl_get (n k x y : Int) (P0 P1 P2 M : Nat) (A : Option Addr) (m c B : Nat) (vals : List Int) (w : World) (h0 : 0 ≤ k) (h1 : k ≤ 61) (hr : Rd w B A m (I64 vals)) (hm : m ≤ 1000000)
    (d0 : w.cell? ⟨P0, 0, none⟩ = some (.int .i64 k)) (d1 : w.cell? ⟨P1, 0, none⟩ = some (.int .i64 x)) (d2 : w.cell? ⟨P2, 0, none⟩ = some (.int .i64 y)) (d3 : w.cell? ⟨M, 0, none⟩ = some (.slice A m c)) :
    Calls Try.prog 42 #[.int .i64 n, .pointer (some ⟨P0, 0, none⟩), .pointer (some ⟨P1, 0, none⟩), .pointer (some ⟨P2, 0, none⟩), .pointer (some ⟨M, 0, none⟩)] w
      fun e w' => e = .returned (getv k vals n x y) ∧ w = w' := by
  have lv : vals.length = m := by have := hr.len; rwa [I64_len] at this
  by_cases c1 : 0 ≤ n ∧ n ≤ 11
  · have ht : Pl.there n m = true := decide_eq_true (.inl c1)
    have he := Lib.hid (show getv k vals n x y = .tuple #[.int .i64 (Pl.leafv k n x y), .bool true] by unfold getv; rw [lv, ht, if_pos rfl, Pl.atv, if_neg (by omega)])
    clear hr lv ht
    go_enter Try.func42, Try.ntmps42
    go_wp2_with (first | (go_at_call 43; refine (impl_within_t _ _ _ _ (by omega)).mono ?_; rintro e w' ⟨rfl, rfl⟩) | (go_at_call 44; refine (impl_leaf _ _ _ _ _ (by omega) (by omega)).mono ?_; rintro e w' ⟨rfl, rfl⟩))
    go_ret2
    exact ⟨by rw [he.out]; rfl, rfl⟩
  · by_cases c2 : 100 ≤ n ∧ n ≤ 99 + (m : Int)
    · have ht : Pl.there n m = true := decide_eq_true (.inr c2)
      obtain ⟨b, off, rfl, _, hc⟩ := hr.pos (by omega)
      obtain ⟨i, hi⟩ := Int.eq_ofNat_of_zero_le (show 0 ≤ n - 100 by omega)
      obtain rfl : n = 100 + (i : Int) := by omega
      have hc1 := hc i _ (I64_getD (xs := vals) (j := i) (by omega))
      have he := Lib.hid (show getv k vals (100 + (i : Int)) x y = .tuple #[.int .i64 (vals.getD i 0), .bool true] by
        unfold getv; rw [lv, ht, if_pos rfl, Pl.atv, if_pos (by omega), show (100 + (i : Int) - 100).toNat = i by omega])
      generalize vals.getD i 0 = v at *
      have k1 : (100 : Int) + (i : Int) - 100 = (i : Int) := by omega
      have k2 : (i : Int) < (m : Int) := by omega
      have k3 : (0 : Int) ≤ (i : Int) := by omega
      clear ht lv hr hc hi
      go_enter Try.func42, Try.ntmps42
      go_wp2_with (first | (go_at_call 43; refine (impl_within_t _ _ _ _ (by omega)).mono ?_; rintro e w' ⟨rfl, rfl⟩) | (go_at_call 43; refine (impl_within_f _ _ _ _ (by omega)).mono ?_; rintro e w' ⟨rfl, rfl⟩))
      go_ret2
      exact ⟨by rw [he.out]; rfl, rfl⟩
    · have ht : Pl.there n m = false := decide_eq_false (fun h => h.elim c1 c2)
      have he := Lib.hid (show getv k vals n x y = .tuple #[.int .i64 0, .bool false] by unfold getv; rw [lv, ht]; rfl)
      clear hr lv ht
      go_enter Try.func42, Try.ntmps42
      go_wp2_with (first | (go_at_call 43; refine (impl_within_f _ _ _ _ (by omega)).mono ?_; rintro e w' ⟨rfl, rfl⟩))
      go_ret2
      exact ⟨by rw [he.out]; rfl, rfl⟩
theorem getv_t {k x y n : Int} {vals : List Int} {m : Nat} (hl : vals.length = m) (h : Pl.there n m = true) : getv k vals n x y = .tuple #[.int .i64 (Pl.atv k vals n x y), .bool true] := by
  unfold getv; rw [hl, h, if_pos rfl]
theorem getv_f {k x y n : Int} {vals : List Int} {m : Nat} (hl : vals.length = m) (h : Pl.there n m = false) : getv k vals n x y = .tuple #[.int .i64 0, .bool false] := by
  unfold getv; rw [hl, h]; rfl
theorem getv_any (k x y n : Int) (vals : List Int) : ∃ (v : Int) (b : Bool), getv k vals n x y = .tuple #[.int .i64 v, .bool b] := ⟨_, _, rfl⟩
set_option maxRecDepth 100000 in
set_option maxHeartbeats 4000000 in
theorem impl_CodeRun (k num x y : Int) (A : Option Addr) (n c B : Nat) (code : List Pl.Op3) (w : World) (hx : RdI w B A n code) (hB : B ≤ w.heap.size) (hn : n ≤ 1000000000000) :
    Calls Try.prog 18 #[.int .i64 k, .slice A n c, .int .i64 num, .int .i64 x, .int .i64 y] w fun e w' => e = .returned (.int .i64 (Pl.codeRun k code num x y)) ∧ Below w.heap.size w w' := by
  have lx : code.length = n := hx.1
  by_cases hv : Pl.v2 k x y = true ∧ n ≤ 24
  rotate_left
  · have he := Lib.hid (Pl.codeRun_f (n := num) (code := code) (by rw [lx]; exact hv))
    cases h2 : Pl.v2 k x y
    · clear hv
      go_enter Try.func18, Try.ntmps18
      go_wp2_with (first | (go_at_call 27; refine (impl_allValid2 _ x y _ _ (by go_simp) (by go_simp)).mono ?_; rintro e w' ⟨rfl, rfl⟩))
      go_ret
      exact ⟨ret_int he.out.symm, by go_grown⟩
    · have i24 : (24 : Int) < (n : Int) := by
        have : ¬ n ≤ 24 := fun h => hv ⟨h2, h⟩
        omega
      clear hv
      go_enter Try.func18, Try.ntmps18
      go_wp2_with (first | (go_at_call 27; refine (impl_allValid2 _ x y _ _ (by go_simp) (by go_simp)).mono ?_; rintro e w' ⟨rfl, rfl⟩))
      go_ret
      exact ⟨ret_int he.out.symm, by go_grown⟩
  · obtain ⟨h2, hn24⟩ := hv
    obtain ⟨h0, h1, x0, x1, y0, y1⟩ := Pl.v2_t h2
    have i24 : (n : Int) ≤ 24 := by omega
    have hp := Pl.pw_lt k h1
    have H2 := Lib.hid h2
    have hL := Lib.hid lx
    go_enter Try.func18, Try.ntmps18
    go_wp2_with (first | (go_at_call 27; refine (impl_allValid2 _ x y _ _ (by go_simp) (by go_simp)).mono ?_; rintro e w' ⟨rfl, rfl⟩))
    obtain ⟨w1, hw1⟩ : ∃ w1, w1 = ((((w.alloc (.cells #[.int .i64 k] 3)).alloc (.cells #[.int .i64 x] 3)).alloc (.cells #[.int .i64 y] 3)).alloc (.cells #[.int .i64 x, .int .i64 y] 3)).alloc (.cells #[.slice none 0 0] 22) := ⟨_, rfl⟩
    have s1 : w1.heap.size = w.heap.size + 5 := by rw [hw1]; simp
    have b0 : w1.cell? ⟨w.heap.size, 0, none⟩ = some (.int .i64 k) := by rw [hw1]; go_simp
    have b1 : w1.cell? ⟨w.heap.size + 1, 0, none⟩ = some (.int .i64 x) := by rw [hw1]; go_simp
    have b2 : w1.cell? ⟨w.heap.size + 2, 0, none⟩ = some (.int .i64 y) := by rw [hw1]; go_simp
    have bm : Blk w1 (w.heap.size + 4) 22 #[.slice none 0 0] := by
      have h := Blk.new ((((w.alloc (.cells #[.int .i64 k] 3)).alloc (.cells #[.int .i64 x] 3)).alloc (.cells #[.int .i64 y] 3)).alloc (.cells #[.int .i64 x, .int .i64 y] 3)) 22 #[.slice none 0 0]
      rw [← hw1] at h
      simpa using h
    have hb1 : Below w.heap.size w w1 := by rw [hw1]; go_grown
    rw [← hw1]
    clear hw1
    go_loopw [35] (fun i wr => ∃ (j : Nat) (vals : List Int) (A' : Option Addr) (c' : Nat), j ≤ n ∧ i = .int .i64 j ∧ Hid (Pl.runC k x y (code.take j) [] = some vals) ∧ Hid (vals.length = j) ∧ wr.ownsRow w1.heap.size 3 1 (.slice A' j c') j (I64 vals) ∧ Hid (Pl.Words k vals) ∧ Below w.heap.size w wr ∧ w1.heap.size ≤ wr.heap.size ∧
      wr.cell? ⟨w.heap.size, 0, none⟩ = some (.int .i64 k) ∧ wr.cell? ⟨w.heap.size + 1, 0, none⟩ = some (.int .i64 x) ∧ wr.cell? ⟨w.heap.size + 2, 0, none⟩ = some (.int .i64 y) ∧ Blk wr (w.heap.size + 4) 22 #[.slice A' j c']) (fun i _ => n - (intOf i).toNat)
    case atStart => exact ⟨0, [], none, 0, by omega, rfl, Lib.hid rfl, Lib.hid rfl, World.ownsRow_nil _ _ _ _, Lib.hid (fun v hv => absurd hv (List.not_mem_nil)), hb1, Nat.le_refl _, b0, b1, b2, bm⟩
    case round =>
      clear b0 b1 b2 bm hb1
      obtain ⟨j, vals, A', c', hj, rfl, hrun, hlen, hown, hw, hb, hz1, b0, b1, b2, bm⟩ := hrel
      have rd0 := rd_own hown
      have bc : wr.cell? ⟨w.heap.size + 4, 0, none⟩ = some (.slice A' j c') := by rw [bm.cell]; rfl
      have bf : wr.frozen? ⟨w.heap.size + 4, 0, none⟩ = false := bm.frozen 0
      have hz := hb.size
      have n0 := World.new_ne wr _ b0
      have n1 := World.new_ne wr _ b1
      have n2 := World.new_ne wr _ b2
      have n4 := World.new_ne wr _ bc
      by_cases hlt : j < n
      · obtain ⟨b, off, rfl, hbl, hc⟩ := hx.pos (by omega)
        obtain ⟨⟨op, oa, ob⟩, eo⟩ : ∃ o, code[j]? = some o := ⟨_, List.getElem?_eq_getElem (by have := hL.out; omega)⟩
        obtain ⟨q1, q2, q3⟩ := hc j _ eo
        have c1 : wr.cell? ⟨b, off + j * 3, none⟩ = some (.int .i64 op) := (hb.cell (p := ⟨b, off + j * 3, none⟩) (show b < w.heap.size by omega)).trans q1
        have c2 : wr.cell? ⟨b, off + j * 3 + 1, none⟩ = some (.int .i64 oa) := (hb.cell (p := ⟨b, off + j * 3 + 1, none⟩) (show b < w.heap.size by omega)).trans q2
        have c3 : wr.cell? ⟨b, off + j * 3 + 2, none⟩ = some (.int .i64 ob) := (hb.cell (p := ⟨b, off + j * 3 + 2, none⟩) (show b < w.heap.size by omega)).trans q3
        have hin : (j : Int) < (n : Int) := by omega
        have hj0 : (0 : Int) ≤ j := by omega
        have EO := Lib.hid eo
        clear q1 q2 q3 hc eo
        by_cases o1 : 12 ≤ op ∧ op ≤ 19
        · obtain ⟨o2, o3⟩ := o1
          by_cases hT : Pl.takes op = 1 ∧ ob ≠ 0
          · have hbad := Lib.hid (Pl.codeRun_none (n := num) (Pl.runC_bad EO.out hrun.out (Pl.opOk_f (fun h => h.2.2.2 hT))))
            obtain ⟨t1, t2⟩ := hT
            have t3 : (ob != 0) = true := by rw [bne_iff_ne]; exact t2
            go_wp2_with (first | (go_at_call 43; refine (impl_within_t _ _ _ _ (by omega)).mono ?_; rintro e w' ⟨rfl, rfl⟩) | (go_at_call 43; refine (impl_within_f _ _ _ _ (by omega)).mono ?_; rintro e w' ⟨rfl, rfl⟩))
            refine (impl_takes op _).mono ?_
            rw [t1]
            rintro e w' ⟨rfl, rfl⟩
            go_wp2_with fail
            go_ret
            exact ⟨ret_int hbad.out.symm, hb.alloc (by omega) _⟩
          · by_cases ht1 : Pl.takes op = 1
            · have hob : ob = 0 := by
                rcases Classical.em (ob = 0) with h | h
                · exact h
                · exact absurd ⟨ht1, h⟩ hT
              subst hob
              cases hA : Pl.there oa j
              · have hbad := Lib.hid (Pl.codeRun_none (n := num) (Pl.runC_bad EO.out hrun.out (Pl.opOk_f (fun h => by rw [hlen.out, hA] at h; exact absurd h.2.1 (by simp)))))
                obtain ⟨vb, bb, hany⟩ := getv_any k x y 0 vals
                go_wp2_with (first | (go_at_call 43; refine (impl_within_t _ _ _ _ (by omega)).mono ?_; rintro e w' ⟨rfl, rfl⟩) | (go_at_call 43; refine (impl_within_f _ _ _ _ (by omega)).mono ?_; rintro e w' ⟨rfl, rfl⟩))
                refine (impl_takes op _).mono ?_
                rw [ht1]
                rintro e w' ⟨rfl, rfl⟩
                go_wp2_with fail
                refine (impl_get oa k x y w.heap.size (w.heap.size + 1) (w.heap.size + 2) (w.heap.size + 4) A' j c' wr.heap.size vals _ (by omega) (by omega) (rd0.alloc (Nat.le_refl _) _) (by omega) ((World.cell?_alloc_lt wr _ ⟨w.heap.size, 0, none⟩ (show w.heap.size < wr.heap.size by omega)).trans b0) ((World.cell?_alloc_lt wr _ ⟨w.heap.size + 1, 0, none⟩ (show w.heap.size + 1 < wr.heap.size by omega)).trans b1) ((World.cell?_alloc_lt wr _ ⟨w.heap.size + 2, 0, none⟩ (show w.heap.size + 2 < wr.heap.size by omega)).trans b2) ((World.cell?_alloc_lt wr _ ⟨w.heap.size + 4, 0, none⟩ (show w.heap.size + 4 < wr.heap.size by omega)).trans bc)).mono ?_
                rw [getv_f hlen.out hA]
                rintro e w' ⟨rfl, rfl⟩
                go_wp2_with fail
                refine (impl_get 0 k x y w.heap.size (w.heap.size + 1) (w.heap.size + 2) (w.heap.size + 4) A' j c' wr.heap.size vals _ (by omega) (by omega) (rd0.alloc (Nat.le_refl _) _) (by omega) ((World.cell?_alloc_lt wr _ ⟨w.heap.size, 0, none⟩ (show w.heap.size < wr.heap.size by omega)).trans b0) ((World.cell?_alloc_lt wr _ ⟨w.heap.size + 1, 0, none⟩ (show w.heap.size + 1 < wr.heap.size by omega)).trans b1) ((World.cell?_alloc_lt wr _ ⟨w.heap.size + 2, 0, none⟩ (show w.heap.size + 2 < wr.heap.size by omega)).trans b2) ((World.cell?_alloc_lt wr _ ⟨w.heap.size + 4, 0, none⟩ (show w.heap.size + 4 < wr.heap.size by omega)).trans bc)).mono ?_
                rw [hany]
                rintro e w' ⟨rfl, rfl⟩
                go_wp2_with fail
                go_ret
                exact ⟨ret_int hbad.out.symm, hb.alloc (by omega) _⟩
              · cases hBt : Pl.there 0 j
                · have hbad := Lib.hid (Pl.codeRun_none (n := num) (Pl.runC_bad EO.out hrun.out (Pl.opOk_f (fun h => by rw [hlen.out, hBt] at h; exact absurd h.2.2.1 (by simp)))))
                  go_wp2_with (first | (go_at_call 43; refine (impl_within_t _ _ _ _ (by omega)).mono ?_; rintro e w' ⟨rfl, rfl⟩) | (go_at_call 43; refine (impl_within_f _ _ _ _ (by omega)).mono ?_; rintro e w' ⟨rfl, rfl⟩))
                  refine (impl_takes op _).mono ?_
                  rw [ht1]
                  rintro e w' ⟨rfl, rfl⟩
                  go_wp2_with fail
                  refine (impl_get oa k x y w.heap.size (w.heap.size + 1) (w.heap.size + 2) (w.heap.size + 4) A' j c' wr.heap.size vals _ (by omega) (by omega) (rd0.alloc (Nat.le_refl _) _) (by omega) ((World.cell?_alloc_lt wr _ ⟨w.heap.size, 0, none⟩ (show w.heap.size < wr.heap.size by omega)).trans b0) ((World.cell?_alloc_lt wr _ ⟨w.heap.size + 1, 0, none⟩ (show w.heap.size + 1 < wr.heap.size by omega)).trans b1) ((World.cell?_alloc_lt wr _ ⟨w.heap.size + 2, 0, none⟩ (show w.heap.size + 2 < wr.heap.size by omega)).trans b2) ((World.cell?_alloc_lt wr _ ⟨w.heap.size + 4, 0, none⟩ (show w.heap.size + 4 < wr.heap.size by omega)).trans bc)).mono ?_
                  rw [getv_t hlen.out hA]
                  rintro e w' ⟨rfl, rfl⟩
                  go_wp2_with fail
                  refine (impl_get 0 k x y w.heap.size (w.heap.size + 1) (w.heap.size + 2) (w.heap.size + 4) A' j c' wr.heap.size vals _ (by omega) (by omega) (rd0.alloc (Nat.le_refl _) _) (by omega) ((World.cell?_alloc_lt wr _ ⟨w.heap.size, 0, none⟩ (show w.heap.size < wr.heap.size by omega)).trans b0) ((World.cell?_alloc_lt wr _ ⟨w.heap.size + 1, 0, none⟩ (show w.heap.size + 1 < wr.heap.size by omega)).trans b1) ((World.cell?_alloc_lt wr _ ⟨w.heap.size + 2, 0, none⟩ (show w.heap.size + 2 < wr.heap.size by omega)).trans b2) ((World.cell?_alloc_lt wr _ ⟨w.heap.size + 4, 0, none⟩ (show w.heap.size + 4 < wr.heap.size by omega)).trans bc)).mono ?_
                  rw [getv_f hlen.out hBt]
                  rintro e w' ⟨rfl, rfl⟩
                  go_wp2_with fail
                  go_ret
                  exact ⟨ret_int hbad.out.symm, hb.alloc (by omega) _⟩
                · have hok : Pl.opOk (op, oa, 0) vals.length = true := Pl.opOk_mk ⟨o2, o3⟩ (by rw [hlen.out]; exact hA) (by rw [hlen.out]; exact hBt) hT
                  have hnext := Lib.hid (Pl.runC_snoc EO.out hrun.out hok)
                  have hw' := Lib.hid (Pl.words_doOp (c := (op, oa, 0)) H2.out hw.out)
                  have hva := Pl.atv_word (n := oa) H2.out hw.out
                  have hvb := Pl.atv_word (n := 0) H2.out hw.out
                  have hv2 := Lib.hid (Pl.v2_mk hva hvb)
                  clear hok hva hvb hT
                  go_wp2_with (first | (go_at_call 43; refine (impl_within_t _ _ _ _ (by omega)).mono ?_; rintro e w' ⟨rfl, rfl⟩) | (go_at_call 43; refine (impl_within_f _ _ _ _ (by omega)).mono ?_; rintro e w' ⟨rfl, rfl⟩))
                  refine (impl_takes op _).mono ?_
                  rw [ht1]
                  rintro e w' ⟨rfl, rfl⟩
                  go_wp2_with fail
                  refine (impl_get oa k x y w.heap.size (w.heap.size + 1) (w.heap.size + 2) (w.heap.size + 4) A' j c' wr.heap.size vals _ (by omega) (by omega) (rd0.alloc (Nat.le_refl _) _) (by omega) ((World.cell?_alloc_lt wr _ ⟨w.heap.size, 0, none⟩ (show w.heap.size < wr.heap.size by omega)).trans b0) ((World.cell?_alloc_lt wr _ ⟨w.heap.size + 1, 0, none⟩ (show w.heap.size + 1 < wr.heap.size by omega)).trans b1) ((World.cell?_alloc_lt wr _ ⟨w.heap.size + 2, 0, none⟩ (show w.heap.size + 2 < wr.heap.size by omega)).trans b2) ((World.cell?_alloc_lt wr _ ⟨w.heap.size + 4, 0, none⟩ (show w.heap.size + 4 < wr.heap.size by omega)).trans bc)).mono ?_
                  rw [getv_t hlen.out hA]
                  rintro e w' ⟨rfl, rfl⟩
                  go_wp2_with fail
                  refine (impl_get 0 k x y w.heap.size (w.heap.size + 1) (w.heap.size + 2) (w.heap.size + 4) A' j c' wr.heap.size vals _ (by omega) (by omega) (rd0.alloc (Nat.le_refl _) _) (by omega) ((World.cell?_alloc_lt wr _ ⟨w.heap.size, 0, none⟩ (show w.heap.size < wr.heap.size by omega)).trans b0) ((World.cell?_alloc_lt wr _ ⟨w.heap.size + 1, 0, none⟩ (show w.heap.size + 1 < wr.heap.size by omega)).trans b1) ((World.cell?_alloc_lt wr _ ⟨w.heap.size + 2, 0, none⟩ (show w.heap.size + 2 < wr.heap.size by omega)).trans b2) ((World.cell?_alloc_lt wr _ ⟨w.heap.size + 4, 0, none⟩ (show w.heap.size + 4 < wr.heap.size by omega)).trans bc)).mono ?_
                  rw [getv_t hlen.out hBt]
                  rintro e w' ⟨rfl, rfl⟩
                  go_wp2_with fail
                  have g0 : (wr.alloc (.cells #[.int .i64 op, .int .i64 oa, .int .i64 0] 63)).cell? ⟨w.heap.size, 0, none⟩ = some (.int .i64 k) := (World.cell?_alloc_lt wr _ ⟨w.heap.size, 0, none⟩ (show w.heap.size < wr.heap.size by omega)).trans b0
                  have g4 : (wr.alloc (.cells #[.int .i64 op, .int .i64 oa, .int .i64 0] 63)).cell? ⟨w.heap.size + 1 + 1 + 1 + 1, 0, none⟩ = some (.slice A' j c') := (World.cell?_alloc_lt wr _ ⟨w.heap.size + 4, 0, none⟩ (show w.heap.size + 4 < wr.heap.size by omega)).trans bc
                  go_region_law (first
                    | (refine step_int rfl (.tmp 74) (.tmp 81) rfl w1.heap.size (.slice A' j c') j _ (.int .i64 (Pl.opv k op (Pl.atv k vals oa x y) (Pl.atv k vals 0 x y))) ⟨w5.heap.size, 0, none⟩ (by simp [Act.eval, Act.put]) (by simp [Act.eval, Act.put]) ((own_below (World.ownsRow.drew (hown.alloc _)) hb5).alloc _) (by go_simp) rfl (by omega) (by have h5 := hb5.size; simp at h5; go_simp; omega) ?_; intro v' w6 row6 hb6; obtain ⟨A6, c6, rfl, _⟩ := Rd.of_own row6; have bm6 := (bm5.alloc (.cells #[.int .i64 (Pl.opv k op (Pl.atv k vals oa x y) (Pl.atv k vals 0 x y))] 3)).below hb6 (by omega); have e6 : w6.cell? ⟨w.heap.size + 1 + 1 + 1 + 1, 0, none⟩ = some (.slice A' j c') := (bm6.cell 0).trans rfl; have f6 : w6.frozen? ⟨w.heap.size + 1 + 1 + 1 + 1, 0, none⟩ = false := bm6.frozen 0)
                    | (go_simp; go_at_call 45; refine (impl_operate k op _ _ _ (by omega) (by omega) hv2.out).mono ?_; rintro e w5 ⟨rfl, hb5⟩; have bm5 := (Blk.drew (bm.alloc (.cells #[.int .i64 op, .int .i64 oa, .int .i64 0] 63))).below hb5 (by show w.heap.size + 4 < (wr.alloc _).heap.size; simp; omega); have e5 : w5.cell? ⟨w.heap.size + 1 + 1 + 1 + 1, 0, none⟩ = some (.slice A' j c') := (bm5.cell 0).trans rfl; have e5a : (w5.alloc (.cells #[.int .i64 (Pl.opv k op (Pl.atv k vals oa x y) (Pl.atv k vals 0 x y))] 3)).cell? ⟨w.heap.size + 1 + 1 + 1 + 1, 0, none⟩ = some (.slice A' j c') := (World.cell?_alloc_lt w5 _ ⟨w.heap.size + 4, 0, none⟩ bm5.lt).trans e5; dsimp only))
                  all_goals go_wp2
                  all_goals (
                    have h5 := hb5.size
                    simp only [World.drew] at h5
                    have h5' : wr.heap.size + 1 ≤ w5.heap.size := by simpa using h5
                    have hbw5 : Below w1.heap.size wr w5 := (below_drewN ((Below.refl w1.heap.size wr).alloc hz1 _) 1).trans (hb5.mono (by show w1.heap.size ≤ (wr.alloc _).heap.size; simp; omega))
                    have hbw6 : Below w1.heap.size wr w6 := (hbw5.alloc (by omega) _).trans hb6
                    have h6 := hbw6.size
                    have bm7 := bm6.set_ 0 (.slice A6 (j + 1) c6)
                    refine ⟨⟨j + 1, vals ++ [(Pl.opv k op (Pl.atv k vals oa x y) (Pl.atv k vals 0 x y))], A6, c6, by omega, by go_num, hnext, Lib.hid (by rw [List.length_append, hlen.out]; rfl), ?_, hw', ?_, ?_, ?_, ?_, ?_, ?_⟩, by simp [intOf]; omega⟩
                    · rw [I64_append]; exact ownsRow_setCell_below row6 (show w.heap.size + 4 < w1.heap.size by omega) _
                    · exact (hb.trans (hbw6.mono (by omega))).grown (set_only _) (by omega) (fun q hq => by injection hq with hq; omega)
                    · show w1.heap.size ≤ (w6.setCell _ _).heap.size
                      simp [World.setCell]; omega
                    · exact set_far _ ((hbw6.cell (p := ⟨w.heap.size, 0, none⟩) (show w.heap.size < w1.heap.size by omega)).trans b0) (show w.heap.size ≠ w.heap.size + 4 by omega)
                    · exact set_far _ ((hbw6.cell (p := ⟨w.heap.size + 1, 0, none⟩) (show w.heap.size + 1 < w1.heap.size by omega)).trans b1) (show w.heap.size + 1 ≠ w.heap.size + 4 by omega)
                    · exact set_far _ ((hbw6.cell (p := ⟨w.heap.size + 2, 0, none⟩) (show w.heap.size + 2 < w1.heap.size by omega)).trans b2) (show w.heap.size + 2 ≠ w.heap.size + 4 by omega)
                    · exact bm7)
            · have ht1' : (Pl.takes op == 1) = false := by rw [beq_eq_false_iff_ne]; exact ht1
              cases hA : Pl.there oa j
              · have hbad := Lib.hid (Pl.codeRun_none (n := num) (Pl.runC_bad EO.out hrun.out (Pl.opOk_f (fun h => by rw [hlen.out, hA] at h; exact absurd h.2.1 (by simp)))))
                obtain ⟨vb, bb, hany⟩ := getv_any k x y ob vals
                go_wp2_with (first | (go_at_call 43; refine (impl_within_t _ _ _ _ (by omega)).mono ?_; rintro e w' ⟨rfl, rfl⟩) | (go_at_call 43; refine (impl_within_f _ _ _ _ (by omega)).mono ?_; rintro e w' ⟨rfl, rfl⟩))
                refine (impl_takes op _).mono ?_
                rintro e w' ⟨rfl, rfl⟩
                go_wp2_with fail
                refine (impl_get oa k x y w.heap.size (w.heap.size + 1) (w.heap.size + 2) (w.heap.size + 4) A' j c' wr.heap.size vals _ (by omega) (by omega) (rd0.alloc (Nat.le_refl _) _) (by omega) ((World.cell?_alloc_lt wr _ ⟨w.heap.size, 0, none⟩ (show w.heap.size < wr.heap.size by omega)).trans b0) ((World.cell?_alloc_lt wr _ ⟨w.heap.size + 1, 0, none⟩ (show w.heap.size + 1 < wr.heap.size by omega)).trans b1) ((World.cell?_alloc_lt wr _ ⟨w.heap.size + 2, 0, none⟩ (show w.heap.size + 2 < wr.heap.size by omega)).trans b2) ((World.cell?_alloc_lt wr _ ⟨w.heap.size + 4, 0, none⟩ (show w.heap.size + 4 < wr.heap.size by omega)).trans bc)).mono ?_
                rw [getv_f hlen.out hA]
                rintro e w' ⟨rfl, rfl⟩
                go_wp2_with fail
                refine (impl_get ob k x y w.heap.size (w.heap.size + 1) (w.heap.size + 2) (w.heap.size + 4) A' j c' wr.heap.size vals _ (by omega) (by omega) (rd0.alloc (Nat.le_refl _) _) (by omega) ((World.cell?_alloc_lt wr _ ⟨w.heap.size, 0, none⟩ (show w.heap.size < wr.heap.size by omega)).trans b0) ((World.cell?_alloc_lt wr _ ⟨w.heap.size + 1, 0, none⟩ (show w.heap.size + 1 < wr.heap.size by omega)).trans b1) ((World.cell?_alloc_lt wr _ ⟨w.heap.size + 2, 0, none⟩ (show w.heap.size + 2 < wr.heap.size by omega)).trans b2) ((World.cell?_alloc_lt wr _ ⟨w.heap.size + 4, 0, none⟩ (show w.heap.size + 4 < wr.heap.size by omega)).trans bc)).mono ?_
                rw [hany]
                rintro e w' ⟨rfl, rfl⟩
                go_wp2_with fail
                go_ret
                exact ⟨ret_int hbad.out.symm, hb.alloc (by omega) _⟩
              · cases hBt : Pl.there ob j
                · have hbad := Lib.hid (Pl.codeRun_none (n := num) (Pl.runC_bad EO.out hrun.out (Pl.opOk_f (fun h => by rw [hlen.out, hBt] at h; exact absurd h.2.2.1 (by simp)))))
                  go_wp2_with (first | (go_at_call 43; refine (impl_within_t _ _ _ _ (by omega)).mono ?_; rintro e w' ⟨rfl, rfl⟩) | (go_at_call 43; refine (impl_within_f _ _ _ _ (by omega)).mono ?_; rintro e w' ⟨rfl, rfl⟩))
                  refine (impl_takes op _).mono ?_
                  rintro e w' ⟨rfl, rfl⟩
                  go_wp2_with fail
                  refine (impl_get oa k x y w.heap.size (w.heap.size + 1) (w.heap.size + 2) (w.heap.size + 4) A' j c' wr.heap.size vals _ (by omega) (by omega) (rd0.alloc (Nat.le_refl _) _) (by omega) ((World.cell?_alloc_lt wr _ ⟨w.heap.size, 0, none⟩ (show w.heap.size < wr.heap.size by omega)).trans b0) ((World.cell?_alloc_lt wr _ ⟨w.heap.size + 1, 0, none⟩ (show w.heap.size + 1 < wr.heap.size by omega)).trans b1) ((World.cell?_alloc_lt wr _ ⟨w.heap.size + 2, 0, none⟩ (show w.heap.size + 2 < wr.heap.size by omega)).trans b2) ((World.cell?_alloc_lt wr _ ⟨w.heap.size + 4, 0, none⟩ (show w.heap.size + 4 < wr.heap.size by omega)).trans bc)).mono ?_
                  rw [getv_t hlen.out hA]
                  rintro e w' ⟨rfl, rfl⟩
                  go_wp2_with fail
                  refine (impl_get ob k x y w.heap.size (w.heap.size + 1) (w.heap.size + 2) (w.heap.size + 4) A' j c' wr.heap.size vals _ (by omega) (by omega) (rd0.alloc (Nat.le_refl _) _) (by omega) ((World.cell?_alloc_lt wr _ ⟨w.heap.size, 0, none⟩ (show w.heap.size < wr.heap.size by omega)).trans b0) ((World.cell?_alloc_lt wr _ ⟨w.heap.size + 1, 0, none⟩ (show w.heap.size + 1 < wr.heap.size by omega)).trans b1) ((World.cell?_alloc_lt wr _ ⟨w.heap.size + 2, 0, none⟩ (show w.heap.size + 2 < wr.heap.size by omega)).trans b2) ((World.cell?_alloc_lt wr _ ⟨w.heap.size + 4, 0, none⟩ (show w.heap.size + 4 < wr.heap.size by omega)).trans bc)).mono ?_
                  rw [getv_f hlen.out hBt]
                  rintro e w' ⟨rfl, rfl⟩
                  go_wp2_with fail
                  go_ret
                  exact ⟨ret_int hbad.out.symm, hb.alloc (by omega) _⟩
                · have hok : Pl.opOk (op, oa, ob) vals.length = true := Pl.opOk_mk ⟨o2, o3⟩ (by rw [hlen.out]; exact hA) (by rw [hlen.out]; exact hBt) hT
                  have hnext := Lib.hid (Pl.runC_snoc EO.out hrun.out hok)
                  have hw' := Lib.hid (Pl.words_doOp (c := (op, oa, ob)) H2.out hw.out)
                  have hva := Pl.atv_word (n := oa) H2.out hw.out
                  have hvb := Pl.atv_word (n := ob) H2.out hw.out
                  have hv2 := Lib.hid (Pl.v2_mk hva hvb)
                  clear hok hva hvb hT
                  go_wp2_with (first | (go_at_call 43; refine (impl_within_t _ _ _ _ (by omega)).mono ?_; rintro e w' ⟨rfl, rfl⟩) | (go_at_call 43; refine (impl_within_f _ _ _ _ (by omega)).mono ?_; rintro e w' ⟨rfl, rfl⟩))
                  refine (impl_takes op _).mono ?_
                  rintro e w' ⟨rfl, rfl⟩
                  go_wp2_with fail
                  refine (impl_get oa k x y w.heap.size (w.heap.size + 1) (w.heap.size + 2) (w.heap.size + 4) A' j c' wr.heap.size vals _ (by omega) (by omega) (rd0.alloc (Nat.le_refl _) _) (by omega) ((World.cell?_alloc_lt wr _ ⟨w.heap.size, 0, none⟩ (show w.heap.size < wr.heap.size by omega)).trans b0) ((World.cell?_alloc_lt wr _ ⟨w.heap.size + 1, 0, none⟩ (show w.heap.size + 1 < wr.heap.size by omega)).trans b1) ((World.cell?_alloc_lt wr _ ⟨w.heap.size + 2, 0, none⟩ (show w.heap.size + 2 < wr.heap.size by omega)).trans b2) ((World.cell?_alloc_lt wr _ ⟨w.heap.size + 4, 0, none⟩ (show w.heap.size + 4 < wr.heap.size by omega)).trans bc)).mono ?_
                  rw [getv_t hlen.out hA]
                  rintro e w' ⟨rfl, rfl⟩
                  go_wp2_with fail
                  refine (impl_get ob k x y w.heap.size (w.heap.size + 1) (w.heap.size + 2) (w.heap.size + 4) A' j c' wr.heap.size vals _ (by omega) (by omega) (rd0.alloc (Nat.le_refl _) _) (by omega) ((World.cell?_alloc_lt wr _ ⟨w.heap.size, 0, none⟩ (show w.heap.size < wr.heap.size by omega)).trans b0) ((World.cell?_alloc_lt wr _ ⟨w.heap.size + 1, 0, none⟩ (show w.heap.size + 1 < wr.heap.size by omega)).trans b1) ((World.cell?_alloc_lt wr _ ⟨w.heap.size + 2, 0, none⟩ (show w.heap.size + 2 < wr.heap.size by omega)).trans b2) ((World.cell?_alloc_lt wr _ ⟨w.heap.size + 4, 0, none⟩ (show w.heap.size + 4 < wr.heap.size by omega)).trans bc)).mono ?_
                  rw [getv_t hlen.out hBt]
                  rintro e w' ⟨rfl, rfl⟩
                  go_wp2_with fail
                  have g0 : (wr.alloc (.cells #[.int .i64 op, .int .i64 oa, .int .i64 ob] 63)).cell? ⟨w.heap.size, 0, none⟩ = some (.int .i64 k) := (World.cell?_alloc_lt wr _ ⟨w.heap.size, 0, none⟩ (show w.heap.size < wr.heap.size by omega)).trans b0
                  have g4 : (wr.alloc (.cells #[.int .i64 op, .int .i64 oa, .int .i64 ob] 63)).cell? ⟨w.heap.size + 1 + 1 + 1 + 1, 0, none⟩ = some (.slice A' j c') := (World.cell?_alloc_lt wr _ ⟨w.heap.size + 4, 0, none⟩ (show w.heap.size + 4 < wr.heap.size by omega)).trans bc
                  go_region_law (first
                    | (refine step_int rfl (.tmp 74) (.tmp 81) rfl w1.heap.size (.slice A' j c') j _ (.int .i64 (Pl.opv k op (Pl.atv k vals oa x y) (Pl.atv k vals ob x y))) ⟨w5.heap.size, 0, none⟩ (by simp [Act.eval, Act.put]) (by simp [Act.eval, Act.put]) ((own_below (World.ownsRow.drew (hown.alloc _)) hb5).alloc _) (by go_simp) rfl (by omega) (by have h5 := hb5.size; simp at h5; go_simp; omega) ?_; intro v' w6 row6 hb6; obtain ⟨A6, c6, rfl, _⟩ := Rd.of_own row6; have bm6 := (bm5.alloc (.cells #[.int .i64 (Pl.opv k op (Pl.atv k vals oa x y) (Pl.atv k vals ob x y))] 3)).below hb6 (by omega); have e6 : w6.cell? ⟨w.heap.size + 1 + 1 + 1 + 1, 0, none⟩ = some (.slice A' j c') := (bm6.cell 0).trans rfl; have f6 : w6.frozen? ⟨w.heap.size + 1 + 1 + 1 + 1, 0, none⟩ = false := bm6.frozen 0)
                    | (go_simp; go_at_call 45; refine (impl_operate k op _ _ _ (by omega) (by omega) hv2.out).mono ?_; rintro e w5 ⟨rfl, hb5⟩; have bm5 := (Blk.drew (bm.alloc (.cells #[.int .i64 op, .int .i64 oa, .int .i64 ob] 63))).below hb5 (by show w.heap.size + 4 < (wr.alloc _).heap.size; simp; omega); have e5 : w5.cell? ⟨w.heap.size + 1 + 1 + 1 + 1, 0, none⟩ = some (.slice A' j c') := (bm5.cell 0).trans rfl; have e5a : (w5.alloc (.cells #[.int .i64 (Pl.opv k op (Pl.atv k vals oa x y) (Pl.atv k vals ob x y))] 3)).cell? ⟨w.heap.size + 1 + 1 + 1 + 1, 0, none⟩ = some (.slice A' j c') := (World.cell?_alloc_lt w5 _ ⟨w.heap.size + 4, 0, none⟩ bm5.lt).trans e5; dsimp only))
                  all_goals go_wp2
                  all_goals (
                    have h5 := hb5.size
                    simp only [World.drew] at h5
                    have h5' : wr.heap.size + 1 ≤ w5.heap.size := by simpa using h5
                    have hbw5 : Below w1.heap.size wr w5 := (below_drewN ((Below.refl w1.heap.size wr).alloc hz1 _) 1).trans (hb5.mono (by show w1.heap.size ≤ (wr.alloc _).heap.size; simp; omega))
                    have hbw6 : Below w1.heap.size wr w6 := (hbw5.alloc (by omega) _).trans hb6
                    have h6 := hbw6.size
                    have bm7 := bm6.set_ 0 (.slice A6 (j + 1) c6)
                    refine ⟨⟨j + 1, vals ++ [(Pl.opv k op (Pl.atv k vals oa x y) (Pl.atv k vals ob x y))], A6, c6, by omega, by go_num, hnext, Lib.hid (by rw [List.length_append, hlen.out]; rfl), ?_, hw', ?_, ?_, ?_, ?_, ?_, ?_⟩, by simp [intOf]; omega⟩
                    · rw [I64_append]; exact ownsRow_setCell_below row6 (show w.heap.size + 4 < w1.heap.size by omega) _
                    · exact (hb.trans (hbw6.mono (by omega))).grown (set_only _) (by omega) (fun q hq => by injection hq with hq; omega)
                    · show w1.heap.size ≤ (w6.setCell _ _).heap.size
                      simp [World.setCell]; omega
                    · exact set_far _ ((hbw6.cell (p := ⟨w.heap.size, 0, none⟩) (show w.heap.size < w1.heap.size by omega)).trans b0) (show w.heap.size ≠ w.heap.size + 4 by omega)
                    · exact set_far _ ((hbw6.cell (p := ⟨w.heap.size + 1, 0, none⟩) (show w.heap.size + 1 < w1.heap.size by omega)).trans b1) (show w.heap.size + 1 ≠ w.heap.size + 4 by omega)
                    · exact set_far _ ((hbw6.cell (p := ⟨w.heap.size + 2, 0, none⟩) (show w.heap.size + 2 < w1.heap.size by omega)).trans b2) (show w.heap.size + 2 ≠ w.heap.size + 4 by omega)
                    · exact bm7)
        · have hbad := Lib.hid (Pl.codeRun_none (n := num) (Pl.runC_bad EO.out hrun.out (Pl.opOk_f (fun h => o1 h.1))))
          go_wp2_with (first | (go_at_call 43; refine (impl_within_t _ _ _ _ (by omega)).mono ?_; rintro e w' ⟨rfl, rfl⟩) | (go_at_call 43; refine (impl_within_f _ _ _ _ (by omega)).mono ?_; rintro e w' ⟨rfl, rfl⟩))
          go_ret
          exact ⟨ret_int hbad.out.symm, hb.alloc (by omega) _⟩
      · obtain rfl : j = n := by omega
        have hfin := hrun.out
        rw [show code.take j = code by rw [← hL.out, List.take_length]] at hfin
        have hend := Lib.hid (Pl.codeRun_end (n := num) H2.out (by have := hL.out; omega) hfin)
        rw [hlen.out] at hend
        cases hT : Pl.there num j
        · go_wp2_with fail
          refine (impl_get num k x y w.heap.size (w.heap.size + 1) (w.heap.size + 2) (w.heap.size + 4) A' j c' wr.heap.size vals _ (by omega) (by omega) rd0 (by omega) b0 b1 b2 bc).mono ?_
          rw [getv_f hlen.out hT]
          rintro e w' ⟨rfl, rfl⟩
          go_wp2_with fail
          go_ret
          exact ⟨ret_int (by rw [hend.out, hT]; rfl), hb⟩
        · go_wp2_with fail
          refine (impl_get num k x y w.heap.size (w.heap.size + 1) (w.heap.size + 2) (w.heap.size + 4) A' j c' wr.heap.size vals _ (by omega) (by omega) rd0 (by omega) b0 b1 b2 bc).mono ?_
          rw [getv_t hlen.out hT]
          rintro e w' ⟨rfl, rfl⟩
          go_wp2_with fail
          go_ret
          exact ⟨ret_int (by rw [hend.out, if_pos hT]), hb⟩
end Go.Proofs.Ytfnolajhhdnpoaa
