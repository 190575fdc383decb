/-
  Clones and equality of slices of ints, as the program makes its expressions simpler.
  Conditions: as stated at each.
-/
import Derived.Test.YtnjcephddilalabT7
import Derived.Test.YtnjcephddilalabPv
namespace Go.Proofs.Ytnjcephddilalab
set_option linter.unusedVariables false
set_option linter.unusedSimpArgs false
open Go.RowKit
set_option maxRecDepth 100000 in
set_option maxHeartbeats 1000000 in
theorem clone_ints (b off k c : Nat) (xs : List Value) (w : World) (hl : xs.length = k) (hc : ∀ j u, xs[j]? = some u → w.cell? ⟨b, off + j, none⟩ = some u) (hbw : b < w.heap.size) (h1 : ∀ u ∈ xs, u.oneCell' = true) (hk : k ≤ 1000) :
    Calls Try.prog 63 #[.slice (some ⟨b, off, none⟩) k c] w fun e w' => ∃ v, e = .returned v ∧ w'.ownsRow w.heap.size 3 1 v k xs ∧ Below w.heap.size w w' := by
  obtain ⟨i0, hi0, hz0, hz1, hz2⟩ := info_parts int_info
  have hq := fun w => Go.Lib.run_eql_slice_nil (P := Try.prog) w 23 3 (some ⟨b, off, none⟩) k c 0 0 Try.underlying23
  have hnew : ∀ j u, xs[j]? = some u → (w.alloc (.cells #[] 3)).cell? ((⟨b, off, none⟩ : Addr).add j) = some u := by
    intro j u hu
    have e : (⟨b, off, none⟩ : Addr).add j = ⟨b, off + j, none⟩ := by
      unfold Addr.add
      split
      · rename_i h0; subst h0; rfl
      · rfl
    rw [e, World.cell?_alloc_lt w _ ⟨b, off + j, none⟩ hbw]
    exact hc j u hu
  have HC := Lib.hid hnew
  have H1 := Lib.hid h1
  have HL := Lib.hid hl
  clear hc h1 hl hnew
  go_enter Try.func63, Try.ntmps63
  go_wp2_with (at_builtin; refine wpList_append_own _ rfl (.tmp 5) (.tmp 6) _ rfl w.heap.size 3 i0 _ 1 8 Try.underlying23 hi0 hz0 hz1 hz2 rfl (by decide) (.slice (some ⟨w.heap.size, 0, none⟩) 0 0) 0 [] rfl (World.ownsRow_made w #[] 0 (Nat.le_refl _) (by simp [maxLen]) rfl) ⟨b, off, none⟩ k c xs rfl (by have := HL.out; omega) HC.out H1.out (by simp only [maxLen]; omega) (by omega) (by simp) ?_; intro v' w' own' hg' _)
  go_ret
  refine ⟨v', rfl, ?_, ((Below.refl _ _).alloc (Nat.le_refl _) _).grown hg' (by simp) (fun k hk => by simp [Value.ownBlock] at hk; omega)⟩
  simpa using own'
set_option maxRecDepth 100000 in
set_option maxHeartbeats 1000000 in
theorem equal_ints (A A' : Option Addr) (n m c c' B : Nat) (xs ys : List Int) (w : World) (hx : Rd w B A n (I64 xs)) (hy : Rd w B A' m (I64 ys)) (hn : n ≤ 1000000000000) (hm : m ≤ 1000000000000) :
    Calls Try.prog 110 #[.slice A n c, .slice A' m c'] w fun e w' => e = .returned (.bool (decide (xs = ys))) ∧ ∃ q, w' = w.drewN q := by
  have lx : xs.length = n := by have := hx.len; rwa [I64_len] at this
  have ly : ys.length = m := by have := hy.len; rwa [I64_len] at this
  by_cases hnm : n = m
  · subst hnm
    rcases Nat.eq_zero_or_pos n with h0 | h0
    · subst h0
      have he : xs = ys := by rw [List.eq_nil_of_length_eq_zero lx, List.eq_nil_of_length_eq_zero ly]
      have HE := Lib.hid he
      clear he lx ly
      go_enter Try.func110, Try.ntmps110
      go_wp2
      refine wp_loop_rounds 1 ?_
      rw [rounds_succ]
      go_wp2
      go_ret
      exact ⟨ret_bool (by simp [HE.out]), 0, rfl⟩
    · obtain ⟨b, off, rfl, _, hc⟩ := hx.pos h0
      obtain ⟨b', off', rfl, _, hc'⟩ := hy.pos h0
      have LX := Lib.hid lx
      have LY := Lib.hid ly
      have HC := Lib.hid hc
      have HC' := Lib.hid hc'
      clear hc hc' lx ly hx hy
      go_enter Try.func110, Try.ntmps110
      go_wp2
      go_loopw [13] (fun i wr => ∃ k q : Nat, k ≤ n ∧ i = .int .i64 k ∧ (∀ j, j < k → xs[j]? = ys[j]?) ∧ wr = w.drewN q) (fun i _ => n - (intOf i).toNat)
      case atStart => exact ⟨0, 0, by omega, rfl, fun j hj => absurd hj (by omega), rfl⟩
      case round =>
        obtain ⟨k, q, hk, rfl, hs, rfl⟩ := hrel
        have HS := Lib.hid hs
        clear hs
        by_cases hlt : k < n
        · obtain ⟨x, ex⟩ : ∃ x, xs[k]? = some x := ⟨_, List.getElem?_eq_getElem (by have := LX.out; omega)⟩
          obtain ⟨y, ey⟩ : ∃ y, ys[k]? = some y := ⟨_, List.getElem?_eq_getElem (by have := LY.out; omega)⟩
          have c1 : w.cell? ⟨b, off + k, none⟩ = some (.int .i64 x) := HC.out k _ (I64_get ex)
          have c2 : w.cell? ⟨b', off' + k, none⟩ = some (.int .i64 y) := HC'.out k _ (I64_get ey)
          have EX := Lib.hid ex
          have EY := Lib.hid ey
          clear ex ey
          have hkn : (k : Int) < n := by omega
          have hk0 : (0 : Int) ≤ k := by omega
          by_cases hxy : x = y
          · subst hxy
            go_wp2_with fail
            go_quiet (fail)
            go_wp2
            go_roundw
            case rel =>
              refine ⟨k + 1, q + nq, by omega, by go_num, fun j hj => ?_, rfl⟩
              rcases Nat.lt_or_ge j k with h | h
              · exact HS.out j h
              · obtain rfl : j = k := by omega
                rw [EX.out, EY.out]
            case measure => simp [intOf]; omega
          · have hne : (x != y) = true := by rw [bne_iff_ne]; exact hxy
            have HD := Lib.hid (lists_differ EX.out EY.out hxy)
            clear hxy
            go_wp2_with fail
            go_quiet (fail)
            go_wp2
            go_ret
            exact ⟨ret_bool (by simp [HD.out]), q + nq, by first | rfl | rw [World.drewN_drewN]⟩
        · have hkn : k = n := by omega
          have HK := Lib.hid hkn
          clear hkn
          go_wp2
          go_ret
          exact ⟨ret_bool (by simp [lists_meet LX.out LY.out (by have := HS.out; rwa [HK.out] at this)]), _, rfl⟩
  · have hne : xs ≠ ys := by rintro rfl; omega
    have HN := Lib.hid hne
    have hb : ((n : Int) != (m : Int)) = true := by rw [bne_iff_ne]; omega
    clear hne hnm lx ly
    go_enter Try.func110, Try.ntmps110
    go_wp2
    go_ret
    exact ⟨ret_bool (by simp [HN.out]), 0, rfl⟩
end Go.Proofs.Ytnjcephddilalab
