/-
  Small contracts of the program's simpler expressions.
  Conditions: as stated at each.
-/
import Derived.Test.YtamhpgledbmnoaaGreatKT
import Derived.Test.YtamhpgledbmnoaaGreatKP
import Derived.Deep.Onto
namespace Go.Proofs.YtamhpgledbmnoaaGreat
set_option linter.unusedVariables false
set_option linter.unusedSimpArgs false
open Go.RowKit
set_option maxRecDepth 100000 in
set_option maxHeartbeats 1000000 in
theorem clone_ints (b off k c : Nat) (xs : List Value) (w : World) (hl : xs.length = k) (hc : ∀ j u, xs[j]? = some u → w.cell? ⟨b, off + j, none⟩ = some u) (hbw : b < w.heap.size) (h1 : ∀ u ∈ xs, u.oneCell' = true) (hk : k ≤ 1000) :
    Calls Tryz.prog 68 #[.slice (some ⟨b, off, none⟩) k c] w fun e w' => ∃ v, e = .returned v ∧ w'.ownsRow w.heap.size 3 1 v k xs ∧ Below w.heap.size w w' := by
  obtain ⟨i0, hi0, hz0, hz1, hz2⟩ := info_parts int_info
  have hq := fun w => Go.Lib.run_eql_slice_nil (P := Tryz.prog) w 22 3 (some ⟨b, off, none⟩) k c 0 0 Tryz.underlying22
  have hnew : ∀ j u, xs[j]? = some u → (w.alloc (.cells #[] 3)).cell? ((⟨b, off, none⟩ : Addr).add j) = some u := by
    intro j u hu
    have e : (⟨b, off, none⟩ : Addr).add j = ⟨b, off + j, none⟩ := by
      unfold Addr.add
      split
      · rename_i h0; subst h0; rfl
      · rfl
    rw [e, World.cell?_alloc_lt w _ ⟨b, off + j, none⟩ hbw]
    exact hc j u hu
  have HC := Lib.hid hnew
  have H1 := Lib.hid h1
  have HL := Lib.hid hl
  clear hc h1 hl hnew
  go_enter Tryz.func68, Tryz.ntmps68
  go_wp2_with (at_builtin; refine wpList_append_own _ rfl (.tmp 5) (.tmp 6) _ rfl w.heap.size 3 i0 _ 1 8 Tryz.underlying22 hi0 hz0 hz1 hz2 rfl (by decide) (.slice (some ⟨w.heap.size, 0, none⟩) 0 0) 0 [] rfl (World.ownsRow_made w #[] 0 (Nat.le_refl _) (by simp [maxLen]) rfl) ⟨b, off, none⟩ k c xs rfl (by have := HL.out; omega) HC.out H1.out (by simp only [maxLen]; omega) (by omega) (by simp) ?_; intro v' w' own' hg' _)
  go_ret
  refine ⟨v', rfl, ?_, ((Below.refl _ _).alloc (Nat.le_refl _) _).grown hg' (by simp) (fun k hk => by simp [Value.ownBlock] at hk; omega)⟩
  simpa using own'
set_option maxRecDepth 100000 in
set_option maxHeartbeats 1000000 in
theorem equal_ints (A A' : Option Addr) (n m c c' B : Nat) (xs ys : List Int) (w : World) (hx : Rd w B A n (I64 xs)) (hy : Rd w B A' m (I64 ys)) (hn : n ≤ 1000000000000) (hm : m ≤ 1000000000000) :
    Calls Tryz.prog 94 #[.slice A n c, .slice A' m c'] w fun e w' => e = .returned (.bool (decide (xs = ys))) ∧ ∃ q, w' = w.drewN q := by
  have lx : xs.length = n := by have := hx.len; rwa [I64_len] at this
  have ly : ys.length = m := by have := hy.len; rwa [I64_len] at this
  by_cases hnm : n = m
  · subst hnm
    rcases Nat.eq_zero_or_pos n with h0 | h0
    · subst h0
      have he : xs = ys := by rw [List.eq_nil_of_length_eq_zero lx, List.eq_nil_of_length_eq_zero ly]
      have HE := Lib.hid he
      clear he lx ly
      go_enter Tryz.func94, Tryz.ntmps94
      go_wp2
      refine wp_loop_rounds 1 ?_
      rw [rounds_succ]
      go_wp2
      go_ret
      exact ⟨ret_bool (by simp [HE.out]), 0, rfl⟩
    · obtain ⟨b, off, rfl, _, hc⟩ := hx.pos h0
      obtain ⟨b', off', rfl, _, hc'⟩ := hy.pos h0
      have LX := Lib.hid lx
      have LY := Lib.hid ly
      have HC := Lib.hid hc
      have HC' := Lib.hid hc'
      clear hc hc' lx ly hx hy
      go_enter Tryz.func94, Tryz.ntmps94
      go_wp2
      go_loopw [13] (fun i wr => ∃ k q : Nat, k ≤ n ∧ i = .int .i64 k ∧ (∀ j, j < k → xs[j]? = ys[j]?) ∧ wr = w.drewN q) (fun i _ => n - (intOf i).toNat)
      case atStart => exact ⟨0, 0, by omega, rfl, fun j hj => absurd hj (by omega), rfl⟩
      case round =>
        obtain ⟨k, q, hk, rfl, hs, rfl⟩ := hrel
        have HS := Lib.hid hs
        clear hs
        by_cases hlt : k < n
        · obtain ⟨x, ex⟩ : ∃ x, xs[k]? = some x := ⟨_, List.getElem?_eq_getElem (by have := LX.out; omega)⟩
          obtain ⟨y, ey⟩ : ∃ y, ys[k]? = some y := ⟨_, List.getElem?_eq_getElem (by have := LY.out; omega)⟩
          have c1 : w.cell? ⟨b, off + k, none⟩ = some (.int .i64 x) := HC.out k _ (I64_get ex)
          have c2 : w.cell? ⟨b', off' + k, none⟩ = some (.int .i64 y) := HC'.out k _ (I64_get ey)
          have EX := Lib.hid ex
          have EY := Lib.hid ey
          clear ex ey
          have hkn : (k : Int) < n := by omega
          have hk0 : (0 : Int) ≤ k := by omega
          by_cases hxy : x = y
          · subst hxy
            go_wp2_with fail
            go_quiet (fail)
            go_wp2
            go_roundw
            case rel =>
              refine ⟨k + 1, q + nq, by omega, by go_num, fun j hj => ?_, rfl⟩
              rcases Nat.lt_or_ge j k with h | h
              · exact HS.out j h
              · obtain rfl : j = k := by omega
                rw [EX.out, EY.out]
            case measure => simp [intOf]; omega
          · have hne : (x != y) = true := by rw [bne_iff_ne]; exact hxy
            have HD := Lib.hid (lists_differ EX.out EY.out hxy)
            clear hxy
            go_wp2_with fail
            go_quiet (fail)
            go_wp2
            go_ret
            exact ⟨ret_bool (by simp [HD.out]), q + nq, by first | rfl | rw [World.drewN_drewN]⟩
        · have hkn : k = n := by omega
          have HK := Lib.hid hkn
          clear hkn
          go_wp2
          go_ret
          exact ⟨ret_bool (by simp [lists_meet LX.out LY.out (by have := HS.out; rwa [HK.out] at this)]), _, rfl⟩
  · have hne : xs ≠ ys := by rintro rfl; omega
    have HN := Lib.hid hne
    have hb : ((n : Int) != (m : Int)) = true := by rw [bne_iff_ne]; omega
    clear hne hnm lx ly
    go_enter Tryz.func94, Tryz.ntmps94
    go_wp2
    go_ret
    exact ⟨ret_bool (by simp [HN.out]), 0, rfl⟩
end Go.Proofs.YtamhpgledbmnoaaGreat
namespace Go.Proofs.YtamhpgledbmnoaaGreat
set_option linter.unusedVariables false
set_option linter.unusedSimpArgs false
open Go.RowKit
/-- A slice of the call's own comes back, from block B on. -/
def OutP (B : Nat) (X : List Int) (w : World) (e : Ending) (w' : World) : Prop :=
  ∃ (A : Option Addr) (c : Nat), e = .returned (.slice A X.length c) ∧ w'.ownsRow B 3 1 (.slice A X.length c) X.length (I64 X) ∧ Below w.heap.size w w'
theorem top_last (t : Pl.Tr) {m : Nat} (h : t.post.length = m + 1) : t.post[m]? = some t.top := by
  obtain ⟨q, hq⟩ := t.post_last
  rw [hq] at h ⊢
  have hq' : q.length = m := by simpa using h
  rw [← hq', List.getElem?_append_right (Nat.le_refl _)]
  simp
theorem own_ilen {w : World} {B n : Nat} {v : Value} {xs : List Int} (h : w.ownsRow B 3 1 v n (I64 xs)) : xs.length = n := by
  have := h.1
  rw [I64_len] at this
  omega
theorem outP_row {B : Nat} {X : List Int} {w w' : World} {v : Value} {n : Nat} (hn : X.length = n) (h : w'.ownsRow B 3 1 v n (I64 X)) (hb : Below w.heap.size w w') : OutP B X w (.returned v) w' := by
  subst hn
  obtain ⟨A, c, rfl, _⟩ := Rd.of_own h
  exact ⟨A, c, rfl, h, hb⟩
set_option maxRecDepth 100000 in
set_option maxHeartbeats 2000000 in
theorem simpler_un_cut (ta : Pl.Tr) (u : Pl.Tr) (hu : ta = .un 12 u) (pb A n c B pc) (w : World) (own : w.ownsRow B 3 1 (.slice A n c) n (I64 ta.post)) (hl : n ≤ 1000) (hp : w.cell? ⟨pb, 0, none⟩ = some (.slice A n c)) (hB : B ≤ w.heap.size) :
    Calls Tryz.prog 115 #[.int .i64 12, .slice (some ⟨pb, 0, none⟩) 1 pc] w (OutP B u.post w) := by
  subst hu
  obtain ⟨m, hm⟩ : ∃ m, u.post.length = m := ⟨_, rfl⟩
  have hn : (Pl.Tr.un 12 u).post.length = n := own_ilen own
  obtain rfl : n = m + 1 := by simp [Pl.Tr.post, hm] at hn; omega
  obtain ⟨g, rfl, hg0, hg1⟩ := own_some own (by omega)
  have cl : w.cell? ⟨g, m, none⟩ = some (.int .i64 12) := own_cell own (I64_get (top_last (.un 12 u) hn))
  have ownc := own_cut own (m := m) (by omega)
  have ht : (I64 (Pl.Tr.un 12 u).post).take m = I64 u.post := by
    rw [I64_take]
    congr 1
    show (u.post ++ [12]).take m = _
    rw [← hm, List.take_left]
  rw [ht] at ownc
  have hcc := own_cap own
  have k1 : ((m + 1 : Nat) : Int) - 1 = (m : Int) := by omega
  have k2 : (0 : Int) ≤ (m : Int) := by omega
  have k3 : (m : Int) < (m : Int) + 1 := by omega
  have k4 : (m : Int) ≤ (c : Int) := by omega
  have OW := Lib.hid ownc
  have HM := Lib.hid hm
  clear ht own hn hm ownc
  go_enter Tryz.func115, Tryz.ntmps115
  go_wp2_with (go_at_call 86; refine (impl_takes 12 _).mono ?_; rintro e w' ⟨rfl, rfl⟩)
  go_ret
  exact outP_row HM.out OW.out (Below.refl _ _)
set_option maxRecDepth 100000 in
set_option maxHeartbeats 2000000 in
theorem simpler_un_app (s : Int) (s0 : 12 ≤ s) (s1 : s < 15) (ta : Pl.Tr) (hne : s ≠ 12 ∨ ta.top ≠ 12) (pb A n c B pc) (w : World) (own : w.ownsRow B 3 1 (.slice A n c) n (I64 ta.post)) (hl : n ≤ 1000) (hp : w.cell? ⟨pb, 0, none⟩ = some (.slice A n c)) (hB : B ≤ w.heap.size) :
    Calls Tryz.prog 115 #[.int .i64 s, .slice (some ⟨pb, 0, none⟩) 1 pc] w (OutP B (ta.post ++ [s]) w) := by
  have hn : ta.post.length = n := own_ilen own
  obtain ⟨m, rfl⟩ : ∃ m, n = m + 1 := ⟨n - 1, by have := ta.post_pos; omega⟩
  obtain ⟨g, rfl, hg0, hg1⟩ := own_some own (by omega)
  have cl : w.cell? ⟨g, m, none⟩ = some (.int .i64 ta.top) := own_cell own (I64_get (top_last ta hn))
  have hcell : ∀ j u, (I64 ta.post)[j]? = some u → w.cell? ⟨g, 0 + j, none⟩ = some u := fun j u hu => by rw [Nat.zero_add]; exact own_cell own hu
  have hone : ∀ u ∈ I64 ta.post, u.oneCell' = true := fun u hu => by unfold I64 at hu; obtain ⟨_, _, rfl⟩ := List.mem_map.1 hu; rfl
  have hcc := own_cap own
  have HCl := Lib.hid (clone_ints g 0 (m + 1) c (I64 ta.post) w (by rw [I64_len, hn]) hcell hg1 hone hl)
  have HN := Lib.hid hn
  have ct := fun w => impl_takes s w
  rw [Pl.takes_1 s0 s1] at ct
  have k1 : ((m + 1 : Nat) : Int) - 1 = (m : Int) := by omega
  have k2 : (0 : Int) ≤ (m : Int) := by omega
  have k3 : (m : Int) < (m : Int) + 1 := by omega
  have hXl : (ta.post ++ [s]).length = m + 1 + 1 := by simp [hn]
  have HX := Lib.hid hXl
  clear own hcell hone hn hXl
  rcases (by omega : s = 12 ∨ s = 13 ∨ s = 14) with rfl | rfl | rfl
  · have hq : (ta.top == 12) = false := by
      rw [beq_eq_false_iff_ne]
      exact hne.elim (fun h => absurd rfl h) id
    clear hne
    go_enter Tryz.func115, Tryz.ntmps115
    go_wp2_with fail
    refine (ct _).mono ?_
    rintro e w' ⟨rfl, rfl⟩
    go_wp2_with fail
    refine (HCl.out).mono ?_
    rintro e w1 ⟨v1, rfl, own1, hb1⟩
    have hz1 := hb1.size
    go_wp2_with (at_builtin; refine app_int_far rfl (.tmp 32) (.tmp 34) rfl w.heap.size v1 (m + 1) ta.post 12 rfl own1 rfl (by omega) hz1 ?_; intro v2 w2 own2 hb2 hg2)
    go_ret
    exact outP_row HX.out (own2.mono hB) (hb1.trans hb2)
  all_goals
    clear hne
    go_enter Tryz.func115, Tryz.ntmps115
    go_wp2_with fail
    refine (ct _).mono ?_
    rintro e w' ⟨rfl, rfl⟩
    go_wp2_with fail
    refine (HCl.out).mono ?_
    rintro e w1 ⟨v1, rfl, own1, hb1⟩
    have hz1 := hb1.size
    go_wp2_with (at_builtin; refine app_int_far rfl (.tmp 32) (.tmp 34) rfl w.heap.size v1 (m + 1) ta.post _ rfl own1 rfl (by omega) hz1 ?_; intro v2 w2 own2 hb2 hg2)
    go_ret
    exact outP_row HX.out (own2.mono hB) (hb1.trans hb2)
theorem simpler_un (s : Int) (s0 : 12 ≤ s) (s1 : s < 15) (ta : Pl.Tr) (ok : ta.ok) (pb A n c B pc) (w : World) (own : w.ownsRow B 3 1 (.slice A n c) n (I64 ta.post)) (hl : n ≤ 1000) (hp : w.cell? ⟨pb, 0, none⟩ = some (.slice A n c)) (hB : B ≤ w.heap.size) :
    Calls Tryz.prog 115 #[.int .i64 s, .slice (some ⟨pb, 0, none⟩) 1 pc] w (OutP B (Pl.simp1 s ta).post w) := by
  rcases Pl.simp1_cases s ta with ⟨rfl, u, hu, e⟩ | e
  · rw [e]
    exact simpler_un_cut ta u hu pb A n c B pc w own hl hp hB
  · rw [e]
    refine simpler_un_app s s0 s1 ta ?_ pb A n c B pc w own hl hp hB
    by_cases h : s = 12
    · subst h
      refine .inr (fun ht => ?_)
      cases ta with
      | leaf q => have h1 := ok.2; have h2 : q = 12 := ht; omega
      | un q u =>
        have hq : q = 12 := ht
        subst hq
        have e1 : Pl.simp1 12 (.un 12 u) = u := by simp [Pl.simp1]
        rw [e1] at e
        have := congrArg (fun t => t.post.length) e
        simp [Pl.Tr.post] at this
      | bin q l r => have h1 := ok.1.1; have h2 : q = 12 := ht; omega
    · exact .inl h
end Go.Proofs.YtamhpgledbmnoaaGreat
