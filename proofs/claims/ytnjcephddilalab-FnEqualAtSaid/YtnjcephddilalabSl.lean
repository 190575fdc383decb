/-
  Slices of ints as lists: how a slice reads, and the contracts of the laws' helpers that compare, mark and look again.
  Conditions: lengths are below 10^12.
-/
import Derived.Test.YtnjcephddilalabAp
namespace Go.Proofs.Ytnjcephddilalab
set_option linter.unusedVariables false
set_option linter.unusedSimpArgs false
open Go.RowKit

/-- The slice '.slice A n c' holds the one-cell values xs, below block B. -/
def Rd (w : World) (B : Nat) (A : Option Addr) (n : Nat) (xs : List Value) : Prop :=
  xs.length = n ∧ (n = 0 ∨ ∃ b off, A = some ⟨b, off, none⟩ ∧ b < B ∧ ∀ j u, xs[j]? = some u → w.cell? ⟨b, off + j, none⟩ = some u)

section
variable {w w' : World} {B B' n : Nat} {A : Option Addr} {xs : List Value}
theorem Rd.len (h : Rd w B A n xs) : xs.length = n := h.1
theorem Rd.zero : Rd w B A 0 [] := ⟨rfl, .inl rfl⟩
theorem Rd.pos (h : Rd w B A n xs) (hn : 0 < n) : ∃ b off, A = some ⟨b, off, none⟩ ∧ b < B ∧ ∀ j u, xs[j]? = some u → w.cell? ⟨b, off + j, none⟩ = some u := by
  rcases h.2 with h | h
  · omega
  · exact h
theorem Rd.keep (h : Rd w B A n xs) (hk : ∀ p : Addr, p.block < B → w'.cell? p = w.cell? p) : Rd w' B A n xs :=
  ⟨h.1, by
    rcases h.2 with h | ⟨b, off, e, hb, hc⟩
    · exact .inl h
    · exact .inr ⟨b, off, e, hb, fun j u hu => (hk ⟨b, off + j, none⟩ hb).trans (hc j u hu)⟩⟩
theorem Rd.more (h : Rd w B A n xs) (hB : B ≤ B') : Rd w B' A n xs :=
  ⟨h.1, by
    rcases h.2 with h | ⟨b, off, e, hb, hc⟩
    · exact .inl h
    · exact .inr ⟨b, off, e, by omega, hc⟩⟩
theorem Rd.below (h : Rd w B A n xs) (hb : Below B w w') : Rd w' B A n xs := h.keep fun _ hp => hb.cell hp
theorem Rd.drew (h : Rd w B A n xs) : Rd w.drew B A n xs := h
theorem Rd.drewN (h : Rd w B A n xs) (k : Nat) : Rd (w.drewN k) B A n xs := h
theorem Rd.alloc (h : Rd w B A n xs) (hB : B ≤ w.heap.size) (o : Obj) : Rd (w.alloc o) B A n xs := h.keep fun p hp => World.cell?_alloc_lt w o p (by omega)
end

/-- A row of the call's own reads so. -/
theorem Rd.of_own {w : World} {base : Nat} {e : TypeId} {v : Value} {n : Nat} {xs : List Value} (h : w.ownsRow base e 1 v n xs) :
    ∃ A c, v = .slice A n c ∧ n ≤ c ∧ c ≤ maxLen ∧ Rd w w.heap.size A n xs := by
  have hl := h.1
  rcases h.2 with ⟨rfl, rfl⟩ | ⟨g, cap, cur, rfl, hg, hh, hnc, hm, hs, hx⟩
  · exact ⟨none, 0, rfl, Nat.le_refl _, by simp [maxLen], by simpa using hl, .inl rfl⟩
  · refine ⟨_, cap, rfl, hnc, hm, by simpa using hl, .inr ⟨g, 0, rfl, ?_, fun j u hu => ?_⟩⟩
    · rcases Nat.lt_or_ge g w.heap.size with h1 | h1
      · exact h1
      · rw [Array.getElem?_eq_none h1] at hh; cases hh
    · have h3 := h.cells (g := g) rfl j u hu
      have e : (⟨g, 0, none⟩ : Addr).add j = ⟨g, 0 + j, none⟩ := by
        unfold Addr.add
        split
        · rename_i h0; subst h0; rfl
        · rfl
      rw [e] at h3
      exact h3
theorem own_lt {w : World} {base : Nat} {e : TypeId} {v : Value} {n : Nat} {xs : List Value} (h : w.ownsRow base e 1 v n xs) (hn : 0 < n) :
    ∃ g c, v = .slice (some ⟨g, 0, none⟩) n c ∧ base ≤ g ∧ g < w.heap.size := by
  rcases h.2 with ⟨rfl, rfl⟩ | ⟨g, cap, cur, rfl, hg, hh, _⟩
  · omega
  · refine ⟨g, cap, rfl, hg, ?_⟩
    rcases Nat.lt_or_ge g w.heap.size with h1 | h1
    · exact h1
    · rw [Array.getElem?_eq_none h1] at hh; cases hh

def I64 (xs : List Int) : List Value := xs.map (.int .i64)
theorem I64_len (xs : List Int) : (I64 xs).length = xs.length := by simp [I64]
theorem I64_get {xs : List Int} {j : Nat} {x : Int} (h : xs[j]? = some x) : (I64 xs)[j]? = some (.int .i64 x) := by simp [I64, h]

theorem lists_differ {xs ys : List Int} {k : Nat} {x y : Int} (hx : xs[k]? = some x) (hy : ys[k]? = some y) (h : x ≠ y) : xs ≠ ys := by
  rintro rfl
  rw [hx] at hy
  exact h (by injection hy)
theorem lists_meet {xs ys : List Int} {n : Nat} (hx : xs.length = n) (hy : ys.length = n) (h : ∀ j, j < n → xs[j]? = ys[j]?) : xs = ys := by
  apply List.ext_getElem?
  intro i
  rcases Nat.lt_or_ge i n with hi | hi
  · exact h i hi
  · rw [List.getElem?_eq_none (by omega), List.getElem?_eq_none (by omega)]

set_option maxHeartbeats 1000000 in
theorem laws_eqIntS (A A' : Option Addr) (n m c c' B : Nat) (xs ys : List Int) (w : World) (hx : Rd w B A n (I64 xs)) (hy : Rd w B A' m (I64 ys)) (hn : n ≤ 1000000000000) (hm : m ≤ 1000000000000) :
    Calls Try.prog 23 #[.slice A n c, .slice A' m c'] w fun e w' => e = .returned (.bool (decide (xs = ys))) ∧ ∃ q, w' = w.drewN q := by
  have lx : xs.length = n := by have := hx.len; rwa [I64_len] at this
  have ly : ys.length = m := by have := hy.len; rwa [I64_len] at this
  by_cases hnm : n = m
  · subst hnm
    rcases Nat.eq_zero_or_pos n with h0 | h0
    · subst h0
      have he : xs = ys := by rw [List.eq_nil_of_length_eq_zero lx, List.eq_nil_of_length_eq_zero ly]
      have HE := Lib.hid he
      clear he lx ly
      go_enter Try.func23, Try.ntmps23
      go_wp2
      refine wp_loop_rounds 1 ?_
      rw [rounds_succ]
      go_wp2
      go_ret
      exact ⟨ret_bool (by simp [HE.out]), 0, rfl⟩
    · obtain ⟨b, off, rfl, _, hc⟩ := hx.pos h0
      obtain ⟨b', off', rfl, _, hc'⟩ := hy.pos h0
      have LX := Lib.hid lx
      have LY := Lib.hid ly
      have HC := Lib.hid hc
      have HC' := Lib.hid hc'
      clear hc hc' lx ly hx hy
      go_enter Try.func23, Try.ntmps23
      go_wp2
      go_loopw [5] (fun i wr => ∃ k q : Nat, k ≤ n ∧ i = .int .i64 k ∧ (∀ j, j < k → xs[j]? = ys[j]?) ∧ wr = w.drewN q) (fun i _ => n - (intOf i).toNat)
      case atStart => exact ⟨0, 0, by omega, rfl, fun j hj => absurd hj (by omega), rfl⟩
      case round =>
        obtain ⟨k, q, hk, rfl, hs, rfl⟩ := hrel
        have HS := Lib.hid hs
        clear hs
        by_cases hlt : k < n
        · obtain ⟨x, ex⟩ : ∃ x, xs[k]? = some x := ⟨_, List.getElem?_eq_getElem (by have := LX.out; omega)⟩
          obtain ⟨y, ey⟩ : ∃ y, ys[k]? = some y := ⟨_, List.getElem?_eq_getElem (by have := LY.out; omega)⟩
          have c1 : w.cell? ⟨b, off + k, none⟩ = some (.int .i64 x) := HC.out k _ (I64_get ex)
          have c2 : w.cell? ⟨b', off' + k, none⟩ = some (.int .i64 y) := HC'.out k _ (I64_get ey)
          have EX := Lib.hid ex
          have EY := Lib.hid ey
          clear ex ey
          have hkn : (k : Int) < n := by omega
          have hk0 : (0 : Int) ≤ k := by omega
          by_cases hxy : x = y
          · subst hxy
            go_wp2_with fail
            go_quiet (fail)
            go_wp2
            go_roundw
            case rel =>
              refine ⟨k + 1, q + nq, by omega, by go_num, fun j hj => ?_, rfl⟩
              rcases Nat.lt_or_ge j k with h | h
              · exact HS.out j h
              · obtain rfl : j = k := by omega
                rw [EX.out, EY.out]
            case measure => simp [intOf]; omega
          · have hne : (x != y) = true := by rw [bne_iff_ne]; exact hxy
            have HD := Lib.hid (lists_differ EX.out EY.out hxy)
            clear hxy
            go_wp2_with fail
            go_quiet (fail)
            go_wp2
            go_ret
            exact ⟨ret_bool (by simp [HD.out]), q + nq, by first | rfl | rw [World.drewN_drewN]⟩
        · have hkn : k = n := by omega
          have HK := Lib.hid hkn
          clear hkn
          go_wp2
          go_ret
          exact ⟨ret_bool (by simp [lists_meet LX.out LY.out (by have := HS.out; rwa [HK.out] at this)]), _, rfl⟩
  · have hne : xs ≠ ys := by rintro rfl; omega
    have HN := Lib.hid hne
    have hb : ((n : Int) != (m : Int)) = true := by rw [bne_iff_ne]; omega
    clear hne hnm lx ly
    go_enter Try.func23, Try.ntmps23
    go_wp2
    go_ret
    exact ⟨ret_bool (by simp [HN.out]), 0, rfl⟩
set_option maxHeartbeats 1000000 in
theorem laws_sameInts (A A' : Option Addr) (n m c c' B : Nat) (xs ys : List Int) (w : World) (hx : Rd w B A n (I64 xs)) (hy : Rd w B A' m (I64 ys)) (hn : n ≤ 1000000000000) (hm : m ≤ 1000000000000) :
    Calls Try.prog 29 #[.slice A n c, .slice A' m c'] w fun e w' => e = .returned (.bool (decide (xs = ys))) ∧ ∃ q, w' = w.drewN q := by
  have lx : xs.length = n := by have := hx.len; rwa [I64_len] at this
  have ly : ys.length = m := by have := hy.len; rwa [I64_len] at this
  by_cases hnm : n = m
  · subst hnm
    rcases Nat.eq_zero_or_pos n with h0 | h0
    · subst h0
      have he : xs = ys := by rw [List.eq_nil_of_length_eq_zero lx, List.eq_nil_of_length_eq_zero ly]
      have HE := Lib.hid he
      clear he lx ly
      go_enter Try.func29, Try.ntmps29
      go_wp2
      refine wp_loop_rounds 1 ?_
      rw [rounds_succ]
      go_wp2
      go_ret
      exact ⟨ret_bool (by simp [HE.out]), 0, rfl⟩
    · obtain ⟨b, off, rfl, _, hc⟩ := hx.pos h0
      obtain ⟨b', off', rfl, _, hc'⟩ := hy.pos h0
      have LX := Lib.hid lx
      have LY := Lib.hid ly
      have HC := Lib.hid hc
      have HC' := Lib.hid hc'
      clear hc hc' lx ly hx hy
      go_enter Try.func29, Try.ntmps29
      go_wp2
      go_loopw [5] (fun i wr => ∃ k q : Nat, k ≤ n ∧ i = .int .i64 k ∧ (∀ j, j < k → xs[j]? = ys[j]?) ∧ wr = w.drewN q) (fun i _ => n - (intOf i).toNat)
      case atStart => exact ⟨0, 0, by omega, rfl, fun j hj => absurd hj (by omega), rfl⟩
      case round =>
        obtain ⟨k, q, hk, rfl, hs, rfl⟩ := hrel
        have HS := Lib.hid hs
        clear hs
        by_cases hlt : k < n
        · obtain ⟨x, ex⟩ : ∃ x, xs[k]? = some x := ⟨_, List.getElem?_eq_getElem (by have := LX.out; omega)⟩
          obtain ⟨y, ey⟩ : ∃ y, ys[k]? = some y := ⟨_, List.getElem?_eq_getElem (by have := LY.out; omega)⟩
          have c1 : w.cell? ⟨b, off + k, none⟩ = some (.int .i64 x) := HC.out k _ (I64_get ex)
          have c2 : w.cell? ⟨b', off' + k, none⟩ = some (.int .i64 y) := HC'.out k _ (I64_get ey)
          have EX := Lib.hid ex
          have EY := Lib.hid ey
          clear ex ey
          have hkn : (k : Int) < n := by omega
          have hk0 : (0 : Int) ≤ k := by omega
          by_cases hxy : x = y
          · subst hxy
            go_wp2_with fail
            go_quiet (fail)
            go_wp2
            go_roundw
            case rel =>
              refine ⟨k + 1, q + nq, by omega, by go_num, fun j hj => ?_, rfl⟩
              rcases Nat.lt_or_ge j k with h | h
              · exact HS.out j h
              · obtain rfl : j = k := by omega
                rw [EX.out, EY.out]
            case measure => simp [intOf]; omega
          · have hne : (x != y) = true := by rw [bne_iff_ne]; exact hxy
            have HD := Lib.hid (lists_differ EX.out EY.out hxy)
            clear hxy
            go_wp2_with fail
            go_quiet (fail)
            go_wp2
            go_ret
            exact ⟨ret_bool (by simp [HD.out]), q + nq, by first | rfl | rw [World.drewN_drewN]⟩
        · have hkn : k = n := by omega
          have HK := Lib.hid hkn
          clear hkn
          go_wp2
          go_ret
          exact ⟨ret_bool (by simp [lists_meet LX.out LY.out (by have := HS.out; rwa [HK.out] at this)]), _, rfl⟩
  · have hne : xs ≠ ys := by rintro rfl; omega
    have HN := Lib.hid hne
    have hb : ((n : Int) != (m : Int)) = true := by rw [bne_iff_ne]; omega
    clear hne hnm lx ly
    go_enter Try.func29, Try.ntmps29
    go_wp2
    go_ret
    exact ⟨ret_bool (by simp [HN.out]), 0, rfl⟩
/-- What a call returns: a slice of ints of the call's own memory, from block B on; nothing below has turned. -/
def OwnInts (B : Nat) (xs : List Int) (w : World) (e : Ending) (w' : World) : Prop :=
  ∃ A c, e = .returned (.slice A xs.length c) ∧ w'.ownsRow B 3 1 (.slice A xs.length c) xs.length (I64 xs) ∧ Below B w w'
theorem ownInts_mk {B : Nat} {xs : List Int} {w w' : World} {v : Value} (h : w'.ownsRow B 3 1 v xs.length (xs.map (.int .i64))) (hb : Below B w w') : OwnInts B xs w (.returned v) w' := by
  obtain ⟨A, c, rfl, _⟩ := Rd.of_own h
  exact ⟨A, c, rfl, h, hb⟩

theorem ownInts_n {B n : Nat} {xs : List Int} {w w' : World} {e : Ending} (h : OwnInts B xs w e w') (hn : xs.length = n) :
    ∃ A c, e = .returned (.slice A n c) ∧ w'.ownsRow B 3 1 (.slice A n c) n (I64 xs) ∧ Below B w w' := by
  subst hn
  exact h

/-- The numbers k, k + 1, .. that the laws write into what they were given. -/
def marks (k : Int) (n : Nat) : List Int := (List.range n).map fun (i : Nat) => k + (i : Int)
theorem marks_len (k : Int) (n : Nat) : (marks k n).length = n := by simp [marks]
theorem marks_get (k : Int) (n i : Nat) (h : i < n) : (marks k n)[i]? = some (k + i) := by simp [marks, h]

set_option maxHeartbeats 1000000 in
theorem laws_heldIntS (A : Option Addr) (n c B : Nat) (k : Int) (w : World) (hx : Rd w B A n (I64 (marks k n))) (hn : n ≤ 1000000000000) (hk0 : 0 ≤ k) (hk1 : k ≤ 1000000000000) :
    Calls Try.prog 25 #[.slice A n c, .int .i64 k] w fun e w' => e = .returned (.int .i64 (k + n)) ∧ w = w' := by
  rcases Nat.eq_zero_or_pos n with h0 | h0
  · subst h0
    go_enter Try.func25, Try.ntmps25
    go_wp2
    refine wp_loop_rounds 1 ?_
    rw [rounds_succ]
    go_wp2
    go_ret
    exact ⟨ret_int (by omega), rfl⟩
  · obtain ⟨b, off, rfl, _, hc⟩ := hx.pos h0
    have HC := Lib.hid hc
    clear hc hx
    go_enter Try.func25, Try.ntmps25
    go_wp2
    go_loop [1, 5] (fun v i => ∃ j : Nat, j ≤ n ∧ i = .int .i64 j ∧ v = .int .i64 (k + j)) (fun _ i => n - (intOf i).toNat)
    case atStart => exact ⟨0, by omega, rfl, by go_num⟩
    case round =>
      obtain ⟨j, hj, rfl, rfl⟩ := hrel
      by_cases hlt : j < n
      · have c1 : w.cell? ⟨b, off + j, none⟩ = some (.int .i64 (k + j)) := HC.out j _ (I64_get (marks_get k n j hlt))
        go_wp2
        go_round
        case rel => exact ⟨j + 1, by omega, by go_num, by go_num⟩
        case measure => simp [intOf]; omega
      · have hjn : j = n := by omega
        subst hjn
        go_wp2
        go_ret
        exact ⟨ret_int rfl, rfl⟩
set_option maxHeartbeats 1000000 in
theorem laws_markIntS (base n c : Nat) (v : Value) (xs : List Value) (k : Int) (w : World) (A : Option Addr) (hv : v = .slice A n c) (hown : w.ownsRow base 3 1 v n xs) (hn : n ≤ 1000000000000) (hk0 : 0 ≤ k) (hk1 : k ≤ 1000000000000) :
    Calls Try.prog 24 #[.slice A n c, .int .i64 k] w fun e w' => e = .returned (.int .i64 (k + n)) ∧ w'.ownsRow base 3 1 v n (I64 (marks k n)) ∧ w.grownBy w' v.ownBlock := by
  subst hv
  rcases Nat.eq_zero_or_pos n with h0 | h0
  · subst h0
    have hx : xs = [] := List.eq_nil_of_length_eq_zero (by simpa using hown.1)
    subst hx
    go_enter Try.func24, Try.ntmps24
    go_wp2
    refine wp_loop_rounds 1 ?_
    rw [rounds_succ]
    go_wp2
    go_ret
    exact ⟨ret_int (by omega), hown, World.grownBy.refl w _⟩
  · obtain ⟨g, c', hv, hg0, hg1⟩ := own_lt hown h0
    injection hv with h1 h2 h3
    subst h1
    have hl := hown.1
    have HL := Lib.hid hl
    clear hl h3
    go_enter Try.func24, Try.ntmps24
    go_wp2
    go_loopw [1, 5] (fun v i wr => ∃ (j : Nat) (ys : List Value), j ≤ n ∧ i = .int .i64 j ∧ v = .int .i64 (k + j) ∧ ys.length = n ∧ (∀ t, t < j → ys[t]? = some (.int .i64 (k + t))) ∧ wr.ownsRow base 3 1 (.slice (some ⟨g, 0, none⟩) n c) n ys ∧ w.grownBy wr (some g)) (fun _ i _ => n - (intOf i).toNat)
    case atStart => exact ⟨0, xs, by omega, rfl, by go_num, by have := HL.out; omega, fun t ht => absurd ht (by omega), hown, World.grownBy.refl w _⟩
    case round =>
      obtain ⟨j, ys, hj, rfl, rfl, hyl, hys, hown1, hgr⟩ := hrel
      have HY := Lib.hid hys
      have HYL := Lib.hid hyl
      clear hys hyl
      by_cases hlt : j < n
      · have c1 : wr.cell? ⟨g, j, none⟩ = some (ys[j]'(by have := HYL.out; omega)) := by rw [hown1.cellAt j (by omega)]; exact List.getElem?_eq_getElem _
        have f1 : wr.frozen? ⟨g, j, none⟩ = false := hown1.frozenAt j
        have hst := hown1.stored j (.int .i64 (k + j))
        have HST := Lib.hid hst
        clear hst
        go_wp2
        go_roundw
        case rel =>
          refine ⟨j + 1, ys.set j (.int .i64 (k + j)), by omega, by go_num, by go_num, by simp [HYL.out], fun t ht => ?_, HST.out.1, hgr.trans HST.out.2⟩
          rw [List.getElem?_set]
          split
          · rename_i e; subst e; rw [if_pos (by have := HYL.out; omega)]
          · exact HY.out t (by omega)
        case measure => simp [intOf]; omega
      · have hjn : j = n := by omega
        subst hjn
        have hfin : ys = I64 (marks k j) := by
          apply List.ext_getElem?
          intro i
          rcases Nat.lt_or_ge i j with hi | hi
          · rw [HY.out i hi, I64_get (marks_get k j i hi)]
          · rw [List.getElem?_eq_none (by have := HYL.out; omega), List.getElem?_eq_none (by rw [I64_len, marks_len]; omega)]
        have HF := Lib.hid hfin
        clear hfin
        go_wp2
        go_ret
        exact ⟨ret_int rfl, by rw [← HF.out]; exact hown1, hgr⟩
theorem rd_own {w : World} {base : Nat} {e : TypeId} {A : Option Addr} {n c : Nat} {xs : List Value} (h : w.ownsRow base e 1 (.slice A n c) n xs) : Rd w w.heap.size A n xs := by
  obtain ⟨A', c', e0, _, _, r⟩ := Rd.of_own h
  injection e0 with e1 e2 e3
  subst e1
  exact r
theorem grown_below {w w' : World} {base n : Nat} {e : TypeId} {size : Nat} {v : Value} {xs : List Value} (h : w.ownsRow base e size v n xs) (hb : base ≤ w.heap.size) (hg : w.grownBy w' v.ownBlock) : Below base w w' :=
  (Below.refl base w).grown hg hb (fun k hk => (h.lt k hk).1)
end Go.Proofs.Ytnjcephddilalab
