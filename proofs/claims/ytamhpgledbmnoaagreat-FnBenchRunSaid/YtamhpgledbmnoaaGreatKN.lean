/-
  Benches: how they read, whether they are valid, how the laws weigh, copy and compare them.
  Conditions: as stated at each.
-/
import Derived.Test.YtamhpgledbmnoaaGreatKP
import Derived.Test.YtamhpgledbmnoaaGreatKE
import Derived.Test.YtamhpgledbmnoaaGreatKT
import Derived.Test.YtamhpgledbmnoaaGreatKV
import Derived.Lib.SmallJoins
namespace Go.Proofs.YtamhpgledbmnoaaGreat.Pl
set_option linter.unusedVariables false
/-- A bench: a width, two words, an expression, the texts of before. -/
structure Bn where
  k : Int
  x : Int
  y : Int
  e : List Int
  past : List (List UInt8)
deriving DecidableEq
def isTxt (s : List UInt8) : Bool := (readE s).isSome
def benchValid (b : Bn) : Bool := (v2 b.k b.x b.y && exprValid b.e && decide (b.past.length ≤ 20)) && b.past.all isTxt
theorem all_f {ts : List (List UInt8)} {j : Nat} {s : List UInt8} (h : ts[j]? = some s) (hs : isTxt s = false) : ts.all isTxt = false := by
  rw [List.all_eq_false]
  exact ⟨s, List.mem_of_getElem? h, by rw [hs]; decide⟩
theorem all_t {ts : List (List UInt8)} (h : ∀ t, t < ts.length → ∀ s, ts[t]? = some s → isTxt s = true) : ts.all isTxt = true := by
  rw [List.all_eq_true]
  intro s hs
  obtain ⟨j, hj, rfl⟩ := List.mem_iff_getElem.1 hs
  exact h j hj _ (List.getElem?_eq_getElem hj)
theorem bv_f {b : Bn} (h : (v2 b.k b.x b.y && exprValid b.e && decide (b.past.length ≤ 20)) = false) : benchValid b = false := by unfold benchValid; rw [h]; rfl
theorem bv_t {b : Bn} (h : (v2 b.k b.x b.y && exprValid b.e && decide (b.past.length ≤ 20)) = true) : benchValid b = b.past.all isTxt := by unfold benchValid; rw [h]; rfl
theorem bv_all {b : Bn} (h : b.past.all isTxt = false) : benchValid b = false := by unfold benchValid; rw [h, Bool.and_false]
theorem bv_past {b : Bn} (h : b.past.all isTxt = true) : benchValid b = (v2 b.k b.x b.y && exprValid b.e && decide (b.past.length ≤ 20)) := by unfold benchValid; rw [h, Bool.and_true]
theorem bv_parts {b : Bn} (h : benchValid b = true) : v2 b.k b.x b.y = true ∧ exprValid b.e = true ∧ b.past.length ≤ 20 ∧ b.past.all isTxt = true := by
  unfold benchValid at h
  simp only [Bool.and_eq_true, decide_eq_true_eq] at h
  exact ⟨h.1.1.1, h.1.1.2, h.1.2, h.2⟩
/-- The texts of before, with one more behind; the first one is gone if there are more than 20. -/
def pushP (ps : List (List UInt8)) (t : List UInt8) : List (List UInt8) := if 20 < ps.length + 1 then (ps ++ [t]).drop 1 else ps ++ [t]
/-- A bench with another expression. -/
def setB (b : Bn) (e : List Int) : Bn := ⟨b.k, b.x, b.y, e, pushP b.past (exprText b.e)⟩
theorem pushP_t {ps : List (List UInt8)} {t : List UInt8} (h : 20 < ps.length + 1) : pushP ps t = (ps ++ [t]).drop 1 := by unfold pushP; rw [if_pos h]
theorem pushP_f {ps : List (List UInt8)} {t : List UInt8} (h : ¬ 20 < ps.length + 1) : pushP ps t = ps ++ [t] := by unfold pushP; rw [if_neg h]
def benchValue (b : Bn) : Int := if benchValid b = true then value b.k b.e b.x b.y else -1
theorem bval_t {b : Bn} (h : benchValid b = true) : benchValue b = value b.k b.e b.x b.y := by unfold benchValue; rw [if_pos h]
theorem bval_f {b : Bn} (h : benchValid b = false) : benchValue b = -1 := by unfold benchValue; rw [h]; rfl
theorem bval_o {b : Bn} (h : benchValid b = true) : valueOf b.k b.e b.x b.y = benchValue b := by
  obtain ⟨h1, h2, _⟩ := bv_parts h
  rw [bval_t h, valueOf_t h2 h1]
/-- A deed: its kind, its number, its text. -/
structure Dd where
  k : Int
  n : Int
  t : List UInt8
deriving DecidableEq
def zeroB : Bn := ⟨0, 0, 0, [], []⟩
/-- The bench that a deed leads to, if it can be done. -/
def stepB (b : Bn) (d : Dd) : Option Bn :=
  if d.k = 0 then (if d.t = [] ∧ wvB b.k d.n = true then some ⟨b.k, d.n, b.y, b.e, b.past⟩ else none)
  else if d.k = 1 then (if d.t = [] ∧ wvB b.k d.n = true then some ⟨b.k, b.x, d.n, b.e, b.past⟩ else none)
  else if d.k = 2 then (if d.n = 0 then (readE d.t).bind (fun e => if e = b.e then none else some (setB b e)) else none)
  else if d.k = 3 then (if d.n = 0 ∧ d.t = [] then (if exprSimple b.e = b.e then none else some (setB b (exprSimple b.e))) else none)
  else if d.k = 4 then (if d.n = 0 ∧ d.t = [] then (shortFor b.e).bind (fun e => if e = b.e then none else some (setB b e)) else none)
  else if d.k = 5 then (if d.n = 0 ∧ d.t = [] then b.past.getLast?.map (fun s => ⟨b.k, b.x, b.y, (readE s).getD [], b.past.dropLast⟩) else none)
  else none
/-- The bench after a deed, and whether it was done. -/
def doB (b : Bn) (d : Dd) : Bn × Bool := if benchValid b = true then (match stepB b d with | some b' => (b', true) | none => (b, false)) else (zeroB, false)
theorem doB_f {b : Bn} {d : Dd} (h : benchValid b = false) : doB b d = (zeroB, false) := by unfold doB; rw [h]; rfl
theorem doB_some {b b' : Bn} {d : Dd} (h : benchValid b = true) (h' : stepB b d = some b') : doB b d = (b', true) := by unfold doB; rw [if_pos h, h']
theorem doB_none {b : Bn} {d : Dd} (h : benchValid b = true) (h' : stepB b d = none) : doB b d = (b, false) := by unfold doB; rw [if_pos h, h']
end Go.Proofs.YtamhpgledbmnoaaGreat.Pl
namespace Go.Proofs.YtamhpgledbmnoaaGreat
set_option linter.unusedVariables false
set_option linter.unusedSimpArgs false
open Go.RowKit

/-- A bench as a value. -/
def benchV (W X Y : Int) (A : Option Addr) (n c : Nat) (P : Option Addr) (pn pc : Nat) : Value := .agg #[.int .i64 W, .int .i64 X, .int .i64 Y, .slice A n c, .slice P pn pc]
/-- The numbers of a new bench's expression. -/
def newE (k : Int) : List Int := if 1 ≤ k ∧ k ≤ 12 then [10] else []
def newW (k : Int) : Int := if 1 ≤ k ∧ k ≤ 12 then k else 0
def OutBn (k : Int) (w : World) (e : Ending) (w' : World) : Prop :=
  ∃ A c P pc, e = .returned (benchV (newW k) 0 0 A (newE k).length c P 0 pc) ∧ w'.ownsRow w.heap.size 3 1 (.slice A (newE k).length c) (newE k).length (I64 (newE k)) ∧ Below w.heap.size w w'
set_option maxHeartbeats 1000000 in
theorem spec_BenchNew (k : Int) (w : World) : Calls Tryz.prog 75 #[.int .i64 k] w (OutBn k w) := by
  by_cases h : 1 ≤ k ∧ k ≤ 12
  · have h1 := Lib.hid (show newE k = [10] by unfold newE; rw [if_pos h])
    have h2 := Lib.hid (show newW k = k by unfold newW; rw [if_pos h])
    obtain ⟨k0, k1⟩ := h
    go_enter Tryz.func75, Tryz.ntmps75
    go_wp2_with (first | (go_at_call 66; refine (spec_l1In_t _ _ _ _ (by omega)).mono ?_; rintro e w' ⟨rfl, rfl⟩) | go_in)
    refine bodyPost_ret (v := benchV k 0 0 (some ⟨w.heap.size + 1, 0, none⟩) 1 1 (some ⟨w.heap.size + 2, 0, none⟩) 0 0) (by simp [results, Tryz.results75, benchV, go_sem]) rfl ?_
    unfold OutBn
    rw [h1.out, h2.out]
    refine ⟨_, _, _, _, rfl, ?_, by go_grown⟩
    have h := World.ownsRow_lit (base := w.heap.size) (e := 3) (size := 1) (w.alloc (.cells #[.int .i64 k, .int .i64 0, .int .i64 0, .slice (some ⟨w.heap.size + 1, 0, none⟩) 1 1, .slice (some ⟨w.heap.size + 2, 0, none⟩) 0 0] 30)) #[.int .i64 10] 1 (by simp) (by simp [maxLen]) rfl
    have h' : (w.alloc (.cells #[.int .i64 k, .int .i64 0, .int .i64 0, .slice (some ⟨w.heap.size + 1, 0, none⟩) 1 1, .slice (some ⟨w.heap.size + 2, 0, none⟩) 0 0] 30)).heap.size = w.heap.size + 1 := by simp
    rw [h'] at h
    exact h.alloc _
  · have h1 := Lib.hid (show newE k = [] by unfold newE; rw [if_neg h])
    have h2 := Lib.hid (show newW k = 0 by unfold newW; rw [if_neg h])
    go_enter Tryz.func75, Tryz.ntmps75
    go_wp2_with (first | (go_at_call 66; refine (spec_l1In_f _ _ _ _ (by omega)).mono ?_; rintro e w' ⟨rfl, rfl⟩) | go_in)
    refine bodyPost_ret (v := benchV 0 0 0 none 0 0 none 0 0) (by simp [results, Tryz.results75, benchV, go_sem]) rfl ?_
    unfold OutBn
    rw [h1.out, h2.out]
    exact ⟨_, _, _, _, rfl, World.ownsRow_nil _ _ _ _, by go_grown⟩
end Go.Proofs.YtamhpgledbmnoaaGreat
namespace Go.Proofs.YtamhpgledbmnoaaGreat
set_option linter.unusedVariables false
set_option linter.unusedSimpArgs false
open Go.RowKit
/-- Texts as values. -/
def Tx (ts : List (List UInt8)) : List Value := ts.map fun s => .string (Ba s)
theorem Tx_len (ts : List (List UInt8)) : (Tx ts).length = ts.length := by simp [Tx]
theorem Tx_get {ts : List (List UInt8)} {j : Nat} {s : List UInt8} (h : ts[j]? = some s) : (Tx ts)[j]? = some (.string (Ba s)) := by simp [Tx, h]
theorem Tx_append (a b : List (List UInt8)) : Tx (a ++ b) = Tx a ++ Tx b := by simp [Tx]
theorem texts_differ {xs ys : List (List UInt8)} {k : Nat} {x y : List UInt8} (hx : xs[k]? = some x) (hy : ys[k]? = some y) (h : x ≠ y) : xs ≠ ys := by
  rintro rfl
  rw [hx] at hy
  exact h (by injection hy)
theorem texts_meet {xs ys : List (List UInt8)} {n : Nat} (hx : xs.length = n) (hy : ys.length = n) (h : ∀ j, j < n → xs[j]? = ys[j]?) : xs = ys := by
  apply List.ext_getElem?
  intro i
  rcases Nat.lt_or_ge i n with hi | hi
  · exact h i hi
  · rw [List.getElem?_eq_none (by omega), List.getElem?_eq_none (by omega)]
theorem str_info : (Tryz.prog.info? 9).map (fun i => (i.zero, i.size, i.bytes)) = some (some (.string ByteArray.empty), 1, 16) := by kernel_rfl
/-- A slice of texts of the call's own. -/
def OwnTx (B : Nat) (ts : List (List UInt8)) (w : World) (e : Ending) (w' : World) : Prop :=
  ∃ A c, e = .returned (.slice A ts.length c) ∧ w'.ownsRow B 9 1 (.slice A ts.length c) ts.length (Tx ts) ∧ Below B w w'
theorem ownTx_mk {B : Nat} {ts : List (List UInt8)} {w w' : World} {v : Value} (h : w'.ownsRow B 9 1 v ts.length (Tx ts)) (hb : Below B w w') : OwnTx B ts w (.returned v) w' := by
  obtain ⟨A, c, rfl, _⟩ := Rd.of_own h
  exact ⟨A, c, rfl, h, hb⟩
theorem ownTx_n {B n : Nat} {ts : List (List UInt8)} {w w' : World} {e : Ending} (h : OwnTx B ts w e w') (hn : ts.length = n) :
    ∃ A c, e = .returned (.slice A n c) ∧ w'.ownsRow B 9 1 (.slice A n c) n (Tx ts) ∧ Below B w w' := by
  subst hn
  exact h
set_option maxHeartbeats 1000000 in
theorem laws_eqStringS (A A' : Option Addr) (n m c c' B : Nat) (xs ys : List (List UInt8)) (w : World) (hx : Rd w B A n (Tx xs)) (hy : Rd w B A' m (Tx ys)) (hn : n ≤ 1000000000000) (hm : m ≤ 1000000000000) :
    Calls Tryz.prog 41 #[.slice A n c, .slice A' m c'] w fun e w' => e = .returned (.bool (decide (xs = ys))) ∧ ∃ q, w' = w.drewN q := by
  have lx : xs.length = n := by have := hx.len; rwa [Tx_len] at this
  have ly : ys.length = m := by have := hy.len; rwa [Tx_len] at this
  by_cases hnm : n = m
  · subst hnm
    rcases Nat.eq_zero_or_pos n with h0 | h0
    · subst h0
      have he : xs = ys := by rw [List.eq_nil_of_length_eq_zero lx, List.eq_nil_of_length_eq_zero ly]
      have HE := Lib.hid he
      clear he lx ly
      go_enter Tryz.func41, Tryz.ntmps41
      go_wp2
      refine wp_loop_rounds 1 ?_
      rw [rounds_succ]
      go_wp2
      go_ret
      exact ⟨ret_bool (by simp [HE.out]), 0, rfl⟩
    · obtain ⟨b, off, rfl, _, hc⟩ := hx.pos h0
      obtain ⟨b', off', rfl, _, hc'⟩ := hy.pos h0
      have LX := Lib.hid lx
      have LY := Lib.hid ly
      have HC := Lib.hid hc
      have HC' := Lib.hid hc'
      clear hc hc' lx ly hx hy
      go_enter Tryz.func41, Tryz.ntmps41
      go_wp2
      go_loopw [5] (fun i wr => ∃ k q : Nat, k ≤ n ∧ i = .int .i64 k ∧ (∀ j, j < k → xs[j]? = ys[j]?) ∧ wr = w.drewN q) (fun i _ => n - (intOf i).toNat)
      case atStart => exact ⟨0, 0, by omega, rfl, fun j hj => absurd hj (by omega), rfl⟩
      case round =>
        obtain ⟨k, q, hk, rfl, hs, rfl⟩ := hrel
        have HS := Lib.hid hs
        clear hs
        by_cases hlt : k < n
        · obtain ⟨x, ex⟩ : ∃ x, xs[k]? = some x := ⟨_, List.getElem?_eq_getElem (by have := LX.out; omega)⟩
          obtain ⟨y, ey⟩ : ∃ y, ys[k]? = some y := ⟨_, List.getElem?_eq_getElem (by have := LY.out; omega)⟩
          have c1 : w.cell? ⟨b, off + k, none⟩ = some (.string (Ba x)) := HC.out k _ (Tx_get ex)
          have c2 : w.cell? ⟨b', off' + k, none⟩ = some (.string (Ba y)) := HC'.out k _ (Tx_get ey)
          have EX := Lib.hid ex
          have EY := Lib.hid ey
          clear ex ey
          have hkn : (k : Int) < n := by omega
          have hk0 : (0 : Int) ≤ k := by omega
          by_cases hxy : x = y
          · subst hxy
            go_wp2_with fail
            go_quiet (fail)
            go_wp2
            go_roundw
            case rel =>
              refine ⟨k + 1, q + nq, by omega, by go_num, fun j hj => ?_, rfl⟩
              rcases Nat.lt_or_ge j k with h | h
              · exact HS.out j h
              · obtain rfl : j = k := by omega
                rw [EX.out, EY.out]
            case measure => simp [intOf]; omega
          · have hne := Ba_ne hxy
            have HD := Lib.hid (texts_differ EX.out EY.out hxy)
            clear hxy
            go_wp2_with fail
            go_quiet (fail)
            go_wp2
            go_ret
            exact ⟨ret_bool (by simp [HD.out]), q + nq, by first | rfl | rw [World.drewN_drewN]⟩
        · have hkn : k = n := by omega
          have HK := Lib.hid hkn
          clear hkn
          go_wp2
          go_ret
          exact ⟨ret_bool (by simp [texts_meet LX.out LY.out (by have := HS.out; rwa [HK.out] at this)]), _, rfl⟩
  · have hne : xs ≠ ys := by rintro rfl; omega
    have HN := Lib.hid hne
    have hb : ((n : Int) != (m : Int)) = true := by rw [bne_iff_ne]; omega
    clear hne hnm lx ly
    go_enter Tryz.func41, Tryz.ntmps41
    go_wp2
    go_ret
    exact ⟨ret_bool (by simp [HN.out]), 0, rfl⟩
set_option maxHeartbeats 1000000 in
theorem laws_sameTexts (A A' : Option Addr) (n m c c' B : Nat) (xs ys : List (List UInt8)) (w : World) (hx : Rd w B A n (Tx xs)) (hy : Rd w B A' m (Tx ys)) (hn : n ≤ 1000000000000) (hm : m ≤ 1000000000000) :
    Calls Tryz.prog 51 #[.slice A n c, .slice A' m c'] w fun e w' => e = .returned (.bool (decide (xs = ys))) ∧ ∃ q, w' = w.drewN q := by
  have lx : xs.length = n := by have := hx.len; rwa [Tx_len] at this
  have ly : ys.length = m := by have := hy.len; rwa [Tx_len] at this
  by_cases hnm : n = m
  · subst hnm
    rcases Nat.eq_zero_or_pos n with h0 | h0
    · subst h0
      have he : xs = ys := by rw [List.eq_nil_of_length_eq_zero lx, List.eq_nil_of_length_eq_zero ly]
      have HE := Lib.hid he
      clear he lx ly
      go_enter Tryz.func51, Tryz.ntmps51
      go_wp2
      refine wp_loop_rounds 1 ?_
      rw [rounds_succ]
      go_wp2
      go_ret
      exact ⟨ret_bool (by simp [HE.out]), 0, rfl⟩
    · obtain ⟨b, off, rfl, _, hc⟩ := hx.pos h0
      obtain ⟨b', off', rfl, _, hc'⟩ := hy.pos h0
      have LX := Lib.hid lx
      have LY := Lib.hid ly
      have HC := Lib.hid hc
      have HC' := Lib.hid hc'
      clear hc hc' lx ly hx hy
      go_enter Tryz.func51, Tryz.ntmps51
      go_wp2
      go_loopw [5] (fun i wr => ∃ k q : Nat, k ≤ n ∧ i = .int .i64 k ∧ (∀ j, j < k → xs[j]? = ys[j]?) ∧ wr = w.drewN q) (fun i _ => n - (intOf i).toNat)
      case atStart => exact ⟨0, 0, by omega, rfl, fun j hj => absurd hj (by omega), rfl⟩
      case round =>
        obtain ⟨k, q, hk, rfl, hs, rfl⟩ := hrel
        have HS := Lib.hid hs
        clear hs
        by_cases hlt : k < n
        · obtain ⟨x, ex⟩ : ∃ x, xs[k]? = some x := ⟨_, List.getElem?_eq_getElem (by have := LX.out; omega)⟩
          obtain ⟨y, ey⟩ : ∃ y, ys[k]? = some y := ⟨_, List.getElem?_eq_getElem (by have := LY.out; omega)⟩
          have c1 : w.cell? ⟨b, off + k, none⟩ = some (.string (Ba x)) := HC.out k _ (Tx_get ex)
          have c2 : w.cell? ⟨b', off' + k, none⟩ = some (.string (Ba y)) := HC'.out k _ (Tx_get ey)
          have EX := Lib.hid ex
          have EY := Lib.hid ey
          clear ex ey
          have hkn : (k : Int) < n := by omega
          have hk0 : (0 : Int) ≤ k := by omega
          by_cases hxy : x = y
          · subst hxy
            go_wp2_with fail
            go_quiet (fail)
            go_wp2
            go_roundw
            case rel =>
              refine ⟨k + 1, q + nq, by omega, by go_num, fun j hj => ?_, rfl⟩
              rcases Nat.lt_or_ge j k with h | h
              · exact HS.out j h
              · obtain rfl : j = k := by omega
                rw [EX.out, EY.out]
            case measure => simp [intOf]; omega
          · have hne := Ba_ne hxy
            have HD := Lib.hid (texts_differ EX.out EY.out hxy)
            clear hxy
            go_wp2_with fail
            go_quiet (fail)
            go_wp2
            go_ret
            exact ⟨ret_bool (by simp [HD.out]), q + nq, by first | rfl | rw [World.drewN_drewN]⟩
        · have hkn : k = n := by omega
          have HK := Lib.hid hkn
          clear hkn
          go_wp2
          go_ret
          exact ⟨ret_bool (by simp [texts_meet LX.out LY.out (by have := HS.out; rwa [HK.out] at this)]), _, rfl⟩
  · have hne : xs ≠ ys := by rintro rfl; omega
    have HN := Lib.hid hne
    have hb : ((n : Int) != (m : Int)) = true := by rw [bne_iff_ne]; omega
    clear hne hnm lx ly
    go_enter Tryz.func51, Tryz.ntmps51
    go_wp2
    go_ret
    exact ⟨ret_bool (by simp [HN.out]), 0, rfl⟩
set_option maxHeartbeats 1000000 in
theorem laws_toStringS (A : Option Addr) (n c B : Nat) (xs : List (List UInt8)) (w : World) (hx : Rd w B A n (Tx xs)) (hB : B ≤ w.heap.size) (hn : n ≤ 1000000000000) :
    Calls Tryz.prog 37 #[.slice A n c] w (OwnTx w.heap.size xs w) := by
  have lx : xs.length = n := by have := hx.len; rwa [Tx_len] at this
  have hX := Lib.hid hx
  have hL := Lib.hid lx
  clear hx lx
  obtain ⟨i0, hi0, hz0, hz1, hz2⟩ := info_parts str_info
  obtain ⟨w1, hrun, hown, hg⟩ := run_make_full (P := Tryz.prog) w w.heap.size 23 9 i0 _ 1 Tryz.underlying23 hi0 hz0 hz1 .i64 .i64 n (by rw [hz2]; omega) (by unfold maxLen; omega) (Nat.le_refl _)
  clear hi0 hz0 hz1 hz2
  have hz := hg.size
  go_enter Tryz.func37, Tryz.ntmps37
  go_wp2
  go_loopw [4] (fun i wr => ∃ (j : Nat) (ys : List Value), j ≤ n ∧ i = .int .i64 j ∧ ys.length = n ∧ (∀ t, t < j → ys[t]? = (Tx xs)[t]?) ∧ wr.ownsRow w.heap.size 9 1 (.slice (some ⟨w.heap.size, 0, none⟩) n n) n ys ∧ Below w.heap.size w wr) (fun i _ => n - (intOf i).toNat)
  case atStart => exact ⟨0, _, by omega, rfl, by simpa using hown.1, fun t ht => absurd ht (by omega), hown, (Below.refl _ _).grown hg (Nat.le_refl _) (fun k hk => by cases hk)⟩
  case round =>
    obtain ⟨j, ys, hj, rfl, hyl, hys, hown1, hb⟩ := hrel
    have HY := Lib.hid hys
    have HYL := Lib.hid hyl
    clear hys hyl
    by_cases hlt : j < n
    · obtain ⟨b, off, rfl, hbl, hc⟩ := hX.out.pos (by omega)
      obtain ⟨x, ex⟩ : ∃ x, xs[j]? = some x := ⟨_, List.getElem?_eq_getElem (by have := hL.out; omega)⟩
      have c0 : w.cell? ⟨b, off + j, none⟩ = some (.string (Ba x)) := hc j _ (Tx_get ex)
      have c1 : wr.cell? ⟨b, off + j, none⟩ = some (.string (Ba x)) := (hb.cell (p := ⟨b, off + j, none⟩) (show b < w.heap.size by omega)).trans c0
      have c2 : wr.cell? ⟨w.heap.size, j, none⟩ = some (ys[j]'(by have := HYL.out; omega)) := by rw [hown1.cellAt j (by omega)]; exact List.getElem?_eq_getElem _
      have f1 : wr.frozen? ⟨w.heap.size, j, none⟩ = false := hown1.frozenAt j
      have EX := Lib.hid ex
      have HC := Lib.hid hc
      have hin : (j : Int) < (n : Int) := by omega
      have hj0 : (0 : Int) ≤ j := by omega
      have hst := hown1.stored j (.string (Ba x))
      have HST := Lib.hid hst
      clear hst ex hc c0
      go_wp2
      go_roundw
      case rel =>
        refine ⟨j + 1, ys.set j (.string (Ba x)), by omega, by go_num, by simp [HYL.out], fun t ht => ?_, HST.out.1, (hb.grown HST.out.2 hb.size (fun k hk => by simp [Value.ownBlock] at hk; omega))⟩
        rw [List.getElem?_set]
        split
        · rename_i e; subst e; rw [if_pos (by have := HYL.out; omega), Tx_get EX.out]
        · exact HY.out t (by omega)
      case measure => simp [intOf]; omega
    · have hjn : j = n := by omega
      subst hjn
      have hfin : ys = Tx xs := by
        apply List.ext_getElem?
        intro i
        rcases Nat.lt_or_ge i j with hi | hi
        · exact HY.out i hi
        · rw [List.getElem?_eq_none (by have := HYL.out; omega), List.getElem?_eq_none (by rw [Tx_len]; have := hL.out; omega)]
      have HF := Lib.hid hfin
      clear hfin
      go_wp2
      go_ret
      have h1 := hL.out
      subst h1
      exact ⟨_, _, rfl, by rw [← HF.out]; exact hown1, hb⟩
/-- How many letters texts have together. -/
def lens (ts : List (List UInt8)) : Int := ((ts.map List.length).sum : Nat)
theorem lens_nonneg (ts : List (List UInt8)) : 0 ≤ lens ts := by unfold lens; omega
theorem lens_snoc {ts : List (List UInt8)} {j : Nat} {s : List UInt8} (h : ts[j]? = some s) : lens (ts.take (j + 1)) = lens (ts.take j) + s.length := by
  unfold lens
  rw [List.take_add_one, h]
  simp
theorem lens_take (ts : List (List UInt8)) (j : Nat) : lens (ts.take j) ≤ lens ts := by
  have h : lens ts = lens (ts.take j) + lens (ts.drop j) := by
    unfold lens
    rw [← Int.natCast_add, ← List.sum_append_nat, ← List.map_append, List.take_append_drop]
  have := lens_nonneg (ts.drop j)
  omega
theorem lens_mem {ts : List (List UInt8)} {s : List UInt8} (h : s ∈ ts) : (s.length : Int) ≤ lens ts := by
  obtain ⟨j, hj, rfl⟩ := List.mem_iff_getElem.1 h
  have h1 := lens_snoc (List.getElem?_eq_getElem hj)
  have h2 := lens_take ts (j + 1)
  have h3 := lens_nonneg (ts.take j)
  omega
/-- What is left of a measure. -/
def szT (left : Int) (ts : List (List UInt8)) : Int := if left - ts.length - lens ts < 0 then -1 else left - ts.length - lens ts
set_option maxHeartbeats 1000000 in
theorem laws_szStringS (A : Option Addr) (n c B : Nat) (ts : List (List UInt8)) (left : Int) (w : World) (hx : Rd w B A n (Tx ts)) (h0 : 0 ≤ left) (h1 : left ≤ 1048576) (hn : n ≤ maxLen) (hs : ∀ s ∈ ts, s.length ≤ maxLen) :
    Calls Tryz.prog 28 #[.slice A n c, .int .i64 left] w fun e w' => e = .returned (.int .i64 (szT left ts)) ∧ w = w' := by
  have lx : ts.length = n := by have := hx.len; rwa [Tx_len] at this
  unfold maxLen at hn hs
  have hl0 := lens_nonneg ts
  by_cases hbig : left - (n : Int) < 0
  · have hr := Lib.hid (show szT left ts = -1 by unfold szT; rw [if_pos (by rw [lx]; omega)])
    clear hx lx hs
    go_enter Tryz.func28, Tryz.ntmps28
    go_wp2
    go_ret
    exact ⟨ret_int hr.out.symm, rfl⟩
  · rcases Nat.eq_zero_or_pos n with hz | hz
    · subst hz
      have hr := Lib.hid (show szT left ts = left by rw [List.eq_nil_of_length_eq_zero lx]; unfold szT lens; simp <;> omega)
      clear hx lx hs
      go_enter Tryz.func28, Tryz.ntmps28
      go_wp2
      refine wp_loop_rounds 1 ?_
      rw [rounds_succ]
      go_wp2
      go_ret
      exact ⟨ret_int (by rw [hr.out]; first | done | omega), rfl⟩
    · obtain ⟨b, off, rfl, _, hc⟩ := hx.pos hz
      have HC := Lib.hid hc
      have HL := Lib.hid lx
      have HS := Lib.hid hs
      clear hc hx lx hs
      go_enter Tryz.func28, Tryz.ntmps28
      go_wp2
      go_loop [1, 5] (fun v i => ∃ (j : Nat) (u : Int), j ≤ n ∧ i = .int .i64 j ∧ v = .int .i64 u ∧ 0 ≤ u ∧ u ≤ 1048576 ∧ Hid (u = left - n - lens (ts.take j))) (fun _ i => n - (intOf i).toNat)
      case atStart => exact ⟨0, left - n, by omega, rfl, rfl, by omega, by omega, by simp [Hid, lens]⟩
      case round =>
        obtain ⟨j, u, hj, rfl, rfl, u0, u1, hu⟩ := hrel
        by_cases hlt : j < n
        · obtain ⟨s, es⟩ : ∃ s, ts[j]? = some s := ⟨_, List.getElem?_eq_getElem (by have := HL.out; omega)⟩
          have c1 : w.cell? ⟨b, off + j, none⟩ = some (.string (Ba s)) := HC.out j _ (Tx_get es)
          have hsz := Ba_size s
          have hm := HS.out s (List.mem_of_getElem? es)
          have hin : (j : Int) < n := by omega
          have hj0 : (0 : Int) ≤ j := by omega
          have HN := Lib.hid (lens_snoc es)
          have HT := Lib.hid (lens_take ts (j + 1))
          clear es
          by_cases hneg : u - (s.length : Int) < 0
          · have hr := Lib.hid (show szT left ts = -1 by
              unfold szT
              have e1 := hu.out
              have e2 := HN.out
              have e3 := HT.out
              have e4 := HL.out
              rw [if_pos (by omega)])
            go_wp2
            go_ret
            exact ⟨ret_int hr.out.symm, rfl⟩
          · go_wp2
            go_round
            case rel => exact ⟨j + 1, u - s.length, by omega, by go_num, rfl, by omega, by omega, Lib.hid (by rw [HN.out, hu.out]; omega)⟩
            case measure => simp [intOf]; omega
        · obtain rfl : j = n := by omega
          have hr := Lib.hid (show szT left ts = u by
            have e1 := hu.out
            have e4 := HL.out
            rw [List.take_of_length_le (by omega)] at e1
            unfold szT
            rw [if_neg (by omega)]
            omega)
          go_wp2
          go_ret
          exact ⟨ret_int hr.out.symm, rfl⟩
set_option maxHeartbeats 400000 in
theorem laws_szIntS (A : Option Addr) (n c : Nat) (left : Int) (w : World) (h0 : 0 ≤ left) (h1 : left ≤ 1048576) (hn : n ≤ maxLen) :
    Calls Tryz.prog 27 #[.slice A n c, .int .i64 left] w fun e w' => e = .returned (.int .i64 (if left - (n : Int) < 0 then -1 else left - n)) ∧ w = w' := by
  unfold maxLen at hn
  by_cases h : left - (n : Int) < 0
  · rw [if_pos h]
    go_enter Tryz.func27, Tryz.ntmps27
    go_wp2
    go_ret
    exact ⟨rfl, rfl⟩
  · rw [if_neg h]
    go_enter Tryz.func27, Tryz.ntmps27
    go_wp2
    go_ret
    exact ⟨rfl, rfl⟩
end Go.Proofs.YtamhpgledbmnoaaGreat
namespace Go.Proofs.YtamhpgledbmnoaaGreat
set_option linter.unusedVariables false
set_option linter.unusedSimpArgs false
open Go.RowKit
set_option maxHeartbeats 1000000 in
theorem impl_isText (s : List UInt8) (w : World) (hs : s.length ≤ 1000000000000) : Calls Tryz.prog 60 #[.string (Ba s)] w fun e w' => e = .returned (.bool (Pl.isTxt s)) ∧ Below w.heap.size w w' := by
  have CI := Lib.hid (impl_ReadExpr s w hs)
  go_enter Tryz.func60, Tryz.ntmps60
  go_wp2_with fail
  refine (CI.out).mono ?_
  rintro e w1 ⟨ys, A, c, _, rfl, _, hb⟩
  go_wp2_with fail
  go_ret
  exact ⟨rfl, hb⟩
set_option maxHeartbeats 1000000 in
theorem impl_notText (s : List UInt8) (w : World) (hs : s.length ≤ 1000000000000) : Calls Tryz.prog 59 #[.string (Ba s)] w fun e w' => e = .returned (.bool (!Pl.isTxt s)) ∧ Below w.heap.size w w' := by
  go_enter Tryz.func59, Tryz.ntmps59
  go_wp2_with fail
  refine (impl_isText s w hs).mono ?_
  rintro e w1 ⟨rfl, hb⟩
  go_wp2_with fail
  go_ret
  exact ⟨rfl, hb⟩
set_option maxHeartbeats 2000000 in
theorem index_text (P : Option Addr) (m d B : Nat) (ts : List (List UInt8)) (w : World) (hp : Rd w B P m (Tx ts)) (hB : B ≤ w.heap.size) (hm : m ≤ 1000000000000) (hs : ∀ s ∈ ts, s.length ≤ 1000000000000) :
    Calls Tryz.prog 87 #[.slice P m d, .func (.func 59) #[] #[]] w fun e w' => ∃ r : Int, e = .returned (.int .i64 r) ∧ decide (0 ≤ r) = !(ts.all Pl.isTxt) ∧ Below w.heap.size w w' := by
  have lx : ts.length = m := by have := hp.len; rwa [Tx_len] at this
  have HP := Lib.hid hp
  have HL := Lib.hid lx
  have HS := Lib.hid hs
  clear hp lx hs
  go_enter Tryz.func87, Tryz.ntmps87
  go_wp2
  go_loopw [8] (fun i wr => ∃ j : Nat, j ≤ m ∧ i = .int .i64 j ∧ Hid (∀ t, t < j → ∀ s, ts[t]? = some s → Pl.isTxt s = true) ∧ Below w.heap.size w wr) (fun i _ => m - (intOf i).toNat)
  case atStart => exact ⟨0, by omega, rfl, fun t ht => absurd ht (by omega), Below.refl _ _⟩
  case round =>
    obtain ⟨j, hj, rfl, hall, hb⟩ := hrel
    have hz := hb.size
    by_cases hlt : j < m
    · obtain ⟨b, off, rfl, hbl, hc⟩ := HP.out.pos (by omega)
      obtain ⟨s, es⟩ : ∃ s, ts[j]? = some s := ⟨_, List.getElem?_eq_getElem (by have := HL.out; omega)⟩
      have c1 : wr.cell? ⟨b, off + j, none⟩ = some (.string (Ba s)) := (hb.cell (p := ⟨b, off + j, none⟩) (show b < w.heap.size by omega)).trans (hc j _ (Tx_get es))
      have hsl := HS.out s (List.mem_of_getElem? es)
      have ES := Lib.hid es
      have hin : (j : Int) < m := by omega
      have hj0 : (0 : Int) ≤ j := by omega
      have CT := Lib.hid (impl_notText s wr hsl)
      clear hc es
      go_wp2_with fail
      refine (CT.out).mono ?_
      rintro e w1 ⟨rfl, hb1⟩
      have hb2 := hb.trans (hb1.mono hz)
      cases ht : Pl.isTxt s
      · have hr := Lib.hid (Pl.all_f ES.out ht)
        clear ht
        go_wp2_with fail
        go_ret
        exact ⟨j, rfl, by rw [hr.out]; simp, hb2⟩
      · have HT := Lib.hid ht
        clear ht
        go_wp2_with fail
        go_roundw
        case rel =>
          refine ⟨j + 1, by omega, by go_num, fun t ht s' hs' => ?_, hb2⟩
          rcases Nat.lt_or_ge t j with h | h
          · exact hall.out t h s' hs'
          · obtain rfl : t = j := by omega
            rw [ES.out] at hs'
            injection hs' with hs'
            rw [← hs']
            exact HT.out
        case measure => simp [intOf]; omega
    · obtain rfl : j = m := by omega
      have hr := Lib.hid (Pl.all_t (fun t ht s hs => hall.out t (by rw [← HL.out]; exact ht) s hs))
      go_wp2
      go_ret
      exact ⟨-1, rfl, by rw [hr.out]; rfl, hb⟩
set_option maxHeartbeats 1000000 in
theorem contains_text (P : Option Addr) (m d B : Nat) (ts : List (List UInt8)) (w : World) (hp : Rd w B P m (Tx ts)) (hB : B ≤ w.heap.size) (hm : m ≤ 1000000000000) (hs : ∀ s ∈ ts, s.length ≤ 1000000000000) :
    Calls Tryz.prog 58 #[.slice P m d, .func (.func 59) #[] #[]] w fun e w' => e = .returned (.bool (!(ts.all Pl.isTxt))) ∧ Below w.heap.size w w' := by
  have CI := Lib.hid (index_text P m d B ts w hp hB hm hs)
  clear hp hs
  go_enter Tryz.func58, Tryz.ntmps58
  go_wp2_with fail
  refine (CI.out).mono ?_
  rintro e w1 ⟨r, rfl, hr, hb⟩
  have HR := Lib.hid hr
  clear hr
  go_wp2_with fail
  go_ret
  exact ⟨ret_bool (by rw [← HR.out]), hb⟩
set_option maxHeartbeats 2000000 in
theorem impl_BenchValid (b : Pl.Bn) (A P : Option Addr) (n c m d B : Nat) (w : World) (hx : Rd w B A n (I64 b.e)) (hp : Rd w B P m (Tx b.past)) (hB : B ≤ w.heap.size) (hn : n ≤ 1000000000000) (hm : m ≤ 1000000000000) (hs : ∀ s ∈ b.past, s.length ≤ 1000000000000) :
    Calls Tryz.prog 22 #[benchV b.k b.x b.y A n c P m d] w fun e w' => e = .returned (.bool (Pl.benchValid b)) ∧ Below w.heap.size w w' := by
  obtain ⟨k, x, y, E, ts⟩ := b
  have lx : ts.length = m := by have := hp.len; rwa [Tx_len] at this
  have cv := fun w' => impl_ExprValid A n c B E w'
  have HP := Lib.hid hp
  have HX := Lib.hid hx
  have HS := Lib.hid hs
  unfold benchV
  cases hv : Pl.v2 k x y
  · have hr := Lib.hid (Pl.bv_f (b := ⟨k, x, y, E, ts⟩) (by simp [hv]))
    clear hx hp hs
    go_enter Tryz.func22, Tryz.ntmps22
    go_wp2_with (first | (go_at_call 56; refine (impl_allValid2 _ x y _ _ (by go_simp) (by go_simp)).mono ?_; rintro e w' ⟨rfl, rfl⟩))
    go_ret
    rw [hr.out]
    exact ⟨rfl, by go_grown⟩
  · cases he : Pl.exprValid E
    · have hr := Lib.hid (Pl.bv_f (b := ⟨k, x, y, E, ts⟩) (by simp [hv, he]))
      rw [he] at cv
      clear hx hp hs he
      go_enter Tryz.func22, Tryz.ntmps22
      go_wp2_with (first | (go_at_call 56; refine (impl_allValid2 _ x y _ _ (by go_simp) (by go_simp)).mono ?_; rintro e w' ⟨rfl, rfl⟩))
      refine (cv _ ((HX.out.alloc hB _).alloc (by simp; omega) _) hn).mono ?_
      rintro e w' ⟨rfl, rfl⟩
      go_wp2_with fail
      go_ret
      rw [hr.out]
      exact ⟨rfl, by go_grown⟩
    · rw [he] at cv
      by_cases hl : 20 < m
      · have hr := Lib.hid (Pl.bv_f (b := ⟨k, x, y, E, ts⟩) (by simp [hv, he]; omega))
        have hli : (20 : Int) < (m : Int) := by omega
        clear hx hp hs he
        go_enter Tryz.func22, Tryz.ntmps22
        go_wp2_with (first | (go_at_call 56; refine (impl_allValid2 _ x y _ _ (by go_simp) (by go_simp)).mono ?_; rintro e w' ⟨rfl, rfl⟩))
        refine (cv _ ((HX.out.alloc hB _).alloc (by simp; omega) _) hn).mono ?_
        rintro e w' ⟨rfl, rfl⟩
        go_wp2_with fail
        go_ret
        rw [hr.out]
        exact ⟨rfl, by go_grown⟩
      · have hr := Lib.hid (Pl.bv_t (b := ⟨k, x, y, E, ts⟩) (by simp [hv, he]; omega))
        have hli : ¬ (20 : Int) < (m : Int) := by omega
        clear hx hp hs he
        go_enter Tryz.func22, Tryz.ntmps22
        go_wp2_with (first | (go_at_call 56; refine (impl_allValid2 _ x y _ _ (by go_simp) (by go_simp)).mono ?_; rintro e w' ⟨rfl, rfl⟩))
        refine (cv _ ((HX.out.alloc hB _).alloc (by simp; omega) _) hn).mono ?_
        rintro e w' ⟨rfl, rfl⟩
        go_wp2_with fail
        refine (contains_text P m d B ts _ ((HP.out.alloc hB _).alloc (by simp; omega) _) (by simp; omega) hm HS.out).mono ?_
        rintro e w1 ⟨rfl, hb1⟩
        have HB := Lib.hid ((((Below.refl w.heap.size w).alloc (Nat.le_refl _) _).alloc (by simp) _).trans (hb1.mono (by simp; omega)))
        go_wp2_with fail
        go_ret
        rw [hr.out]
        exact ⟨ret_bool (by simp), HB.out⟩
set_option maxHeartbeats 2000000 in
theorem spec_BenchValid (b : Pl.Bn) (A P : Option Addr) (n c m d B : Nat) (w : World) (hx : Rd w B A n (I64 b.e)) (hp : Rd w B P m (Tx b.past)) (hB : B ≤ w.heap.size) (hn : n ≤ 1000000000000) (hm : m ≤ 1000000000000) (hs : ∀ s ∈ b.past, s.length ≤ 2000000) :
    Calls Tryz.prog 19 #[benchV b.k b.x b.y A n c P m d] w fun e w' => e = .returned (.bool (Pl.benchValid b)) ∧ Below w.heap.size w w' := by
  obtain ⟨k, x, y, E, ts⟩ := b
  have lx : ts.length = m := by have := hp.len; rwa [Tx_len] at this
  have cv := fun w' => spec_ExprValid A n c B E w'
  have HP := Lib.hid hp
  have HX := Lib.hid hx
  have HS := Lib.hid hs
  have HL := Lib.hid lx
  obtain ⟨wb, hwb⟩ : ∃ wb, wb = w.alloc (.cells #[.int .i64 k, .int .i64 x, .int .i64 y, .slice A n c, .slice P m d] 30) := ⟨_, rfl⟩
  have hzb : wb.heap.size = w.heap.size + 1 := by rw [hwb]; simp
  have d0 : ∀ j u, #[Value.int .i64 k, .int .i64 x, .int .i64 y, .slice A n c, .slice P m d][j]? = some u → wb.cell? ⟨w.heap.size, j, none⟩ = some u := fun j u h => by rw [hwb, cell_of_row _ _ _ _ _ _ (heap_alloc_new w _)]; exact h
  have hbb : Below w.heap.size w wb := by rw [hwb]; exact (Below.refl _ _).alloc (Nat.le_refl _) _
  have D0 := Lib.hid d0
  unfold benchV
  clear hx hp hs lx d0
  go_enter Tryz.func19, Tryz.ntmps19
  go_wp2_with fail
  rw [← hwb]
  clear hwb
  go_loopw [3] (fun i wr => ∃ j : Nat, j ≤ m ∧ i = .int .i64 j ∧ Hid (∀ t, t < j → ∀ s, ts[t]? = some s → Pl.isTxt s = true) ∧ Below wb.heap.size wb wr) (fun i _ => m - (intOf i).toNat)
  case atStart => exact ⟨0, by omega, rfl, fun t ht => absurd ht (by omega), Below.refl _ _⟩
  case round =>
    obtain ⟨j, hj, rfl, hall, hb⟩ := hrel
    have hz := hb.size
    have hbw := hbb.trans (hb.mono (by omega))
    have hcell : ∀ i, wr.cell? ⟨w.heap.size, i, none⟩ = wb.cell? ⟨w.heap.size, i, none⟩ := fun i => hb.cell (p := ⟨w.heap.size, i, none⟩) (show w.heap.size < wb.heap.size by omega)
    have c4 : wr.cell? ⟨w.heap.size, 4, none⟩ = some (.slice P m d) := (hcell 4).trans (D0.out 4 _ rfl)
    by_cases hlt : j < m
    · obtain ⟨b, off, rfl, hbl, hc⟩ := HP.out.pos (by omega)
      obtain ⟨s, es⟩ : ∃ s, ts[j]? = some s := ⟨_, List.getElem?_eq_getElem (by have := HL.out; omega)⟩
      have c1 : wr.cell? ⟨b, off + j, none⟩ = some (.string (Ba s)) := (hbw.cell (p := ⟨b, off + j, none⟩) (show b < w.heap.size by omega)).trans (hc j _ (Tx_get es))
      have hsl := HS.out s (List.mem_of_getElem? es)
      have ES := Lib.hid es
      have hin : (j : Int) < m := by omega
      have hj0 : (0 : Int) ≤ j := by omega
      have CT := Lib.hid (spec_ReadExpr s wr hsl)
      clear hc es hcell
      go_wp2_with fail
      refine (CT.out).mono ?_
      rintro e w1 ⟨ys, A1, c1', _, rfl, _, hb1⟩
      have hb2 := hb.trans (hb1.mono hz)
      have hbe := hbw.trans (hb1.mono (by omega))
      cases ht : (Pl.readE s).isSome
      · have hr := Lib.hid (Pl.bv_all (b := ⟨k, x, y, E, ts⟩) (Pl.all_f ES.out ht))
        clear ht
        go_wp2_with fail
        go_ret
        rw [hr.out]
        exact ⟨rfl, hbe⟩
      · have HT := Lib.hid (show Pl.isTxt s = true from ht)
        clear ht
        go_wp2_with fail
        go_roundw
        case rel =>
          refine ⟨j + 1, by omega, by go_num, fun t ht s' hs' => ?_, hb2⟩
          rcases Nat.lt_or_ge t j with h | h
          · exact hall.out t h s' hs'
          · obtain rfl : t = j := by omega
            rw [ES.out] at hs'
            injection hs' with hs'
            rw [← hs']
            exact HT.out
        case measure => simp [intOf]; omega
    · obtain rfl : j = m := by omega
      have hr := Lib.hid (Pl.bv_past (b := ⟨k, x, y, E, ts⟩) (Pl.all_t (fun t ht s hs => hall.out t (by rw [← HL.out]; exact ht) s hs)))
      have c0 : wr.cell? ⟨w.heap.size, 0, none⟩ = some (.int .i64 k) := (hcell 0).trans (D0.out 0 _ rfl)
      have c1 : wr.cell? ⟨w.heap.size, 1, none⟩ = some (.int .i64 x) := (hcell 1).trans (D0.out 1 _ rfl)
      have c2 : wr.cell? ⟨w.heap.size, 2, none⟩ = some (.int .i64 y) := (hcell 2).trans (D0.out 2 _ rfl)
      have c3 : wr.cell? ⟨w.heap.size, 3, none⟩ = some (.slice A n c) := (hcell 3).trans (D0.out 3 _ rfl)
      have hl20 := Lib.hid HL.out
      clear hcell
      cases hv : Pl.v2 k x y
      · go_wp2_with (first | (go_at_call 52; refine (spec_l1Both _ _ _ _).mono ?_; rintro e w' ⟨rfl, rfl⟩))
        go_ret
        rw [hr.out]
        exact ⟨ret_bool (by simp [hv]), hbw⟩
      · cases he : Pl.exprValid E
        · rw [he] at cv
          go_wp2_with (first | (go_at_call 52; refine (spec_l1Both _ _ _ _).mono ?_; rintro e w' ⟨rfl, rfl⟩))
          refine (cv _ (HX.out.below (hbw.mono hB)) hn).mono ?_
          rintro e w' ⟨rfl, rfl⟩
          go_wp2_with fail
          go_ret
          rw [hr.out]
          exact ⟨ret_bool (by simp [hv, he]), hbw⟩
        · rw [he] at cv
          go_wp2_with (first | (go_at_call 52; refine (spec_l1Both _ _ _ _).mono ?_; rintro e w' ⟨rfl, rfl⟩))
          refine (cv _ (HX.out.below (hbw.mono hB)) hn).mono ?_
          rintro e w' ⟨rfl, rfl⟩
          go_wp2_with fail
          all_goals go_ret
          all_goals rw [hr.out]
          all_goals exact ⟨ret_bool (by simp [hv, he, hl20.out]; try omega), hbw⟩
end Go.Proofs.YtamhpgledbmnoaaGreat
namespace Go.Proofs.YtamhpgledbmnoaaGreat
set_option linter.unusedVariables false
set_option linter.unusedSimpArgs false
open Go.RowKit Go.ChangeShapes Go.WideShapes
theorem addr_add (b off j : Nat) : (⟨b, off, none⟩ : Addr).add j = ⟨b, off + j, none⟩ := by
  unfold Addr.add
  split
  · rename_i h0; subst h0; rfl
  · rfl
theorem rd_of_cells {w : World} {x : Addr} {vs : List Value} {len : Nat} (hl : len ≤ vs.length) (hc : ∀ i u, vs[i]? = some u → w.cell? (x.add i) = some u) : Rd w w.heap.size (some x) len (vs.take len) := by
  refine ⟨by rw [List.length_take]; omega, ?_⟩
  rcases Nat.eq_zero_or_pos len with h0 | h0
  · exact .inl h0
  · obtain ⟨b, off, spot⟩ := x
    have h1 := hc 0 _ (List.getElem?_eq_getElem (by omega))
    have hspot : spot = none := by simpa [Addr.add] using World.cell?_spot h1
    subst hspot
    refine .inr ⟨b, off, rfl, ?_, fun j u hu => ?_⟩
    · have := World.block_lt_of_cell? w _ h1
      rwa [block_of_add] at this
    · have hj : j < len := by
        have := (List.getElem?_eq_some_iff.1 hu).1
        rw [List.length_take] at this
        omega
      rw [List.getElem?_take_of_lt hj] at hu
      have h2 := hc j u hu
      rwa [addr_add] at h2
theorem array5 {α : Type} {cs : Array α} (h : cs.size = 5) : ∃ c0 c1 c2 c3 c4, cs = #[c0, c1, c2, c3, c4] := by
  obtain ⟨l⟩ := cs
  match l, h with
  | [c0, c1, c2, c3, c4], _ => exact ⟨c0, c1, c2, c3, c4, rfl⟩
/-- What is told of a bench that came in. -/
def IsBench (w : World) (v : Value) : Prop := ∃ (b : Pl.Bn) (A P : Option Addr) (n c m d : Nat), v = benchV b.k b.x b.y A n c P m d ∧ Rd w w.heap.size A n (I64 b.e) ∧ Rd w w.heap.size P m (Tx b.past) ∧ n ≤ maxLen ∧ m ≤ maxLen ∧ ∀ s ∈ b.past, s.length ≤ maxLen
section
variable {H : Type} {enc : TypeId × Value → H}
theorem ints_field {w : World} {base fuel : Nat} {spare : Nat → Bool} {held : Bool} {u : Value} {y : DataW H × List MemPlace} (h : DataW.trod enc Tryz.prog w base spare held fuel 22 [u] = some y) :
    ∃ A n c xs, u = .slice A n c ∧ Rd w w.heap.size A n (I64 xs) ∧ n ≤ maxLen := by
  rcases open_ints Tryz.underlying22 Tryz.underlying3 (by kernel_rfl) h with ⟨hcs, _⟩ | ⟨x, l, c, zs, hcs, _, hl, hm, hz, hx, hcell, hwz⟩
  · injection hcs with hcs
    exact ⟨none, 0, 0, [], hcs, Rd.zero, by simp [maxLen]⟩
  · injection hcs with hcs
    have hll : l ≤ zs.length := by rw [hz]; split <;> omega
    have := rd_of_cells (w := w) (x := x) (vs := I64 zs) (len := l) (by rw [I64_len]; exact hll) (fun i u hu => by
      have hi : i < zs.length := by have := (List.getElem?_eq_some_iff.1 hu).1; rwa [I64_len] at this
      rw [hcell i hi]
      have e := I64_getD hi
      rw [e] at hu
      exact hu)
    rw [I64_take] at this
    exact ⟨some x, l, c, zs.take l, hcs, this, by omega⟩
theorem texts_field {w : World} {base fuel : Nat} {spare : Nat → Bool} {held : Bool} {u : Value} {y : DataW H × List MemPlace} (h : DataW.trod enc Tryz.prog w base spare held fuel 23 [u] = some y) :
    ∃ A n c ts, u = .slice A n c ∧ Rd w w.heap.size A n (Tx ts) ∧ n ≤ maxLen ∧ ∀ s ∈ ts, s.length ≤ maxLen := by
  rcases open_strings Tryz.underlying23 Tryz.underlying9 (by kernel_rfl) h with ⟨hcs, _⟩ | ⟨x, l, c, ss, hcs, _, hl, hm, hz, hx, hcell, hws⟩
  · injection hcs with hcs
    exact ⟨none, 0, 0, [], hcs, Rd.zero, by simp [maxLen], fun s hs => by cases hs⟩
  · injection hcs with hcs
    have hll : l ≤ ss.length := by rw [hz]; split <;> omega
    have hget : ∀ i, i < ss.length → (Tx (ss.map (fun s => s.data.toList)))[i]? = some (.string (ss.getD i ByteArray.empty)) := fun i hi => by
      simp [Tx, hi, List.getD_eq_getElem?_getD, Ba]
    have := rd_of_cells (w := w) (x := x) (vs := Tx (ss.map (fun s => s.data.toList))) (len := l) (by rw [Tx_len, List.length_map]; exact hll) (fun i u hu => by
      have hi : i < ss.length := by have := (List.getElem?_eq_some_iff.1 hu).1; rwa [Tx_len, List.length_map] at this
      rw [hcell i hi]
      rw [hget i hi] at hu
      exact hu)
    have e : (Tx (ss.map (fun s => s.data.toList))).take l = Tx ((ss.map (fun s => s.data.toList)).take l) := by simp [Tx, List.map_take]
    rw [e] at this
    refine ⟨some x, l, c, _, hcs, this, by omega, fun s hs => ?_⟩
    obtain ⟨b, hb, rfl⟩ := List.mem_map.1 (List.mem_of_mem_take hs)
    exact hws b hb
end
set_option maxRecDepth 100000 in
theorem isBench_open {H : Type} {enc : TypeId × Value → H} {w : World} {base b0 : Nat} {r : Reach} {spare : Nat → Bool} {held : Bool} {v : Value} {d : DataW H} {p : List MemPlace}
    (hv : Value.okWide Tryz.prog w r b0 25 v) (h : DataW.Trod enc Tryz.prog w base spare held 25 v d p) : IsBench w v := by
  obtain ⟨cs, rfl, hsz⟩ := okWide_struct Tryz.underlying25 hv
  obtain ⟨c0, c1, c2, c3, c4, rfl⟩ := array5 (hsz.trans (show Tryz.prog.cellsOf 25 = 5 by kernel_rfl))
  obtain ⟨fuel, hf⟩ := h
  obtain ⟨xs, n, _, _, _, hl, hg⟩ := DataW.trod_struct Tryz.underlying25 hf
  have k1 : Tryz.prog.cellsOf 3 = 1 := by kernel_rfl
  have k2 : Tryz.prog.cellsOf 22 = 1 := by kernel_rfl
  have k3 : Tryz.prog.cellsOf 23 = 1 := by kernel_rfl
  match xs, hl with
  | [y0, y1, y2, y3, y4], _ =>
    have g0 : DataW.trod enc Tryz.prog w base spare held n 3 [c0] = some y0 := by simpa [Value.cells, k1] using hg 0 _ rfl
    have g1 : DataW.trod enc Tryz.prog w base spare held n 3 [c1] = some y1 := by simpa [Value.cells, k1] using hg 1 _ rfl
    have g2 : DataW.trod enc Tryz.prog w base spare held n 3 [c2] = some y2 := by simpa [Value.cells, k1] using hg 2 _ rfl
    have g3 : DataW.trod enc Tryz.prog w base spare held n 22 [c3] = some y3 := by simpa [Value.cells, k2] using hg 3 _ rfl
    have g4 : DataW.trod enc Tryz.prog w base spare held n 23 [c4] = some y4 := by simpa [Value.cells, k3] using hg 4 _ rfl
    obtain ⟨t0, e0, _, _⟩ := DataW.trod_int Tryz.underlying3 g0
    obtain ⟨t1, e1, _, _⟩ := DataW.trod_int Tryz.underlying3 g1
    obtain ⟨t2, e2, _, _⟩ := DataW.trod_int Tryz.underlying3 g2
    injection e0 with e0
    injection e1 with e1
    injection e2 with e2
    obtain ⟨A, a, c, E, e3, r3, l3⟩ := ints_field g3
    obtain ⟨P, m, d', ts, e4, r4, l4, s4⟩ := texts_field g4
    subst e0 e1 e2 e3 e4
    exact ⟨⟨t0, t1, t2, E, ts⟩, A, P, a, c, m, d', rfl, r3, r4, l3, l4, s4⟩
end Go.Proofs.YtamhpgledbmnoaaGreat
namespace Go.Proofs.YtamhpgledbmnoaaGreat
set_option linter.unusedVariables false
set_option linter.unusedSimpArgs false
open Go.RowKit
/-- What is left of the measure behind a bench. -/
def szB (n : Nat) (ts : List (List UInt8)) : Int := if (1048576 : Int) - (n : Int) < 0 then -1 else szT (1048576 - n) ts
theorem szT_neg {u : Int} {ts : List (List UInt8)} (h : szT u ts < 0) : szT u ts = -1 := by
  unfold szT at h ⊢
  split
  · rfl
  · rename_i h1
    rw [if_neg h1] at h
    omega
theorem szB_f {n : Nat} {ts : List (List UInt8)} (h : ¬ szB n ts < 0) : n ≤ 1048576 ∧ ts.length ≤ 1048576 ∧ ∀ s ∈ ts, s.length ≤ 1048576 := by
  unfold szB szT at h
  have h0 := lens_nonneg ts
  split at h
  · omega
  · split at h
    · omega
    · refine ⟨by omega, by omega, fun s hs => ?_⟩
      have := lens_mem hs
      omega
set_option maxHeartbeats 1000000 in
theorem laws_szBench (k x y : Int) (A P : Option Addr) (n c m d B : Nat) (ts : List (List UInt8)) (w : World) (hp : Rd w B P m (Tx ts)) (hB : B ≤ w.heap.size) (hn : n ≤ maxLen) (hm : m ≤ maxLen) (hs : ∀ s ∈ ts, s.length ≤ maxLen) :
    Calls Tryz.prog 6 #[benchV k x y A n c P m d, .int .i64 1048576] w fun e w' => e = .returned (.int .i64 (szB n ts)) ∧ Below w.heap.size w w' := by
  unfold benchV
  have HP := Lib.hid hp
  have CS := Lib.hid (fun left w h h0 h1 => laws_szStringS P m d B ts left w h h0 h1 hm hs)
  by_cases h : (1048576 : Int) - (n : Int) < 0
  · have hr := Lib.hid (show szB n ts = -1 by unfold szB; rw [if_pos h])
    clear hp hs
    go_enter Tryz.func6, Tryz.ntmps6
    go_wp2_with fail
    refine (laws_szIntS A n c 1048576 _ (by omega) (by omega) hn).mono ?_
    rw [if_pos h]
    rintro e w' ⟨rfl, rfl⟩
    go_wp2_with fail
    go_ret
    exact ⟨ret_int hr.out.symm, by go_grown⟩
  · have hr := Lib.hid (show szB n ts = szT (1048576 - n) ts by unfold szB; rw [if_neg h])
    obtain ⟨u, hu⟩ : ∃ u : Int, u = 1048576 - (n : Int) := ⟨_, rfl⟩
    rw [← hu] at hr
    have HU := Lib.hid hu
    have hu0 : 0 ≤ u := by omega
    have hu1 : u ≤ 1048576 := by omega
    have hun : ¬ u < 0 := by omega
    have CI := fun w => laws_szIntS A n c 1048576 w (by omega) (by omega) hn
    rw [if_neg h, ← hu] at CI
    have hneg1 := fun h => szT_neg (u := u) (ts := ts) h
    clear hp hs h hu
    go_enter Tryz.func6, Tryz.ntmps6
    go_wp2_with fail
    refine (CI _).mono ?_
    rintro e w' ⟨rfl, rfl⟩
    go_wp2_with fail
    refine (CS.out u _ (HP.out.alloc hB _) hu0 hu1).mono ?_
    rintro e w' ⟨rfl, rfl⟩
    generalize szT u ts = r at *
    by_cases hneg : r < 0
    · have hrr : r = -1 := hneg1 hneg
      go_wp2_with fail
      go_ret
      exact ⟨ret_int (by rw [hr.out, hrr]), by go_grown⟩
    · go_wp2_with fail
      go_ret
      exact ⟨ret_int hr.out.symm, by go_grown⟩
theorem setc_grown {w : World} {g o : Nat} (u : Value) : w.grownBy (w.setCell ⟨g, o, none⟩ u) (some g) :=
  ⟨rfl, rfl, rfl, by simp [World.setCell], fun i hi hne => Below.heap_setCell w ⟨g, o, none⟩ u i (by rintro rfl; exact hne rfl)⟩
theorem own_setc {w : World} {base size n g o : Nat} {e : TypeId} {v : Value} {xs : List Value} (h : w.ownsRow base e size v n xs) (hg : g < base) (u : Value) : (w.setCell ⟨g, o, none⟩ u).ownsRow base e size v n xs :=
  h.kept (setc_grown u) (by
    cases hv : v.ownBlock with
    | none => exact .inl rfl
    | some k => exact .inr (fun e => by injection e with e; have := (h.lt k hv).1; omega))
/-- A bench of the call's own, as toBench leaves it. -/
def OutTo (b : Pl.Bn) (n m : Nat) (w : World) (e : Ending) (w' : World) : Prop := ∃ (A P : Option Addr) (c d : Nat), e = .returned (benchV b.k b.x b.y A n c P m d) ∧
  w'.ownsRow w.heap.size 3 1 (.slice A n c) n (I64 b.e) ∧ w'.ownsRow w.heap.size 9 1 (.slice P m d) m (Tx b.past) ∧ Below w.heap.size w w'
set_option maxHeartbeats 4000000 in
theorem laws_toBench (b : Pl.Bn) (A P : Option Addr) (n c m d B : Nat) (w : World) (hx : Rd w B A n (I64 b.e)) (hp : Rd w B P m (Tx b.past)) (hB : B ≤ w.heap.size) (hn : n ≤ 1000000000000) (hm : m ≤ 1000000000000) :
    Calls Tryz.prog 9 #[benchV b.k b.x b.y A n c P m d] w (OutTo b n m w) := by
  obtain ⟨k, x, y, E, ts⟩ := b
  have lx : E.length = n := by have := hx.len; rwa [I64_len] at this
  have lp : ts.length = m := by have := hp.len; rwa [Tx_len] at this
  have HX := Lib.hid hx
  have HP := Lib.hid hp
  have HLX := Lib.hid lx
  have HLP := Lib.hid lp
  unfold benchV
  clear hx hp lx lp
  go_enter Tryz.func9, Tryz.ntmps9
  go_wp2_with fail
  obtain ⟨w0, hw0⟩ : ∃ w0, w0 = ((w.alloc (.cells #[.int .i64 k, .int .i64 x, .int .i64 y, .slice A n c, .slice P m d] 25)).alloc (.cells #[.int .i64 0, .int .i64 0, .int .i64 0, .slice none 0 0, .slice none 0 0] 30)).alloc (.cells #[.int .i64 k, .int .i64 x, .int .i64 y, .slice none 0 0, .slice none 0 0] 30) := ⟨_, rfl⟩
  have hz0 : w0.heap.size = w.heap.size + 3 := by rw [hw0]; simp
  have HB0 : Below w.heap.size w w0 := by rw [hw0]; go_grown
  have K0 : Blk w0 w.heap.size 25 #[.int .i64 k, .int .i64 x, .int .i64 y, .slice A n c, .slice P m d] := by rw [hw0]; exact ((Blk.new w _ _).alloc _).alloc _
  have K1 : Blk w0 (w.heap.size + 1) 30 #[.int .i64 0, .int .i64 0, .int .i64 0, .slice none 0 0, .slice none 0 0] := by
    rw [hw0]
    have := (Blk.new (w.alloc (.cells #[.int .i64 k, .int .i64 x, .int .i64 y, .slice A n c, .slice P m d] 25)) 30 #[.int .i64 0, .int .i64 0, .int .i64 0, .slice none 0 0, .slice none 0 0])
    rw [World.size_alloc] at this
    exact this.alloc _
  have K2 : Blk w0 (w.heap.size + 2) 30 #[.int .i64 k, .int .i64 x, .int .i64 y, .slice none 0 0, .slice none 0 0] := by
    rw [hw0]
    have := (Blk.new ((w.alloc (.cells #[.int .i64 k, .int .i64 x, .int .i64 y, .slice A n c, .slice P m d] 25)).alloc (.cells #[.int .i64 0, .int .i64 0, .int .i64 0, .slice none 0 0, .slice none 0 0] 30)) 30 #[.int .i64 k, .int .i64 x, .int .i64 y, .slice none 0 0, .slice none 0 0])
    rw [World.size_alloc, World.size_alloc] at this
    exact this
  rw [← hw0]
  clear hw0
  refine (laws_toIntS A n c B E _ (HX.out.below (HB0.mono hB)) (by omega) hn).mono ?_
  rintro e w1 hh
  obtain ⟨A1, c1, rfl, own1, hb1⟩ := ownInts_n hh HLX.out
  have hz1 := hb1.size
  have K0 := K0.below hb1 (by omega)
  have K1 := K1.below hb1 (by omega)
  have K2 := K2.below hb1 (by omega)
  have a3 : w1.cell? ⟨w.heap.size + 1 + 1, 3, none⟩ = some (.slice none 0 0) := K2.cell 3
  have f3 : w1.frozen? ⟨w.heap.size + 1 + 1, 3, none⟩ = false := K2.frozen 3
  have b4 : (w1.setCell ⟨w.heap.size + 1 + 1, 3, none⟩ (.slice A1 n c1)).cell? ⟨w.heap.size, 4, none⟩ = some (.slice P m d) := (K0.far (p := ⟨w.heap.size + 1 + 1, 3, none⟩) (by show w.heap.size ≠ w.heap.size + 1 + 1; omega) _).cell 4
  clear hh
  go_wp2_with fail
  obtain ⟨w2, hw2⟩ : ∃ w2, w2 = w1.setCell ⟨w.heap.size + 1 + 1, 3, none⟩ (.slice A1 n c1) := ⟨_, rfl⟩
  have hz2 : w2.heap.size = w1.heap.size := by rw [hw2]; simp [World.setCell]
  have HB2 : Below w.heap.size w w2 := by rw [hw2]; exact (HB0.trans (hb1.mono (by omega))).setCell (show w.heap.size ≤ w.heap.size + 1 + 1 by omega) _
  have own2 : w2.ownsRow w0.heap.size 3 1 (.slice A1 n c1) n (I64 E) := by rw [hw2]; exact own_setc own1 (show w.heap.size + 1 + 1 < w0.heap.size by omega) _
  have K0 : Blk w2 w.heap.size 25 #[.int .i64 k, .int .i64 x, .int .i64 y, .slice A n c, .slice P m d] := by rw [hw2]; exact K0.far (p := ⟨w.heap.size + 1 + 1, 3, none⟩) (show w.heap.size ≠ w.heap.size + 1 + 1 by omega) _
  have K1 : Blk w2 (w.heap.size + 1) 30 #[.int .i64 0, .int .i64 0, .int .i64 0, .slice none 0 0, .slice none 0 0] := by rw [hw2]; exact K1.far (p := ⟨w.heap.size + 1 + 1, 3, none⟩) (show w.heap.size + 1 ≠ w.heap.size + 1 + 1 by omega) _
  have K2 : Blk w2 (w.heap.size + 1 + 1) 30 #[.int .i64 k, .int .i64 x, .int .i64 y, .slice A1 n c1, .slice none 0 0] := by rw [hw2]; exact K2.set_ 3 _
  rw [← hw2]
  clear hw2 own1 a3 f3 b4
  refine (laws_toStringS P m d B ts _ (HP.out.below (HB2.mono hB)) (by omega) hm).mono ?_
  rintro e w3 hh
  obtain ⟨P1, d1, rfl, own3, hb3⟩ := ownTx_n hh HLP.out
  have hz3 := hb3.size
  have K0 := K0.below hb3 (by omega)
  have K1 := K1.below hb3 (by omega)
  have K2 := K2.below hb3 (by omega)
  have own2 := own_below own2 hb3
  have HB3 := HB2.trans (hb3.mono (by omega))
  have a4 : w3.cell? ⟨w.heap.size + 1 + 1, 4, none⟩ = some (.slice none 0 0) := K2.cell 4
  have f4 : w3.frozen? ⟨w.heap.size + 1 + 1, 4, none⟩ = false := K2.frozen 4
  have a0 : w3.cell? ⟨w.heap.size + 1 + 1, 0, none⟩ = some (.int .i64 k) := K2.cell 0
  have a1 : w3.cell? ⟨w.heap.size + 1 + 1, 1, none⟩ = some (.int .i64 x) := K2.cell 1
  have a2 : w3.cell? ⟨w.heap.size + 1 + 1, 2, none⟩ = some (.int .i64 y) := K2.cell 2
  have a3 : w3.cell? ⟨w.heap.size + 1 + 1, 3, none⟩ = some (.slice A1 n c1) := K2.cell 3
  have g0 : w3.cell? ⟨w.heap.size + 1, 0, none⟩ = some (.int .i64 0) := K1.cell 0
  have g1 : w3.cell? ⟨w.heap.size + 1, 1, none⟩ = some (.int .i64 0) := K1.cell 1
  have g2 : w3.cell? ⟨w.heap.size + 1, 2, none⟩ = some (.int .i64 0) := K1.cell 2
  have g3 : w3.cell? ⟨w.heap.size + 1, 3, none⟩ = some (.slice none 0 0) := K1.cell 3
  have g4 : w3.cell? ⟨w.heap.size + 1, 4, none⟩ = some (.slice none 0 0) := K1.cell 4
  have e0 : w3.frozen? ⟨w.heap.size + 1, 0, none⟩ = false := K1.frozen 0
  have e1 : w3.frozen? ⟨w.heap.size + 1, 1, none⟩ = false := K1.frozen 1
  have e2 : w3.frozen? ⟨w.heap.size + 1, 2, none⟩ = false := K1.frozen 2
  have e3 : w3.frozen? ⟨w.heap.size + 1, 3, none⟩ = false := K1.frozen 3
  have e4 : w3.frozen? ⟨w.heap.size + 1, 4, none⟩ = false := K1.frozen 4
  clear hh
  go_wp2_with fail
  have hne : w.heap.size + 1 ≠ w.heap.size + 1 + 1 := by omega
  obtain ⟨wf, hwf⟩ : ∃ wf, wf = (((((w3.setCell ⟨w.heap.size + 1 + 1, 4, none⟩ (.slice P1 m d1)).setCell ⟨w.heap.size + 1, 0, none⟩ (.int .i64 k)).setCell ⟨w.heap.size + 1, 1, none⟩ (.int .i64 x)).setCell ⟨w.heap.size + 1, 2, none⟩ (.int .i64 y)).setCell ⟨w.heap.size + 1, 3, none⟩ (.slice A1 n c1)).setCell ⟨w.heap.size + 1, 4, none⟩ (.slice P1 m d1) := ⟨_, rfl⟩
  have KF : Blk wf (w.heap.size + 1) 30 #[.int .i64 k, .int .i64 x, .int .i64 y, .slice A1 n c1, .slice P1 m d1] := by rw [hwf]; exact (((((K1.far (p := ⟨w.heap.size + 1 + 1, 4, none⟩) hne _).set_ 0 _).set_ 1 _).set_ 2 _).set_ 3 _).set_ 4 _
  have own4 : wf.ownsRow w0.heap.size 3 1 (.slice A1 n c1) n (I64 E) := by
    rw [hwf]
    exact own_setc (own_setc (own_setc (own_setc (own_setc (own_setc own2 (by omega) _) (by omega) _) (by omega) _) (by omega) _) (by omega) _) (by omega) _
  have own5 : wf.ownsRow w2.heap.size 9 1 (.slice P1 m d1) m (Tx ts) := by
    rw [hwf]
    exact own_setc (own_setc (own_setc (own_setc (own_setc (own_setc own3 (by omega) _) (by omega) _) (by omega) _) (by omega) _) (by omega) _) (by omega) _
  have l1 : w.heap.size ≤ w.heap.size + 1 := by omega
  have HBF : Below w.heap.size w wf := by rw [hwf]; exact (((((HB3.setCell (show w.heap.size ≤ w.heap.size + 1 + 1 by omega) _).setCell l1 _).setCell l1 _).setCell l1 _).setCell l1 _).setCell l1 _
  rw [← hwf]
  clear hwf a0 a1 a2 a3 a4 f4 g0 g1 g2 g3 g4 e0 e1 e2 e3 e4 K0 K1 K2
  have c0 : wf.cell? ⟨w.heap.size + 1, 0, none⟩ = some (.int .i64 k) := KF.cell 0
  have c1' : wf.cell? ⟨w.heap.size + 1, 1, none⟩ = some (.int .i64 x) := KF.cell 1
  have c2 : wf.cell? ⟨w.heap.size + 1, 2, none⟩ = some (.int .i64 y) := KF.cell 2
  have c3 : wf.cell? ⟨w.heap.size + 1, 3, none⟩ = some (.slice A1 n c1) := KF.cell 3
  have c4 : wf.cell? ⟨w.heap.size + 1, 4, none⟩ = some (.slice P1 m d1) := KF.cell 4
  refine bodyPost_ret (v := benchV k x y A1 n c1 P1 m d1) (by simp [results, Tryz.results9, benchV, go_sem, c0, c1', c2, c3, c4]) rfl ?_
  exact ⟨A1, P1, c1, d1, rfl, own4.mono (by omega), own5.mono (by omega), HBF⟩
end Go.Proofs.YtamhpgledbmnoaaGreat
namespace Go.Proofs.YtamhpgledbmnoaaGreat
set_option linter.unusedVariables false
set_option linter.unusedSimpArgs false
open Go.RowKit
theorem bn_ne {b b' : Pl.Bn} (h : b.k ≠ b'.k ∨ b.x ≠ b'.x ∨ b.y ≠ b'.y ∨ b.e ≠ b'.e ∨ b.past ≠ b'.past) : decide (b = b') = false := by
  apply decide_eq_false
  rintro rfl
  rcases h with h | h | h | h | h <;> exact h rfl
theorem bn_eq {b b' : Pl.Bn} (h1 : b.k = b'.k) (h2 : b.x = b'.x) (h3 : b.y = b'.y) (h4 : b.e = b'.e) (h5 : b.past = b'.past) : decide (b = b') = true := by
  apply decide_eq_true
  cases b; cases b'
  simp at h1 h2 h3 h4 h5
  simp [h1, h2, h3, h4, h5]
theorem below_two (w : World) (o o' : Obj) : Below w.heap.size w ((w.alloc o).alloc o') := ((Below.refl _ _).alloc (Nat.le_refl _) _).alloc (by simp) _
set_option maxHeartbeats 4000000 in
theorem laws_eqBench (b b' : Pl.Bn) (A A' P P' : Option Addr) (n c m d n' c' m' d' B : Nat) (w : World) (hx : Rd w B A n (I64 b.e)) (hp : Rd w B P m (Tx b.past)) (hx' : Rd w B A' n' (I64 b'.e)) (hp' : Rd w B P' m' (Tx b'.past)) (hB : B ≤ w.heap.size)
    (hn : n ≤ 1000000000000) (hm : m ≤ 1000000000000) (hn' : n' ≤ 1000000000000) (hm' : m' ≤ 1000000000000) :
    Calls Tryz.prog 12 #[benchV b.k b.x b.y A n c P m d, benchV b'.k b'.x b'.y A' n' c' P' m' d'] w fun e w' => e = .returned (.bool (decide (b = b'))) ∧ Below w.heap.size w w' := by
  obtain ⟨k, x, y, E, ts⟩ := b
  obtain ⟨k', x', y', E', ts'⟩ := b'
  have ci := fun w1 h h' => laws_eqIntS A A' n n' c c' B E E' w1 h h' hn hn'
  have ct := fun w1 h h' => laws_eqStringS P P' m m' d d' B ts ts' w1 h h' hm hm'
  have HX := Lib.hid hx
  have HP := Lib.hid hp
  have HX' := Lib.hid hx'
  have HP' := Lib.hid hp'
  obtain ⟨R, hR⟩ : ∃ R, R = decide ((⟨k, x, y, E, ts⟩ : Pl.Bn) = ⟨k', x', y', E', ts'⟩) := ⟨_, rfl⟩
  rw [← hR]
  unfold benchV
  clear hx hp hx' hp'
  by_cases h1 : k = k'
  · subst h1
    have q1 : (k != k) = false := by simp
    by_cases h2 : x = x'
    · subst h2
      have q2 : (x != x) = false := by simp
      by_cases h3 : y = y'
      · subst h3
        have q3 : (y != y) = false := by simp
        by_cases h4 : E = E'
        · by_cases h5 : ts = ts'
          · have hr := Lib.hid (hR.trans (bn_eq (b := ⟨k, x, y, E, ts⟩) (b' := ⟨k, x, y, E', ts'⟩) rfl rfl rfl h4 h5))
            rw [decide_eq_true h4] at ci
            rw [decide_eq_true h5] at ct
            clear h4 h5
            clear hR
            go_enter Tryz.func12, Tryz.ntmps12
            go_wp2_with fail
            refine (ci _ ((HX.out.alloc hB _).alloc (by simp; omega) _) ((HX'.out.alloc hB _).alloc (by simp; omega) _)).mono ?_
            rintro e w1 ⟨rfl, q, rfl⟩
            go_wp2_with fail
            refine (ct _ (((HP.out.alloc hB _).alloc (by simp; omega) _).drewN q) (((HP'.out.alloc hB _).alloc (by simp; omega) _).drewN q)).mono ?_
            rintro e w1 ⟨rfl, q', rfl⟩
            go_wp2_with fail
            go_ret
            rw [hr.out]
            exact ⟨rfl, below_drewN (below_two _ _ _) _⟩
          · have hr := Lib.hid (hR.trans (bn_ne (b := ⟨k, x, y, E, ts⟩) (b' := ⟨k, x, y, E', ts'⟩) (.inr (.inr (.inr (.inr h5))))))
            rw [decide_eq_true h4] at ci
            rw [decide_eq_false h5] at ct
            clear h4 h5
            clear hR
            go_enter Tryz.func12, Tryz.ntmps12
            go_wp2_with fail
            refine (ci _ ((HX.out.alloc hB _).alloc (by simp; omega) _) ((HX'.out.alloc hB _).alloc (by simp; omega) _)).mono ?_
            rintro e w1 ⟨rfl, q, rfl⟩
            go_wp2_with fail
            refine (ct _ (((HP.out.alloc hB _).alloc (by simp; omega) _).drewN q) (((HP'.out.alloc hB _).alloc (by simp; omega) _).drewN q)).mono ?_
            rintro e w1 ⟨rfl, q', rfl⟩
            go_wp2_with fail
            go_ret
            rw [hr.out]
            exact ⟨rfl, below_drewN (below_two _ _ _) _⟩
        · have hr := Lib.hid (hR.trans (bn_ne (b := ⟨k, x, y, E, ts⟩) (b' := ⟨k, x, y, E', ts'⟩) (.inr (.inr (.inr (.inl h4))))))
          rw [decide_eq_false h4] at ci
          clear h4
          clear hR
          go_enter Tryz.func12, Tryz.ntmps12
          go_wp2_with fail
          refine (ci _ ((HX.out.alloc hB _).alloc (by simp; omega) _) ((HX'.out.alloc hB _).alloc (by simp; omega) _)).mono ?_
          rintro e w1 ⟨rfl, q, rfl⟩
          go_wp2_with fail
          go_ret
          rw [hr.out]
          exact ⟨rfl, below_drewN (below_two _ _ _) q⟩
      · have hr := Lib.hid (hR.trans (bn_ne (b := ⟨k, x, y, E, ts⟩) (b' := ⟨k, x, y', E', ts'⟩) (.inr (.inr (.inl h3)))))
        have q3 : (y != y') = true := by rw [bne_iff_ne]; exact h3
        clear h3
        clear hR
        go_enter Tryz.func12, Tryz.ntmps12
        go_wp2_with fail
        go_ret
        rw [hr.out]
        exact ⟨rfl, below_two _ _ _⟩
    · have hr := Lib.hid (hR.trans (bn_ne (b := ⟨k, x, y, E, ts⟩) (b' := ⟨k, x', y', E', ts'⟩) (.inr (.inl h2))))
      have q2 : (x != x') = true := by rw [bne_iff_ne]; exact h2
      clear h2
      clear hR
      go_enter Tryz.func12, Tryz.ntmps12
      go_wp2_with fail
      go_ret
      rw [hr.out]
      exact ⟨rfl, below_two _ _ _⟩
  · have hr := Lib.hid (hR.trans (bn_ne (b := ⟨k, x, y, E, ts⟩) (b' := ⟨k', x', y', E', ts'⟩) (.inl h1)))
    have q1 : (k != k') = true := by rw [bne_iff_ne]; exact h1
    clear h1
    clear hR
    go_enter Tryz.func12, Tryz.ntmps12
    go_wp2_with fail
    go_ret
    rw [hr.out]
    exact ⟨rfl, below_two _ _ _⟩
end Go.Proofs.YtamhpgledbmnoaaGreat
