/-
  Benches: how they read, whether they are valid, how the laws weigh, copy and compare them.
  Conditions: as stated at each.
-/
import Derived.Test.YtamhpgledbmnoaaGreatDoorKP
import Derived.Test.YtamhpgledbmnoaaGreatDoorKE
import Derived.Test.YtamhpgledbmnoaaGreatDoorKT
import Derived.Test.YtamhpgledbmnoaaGreatDoorKV
import Derived.Lib.SmallJoins
namespace Go.Proofs.YtamhpgledbmnoaaGreatDoor.Pl
set_option linter.unusedVariables false
/-- A bench: a width, two words, an expression, the texts of before. -/
structure Bn where
  k : Int
  x : Int
  y : Int
  e : List Int
  past : List (List UInt8)
deriving DecidableEq
def isTxt (s : List UInt8) : Bool := (readE s).isSome
def benchValid (b : Bn) : Bool := (v2 b.k b.x b.y && exprValid b.e && decide (b.past.length ≤ 20)) && b.past.all isTxt
theorem all_f {ts : List (List UInt8)} {j : Nat} {s : List UInt8} (h : ts[j]? = some s) (hs : isTxt s = false) : ts.all isTxt = false := by
  rw [List.all_eq_false]
  exact ⟨s, List.mem_of_getElem? h, by rw [hs]; decide⟩
theorem all_t {ts : List (List UInt8)} (h : ∀ t, t < ts.length → ∀ s, ts[t]? = some s → isTxt s = true) : ts.all isTxt = true := by
  rw [List.all_eq_true]
  intro s hs
  obtain ⟨j, hj, rfl⟩ := List.mem_iff_getElem.1 hs
  exact h j hj _ (List.getElem?_eq_getElem hj)
theorem bv_f {b : Bn} (h : (v2 b.k b.x b.y && exprValid b.e && decide (b.past.length ≤ 20)) = false) : benchValid b = false := by unfold benchValid; rw [h]; rfl
theorem bv_t {b : Bn} (h : (v2 b.k b.x b.y && exprValid b.e && decide (b.past.length ≤ 20)) = true) : benchValid b = b.past.all isTxt := by unfold benchValid; rw [h]; rfl
theorem bv_all {b : Bn} (h : b.past.all isTxt = false) : benchValid b = false := by unfold benchValid; rw [h, Bool.and_false]
theorem bv_past {b : Bn} (h : b.past.all isTxt = true) : benchValid b = (v2 b.k b.x b.y && exprValid b.e && decide (b.past.length ≤ 20)) := by unfold benchValid; rw [h, Bool.and_true]
theorem bv_parts {b : Bn} (h : benchValid b = true) : v2 b.k b.x b.y = true ∧ exprValid b.e = true ∧ b.past.length ≤ 20 ∧ b.past.all isTxt = true := by
  unfold benchValid at h
  simp only [Bool.and_eq_true, decide_eq_true_eq] at h
  exact ⟨h.1.1.1, h.1.1.2, h.1.2, h.2⟩
/-- The texts of before, with one more behind; the first one is gone if there are more than 20. -/
def pushP (ps : List (List UInt8)) (t : List UInt8) : List (List UInt8) := if 20 < ps.length + 1 then (ps ++ [t]).drop 1 else ps ++ [t]
/-- A bench with another expression. -/
def setB (b : Bn) (e : List Int) : Bn := ⟨b.k, b.x, b.y, e, pushP b.past (exprText b.e)⟩
theorem pushP_t {ps : List (List UInt8)} {t : List UInt8} (h : 20 < ps.length + 1) : pushP ps t = (ps ++ [t]).drop 1 := by unfold pushP; rw [if_pos h]
theorem pushP_f {ps : List (List UInt8)} {t : List UInt8} (h : ¬ 20 < ps.length + 1) : pushP ps t = ps ++ [t] := by unfold pushP; rw [if_neg h]
def benchValue (b : Bn) : Int := if benchValid b = true then value b.k b.e b.x b.y else -1
theorem bval_t {b : Bn} (h : benchValid b = true) : benchValue b = value b.k b.e b.x b.y := by unfold benchValue; rw [if_pos h]
theorem bval_f {b : Bn} (h : benchValid b = false) : benchValue b = -1 := by unfold benchValue; rw [h]; rfl
theorem bval_o {b : Bn} (h : benchValid b = true) : valueOf b.k b.e b.x b.y = benchValue b := by
  obtain ⟨h1, h2, _⟩ := bv_parts h
  rw [bval_t h, valueOf_t h2 h1]
/-- A deed: its kind, its number, its text. -/
structure Dd where
  k : Int
  n : Int
  t : List UInt8
deriving DecidableEq
def zeroB : Bn := ⟨0, 0, 0, [], []⟩
/-- The bench that a deed leads to, if it can be done. -/
def stepB (b : Bn) (d : Dd) : Option Bn :=
  if d.k = 0 then (if d.t = [] ∧ wvB b.k d.n = true then some ⟨b.k, d.n, b.y, b.e, b.past⟩ else none)
  else if d.k = 1 then (if d.t = [] ∧ wvB b.k d.n = true then some ⟨b.k, b.x, d.n, b.e, b.past⟩ else none)
  else if d.k = 2 then (if d.n = 0 then (readE d.t).bind (fun e => if e = b.e then none else some (setB b e)) else none)
  else if d.k = 3 then (if d.n = 0 ∧ d.t = [] then (if exprSimple b.e = b.e then none else some (setB b (exprSimple b.e))) else none)
  else if d.k = 4 then (if d.n = 0 ∧ d.t = [] then (shortFor b.e).bind (fun e => if e = b.e then none else some (setB b e)) else none)
  else if d.k = 5 then (if d.n = 0 ∧ d.t = [] then b.past.getLast?.map (fun s => ⟨b.k, b.x, b.y, (readE s).getD [], b.past.dropLast⟩) else none)
  else none
/-- The bench after a deed, and whether it was done. -/
def doB (b : Bn) (d : Dd) : Bn × Bool := if benchValid b = true then (match stepB b d with | some b' => (b', true) | none => (b, false)) else (zeroB, false)
theorem doB_f {b : Bn} {d : Dd} (h : benchValid b = false) : doB b d = (zeroB, false) := by unfold doB; rw [h]; rfl
theorem doB_some {b b' : Bn} {d : Dd} (h : benchValid b = true) (h' : stepB b d = some b') : doB b d = (b', true) := by unfold doB; rw [if_pos h, h']
theorem doB_none {b : Bn} {d : Dd} (h : benchValid b = true) (h' : stepB b d = none) : doB b d = (b, false) := by unfold doB; rw [if_pos h, h']
end Go.Proofs.YtamhpgledbmnoaaGreatDoor.Pl
namespace Go.Proofs.YtamhpgledbmnoaaGreatDoor
set_option linter.unusedVariables false
set_option linter.unusedSimpArgs false
open Go.RowKit

/-- A bench as a value. -/
def benchV (W X Y : Int) (A : Option Addr) (n c : Nat) (P : Option Addr) (pn pc : Nat) : Value := .agg #[.int .i64 W, .int .i64 X, .int .i64 Y, .slice A n c, .slice P pn pc]
/-- The numbers of a new bench's expression. -/
def newE (k : Int) : List Int := if 1 ≤ k ∧ k ≤ 12 then [10] else []
def newW (k : Int) : Int := if 1 ≤ k ∧ k ≤ 12 then k else 0
def OutBn (k : Int) (w : World) (e : Ending) (w' : World) : Prop :=
  ∃ A c P pc, e = .returned (benchV (newW k) 0 0 A (newE k).length c P 0 pc) ∧ w'.ownsRow w.heap.size 3 1 (.slice A (newE k).length c) (newE k).length (I64 (newE k)) ∧ Below w.heap.size w w'
set_option maxHeartbeats 1000000 in
theorem spec_BenchNew (k : Int) (w : World) : Calls Tryz.prog 42 #[.int .i64 k] w (OutBn k w) := by
  by_cases h : 1 ≤ k ∧ k ≤ 12
  · have h1 := Lib.hid (show newE k = [10] by unfold newE; rw [if_pos h])
    have h2 := Lib.hid (show newW k = k by unfold newW; rw [if_pos h])
    obtain ⟨k0, k1⟩ := h
    go_enter Tryz.func42, Tryz.ntmps42
    go_wp2_with (first | (go_at_call 26; refine (spec_l1In_t _ _ _ _ (by omega)).mono ?_; rintro e w' ⟨rfl, rfl⟩) | go_in)
    refine bodyPost_ret (v := benchV k 0 0 (some ⟨w.heap.size + 1, 0, none⟩) 1 1 (some ⟨w.heap.size + 2, 0, none⟩) 0 0) (by simp [results, Tryz.results42, benchV, go_sem]) rfl ?_
    unfold OutBn
    rw [h1.out, h2.out]
    refine ⟨_, _, _, _, rfl, ?_, by go_grown⟩
    have h := World.ownsRow_lit (base := w.heap.size) (e := 3) (size := 1) (w.alloc (.cells #[.int .i64 k, .int .i64 0, .int .i64 0, .slice (some ⟨w.heap.size + 1, 0, none⟩) 1 1, .slice (some ⟨w.heap.size + 2, 0, none⟩) 0 0] 44)) #[.int .i64 10] 1 (by simp) (by simp [maxLen]) rfl
    have h' : (w.alloc (.cells #[.int .i64 k, .int .i64 0, .int .i64 0, .slice (some ⟨w.heap.size + 1, 0, none⟩) 1 1, .slice (some ⟨w.heap.size + 2, 0, none⟩) 0 0] 44)).heap.size = w.heap.size + 1 := by simp
    rw [h'] at h
    exact h.alloc _
  · have h1 := Lib.hid (show newE k = [] by unfold newE; rw [if_neg h])
    have h2 := Lib.hid (show newW k = 0 by unfold newW; rw [if_neg h])
    go_enter Tryz.func42, Tryz.ntmps42
    go_wp2_with (first | (go_at_call 26; refine (spec_l1In_f _ _ _ _ (by omega)).mono ?_; rintro e w' ⟨rfl, rfl⟩) | go_in)
    refine bodyPost_ret (v := benchV 0 0 0 none 0 0 none 0 0) (by simp [results, Tryz.results42, benchV, go_sem]) rfl ?_
    unfold OutBn
    rw [h1.out, h2.out]
    exact ⟨_, _, _, _, rfl, World.ownsRow_nil _ _ _ _, by go_grown⟩
end Go.Proofs.YtamhpgledbmnoaaGreatDoor
namespace Go.Proofs.YtamhpgledbmnoaaGreatDoor
set_option linter.unusedVariables false
set_option linter.unusedSimpArgs false
open Go.RowKit
/-- Texts as values. -/
def Tx (ts : List (List UInt8)) : List Value := ts.map fun s => .string (Ba s)
theorem Tx_len (ts : List (List UInt8)) : (Tx ts).length = ts.length := by simp [Tx]
theorem Tx_get {ts : List (List UInt8)} {j : Nat} {s : List UInt8} (h : ts[j]? = some s) : (Tx ts)[j]? = some (.string (Ba s)) := by simp [Tx, h]
theorem Tx_append (a b : List (List UInt8)) : Tx (a ++ b) = Tx a ++ Tx b := by simp [Tx]
theorem texts_differ {xs ys : List (List UInt8)} {k : Nat} {x y : List UInt8} (hx : xs[k]? = some x) (hy : ys[k]? = some y) (h : x ≠ y) : xs ≠ ys := by
  rintro rfl
  rw [hx] at hy
  exact h (by injection hy)
theorem texts_meet {xs ys : List (List UInt8)} {n : Nat} (hx : xs.length = n) (hy : ys.length = n) (h : ∀ j, j < n → xs[j]? = ys[j]?) : xs = ys := by
  apply List.ext_getElem?
  intro i
  rcases Nat.lt_or_ge i n with hi | hi
  · exact h i hi
  · rw [List.getElem?_eq_none (by omega), List.getElem?_eq_none (by omega)]
theorem str_info : (Tryz.prog.info? 9).map (fun i => (i.zero, i.size, i.bytes)) = some (some (.string ByteArray.empty), 1, 16) := by kernel_rfl
/-- A slice of texts of the call's own. -/
def OwnTx (B : Nat) (ts : List (List UInt8)) (w : World) (e : Ending) (w' : World) : Prop :=
  ∃ A c, e = .returned (.slice A ts.length c) ∧ w'.ownsRow B 9 1 (.slice A ts.length c) ts.length (Tx ts) ∧ Below B w w'
theorem ownTx_mk {B : Nat} {ts : List (List UInt8)} {w w' : World} {v : Value} (h : w'.ownsRow B 9 1 v ts.length (Tx ts)) (hb : Below B w w') : OwnTx B ts w (.returned v) w' := by
  obtain ⟨A, c, rfl, _⟩ := Rd.of_own h
  exact ⟨A, c, rfl, h, hb⟩
theorem ownTx_n {B n : Nat} {ts : List (List UInt8)} {w w' : World} {e : Ending} (h : OwnTx B ts w e w') (hn : ts.length = n) :
    ∃ A c, e = .returned (.slice A n c) ∧ w'.ownsRow B 9 1 (.slice A n c) n (Tx ts) ∧ Below B w w' := by
  subst hn
  exact h
/-- How many letters texts have together. -/
def lens (ts : List (List UInt8)) : Int := ((ts.map List.length).sum : Nat)
theorem lens_nonneg (ts : List (List UInt8)) : 0 ≤ lens ts := by unfold lens; omega
theorem lens_snoc {ts : List (List UInt8)} {j : Nat} {s : List UInt8} (h : ts[j]? = some s) : lens (ts.take (j + 1)) = lens (ts.take j) + s.length := by
  unfold lens
  rw [List.take_add_one, h]
  simp
theorem lens_take (ts : List (List UInt8)) (j : Nat) : lens (ts.take j) ≤ lens ts := by
  have h : lens ts = lens (ts.take j) + lens (ts.drop j) := by
    unfold lens
    rw [← Int.natCast_add, ← List.sum_append_nat, ← List.map_append, List.take_append_drop]
  have := lens_nonneg (ts.drop j)
  omega
theorem lens_mem {ts : List (List UInt8)} {s : List UInt8} (h : s ∈ ts) : (s.length : Int) ≤ lens ts := by
  obtain ⟨j, hj, rfl⟩ := List.mem_iff_getElem.1 h
  have h1 := lens_snoc (List.getElem?_eq_getElem hj)
  have h2 := lens_take ts (j + 1)
  have h3 := lens_nonneg (ts.take j)
  omega
/-- What is left of a measure. -/
def szT (left : Int) (ts : List (List UInt8)) : Int := if left - ts.length - lens ts < 0 then -1 else left - ts.length - lens ts
end Go.Proofs.YtamhpgledbmnoaaGreatDoor
namespace Go.Proofs.YtamhpgledbmnoaaGreatDoor
set_option linter.unusedVariables false
set_option linter.unusedSimpArgs false
open Go.RowKit
set_option maxHeartbeats 1000000 in
theorem impl_isText (s : List UInt8) (w : World) (hs : s.length ≤ 1000000000000) : Calls Tryz.prog 24 #[.string (Ba s)] w fun e w' => e = .returned (.bool (Pl.isTxt s)) ∧ Below w.heap.size w w' := by
  have CI := Lib.hid (impl_ReadExpr s w hs)
  go_enter Tryz.func24, Tryz.ntmps24
  go_wp2_with fail
  refine (CI.out).mono ?_
  rintro e w1 ⟨ys, A, c, _, rfl, _, hb⟩
  go_wp2_with fail
  go_ret
  exact ⟨rfl, hb⟩
set_option maxHeartbeats 2000000 in
theorem spec_BenchValid (b : Pl.Bn) (A P : Option Addr) (n c m d B : Nat) (w : World) (hx : Rd w B A n (I64 b.e)) (hp : Rd w B P m (Tx b.past)) (hB : B ≤ w.heap.size) (hn : n ≤ 1000000000000) (hm : m ≤ 1000000000000) (hs : ∀ s ∈ b.past, s.length ≤ 2000000) :
    Calls Tryz.prog 61 #[benchV b.k b.x b.y A n c P m d] w fun e w' => e = .returned (.bool (Pl.benchValid b)) ∧ Below w.heap.size w w' := by
  obtain ⟨k, x, y, E, ts⟩ := b
  have lx : ts.length = m := by have := hp.len; rwa [Tx_len] at this
  have cv := fun w' => spec_ExprValid A n c B E w'
  have HP := Lib.hid hp
  have HX := Lib.hid hx
  have HS := Lib.hid hs
  have HL := Lib.hid lx
  obtain ⟨wb, hwb⟩ : ∃ wb, wb = w.alloc (.cells #[.int .i64 k, .int .i64 x, .int .i64 y, .slice A n c, .slice P m d] 44) := ⟨_, rfl⟩
  have hzb : wb.heap.size = w.heap.size + 1 := by rw [hwb]; simp
  have d0 : ∀ j u, #[Value.int .i64 k, .int .i64 x, .int .i64 y, .slice A n c, .slice P m d][j]? = some u → wb.cell? ⟨w.heap.size, j, none⟩ = some u := fun j u h => by rw [hwb, cell_of_row _ _ _ _ _ _ (heap_alloc_new w _)]; exact h
  have hbb : Below w.heap.size w wb := by rw [hwb]; exact (Below.refl _ _).alloc (Nat.le_refl _) _
  have D0 := Lib.hid d0
  unfold benchV
  clear hx hp hs lx d0
  go_enter Tryz.func61, Tryz.ntmps61
  go_wp2_with fail
  rw [← hwb]
  clear hwb
  go_loopw [3] (fun i wr => ∃ j : Nat, j ≤ m ∧ i = .int .i64 j ∧ Hid (∀ t, t < j → ∀ s, ts[t]? = some s → Pl.isTxt s = true) ∧ Below wb.heap.size wb wr) (fun i _ => m - (intOf i).toNat)
  case atStart => exact ⟨0, by omega, rfl, fun t ht => absurd ht (by omega), Below.refl _ _⟩
  case round =>
    obtain ⟨j, hj, rfl, hall, hb⟩ := hrel
    have hz := hb.size
    have hbw := hbb.trans (hb.mono (by omega))
    have hcell : ∀ i, wr.cell? ⟨w.heap.size, i, none⟩ = wb.cell? ⟨w.heap.size, i, none⟩ := fun i => hb.cell (p := ⟨w.heap.size, i, none⟩) (show w.heap.size < wb.heap.size by omega)
    have c4 : wr.cell? ⟨w.heap.size, 4, none⟩ = some (.slice P m d) := (hcell 4).trans (D0.out 4 _ rfl)
    by_cases hlt : j < m
    · obtain ⟨b, off, rfl, hbl, hc⟩ := HP.out.pos (by omega)
      obtain ⟨s, es⟩ : ∃ s, ts[j]? = some s := ⟨_, List.getElem?_eq_getElem (by have := HL.out; omega)⟩
      have c1 : wr.cell? ⟨b, off + j, none⟩ = some (.string (Ba s)) := (hbw.cell (p := ⟨b, off + j, none⟩) (show b < w.heap.size by omega)).trans (hc j _ (Tx_get es))
      have hsl := HS.out s (List.mem_of_getElem? es)
      have ES := Lib.hid es
      have hin : (j : Int) < m := by omega
      have hj0 : (0 : Int) ≤ j := by omega
      have CT := Lib.hid (spec_ReadExpr s wr hsl)
      clear hc es hcell
      go_wp2_with fail
      refine (CT.out).mono ?_
      rintro e w1 ⟨ys, A1, c1', _, rfl, _, hb1⟩
      have hb2 := hb.trans (hb1.mono hz)
      have hbe := hbw.trans (hb1.mono (by omega))
      cases ht : (Pl.readE s).isSome
      · have hr := Lib.hid (Pl.bv_all (b := ⟨k, x, y, E, ts⟩) (Pl.all_f ES.out ht))
        clear ht
        go_wp2_with fail
        go_ret
        rw [hr.out]
        exact ⟨rfl, hbe⟩
      · have HT := Lib.hid (show Pl.isTxt s = true from ht)
        clear ht
        go_wp2_with fail
        go_roundw
        case rel =>
          refine ⟨j + 1, by omega, by go_num, fun t ht s' hs' => ?_, hb2⟩
          rcases Nat.lt_or_ge t j with h | h
          · exact hall.out t h s' hs'
          · obtain rfl : t = j := by omega
            rw [ES.out] at hs'
            injection hs' with hs'
            rw [← hs']
            exact HT.out
        case measure => simp [intOf]; omega
    · obtain rfl : j = m := by omega
      have hr := Lib.hid (Pl.bv_past (b := ⟨k, x, y, E, ts⟩) (Pl.all_t (fun t ht s hs => hall.out t (by rw [← HL.out]; exact ht) s hs)))
      have c0 : wr.cell? ⟨w.heap.size, 0, none⟩ = some (.int .i64 k) := (hcell 0).trans (D0.out 0 _ rfl)
      have c1 : wr.cell? ⟨w.heap.size, 1, none⟩ = some (.int .i64 x) := (hcell 1).trans (D0.out 1 _ rfl)
      have c2 : wr.cell? ⟨w.heap.size, 2, none⟩ = some (.int .i64 y) := (hcell 2).trans (D0.out 2 _ rfl)
      have c3 : wr.cell? ⟨w.heap.size, 3, none⟩ = some (.slice A n c) := (hcell 3).trans (D0.out 3 _ rfl)
      have hl20 := Lib.hid HL.out
      clear hcell
      cases hv : Pl.v2 k x y
      · go_wp2_with (first | (go_at_call 85; refine (spec_l1Both _ _ _ _).mono ?_; rintro e w' ⟨rfl, rfl⟩))
        go_ret
        rw [hr.out]
        exact ⟨ret_bool (by simp [hv]), hbw⟩
      · cases he : Pl.exprValid E
        · rw [he] at cv
          go_wp2_with (first | (go_at_call 85; refine (spec_l1Both _ _ _ _).mono ?_; rintro e w' ⟨rfl, rfl⟩))
          refine (cv _ (HX.out.below (hbw.mono hB)) hn).mono ?_
          rintro e w' ⟨rfl, rfl⟩
          go_wp2_with fail
          go_ret
          rw [hr.out]
          exact ⟨ret_bool (by simp [hv, he]), hbw⟩
        · rw [he] at cv
          go_wp2_with (first | (go_at_call 85; refine (spec_l1Both _ _ _ _).mono ?_; rintro e w' ⟨rfl, rfl⟩))
          refine (cv _ (HX.out.below (hbw.mono hB)) hn).mono ?_
          rintro e w' ⟨rfl, rfl⟩
          go_wp2_with fail
          all_goals go_ret
          all_goals rw [hr.out]
          all_goals exact ⟨ret_bool (by simp [hv, he, hl20.out]; try omega), hbw⟩
end Go.Proofs.YtamhpgledbmnoaaGreatDoor
namespace Go.Proofs.YtamhpgledbmnoaaGreatDoor
set_option linter.unusedVariables false
set_option linter.unusedSimpArgs false
open Go.RowKit Go.ChangeShapes Go.WideShapes
theorem addr_add (b off j : Nat) : (⟨b, off, none⟩ : Addr).add j = ⟨b, off + j, none⟩ := by
  unfold Addr.add
  split
  · rename_i h0; subst h0; rfl
  · rfl
theorem rd_of_cells {w : World} {x : Addr} {vs : List Value} {len : Nat} (hl : len ≤ vs.length) (hc : ∀ i u, vs[i]? = some u → w.cell? (x.add i) = some u) : Rd w w.heap.size (some x) len (vs.take len) := by
  refine ⟨by rw [List.length_take]; omega, ?_⟩
  rcases Nat.eq_zero_or_pos len with h0 | h0
  · exact .inl h0
  · obtain ⟨b, off, spot⟩ := x
    have h1 := hc 0 _ (List.getElem?_eq_getElem (by omega))
    have hspot : spot = none := by simpa [Addr.add] using World.cell?_spot h1
    subst hspot
    refine .inr ⟨b, off, rfl, ?_, fun j u hu => ?_⟩
    · have := World.block_lt_of_cell? w _ h1
      rwa [block_of_add] at this
    · have hj : j < len := by
        have := (List.getElem?_eq_some_iff.1 hu).1
        rw [List.length_take] at this
        omega
      rw [List.getElem?_take_of_lt hj] at hu
      have h2 := hc j u hu
      rwa [addr_add] at h2
theorem array5 {α : Type} {cs : Array α} (h : cs.size = 5) : ∃ c0 c1 c2 c3 c4, cs = #[c0, c1, c2, c3, c4] := by
  obtain ⟨l⟩ := cs
  match l, h with
  | [c0, c1, c2, c3, c4], _ => exact ⟨c0, c1, c2, c3, c4, rfl⟩
/-- What is told of a bench that came in. -/
def IsBench (w : World) (v : Value) : Prop := ∃ (b : Pl.Bn) (A P : Option Addr) (n c m d : Nat), v = benchV b.k b.x b.y A n c P m d ∧ Rd w w.heap.size A n (I64 b.e) ∧ Rd w w.heap.size P m (Tx b.past) ∧ n ≤ maxLen ∧ m ≤ maxLen ∧ ∀ s ∈ b.past, s.length ≤ maxLen
section
variable {H : Type} {enc : TypeId × Value → H}
theorem ints_field {w : World} {base fuel : Nat} {spare : Nat → Bool} {held : Bool} {u : Value} {y : DataW H × List MemPlace} (h : DataW.trod enc Tryz.prog w base spare held fuel 41 [u] = some y) :
    ∃ A n c xs, u = .slice A n c ∧ Rd w w.heap.size A n (I64 xs) ∧ n ≤ maxLen := by
  rcases open_ints Tryz.underlying41 Tryz.underlying3 (by kernel_rfl) h with ⟨hcs, _⟩ | ⟨x, l, c, zs, hcs, _, hl, hm, hz, hx, hcell, hwz⟩
  · injection hcs with hcs
    exact ⟨none, 0, 0, [], hcs, Rd.zero, by simp [maxLen]⟩
  · injection hcs with hcs
    have hll : l ≤ zs.length := by rw [hz]; split <;> omega
    have := rd_of_cells (w := w) (x := x) (vs := I64 zs) (len := l) (by rw [I64_len]; exact hll) (fun i u hu => by
      have hi : i < zs.length := by have := (List.getElem?_eq_some_iff.1 hu).1; rwa [I64_len] at this
      rw [hcell i hi]
      have e := I64_getD hi
      rw [e] at hu
      exact hu)
    rw [I64_take] at this
    exact ⟨some x, l, c, zs.take l, hcs, this, by omega⟩
theorem texts_field {w : World} {base fuel : Nat} {spare : Nat → Bool} {held : Bool} {u : Value} {y : DataW H × List MemPlace} (h : DataW.trod enc Tryz.prog w base spare held fuel 42 [u] = some y) :
    ∃ A n c ts, u = .slice A n c ∧ Rd w w.heap.size A n (Tx ts) ∧ n ≤ maxLen ∧ ∀ s ∈ ts, s.length ≤ maxLen := by
  rcases open_strings Tryz.underlying42 Tryz.underlying9 (by kernel_rfl) h with ⟨hcs, _⟩ | ⟨x, l, c, ss, hcs, _, hl, hm, hz, hx, hcell, hws⟩
  · injection hcs with hcs
    exact ⟨none, 0, 0, [], hcs, Rd.zero, by simp [maxLen], fun s hs => by cases hs⟩
  · injection hcs with hcs
    have hll : l ≤ ss.length := by rw [hz]; split <;> omega
    have hget : ∀ i, i < ss.length → (Tx (ss.map (fun s => s.data.toList)))[i]? = some (.string (ss.getD i ByteArray.empty)) := fun i hi => by
      simp [Tx, hi, List.getD_eq_getElem?_getD, Ba]
    have := rd_of_cells (w := w) (x := x) (vs := Tx (ss.map (fun s => s.data.toList))) (len := l) (by rw [Tx_len, List.length_map]; exact hll) (fun i u hu => by
      have hi : i < ss.length := by have := (List.getElem?_eq_some_iff.1 hu).1; rwa [Tx_len, List.length_map] at this
      rw [hcell i hi]
      rw [hget i hi] at hu
      exact hu)
    have e : (Tx (ss.map (fun s => s.data.toList))).take l = Tx ((ss.map (fun s => s.data.toList)).take l) := by simp [Tx, List.map_take]
    rw [e] at this
    refine ⟨some x, l, c, _, hcs, this, by omega, fun s hs => ?_⟩
    obtain ⟨b, hb, rfl⟩ := List.mem_map.1 (List.mem_of_mem_take hs)
    exact hws b hb
end
end Go.Proofs.YtamhpgledbmnoaaGreatDoor
namespace Go.Proofs.YtamhpgledbmnoaaGreatDoor
set_option linter.unusedVariables false
set_option linter.unusedSimpArgs false
open Go.RowKit
/-- What is left of the measure behind a bench. -/
def szB (n : Nat) (ts : List (List UInt8)) : Int := if (1048576 : Int) - (n : Int) < 0 then -1 else szT (1048576 - n) ts
theorem szT_neg {u : Int} {ts : List (List UInt8)} (h : szT u ts < 0) : szT u ts = -1 := by
  unfold szT at h ⊢
  split
  · rfl
  · rename_i h1
    rw [if_neg h1] at h
    omega
theorem szB_f {n : Nat} {ts : List (List UInt8)} (h : ¬ szB n ts < 0) : n ≤ 1048576 ∧ ts.length ≤ 1048576 ∧ ∀ s ∈ ts, s.length ≤ 1048576 := by
  unfold szB szT at h
  have h0 := lens_nonneg ts
  split at h
  · omega
  · split at h
    · omega
    · refine ⟨by omega, by omega, fun s hs => ?_⟩
      have := lens_mem hs
      omega
theorem setc_grown {w : World} {g o : Nat} (u : Value) : w.grownBy (w.setCell ⟨g, o, none⟩ u) (some g) :=
  ⟨rfl, rfl, rfl, by simp [World.setCell], fun i hi hne => Below.heap_setCell w ⟨g, o, none⟩ u i (by rintro rfl; exact hne rfl)⟩
theorem own_setc {w : World} {base size n g o : Nat} {e : TypeId} {v : Value} {xs : List Value} (h : w.ownsRow base e size v n xs) (hg : g < base) (u : Value) : (w.setCell ⟨g, o, none⟩ u).ownsRow base e size v n xs :=
  h.kept (setc_grown u) (by
    cases hv : v.ownBlock with
    | none => exact .inl rfl
    | some k => exact .inr (fun e => by injection e with e; have := (h.lt k hv).1; omega))
/-- A bench of the call's own, as toBench leaves it. -/
def OutTo (b : Pl.Bn) (n m : Nat) (w : World) (e : Ending) (w' : World) : Prop := ∃ (A P : Option Addr) (c d : Nat), e = .returned (benchV b.k b.x b.y A n c P m d) ∧
  w'.ownsRow w.heap.size 3 1 (.slice A n c) n (I64 b.e) ∧ w'.ownsRow w.heap.size 9 1 (.slice P m d) m (Tx b.past) ∧ Below w.heap.size w w'
end Go.Proofs.YtamhpgledbmnoaaGreatDoor
namespace Go.Proofs.YtamhpgledbmnoaaGreatDoor
set_option linter.unusedVariables false
set_option linter.unusedSimpArgs false
open Go.RowKit
theorem bn_ne {b b' : Pl.Bn} (h : b.k ≠ b'.k ∨ b.x ≠ b'.x ∨ b.y ≠ b'.y ∨ b.e ≠ b'.e ∨ b.past ≠ b'.past) : decide (b = b') = false := by
  apply decide_eq_false
  rintro rfl
  rcases h with h | h | h | h | h <;> exact h rfl
theorem bn_eq {b b' : Pl.Bn} (h1 : b.k = b'.k) (h2 : b.x = b'.x) (h3 : b.y = b'.y) (h4 : b.e = b'.e) (h5 : b.past = b'.past) : decide (b = b') = true := by
  apply decide_eq_true
  cases b; cases b'
  simp at h1 h2 h3 h4 h5
  simp [h1, h2, h3, h4, h5]
theorem below_two (w : World) (o o' : Obj) : Below w.heap.size w ((w.alloc o).alloc o') := ((Below.refl _ _).alloc (Nat.le_refl _) _).alloc (by simp) _
end Go.Proofs.YtamhpgledbmnoaaGreatDoor
