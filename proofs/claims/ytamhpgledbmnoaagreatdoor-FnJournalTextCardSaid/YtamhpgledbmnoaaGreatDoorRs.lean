/-
  The given reader of one deed.
  Conditions: as stated.
-/
import Derived.Test.YtamhpgledbmnoaaGreatDoorSd
import Derived.Test.YtamhpgledbmnoaaGreatDoorDq
import Derived.Test.YtamhpgledbmnoaaGreatDoorOa
import Derived.Deep.RegionHeld3
import Derived.Deep.AppendLies
namespace Go.Proofs.YtamhpgledbmnoaaGreatDoor
set_option linter.unusedVariables false
set_option linter.unusedSimpArgs false
open Go.RowKit
section
variable {w : World} {ops : Array Oper} {rest : List Oper} {o : Oper} {a : Act} {Q : Exit → Act → World → Prop}
/-- Deeds behind a row of deeds. -/
theorem app_deedB (hgd : o.guard = none) (s x : Operand)
    (ho : o.op = .call { callee := .builtin .append, args := #[s, x], argTypes := #[32, 32] })
    (base : Nat) (v : Value) (n : Nat) (xs : List Pl.Dd) (hs : a.eval s = v) (hown : w.ownsRow base 24 3 v n (D3 xs))
    (b m c2 : Nat) (ys : List Pl.Dd) (cs : Array Value) (hx : a.eval x = .slice (some ⟨b, 0, none⟩) m c2) (hm : ys.length = m) (hb : Blk w b 24 cs) (hcs : cs.toList = D3 ys)
    (hn : n ≤ 100000000) (hml : m ≤ 1000000) (hm0 : 0 < m) (hbase : base ≤ w.heap.size)
    (h : ∀ A' c' w', w'.ownsRow base 24 3 (.slice A' (n + m) c') (n + m) (D3 (xs ++ ys)) → Below base w w' → wpList Tryz.prog ops Q rest (a.put o.dst (.slice A' (n + m) c')) w') :
    wpList Tryz.prog ops Q (o :: rest) a w := by
  obtain ⟨i0, hi0, hz0, hz1, hz2⟩ := info_parts deed_infoA
  subst hm
  refine wpList_append_own _ hgd s x _ ho base 24 i0 _ 3 32 Tryz.underlying32 hi0 hz0 hz1 hz2 rfl (by decide) v n (D3 xs) hs hown ⟨b, 0, none⟩ _ c2 (D3 ys) hx (by rw [D3_len])
    (fun j u hu => ?_) (fun u hu => ?_) (by simp only [maxLen]; omega) (by omega) hbase
    (fun v' w' h2 h3 _ => by
      have h2' : w'.ownsRow base 24 3 v' (n + ys.length) (D3 (xs ++ ys)) := by rw [D3_append]; exact h2
      obtain ⟨A', c', rfl⟩ := own_form3 h2'
      exact h A' c' w' h2' ((Below.refl base w).grown h3 hbase (fun k hk => (hown.lt k hk).1)))
  · have e : (⟨b, 0, none⟩ : Addr).add j = ⟨b, j, none⟩ := by
      unfold Addr.add
      split
      · rename_i h0; subst h0; rfl
      · simp
    rw [e, hb.cell, ← Array.getElem?_toList, hcs]
    exact hu
  · rw [D3, List.mem_flatMap] at hu
    obtain ⟨d, _, hu⟩ := hu
    simp [d3] at hu
    rcases hu with rfl | rfl | rfl <;> rfl
variable {K : Act → World → Prop} {E : Prop}
/-- Deeds behind a row of deeds, at a step of a drawn region. -/
theorem step_deedB (hgd : o.guard = none) (s x : Operand)
    (ho : o.op = .call { callee := .builtin .append, args := #[s, x], argTypes := #[32, 32] })
    (base : Nat) (v : Value) (n : Nat) (xs : List Pl.Dd) (hs : a.eval s = v) (hown : w.ownsRow base 24 3 v n (D3 xs))
    (b m c2 : Nat) (ys : List Pl.Dd) (cs : Array Value) (hx : a.eval x = .slice (some ⟨b, 0, none⟩) m c2) (hm : ys.length = m) (hb : Blk w b 24 cs) (hcs : cs.toList = D3 ys)
    (hn : n ≤ 100000000) (hml : m ≤ 1000000) (hm0 : 0 < m) (hbase : base ≤ w.heap.size)
    (h : ∀ A' c' w', w'.ownsRow base 24 3 (.slice A' (n + m) c') (n + m) (D3 (xs ++ ys)) → Below base w w' → K (a.put o.dst (.slice A' (n + m) c')) w') :
    if Region.wanted o (yielded ops a.tmps) = true then Oper.wp Tryz.prog o a w K Q else E := by
  obtain ⟨i0, hi0, hz0, hz1, hz2⟩ := info_parts deed_infoA
  subst hm
  refine step_append_lies w hgd s x _ ho base 24 i0 _ 3 32 Tryz.underlying32 hi0 hz0 hz1 hz2 rfl (by decide) v n (D3 xs) hs hown ⟨b, 0, none⟩ _ c2 (D3 ys) hx (by rw [D3_len])
    (fun j u hu => ?_) (fun u hu => ?_) hm0 (by simp only [maxLen]; omega) (by omega) hbase _ rfl
    (fun g cap w' h2 h3 _ _ => h _ cap w' (by rw [D3_append]; exact h2) ((Below.refl base w).grown h3 hbase (fun k hk => (hown.lt k hk).1)))
  · have e : (⟨b, 0, none⟩ : Addr).add j = ⟨b, j, none⟩ := by
      unfold Addr.add
      split
      · rename_i h0; subst h0; rfl
      · simp
    rw [e, hb.cell, ← Array.getElem?_toList, hcs]
    exact hu
  · rw [D3, List.mem_flatMap] at hu
    obtain ⟨d, _, hu⟩ := hu
    simp [d3] at hu
    rcases hu with rfl | rfl | rfl <;> rfl
end
theorem rd_at {w : World} {base c n : Nat} {A : Option Addr} {xs : List Pl.Dd} {j : Nat} {d : Pl.Dd} (h : w.ownsRow base 24 3 (.slice A n c) n (D3 xs)) (hj : xs[j]? = some d) :
    ∃ b, A = some ⟨b, 0, none⟩ ∧ base ≤ b ∧ b < w.heap.size ∧ w.cell? ⟨b, j * 3, none⟩ = some (.int .i64 d.k) ∧ w.cell? ⟨b, j * 3 + 1, none⟩ = some (.int .i64 d.n) ∧ w.cell? ⟨b, j * 3 + 2, none⟩ = some (.string (Ba d.t)) := by
  have hl := h.1
  rw [D3_len] at hl
  have hj1 := (List.getElem?_eq_some_iff.1 hj).1
  rcases h.2 with ⟨h0, _⟩ | ⟨g, cap, cur, hv, hg, hh, _⟩
  · injection h0 with e1 e2 e3
    omega
  · injection hv with e1 e2 e3
    subst e1
    refine ⟨g, rfl, hg, heap_lt hh, ?_⟩
    obtain ⟨_, _, e, _, hc⟩ := (rdD_own h).pos (by omega)
    injection e with e
    injection e with e1 e2
    subst e1 e2
    have := hc j d hj
    simpa only [Nat.zero_add] using this
theorem own_new {w w' : World} {base size n : Nat} {e : TypeId} {v : Value} {xs : List Value} (h : w.ownsRow base e size v n xs) (hb : Below w.heap.size w w') : w'.ownsRow base e size v n xs :=
  own_keep h fun b _ hl => hb.block b hl
theorem Ba_drop' (s : List UInt8) (k : Nat) : (Ba s).extract k s.length = Ba (s.drop k) := by
  apply ByteArray.ext
  rw [ByteArray.data_extract]
  show (s.toArray).extract k s.length = (s.drop k).toArray
  simp [List.take_of_length_le]
theorem Below.szd {B : Nat} {w w' : World} (h : Below B w w') (hB : B ≤ w.heap.size) : B ≤ w'.heap.size := Nat.le_trans hB h.size
namespace Pl
theorem find_no {cs : List Dd} {P : Dd → Bool} (h : ∀ (j : Nat) (d : Dd), cs[j]? = some d → P d = false) : cs.find? P = none := by
  rw [List.find?_eq_none]
  intro d hd
  obtain ⟨j, hj⟩ := List.getElem?_of_mem hd
  rw [h j d hj]; decide
theorem find_at : ∀ {cs : List Dd} {P : Dd → Bool} {i : Nat} {c : Dd}, (∀ (j : Nat) (d : Dd), j < i → cs[j]? = some d → P d = false) → cs[i]? = some c → P c = true → cs.find? P = some c
  | [], _, _, _, _, hi, _ => by simp at hi
  | a :: cs, P, 0, c, _, hi, hc => by
    simp at hi
    subst hi
    rw [List.find?_cons, hc]
  | a :: cs, P, i + 1, c, h, hi, hc => by
    rw [List.find?_cons, h 0 a (by omega) rfl]
    exact find_at (fun j d hj hd => h (j + 1) d (by omega) hd) hi hc
def cands1 (s : List UInt8) : List Dd := [⟨3, 0, []⟩, ⟨4, 0, []⟩, ⟨5, 0, []⟩] ++ (if 2 < s.length then [⟨0, digits (s.drop 2), []⟩, ⟨1, digits (s.drop 2), []⟩] else [])
theorem cands1_len (s : List UInt8) : (cands1 s).length ≤ 5 := by unfold cands1; split <;> simp
theorem cands_eq (s : List UInt8) : cands s = cands1 s ++ (if 5 < s.length then [⟨2, 0, s.drop 5⟩] else []) := rfl
theorem cands_pos (s : List UInt8) : 0 < (cands s).length := by unfold cands; simp
theorem cands_t (s : List UInt8) (d : Dd) (h : d ∈ cands s) : d.t.length ≤ s.length := by
  rcases List.mem_append.1 h with h | h
  · rcases List.mem_append.1 h with h | h
    · simp at h; rcases h with rfl | rfl | rfl <;> simp
    · split at h
      · simp at h; rcases h with rfl | rfl <;> simp
      · cases h
  · split at h
    · simp at h; subst h; simp
    · cases h
theorem cands_len (s : List UInt8) : (cands s).length ≤ 6 := by unfold cands; split <;> split <;> simp
end Pl
set_option maxRecDepth 100000 in
set_option maxHeartbeats 8000000 in
theorem spec_ReadDeed (s : List UInt8) (w : World) (hs : s.length ≤ 2000000) :
    Calls Tryz.prog 12 #[.string (Ba s)] w (RdO (Pl.readD s) w) := by
  have hsz := Ba_size s
  obtain ⟨g, hg⟩ : ∃ g, w.heap.size = g := ⟨_, rfl⟩
  obtain ⟨w0, hw0⟩ : ∃ w0, w0 = w.alloc (.cells #[.int .i64 0, .int .i64 0, .string ⟨#[]⟩] 24) := ⟨_, rfl⟩
  have hz0 : w0.heap.size = g + 1 := by rw [hw0, ← hg]; simp
  have HB0 : Below g w w0 := by rw [hw0, ← hg]; go_grown
  have K0 : Blk w0 g 24 #[.int .i64 0, .int .i64 0, .string ⟨#[]⟩] := by rw [hw0, ← hg]; exact Blk.new w _ _
  obtain ⟨w1, hw1⟩ : ∃ w1, w1 = w0.alloc (.cells #[.int .i64 3, .int .i64 0, .string ⟨#[]⟩, .int .i64 4, .int .i64 0, .string ⟨#[]⟩, .int .i64 5, .int .i64 0, .string ⟨#[]⟩] 24) := ⟨_, rfl⟩
  have hz1 : w1.heap.size = g + 2 := by rw [hw1]; simp [hz0]
  have HB1 : Below g w w1 := by rw [hw1]; exact HB0.alloc (by omega) _
  have K1 : Blk w1 g 24 #[.int .i64 0, .int .i64 0, .string ⟨#[]⟩] := by rw [hw1]; exact K0.alloc _
  have own1 : w1.ownsRow (g + 1) 24 3 (.slice (some ⟨g + 1, 0, none⟩) 3 3) 3 (D3 [⟨3, 0, []⟩, ⟨4, 0, []⟩, ⟨5, 0, []⟩]) := by
    rw [hw1]
    have := World.ownsRow_lit (base := g + 1) (e := 24) (size := 3) w0 #[.int .i64 3, .int .i64 0, .string ⟨#[]⟩, .int .i64 4, .int .i64 0, .string ⟨#[]⟩, .int .i64 5, .int .i64 0, .string ⟨#[]⟩] 3 (by omega) (by simp [maxLen]) rfl
    rw [hz0] at this
    exact this
  have CD := Lib.hid (fun w' => spec_l10Digits (s.drop 2) w' (by rw [List.length_drop]; omega))
  obtain ⟨x, hx⟩ : ∃ x, Pl.digits (s.drop 2) = x := ⟨_, rfl⟩
  rw [hx] at CD
  have HX := Lib.hid hx
  clear hx
  have hcl := Pl.cands_len s
  have OWN1 := Lib.hid own1
  clear own1
  go_enter Tryz.func12, Tryz.ntmps12
  go_upto_region 1 with (with_reducible refine AtEnd.of ?_)
  rw [← hw0]
  clear hw0 HB0 K0
  go_upto_region 2 with (with_reducible refine AtEnd.of ?_)
  try rw [hz0]
  rw [← hw1]
  clear hw1 hz0
  have ex2 : (Ba s).extract 2 s.length = Ba (s.drop 2) := Ba_drop' s 2
  have ex5 : (Ba s).extract 5 s.length = Ba (s.drop 5) := Ba_drop' s 5
  have hB1 : g + 1 ≤ w1.heap.size := by omega
  have c1l : (Pl.cands1 s).length ≤ 5 := Pl.cands1_len s
  go_upto_if 12 with (fail)
  go_cut [4] from 10 to 23 (fun s4 wx => ∃ (A : Option Addr) (c : Nat), s4 = .slice A (Pl.cands1 s).length c ∧ wx.ownsRow (g + 1) 24 3 (.slice A (Pl.cands1 s).length c) (Pl.cands1 s).length (D3 (Pl.cands1 s)) ∧ Below (g + 1) w1 wx)
  case first =>
    by_cases h2 : 2 < s.length
    · have k2 : (2 : Int) < (s.length : Int) := by omega
      have k2' : (2 : Int) ≤ (s.length : Int) := by omega
      have HC := Lib.hid (show Pl.cands1 s = [⟨3, 0, []⟩, ⟨4, 0, []⟩, ⟨5, 0, []⟩, ⟨0, x, []⟩, ⟨1, x, []⟩] by unfold Pl.cands1; rw [if_pos h2, HX.out]; rfl)
      clear h2
      go_upto_region 3 with (fail)
      go_region_held3 (fun w' => Below (g + 1) w1 w') (first | (exact HBa) | (exact (show Below w1.heap.size w1 _ by go_grown).mono hB1)) (first
        | (go_at_call 34; refine (CD.out _).mono ?_; rintro e w' ⟨rfl, rfl⟩)
        | (refine step_deedB rfl (.tmp 13) (.tmp 22) rfl (g + 1) (.slice (some ⟨g + 1, 0, none⟩) 3 3) 3 [⟨3, 0, []⟩, ⟨4, 0, []⟩, ⟨5, 0, []⟩] (by simp [Act.eval, Act.put]) (own_new OWN1.out (by go_grown)) w1.heap.size 2 2 [⟨0, x, []⟩, ⟨1, x, []⟩] #[.int .i64 0, .int .i64 x, .string ⟨#[]⟩, .int .i64 1, .int .i64 x, .string ⟨#[]⟩] (by simp [Act.eval, Act.put]) rfl (by first | exact Blk.new _ _ _ | exact Blk.new w1.drew _ _) rfl (by omega) (by omega) (by omega) (by simp; omega) ?_; intro A6 c6 wa own6 hb6; have HBa : Below (g + 1) w1 wa := ((show Below w1.heap.size w1 _ by go_grown).mono hB1).trans hb6; have OWN6 := Lib.hid own6; clear own6 hb6))
      all_goals go_wp2_with fail
      all_goals go_meet
      all_goals (rw [HC.out]; exact ⟨_, _, rfl, OWN6.out, HBa⟩)
    · have HC := Lib.hid (show Pl.cands1 s = [⟨3, 0, []⟩, ⟨4, 0, []⟩, ⟨5, 0, []⟩] by unfold Pl.cands1; rw [if_neg h2]; rfl)
      have k2 : ¬ (2 : Int) < (s.length : Int) := by omega
      clear h2
      go_wp2_with fail
      go_meet
      rw [HC.out]
      exact ⟨_, _, rfl, OWN1.out, Below.refl _ _⟩
  case rest =>
    obtain ⟨w2, rfl⟩ : ∃ w2, w2 = wc := ⟨_, rfl⟩
    obtain ⟨A, c, rfl, own2, hb2⟩ := hcut
    have K2 := K1.below hb2 (by omega)
    have HB2 := HB1.trans (hb2.mono (by omega))
    have hz2 := hb2.size
    have hB2 : g + 1 ≤ w2.heap.size := by omega
    clear K1 HB1 OWN1 hb2
    obtain ⟨cs1, hc1⟩ : ∃ cs1, Pl.cands1 s = cs1 := ⟨_, rfl⟩
    obtain ⟨n1, hn1⟩ : ∃ n1, cs1.length = n1 := ⟨_, rfl⟩
    rw [hc1] at own2 c1l
    rw [hc1]
    rw [hn1] at own2 c1l
    rw [hn1]
    have HC1 := Lib.hid hc1
    have HN1 := Lib.hid hn1
    have OWN2 := Lib.hid own2
    clear hc1 hn1 own2
    go_upto_if 26 with (fail)
    go_cut [4] from 24 to 32 (fun s4 wx => ∃ (A : Option Addr) (c : Nat), s4 = .slice A (Pl.cands s).length c ∧ wx.ownsRow (g + 1) 24 3 (.slice A (Pl.cands s).length c) (Pl.cands s).length (D3 (Pl.cands s)) ∧ Below (g + 1) w2 wx)
    case first =>
      by_cases h5 : 5 < s.length
      · have k5 : (5 : Int) < (s.length : Int) := by omega
        have k5' : (5 : Int) ≤ (s.length : Int) := by omega
        have HC := Lib.hid (show Pl.cands s = cs1 ++ [⟨2, 0, s.drop 5⟩] by rw [Pl.cands_eq, if_pos h5, HC1.out])
        clear h5
        go_wp2_with (at_builtin; go_must (refine app_deedB rfl (.tmp 27) (.tmp 31) rfl (g + 1) _ n1 _ rfl (own_alloc OWN2.out _) _ 1 1 [⟨2, 0, s.drop 5⟩] _ (by first | rfl | (go_simp; done)) rfl (Blk.new _ _ _) rfl (by omega) (by omega) (by omega) (by first | exact hB2 | (simp; omega)) ?_; intro A7 c7 wb own7 hb7; have HBb : Below (g + 1) w2 wb := ((Below.refl _ _).alloc hB2 _).trans hb7; have OWN7 := Lib.hid own7; clear own7 hb7))
        go_meet
        rw [HC.out, List.length_append, HN1.out]
        exact ⟨_, _, rfl, OWN7.out, HBb⟩
      · have HC := Lib.hid (show Pl.cands s = cs1 by rw [Pl.cands_eq, if_neg h5, HC1.out, List.append_nil])
        have k5 : ¬ (5 : Int) < (s.length : Int) := by omega
        clear h5
        go_wp2_with fail
        go_meet
        rw [HC.out, HN1.out]
        exact ⟨_, _, rfl, OWN2.out, Below.refl _ _⟩
    case rest =>
      obtain ⟨w3, rfl⟩ : ∃ w3, w3 = wc := ⟨_, rfl⟩
      obtain ⟨A3, c3, rfl, own3, hb3⟩ := hcut
      have K3 := K2.below hb3 (by omega)
      have HB3 := HB2.trans (hb3.mono (by omega))
      have hz3 := hb3.size
      clear K2 HB2 OWN2 hb3 HC1 HN1
      have hr := rdD_own own3
      have htx : ∀ d ∈ Pl.cands s, d.t.length ≤ 2000000 := fun d hd => Nat.le_trans (Pl.cands_t s d hd) hs
      have h3l := Pl.cands_pos s
      have hrd : Pl.readD s = (Pl.cands s).find? fun c => decide (s ≠ [] ∧ Pl.dtext c = s) := rfl
      obtain ⟨cs, hcs⟩ : ∃ cs, Pl.cands s = cs := ⟨_, rfl⟩
      rw [hcs] at own3 hr htx h3l hrd hcl
      rw [hcs]
      obtain ⟨n, hn⟩ : ∃ n, cs.length = n := ⟨_, rfl⟩
      rw [hn] at own3 hr h3l hcl
      rw [hn]
      obtain ⟨b, off, rfl, hbl, hc⟩ := hr.pos h3l
      have HN := Lib.hid hn
      have HRD := Lib.hid hrd
      have HTX := Lib.hid htx
      have HC := Lib.hid hc
      have hsc : (s = [] ∧ (Ba s).toList.isEmpty = true) ∨ (s ≠ [] ∧ (Ba s).toList.isEmpty = false) := by
        rw [Ba_list]
        cases s with
        | nil => exact .inl ⟨rfl, rfl⟩
        | cons a r => exact .inr ⟨by simp, rfl⟩
      clear hc hn htx hrd hcs hr own3 ex2 ex5 CD HX
      go_wp2_with (with_reducible refine AtEnd.of ?_)
      go_loopw [5] (fun vi wr => ∃ j : Nat, j ≤ n ∧ vi = .int .i64 (j : Int) ∧ Hid (∀ (i : Nat) (d : Pl.Dd), i < j → cs[i]? = some d → (fun c => decide (s ≠ [] ∧ Pl.dtext c = s)) d = false) ∧ Below w3.heap.size w3 wr) (fun vi _ => n - (intOf vi).toNat)
      case atStart => exact ⟨0, by omega, rfl, Lib.hid (fun i d h => by omega), Below.refl _ _⟩
      case round =>
        obtain ⟨j, hj, rfl, hno, hb⟩ := hrel
        have hz := hb.size
        by_cases hlt : j < n
        · obtain ⟨⟨p, q, r⟩, eo⟩ : ∃ o, cs[j]? = some o := ⟨_, List.getElem?_eq_getElem (by have := HN.out; omega)⟩
          obtain ⟨u1, u2, u3⟩ := HC.out j _ eo
          have c1 : wr.cell? ⟨b, off + j * 3, none⟩ = some (.int .i64 p) := (hb.cell (p := ⟨b, off + j * 3, none⟩) (show b < w3.heap.size by omega)).trans u1
          have c2 : wr.cell? ⟨b, off + j * 3 + 1, none⟩ = some (.int .i64 q) := (hb.cell (p := ⟨b, off + j * 3 + 1, none⟩) (show b < w3.heap.size by omega)).trans u2
          have c4 : wr.cell? ⟨b, off + j * 3 + 2, none⟩ = some (.string (Ba r)) := (hb.cell (p := ⟨b, off + j * 3 + 2, none⟩) (show b < w3.heap.size by omega)).trans u3
          have hin : (j : Int) < (n : Int) := by omega
          have hj0 : (0 : Int) ≤ j := by omega
          have EO := Lib.hid eo
          have htr := HTX.out _ (List.mem_of_getElem? eo)
          have CT := Lib.hid (spec_DeedText ⟨p, q, r⟩ wr htr)
          obtain ⟨u, hu⟩ : ∃ u, Pl.dtext ⟨p, q, r⟩ = u := ⟨_, rfl⟩
          rw [hu] at CT
          have HU := Lib.hid hu
          clear hu htr eo u1 u2 u3
          unfold deedV at CT
          rcases hsc with ⟨hs0, hbe⟩ | ⟨hs0, hbe⟩
          · have HS0 := Lib.hid hs0
            clear hs0
            go_wp2_with (with_reducible refine AtEnd.of ?_)
            go_roundw
            case rel => exact ⟨j + 1, by omega, by go_num, Lib.hid (fun i d hi hd => decide_eq_false (fun h => h.1 HS0.out)), hb⟩
            case measure => simp [intOf]; omega
          · have HS0 := Lib.hid hs0
            clear hs0
            go_wp2_with (with_reducible refine AtEnd.of ?_)
            refine (CT.out).mono ?_
            rintro e w5 ⟨rfl, hb5⟩
            have hb5' : Below w3.heap.size w3 w5 := hb.trans (hb5.mono hz)
            by_cases he : u = s
            · have HR := Lib.hid (show Pl.readD s = some ⟨p, q, r⟩ from HRD.out.trans (Pl.find_at hno.out EO.out (decide_eq_true ⟨HS0.out, HU.out.trans he⟩)))
              have K5 := K3.below hb5' (by have := K3.lt; omega)
              have HB5 := HB3.trans (hb5'.mono (by omega))
              replace c1 := (hb5.cell (p := ⟨b, off + j * 3, none⟩) (show b < wr.heap.size by omega)).trans c1
              replace c2 := (hb5.cell (p := ⟨b, off + j * 3 + 1, none⟩) (show b < wr.heap.size by omega)).trans c2
              replace c4 := (hb5.cell (p := ⟨b, off + j * 3 + 2, none⟩) (show b < wr.heap.size by omega)).trans c4
              rw [he]
              obtain ⟨⟨a0, a1, a2⟩, e0, e1, e2⟩ := cells3q K5
              have KF := put3d_blk (v0 := .int .i64 p) (v1 := .int .i64 q) (v2 := .string (Ba r)) K5
              have HBF := put3d_below (v0 := .int .i64 p) (v1 := .int .i64 q) (v2 := .string (Ba r)) HB5 (Nat.le_refl g)
              clear he hb5 hb5' hb
              go_wp2_with (with_reducible refine AtEnd.of ?_)
              obtain ⟨wf, hwf⟩ : ∃ wf, wf = put3d w5 g (.int .i64 p) (.int .i64 q) (.string (Ba r)) := ⟨_, rfl⟩
              rw [← hwf] at KF HBF
              unfold put3d at hwf
              rw [← hwf]
              clear hwf
              refine atEnd_ret (results_cell_tmp Tryz.results12 rfl (load_dd KF) rfl) rfl ?_
              rw [HR.out]
              exact ⟨rfl, by rw [hg]; exact HBF⟩
            · have hbn := Ba_ne he
              have HE := Lib.hid he
              clear he hb5
              go_wp2_with (with_reducible refine AtEnd.of ?_)
              go_roundw
              case rel =>
                refine ⟨j + 1, by omega, by go_num, Lib.hid (fun i d hi hd => ?_), hb5'⟩
                rcases Nat.lt_or_ge i j with h | h
                · exact hno.out i d h hd
                · obtain rfl : i = j := by omega
                  rw [EO.out] at hd
                  injection hd with hd
                  subst hd
                  exact decide_eq_false (fun h => HE.out (HU.out.symm.trans h.2))
              case measure => simp [intOf]; omega
        · obtain rfl : j = n := by omega
          have HR := Lib.hid (show Pl.readD s = none from HRD.out.trans (Pl.find_no (fun i d hd => hno.out i d (by have := (List.getElem?_eq_some_iff.1 hd).1; have := HN.out; omega) hd)))
          have K5 := K3.below hb (by have := K3.lt; omega)
          have HB5 := HB3.trans (hb.mono (by omega))
          obtain ⟨⟨a0, a1, a2⟩, e0, e1, e2⟩ := cells3q K5
          have KF := put3d_blk (v0 := .int .i64 0) (v1 := .int .i64 0) (v2 := .string ⟨#[]⟩) K5
          have HBF := put3d_below (v0 := .int .i64 0) (v1 := .int .i64 0) (v2 := .string ⟨#[]⟩) HB5 (Nat.le_refl g)
          clear hb
          go_wp2_with (with_reducible refine AtEnd.of ?_)
          obtain ⟨wf, hwf⟩ : ∃ wf, wf = put3d wr g (.int .i64 0) (.int .i64 0) (.string ⟨#[]⟩) := ⟨_, rfl⟩
          rw [← hwf] at KF HBF
          unfold put3d at hwf
          rw [← hwf]
          clear hwf
          refine atEnd_ret (results_cell_tmp Tryz.results12 rfl (load_dd KF) rfl) rfl ?_
          rw [HR.out]
          exact ⟨rfl, by rw [hg]; exact HBF⟩
end Go.Proofs.YtamhpgledbmnoaaGreatDoor
