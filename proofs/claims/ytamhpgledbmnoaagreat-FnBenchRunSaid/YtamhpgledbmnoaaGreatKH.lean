/-
  The program's short expressions, and rows of lists.
  Conditions: as stated at each.
-/
import Derived.Test.YtamhpgledbmnoaaGreatKR
import Derived.Test.YtamhpgledbmnoaaGreatKE
import Derived.Test.YtamhpgledbmnoaaGreatKP
namespace Go.Proofs.YtamhpgledbmnoaaGreat
set_option linter.unusedVariables false
set_option linter.unusedSimpArgs false
open Go.RowKit
/-- Slices, each of them a row of the call's own that holds a list. -/
def Lists (w : World) (B : Nat) (vs : List Value) (es : List (List Int)) : Prop :=
  vs.length = es.length ∧ ∀ (k : Nat) (e : List Int), es[k]? = some e → ∃ A c, vs[k]? = some (.slice A e.length c) ∧ w.ownsRow B 3 1 (.slice A e.length c) e.length (I64 e)
section
variable {w w' : World} {B : Nat} {vs vs' : List Value} {es es' : List (List Int)}
theorem Lists.nil : Lists w B [] [] := ⟨rfl, fun k e h => by simp at h⟩
theorem Lists.keep (h : Lists w B vs es) (hk : ∀ v n xs, w.ownsRow B 3 1 v n xs → w'.ownsRow B 3 1 v n xs) : Lists w' B vs es :=
  ⟨h.1, fun k e he => by
    obtain ⟨A, c, h1, h2⟩ := h.2 k e he
    exact ⟨A, c, h1, hk _ _ _ h2⟩⟩
theorem Lists.below (h : Lists w B vs es) (hb : Below w.heap.size w w') : Lists w' B vs es := h.keep fun _ _ _ h => own_below h hb
theorem Lists.alloc (h : Lists w B vs es) (o : Obj) : Lists (w.alloc o) B vs es := h.keep fun _ _ _ h => h.alloc o
theorem Lists.drew (h : Lists w B vs es) : Lists w.drew B vs es := h.keep fun _ _ _ h => h.drew
theorem Lists.grown {v : Value} {n : Nat} {xs : List Value} (h : Lists w B vs es) (hown : w.ownsRow B 22 1 v n xs) (hg : w.grownBy w' v.ownBlock) : Lists w' B vs es :=
  h.keep fun _ _ _ h1 => h1.kept hg (rows_apart h1 hown (by decide))
theorem Lists.append (h : Lists w B vs es) (h' : Lists w B vs' es') : Lists w B (vs ++ vs') (es ++ es') := by
  refine ⟨by rw [List.length_append, List.length_append, h.1, h'.1], fun k e he => ?_⟩
  rcases Nat.lt_or_ge k es.length with hk | hk
  · rw [List.getElem?_append_left hk] at he
    rw [List.getElem?_append_left (by rw [h.1]; exact hk)]
    exact h.2 k e he
  · rw [List.getElem?_append_right hk] at he
    rw [List.getElem?_append_right (by rw [h.1]; exact hk), h.1]
    exact h'.2 _ e he
theorem Lists.one {A : Option Addr} {c m : Nat} {e : List Int} (h : w.ownsRow B 3 1 (.slice A m c) m (I64 e)) : Lists w B [.slice A m c] [e] := by
  have hm : e.length = m := own_ilen h
  subst hm
  refine ⟨rfl, fun k e' he => ?_⟩
  rcases k with _ | k
  · simp at he
    subst he
    exact ⟨A, c, rfl, h⟩
  · simp at he
end
/-- A slice that is a row of slices of the call's own, each of them a list. -/
def RowL (w : World) (Bo B : Nat) (v : Value) (es : List (List Int)) : Prop := ∃ vs, w.ownsRow Bo 22 1 v es.length vs ∧ Lists w B vs es
section
variable {w w' : World} {Bo B : Nat} {v : Value} {es : List (List Int)}
theorem RowL.nil : RowL w Bo B (.slice none 0 0) [] := ⟨[], World.ownsRow_nil _ _ _ _, .nil⟩
theorem RowL.below (h : RowL w Bo B v es) (hb : Below w.heap.size w w') : RowL w' Bo B v es := by
  obtain ⟨vs, h1, h2⟩ := h
  exact ⟨vs, own_below h1 hb, h2.below hb⟩
theorem RowL.alloc (h : RowL w Bo B v es) (o : Obj) : RowL (w.alloc o) Bo B v es := by
  obtain ⟨vs, h1, h2⟩ := h
  exact ⟨vs, h1.alloc o, h2.alloc o⟩
theorem RowL.drew (h : RowL w Bo B v es) : RowL w.drew Bo B v es := by
  obtain ⟨vs, h1, h2⟩ := h
  exact ⟨vs, h1.drew, h2.drew⟩
theorem RowL.form (h : RowL w Bo B v es) : ∃ A c, v = .slice A es.length c ∧ es.length ≤ c := by
  obtain ⟨vs, h1, h2⟩ := h
  obtain ⟨A, c, e, h3, _⟩ := Rd.of_own h1
  exact ⟨A, c, e, h3⟩
theorem RowL.lt (h : RowL w Bo B v es) : ∀ k, v.ownBlock = some k → Bo ≤ k ∧ k < w.heap.size := by
  obtain ⟨vs, h1, h2⟩ := h
  exact h1.lt
/-- What lies at a place of the row. -/
theorem RowL.get {A : Option Addr} {n c k : Nat} {e : List Int} (h : RowL w Bo B (.slice A n c) es) (hk : es[k]? = some e) :
    ∃ g Ae ce, A = some ⟨g, 0, none⟩ ∧ g < w.heap.size ∧ w.cell? ⟨g, k, none⟩ = some (.slice Ae e.length ce) ∧ w.ownsRow B 3 1 (.slice Ae e.length ce) e.length (I64 e) := by
  obtain ⟨vs, h1, h2⟩ := h
  obtain ⟨Ae, ce, h3, h4⟩ := h2.2 k e hk
  have hkl : k < es.length := by
    rcases Nat.lt_or_ge k es.length with h | h
    · exact h
    · rw [List.getElem?_eq_none h] at hk; cases hk
  obtain ⟨g, c', e1, hg0, hg1⟩ := own_lt h1 (by omega)
  injection e1 with e1 e2 e3
  subst e1
  subst e2
  exact ⟨g, Ae, ce, rfl, hg1, own_cell h1 h3, h4⟩
theorem RowL.apart {Bo' : Nat} {v' : Value} {es' : List (List Int)} (h : RowL w Bo B v es) (h' : RowL w Bo' B v' es') (hB' : B ≤ Bo') (hg : w.grownBy w' v'.ownBlock) (hne : ∀ k, v.ownBlock = some k → v'.ownBlock ≠ some k) : RowL w' Bo B v es := by
  obtain ⟨vs, h1, h2⟩ := h
  obtain ⟨vs', h3, h4⟩ := h'
  refine ⟨vs, h1.kept hg ?_, h2.grown (h3.mono hB') hg⟩
  cases hv : v.ownBlock with
  | none => exact .inl rfl
  | some k => exact .inr (fun e => hne k hv e.symm)
theorem own_lit2 (w : World) (n m : Int) {B b0 : Nat} (hB : B ≤ w.heap.size) (hb0 : w.heap.size = b0) : (w.alloc (.cells #[.int .i64 n, .int .i64 m] 3)).ownsRow B 3 1 (.slice (some ⟨b0, 0, none⟩) 2 2) 2 (I64 [n, m]) := by
  subst hb0
  exact World.ownsRow_lit (base := B) (e := 3) (size := 1) w (I64 [n, m]).toArray 2 hB (by simp [maxLen]) (by simp [I64_len])
theorem RowL.n {n : Nat} {F : List (List Int)} (h : RowL w Bo B v es) (hes : es = F) (hl : F.length = n) : ∃ A c, v = .slice A n c ∧ n ≤ c ∧ RowL w Bo B (.slice A n c) F := by
  subst hes
  subst hl
  obtain ⟨A, c, rfl, hc⟩ := h.form
  exact ⟨A, c, rfl, hc, h⟩
end
section
variable {w : World} {ops : Array Oper} {rest : List Oper} {o : Oper} {a : Act} {Q : Exit → Act → World → Prop}
/-- A list behind a row of lists. -/
theorem app_row (hgd : o.guard = none) (s x : Operand)
    (ho : o.op = .call { callee := .builtin .append, args := #[s, x], argTypes := #[85, 85] })
    (Bo B : Nat) (v : Value) (es : List (List Int)) (e : List Int) (A : Option Addr) (m c : Nat) (hs : a.eval s = v) (hrow : RowL w Bo B v es) (hnew : w.ownsRow B 3 1 (.slice A m c) m (I64 e))
    (b0 : Nat) (hb0 : w.heap.size = b0) (hx : a.eval x = .slice (some ⟨b0, 0, none⟩) 1 1) (hn : es.length ≤ 1000000) (hbase : Bo ≤ w.heap.size) (hB : B ≤ Bo)
    (h : ∀ v' w', RowL w' Bo B v' (es ++ [e]) → Below Bo w w' → w.grownBy w' v.ownBlock → (v'.ownBlock = v.ownBlock ∨ v'.ownBlock = some (w.heap.size + 1)) → wpList Tryz.prog ops Q rest (a.put o.dst v') w') :
    wpList Tryz.prog ops Q (o :: rest) a (w.alloc (.cells #[.slice A m c] 22)) := by
  subst hb0
  obtain ⟨i0, hi0, hz0, hz1, hz2⟩ := info_parts sl_info
  obtain ⟨vs, hown, hls⟩ := hrow
  refine wpList_append_own_at _ hgd s x _ ho Bo 22 i0 _ 1 24 Tryz.underlying85 hi0 hz0 hz1 hz2 rfl (by decide) v es.length vs hs (hown.alloc _) ⟨w.heap.size, 0, none⟩ 1 1 [.slice A m c] hx rfl
    (cell_one_new _ _ _) (by simp [Value.oneCell']) (by simp only [maxLen]; omega) (by omega) (by simp; omega)
    (fun v' w' h2 h3 _ h5 => h v' w' ⟨vs ++ [.slice A m c], by rw [List.length_append]; exact h2, ?_⟩ (below_of_grown hown hbase h3) ((World.grownBy_alloc w _ _).trans h3) (by simpa using h5))
  exact ((hls.append (.one hnew)).alloc _).grown ((hown.mono hB).alloc _) h3
/-- A row of lists behind a row of lists. -/
theorem app_rows (hgd : o.guard = none) (s x : Operand)
    (ho : o.op = .call { callee := .builtin .append, args := #[s, x], argTypes := #[85, 85] })
    (Bo Bx B : Nat) (v : Value) (es fs : List (List Int)) (A : Option Addr) (m c : Nat) (hs : a.eval s = v) (hrow : RowL w Bo B v es) (hx : a.eval x = .slice A m c) (hnew : RowL w Bx B (.slice A m c) fs)
    (hm0 : 0 < m) (hn : es.length + fs.length ≤ 1000000) (hbase : Bo ≤ w.heap.size) (hB : B ≤ Bo)
    (h : ∀ v' w', RowL w' Bo B v' (es ++ fs) → Below Bo w w' → w.grownBy w' v.ownBlock → (v'.ownBlock = v.ownBlock ∨ v'.ownBlock = some w.heap.size) → wpList Tryz.prog ops Q rest (a.put o.dst v') w') :
    wpList Tryz.prog ops Q (o :: rest) a w := by
  obtain ⟨i0, hi0, hz0, hz1, hz2⟩ := info_parts sl_info
  obtain ⟨vs, hown, hls⟩ := hrow
  obtain ⟨vs', hown', hls'⟩ := hnew
  obtain ⟨g, c', e1, hg0, hg1⟩ := own_lt hown' (by
    obtain ⟨A', c', e0, _, _, _⟩ := Rd.of_own hown'
    injection e0 with _ e2 _
    omega)
  injection e1 with e1 e2 e3
  subst e1
  subst e2
  refine wpList_append_own_at _ hgd s x _ ho Bo 22 i0 _ 1 24 Tryz.underlying85 hi0 hz0 hz1 hz2 rfl (by decide) v es.length vs hs hown ⟨g, 0, none⟩ fs.length c vs' hx (by rw [hls'.1, Nat.mul_one])
    (hown'.cells rfl) (fun u hu => ?_) (by simp only [maxLen]; omega) (by omega) hbase
    (fun v' w' h2 h3 _ h5 => h v' w' ⟨vs ++ vs', by rw [List.length_append]; exact h2, ?_⟩ ((Below.refl _ _).grown h3 hbase (fun k hk => (hown.lt k hk).1)) h3 h5)
  · obtain ⟨k, hk, rfl⟩ := List.mem_iff_getElem.1 hu
    obtain ⟨Ae, ce, h3, _⟩ := hls'.2 k (fs[k]'(by rw [← hls'.1]; exact hk)) (List.getElem?_eq_getElem _)
    rw [List.getElem?_eq_getElem hk] at h3
    have h3 := Option.some.inj h3
    rw [h3]
    rfl
  · exact (hls.append hls').grown (hown.mono hB) h3
end
end Go.Proofs.YtamhpgledbmnoaaGreat
namespace Go.Proofs.YtamhpgledbmnoaaGreat
set_option linter.unusedVariables false
set_option linter.unusedSimpArgs false
open Go.RowKit
set_option maxRecDepth 100000 in
theorem leaf_cells (w : World) : ∀ (j : Nat) (x : Int), Pl.lvs[j]? = some x → (w.alloc (.cells #[.int .i64 0, .int .i64 1, .int .i64 10, .int .i64 11] 3)).cell? ⟨w.heap.size, j, none⟩ = some (.int .i64 x) := by
  intro j x hx
  rw [cell_of_row _ _ _ _ _ _ (heap_alloc_new w _)]
  rcases j with _ | _ | _ | _ | j
  all_goals simp [Pl.lvs] at hx
  all_goals subst hx; rfl
set_option maxRecDepth 100000 in
set_option maxHeartbeats 1000000 in
theorem impl_more (A : Option Addr) (n c B g m c' B' : Nat) (xs ys : List Int) (w : World) (own1 : w.ownsRow B 3 1 (.slice A n c) n (I64 xs)) (hn0 : 1 ≤ n) (hn : n ≤ 1000) (own2 : w.ownsRow B' 3 1 (.slice (some ⟨g, 0, none⟩) m c') m (I64 ys)) (hm : m ≤ 1000) :
    Calls Tryz.prog 116 #[.slice A n c, .slice (some ⟨g, 0, none⟩) m c'] w (OutP w.heap.size (xs ++ ys) w) := by
  have hx : xs.length = n := own_ilen own1
  have hy : ys.length = m := own_ilen own2
  obtain ⟨g1, rfl, hg0, hg1⟩ := own_some own1 (by omega)
  have HCl := Lib.hid (clone_ints g1 0 n c (I64 xs) w (by rw [I64_len, hx]) (fun j u hu => by rw [Nat.zero_add]; exact own_cell own1 hu) hg1 (fun u hu => by unfold I64 at hu; obtain ⟨_, _, rfl⟩ := List.mem_map.1 hu; rfl) hn)
  have HX := Lib.hid (show (xs ++ ys).length = n + m by rw [List.length_append, hx, hy])
  have OW := Lib.hid own2
  clear own1 own2 hx hy
  go_enter Tryz.func116, Tryz.ntmps116
  go_wp2_with fail
  refine (HCl.out).mono ?_
  rintro e w1 ⟨v1, rfl, own1, hb1⟩
  have hz1 := hb1.size
  go_wp2_with (at_builtin; refine app_list rfl (.tmp 6) (.tmp 7) rfl w.heap.size v1 n xs rfl own1 g m c' ys B' rfl (own_below OW.out hb1) (by omega) (by omega) hz1 ?_; intro v2 w2 own2 hb2)
  go_ret
  exact outP_row HX.out own2 (hb1.trans hb2)
set_option maxRecDepth 100000 in
set_option maxHeartbeats 8000000 in

theorem impl_shortOnes (w : World) :
    Calls Tryz.prog 99 #[] w fun e w' => ∃ A c, e = .returned (.slice A 2212 c) ∧ RowL w' (w.heap.size + 1) w.heap.size (.slice A 2212 c) Pl.shorts ∧ Below w.heap.size w w' := by
  obtain ⟨B, hB⟩ : ∃ B, w.heap.size = B := ⟨_, rfl⟩
  obtain ⟨w1, hw1⟩ : ∃ w1, w1 = w.alloc (.cells #[.int .i64 0, .int .i64 1, .int .i64 10, .int .i64 11] 3) := ⟨_, rfl⟩
  have HLF := leaf_cells w
  rw [← hw1, hB] at HLF
  have HL := Lib.hid HLF
  have hz1 : w1.heap.size = B + 1 := by rw [hw1, ← hB]; simp
  have HB01 : Below B w w1 := by rw [hw1]; exact (Below.refl B w).alloc (by omega) _
  clear HLF
  go_enter Tryz.func99, Tryz.ntmps99
  go_wp2_with fail
  rw [← hw1]
  clear hw1
  go_loopw [2, 27] (fun v i wr => ∃ k : Nat, k ≤ 4 ∧ i = .int .i64 k ∧ RowL wr (B + 1) B v (Pl.nones.take k) ∧ Below (B + 1) w1 wr) (fun _ i _ => 4 - (intOf i).toNat)
  case atStart => exact ⟨0, by omega, rfl, RowL.nil, Below.refl _ _⟩
  case round =>
    obtain ⟨k, hk, rfl, hrow, hb⟩ := hrel
    have hz := hb.size
    by_cases hlt : k < 4
    · obtain ⟨x, ex⟩ : ∃ x, Pl.lvs[k]? = some x := ⟨_, List.getElem?_eq_getElem (show k < Pl.lvs.length from hlt)⟩
      have c1 : wr.cell? ⟨B, k, none⟩ = some (.int .i64 x) := (hb.cell (p := ⟨B, k, none⟩) (show B < B + 1 by omega)).trans (HL.out k x ex)
      have hnext : Pl.nones.take (k + 1) = Pl.nones.take k ++ [[x]] := by
        rcases (by omega : k = 0 ∨ k = 1 ∨ k = 2 ∨ k = 3) with rfl | rfl | rfl | rfl <;> simp [Pl.lvs] at ex <;> subst ex <;> rfl
      have HN := Lib.hid hnext
      have hle : (Pl.nones.take k).length ≤ 4 := by rw [List.length_take]; omega
      have hkn : (k : Int) < 4 := by omega
      have hk0 : (0 : Int) ≤ k := by omega
      clear ex hnext
      go_wp2_with (at_builtin; refine app_row rfl (.tmp 31) (.tmp 34) rfl (B + 1) B _ _ [x] _ 1 1 rfl (hrow.alloc _) (own_lit1 wr x (by omega) rfl) _ (by simp) rfl (by omega) (by simp; omega) (by omega) ?_; intro v2 w2 hrow2 hb2 _ _)
      go_roundw
      case rel => exact ⟨k + 1, by omega, by go_num, by rw [HN.out]; exact hrow2, (hb.alloc (by omega) _).trans hb2⟩
      case measure => simp [intOf]; omega
    · obtain rfl : k = 4 := by omega
      rw [show ((4 : Nat) : Int) = 4 from rfl]
      obtain ⟨An, cn, rfl, hcn, hN⟩ := hrow.n (F := Pl.nones) (n := 4) rfl rfl
      obtain ⟨w2, hw2⟩ : ∃ w2, w2 = wr := ⟨_, rfl⟩
      rw [← hw2] at hN hb hz ⊢
      obtain ⟨B2, hB2⟩ : ∃ B2, w2.heap.size = B2 := ⟨_, rfl⟩
      have HN := Lib.hid hN
      have HB02 := HB01.trans (hb.mono (by omega))
      have HL2 := Lib.hid (fun j x h => (hb.cell (p := ⟨B, j, none⟩) (show B < B + 1 by omega)).trans (HL.out j x h))
      have hBB2 : B + 1 ≤ B2 := by omega
      clear hN hrow hw2 hk hlt hz hb
      go_wp2_with fail

      have hstart : RowL w2 B2 B (.slice none 0 0) ((Pl.nones.take 0).flatMap Pl.uns) := RowL.nil
      go_loopw [3, 39] (fun v i wr => ∃ k : Nat, k ≤ 4 ∧ i = .int .i64 k ∧ RowL wr B2 B v ((Pl.nones.take k).flatMap Pl.uns) ∧ Below B2 w2 wr) (fun _ i _ => 4 - (intOf i).toNat)
      case atStart => exact ⟨0, by omega, rfl, hstart, Below.refl _ _⟩
      case round =>
        obtain ⟨k, hk, rfl, hrow, hb⟩ := hrel
        have hz := hb.size
        by_cases hlt : k < 4
        · obtain ⟨e, he, hem⟩ := Pl.at_of (L := Pl.nones) (n := 4) Pl.nones_len' hlt
          obtain ⟨he0, he1⟩ := Pl.nones_mem hem
          obtain ⟨g, Ae, ce, rfl, hg, c0, own1⟩ := HN.out.get he
          have c1 : wr.cell? ⟨g, k, none⟩ = some (.slice Ae e.length ce) := (hb.cell (p := ⟨g, k, none⟩) (show g < B2 by omega)).trans c0
          have OW1 := Lib.hid own1
          have hle := Pl.flat_take Pl.uns 3 Pl.uns_len Pl.nones k
          rw [Pl.nones_len'] at hle
          have hkn : (k : Int) < 4 := by omega
          have hk0 : (0 : Int) ≤ k := by omega
          have HE := Lib.hid (Pl.flat_snoc Pl.uns he)
          clear own1 he hem c0
          go_wp2_with fail
          go_loopw [3, 10] (fun v i wr => ∃ s : Nat, s ≤ 3 ∧ i = .int .i64 (12 + (s : Int)) ∧ RowL wr B2 B v (((Pl.nones.take k).flatMap Pl.uns) ++ Pl.unsTo e s) ∧ Below B2 w2 wr) (fun _ i _ => 15 - (intOf i).toNat)
          case atStart => exact ⟨0, by omega, rfl, by simpa [Pl.unsTo] using hrow, hb⟩
          case round =>
            obtain ⟨s, hs, rfl, hrow2, hb2⟩ := hrel
            have hz2 := hb2.size
            by_cases hls : s < 3
            · have hsn : (12 : Int) + (s : Int) ≤ 14 := by omega
              have HS := Lib.hid (Pl.unsTo_succ e s)
              have hle2 := Pl.unsTo_len e s
              go_wp2_with fail
              refine (impl_more Ae e.length ce B wr.heap.size 1 1 wr.heap.size e [12 + (s : Int)] (wr.alloc (.cells #[.int .i64 (12 + (s : Int))] 3)) ((own_below OW1.out (by rw [hB2]; exact hb2)).alloc _) he0 (by omega) (own_lit1 wr _ (Nat.le_refl _) rfl) (by omega)).mono ?_
              rintro e' w3 ⟨A3, c3, rfl, own3, hb4⟩
              have hz4 : wr.heap.size + 1 ≤ w3.heap.size := by have := hb4.size; simpa using this
              have hbw : Below wr.heap.size wr w3 := ((Below.refl _ _).alloc (Nat.le_refl _) _).trans (hb4.mono (by simp))
              have hlx : (e ++ [12 + (s : Int)]).length = e.length + 1 := by simp
              rw [hlx] at own3
              go_wp2_with (at_builtin; go_must (refine app_row (w := w3) rfl (.tmp 47) (.tmp 53) rfl B2 B _ _ (e ++ [12 + (s : Int)]) A3 _ c3 rfl (hrow2.below hbw) (own3.mono (base' := B) (by simp; omega)) _ rfl rfl (by simp only [List.length_append, Pl.unsTo_len]; omega) (by omega) (by omega) ?_; intro v4 w4 hrow4 hb5 _ _))
              have hbx := (hb2.trans (hbw.mono (by omega))).trans hb5
              go_roundw
              case rel => exact ⟨s + 1, by omega, by go_num, by rw [HS.out, ← List.append_assoc]; exact hrow4, hbx⟩
              case measure => simp [intOf]; omega
            · obtain rfl : s = 3 := by omega
              go_wp2_with fail
              go_roundw
              case rel => exact ⟨k + 1, by omega, by go_num, by rw [HE.out]; simpa [List.append_assoc, Pl.uns] using hrow2, hb2⟩
              case measure => simp [intOf]; omega
        · obtain rfl : k = 4 := by omega
          rw [show ((4 : Nat) : Int) = 4 from rfl]
          obtain ⟨w2b, hw2b⟩ : ∃ w2b, w2b = wr := ⟨_, rfl⟩
          rw [← hw2b] at hrow hb hz ⊢
          have hstart : RowL w2b B2 B u3 (Pl.nones.flatMap Pl.uns ++ (Pl.nones.take 0).flatMap Pl.binsL) := by rw [Pl.flat_all Pl.uns (Nat.le_of_eq Pl.nones_len')] at hrow; simpa using hrow
          have hbst := hb
          have hu12 := Pl.flat_len Pl.uns 3 Pl.uns_len Pl.nones
          rw [Pl.nones_len'] at hu12
          clear hrow hw2b hk hlt hb
          go_wp2_with fail
          go_loopw [3, 58] (fun v i wr => ∃ k : Nat, k ≤ 4 ∧ i = .int .i64 k ∧ RowL wr B2 B v (Pl.nones.flatMap Pl.uns ++ (Pl.nones.take k).flatMap Pl.binsL) ∧ Below B2 w2 wr) (fun _ i _ => 4 - (intOf i).toNat)
          case atStart => exact ⟨0, by omega, rfl, hstart, hbst⟩
          case round =>
            obtain ⟨k, hk, rfl, hrow, hb⟩ := hrel
            have hz := hb.size
            by_cases hlt : k < 4
            · obtain ⟨e, he, hem⟩ := Pl.at_of (L := Pl.nones) (n := 4) Pl.nones_len' hlt
              obtain ⟨he0, he1⟩ := Pl.nones_mem hem
              obtain ⟨g, Ae, ce, rfl, hg, c0, own1⟩ := HN.out.get he
              have c1 : wr.cell? ⟨g, k, none⟩ = some (.slice Ae e.length ce) := (hb.cell (p := ⟨g, k, none⟩) (show g < B2 by omega)).trans c0
              have OW1 := Lib.hid own1
              have hle := Pl.flat_take Pl.binsL 20 Pl.binsL_len Pl.nones k
              rw [Pl.nones_len'] at hle
              have hkn : (k : Int) < 4 := by omega
              have hk0 : (0 : Int) ≤ k := by omega
              have HE := Lib.hid (Pl.flat_snoc Pl.binsL he)
              clear own1 he hem c0
              go_wp2_with fail
              go_loopw [3, 64] (fun v i wr => ∃ j : Nat, j ≤ 4 ∧ i = .int .i64 j ∧ RowL wr B2 B v ((Pl.nones.flatMap Pl.uns ++ (Pl.nones.take k).flatMap Pl.binsL) ++ (Pl.lvs.take j).flatMap (Pl.bins e)) ∧ Below B2 w2 wr) (fun _ i _ => 4 - (intOf i).toNat)
              case atStart => exact ⟨0, by omega, rfl, by simpa using hrow, hb⟩
              case round =>
                obtain ⟨j, hj, rfl, hrow1, hb1⟩ := hrel
                have hz1' := hb1.size
                by_cases hlj : j < 4
                · obtain ⟨x, ex⟩ : ∃ x, Pl.lvs[j]? = some x := ⟨_, List.getElem?_eq_getElem (show j < Pl.lvs.length from hlj)⟩
                  have cx : wr.cell? ⟨B, j, none⟩ = some (.int .i64 x) := (hb1.cell (p := ⟨B, j, none⟩) (show B < B2 by omega)).trans (HL2.out j x ex)
                  have hlej := Pl.flat_take (Pl.bins e) 5 (Pl.bins_len e) Pl.lvs j
                  have hl4 : Pl.lvs.length = 4 := rfl
                  have hjn : (j : Int) < 4 := by omega
                  have hj0 : (0 : Int) ≤ j := by omega
                  have HJ := Lib.hid (Pl.flat_snoc (Pl.bins e) ex)
                  clear ex
                  go_wp2_with fail
                  go_loopw [3, 15] (fun v i wr => ∃ s : Nat, s ≤ 5 ∧ i = .int .i64 (15 + (s : Int)) ∧ RowL wr B2 B v (((Pl.nones.flatMap Pl.uns ++ (Pl.nones.take k).flatMap Pl.binsL) ++ (Pl.lvs.take j).flatMap (Pl.bins e)) ++ Pl.binsTo e x s) ∧ Below B2 w2 wr) (fun _ i _ => 20 - (intOf i).toNat)
                  case atStart => exact ⟨0, by omega, rfl, by simpa [Pl.binsTo] using hrow1, hb1⟩
                  case round =>
                    obtain ⟨s, hs, rfl, hrow2, hb2⟩ := hrel
                    have hz2 := hb2.size
                    by_cases hls : s < 5
                    · have hsn : (15 : Int) + (s : Int) ≤ 19 := by omega
                      have HS := Lib.hid (Pl.binsTo_succ e x s)
                      have hle2 := Pl.binsTo_len e x s
                      go_wp2_with fail
                      refine (impl_more Ae e.length ce B wr.heap.size 2 2 wr.heap.size e [x, 15 + (s : Int)] (wr.alloc (.cells #[.int .i64 x, .int .i64 (15 + (s : Int))] 3)) ((own_below OW1.out (by rw [hB2]; exact hb2)).alloc _) he0 (by omega) (own_lit2 wr _ _ (Nat.le_refl _) rfl) (by omega)).mono ?_
                      rintro e' w3 ⟨A3, c3, rfl, own3, hb4⟩
                      have hz4 : wr.heap.size + 1 ≤ w3.heap.size := by have := hb4.size; simpa using this
                      have hbw : Below wr.heap.size wr w3 := ((Below.refl _ _).alloc (Nat.le_refl _) _).trans (hb4.mono (by simp))
                      have hlx : (e ++ [x, 15 + (s : Int)]).length = e.length + 2 := by simp
                      rw [hlx] at own3
                      go_wp2_with (at_builtin; go_must (refine app_row (w := w3) rfl (.tmp 72) (.tmp 79) rfl B2 B _ _ (e ++ [x, 15 + (s : Int)]) A3 _ c3 rfl (hrow2.below hbw) (own3.mono (base' := B) (by simp; omega)) _ rfl rfl (by simp only [List.length_append, Pl.binsTo_len]; omega) (by omega) (by omega) ?_; intro v4 w4 hrow4 hb5 _ _))
                      have hbx := (hb2.trans (hbw.mono (by omega))).trans hb5
                      go_roundw
                      case rel => exact ⟨s + 1, by omega, by go_num, by rw [HS.out, ← List.append_assoc]; exact hrow4, hbx⟩
                      case measure => simp [intOf]; omega
                    · obtain rfl : s = 5 := by omega
                      go_wp2_with fail
                      go_roundw
                      case rel => exact ⟨j + 1, by omega, by go_num, by rw [HJ.out]; simpa [List.append_assoc, Pl.bins] using hrow2, hb2⟩
                      case measure => simp [intOf]; omega
                · obtain rfl : j = 4 := by omega
                  go_wp2_with fail
                  go_roundw
                  case rel => exact ⟨k + 1, by omega, by go_num, by rw [HE.out]; simpa [List.append_assoc, Pl.binsL, Pl.lvs] using hrow1, hb1⟩
                  case measure => simp [intOf]; omega
            · obtain rfl : k = 4 := by omega
              rw [show ((4 : Nat) : Int) = 4 from rfl]
              have hO : RowL wr B2 B u3 Pl.onces := by rw [Pl.flat_all Pl.binsL (Nat.le_of_eq Pl.nones_len')] at hrow; exact hrow
              obtain ⟨Ao, co, rfl, hco, hO'⟩ := hO.n (F := Pl.onces) (n := 92) rfl Pl.onces_len
              obtain ⟨w3, hw3⟩ : ∃ w3, w3 = wr := ⟨_, rfl⟩
              rw [← hw3] at hO' hb hz ⊢
              obtain ⟨B3, hB3⟩ : ∃ B3, w3.heap.size = B3 := ⟨_, rfl⟩
              have HO := Lib.hid hO'
              have HB03 := HB02.trans (hb.mono (by omega))
              have HL3 := Lib.hid (fun j x h => (hb.cell (p := ⟨B, j, none⟩) (show B < B2 by omega)).trans (HL2.out j x h))
              have HN3 := Lib.hid (HN.out.below (by rw [hB2]; exact hb))
              have hB23 : B2 ≤ B3 := by omega
              clear hO hO' hrow hw3 hk hlt hz hb
              go_wp2_with fail
              have hstart : RowL w3 B3 B (.slice none 0 0) ((Pl.onces.take 0).flatMap Pl.uns) := RowL.nil
              go_loopw [4, 85] (fun v i wr => ∃ k : Nat, k ≤ 92 ∧ i = .int .i64 k ∧ RowL wr B3 B v ((Pl.onces.take k).flatMap Pl.uns) ∧ Below B3 w3 wr) (fun _ i _ => 92 - (intOf i).toNat)
              case atStart => exact ⟨0, by omega, rfl, hstart, Below.refl _ _⟩
              case round =>
                obtain ⟨k, hk, rfl, hrow, hb⟩ := hrel
                have hz := hb.size
                by_cases hlt : k < 92
                · obtain ⟨e, he, hem⟩ := Pl.at_of (L := Pl.onces) (n := 92) Pl.onces_len' hlt
                  obtain ⟨he0, he1⟩ := Pl.onces_mem hem
                  obtain ⟨g, Ae, ce, rfl, hg, c0, own1⟩ := HO.out.get he
                  have c1 : wr.cell? ⟨g, k, none⟩ = some (.slice Ae e.length ce) := (hb.cell (p := ⟨g, k, none⟩) (show g < B3 by omega)).trans c0
                  have OW1 := Lib.hid own1
                  have hle := Pl.flat_take Pl.uns 3 Pl.uns_len Pl.onces k
                  rw [Pl.onces_len'] at hle
                  have hkn : (k : Int) < 92 := by omega
                  have hk0 : (0 : Int) ≤ k := by omega
                  have HE := Lib.hid (Pl.flat_snoc Pl.uns he)
                  clear own1 he hem c0
                  go_wp2_with fail
                  go_loopw [4, 18] (fun v i wr => ∃ s : Nat, s ≤ 3 ∧ i = .int .i64 (12 + (s : Int)) ∧ RowL wr B3 B v (((Pl.onces.take k).flatMap Pl.uns) ++ Pl.unsTo e s) ∧ Below B3 w3 wr) (fun _ i _ => 15 - (intOf i).toNat)
                  case atStart => exact ⟨0, by omega, rfl, by simpa [Pl.unsTo] using hrow, hb⟩
                  case round =>
                    obtain ⟨s, hs, rfl, hrow2, hb2⟩ := hrel
                    have hz2 := hb2.size
                    by_cases hls : s < 3
                    · have hsn : (12 : Int) + (s : Int) ≤ 14 := by omega
                      have HS := Lib.hid (Pl.unsTo_succ e s)
                      have hle2 := Pl.unsTo_len e s
                      go_wp2_with fail
                      refine (impl_more Ae e.length ce B wr.heap.size 1 1 wr.heap.size e [12 + (s : Int)] (wr.alloc (.cells #[.int .i64 (12 + (s : Int))] 3)) ((own_below OW1.out (by rw [hB3]; exact hb2)).alloc _) he0 (by omega) (own_lit1 wr _ (Nat.le_refl _) rfl) (by omega)).mono ?_
                      rintro e' w3 ⟨A3, c3, rfl, own3, hb4⟩
                      have hz4 : wr.heap.size + 1 ≤ w3.heap.size := by have := hb4.size; simpa using this
                      have hbw : Below wr.heap.size wr w3 := ((Below.refl _ _).alloc (Nat.le_refl _) _).trans (hb4.mono (by simp))
                      have hlx : (e ++ [12 + (s : Int)]).length = e.length + 1 := by simp
                      rw [hlx] at own3
                      go_wp2_with (at_builtin; go_must (refine app_row (w := w3) rfl (.tmp 93) (.tmp 99) rfl B3 B _ _ (e ++ [12 + (s : Int)]) A3 _ c3 rfl (hrow2.below hbw) (own3.mono (base' := B) (by simp; omega)) _ rfl rfl (by simp only [List.length_append, Pl.unsTo_len]; omega) (by omega) (by omega) ?_; intro v4 w4 hrow4 hb5 _ _))
                      have hbx := (hb2.trans (hbw.mono (by omega))).trans hb5
                      go_roundw
                      case rel => exact ⟨s + 1, by omega, by go_num, by rw [HS.out, ← List.append_assoc]; exact hrow4, hbx⟩
                      case measure => simp [intOf]; omega
                    · obtain rfl : s = 3 := by omega
                      go_wp2_with fail
                      go_roundw
                      case rel => exact ⟨k + 1, by omega, by go_num, by rw [HE.out]; simpa [List.append_assoc, Pl.uns] using hrow2, hb2⟩
                      case measure => simp [intOf]; omega
                · obtain rfl : k = 92 := by omega
                  rw [show ((92 : Nat) : Int) = 92 from rfl]
                  obtain ⟨w3b, hw3b⟩ : ∃ w3b, w3b = wr := ⟨_, rfl⟩
                  rw [← hw3b] at hrow hb hz ⊢
                  have hstart : RowL w3b B3 B u4 (Pl.onces.flatMap Pl.uns ++ (Pl.onces.take 0).flatMap Pl.binsL) := by rw [Pl.flat_all Pl.uns (Nat.le_of_eq Pl.onces_len')] at hrow; simpa using hrow
                  have hbst := hb
                  have hu12 := Pl.flat_len Pl.uns 3 Pl.uns_len Pl.onces
                  rw [Pl.onces_len'] at hu12
                  clear hrow hw3b hk hlt hb
                  go_wp2_with fail
                  go_loopw [4, 104] (fun v i wr => ∃ k : Nat, k ≤ 92 ∧ i = .int .i64 k ∧ RowL wr B3 B v (Pl.onces.flatMap Pl.uns ++ (Pl.onces.take k).flatMap Pl.binsL) ∧ Below B3 w3 wr) (fun _ i _ => 92 - (intOf i).toNat)
                  case atStart => exact ⟨0, by omega, rfl, hstart, hbst⟩
                  case round =>
                    obtain ⟨k, hk, rfl, hrow, hb⟩ := hrel
                    have hz := hb.size
                    by_cases hlt : k < 92
                    · obtain ⟨e, he, hem⟩ := Pl.at_of (L := Pl.onces) (n := 92) Pl.onces_len' hlt
                      obtain ⟨he0, he1⟩ := Pl.onces_mem hem
                      obtain ⟨g, Ae, ce, rfl, hg, c0, own1⟩ := HO.out.get he
                      have c1 : wr.cell? ⟨g, k, none⟩ = some (.slice Ae e.length ce) := (hb.cell (p := ⟨g, k, none⟩) (show g < B3 by omega)).trans c0
                      have OW1 := Lib.hid own1
                      have hle := Pl.flat_take Pl.binsL 20 Pl.binsL_len Pl.onces k
                      rw [Pl.onces_len'] at hle
                      have hkn : (k : Int) < 92 := by omega
                      have hk0 : (0 : Int) ≤ k := by omega
                      have HE := Lib.hid (Pl.flat_snoc Pl.binsL he)
                      clear own1 he hem c0
                      go_wp2_with fail
                      go_loopw [4, 110] (fun v i wr => ∃ j : Nat, j ≤ 4 ∧ i = .int .i64 j ∧ RowL wr B3 B v ((Pl.onces.flatMap Pl.uns ++ (Pl.onces.take k).flatMap Pl.binsL) ++ (Pl.lvs.take j).flatMap (Pl.bins e)) ∧ Below B3 w3 wr) (fun _ i _ => 4 - (intOf i).toNat)
                      case atStart => exact ⟨0, by omega, rfl, by simpa using hrow, hb⟩
                      case round =>
                        obtain ⟨j, hj, rfl, hrow1, hb1⟩ := hrel
                        have hz1' := hb1.size
                        by_cases hlj : j < 4
                        · obtain ⟨x, ex⟩ : ∃ x, Pl.lvs[j]? = some x := ⟨_, List.getElem?_eq_getElem (show j < Pl.lvs.length from hlj)⟩
                          have cx : wr.cell? ⟨B, j, none⟩ = some (.int .i64 x) := (hb1.cell (p := ⟨B, j, none⟩) (show B < B3 by omega)).trans (HL3.out j x ex)
                          have hlej := Pl.flat_take (Pl.bins e) 5 (Pl.bins_len e) Pl.lvs j
                          have hl4 : Pl.lvs.length = 4 := rfl
                          have hjn : (j : Int) < 4 := by omega
                          have hj0 : (0 : Int) ≤ j := by omega
                          have HJ := Lib.hid (Pl.flat_snoc (Pl.bins e) ex)
                          clear ex
                          go_wp2_with fail
                          go_loopw [4, 23] (fun v i wr => ∃ s : Nat, s ≤ 5 ∧ i = .int .i64 (15 + (s : Int)) ∧ RowL wr B3 B v (((Pl.onces.flatMap Pl.uns ++ (Pl.onces.take k).flatMap Pl.binsL) ++ (Pl.lvs.take j).flatMap (Pl.bins e)) ++ Pl.binsTo e x s) ∧ Below B3 w3 wr) (fun _ i _ => 20 - (intOf i).toNat)
                          case atStart => exact ⟨0, by omega, rfl, by simpa [Pl.binsTo] using hrow1, hb1⟩
                          case round =>
                            obtain ⟨s, hs, rfl, hrow2, hb2⟩ := hrel
                            have hz2 := hb2.size
                            by_cases hls : s < 5
                            · have hsn : (15 : Int) + (s : Int) ≤ 19 := by omega
                              have HS := Lib.hid (Pl.binsTo_succ e x s)
                              have hle2 := Pl.binsTo_len e x s
                              go_wp2_with fail
                              refine (impl_more Ae e.length ce B wr.heap.size 2 2 wr.heap.size e [x, 15 + (s : Int)] (wr.alloc (.cells #[.int .i64 x, .int .i64 (15 + (s : Int))] 3)) ((own_below OW1.out (by rw [hB3]; exact hb2)).alloc _) he0 (by omega) (own_lit2 wr _ _ (Nat.le_refl _) rfl) (by omega)).mono ?_
                              rintro e' w3 ⟨A3, c3, rfl, own3, hb4⟩
                              have hz4 : wr.heap.size + 1 ≤ w3.heap.size := by have := hb4.size; simpa using this
                              have hbw : Below wr.heap.size wr w3 := ((Below.refl _ _).alloc (Nat.le_refl _) _).trans (hb4.mono (by simp))
                              have hlx : (e ++ [x, 15 + (s : Int)]).length = e.length + 2 := by simp
                              rw [hlx] at own3
                              go_wp2_with (at_builtin; go_must (refine app_row (w := w3) rfl (.tmp 118) (.tmp 125) rfl B3 B _ _ (e ++ [x, 15 + (s : Int)]) A3 _ c3 rfl (hrow2.below hbw) (own3.mono (base' := B) (by simp; omega)) _ rfl rfl (by simp only [List.length_append, Pl.binsTo_len]; omega) (by omega) (by omega) ?_; intro v4 w4 hrow4 hb5 _ _))
                              have hbx := (hb2.trans (hbw.mono (by omega))).trans hb5
                              go_roundw
                              case rel => exact ⟨s + 1, by omega, by go_num, by rw [HS.out, ← List.append_assoc]; exact hrow4, hbx⟩
                              case measure => simp [intOf]; omega
                            · obtain rfl : s = 5 := by omega
                              go_wp2_with fail
                              go_roundw
                              case rel => exact ⟨j + 1, by omega, by go_num, by rw [HJ.out]; simpa [List.append_assoc, Pl.bins] using hrow2, hb2⟩
                              case measure => simp [intOf]; omega
                        · obtain rfl : j = 4 := by omega
                          go_wp2_with fail
                          go_roundw
                          case rel => exact ⟨k + 1, by omega, by go_num, by rw [HE.out]; simpa [List.append_assoc, Pl.binsL, Pl.lvs] using hrow1, hb1⟩
                          case measure => simp [intOf]; omega
                    · obtain rfl : k = 92 := by omega
                      rw [show ((92 : Nat) : Int) = 92 from rfl]
                      have hT : RowL wr B3 B u4 Pl.twices := by rw [Pl.flat_all Pl.binsL (Nat.le_of_eq Pl.onces_len')] at hrow; exact hrow
                      obtain ⟨At, ct, rfl, hct, hT'⟩ := hT.n (F := Pl.twices) (n := 2116) rfl Pl.twices_len
                      have HO4 := HO.out.below (by rw [hB3]; exact hb)
                      have HN4 := HN3.out.below (by rw [hB3]; exact hb)
                      have HB04 := HB03.trans (hb.mono (by omega))
                      have hnO := HO.out.lt
                      have hnN := HN.out.lt
                      have hnT := hT'.lt
                      have e1 : Pl.nones.length = 4 := rfl
                      have e2 := Pl.onces_len
                      have e3 := Pl.twices_len
                      clear hT hrow hk hlt
                      go_wp2_with (at_builtin; first
                        | (refine app_rows rfl (.tmp 129) (.tmp 130) rfl (B + 1) B2 B _ Pl.nones Pl.onces _ 92 _ rfl HN4 rfl HO4 (by omega) (by omega) (by omega) (by omega) ?_; intro v5 w5 hrow5 hb5 hg5 hl5)
                        | (refine app_rows rfl (.tmp 131) (.tmp 132) rfl (B + 1) B3 B _ (Pl.nones ++ Pl.onces) Pl.twices _ 2116 _ rfl hrow5 rfl (hT'.apart HN4 (by omega) hg5 (fun k h1 h2 => by have := hnT k h1; have := hnN k h2; omega)) (by omega) (by rw [List.length_append]; omega) (by have := hb5.size; omega) (by omega) ?_; intro v6 w6 hrow6 hb6 _ _))
                      go_ret
                      obtain ⟨A6, c6, rfl, _, h6⟩ := hrow6.n (F := Pl.shorts) (n := 2212) rfl Pl.shorts_len
                      exact ⟨A6, c6, rfl, by rw [hB]; exact h6, by rw [hB]; exact (HB04.trans (hb5.mono (by omega))).trans (hb6.mono (by omega))⟩
end Go.Proofs.YtamhpgledbmnoaaGreat
namespace Go.Proofs.YtamhpgledbmnoaaGreat
set_option linter.unusedVariables false
set_option linter.unusedSimpArgs false
open Go.RowKit
/-- A list of the call's own, and a truth. -/
def OutSh (X : List Int) (ok : Bool) (w : World) (e : Ending) (w' : World) : Prop :=
  ∃ (A : Option Addr) (c : Nat), e = .returned (.tuple #[.slice A X.length c, .bool ok]) ∧ w'.ownsRow w.heap.size 3 1 (.slice A X.length c) X.length (I64 X) ∧ Below w.heap.size w w'
theorem equalAt_same (e f : List Int) : ∃ p q, Pl.equalAt 3 e f = (Pl.same3 e f, p, q) := ⟨_, _, rfl⟩
set_option maxRecDepth 100000 in
set_option maxHeartbeats 4000000 in
theorem impl_ShortFor (A : Option Addr) (n c B : Nat) (xs : List Int) (w : World) (hx : Rd w B A n (I64 xs)) (hB : B ≤ w.heap.size) (hn : n ≤ 1000000000000) :
    Calls Tryz.prog 74 #[.slice A n c] w (OutSh ((Pl.shortFor xs).getD []) (Pl.shortFor xs).isSome w) := by
  have cv := fun w' => impl_ExprValid A n c B xs w'
  cases he : Pl.exprValid xs
  · have hr := Lib.hid (Pl.short_f he)
    rw [he] at cv
    clear he
    go_enter Tryz.func74, Tryz.ntmps74
    go_wp2_with fail
    refine (cv _ hx hn).mono ?_
    rintro e w' ⟨rfl, rfl⟩
    go_wp2_with fail
    go_ret2
    rw [hr.out]
    exact ⟨none, 0, rfl, World.ownsRow_nil _ _ _ _, Below.refl _ _⟩
  · rw [he] at cv
    have HE := Lib.hid he
    have HX := Lib.hid hx
    clear he hx
    go_enter Tryz.func74, Tryz.ntmps74
    go_wp2_with fail
    refine (cv _ HX.out hn).mono ?_
    rintro e w' ⟨rfl, rfl⟩
    go_wp2_with fail
    refine (impl_shortOnes _).mono ?_
    rintro e w1 ⟨As, cs, rfl, hrow, hb1⟩
    have hz1 := hb1.size
    have HR := Lib.hid hrow
    clear hrow
    go_wp2_with fail
    go_loopw [14] (fun i wr => ∃ k : Nat, k ≤ 2212 ∧ i = .int .i64 k ∧ Hid (∀ j, j < k → ∀ g, Pl.shorts[j]? = some g → Pl.same3 xs g = false) ∧ Below w1.heap.size w1 wr) (fun i _ => 2212 - (intOf i).toNat)
    case atStart => exact ⟨0, by omega, rfl, fun j hj => absurd hj (by omega), Below.refl _ _⟩
    case round =>
      obtain ⟨k, hk, rfl, hall, hb⟩ := hrel
      have hz := hb.size
      by_cases hlt : k < 2212
      · obtain ⟨f, hf, hfm⟩ := Pl.at_of Pl.shorts_len hlt
        obtain ⟨hf1, hf2, hf3⟩ := Pl.shorts_mem hfm
        obtain ⟨g, Ae, ce, rfl, hg, c0, own0⟩ := HR.out.get hf
        have c1 : wr.cell? ⟨g, k, none⟩ = some (.slice Ae f.length ce) := (hb.cell (p := ⟨g, k, none⟩) hg).trans c0
        have own1 := own_below own0 hb
        have HF := Lib.hid hf
        have HB := hb1.trans (hb.mono hz1)
        have hkn : (k : Int) < 2212 := by omega
        have hk0 : (0 : Int) ≤ k := by omega
        obtain ⟨p, q, hpq⟩ := equalAt_same xs f
        have cE := impl_EqualAt 3 A Ae n c f.length ce wr.heap.size xs f wr ((HX.out.below (HB.mono hB)).more (by omega)) (rd_own own1) (Nat.le_refl _) hn (by omega)
        rw [hpq] at cE
        have CE := Lib.hid cE
        clear hf hfm c0 own0 hpq cE hf1 hf2
        cases hs : Pl.same3 xs f
        · rw [hs] at CE
          have HS := Lib.hid hs
          clear hs own1
          go_wp2_with fail
          refine (CE.out).mono ?_
          rintro e w3 ⟨rfl, hb3⟩
          go_wp2_with fail
          go_roundw
          case rel =>
            refine ⟨k + 1, by omega, by go_num, fun j hj g' hg' => ?_, hb.trans (hb3.mono hz)⟩
            rcases Nat.lt_or_ge j k with h | h
            · exact hall.out j h g' hg'
            · obtain rfl : j = k := by omega
              rw [HF.out] at hg'
              injection hg' with hg'
              rw [← hg']
              exact HS.out
          case measure => simp [intOf]; omega
        · have hr := Lib.hid (Pl.short_at HE.out HF.out hall.out hs)
          rw [hs] at CE
          have OW := Lib.hid own1
          clear hs own1
          go_wp2_with fail
          refine (CE.out).mono ?_
          rintro e w3 ⟨rfl, hb3⟩
          have HB3 := HB.trans (hb3.mono (by omega))
          have own3 := own_below OW.out hb3
          go_wp2_with fail
          go_ret2
          rw [hr.out]
          exact ⟨Ae, ce, rfl, own3, HB3⟩
      · obtain rfl : k = 2212 := by omega
        have hr := Lib.hid (Pl.short_none HE.out hall.out)
        have HB := hb1.trans (hb.mono hz1)
        go_wp2_with fail
        go_ret2
        rw [hr.out]
        exact ⟨none, 0, rfl, World.ownsRow_nil _ _ _ _, HB⟩
end Go.Proofs.YtamhpgledbmnoaaGreat
namespace Go.Proofs.YtamhpgledbmnoaaGreat
set_option linter.unusedVariables false
set_option linter.unusedSimpArgs false
open Go.RowKit
/-- Two rows of lists, in blocks of their own. -/
def Two (w : World) (B : Nat) (v u : Value) (es fs : List (List Int)) : Prop := RowL w (B + 1) B v es ∧ RowL w (B + 1) B u fs ∧ ∀ k, v.ownBlock = some k → u.ownBlock ≠ some k
section
variable {w w' : World} {B : Nat} {v u : Value} {es fs : List (List Int)}
theorem Two.below (h : Two w B v u es fs) (hb : Below w.heap.size w w') : Two w' B v u es fs := ⟨h.1.below hb, h.2.1.below hb, h.2.2⟩
theorem Two.drew (h : Two w B v u es fs) : Two w.drew B v u es fs := ⟨h.1.drew, h.2.1.drew, h.2.2⟩
theorem Two.swap (h : Two w B v u es fs) : Two w B u v fs es := ⟨h.2.1, h.1, fun k h1 h2 => h.2.2 k h2 h1⟩
theorem Two.push {v' : Value} {es' : List (List Int)} {b : Nat} (h : Two w B v u es fs) (h' : RowL w' (B + 1) B v' es') (hg : w.grownBy w' v.ownBlock) (hl : v'.ownBlock = v.ownBlock ∨ v'.ownBlock = some b) (hb : w.heap.size ≤ b) : Two w' B v' u es' fs := by
  refine ⟨h', h.2.1.apart h.1 (by omega) hg (fun k h1 h2 => h.2.2 k h2 h1), fun k h1 h2 => ?_⟩
  rcases hl with e | e
  · exact h.2.2 k (e ▸ h1) h2
  · rw [e] at h1
    injection h1 with h1
    have := (h.2.1.lt k h2).2
    omega
end
theorem own_lit3 (w : World) (n m l : Int) {B b0 : Nat} (hB : B ≤ w.heap.size) (hb0 : w.heap.size = b0) : (w.alloc (.cells #[.int .i64 n, .int .i64 m, .int .i64 l] 3)).ownsRow B 3 1 (.slice (some ⟨b0, 0, none⟩) 3 3) 3 (I64 [n, m, l]) := by
  subst hb0
  exact World.ownsRow_lit (base := B) (e := 3) (size := 1) w (I64 [n, m, l]).toArray 3 hB (by simp [maxLen]) (by simp [I64_len])
/-- A row that a block bears stands while that block stands. -/
theorem own_under {w w' : World} {base size n g D c : Nat} {e : TypeId} {xs : List Value} (h : w.ownsRow base e size (.slice (some ⟨g, 0, none⟩) n c) n xs) (hb : Below D w w') (hg : g < D) : w'.ownsRow base e size (.slice (some ⟨g, 0, none⟩) n c) n xs := by
  obtain ⟨h1, h2⟩ := h
  refine ⟨h1, ?_⟩
  rcases h2 with ⟨h2, _⟩ | ⟨g', cap, cur, hv, a, b, d⟩
  · cases h2
  · have hv' := hv
    injection hv' with e1 _ _
    injection e1 with e1
    injection e1 with e1 _ _
    subst e1
    exact .inr ⟨g, cap, cur, hv, a, (hb.block g hg).trans b, d⟩
section
variable {ops : Array Oper} {o : Oper} {a : Act} {w : World} {K : Act → World → Prop} {Q : Exit → Act → World → Prop} {E : Prop}
theorem step_row (hgd : o.guard = none) (s x : Operand)
    (ho : o.op = .call { callee := .builtin .append, args := #[s, x], argTypes := #[85, 85] })
    (Bo B : Nat) (v : Value) (es : List (List Int)) (e : List Int) (A : Option Addr) (m c : Nat) (ad : Addr) (hs : a.eval s = v) (hx : a.eval x = .slice (some ad) 1 1) (hrow : RowL w Bo B v es) (hnew : w.ownsRow B 3 1 (.slice A m c) m (I64 e))
    (hc : w.cell? ad = some (.slice A m c)) (hn : es.length ≤ 1000000) (hbase : Bo ≤ w.heap.size) (hB : B ≤ Bo)
    (h : ∀ v' w', RowL w' Bo B v' (es ++ [e]) → Below Bo w w' → w.grownBy w' v.ownBlock → (v'.ownBlock = v.ownBlock ∨ v'.ownBlock = some w.heap.size) → K (a.put o.dst v') w') :
    if Region.wanted o (yielded ops a.tmps) = true then Oper.wp Tryz.prog o a w K Q else E := by
  have hw : Region.wanted o (yielded ops a.tmps) = true := by simp [Region.wanted, hgd]
  rw [if_pos hw]
  obtain ⟨i0, hi0, hz0, hz1, hz2⟩ := info_parts sl_info
  obtain ⟨vs, hown, hls⟩ := hrow
  have hc' : ∀ j u', [Value.slice A m c][j]? = some u' → w.cell? (ad.add j) = some u' := by
    intro j u' hu
    rcases j with _ | j
    · simp at hu; subst hu; simpa [Addr.add] using hc
    · simp at hu
  obtain ⟨v', w', hr, h2, h3, h4, h5⟩ := run_append_own_at (P := Tryz.prog) w Bo 85 o.type 22 i0 _ 1 24 Tryz.underlying85 hi0 hz0 hz1 hz2 rfl (by decide) v es.length vs hown ad 1 1 [.slice A m c] rfl hc' (by simp [Value.oneCell']) (by simp only [maxLen]; omega) (by omega) hbase
  unfold Oper.wp execOp
  simp only [ho, resolve, invoke, builtin, Sem.run_bind, Sem.run_pure, Result.andThen_ok, List.map_toArray, List.map_cons, List.map_nil, hs, hx, hr]
  exact h v' w' ⟨vs ++ [.slice A m c], by rw [List.length_append]; exact h2, (hls.append (.one hnew)).grown (hown.mono hB) h3⟩ ((Below.refl _ _).grown h3 hbase (fun k hk => (hown.lt k hk).1)) h3 h5
theorem step_list (hgd : o.guard = none) (s x : Operand)
    (ho : o.op = .call { callee := .builtin .append, args := #[s, x], argTypes := #[22, 22] })
    (B : Nat) (v : Value) (n : Nat) (xs : List Int) (hs : a.eval s = v)
    (g m c : Nat) (ys : List Int) (B2 : Nat) (hx : a.eval x = .slice (some ⟨g, 0, none⟩) m c) (hown : w.ownsRow B 3 1 v n (I64 xs)) (hown2 : w.ownsRow B2 3 1 (.slice (some ⟨g, 0, none⟩) m c) m (I64 ys)) (hn : n ≤ 1000000) (hm : m ≤ 1000000) (hB : B ≤ w.heap.size)
    (h : ∀ v' w', w'.ownsRow B 3 1 v' (n + m) (I64 (xs ++ ys)) → Below B w w' → w.grownBy w' v.ownBlock → K (a.put o.dst v') w') :
    if Region.wanted o (yielded ops a.tmps) = true then Oper.wp Tryz.prog o a w K Q else E := by
  have hw : Region.wanted o (yielded ops a.tmps) = true := by simp [Region.wanted, hgd]
  rw [if_pos hw]
  obtain ⟨i0, hi0, hz0, hz1, hz2⟩ := info_parts int_info
  obtain ⟨v', w', hr, h2, h3, h4, h5⟩ := run_append_own_at (P := Tryz.prog) w B 22 o.type 3 i0 _ 1 8 Tryz.underlying22 hi0 hz0 hz1 hz2 rfl (by decide) v n (I64 xs) hown ⟨g, 0, none⟩ m c (I64 ys) hown2.1 (hown2.cells rfl) (fun u hu => by unfold I64 at hu; obtain ⟨_, _, rfl⟩ := List.mem_map.1 hu; rfl) (by simp only [maxLen]; omega) (by omega) hB
  unfold Oper.wp execOp
  simp only [ho, resolve, invoke, builtin, Sem.run_bind, Sem.run_pure, Result.andThen_ok, List.map_toArray, List.map_cons, List.map_nil, hs, hx, hr]
  exact h v' w' (by rw [I64_append]; exact h2) ((Below.refl _ _).grown h3 hB (fun k hk => (hown.lt k hk).1)) h3
end
end Go.Proofs.YtamhpgledbmnoaaGreat
