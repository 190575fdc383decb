/-
  The reference's copies of benches, and its comparison of lists.
  Conditions: as stated at each.
-/
import Derived.Test.YtamhpgledbmnoaaGreatDoorO1
import Derived.Deep.Upon
namespace Go.Proofs.YtamhpgledbmnoaaGreatDoor
set_option linter.unusedVariables false
set_option linter.unusedSimpArgs false
open Go.RowKit
section
variable {w : World} {ops : Array Oper} {rest : List Oper} {o : Oper} {a : Act} {Q : Exit → Act → World → Prop}
/-- Whatever slice is read, behind a row of the call's own. -/
theorem app_read (hgd : o.guard = none) (s x : Operand) (t e : TypeId) (z : Value) (bytes : Nat) (hinf : (Tryz.prog.info? e).map (fun i => (i.zero, i.size, i.bytes)) = some (some z, 1, bytes)) (hzc : z.cells.size = 1) (hby : bytes ≤ 16) (ht : Tryz.prog.underlying t = some (.slice e))
    (ho : o.op = .call { callee := .builtin .append, args := #[s, x], argTypes := #[t, t] })
    (B : Nat) (A : Option Addr) (n c : Nat) (xs : List Value) (hs : a.eval s = .slice A n c) (hown : w.ownsRow B e 1 (.slice A n c) n xs)
    (A2 : Option Addr) (m c2 : Nat) (ys : List Value) (B2 : Nat) (hx : a.eval x = .slice A2 m c2) (hr : Rd w B2 A2 m ys) (hone : ∀ u ∈ ys, u.oneCell' = true) (hn : n ≤ 1000000000000) (hm : m ≤ 1000000000000) (hB : B ≤ w.heap.size)
    (h : ∀ A' c' w', w'.ownsRow B e 1 (.slice A' (n + m) c') (n + m) (xs ++ ys) → Below B w w' → wpList Tryz.prog ops Q rest (a.put o.dst (.slice A' (n + m) c')) w') :
    wpList Tryz.prog ops Q (o :: rest) a w := by
  obtain ⟨i0, hi0, hz0, hz1, hz2⟩ := info_parts hinf
  rcases Nat.eq_zero_or_pos m with h0 | h0
  · subst h0
    have hy : ys = [] := List.eq_nil_of_length_eq_zero hr.len
    subst hy
    refine wpList_plain hgd fun K hK => ?_
    have hr := run_append_nothing (P := Tryz.prog) w t t o.type e i0 ht hi0 A n c (own_cap hown) (.slice A2 0 c2) (by
      cases A2 with
      | none => exact Src.ofNil w ht c2
      | some ad => exact Src.ofSlice w ht ad 0 c2 [] (by simp) (fun j u hu => by simp at hu) (fun u hu => by cases hu))
    unfold Oper.wp execOp
    simp only [ho, resolve, invoke, builtin, Sem.run_bind, Sem.run_pure, Result.andThen_ok, List.map_toArray, List.map_cons, List.map_nil, hs, hx, hr]
    have := h A c w
    simp only [Nat.add_zero, List.append_nil] at this
    exact hK _ _ (this hown (Below.refl _ _))
  · obtain ⟨b, off, rfl, _, hc⟩ := hr.pos h0
    refine wpList_append_own _ hgd s x _ ho B e i0 _ 1 bytes ht hi0 hz0 hz1 hz2 hzc (by decide) (.slice A n c) n xs hs hown ⟨b, off, none⟩ m c2 ys hx (by rw [hr.len, Nat.mul_one])
      (fun j u hu => by rw [addr_add]; exact hc j u hu) hone (by simp only [maxLen]; omega) (Nat.le_trans (Nat.mul_le_mul_left (n + m) hby) (by omega)) hB
      (fun v' w' h2 h3 _ => by
        obtain ⟨A', c', rfl, _⟩ := Rd.of_own h2
        exact h A' c' w' h2 ((Below.refl _ _).grown h3 hB (fun k hk => (hown.lt k hk).1)))
end
theorem one_I64 {xs : List Int} : ∀ u ∈ I64 xs, u.oneCell' = true := fun u hu => by unfold I64 at hu; obtain ⟨_, _, rfl⟩ := List.mem_map.1 hu; rfl
theorem one_Tx {ts : List (List UInt8)} : ∀ u ∈ Tx ts, u.oneCell' = true := fun u hu => by unfold Tx at hu; obtain ⟨_, _, rfl⟩ := List.mem_map.1 hu; rfl
/-- A bench of the call's own. -/
def BnO (w : World) (base : Nat) (v : Value) (b : Pl.Bn) : Prop := ∃ (A P : Option Addr) (n c m d : Nat), v = benchV b.k b.x b.y A n c P m d ∧ ORow w base 3 A n c (I64 b.e) ∧ ORow w base 9 P m d (Tx b.past)
section
variable {w w' : World} {base B : Nat} {v : Value} {b : Pl.Bn}
theorem BnO.keep (h : BnO w base v b) (hk : ∀ b, base ≤ b → b < w.heap.size → w'.heap[b]? = w.heap[b]?) : BnO w' base v b := by
  obtain ⟨A, P, n, c, m, d, e, h1, h2⟩ := h
  exact ⟨A, P, n, c, m, d, e, h1.keep hk, h2.keep hk⟩
theorem BnO.below (h : BnO w base v b) (hb : Below w.heap.size w w') : BnO w' base v b := h.keep fun b _ hl => hb.block b hl
theorem BnO.alloc (h : BnO w base v b) (o : Obj) : BnO (w.alloc o) base v b := h.keep fun b _ hl => Below.heap_alloc w o b hl
theorem BnO.drewN (h : BnO w base v b) (k : Nat) : BnO (w.drewN k) base v b := h.keep fun _ _ _ => rfl
theorem BnO.grown {R : Nat} (h : BnO w base v b) (hg : w.grownBy w' (some R)) (hR : R < base) : BnO w' base v b := h.keep fun b hb hl => hg.block b hl (fun e => by injection e; omega)
theorem BnO.mono (h : BnO w base v b) (hB : B ≤ base) : BnO w B v b := by
  obtain ⟨A, P, n, c, m, d, e, h1, h2⟩ := h
  exact ⟨A, P, n, c, m, d, e, h1.mono hB, h2.mono hB⟩
end
theorem own_lt_below {w w' : World} {base size n D : Nat} {e : TypeId} {v : Value} {xs : List Value} (h : w.ownsRow base e size v n xs) (hl : ∀ k, v.ownBlock = some k → k < D) (hb : Below D w w') : w'.ownsRow base e size v n xs := by
  obtain ⟨h1, h2⟩ := h
  refine ⟨h1, ?_⟩
  rcases h2 with h2 | ⟨g, cap, cur, rfl, a, b, d⟩
  · exact .inl h2
  · exact .inr ⟨g, cap, cur, rfl, a, (hb.block g (hl g rfl)).trans b, d⟩
set_option maxHeartbeats 4000000 in
theorem spec_l10Copy (b : Pl.Bn) (A P : Option Addr) (n c m d B : Nat) (w : World) (hx : Rd w B A n (I64 b.e)) (hp : Rd w B P m (Tx b.past)) (hB : B ≤ w.heap.size) (hn : n ≤ 1000000000000) (hm : m ≤ 1000000000000) :
    Calls Tryz.prog 62 #[benchV b.k b.x b.y A n c P m d] w fun e w' => ∃ v, e = .returned v ∧ BnO w' w.heap.size v b ∧ Below w.heap.size w w' := by
  obtain ⟨k, x, y, E, ts⟩ := b
  have HX := Lib.hid hx
  have HP := Lib.hid hp
  obtain ⟨g, hg⟩ : ∃ g, w.heap.size = g := ⟨_, rfl⟩
  obtain ⟨w0, hw0⟩ : ∃ w0, w0 = ((w.alloc (.cells #[.int .i64 k, .int .i64 x, .int .i64 y, .slice A n c, .slice P m d] 44)).alloc (.cells #[.int .i64 0, .int .i64 0, .int .i64 0, .slice none 0 0, .slice none 0 0] 44)).alloc (.cells #[.int .i64 k, .int .i64 x, .int .i64 y, .slice A n c, .slice P m d] 44) := ⟨_, rfl⟩
  have hz0 : w0.heap.size = g + 3 := by rw [hw0, ← hg]; simp
  have HB0 : Below g w w0 := by rw [hw0, ← hg]; go_grown
  have K0 : Blk w0 g 44 #[.int .i64 k, .int .i64 x, .int .i64 y, .slice A n c, .slice P m d] := by rw [hw0, ← hg]; exact ((Blk.new w _ _).alloc _).alloc _
  have K1 : Blk w0 (g + 1) 44 #[.int .i64 0, .int .i64 0, .int .i64 0, .slice none 0 0, .slice none 0 0] := by
    rw [hw0, ← hg]
    have := (Blk.new (w.alloc (.cells #[.int .i64 k, .int .i64 x, .int .i64 y, .slice A n c, .slice P m d] 44)) 44 #[.int .i64 0, .int .i64 0, .int .i64 0, .slice none 0 0, .slice none 0 0])
    rw [World.size_alloc] at this
    exact this.alloc _
  have K2 : Blk w0 (g + 1 + 1) 44 #[.int .i64 k, .int .i64 x, .int .i64 y, .slice A n c, .slice P m d] := by
    rw [hw0, ← hg]
    have := (Blk.new ((w.alloc (.cells #[.int .i64 k, .int .i64 x, .int .i64 y, .slice A n c, .slice P m d] 44)).alloc (.cells #[.int .i64 0, .int .i64 0, .int .i64 0, .slice none 0 0, .slice none 0 0] 44)) 44 #[.int .i64 k, .int .i64 x, .int .i64 y, .slice A n c, .slice P m d])
    rw [World.size_alloc, World.size_alloc] at this
    exact this
  have made1 := World.ownsRow_made (base := g + 3) (e := 3) (size := 1) w0 #[] 0 (by omega) (by simp [maxLen]) rfl
  rw [hz0] at made1
  have hw1 : Below g w (w0.alloc (.cells #[] 3)) := HB0.alloc (by omega) _
  have rx1 := HX.out.below (hw1.mono (by omega))
  have rp1 := HP.out.below (hw1.mono (by omega))
  have K0 := K0.alloc (.cells #[] 3)
  have K1 := K1.alloc (.cells #[] 3)
  have K2 := K2.alloc (.cells #[] 3)
  have a0 : (w0.alloc (.cells #[] 3)).cell? ⟨g, 3, none⟩ = some (.slice A n c) := K0.cell 3
  have hsz1 : (w0.alloc (.cells #[] 3)).heap.size = g + 4 := by simp; omega
  have hgw : w.heap.size = g := hg
  subst hw0
  unfold benchV
  clear hx hp
  go_enter Tryz.func62, Tryz.ntmps62
  go_wp2_with (at_builtin; first
    | (refine app_read rfl (.tmp 5) (.tmp 7) 41 3 _ 8 int_info rfl (by omega) Tryz.underlying41 rfl (g + 3) (some ⟨g + 3, 0, none⟩) 0 0 [] rfl made1 A n c (I64 E) B rfl rx1 one_I64 (by omega) hn (by omega) ?_; go_must (intro A1 c1 w1 own1 hb1; simp only [Nat.zero_add, List.nil_append] at own1; have hz1 := hb1.size; have HB1 := hw1.trans (hb1.mono (by omega)); have K0 := K0.below hb1 (by omega); have K1 := K1.below hb1 (by omega); have K2 := K2.below hb1 (by omega); have a3 : w1.cell? ⟨g + 1 + 1, 3, none⟩ = some (.slice A n c) := K2.cell 3; have f3 : w1.frozen? ⟨g + 1 + 1, 3, none⟩ = false := K2.frozen 3; have hsz : (w1.setCell ⟨g + 1 + 1, 3, none⟩ (.slice A1 n c1)).heap.size = w1.heap.size := (by simp [World.setCell]); have KA := (K0.far (p := ⟨g + 1 + 1, 3, none⟩) (by show g ≠ g + 1 + 1; omega) (.slice A1 n c1)).alloc (.cells #[] 9); have KB := (K1.far (p := ⟨g + 1 + 1, 3, none⟩) (by show g + 1 ≠ g + 1 + 1; omega) (.slice A1 n c1)).alloc (.cells #[] 9); have KC := (K2.set_ 3 (.slice A1 n c1)).alloc (.cells #[] 9); have HB2 := (HB1.setCell (p := ⟨g + 1 + 1, 3, none⟩) (show g ≤ g + 1 + 1 by omega) (.slice A1 n c1)).alloc (by omega) (.cells #[] 9); have own2 := (own_setc (o := 3) own1 (show g + 1 + 1 < g + 3 by omega) (.slice A1 n c1)).alloc (.cells #[] 9); have made2 := World.ownsRow_made (base := w1.heap.size) (e := 9) (size := 1) (w1.setCell ⟨g + 1 + 1, 3, none⟩ (.slice A1 n c1)) #[] 0 (by omega) (by simp [maxLen]) rfl; rw [hsz] at made2; have b4 : ((w1.setCell ⟨g + 1 + 1, 3, none⟩ (.slice A1 n c1)).alloc (.cells #[] 9)).cell? ⟨g, 4, none⟩ = some (.slice P m d) := KA.cell 4; have rp2 := HP.out.below (HB2.mono (by omega)); have hsz2 := World.size_alloc (w1.setCell ⟨g + 1 + 1, 3, none⟩ (.slice A1 n c1)) (.cells #[] 9)))
    | (refine app_read rfl (.tmp 10) (.tmp 12) 42 9 _ 16 str_info rfl (by omega) Tryz.underlying42 rfl w1.heap.size (some ⟨w1.heap.size, 0, none⟩) 0 0 [] rfl made2 P m d (Tx ts) B rfl rp2 one_Tx (by omega) hm (by omega) ?_; go_must (intro P1 d1 w3 own3 hb3; simp only [Nat.zero_add, List.nil_append] at own3; have hz3 := hb3.size; have HB3 := HB2.trans (hb3.mono (by omega)); have KB := KB.below hb3 (by omega); have KC := KC.below hb3 (by omega); have own4 := own_lt_below own2 (fun k hk => (own1.lt k hk).2) hb3; have a0 : w3.cell? ⟨g + 1 + 1, 0, none⟩ = some (.int .i64 k) := KC.cell 0; have a1 : w3.cell? ⟨g + 1 + 1, 1, none⟩ = some (.int .i64 x) := KC.cell 1; have a2 : w3.cell? ⟨g + 1 + 1, 2, none⟩ = some (.int .i64 y) := KC.cell 2; have a3 : w3.cell? ⟨g + 1 + 1, 3, none⟩ = some (.slice A1 n c1) := KC.cell 3; have a4 : w3.cell? ⟨g + 1 + 1, 4, none⟩ = some (.slice P m d) := KC.cell 4; have f4 : w3.frozen? ⟨g + 1 + 1, 4, none⟩ = false := KC.frozen 4; have g0 : w3.cell? ⟨g + 1, 0, none⟩ = some (.int .i64 0) := KB.cell 0; have g1 : w3.cell? ⟨g + 1, 1, none⟩ = some (.int .i64 0) := KB.cell 1; have g2 : w3.cell? ⟨g + 1, 2, none⟩ = some (.int .i64 0) := KB.cell 2; have g3 : w3.cell? ⟨g + 1, 3, none⟩ = some (.slice none 0 0) := KB.cell 3; have g4 : w3.cell? ⟨g + 1, 4, none⟩ = some (.slice none 0 0) := KB.cell 4; have e0 : w3.frozen? ⟨g + 1, 0, none⟩ = false := KB.frozen 0; have e1 : w3.frozen? ⟨g + 1, 1, none⟩ = false := KB.frozen 1; have e2 : w3.frozen? ⟨g + 1, 2, none⟩ = false := KB.frozen 2; have e3 : w3.frozen? ⟨g + 1, 3, none⟩ = false := KB.frozen 3; have e4 : w3.frozen? ⟨g + 1, 4, none⟩ = false := KB.frozen 4))
    | (fail))
  have hne : g + 1 ≠ g + 1 + 1 := by omega
  obtain ⟨wf, hwf⟩ : ∃ wf, wf = (((((w3.setCell ⟨g + 1 + 1, 4, none⟩ (.slice P1 m d1)).setCell ⟨g + 1, 0, none⟩ (.int .i64 k)).setCell ⟨g + 1, 1, none⟩ (.int .i64 x)).setCell ⟨g + 1, 2, none⟩ (.int .i64 y)).setCell ⟨g + 1, 3, none⟩ (.slice A1 n c1)).setCell ⟨g + 1, 4, none⟩ (.slice P1 m d1) := ⟨_, rfl⟩
  have KF : Blk wf (g + 1) 44 #[.int .i64 k, .int .i64 x, .int .i64 y, .slice A1 n c1, .slice P1 m d1] := by rw [hwf]; exact (((((KB.far (p := ⟨g + 1 + 1, 4, none⟩) hne _).set_ 0 _).set_ 1 _).set_ 2 _).set_ 3 _).set_ 4 _
  have own5 : wf.ownsRow (g + 3) 3 1 (.slice A1 n c1) n (I64 E) := by
    rw [hwf]
    exact own_setc (own_setc (own_setc (own_setc (own_setc (own_setc own4 (by omega) _) (by omega) _) (by omega) _) (by omega) _) (by omega) _) (by omega) _
  have own6 : wf.ownsRow w1.heap.size 9 1 (.slice P1 m d1) m (Tx ts) := by
    rw [hwf]
    exact own_setc (own_setc (own_setc (own_setc (own_setc (own_setc own3 (by omega) _) (by omega) _) (by omega) _) (by omega) _) (by omega) _) (by omega) _
  have l1 : g ≤ g + 1 := by omega
  have HBF : Below g w wf := by rw [hwf]; exact (((((HB3.setCell (p := ⟨g + 1 + 1, 4, none⟩) (show g ≤ g + 1 + 1 by omega) _).setCell (p := ⟨g + 1, 0, none⟩) l1 _).setCell (p := ⟨g + 1, 1, none⟩) l1 _).setCell (p := ⟨g + 1, 2, none⟩) l1 _).setCell (p := ⟨g + 1, 3, none⟩) l1 _).setCell (p := ⟨g + 1, 4, none⟩) l1 _
  rw [← hwf]
  have c0 : wf.cell? ⟨g + 1, 0, none⟩ = some (.int .i64 k) := KF.cell 0
  have c1' : wf.cell? ⟨g + 1, 1, none⟩ = some (.int .i64 x) := KF.cell 1
  have c2 : wf.cell? ⟨g + 1, 2, none⟩ = some (.int .i64 y) := KF.cell 2
  have c3 : wf.cell? ⟨g + 1, 3, none⟩ = some (.slice A1 n c1) := KF.cell 3
  have c4 : wf.cell? ⟨g + 1, 4, none⟩ = some (.slice P1 m d1) := KF.cell 4
  refine bodyPost_ret (v := benchV k x y A1 n c1 P1 m d1) (by simp [results, Tryz.results62, benchV, go_sem, c0, c1', c2, c3, c4]) rfl ?_
  exact ⟨_, rfl, ⟨A1, P1, n, c1, m, d1, rfl, .of_own (own5.mono (by omega)), .of_own (own6.mono (by omega))⟩, HBF⟩
end Go.Proofs.YtamhpgledbmnoaaGreatDoor
