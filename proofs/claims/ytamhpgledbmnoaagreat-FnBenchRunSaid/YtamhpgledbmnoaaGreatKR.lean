/-
  The program's simpler expressions, and the first of the reference's.
  Conditions: as stated at each.
-/
import Derived.Test.YtamhpgledbmnoaaGreatS3
import Derived.Test.YtamhpgledbmnoaaGreatKT
namespace Go.Proofs.YtamhpgledbmnoaaGreat
set_option linter.unusedVariables false
set_option linter.unusedSimpArgs false
open Go.RowKit
theorem sl_info : (Tryz.prog.info? 22).map (fun i => (i.zero, i.size, i.bytes)) = some (some (.slice none 0 0), 1, 24) := by kernel_rfl
section
variable {w : World} {ops : Array Oper} {rest : List Oper} {o : Oper} {a : Act} {Q : Exit → Act → World → Prop}
/-- A slice behind a row of slices. -/
theorem app_sl (hgd : o.guard = none) (s x : Operand)
    (ho : o.op = .call { callee := .builtin .append, args := #[s, x], argTypes := #[85, 85] })
    (base : Nat) (v : Value) (n : Nat) (xs : List Value) (A : Option Addr) (m c : Nat) (hs : a.eval s = v) (hown : w.ownsRow base 22 1 v n xs)
    (b0 : Nat) (hb0 : w.heap.size = b0) (hx : a.eval x = .slice (some ⟨b0, 0, none⟩) 1 1) (hn : n ≤ 1000000) (hbase : base ≤ w.heap.size)
    (h : ∀ v' w', w'.ownsRow base 22 1 v' (n + 1) (xs ++ [.slice A m c]) → Below base w w' → (w.alloc (.cells #[.slice A m c] 22)).grownBy w' v.ownBlock → wpList Tryz.prog ops Q rest (a.put o.dst v') w') :
    wpList Tryz.prog ops Q (o :: rest) a (w.alloc (.cells #[.slice A m c] 22)) := by
  subst hb0
  obtain ⟨i0, hi0, hz0, hz1, hz2⟩ := info_parts sl_info
  exact wpList_append_own _ hgd s x _ ho base 22 i0 _ 1 24 Tryz.underlying85 hi0 hz0 hz1 hz2 rfl (by decide) v n xs hs (hown.alloc _) ⟨w.heap.size, 0, none⟩ 1 1 [.slice A m c] hx rfl
    (cell_one_new _ _ _) (by simp [Value.oneCell']) (by simp only [maxLen]; omega) (by omega) (by simp; omega)
    (fun v' w' h2 h3 _ => h v' w' h2 (below_of_grown hown hbase h3) h3)
end
theorem outP_step {B : Nat} {X : List Int} {w w3 w' : World} {e : Ending} (h : OutP B X w3 e w') (hb : Below w.heap.size w w3) : OutP B X w e w' := by
  obtain ⟨A, c, rfl, own, h3⟩ := h
  exact ⟨A, c, rfl, own, hb.trans (h3.mono hb.size)⟩
set_option maxRecDepth 100000 in
set_option maxHeartbeats 4000000 in
theorem impl_simple (S : Nat → Prop) : ∀ (t : Pl.Tr), t.ok → t.post.length ≤ 1000 → ∀ (g : Nat) (w : World), Node w S t g → (∀ g, S g → g < w.heap.size) → Calls Tryz.prog 98 #[.pointer (some ⟨g, 0, none⟩)] w (OutP w.heap.size (Pl.simpT t).post w)
  | .leaf s, ok, hlen, g, w, hN, hS => by
    obtain ⟨sg, c0, A, c, c1⟩ := hN
    go_enter Tryz.func98, Tryz.ntmps98
    go_wp2_with fail
    go_ret
    exact outP_row (X := [s]) rfl (own_lit1 w s (Nat.le_refl _) rfl) ((Below.refl _ _).alloc (Nat.le_refl _) _)
  | .un s t, ok, hlen, g, w, hN, hS => by
    obtain ⟨sg, c0, k, c, g1, sk, c1, ck, hk⟩ := hN
    obtain ⟨⟨s0, s1⟩, ok1⟩ := ok
    have hgl := hS g sg
    have hkl := hS k sk
    have hlen1 : t.post.length ≤ 1000 := by simp [Pl.Tr.post] at hlen; omega
    have ih := Lib.hid (impl_simple S t ok1 hlen1 g1 w hk hS)
    have hs1 := Pl.simpT_ok t ok1
    have hsl := Pl.simpT_len t
    have hcut := grownCap_ge
    clear hk hS sg sk hlen hcut
    show Calls Tryz.prog _ _ w (OutP w.heap.size (Pl.simp1 s (Pl.simpT t)).post w)
    generalize Pl.simpT t = u at *
    go_enter Tryz.func98, Tryz.ntmps98
    go_wp2_with fail
    refine wp_loop_rounds 2 ?_
    rw [rounds_succ]
    go_wp2_with fail
    refine (ih.out).mono ?_
    rintro e w1 ⟨A1, cc1, rfl, own1, hb1⟩
    have z1 := hb1.size
    have hcut := grownCap_ge w1 1 0 22
    have hcut2 := grownCap_le_maxLen w1 1 0 22 (by simp [maxLen])
    unfold grownCap at hcut hcut2
    have HCUT := Lib.hid hcut
    have HCUT2 := Lib.hid hcut2
    have d0 : w1.cell? ⟨g, 0, none⟩ = some (.int .i64 s) := (hb1.cell (p := ⟨g, 0, none⟩) hgl).trans c0
    have e1 : g < w1.heap.size := by omega
    have e2 : g < w1.heap.size + 1 := by omega
    have e3 : ¬ g = w1.heap.size := by omega
    have e4 : ¬ g = w1.heap.size + 1 := by omega
    obtain ⟨ownp, hgp⟩ := own_first (B := w.heap.size) (w1.alloc (.cells #[.slice A1 u.post.length cc1] 22)) 22 (.slice A1 u.post.length cc1) (.slice none 0 0) _ (w1.heap.size + 1) (by simp) rfl (by simp; omega) hcut hcut2
    have OWP := Lib.hid ownp
    have hbp := Lib.hid (hb1.trans (((Below.refl w1.heap.size w1).alloc (Nat.le_refl _) (.cells #[.slice A1 u.post.length cc1] 22)).grown hgp (by simp) (fun k hk => by cases hk) |>.mono z1))
    have OW1 := Lib.hid own1
    clear hcut hcut2 ownp hgp own1
    go_wp2_with fail
    rw [rounds_succ]
    go_wp2_with fail
    refine (simpler_un s s0 s1 u hs1 (w1.heap.size + 1) A1 _ cc1 w.heap.size _ _ (((OW1.out.alloc _).alloc _).drew) (by omega) (own_cell OWP.out rfl) (by simp; omega)).mono ?_
    rintro e w3 hout
    have hout := outP_step hout hbp.out
    obtain ⟨A3, c3, rfl, own3, hb3⟩ := hout
    go_wp2_with fail
    go_ret
    exact ⟨A3, c3, rfl, own3, hb3⟩
  | .bin s l r, ok, hlen, g, w, hN, hS => by
    obtain ⟨sg, c0, k, c, g1, g2, sk, c1, ck, ck', hkl', hkr'⟩ := hN
    obtain ⟨⟨s0, s1⟩, ok1, ok2⟩ := ok
    have hgl := hS g sg
    have hkl := hS k sk
    have hlen1 : l.post.length ≤ 1000 := by simp [Pl.Tr.post] at hlen; omega
    have hlen2 : r.post.length ≤ 1000 := by simp [Pl.Tr.post] at hlen; omega
    have ih := Lib.hid (impl_simple S l ok1 hlen1 g1 w hkl' hS)
    have ih2 := Lib.hid (fun w' h h' => impl_simple S r ok2 hlen2 g2 w' h h')
    have HNR := Lib.hid hkr'
    have HS := Lib.hid hS
    have hs1 := Pl.simpT_ok l ok1
    have hs2 := Pl.simpT_ok r ok2
    have hsl := Pl.simpT_len l
    have hsr := Pl.simpT_len r
    clear hkl' hkr' hS sg sk hlen
    show Calls Tryz.prog _ _ w (OutP w.heap.size (Pl.simp2 s (Pl.simpT l) (Pl.simpT r)).post w)
    generalize Pl.simpT l = u at *
    generalize Pl.simpT r = v at *
    go_enter Tryz.func98, Tryz.ntmps98
    go_wp2_with fail
    refine wp_loop_rounds 3 ?_
    rw [rounds_succ]
    go_wp2_with fail
    refine (ih.out).mono ?_
    rintro e w1 ⟨A1, cc1, rfl, own1, hb1⟩
    have z1 := hb1.size
    have hcut := grownCap_ge w1 1 0 22
    have hcut2 := grownCap_le_maxLen w1 1 0 22 (by simp [maxLen])
    unfold grownCap at hcut hcut2
    have d0 : w1.cell? ⟨k, 1, none⟩ = some (.pointer (some ⟨g2, 0, none⟩)) := (hb1.cell (p := ⟨k, 1, none⟩) hkl).trans ck'
    have e1 : k < w1.heap.size := by omega
    have e2 : k < w1.heap.size + 1 := by omega
    have e3 : ¬ k = w1.heap.size := by omega
    have e4 : ¬ k = w1.heap.size + 1 := by omega
    obtain ⟨ownp, hgp⟩ := own_first (B := w.heap.size) (w1.alloc (.cells #[.slice A1 u.post.length cc1] 22)) 22 (.slice A1 u.post.length cc1) (.slice none 0 0) _ (w1.heap.size + 1) (by simp) rfl (by simp; omega) hcut hcut2
    have OWP := Lib.hid ownp
    have hbp := Lib.hid (hb1.trans (((Below.refl w1.heap.size w1).alloc (Nat.le_refl _) (.cells #[.slice A1 u.post.length cc1] 22)).grown hgp (by simp) (fun k hk => by cases hk) |>.mono z1))
    have OW1 := Lib.hid own1
    clear hcut hcut2 ownp hgp own1
    go_wp2_with fail
    rw [rounds_succ]
    go_wp2_with fail
    have nd := HNR.out.keep (w' := ((w1.alloc (.cells #[.slice A1 u.post.length cc1] 22)).alloc (.cells (#[.slice A1 u.post.length cc1] ++ Builtin.zeroCells #[.slice none 0 0] ((Question.appendCap 1 0 22).cut (w1.tape w1.drawn (Question.appendCap 1 0 22)) - 1)) 22)).drew) (S' := S) (fun g o u h hc => (hbp.out.cell (p := ⟨g, o, none⟩) (HS.out g h)).trans hc) (fun g h => h)
    refine (ih2.out _ nd (fun g h => by have := HS.out g h; simp; omega)).mono ?_
    rintro e w3 ⟨A3, cc3, rfl, own3, hb3⟩
    have z3 : w1.heap.size + 1 + 1 ≤ w3.heap.size := by have := hb3.size; simpa using this
    have HB3 := Lib.hid (hbp.out.trans (hb3.mono (by simp; omega)))
    have OWP3 := own_below OWP.out hb3
    have OW13 := own_below (((OW1.out.alloc _).alloc _).drew) hb3
    have OW33 := own3.mono (base' := w.heap.size) (by simp; omega)
    clear own3 hb3 nd hbp OW1 OWP d0 e1 e2 e3 e4
    go_wp2_with (at_builtin; refine app_sl rfl (.tmp 26) (.tmp 29) rfl w.heap.size _ 1 _ A3 v.post.length cc3 rfl OWP3 _ rfl rfl (by omega) (by omega) ?_; intro v5 w5 own5 hb5 hg5)
    obtain ⟨pb, c5, rfl, hp0, hp1⟩ := own_lt own5 (by omega)
    have OW15 := (OW13.alloc (.cells #[.slice A3 v.post.length cc3] 22)).kept hg5 (rows_apart OW13 OWP3 (by decide))
    have OW35 := (OW33.alloc (.cells #[.slice A3 v.post.length cc3] 22)).kept hg5 (rows_apart OW33 OWP3 (by decide))
    have HB5 := Lib.hid (HB3.out.trans hb5)
    have d5 : w5.cell? ⟨g, 0, none⟩ = some (.int .i64 s) := (HB5.out.cell (p := ⟨g, 0, none⟩) hgl).trans c0
    have cp0 := Lib.hid (own_cell own5 (j := 0) rfl)
    have cp1 := Lib.hid (own_cell own5 (j := 1) rfl)
    have z5 := HB5.out.size
    clear hb5 hg5 OW13 OW33 OWP3 own5 HB3
    rw [rounds_succ]
    go_wp2_with fail
    refine (simpler_bin s s0 s1 u v hs1 hs2 pb _ cc1 _ cc3 w.heap.size c5 A1 A3 _ OW15 OW35 (by omega) (by omega) cp0.out cp1.out z5).mono ?_
    rintro e w7 hout
    have hout := outP_step hout HB5.out
    obtain ⟨A7, c7, rfl, own7, hb7⟩ := hout
    go_wp2_with fail
    go_ret
    exact ⟨A7, c7, rfl, own7, hb7⟩
set_option maxRecDepth 100000 in
set_option maxHeartbeats 2000000 in
theorem impl_ExprSimple (A : Option Addr) (n c B : Nat) (xs : List Int) (w : World) (hx : Rd w B A n (I64 xs)) (hB : B ≤ w.heap.size) (hn : n ≤ 1000000000000) :
    Calls Tryz.prog 73 #[.slice A n c] w (OutP w.heap.size (Pl.exprSimple xs) w) := by
  have lx : xs.length = n := by have := hx.len; rwa [I64_len] at this
  have cv := fun w' => impl_ExprValid A n c B xs w'
  cases he : Pl.exprValid xs
  · have hr := Lib.hid (Pl.exprSimple_f he)
    rw [he] at cv
    go_enter Tryz.func73, Tryz.ntmps73
    go_wp2_with fail
    refine (cv _ hx hn).mono ?_
    rintro e w' ⟨rfl, rfl⟩
    go_wp2_with fail
    go_ret
    rw [hr.out]
    exact ⟨none, 0, rfl, World.ownsRow_nil _ _ _ _, Below.refl _ _⟩
  · have hr := Lib.hid (Pl.exprSimple_t he)
    rw [he] at cv
    obtain ⟨h1, h2, h3⟩ := Pl.run_valid he
    have hv := Pl.valid_t he
    have hl : (Pl.tree xs).post.length ≤ 1000 := by rw [h3]; omega
    have hsl := Pl.simpT_len (Pl.tree xs)
    have hsp := (Pl.simpT (Pl.tree xs)).post_pos
    have HBld := Lib.hid (impl_build A n c B xs w hx hB he)
    have HX := Lib.hid hx
    have HSi := Lib.hid (fun S g w' hN hS => impl_simple S (Pl.tree xs) h2 hl g w' hN hS)
    generalize hu : (Pl.simpT (Pl.tree xs)).post = u at *
    have hul : u.length ≤ 1000 := by omega
    clear h1 h2 h3 he lx hx hl hv hsl hu
    go_enter Tryz.func73, Tryz.ntmps73
    go_wp2_with fail
    refine (cv _ HX.out hn).mono ?_
    rintro e w' ⟨rfl, rfl⟩
    go_wp2_with fail
    refine (HBld.out).mono ?_
    rintro e w1 ⟨g, rfl, hnode, hb1⟩
    have z1 := hb1.size
    go_wp2_with fail
    refine (HSi.out _ g _ hnode (fun g h => h.2)).mono ?_
    rintro e w2 ⟨A2, c2, rfl, own2, hb2⟩
    have z2 := hb2.size
    obtain ⟨g2, rfl, hg0, hg1⟩ := own_some own2 hsp
    have HB2 := below_step hb1 hb2 z1
    go_wp2_with fail
    refine (clone_ints g2 0 u.length c2 (I64 u) w2 (I64_len _) (fun j y hy => by rw [Nat.zero_add]; exact own_cell own2 hy) hg1 (fun y hy => by unfold I64 at hy; obtain ⟨_, _, rfl⟩ := List.mem_map.1 hy; rfl) hul).mono ?_
    rintro e w3 ⟨v3, rfl, own3, hb3⟩
    go_wp2_with fail
    go_ret
    rw [hr.out]
    exact outP_row rfl (own3.mono HB2.size) (below_step HB2 hb3 HB2.size)
end Go.Proofs.YtamhpgledbmnoaaGreat
namespace Go.Proofs.YtamhpgledbmnoaaGreat
set_option linter.unusedVariables false
set_option linter.unusedSimpArgs false
open Go.RowKit
section
variable {w : World} {ops : Array Oper} {rest : List Oper} {o : Oper} {a : Act} {Q : Exit → Act → World → Prop}
/-- A list that is only read, behind a row. -/
theorem app_rd (hgd : o.guard = none) (s x : Operand)
    (ho : o.op = .call { callee := .builtin .append, args := #[s, x], argTypes := #[22, 22] })
    (B : Nat) (v : Value) (n : Nat) (xs : List Int) (hs : a.eval s = v) (hown : w.ownsRow B 3 1 v n (I64 xs))
    (b off m c : Nat) (ys : List Int) (B2 : Nat) (hx : a.eval x = .slice (some ⟨b, off, none⟩) m c) (hr : Rd w B2 (some ⟨b, off, none⟩) m (I64 ys)) (hm0 : 0 < m) (hn : n ≤ 1000000000000) (hm : m ≤ 1000000000000) (hB : B ≤ w.heap.size)
    (h : ∀ v' w', w'.ownsRow B 3 1 v' (n + m) (I64 (xs ++ ys)) → Below B w w' → wpList Tryz.prog ops Q rest (a.put o.dst v') w') :
    wpList Tryz.prog ops Q (o :: rest) a w := by
  obtain ⟨i0, hi0, hz0, hz1, hz2⟩ := info_parts int_info
  obtain ⟨b', off', e, _, hc⟩ := hr.pos hm0
  injection e with e
  injection e with e1 e2
  subst e1
  subst e2
  refine wpList_append_own _ hgd s x _ ho B 3 i0 _ 1 8 Tryz.underlying22 hi0 hz0 hz1 hz2 rfl (by decide) v n (I64 xs) hs hown ⟨b, off, none⟩ m c (I64 ys) hx (by rw [hr.len]; omega)
    (fun j u hu => ?_) (fun u hu => ?_) (by simp only [maxLen]; omega) (by omega) hB
    (fun v' w' h2 h3 _ => h v' w' (by rw [I64_append]; exact h2) ((Below.refl _ _).grown h3 hB (fun k hk => (hown.lt k hk).1)))
  · have e : (⟨b, off, none⟩ : Addr).add j = ⟨b, off + j, none⟩ := by
      unfold Addr.add
      split
      · rename_i h0; subst h0; rfl
      · rfl
    rw [e]
    exact hc j u hu
  · unfold I64 at hu
    obtain ⟨_, _, rfl⟩ := List.mem_map.1 hu
    rfl
end
theorem own_made0 (w : World) (b0 : Nat) {B : Nat} (hb0 : w.heap.size = b0) (hB : B ≤ w.heap.size) : (w.alloc (.cells #[] 3)).ownsRow B 3 1 (.slice (some ⟨b0, 0, none⟩) 0 0) 0 (I64 []) := by
  subst hb0
  exact World.ownsRow_made w #[] 0 hB (by simp [maxLen]) rfl
theorem own_keepB {w w' : World} {base size n B : Nat} {e : TypeId} {v : Value} {xs : List Value} (h : w.ownsRow base e size v n xs) (hlt : ∀ k, v.ownBlock = some k → k < B) (hb : Below B w w') : w'.ownsRow base e size v n xs := by
  refine ⟨h.1, h.2.imp id ?_⟩
  rintro ⟨g, cap, cur, rfl, h1, h2, h3⟩
  exact ⟨g, cap, cur, rfl, h1, (hb.block g (hlt g rfl)).trans h2, h3⟩
theorem one_zero {xs : List Int} {n : Nat} {a : Int} (hn : xs.length = n) (h0 : xs[0]? = some a) (h : xs = [0]) : n = 1 ∧ a = 0 := by
  subst h
  exact ⟨by simpa using hn.symm, by simpa using h0.symm⟩
theorem not_zero {t : Pl.Tr} {n : Nat} {a : Int} (ok : t.ok) (hn : t.post.length = n) (h0 : t.post[0]? = some a) (h : t.post ≠ [0]) : ((n : Int) == 1) = false ∨ (n = 1 ∧ (a == 0) = false) := by
  by_cases h1 : n = 1
  · refine .inr ⟨h1, ?_⟩
    rw [beq_eq_false_iff_ne]
    rintro rfl
    rw [h1] at hn
    obtain ⟨x, hx⟩ := List.length_eq_one_iff.1 hn
    rw [hx] at h0 h
    simp at h0
    subst h0
    exact h rfl
  · exact .inl (by rw [beq_eq_false_iff_ne]; omega)
set_option maxRecDepth 100000 in
set_option maxHeartbeats 2000000 in
theorem spec_simple_leaf (s : Int) (s0 : 0 ≤ s) (s1 : s < 12) (b off c B : Nat) (w : World) (hx : Rd w B (some ⟨b, off, none⟩) 1 (I64 [s])) (hB : B ≤ w.heap.size) :
    Calls Tryz.prog 67 #[.slice (some ⟨b, off, none⟩) 1 c] w (OutP w.heap.size [s] w) := by
  obtain ⟨_, _, e, hbl, hc⟩ := hx.pos (by omega)
  injection e with e; injection e with e1 e2; subst e1; subst e2
  have c0 : w.cell? ⟨b, off, none⟩ = some (.int .i64 s) := hc 0 _ rfl
  have HX := Lib.hid (hx.alloc hB (.cells #[] 3))
  have ct := fun w => spec_l9Takes s w
  rw [Pl.takes_0 s1] at ct
  clear hc hx
  go_enter Tryz.func67, Tryz.ntmps67
  go_wp2_with fail
  refine (ct _).mono ?_
  rintro e w' ⟨rfl, rfl⟩
  go_wp2_with (at_builtin; refine app_rd rfl (.tmp 23) (.tmp 24) rfl w.heap.size (.slice (some ⟨w.heap.size, 0, none⟩) 0 0) 0 [] rfl (World.ownsRow_made w #[] 0 (Nat.le_refl _) (by simp [maxLen]) rfl) b off 1 c [s] B rfl HX.out (by omega) (by omega) (by omega) (by simp) ?_; intro v1 w1 own1 hb1)
  go_ret
  exact outP_row (X := [s]) rfl own1 (((Below.refl _ _).alloc (Nat.le_refl _) _).trans hb1)
/-- What a walk over a step that takes one is told. -/
structure UnW (s : Int) (t : Pl.Tr) (b off c B m : Nat) (w : World) : Prop where
  hlen : m ≤ 1000
  hnc : m + 1 ≤ c
  hB : B ≤ w.heap.size
  c0 : w.cell? ⟨b, off + m, none⟩ = some (.int .i64 s)
  hxl : Rd w B (some ⟨b, off, none⟩) m (I64 t.post)
theorem unW {s : Int} {t : Pl.Tr} {b off n c B : Nat} {w : World} (hx : Rd w B (some ⟨b, off, none⟩) n (I64 (Pl.Tr.un s t).post)) (hnc : n ≤ c) (hB : B ≤ w.heap.size) (hlen : (Pl.Tr.un s t).post.length ≤ 1000) :
    n = t.post.length + 1 ∧ UnW s t b off c B t.post.length w := by
  obtain ⟨m, hm⟩ : ∃ m, t.post.length = m := ⟨_, rfl⟩
  obtain rfl : n = m + 1 := by have := hx.len; rw [I64_len] at this; simpa [Pl.Tr.post, hm] using this.symm
  obtain ⟨_, _, e, hbl, hc⟩ := hx.pos (by omega)
  injection e with e; injection e with e1 e2; subst e1; subst e2
  have c0 : w.cell? ⟨b, off + m, none⟩ = some (.int .i64 s) := hc m _ (by simp [Pl.Tr.post, I64, hm])
  have hx1 : Rd w B (some ⟨b, off, none⟩) m (I64 t.post) := by
    have := hx.take (k := m) (by omega)
    simpa [Pl.Tr.post, I64, hm] using this
  have : m ≤ 1000 := by simp [Pl.Tr.post, hm] at hlen; omega
  subst hm
  exact ⟨rfl, this, hnc, hB, c0, hx1⟩
set_option maxRecDepth 100000 in
set_option maxHeartbeats 4000000 in
theorem spec_simple_un (s : Int) (s0 : 12 ≤ s) (s1 : s < 15) (t u : Pl.Tr) (oku : u.ok) (hul : u.post.length ≤ 1000) (b off c B m : Nat) (w : World) (H : UnW s t b off c B m w)
    (ih : ∀ (w : World), Rd w B (some ⟨b, off, none⟩) m (I64 t.post) → B ≤ w.heap.size → Calls Tryz.prog 67 #[.slice (some ⟨b, off, none⟩) m c] w (OutP w.heap.size u.post w)) :
    Calls Tryz.prog 67 #[.slice (some ⟨b, off, none⟩) (m + 1) c] w (OutP w.heap.size (Pl.simp1 s u).post w) := by
  obtain ⟨hlen, hnc, hB, c0, hxl⟩ := H
  have IH := Lib.hid (ih w hxl hB)
  have hcs := Pl.simp1_cases s u
  obtain ⟨n, hn⟩ : ∃ n, u.post.length = n + 1 := ⟨u.post.length - 1, by have := u.post_pos; omega⟩
  have htop := top_last u hn
  have hnl : n ≤ 1000 := by omega
  have k1 : ((m + 1 : Nat) : Int) - 1 = (m : Int) := by omega
  have k2 : (0 : Int) ≤ (m : Int) := by omega
  have k3 : (m : Int) < (m : Int) + 1 := by omega
  have k4 : (m : Int) ≤ (c : Int) := by omega
  have j1 : ((n + 1 : Nat) : Int) - 1 = (n : Int) := by omega
  have j2 : (0 : Int) ≤ (n : Int) := by omega
  have j3 : (n : Int) < (n : Int) + 1 := by omega
  have ct := fun w => spec_l9Takes s w
  rw [Pl.takes_1 s0 s1] at ct
  clear ih hxl
  by_cases hcut : s = 12 ∧ u.top = 12
  · obtain ⟨rfl, ht12⟩ := hcut
    rw [ht12] at htop
    have hres : ∃ q, u = .un 12 q ∧ Pl.simp1 12 u = q := by
      cases u with
      | leaf q => have h1 := oku.2; have h2 : q = 12 := ht12; omega
      | un q r => have hq : q = 12 := ht12; subst hq; exact ⟨r, rfl, by simp [Pl.simp1]⟩
      | bin q l r => have h1 := oku.1.1; have h2 : q = 12 := ht12; omega
    obtain ⟨q, hq, hsq⟩ := hres
    have hqp : u.post = q.post ++ [12] := by rw [hq]; rfl
    have hqn : q.post.length = n := by rw [hqp] at hn; simpa using hn
    have HS := Lib.hid hsq
    have HQ := Lib.hid hqp
    have HQN := Lib.hid hqn
    have HN := Lib.hid hn
    have HT := Lib.hid htop
    clear hcs hsq hqp hqn hn htop hq ht12 oku
    go_enter Tryz.func67, Tryz.ntmps67
    go_wp2_with fail
    refine (ct _).mono ?_
    rintro e w' ⟨rfl, rfl⟩
    go_wp2_with fail
    refine (ct _).mono ?_
    rintro e w' ⟨rfl, rfl⟩
    go_wp2_with fail
    refine (IH.out).mono ?_
    rintro e w1 ⟨A1, c1, rfl, own1, hb1⟩
    rw [HN.out] at own1 ⊢
    obtain ⟨ga, rfl, hga0, hga1⟩ := own_some own1 (by omega)
    have cl : w1.cell? ⟨ga, n, none⟩ = some (.int .i64 12) := own_cell own1 (I64_get HT.out)
    have hcc := own_cap own1
    have ownc := own_cut own1 (m := n) (by omega)
    have htk : (q.post ++ [12]).take n = q.post := by rw [← HQN.out, List.take_left]
    rw [I64_take, HQ.out, htk] at ownc
    clear htk
    have OC := Lib.hid ownc
    have j4 : (n : Int) ≤ (c1 : Int) := by omega
    clear ownc own1
    go_wp2_with fail
    go_ret
    rw [HS.out]
    exact outP_row HQN.out OC.out hb1
  · have hres : Pl.simp1 s u = .un s u := by
      rcases hcs with ⟨h1, q, h2, _⟩ | h
      · exact absurd ⟨h1, by rw [h2]; rfl⟩ hcut
      · exact h
    have HS := Lib.hid hres
    have HN := Lib.hid hn
    have HT := Lib.hid htop
    have hg : s ≠ 12 ∨ u.top ≠ 12 := by
      by_cases h : s = 12
      · exact .inr (fun e => hcut ⟨h, e⟩)
      · exact .inl h
    clear hcs hres hn htop oku hcut
    have hway : (s = 12 ∧ (u.top == 12) = false) ∨ s = 13 ∨ s = 14 := by
      rcases hg with h | h
      · omega
      · by_cases e : s = 12
        · exact .inl ⟨e, by simpa using h⟩
        · omega
    clear hg
    rcases hway with ⟨rfl, hq⟩ | rfl | rfl
    all_goals
      go_enter Tryz.func67, Tryz.ntmps67
      go_wp2_with fail
      refine (ct _).mono ?_
      rintro e w' ⟨rfl, rfl⟩
      go_wp2_with fail
      refine (ct _).mono ?_
      rintro e w' ⟨rfl, rfl⟩
      go_wp2_with fail
      refine (IH.out).mono ?_
      rintro e w1 ⟨A1, c1, rfl, own1, hb1⟩
      rw [HN.out] at own1 ⊢
      obtain ⟨ga, rfl, hga0, hga1⟩ := own_some own1 (by omega)
      have cl : w1.cell? ⟨ga, n, none⟩ = some (.int .i64 u.top) := own_cell own1 (I64_get HT.out)
      have z1 := hb1.size
      go_wp2_with (first
        | (at_builtin; refine app_more rfl (.tmp 49) (.tmp 50) rfl w1.heap.size (.slice (some ⟨w1.heap.size, 0, none⟩) 0 0) 0 [] rfl (World.ownsRow_made w1 #[] 0 (Nat.le_refl _) (by simp [maxLen]) rfl) (some ⟨ga, 0, none⟩) (n + 1) c1 u.post w.heap.size rfl (own1.alloc _) (by omega) (by omega) (by simp) ?_; intro v5 w5 own5 hb5)
        | (at_builtin; refine app_int_far rfl (.tmp 51) (.tmp 53) rfl w1.heap.size v5 (0 + (n + 1)) ([] ++ u.post) _ rfl own5 rfl (by omega) (by have h5 := hb5.size; simp at h5; omega) ?_; intro v6 w6 own6 hb6 hg6))
      go_ret
      rw [HS.out]
      exact outP_row (by simp [Pl.Tr.post, HN.out]) (own6.mono z1) (below_step hb1 (((Below.refl w1.heap.size w1).alloc (Nat.le_refl _) _).trans (hb5.trans hb6)) z1)
end Go.Proofs.YtamhpgledbmnoaaGreat
