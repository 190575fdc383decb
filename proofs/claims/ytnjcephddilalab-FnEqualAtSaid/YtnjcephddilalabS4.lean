/-
  The program's simple, and its ExprSimple.
  Conditions: as stated at each.
-/
import Derived.Test.YtnjcephddilalabS3
namespace Go.Proofs.Ytnjcephddilalab
set_option linter.unusedVariables false
set_option linter.unusedSimpArgs false
open Go.RowKit
theorem sl_info : (Try.prog.info? 23).map (fun i => (i.zero, i.size, i.bytes)) = some (some (.slice none 0 0), 1, 24) := by kernel_rfl
section
variable {w : World} {ops : Array Oper} {rest : List Oper} {o : Oper} {a : Act} {Q : Exit → Act → World → Prop}
/-- A slice behind a row of slices. -/
theorem app_sl (hgd : o.guard = none) (s x : Operand)
    (ho : o.op = .call { callee := .builtin .append, args := #[s, x], argTypes := #[68, 68] })
    (base : Nat) (v : Value) (n : Nat) (xs : List Value) (A : Option Addr) (m c : Nat) (hs : a.eval s = v) (hown : w.ownsRow base 23 1 v n xs)
    (b0 : Nat) (hb0 : w.heap.size = b0) (hx : a.eval x = .slice (some ⟨b0, 0, none⟩) 1 1) (hn : n ≤ 1000000) (hbase : base ≤ w.heap.size)
    (h : ∀ v' w', w'.ownsRow base 23 1 v' (n + 1) (xs ++ [.slice A m c]) → Below base w w' → (w.alloc (.cells #[.slice A m c] 23)).grownBy w' v.ownBlock → wpList Try.prog ops Q rest (a.put o.dst v') w') :
    wpList Try.prog ops Q (o :: rest) a (w.alloc (.cells #[.slice A m c] 23)) := by
  subst hb0
  obtain ⟨i0, hi0, hz0, hz1, hz2⟩ := info_parts sl_info
  exact wpList_append_own _ hgd s x _ ho base 23 i0 _ 1 24 Try.underlying68 hi0 hz0 hz1 hz2 rfl (by decide) v n xs hs (hown.alloc _) ⟨w.heap.size, 0, none⟩ 1 1 [.slice A m c] hx rfl
    (cell_one_new _ _ _) (by simp [Value.oneCell']) (by simp only [maxLen]; omega) (by omega) (by simp; omega)
    (fun v' w' h2 h3 _ => h v' w' h2 (below_of_grown hown hbase h3) h3)
end
theorem outP_step {B : Nat} {X : List Int} {w w3 w' : World} {e : Ending} (h : OutP B X w3 e w') (hb : Below w.heap.size w w3) : OutP B X w e w' := by
  obtain ⟨A, c, rfl, own, h3⟩ := h
  exact ⟨A, c, rfl, own, hb.trans (h3.mono hb.size)⟩
set_option maxRecDepth 100000 in
set_option maxHeartbeats 4000000 in
theorem impl_simple (S : Nat → Prop) : ∀ (t : Pl.Tr), t.ok → t.post.length ≤ 1000 → ∀ (g : Nat) (w : World), Node w S t g → (∀ g, S g → g < w.heap.size) → Calls Try.prog 64 #[.pointer (some ⟨g, 0, none⟩)] w (OutP w.heap.size (Pl.simpT t).post w)
  | .leaf s, ok, hlen, g, w, hN, hS => by
    obtain ⟨sg, c0, A, c, c1⟩ := hN
    go_enter Try.func64, Try.ntmps64
    go_wp2_with fail
    go_ret
    exact outP_row (X := [s]) rfl (own_lit1 w s (Nat.le_refl _) rfl) ((Below.refl _ _).alloc (Nat.le_refl _) _)
  | .un s t, ok, hlen, g, w, hN, hS => by
    obtain ⟨sg, c0, k, c, g1, sk, c1, ck, hk⟩ := hN
    obtain ⟨⟨s0, s1⟩, ok1⟩ := ok
    have hgl := hS g sg
    have hkl := hS k sk
    have hlen1 : t.post.length ≤ 1000 := by simp [Pl.Tr.post] at hlen; omega
    have ih := Lib.hid (impl_simple S t ok1 hlen1 g1 w hk hS)
    have hs1 := Pl.simpT_ok t ok1
    have hsl := Pl.simpT_len t
    have hcut := grownCap_ge
    clear hk hS sg sk hlen hcut
    show Calls Try.prog _ _ w (OutP w.heap.size (Pl.simp1 s (Pl.simpT t)).post w)
    generalize Pl.simpT t = u at *
    go_enter Try.func64, Try.ntmps64
    go_wp2_with fail
    refine wp_loop_rounds 2 ?_
    rw [rounds_succ]
    go_wp2_with fail
    refine (ih.out).mono ?_
    rintro e w1 ⟨A1, cc1, rfl, own1, hb1⟩
    have z1 := hb1.size
    have hcut := grownCap_ge w1 1 0 23
    have hcut2 := grownCap_le_maxLen w1 1 0 23 (by simp [maxLen])
    unfold grownCap at hcut hcut2
    have HCUT := Lib.hid hcut
    have HCUT2 := Lib.hid hcut2
    have d0 : w1.cell? ⟨g, 0, none⟩ = some (.int .i64 s) := (hb1.cell (p := ⟨g, 0, none⟩) hgl).trans c0
    have e1 : g < w1.heap.size := by omega
    have e2 : g < w1.heap.size + 1 := by omega
    have e3 : ¬ g = w1.heap.size := by omega
    have e4 : ¬ g = w1.heap.size + 1 := by omega
    obtain ⟨ownp, hgp⟩ := own_first (B := w.heap.size) (w1.alloc (.cells #[.slice A1 u.post.length cc1] 23)) 23 (.slice A1 u.post.length cc1) (.slice none 0 0) _ (w1.heap.size + 1) (by simp) rfl (by simp; omega) hcut hcut2
    have OWP := Lib.hid ownp
    have hbp := Lib.hid (hb1.trans (((Below.refl w1.heap.size w1).alloc (Nat.le_refl _) (.cells #[.slice A1 u.post.length cc1] 23)).grown hgp (by simp) (fun k hk => by cases hk) |>.mono z1))
    have OW1 := Lib.hid own1
    clear hcut hcut2 ownp hgp own1
    go_wp2_with fail
    rw [rounds_succ]
    go_wp2_with fail
    refine (simpler_un s s0 s1 u hs1 (w1.heap.size + 1) A1 _ cc1 w.heap.size _ _ (((OW1.out.alloc _).alloc _).drew) (by omega) (own_cell OWP.out rfl) (by simp; omega)).mono ?_
    rintro e w3 hout
    have hout := outP_step hout hbp.out
    obtain ⟨A3, c3, rfl, own3, hb3⟩ := hout
    go_wp2_with fail
    go_ret
    exact ⟨A3, c3, rfl, own3, hb3⟩
  | .bin s l r, ok, hlen, g, w, hN, hS => by
    obtain ⟨sg, c0, k, c, g1, g2, sk, c1, ck, ck', hkl', hkr'⟩ := hN
    obtain ⟨⟨s0, s1⟩, ok1, ok2⟩ := ok
    have hgl := hS g sg
    have hkl := hS k sk
    have hlen1 : l.post.length ≤ 1000 := by simp [Pl.Tr.post] at hlen; omega
    have hlen2 : r.post.length ≤ 1000 := by simp [Pl.Tr.post] at hlen; omega
    have ih := Lib.hid (impl_simple S l ok1 hlen1 g1 w hkl' hS)
    have ih2 := Lib.hid (fun w' h h' => impl_simple S r ok2 hlen2 g2 w' h h')
    have HNR := Lib.hid hkr'
    have HS := Lib.hid hS
    have hs1 := Pl.simpT_ok l ok1
    have hs2 := Pl.simpT_ok r ok2
    have hsl := Pl.simpT_len l
    have hsr := Pl.simpT_len r
    clear hkl' hkr' hS sg sk hlen
    show Calls Try.prog _ _ w (OutP w.heap.size (Pl.simp2 s (Pl.simpT l) (Pl.simpT r)).post w)
    generalize Pl.simpT l = u at *
    generalize Pl.simpT r = v at *
    go_enter Try.func64, Try.ntmps64
    go_wp2_with fail
    refine wp_loop_rounds 3 ?_
    rw [rounds_succ]
    go_wp2_with fail
    refine (ih.out).mono ?_
    rintro e w1 ⟨A1, cc1, rfl, own1, hb1⟩
    have z1 := hb1.size
    have hcut := grownCap_ge w1 1 0 23
    have hcut2 := grownCap_le_maxLen w1 1 0 23 (by simp [maxLen])
    unfold grownCap at hcut hcut2
    have d0 : w1.cell? ⟨k, 1, none⟩ = some (.pointer (some ⟨g2, 0, none⟩)) := (hb1.cell (p := ⟨k, 1, none⟩) hkl).trans ck'
    have e1 : k < w1.heap.size := by omega
    have e2 : k < w1.heap.size + 1 := by omega
    have e3 : ¬ k = w1.heap.size := by omega
    have e4 : ¬ k = w1.heap.size + 1 := by omega
    obtain ⟨ownp, hgp⟩ := own_first (B := w.heap.size) (w1.alloc (.cells #[.slice A1 u.post.length cc1] 23)) 23 (.slice A1 u.post.length cc1) (.slice none 0 0) _ (w1.heap.size + 1) (by simp) rfl (by simp; omega) hcut hcut2
    have OWP := Lib.hid ownp
    have hbp := Lib.hid (hb1.trans (((Below.refl w1.heap.size w1).alloc (Nat.le_refl _) (.cells #[.slice A1 u.post.length cc1] 23)).grown hgp (by simp) (fun k hk => by cases hk) |>.mono z1))
    have OW1 := Lib.hid own1
    clear hcut hcut2 ownp hgp own1
    go_wp2_with fail
    rw [rounds_succ]
    go_wp2_with fail
    have nd := HNR.out.keep (w' := ((w1.alloc (.cells #[.slice A1 u.post.length cc1] 23)).alloc (.cells (#[.slice A1 u.post.length cc1] ++ Builtin.zeroCells #[.slice none 0 0] ((Question.appendCap 1 0 23).cut (w1.tape w1.drawn (Question.appendCap 1 0 23)) - 1)) 23)).drew) (S' := S) (fun g o u h hc => (hbp.out.cell (p := ⟨g, o, none⟩) (HS.out g h)).trans hc) (fun g h => h)
    refine (ih2.out _ nd (fun g h => by have := HS.out g h; simp; omega)).mono ?_
    rintro e w3 ⟨A3, cc3, rfl, own3, hb3⟩
    have z3 : w1.heap.size + 1 + 1 ≤ w3.heap.size := by have := hb3.size; simpa using this
    have HB3 := Lib.hid (hbp.out.trans (hb3.mono (by simp; omega)))
    have OWP3 := own_below OWP.out hb3
    have OW13 := own_below (((OW1.out.alloc _).alloc _).drew) hb3
    have OW33 := own3.mono (base' := w.heap.size) (by simp; omega)
    clear own3 hb3 nd hbp OW1 OWP d0 e1 e2 e3 e4
    go_wp2_with (at_builtin; refine app_sl rfl (.tmp 26) (.tmp 29) rfl w.heap.size _ 1 _ A3 v.post.length cc3 rfl OWP3 _ rfl rfl (by omega) (by omega) ?_; intro v5 w5 own5 hb5 hg5)
    obtain ⟨pb, c5, rfl, hp0, hp1⟩ := own_lt own5 (by omega)
    have OW15 := (OW13.alloc (.cells #[.slice A3 v.post.length cc3] 23)).kept hg5 (rows_apart OW13 OWP3 (by decide))
    have OW35 := (OW33.alloc (.cells #[.slice A3 v.post.length cc3] 23)).kept hg5 (rows_apart OW33 OWP3 (by decide))
    have HB5 := Lib.hid (HB3.out.trans hb5)
    have d5 : w5.cell? ⟨g, 0, none⟩ = some (.int .i64 s) := (HB5.out.cell (p := ⟨g, 0, none⟩) hgl).trans c0
    have cp0 := Lib.hid (own_cell own5 (j := 0) rfl)
    have cp1 := Lib.hid (own_cell own5 (j := 1) rfl)
    have z5 := HB5.out.size
    clear hb5 hg5 OW13 OW33 OWP3 own5 HB3
    rw [rounds_succ]
    go_wp2_with fail
    refine (simpler_bin s s0 s1 u v hs1 hs2 pb _ cc1 _ cc3 w.heap.size c5 A1 A3 _ OW15 OW35 (by omega) (by omega) cp0.out cp1.out z5).mono ?_
    rintro e w7 hout
    have hout := outP_step hout HB5.out
    obtain ⟨A7, c7, rfl, own7, hb7⟩ := hout
    go_wp2_with fail
    go_ret
    exact ⟨A7, c7, rfl, own7, hb7⟩
set_option maxRecDepth 100000 in
set_option maxHeartbeats 2000000 in
theorem impl_ExprSimple (A : Option Addr) (n c B : Nat) (xs : List Int) (w : World) (hx : Rd w B A n (I64 xs)) (hB : B ≤ w.heap.size) (hn : n ≤ 1000000000000) :
    Calls Try.prog 32 #[.slice A n c] w (OutP w.heap.size (Pl.exprSimple xs) w) := by
  have lx : xs.length = n := by have := hx.len; rwa [I64_len] at this
  have cv := fun w' => impl_ExprValid A n c B xs w'
  cases he : Pl.exprValid xs
  · have hr := Lib.hid (Pl.exprSimple_f he)
    rw [he] at cv
    go_enter Try.func32, Try.ntmps32
    go_wp2_with fail
    refine (cv _ hx hn).mono ?_
    rintro e w' ⟨rfl, rfl⟩
    go_wp2_with fail
    go_ret
    rw [hr.out]
    exact ⟨none, 0, rfl, World.ownsRow_nil _ _ _ _, Below.refl _ _⟩
  · have hr := Lib.hid (Pl.exprSimple_t he)
    rw [he] at cv
    obtain ⟨h1, h2, h3⟩ := Pl.run_valid he
    have hv := Pl.valid_t he
    have hl : (Pl.tree xs).post.length ≤ 1000 := by rw [h3]; omega
    have hsl := Pl.simpT_len (Pl.tree xs)
    have hsp := (Pl.simpT (Pl.tree xs)).post_pos
    have HBld := Lib.hid (impl_build A n c B xs w hx hB he)
    have HX := Lib.hid hx
    have HSi := Lib.hid (fun S g w' hN hS => impl_simple S (Pl.tree xs) h2 hl g w' hN hS)
    generalize hu : (Pl.simpT (Pl.tree xs)).post = u at *
    have hul : u.length ≤ 1000 := by omega
    clear h1 h2 h3 he lx hx hl hv hsl hu
    go_enter Try.func32, Try.ntmps32
    go_wp2_with fail
    refine (cv _ HX.out hn).mono ?_
    rintro e w' ⟨rfl, rfl⟩
    go_wp2_with fail
    refine (HBld.out).mono ?_
    rintro e w1 ⟨g, rfl, hnode, hb1⟩
    have z1 := hb1.size
    go_wp2_with fail
    refine (HSi.out _ g _ hnode (fun g h => h.2)).mono ?_
    rintro e w2 ⟨A2, c2, rfl, own2, hb2⟩
    have z2 := hb2.size
    obtain ⟨g2, rfl, hg0, hg1⟩ := own_some own2 hsp
    have HB2 := below_step hb1 hb2 z1
    go_wp2_with fail
    refine (clone_ints g2 0 u.length c2 (I64 u) w2 (I64_len _) (fun j y hy => by rw [Nat.zero_add]; exact own_cell own2 hy) hg1 (fun y hy => by unfold I64 at hy; obtain ⟨_, _, rfl⟩ := List.mem_map.1 hy; rfl) hul).mono ?_
    rintro e w3 ⟨v3, rfl, own3, hb3⟩
    go_wp2_with fail
    go_ret
    rw [hr.out]
    exact outP_row rfl (own3.mono HB2.size) (below_step HB2 hb3 HB2.size)
end Go.Proofs.Ytnjcephddilalab
