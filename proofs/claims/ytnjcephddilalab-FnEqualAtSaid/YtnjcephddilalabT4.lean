/-
  Texts of expressions: the reference's and the program's, both the text of the tree.
  Conditions: as stated at each.
-/
import Derived.Test.YtnjcephddilalabT2
import Derived.Test.YtnjcephddilalabT5
import Derived.Test.YtnjcephddilalabPu
namespace Go.Proofs.Ytnjcephddilalab
set_option linter.unusedVariables false
set_option linter.unusedSimpArgs false
open Go.RowKit
theorem small_text (t : Pl.Tr) (ok : t.ok) (b : Bool) (hb : Pl.takes t.top ≠ 2) : Pl.brk (b && t.two (-1)) t.txt = t.txt := by
  have : t.two (-1) = false := by
    cases hq : t.two (-1) with
    | false => rfl
    | true => exact absurd ((two_takes t ok (-1)).1 hq).1 hb
  rw [this, Bool.and_false]; rfl
set_option maxRecDepth 100000 in
set_option maxHeartbeats 4000000 in
theorem spec_l9Text : ∀ (t : Pl.Tr), t.ok → t.post.length ≤ 1000000 → ∀ (b off n c B : Nat) (small : Bool) (w : World), Rd w B (some ⟨b, off, none⟩) n (I64 t.post) → n ≤ c → B ≤ w.heap.size →
    Calls Try.prog 88 #[.slice (some ⟨b, off, none⟩) n c, .bool small] w (OutB (Pl.brk (small && t.two (-1)) t.txt) w)
  | .leaf s, ok, hlen, b, off, n, c, B, small, w, hx, hnc, hB => by
    have hst := Lib.hid (small_text (.leaf s) ok small (by have := Pl.takes_0 ok.2; show Pl.takes s ≠ 2; omega))
    obtain ⟨s0, s1⟩ := ok
    obtain rfl : n = 1 := by have := hx.len; rw [I64_len] at this; simpa [Pl.Tr.post] using this.symm
    obtain ⟨_, _, e, hbl, hc⟩ := hx.pos (by omega)
    injection e with e; injection e with e1 e2; subst e1; subst e2
    have c0 : w.cell? ⟨b, off, none⟩ = some (.int .i64 s) := hc 0 _ rfl
    clear hc hx
    by_cases h9 : s ≤ 9
    · obtain ⟨k, rfl⟩ := Int.eq_ofNat_of_zero_le s0
      have hd : dec k = (Pl.Tr.leaf (k : Int)).txt := by
        rcases (by omega : k = 0 ∨ k = 1 ∨ k = 2 ∨ k = 3 ∨ k = 4 ∨ k = 5 ∨ k = 6 ∨ k = 7 ∨ k = 8 ∨ k = 9) with rfl | rfl | rfl | rfl | rfl | rfl | rfl | rfl | rfl | rfl <;> rw [dec_1 (by omega)] <;> rfl
      have HD := Lib.hid hd
      have HK := Lib.hid (fun w => spec_l1Number_1 k w (by omega))
      clear hd s1 hlen
      go_enter Try.func88, Try.ntmps88
      go_wp2_with fail
      refine (HK.out _).mono ?_
      rintro e w' ⟨rfl, hb1⟩
      go_wp2_with fail
      go_ret
      rw [hst.out]
      exact ⟨by rw [HD.out]; rfl, hb1⟩
    · rcases (by omega : s = 10 ∨ s = 11) with rfl | rfl
      all_goals
        go_enter Try.func88, Try.ntmps88
        go_wp2_with fail
        go_ret
        rw [hst.out]
        exact ⟨rfl, Below.refl _ _⟩
  | .un s t, ok, hlen, b, off, n, c, B, small, w, hx, hnc, hB => by
    have hst := Lib.hid (small_text (.un s t) ok small (by have := Pl.takes_1 ok.1.1 ok.1.2; show Pl.takes s ≠ 2; omega))
    obtain ⟨⟨s0, s1⟩, ok1⟩ := ok
    obtain ⟨m, hm⟩ : ∃ m, t.post.length = m := ⟨_, rfl⟩
    obtain rfl : n = m + 1 := by have := hx.len; rw [I64_len] at this; simpa [Pl.Tr.post, hm] using this.symm
    obtain ⟨_, _, e, hbl, hc⟩ := hx.pos (by omega)
    injection e with e; injection e with e1 e2; subst e1; subst e2
    have c0 : w.cell? ⟨b, off + m, none⟩ = some (.int .i64 s) := hc m _ (by simp [Pl.Tr.post, I64, hm])
    have hx1 : Rd w B (some ⟨b, off, none⟩) m (I64 t.post) := by
      have := hx.take (k := m) (by omega)
      simpa [Pl.Tr.post, I64, hm] using this
    have hl1 : t.post.length ≤ 1000000 := by simp [Pl.Tr.post] at hlen; omega
    have hlm : m ≤ 1000000 := by omega
    have ih : ∀ (w : World), Rd w B (some ⟨b, off, none⟩) m (I64 t.post) → B ≤ w.heap.size → Calls Try.prog 88 #[.slice (some ⟨b, off, none⟩) m c, .bool true] w (OutB (Pl.brk (t.two (-1)) t.txt) w) :=
      fun w h h2 => spec_l9Text t ok1 hl1 b off m c B true w h (by omega) h2
    have hbt := tree_le t (t.two (-1)) hl1
    have IH := Lib.hid ih
    have HX := Lib.hid hx1
    have HM := Lib.hid hm
    have k1 : ((m + 1 : Nat) : Int) - 1 = (m : Int) := by omega
    have k2 : (0 : Int) ≤ (m : Int) := by omega
    have k3 : (m : Int) < (m : Int) + 1 := by omega
    have k4 : (m : Int) ≤ (c : Int) := by omega
    clear hc hx hlen hm hx1 ih
    rcases (by omega : s = 12 ∨ s = 13 ∨ s = 14) with rfl | rfl | rfl
    · have ha : ∀ w, (Op.stringOp .add (⟨#[126]⟩ : ByteArray) (Ba (Pl.brk (t.two (-1)) t.txt))).run Try.prog w = .ok (.string (Ba (126 :: Pl.brk (t.two (-1)) t.txt))) w := fun w => add_Ba (P := Try.prog) [126] (Pl.brk (t.two (-1)) t.txt) (by simp only [List.length_cons, List.length_nil]; omega) w
      go_enter Try.func88, Try.ntmps88
      go_wp2_with fail
      go_region_with (first | (go_at_call 88; refine (IH.out _ (by first | exact HX.out | exact HX.out.alloc hB _) (by first | exact hB | (simp; omega))).mono ?_; rintro e w1 ⟨rfl, hb1⟩; have hc1 := (bcell hb1).1))
      all_goals go_wp2
      all_goals go_ret
      all_goals rw [hst.out]
      all_goals refine ⟨rfl, ?_⟩
      all_goals first
        | exact ((Below.refl w.heap.size w).drew.trans hb1).alloc hb1.size _
        | exact ((Below.refl w.heap.size w).alloc (Nat.le_refl _) _).drew.trans (hb1.mono (by simp))
    · have ha : ∀ w, (Op.stringOp .add (⟨#[60]⟩ : ByteArray) (Ba (Pl.brk (t.two (-1)) t.txt))).run Try.prog w = .ok (.string (Ba (60 :: Pl.brk (t.two (-1)) t.txt))) w := fun w => add_Ba (P := Try.prog) [60] (Pl.brk (t.two (-1)) t.txt) (by simp only [List.length_cons, List.length_nil]; omega) w
      go_enter Try.func88, Try.ntmps88
      go_wp2_with fail
      go_region_with (first | (go_at_call 88; refine (IH.out _ (by first | exact HX.out | exact HX.out.alloc hB _) (by first | exact hB | (simp; omega))).mono ?_; rintro e w1 ⟨rfl, hb1⟩; have hc1 := (bcell hb1).1))
      all_goals go_wp2
      all_goals go_ret
      all_goals rw [hst.out]
      all_goals refine ⟨rfl, ?_⟩
      all_goals first
        | exact ((Below.refl w.heap.size w).drew.trans hb1).alloc hb1.size _
        | exact ((Below.refl w.heap.size w).alloc (Nat.le_refl _) _).drew.trans (hb1.mono (by simp))
    · have ha : ∀ w, (Op.stringOp .add (⟨#[62]⟩ : ByteArray) (Ba (Pl.brk (t.two (-1)) t.txt))).run Try.prog w = .ok (.string (Ba (62 :: Pl.brk (t.two (-1)) t.txt))) w := fun w => add_Ba (P := Try.prog) [62] (Pl.brk (t.two (-1)) t.txt) (by simp only [List.length_cons, List.length_nil]; omega) w
      go_enter Try.func88, Try.ntmps88
      go_wp2_with fail
      go_region_with (first | (go_at_call 88; refine (IH.out _ (by first | exact HX.out | exact HX.out.alloc hB _) (by first | exact hB | (simp; omega))).mono ?_; rintro e w1 ⟨rfl, hb1⟩; have hc1 := (bcell hb1).1))
      all_goals go_wp2
      all_goals go_ret
      all_goals rw [hst.out]
      all_goals refine ⟨rfl, ?_⟩
      all_goals first
        | exact ((Below.refl w.heap.size w).drew.trans hb1).alloc hb1.size _
        | exact ((Below.refl w.heap.size w).alloc (Nat.le_refl _) _).drew.trans (hb1.mono (by simp))
  | .bin s l r, ok, hlen, b, off, n, c, B, small, w, hx, hnc, hB => by
    obtain ⟨rfl, H⟩ := binW hx hnc hB ok.2.2 hlen
    obtain ⟨⟨s0, s1⟩, ok1, ok2⟩ := ok
    have hl := H.hlen
    have ihl : ∀ (w : World), Rd w B (some ⟨b, off, none⟩) l.post.length (I64 l.post) → B ≤ w.heap.size → Calls Try.prog 88 #[.slice (some ⟨b, off, none⟩) l.post.length c, .bool false] w (OutB l.txt w) :=
      fun w h h2 => spec_l9Text l ok1 (by omega) b off _ c B false w h (by omega) h2
    have ihr : ∀ (w : World), Rd w B (some ⟨b, off + l.post.length, none⟩) r.post.length (I64 r.post) → B ≤ w.heap.size → Calls Try.prog 88 #[.slice (some ⟨b, off + l.post.length, none⟩) r.post.length (c - l.post.length), .bool true] w (OutB (Pl.brk (r.two (-1)) r.txt) w) :=
      fun w h h2 => spec_l9Text r ok2 (by omega) b (off + l.post.length) _ (c - l.post.length) B true w h (by omega) h2
    have b0 := tree_le l false (by omega)
    have b1 := tree_le l (l.two s) (by omega)
    have b2 := tree_le r (r.two (-1)) (by omega)
    have h2 := two_takes l ok1 s
    by_cases ht : Pl.takes l.top = 2
    · by_cases hne : l.top = s
      · exact text_binB s l r b off c B _ _ small w s0 s1 H b0 b1 b2 ihl ihr ht hne (by cases hq : l.two s with | false => rfl | true => exact absurd hne (h2.1 hq).2)
      · exact text_binA s l r b off c B _ _ small w s0 s1 H b0 b1 b2 ihl ihr ht hne (h2.2 ⟨ht, hne⟩)
    · exact text_binC s l r b off c B _ _ small w s0 s1 H b0 b1 b2 ihl ihr ht (by cases hq : l.two s with | false => rfl | true => exact absurd (h2.1 hq).1 ht)
theorem own_cap {w : World} {base n c : Nat} {e : TypeId} {A : Option Addr} {xs : List Value} (h : w.ownsRow base e 1 (.slice A n c) n xs) : n ≤ c := by
  obtain ⟨A', c', e0, h1, _, _⟩ := Rd.of_own h
  injection e0 with _ _ e3
  omega
theorem exprText_f {e : List Int} (h : Pl.exprValid e = false) : Pl.exprText e = [] := by unfold Pl.exprText; rw [h]; rfl
set_option maxHeartbeats 1000000 in
theorem spec_ExprText (A : Option Addr) (n c B : Nat) (xs : List Int) (w : World) (hx : Rd w B A n (I64 xs)) (hB : B ≤ w.heap.size) (hn : n ≤ 1000000000000) (hnc : n ≤ c) :
    Calls Try.prog 57 #[.slice A n c] w (OutB (Pl.exprText xs) w) := by
  have lx : xs.length = n := by have := hx.len; rwa [I64_len] at this
  have cv := fun w' => spec_ExprValid A n c B xs w'
  cases he : Pl.exprValid xs
  · have hr := Lib.hid (exprText_f he)
    rw [he] at cv
    go_enter Try.func57, Try.ntmps57
    go_wp2_with fail
    refine (cv _ hx hn).mono ?_
    rintro e w' ⟨rfl, rfl⟩
    go_wp2_with fail
    go_ret
    rw [hr.out]
    exact ⟨rfl, Below.refl _ _⟩
  · have hr := Lib.hid (Pl.text_valid he)
    rw [he] at cv
    obtain ⟨h1, h2, h3⟩ := Pl.run_valid he
    have hv := Pl.valid_t he
    obtain ⟨b, off, rfl, hbl, hc⟩ := hx.pos (by omega)
    have hx' : Rd w B (some ⟨b, off, none⟩) n (I64 (Pl.tree xs).post) := by rw [h3]; exact hx
    have hT : Calls Try.prog 88 #[.slice (some ⟨b, off, none⟩) n c, .bool false] w (OutB (Pl.tree xs).txt w) :=
      spec_l9Text (Pl.tree xs) h2 (by rw [h3]; omega) b off n c B false w hx' hnc hB
    have HT := Lib.hid hT
    have HX := Lib.hid hx
    clear hT hx' hc h1 h2 h3 he lx hx
    go_enter Try.func57, Try.ntmps57
    go_wp2_with fail
    refine (cv _ HX.out hn).mono ?_
    rintro e w' ⟨rfl, rfl⟩
    go_wp2_with fail
    refine (HT.out).mono ?_
    rintro e w' ⟨rfl, hb⟩
    go_wp2_with fail
    go_ret
    rw [hr.out]
    exact ⟨rfl, hb⟩
set_option maxHeartbeats 1000000 in
theorem impl_ExprText (A : Option Addr) (n c B : Nat) (xs : List Int) (w : World) (hx : Rd w B A n (I64 xs)) (hB : B ≤ w.heap.size) (hn : n ≤ 1000000000000) :
    Calls Try.prog 30 #[.slice A n c] w (OutB (Pl.exprText xs) w) := by
  have lx : xs.length = n := by have := hx.len; rwa [I64_len] at this
  have cv := fun w' => impl_ExprValid A n c B xs w'
  cases he : Pl.exprValid xs
  · have hr := Lib.hid (exprText_f he)
    rw [he] at cv
    go_enter Try.func30, Try.ntmps30
    go_wp2_with fail
    refine (cv _ hx hn).mono ?_
    rintro e w' ⟨rfl, rfl⟩
    go_wp2_with fail
    go_ret
    rw [hr.out]
    exact ⟨rfl, Below.refl _ _⟩
  · have hr := Lib.hid (Pl.text_valid he)
    rw [he] at cv
    obtain ⟨h1, h2, h3⟩ := Pl.run_valid he
    have hv := Pl.valid_t he
    have hl := Pl.text_len he
    rw [Pl.text_valid he] at hl
    have HL := Lib.hid (show (Pl.tree xs).txt.length ≤ 1000000 by omega)
    have HBld := Lib.hid (impl_build A n c B xs w hx hB he)
    have HX := Lib.hid hx
    have OK := Lib.hid h2
    clear h1 h2 h3 he lx hx hl hv
    go_enter Try.func30, Try.ntmps30
    go_wp2_with fail
    refine (cv _ HX.out hn).mono ?_
    rintro e w' ⟨rfl, rfl⟩
    go_wp2_with fail
    refine (HBld.out).mono ?_
    rintro e w' ⟨g, rfl, hnode, hb⟩
    go_wp2_with fail
    refine (impl_text _ (Pl.tree xs) OK.out HL.out g _ hnode).mono ?_
    rintro e w' ⟨rfl, q, rfl⟩
    go_wp2_with fail
    go_ret
    rw [hr.out]
    exact ⟨rfl, below_drewN hb q⟩
end Go.Proofs.Ytnjcephddilalab
