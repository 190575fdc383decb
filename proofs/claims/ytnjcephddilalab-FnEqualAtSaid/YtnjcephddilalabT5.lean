/-
  The reference's texts of expressions: the walk of a step that takes two.
  Conditions: as stated at each.
-/
import Derived.Test.YtnjcephddilalabT3
namespace Go.Proofs.Ytnjcephddilalab
set_option linter.unusedVariables false
set_option linter.unusedSimpArgs false
open Go.RowKit
theorem tree_le (t : Pl.Tr) (b : Bool) (h : t.post.length ≤ 1000000) : (Pl.brk b t.txt).length ≤ 3000000 := by
  have h1 := Pl.txt_len t
  have h2 := Pl.brk_len b t.txt
  omega
theorem below_d0 {w w1 : World} (h : Below w.drew.heap.size w.drew w1) : Below w.heap.size w w1 := (Below.refl w.heap.size w).drew.trans h
theorem below_d1 {w w1 : World} {o : Obj} (h : Below (w.alloc o).drew.heap.size (w.alloc o).drew w1) : Below w.heap.size w w1 := ((Below.refl w.heap.size w).alloc (Nat.le_refl _) o).drew.trans (h.mono (by simp))
/-- What a walk over a binary step is told. -/
structure BinW (s : Int) (l r : Pl.Tr) (b off c B p m : Nat) (w : World) : Prop where
  hp0 : 0 < p
  hm0 : 0 < m
  hlen : p + m + 1 ≤ 1000000
  hnc : p + m + 1 ≤ c
  hB : B ≤ w.heap.size
  hbl : b < B
  c0 : w.cell? ⟨b, off + (p + m), none⟩ = some (.int .i64 s)
  cl : w.cell? ⟨b, off + (p - 1), none⟩ = some (.int .i64 l.top)
  hxl : Rd w B (some ⟨b, off, none⟩) p (I64 l.post)
  hxr : Rd w B (some ⟨b, off + p, none⟩) m (I64 r.post)
  halves : Calls Try.prog 95 #[.slice (some ⟨b, off, none⟩) (p + m + 1) c] w (OutH (some ⟨b, off, none⟩) (some ⟨b, off + p, none⟩) p c m (c - p) w)
theorem binW {s : Int} {l r : Pl.Tr} {b off n c B : Nat} {w : World} (hx : Rd w B (some ⟨b, off, none⟩) n (I64 (Pl.Tr.bin s l r).post)) (hnc : n ≤ c) (hB : B ≤ w.heap.size) (ok2 : r.ok) (hlen : (Pl.Tr.bin s l r).post.length ≤ 1000000) :
    n = l.post.length + r.post.length + 1 ∧ BinW s l r b off c B l.post.length r.post.length w := by
  obtain ⟨p, hp⟩ : ∃ p, l.post.length = p := ⟨_, rfl⟩
  obtain ⟨m, hm⟩ : ∃ m, r.post.length = m := ⟨_, rfl⟩
  have hp0 := l.post_pos
  have hm0 := r.post_pos
  rw [hp] at hp0
  rw [hm] at hm0
  obtain rfl : n = p + m + 1 := by have := hx.len; rw [I64_len] at this; simp [Pl.Tr.post, hp, hm] at this; omega
  obtain ⟨_, _, e, hbl, hc⟩ := hx.pos (by omega)
  injection e with e; injection e with e1 e2; subst e1; subst e2
  have c0 : w.cell? ⟨b, off + (p + m), none⟩ = some (.int .i64 s) := hc (p + m) _ (by simp [Pl.Tr.post, I64, hp, hm])
  have hxl : Rd w B (some ⟨b, off, none⟩) p (I64 l.post) := by
    have := hx.take (k := p) (by omega)
    simpa [Pl.Tr.post, I64, hp] using this
  have hxr : Rd w B (some ⟨b, off + p, none⟩) m (I64 r.post) := by
    have := (hx.drop (k := p) (by omega)).take (k := m) (by omega)
    simpa [Pl.Tr.post, I64, hp, hm, List.drop_append] using this
  have cl : w.cell? ⟨b, off + (p - 1), none⟩ = some (.int .i64 l.top) := by
    obtain ⟨q, hq⟩ := l.post_last
    have hql : q.length = p - 1 := by have := congrArg List.length hq; simp [hp] at this; omega
    obtain ⟨_, _, e, _, hc'⟩ := hxl.pos (by omega)
    injection e with e; injection e with e1 e2; subst e1; subst e2
    exact hc' (p - 1) _ (by rw [hq]; simp [I64, ← hql])
  have hlen' : p + m + 1 ≤ 1000000 := by simp [Pl.Tr.post, hp, hm] at hlen; omega
  subst hp
  subst hm
  exact ⟨rfl, hp0, hm0, hlen', hnc, hB, hbl, c0, cl, hxl, hxr, spec_l9Halves b off _ c B _ _ s l r w hx (by omega) hnc ok2 rfl rfl⟩
set_option maxRecDepth 100000 in
set_option maxHeartbeats 4000000 in
theorem text_binA (s : Int) (l r : Pl.Tr) (b off c B p m : Nat) (small : Bool) (w : World) (s0 : 15 ≤ s) (s1 : s ≤ 19) (H : BinW s l r b off c B p m w) (hbl0 : l.txt.length ≤ 3000000) (hbl1 : (Pl.brk (l.two s) l.txt).length ≤ 3000000) (hbr : (Pl.brk (r.two (-1)) r.txt).length ≤ 3000000)
    (ihl : ∀ (w : World), Rd w B (some ⟨b, off, none⟩) p (I64 l.post) → B ≤ w.heap.size → Calls Try.prog 88 #[.slice (some ⟨b, off, none⟩) p c, .bool false] w (OutB l.txt w))
    (ihr : ∀ (w : World), Rd w B (some ⟨b, off + p, none⟩) m (I64 r.post) → B ≤ w.heap.size → Calls Try.prog 88 #[.slice (some ⟨b, off + p, none⟩) m (c - p), .bool true] w (OutB (Pl.brk (r.two (-1)) r.txt) w))
    (ht : Pl.takes l.top = 2) (hne : l.top ≠ s) (htw : l.two s = true) :
    Calls Try.prog 88 #[.slice (some ⟨b, off, none⟩) (p + m + 1) c, .bool small] w (OutB (Pl.brk (small && (Pl.Tr.bin s l r).two (-1)) (Pl.Tr.bin s l r).txt) w) := by
  obtain ⟨hp0, hm0, hlen, hnc, hB, hbl, c0, cl, hxl, hxr, halves⟩ := H
  have hres : Pl.brk (small && (Pl.Tr.bin s l r).two (-1)) (Pl.Tr.bin s l r).txt = Pl.brk small (Pl.brk (l.two s) l.txt ++ Pl.signCh s :: Pl.brk (r.two (-1)) r.txt) := by
    have : (Pl.Tr.bin s l r).two (-1) = true := by simp [Pl.Tr.two]; omega
    rw [this, Bool.and_true]; rfl
  rw [hres]
  clear hres
  have IHL := Lib.hid ihl
  have IHR := Lib.hid ihr
  have HL := Lib.hid hxl
  have HR := Lib.hid hxr
  have HV := Lib.hid halves
  have k1 : ((p + m + 1 : Nat) : Int) = (p : Int) + m + 1 := by omega
  have k2 : (p : Int) + m + 1 - 1 = ((p + m : Nat) : Int) := by omega
  have k3 : (0 : Int) ≤ ((p + m : Nat) : Int) := by omega
  have k4 : ((p + m : Nat) : Int) < ((p + m + 1 : Nat) : Int) := by omega
  have k5 : (p : Int) - 1 = ((p - 1 : Nat) : Int) := by omega
  have k6 : (0 : Int) ≤ ((p - 1 : Nat) : Int) := by omega
  have k7 : ((p - 1 : Nat) : Int) < (p : Int) := by omega
  have ct := fun w => spec_l9Takes l.top w
  rw [ht] at ct
  have hnn : (l.top != s) = true := by simpa using hne
  have e40 : ∀ w, (Op.stringOp .add (⟨#[40]⟩ : ByteArray) (Ba l.txt)).run Try.prog w = .ok (.string (Ba (40 :: l.txt))) w := fun w => add_Ba (P := Try.prog) [40] l.txt (by simp only [List.length_cons, List.length_nil]; omega) w
  have e41 : ∀ w, (Op.stringOp .add (Ba (40 :: l.txt)) (⟨#[41]⟩ : ByteArray)).run Try.prog w = .ok (.string (Ba (Pl.brk (l.two s) l.txt))) w := fun w => by rw [htw]; exact add_Ba (P := Try.prog) (40 :: l.txt) [41] (by simp only [List.length_cons, List.length_nil]; omega) w
  clear htw hne
  generalize hX : Pl.brk (l.two s) l.txt = X at *
  generalize hY : Pl.brk (r.two (-1)) r.txt = Y at *
  obtain ⟨i, rfl⟩ : ∃ i : Nat, s = 15 + (i : Int) := ⟨(s - 15).toNat, by omega⟩
  have q1 : (15 : Int) + (i : Int) - 15 = (i : Int) := by omega
  have q2 : (i : Int) < 5 := by omega
  have q4 : IntKind.i64.wrap (15 + (i : Int) - 15) = (i : Int) := by rw [q1]; exact IntWalk.i64_in _ (by omega)
  have q5 : (0 : Int) ≤ (i : Int) := by omega
  have q6 : IntKind.i64.wrap (i : Int) = (i : Int) := IntWalk.i64_in _ (by omega)
  have q3 : i < 5 := by omega
  have hlit : ∀ h, ([Value.string ⟨#[43]⟩, .string ⟨#[45]⟩, .string ⟨#[38]⟩, .string ⟨#[124]⟩, .string ⟨#[94]⟩] : List Value)[i]'h = .string (Ba [Pl.signCh (15 + (i : Int))]) := by
    rcases (by omega : i = 0 ∨ i = 1 ∨ i = 2 ∨ i = 3 ∨ i = 4) with rfl | rfl | rfl | rfl | rfl <;> intro h <;> rfl
  generalize hS : Pl.signCh (15 + (i : Int)) = S at *
  clear hX hY hS halves hxl hxr ihl ihr
  obtain ⟨Z1, hZ1⟩ : ∃ Z, Z = X ++ [S] := ⟨_, rfl⟩
  obtain ⟨Z, hZ⟩ : ∃ Z, Z = Z1 ++ Y := ⟨_, rfl⟩
  have zl : Z1.length ≤ 4000000 := by rw [hZ1]; simp only [List.length_append, List.length_cons, List.length_nil]; omega
  have zl2 : Z.length ≤ 8000000 := by rw [hZ, List.length_append]; omega
  have hb1 : ∀ w, (Op.stringOp .add (Ba X) (Ba [S])).run Try.prog w = .ok (.string (Ba Z1)) w := fun w => by rw [hZ1]; exact add_Ba (P := Try.prog) X [S] (by simp only [List.length_cons, List.length_nil]; omega) w
  have hb2 : ∀ w, (Op.stringOp .add (Ba Z1) (Ba Y)).run Try.prog w = .ok (.string (Ba Z)) w := fun w => by rw [hZ]; exact add_Ba (P := Try.prog) Z1 Y (by omega) w
  have hb3 : ∀ w, (Op.stringOp .add (⟨#[40]⟩ : ByteArray) (Ba Z)).run Try.prog w = .ok (.string (Ba (40 :: Z))) w := fun w => add_Ba (P := Try.prog) [40] Z (by simp only [List.length_cons, List.length_nil]; omega) w
  have hb4 : ∀ w, (Op.stringOp .add (Ba (40 :: Z)) (⟨#[41]⟩ : ByteArray)).run Try.prog w = .ok (.string (Ba (Pl.brk true Z))) w := fun w => add_Ba (P := Try.prog) (40 :: Z) [41] (by simp only [List.length_cons, List.length_nil]; omega) w
  have HZ : Hid (X ++ S :: Y = Z) := Lib.hid (by rw [hZ, hZ1]; simp)
  clear hZ hZ1
  go_enter Try.func88, Try.ntmps88
  go_wp2_with fail
  refine (HV.out).mono ?_
  rintro e w' ⟨rfl, q, rfl⟩
  go_wp2_with fail
  refine (IHL.out _ (HL.out.drewN q) (by simp; omega)).mono ?_
  rintro e w1 ⟨rfl, hb0⟩
  have cl1 : w1.cell? ⟨b, off + (p - 1), none⟩ = some (.int .i64 l.top) := (hb0.cell (p := ⟨b, off + (p - 1), none⟩) (show b < _ by simp; omega)).trans (by simpa using cl)
  have hr1 := Lib.hid ((HR.out.drewN q).below (hb0.mono (by simp; omega)))
  have hz1 := hb0.size
  have hz1' : B ≤ w1.heap.size := by simp at hz1; omega
  have hz2 : w.heap.size ≤ w1.heap.size := by simpa using hz1
  have HB0 := Lib.hid ((below_drewN (Below.refl w.heap.size w) q).trans (hb0.mono (by simp)))
  go_upto_region 15 with ((go_at_call 44; refine (ct _).mono ?_; rintro e w' ⟨rfl, rfl⟩))
  go_cut [9] (fun s9 wx => s9 = .string (Ba Z) ∧ Below w1.heap.size w1 wx)
  case first =>
    go_region_with (first | (go_at_call 88; refine (IHR.out _ (by first | exact hr1.out | exact hr1.out.alloc hz1' _) (by first | exact hz1' | (simp; omega))).mono ?_; rintro e w3 ⟨rfl, hb3'⟩; have hc3 := (bcell hb3').1))
    all_goals go_wp2_with fail
    all_goals go_meet
    all_goals first
      | exact ⟨rfl, (below_d0 hb3').alloc (below_d0 hb3').size _⟩
      | exact ⟨rfl, below_d1 hb3'⟩
  case rest =>
    obtain ⟨rfl, hb9⟩ := hcut
    have HB := (HB0.out).trans (hb9.mono hz2)
    cases small
    all_goals go_wp2
    all_goals go_ret
    all_goals rw [HZ.out]
    all_goals exact ⟨rfl, HB⟩
set_option maxRecDepth 100000 in
set_option maxHeartbeats 4000000 in
theorem text_binB (s : Int) (l r : Pl.Tr) (b off c B p m : Nat) (small : Bool) (w : World) (s0 : 15 ≤ s) (s1 : s ≤ 19) (H : BinW s l r b off c B p m w) (hbl0 : l.txt.length ≤ 3000000) (hbl1 : (Pl.brk (l.two s) l.txt).length ≤ 3000000) (hbr : (Pl.brk (r.two (-1)) r.txt).length ≤ 3000000)
    (ihl : ∀ (w : World), Rd w B (some ⟨b, off, none⟩) p (I64 l.post) → B ≤ w.heap.size → Calls Try.prog 88 #[.slice (some ⟨b, off, none⟩) p c, .bool false] w (OutB l.txt w))
    (ihr : ∀ (w : World), Rd w B (some ⟨b, off + p, none⟩) m (I64 r.post) → B ≤ w.heap.size → Calls Try.prog 88 #[.slice (some ⟨b, off + p, none⟩) m (c - p), .bool true] w (OutB (Pl.brk (r.two (-1)) r.txt) w))
    (ht : Pl.takes l.top = 2) (hne : l.top = s) (htw : l.two s = false) :
    Calls Try.prog 88 #[.slice (some ⟨b, off, none⟩) (p + m + 1) c, .bool small] w (OutB (Pl.brk (small && (Pl.Tr.bin s l r).two (-1)) (Pl.Tr.bin s l r).txt) w) := by
  obtain ⟨hp0, hm0, hlen, hnc, hB, hbl, c0, cl, hxl, hxr, halves⟩ := H
  have hres : Pl.brk (small && (Pl.Tr.bin s l r).two (-1)) (Pl.Tr.bin s l r).txt = Pl.brk small (Pl.brk (l.two s) l.txt ++ Pl.signCh s :: Pl.brk (r.two (-1)) r.txt) := by
    have : (Pl.Tr.bin s l r).two (-1) = true := by simp [Pl.Tr.two]; omega
    rw [this, Bool.and_true]; rfl
  rw [hres]
  clear hres
  have IHL := Lib.hid ihl
  have IHR := Lib.hid ihr
  have HL := Lib.hid hxl
  have HR := Lib.hid hxr
  have HV := Lib.hid halves
  have k1 : ((p + m + 1 : Nat) : Int) = (p : Int) + m + 1 := by omega
  have k2 : (p : Int) + m + 1 - 1 = ((p + m : Nat) : Int) := by omega
  have k3 : (0 : Int) ≤ ((p + m : Nat) : Int) := by omega
  have k4 : ((p + m : Nat) : Int) < ((p + m + 1 : Nat) : Int) := by omega
  have k5 : (p : Int) - 1 = ((p - 1 : Nat) : Int) := by omega
  have k6 : (0 : Int) ≤ ((p - 1 : Nat) : Int) := by omega
  have k7 : ((p - 1 : Nat) : Int) < (p : Int) := by omega
  have ct := fun w => spec_l9Takes l.top w
  rw [ht] at ct
  have eX : Pl.brk (l.two s) l.txt = l.txt := by rw [htw]; rfl
  rw [← eX] at ihl
  have IHL := Lib.hid ihl
  rw [hne] at cl ct
  have hnn : (s != s) = false := by simp
  clear htw eX
  generalize hX : Pl.brk (l.two s) l.txt = X at *
  generalize hY : Pl.brk (r.two (-1)) r.txt = Y at *
  obtain ⟨i, rfl⟩ : ∃ i : Nat, s = 15 + (i : Int) := ⟨(s - 15).toNat, by omega⟩
  have q1 : (15 : Int) + (i : Int) - 15 = (i : Int) := by omega
  have q2 : (i : Int) < 5 := by omega
  have q4 : IntKind.i64.wrap (15 + (i : Int) - 15) = (i : Int) := by rw [q1]; exact IntWalk.i64_in _ (by omega)
  have q5 : (0 : Int) ≤ (i : Int) := by omega
  have q6 : IntKind.i64.wrap (i : Int) = (i : Int) := IntWalk.i64_in _ (by omega)
  have q3 : i < 5 := by omega
  have hlit : ∀ h, ([Value.string ⟨#[43]⟩, .string ⟨#[45]⟩, .string ⟨#[38]⟩, .string ⟨#[124]⟩, .string ⟨#[94]⟩] : List Value)[i]'h = .string (Ba [Pl.signCh (15 + (i : Int))]) := by
    rcases (by omega : i = 0 ∨ i = 1 ∨ i = 2 ∨ i = 3 ∨ i = 4) with rfl | rfl | rfl | rfl | rfl <;> intro h <;> rfl
  generalize hS : Pl.signCh (15 + (i : Int)) = S at *
  clear hX hY hS halves hxl hxr ihl ihr
  obtain ⟨Z1, hZ1⟩ : ∃ Z, Z = X ++ [S] := ⟨_, rfl⟩
  obtain ⟨Z, hZ⟩ : ∃ Z, Z = Z1 ++ Y := ⟨_, rfl⟩
  have zl : Z1.length ≤ 4000000 := by rw [hZ1]; simp only [List.length_append, List.length_cons, List.length_nil]; omega
  have zl2 : Z.length ≤ 8000000 := by rw [hZ, List.length_append]; omega
  have hb1 : ∀ w, (Op.stringOp .add (Ba X) (Ba [S])).run Try.prog w = .ok (.string (Ba Z1)) w := fun w => by rw [hZ1]; exact add_Ba (P := Try.prog) X [S] (by simp only [List.length_cons, List.length_nil]; omega) w
  have hb2 : ∀ w, (Op.stringOp .add (Ba Z1) (Ba Y)).run Try.prog w = .ok (.string (Ba Z)) w := fun w => by rw [hZ]; exact add_Ba (P := Try.prog) Z1 Y (by omega) w
  have hb3 : ∀ w, (Op.stringOp .add (⟨#[40]⟩ : ByteArray) (Ba Z)).run Try.prog w = .ok (.string (Ba (40 :: Z))) w := fun w => add_Ba (P := Try.prog) [40] Z (by simp only [List.length_cons, List.length_nil]; omega) w
  have hb4 : ∀ w, (Op.stringOp .add (Ba (40 :: Z)) (⟨#[41]⟩ : ByteArray)).run Try.prog w = .ok (.string (Ba (Pl.brk true Z))) w := fun w => add_Ba (P := Try.prog) (40 :: Z) [41] (by simp only [List.length_cons, List.length_nil]; omega) w
  have HZ : Hid (X ++ S :: Y = Z) := Lib.hid (by rw [hZ, hZ1]; simp)
  clear hZ hZ1
  go_enter Try.func88, Try.ntmps88
  go_wp2_with fail
  refine (HV.out).mono ?_
  rintro e w' ⟨rfl, q, rfl⟩
  go_wp2_with fail
  refine (IHL.out _ (HL.out.drewN q) (by simp; omega)).mono ?_
  rintro e w1 ⟨rfl, hb0⟩
  have cl1 : w1.cell? ⟨b, off + (p - 1), none⟩ = some (.int .i64 (15 + (i : Int))) := (hb0.cell (p := ⟨b, off + (p - 1), none⟩) (show b < _ by simp; omega)).trans (by simpa using cl)
  have hr1 := Lib.hid ((HR.out.drewN q).below (hb0.mono (by simp; omega)))
  have hz1 := hb0.size
  have hz1' : B ≤ w1.heap.size := by simp at hz1; omega
  have hz2 : w.heap.size ≤ w1.heap.size := by simpa using hz1
  have HB0 := Lib.hid ((below_drewN (Below.refl w.heap.size w) q).trans (hb0.mono (by simp)))
  go_upto_region 15 with ((go_at_call 44; refine (ct _).mono ?_; rintro e w' ⟨rfl, rfl⟩))
  go_cut [9] (fun s9 wx => s9 = .string (Ba Z) ∧ Below w1.heap.size w1 wx)
  case first =>
    go_region_with (first | (go_at_call 88; refine (IHR.out _ (by first | exact hr1.out | exact hr1.out.alloc hz1' _) (by first | exact hz1' | (simp; omega))).mono ?_; rintro e w3 ⟨rfl, hb3'⟩; have hc3 := (bcell hb3').1))
    all_goals go_wp2_with fail
    all_goals go_meet
    all_goals first
      | exact ⟨rfl, (below_d0 hb3').alloc (below_d0 hb3').size _⟩
      | exact ⟨rfl, below_d1 hb3'⟩
  case rest =>
    obtain ⟨rfl, hb9⟩ := hcut
    have HB := (HB0.out).trans (hb9.mono hz2)
    cases small
    all_goals go_wp2
    all_goals go_ret
    all_goals rw [HZ.out]
    all_goals exact ⟨rfl, HB⟩
set_option maxRecDepth 100000 in
set_option maxHeartbeats 4000000 in
theorem text_binC (s : Int) (l r : Pl.Tr) (b off c B p m : Nat) (small : Bool) (w : World) (s0 : 15 ≤ s) (s1 : s ≤ 19) (H : BinW s l r b off c B p m w) (hbl0 : l.txt.length ≤ 3000000) (hbl1 : (Pl.brk (l.two s) l.txt).length ≤ 3000000) (hbr : (Pl.brk (r.two (-1)) r.txt).length ≤ 3000000)
    (ihl : ∀ (w : World), Rd w B (some ⟨b, off, none⟩) p (I64 l.post) → B ≤ w.heap.size → Calls Try.prog 88 #[.slice (some ⟨b, off, none⟩) p c, .bool false] w (OutB l.txt w))
    (ihr : ∀ (w : World), Rd w B (some ⟨b, off + p, none⟩) m (I64 r.post) → B ≤ w.heap.size → Calls Try.prog 88 #[.slice (some ⟨b, off + p, none⟩) m (c - p), .bool true] w (OutB (Pl.brk (r.two (-1)) r.txt) w))
    (ht : Pl.takes l.top ≠ 2) (htw : l.two s = false) :
    Calls Try.prog 88 #[.slice (some ⟨b, off, none⟩) (p + m + 1) c, .bool small] w (OutB (Pl.brk (small && (Pl.Tr.bin s l r).two (-1)) (Pl.Tr.bin s l r).txt) w) := by
  obtain ⟨hp0, hm0, hlen, hnc, hB, hbl, c0, cl, hxl, hxr, halves⟩ := H
  have hres : Pl.brk (small && (Pl.Tr.bin s l r).two (-1)) (Pl.Tr.bin s l r).txt = Pl.brk small (Pl.brk (l.two s) l.txt ++ Pl.signCh s :: Pl.brk (r.two (-1)) r.txt) := by
    have : (Pl.Tr.bin s l r).two (-1) = true := by simp [Pl.Tr.two]; omega
    rw [this, Bool.and_true]; rfl
  rw [hres]
  clear hres
  have IHL := Lib.hid ihl
  have IHR := Lib.hid ihr
  have HL := Lib.hid hxl
  have HR := Lib.hid hxr
  have HV := Lib.hid halves
  have k1 : ((p + m + 1 : Nat) : Int) = (p : Int) + m + 1 := by omega
  have k2 : (p : Int) + m + 1 - 1 = ((p + m : Nat) : Int) := by omega
  have k3 : (0 : Int) ≤ ((p + m : Nat) : Int) := by omega
  have k4 : ((p + m : Nat) : Int) < ((p + m + 1 : Nat) : Int) := by omega
  have k5 : (p : Int) - 1 = ((p - 1 : Nat) : Int) := by omega
  have k6 : (0 : Int) ≤ ((p - 1 : Nat) : Int) := by omega
  have k7 : ((p - 1 : Nat) : Int) < (p : Int) := by omega
  have ct := fun w => spec_l9Takes l.top w
  have ht' : (Pl.takes l.top == 2) = false := by simpa using ht
  have eX : Pl.brk (l.two s) l.txt = l.txt := by rw [htw]; rfl
  rw [← eX] at ihl
  have IHL := Lib.hid ihl
  clear htw eX
  generalize hX : Pl.brk (l.two s) l.txt = X at *
  generalize hY : Pl.brk (r.two (-1)) r.txt = Y at *
  obtain ⟨i, rfl⟩ : ∃ i : Nat, s = 15 + (i : Int) := ⟨(s - 15).toNat, by omega⟩
  have q1 : (15 : Int) + (i : Int) - 15 = (i : Int) := by omega
  have q2 : (i : Int) < 5 := by omega
  have q4 : IntKind.i64.wrap (15 + (i : Int) - 15) = (i : Int) := by rw [q1]; exact IntWalk.i64_in _ (by omega)
  have q5 : (0 : Int) ≤ (i : Int) := by omega
  have q6 : IntKind.i64.wrap (i : Int) = (i : Int) := IntWalk.i64_in _ (by omega)
  have q3 : i < 5 := by omega
  have hlit : ∀ h, ([Value.string ⟨#[43]⟩, .string ⟨#[45]⟩, .string ⟨#[38]⟩, .string ⟨#[124]⟩, .string ⟨#[94]⟩] : List Value)[i]'h = .string (Ba [Pl.signCh (15 + (i : Int))]) := by
    rcases (by omega : i = 0 ∨ i = 1 ∨ i = 2 ∨ i = 3 ∨ i = 4) with rfl | rfl | rfl | rfl | rfl <;> intro h <;> rfl
  generalize hS : Pl.signCh (15 + (i : Int)) = S at *
  clear hX hY hS halves hxl hxr ihl ihr
  obtain ⟨Z1, hZ1⟩ : ∃ Z, Z = X ++ [S] := ⟨_, rfl⟩
  obtain ⟨Z, hZ⟩ : ∃ Z, Z = Z1 ++ Y := ⟨_, rfl⟩
  have zl : Z1.length ≤ 4000000 := by rw [hZ1]; simp only [List.length_append, List.length_cons, List.length_nil]; omega
  have zl2 : Z.length ≤ 8000000 := by rw [hZ, List.length_append]; omega
  have hb1 : ∀ w, (Op.stringOp .add (Ba X) (Ba [S])).run Try.prog w = .ok (.string (Ba Z1)) w := fun w => by rw [hZ1]; exact add_Ba (P := Try.prog) X [S] (by simp only [List.length_cons, List.length_nil]; omega) w
  have hb2 : ∀ w, (Op.stringOp .add (Ba Z1) (Ba Y)).run Try.prog w = .ok (.string (Ba Z)) w := fun w => by rw [hZ]; exact add_Ba (P := Try.prog) Z1 Y (by omega) w
  have hb3 : ∀ w, (Op.stringOp .add (⟨#[40]⟩ : ByteArray) (Ba Z)).run Try.prog w = .ok (.string (Ba (40 :: Z))) w := fun w => add_Ba (P := Try.prog) [40] Z (by simp only [List.length_cons, List.length_nil]; omega) w
  have hb4 : ∀ w, (Op.stringOp .add (Ba (40 :: Z)) (⟨#[41]⟩ : ByteArray)).run Try.prog w = .ok (.string (Ba (Pl.brk true Z))) w := fun w => add_Ba (P := Try.prog) (40 :: Z) [41] (by simp only [List.length_cons, List.length_nil]; omega) w
  have HZ : Hid (X ++ S :: Y = Z) := Lib.hid (by rw [hZ, hZ1]; simp)
  clear hZ hZ1
  go_enter Try.func88, Try.ntmps88
  go_wp2_with fail
  refine (HV.out).mono ?_
  rintro e w' ⟨rfl, q, rfl⟩
  go_wp2_with fail
  refine (IHL.out _ (HL.out.drewN q) (by simp; omega)).mono ?_
  rintro e w1 ⟨rfl, hb0⟩
  have cl1 : w1.cell? ⟨b, off + (p - 1), none⟩ = some (.int .i64 l.top) := (hb0.cell (p := ⟨b, off + (p - 1), none⟩) (show b < _ by simp; omega)).trans (by simpa using cl)
  have hr1 := Lib.hid ((HR.out.drewN q).below (hb0.mono (by simp; omega)))
  have hz1 := hb0.size
  have hz1' : B ≤ w1.heap.size := by simp at hz1; omega
  have hz2 : w.heap.size ≤ w1.heap.size := by simpa using hz1
  have HB0 := Lib.hid ((below_drewN (Below.refl w.heap.size w) q).trans (hb0.mono (by simp)))
  go_upto_region 15 with ((go_at_call 44; refine (ct _).mono ?_; rintro e w' ⟨rfl, rfl⟩))
  go_cut [9] (fun s9 wx => s9 = .string (Ba Z) ∧ Below w1.heap.size w1 wx)
  case first =>
    go_region_with (first | (go_at_call 88; refine (IHR.out _ (by first | exact hr1.out | exact hr1.out.alloc hz1' _) (by first | exact hz1' | (simp; omega))).mono ?_; rintro e w3 ⟨rfl, hb3'⟩; have hc3 := (bcell hb3').1))
    all_goals go_wp2_with fail
    all_goals go_meet
    all_goals first
      | exact ⟨rfl, (below_d0 hb3').alloc (below_d0 hb3').size _⟩
      | exact ⟨rfl, below_d1 hb3'⟩
  case rest =>
    obtain ⟨rfl, hb9⟩ := hcut
    have HB := (HB0.out).trans (hb9.mono hz2)
    cases small
    all_goals go_wp2
    all_goals go_ret
    all_goals rw [HZ.out]
    all_goals exact ⟨rfl, HB⟩
end Go.Proofs.Ytnjcephddilalab
