/-
  The program's simpler expressions, and the first of the reference's.
  Conditions: as stated at each.
-/
import Derived.Test.YtamhpgledbmnoaaGreatDoorS3
import Derived.Test.YtamhpgledbmnoaaGreatDoorKT
namespace Go.Proofs.YtamhpgledbmnoaaGreatDoor
set_option linter.unusedVariables false
set_option linter.unusedSimpArgs false
open Go.RowKit
theorem sl_info : (Tryz.prog.info? 41).map (fun i => (i.zero, i.size, i.bytes)) = some (some (.slice none 0 0), 1, 24) := by kernel_rfl
section
variable {w : World} {ops : Array Oper} {rest : List Oper} {o : Oper} {a : Act} {Q : Exit → Act → World → Prop}
/-- A slice behind a row of slices. -/
theorem app_sl (hgd : o.guard = none) (s x : Operand)
    (ho : o.op = .call { callee := .builtin .append, args := #[s, x], argTypes := #[87, 87] })
    (base : Nat) (v : Value) (n : Nat) (xs : List Value) (A : Option Addr) (m c : Nat) (hs : a.eval s = v) (hown : w.ownsRow base 41 1 v n xs)
    (b0 : Nat) (hb0 : w.heap.size = b0) (hx : a.eval x = .slice (some ⟨b0, 0, none⟩) 1 1) (hn : n ≤ 1000000) (hbase : base ≤ w.heap.size)
    (h : ∀ v' w', w'.ownsRow base 41 1 v' (n + 1) (xs ++ [.slice A m c]) → Below base w w' → (w.alloc (.cells #[.slice A m c] 41)).grownBy w' v.ownBlock → wpList Tryz.prog ops Q rest (a.put o.dst v') w') :
    wpList Tryz.prog ops Q (o :: rest) a (w.alloc (.cells #[.slice A m c] 41)) := by
  subst hb0
  obtain ⟨i0, hi0, hz0, hz1, hz2⟩ := info_parts sl_info
  exact wpList_append_own _ hgd s x _ ho base 41 i0 _ 1 24 Tryz.underlying87 hi0 hz0 hz1 hz2 rfl (by decide) v n xs hs (hown.alloc _) ⟨w.heap.size, 0, none⟩ 1 1 [.slice A m c] hx rfl
    (cell_one_new _ _ _) (by simp [Value.oneCell']) (by simp only [maxLen]; omega) (by omega) (by simp; omega)
    (fun v' w' h2 h3 _ => h v' w' h2 (below_of_grown hown hbase h3) h3)
end
end Go.Proofs.YtamhpgledbmnoaaGreatDoor
namespace Go.Proofs.YtamhpgledbmnoaaGreatDoor
set_option linter.unusedVariables false
set_option linter.unusedSimpArgs false
open Go.RowKit
section
variable {w : World} {ops : Array Oper} {rest : List Oper} {o : Oper} {a : Act} {Q : Exit → Act → World → Prop}
/-- A list that is only read, behind a row. -/
theorem app_rd (hgd : o.guard = none) (s x : Operand)
    (ho : o.op = .call { callee := .builtin .append, args := #[s, x], argTypes := #[41, 41] })
    (B : Nat) (v : Value) (n : Nat) (xs : List Int) (hs : a.eval s = v) (hown : w.ownsRow B 3 1 v n (I64 xs))
    (b off m c : Nat) (ys : List Int) (B2 : Nat) (hx : a.eval x = .slice (some ⟨b, off, none⟩) m c) (hr : Rd w B2 (some ⟨b, off, none⟩) m (I64 ys)) (hm0 : 0 < m) (hn : n ≤ 1000000000000) (hm : m ≤ 1000000000000) (hB : B ≤ w.heap.size)
    (h : ∀ v' w', w'.ownsRow B 3 1 v' (n + m) (I64 (xs ++ ys)) → Below B w w' → wpList Tryz.prog ops Q rest (a.put o.dst v') w') :
    wpList Tryz.prog ops Q (o :: rest) a w := by
  obtain ⟨i0, hi0, hz0, hz1, hz2⟩ := info_parts int_info
  obtain ⟨b', off', e, _, hc⟩ := hr.pos hm0
  injection e with e
  injection e with e1 e2
  subst e1
  subst e2
  refine wpList_append_own _ hgd s x _ ho B 3 i0 _ 1 8 Tryz.underlying41 hi0 hz0 hz1 hz2 rfl (by decide) v n (I64 xs) hs hown ⟨b, off, none⟩ m c (I64 ys) hx (by rw [hr.len]; omega)
    (fun j u hu => ?_) (fun u hu => ?_) (by simp only [maxLen]; omega) (by omega) hB
    (fun v' w' h2 h3 _ => h v' w' (by rw [I64_append]; exact h2) ((Below.refl _ _).grown h3 hB (fun k hk => (hown.lt k hk).1)))
  · have e : (⟨b, off, none⟩ : Addr).add j = ⟨b, off + j, none⟩ := by
      unfold Addr.add
      split
      · rename_i h0; subst h0; rfl
      · rfl
    rw [e]
    exact hc j u hu
  · unfold I64 at hu
    obtain ⟨_, _, rfl⟩ := List.mem_map.1 hu
    rfl
end
theorem own_made0 (w : World) (b0 : Nat) {B : Nat} (hb0 : w.heap.size = b0) (hB : B ≤ w.heap.size) : (w.alloc (.cells #[] 3)).ownsRow B 3 1 (.slice (some ⟨b0, 0, none⟩) 0 0) 0 (I64 []) := by
  subst hb0
  exact World.ownsRow_made w #[] 0 hB (by simp [maxLen]) rfl
theorem own_keepB {w w' : World} {base size n B : Nat} {e : TypeId} {v : Value} {xs : List Value} (h : w.ownsRow base e size v n xs) (hlt : ∀ k, v.ownBlock = some k → k < B) (hb : Below B w w') : w'.ownsRow base e size v n xs := by
  refine ⟨h.1, h.2.imp id ?_⟩
  rintro ⟨g, cap, cur, rfl, h1, h2, h3⟩
  exact ⟨g, cap, cur, rfl, h1, (hb.block g (hlt g rfl)).trans h2, h3⟩
theorem one_zero {xs : List Int} {n : Nat} {a : Int} (hn : xs.length = n) (h0 : xs[0]? = some a) (h : xs = [0]) : n = 1 ∧ a = 0 := by
  subst h
  exact ⟨by simpa using hn.symm, by simpa using h0.symm⟩
theorem not_zero {t : Pl.Tr} {n : Nat} {a : Int} (ok : t.ok) (hn : t.post.length = n) (h0 : t.post[0]? = some a) (h : t.post ≠ [0]) : ((n : Int) == 1) = false ∨ (n = 1 ∧ (a == 0) = false) := by
  by_cases h1 : n = 1
  · refine .inr ⟨h1, ?_⟩
    rw [beq_eq_false_iff_ne]
    rintro rfl
    rw [h1] at hn
    obtain ⟨x, hx⟩ := List.length_eq_one_iff.1 hn
    rw [hx] at h0 h
    simp at h0
    subst h0
    exact h rfl
  · exact .inl (by rw [beq_eq_false_iff_ne]; omega)
set_option maxRecDepth 100000 in
set_option maxHeartbeats 2000000 in
theorem spec_simple_leaf (s : Int) (s0 : 0 ≤ s) (s1 : s < 12) (b off c B : Nat) (w : World) (hx : Rd w B (some ⟨b, off, none⟩) 1 (I64 [s])) (hB : B ≤ w.heap.size) :
    Calls Tryz.prog 82 #[.slice (some ⟨b, off, none⟩) 1 c] w (OutP w.heap.size [s] w) := by
  obtain ⟨_, _, e, hbl, hc⟩ := hx.pos (by omega)
  injection e with e; injection e with e1 e2; subst e1; subst e2
  have c0 : w.cell? ⟨b, off, none⟩ = some (.int .i64 s) := hc 0 _ rfl
  have HX := Lib.hid (hx.alloc hB (.cells #[] 3))
  have ct := fun w => spec_l9Takes s w
  rw [Pl.takes_0 s1] at ct
  clear hc hx
  go_enter Tryz.func82, Tryz.ntmps82
  go_wp2_with fail
  refine (ct _).mono ?_
  rintro e w' ⟨rfl, rfl⟩
  go_wp2_with (at_builtin; refine app_rd rfl (.tmp 23) (.tmp 24) rfl w.heap.size (.slice (some ⟨w.heap.size, 0, none⟩) 0 0) 0 [] rfl (World.ownsRow_made w #[] 0 (Nat.le_refl _) (by simp [maxLen]) rfl) b off 1 c [s] B rfl HX.out (by omega) (by omega) (by omega) (by simp) ?_; intro v1 w1 own1 hb1)
  go_ret
  exact outP_row (X := [s]) rfl own1 (((Below.refl _ _).alloc (Nat.le_refl _) _).trans hb1)
/-- What a walk over a step that takes one is told. -/
structure UnW (s : Int) (t : Pl.Tr) (b off c B m : Nat) (w : World) : Prop where
  hlen : m ≤ 1000
  hnc : m + 1 ≤ c
  hB : B ≤ w.heap.size
  c0 : w.cell? ⟨b, off + m, none⟩ = some (.int .i64 s)
  hxl : Rd w B (some ⟨b, off, none⟩) m (I64 t.post)
theorem unW {s : Int} {t : Pl.Tr} {b off n c B : Nat} {w : World} (hx : Rd w B (some ⟨b, off, none⟩) n (I64 (Pl.Tr.un s t).post)) (hnc : n ≤ c) (hB : B ≤ w.heap.size) (hlen : (Pl.Tr.un s t).post.length ≤ 1000) :
    n = t.post.length + 1 ∧ UnW s t b off c B t.post.length w := by
  obtain ⟨m, hm⟩ : ∃ m, t.post.length = m := ⟨_, rfl⟩
  obtain rfl : n = m + 1 := by have := hx.len; rw [I64_len] at this; simpa [Pl.Tr.post, hm] using this.symm
  obtain ⟨_, _, e, hbl, hc⟩ := hx.pos (by omega)
  injection e with e; injection e with e1 e2; subst e1; subst e2
  have c0 : w.cell? ⟨b, off + m, none⟩ = some (.int .i64 s) := hc m _ (by simp [Pl.Tr.post, I64, hm])
  have hx1 : Rd w B (some ⟨b, off, none⟩) m (I64 t.post) := by
    have := hx.take (k := m) (by omega)
    simpa [Pl.Tr.post, I64, hm] using this
  have : m ≤ 1000 := by simp [Pl.Tr.post, hm] at hlen; omega
  subst hm
  exact ⟨rfl, this, hnc, hB, c0, hx1⟩
set_option maxRecDepth 100000 in
set_option maxHeartbeats 4000000 in
theorem spec_simple_un (s : Int) (s0 : 12 ≤ s) (s1 : s < 15) (t u : Pl.Tr) (oku : u.ok) (hul : u.post.length ≤ 1000) (b off c B m : Nat) (w : World) (H : UnW s t b off c B m w)
    (ih : ∀ (w : World), Rd w B (some ⟨b, off, none⟩) m (I64 t.post) → B ≤ w.heap.size → Calls Tryz.prog 82 #[.slice (some ⟨b, off, none⟩) m c] w (OutP w.heap.size u.post w)) :
    Calls Tryz.prog 82 #[.slice (some ⟨b, off, none⟩) (m + 1) c] w (OutP w.heap.size (Pl.simp1 s u).post w) := by
  obtain ⟨hlen, hnc, hB, c0, hxl⟩ := H
  have IH := Lib.hid (ih w hxl hB)
  have hcs := Pl.simp1_cases s u
  obtain ⟨n, hn⟩ : ∃ n, u.post.length = n + 1 := ⟨u.post.length - 1, by have := u.post_pos; omega⟩
  have htop := top_last u hn
  have hnl : n ≤ 1000 := by omega
  have k1 : ((m + 1 : Nat) : Int) - 1 = (m : Int) := by omega
  have k2 : (0 : Int) ≤ (m : Int) := by omega
  have k3 : (m : Int) < (m : Int) + 1 := by omega
  have k4 : (m : Int) ≤ (c : Int) := by omega
  have j1 : ((n + 1 : Nat) : Int) - 1 = (n : Int) := by omega
  have j2 : (0 : Int) ≤ (n : Int) := by omega
  have j3 : (n : Int) < (n : Int) + 1 := by omega
  have ct := fun w => spec_l9Takes s w
  rw [Pl.takes_1 s0 s1] at ct
  clear ih hxl
  by_cases hcut : s = 12 ∧ u.top = 12
  · obtain ⟨rfl, ht12⟩ := hcut
    rw [ht12] at htop
    have hres : ∃ q, u = .un 12 q ∧ Pl.simp1 12 u = q := by
      cases u with
      | leaf q => have h1 := oku.2; have h2 : q = 12 := ht12; omega
      | un q r => have hq : q = 12 := ht12; subst hq; exact ⟨r, rfl, by simp [Pl.simp1]⟩
      | bin q l r => have h1 := oku.1.1; have h2 : q = 12 := ht12; omega
    obtain ⟨q, hq, hsq⟩ := hres
    have hqp : u.post = q.post ++ [12] := by rw [hq]; rfl
    have hqn : q.post.length = n := by rw [hqp] at hn; simpa using hn
    have HS := Lib.hid hsq
    have HQ := Lib.hid hqp
    have HQN := Lib.hid hqn
    have HN := Lib.hid hn
    have HT := Lib.hid htop
    clear hcs hsq hqp hqn hn htop hq ht12 oku
    go_enter Tryz.func82, Tryz.ntmps82
    go_wp2_with fail
    refine (ct _).mono ?_
    rintro e w' ⟨rfl, rfl⟩
    go_wp2_with fail
    refine (ct _).mono ?_
    rintro e w' ⟨rfl, rfl⟩
    go_wp2_with fail
    refine (IH.out).mono ?_
    rintro e w1 ⟨A1, c1, rfl, own1, hb1⟩
    rw [HN.out] at own1 ⊢
    obtain ⟨ga, rfl, hga0, hga1⟩ := own_some own1 (by omega)
    have cl : w1.cell? ⟨ga, n, none⟩ = some (.int .i64 12) := own_cell own1 (I64_get HT.out)
    have hcc := own_cap own1
    have ownc := own_cut own1 (m := n) (by omega)
    have htk : (q.post ++ [12]).take n = q.post := by rw [← HQN.out, List.take_left]
    rw [I64_take, HQ.out, htk] at ownc
    clear htk
    have OC := Lib.hid ownc
    have j4 : (n : Int) ≤ (c1 : Int) := by omega
    clear ownc own1
    go_wp2_with fail
    go_ret
    rw [HS.out]
    exact outP_row HQN.out OC.out hb1
  · have hres : Pl.simp1 s u = .un s u := by
      rcases hcs with ⟨h1, q, h2, _⟩ | h
      · exact absurd ⟨h1, by rw [h2]; rfl⟩ hcut
      · exact h
    have HS := Lib.hid hres
    have HN := Lib.hid hn
    have HT := Lib.hid htop
    have hg : s ≠ 12 ∨ u.top ≠ 12 := by
      by_cases h : s = 12
      · exact .inr (fun e => hcut ⟨h, e⟩)
      · exact .inl h
    clear hcs hres hn htop oku hcut
    have hway : (s = 12 ∧ (u.top == 12) = false) ∨ s = 13 ∨ s = 14 := by
      rcases hg with h | h
      · omega
      · by_cases e : s = 12
        · exact .inl ⟨e, by simpa using h⟩
        · omega
    clear hg
    rcases hway with ⟨rfl, hq⟩ | rfl | rfl
    all_goals
      go_enter Tryz.func82, Tryz.ntmps82
      go_wp2_with fail
      refine (ct _).mono ?_
      rintro e w' ⟨rfl, rfl⟩
      go_wp2_with fail
      refine (ct _).mono ?_
      rintro e w' ⟨rfl, rfl⟩
      go_wp2_with fail
      refine (IH.out).mono ?_
      rintro e w1 ⟨A1, c1, rfl, own1, hb1⟩
      rw [HN.out] at own1 ⊢
      obtain ⟨ga, rfl, hga0, hga1⟩ := own_some own1 (by omega)
      have cl : w1.cell? ⟨ga, n, none⟩ = some (.int .i64 u.top) := own_cell own1 (I64_get HT.out)
      have z1 := hb1.size
      go_wp2_with (first
        | (at_builtin; refine app_more rfl (.tmp 49) (.tmp 50) rfl w1.heap.size (.slice (some ⟨w1.heap.size, 0, none⟩) 0 0) 0 [] rfl (World.ownsRow_made w1 #[] 0 (Nat.le_refl _) (by simp [maxLen]) rfl) (some ⟨ga, 0, none⟩) (n + 1) c1 u.post w.heap.size rfl (own1.alloc _) (by omega) (by omega) (by simp) ?_; intro v5 w5 own5 hb5)
        | (at_builtin; refine app_int_far rfl (.tmp 51) (.tmp 53) rfl w1.heap.size v5 (0 + (n + 1)) ([] ++ u.post) _ rfl own5 rfl (by omega) (by have h5 := hb5.size; simp at h5; omega) ?_; intro v6 w6 own6 hb6 hg6))
      go_ret
      rw [HS.out]
      exact outP_row (by simp [Pl.Tr.post, HN.out]) (own6.mono z1) (below_step hb1 (((Below.refl w1.heap.size w1).alloc (Nat.le_refl _) _).trans (hb5.trans hb6)) z1)
end Go.Proofs.YtamhpgledbmnoaaGreatDoor
