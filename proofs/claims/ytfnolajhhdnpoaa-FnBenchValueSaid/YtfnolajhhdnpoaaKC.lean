/-
  Contracts of functions on codes.
  Conditions: as stated at each.
-/
import Derived.Test.YtfnolajhhdnpoaaKE
import Derived.Test.YtfnolajhhdnpoaaKP
namespace Go.Proofs.Ytfnolajhhdnpoaa
set_option linter.unusedVariables false
set_option linter.unusedSimpArgs false
open Go.RowKit

/-- The three cells of an operation. -/
def c3 (c : Pl.Op3) : List Value := [.int .i64 c.1, .int .i64 c.2.1, .int .i64 c.2.2]
def I3 (cs : List Pl.Op3) : List Value := cs.flatMap c3
theorem I3_len (cs : List Pl.Op3) : (I3 cs).length = cs.length * 3 := by
  induction cs with
  | nil => rfl
  | cons c t ih => show (c3 c ++ I3 t).length = _; rw [List.length_append, ih, List.length_cons]; simp [c3]; omega
theorem I3_append (a b : List Pl.Op3) : I3 (a ++ b) = I3 a ++ I3 b := by simp [I3, List.flatMap_append]
theorem I3_one (c : Pl.Op3) : I3 [c] = c3 c := by simp [I3]
theorem I3_get : ∀ (cs : List Pl.Op3) (j : Nat) (c : Pl.Op3), cs[j]? = some c → (I3 cs)[j * 3]? = some (.int .i64 c.1) ∧ (I3 cs)[j * 3 + 1]? = some (.int .i64 c.2.1) ∧ (I3 cs)[j * 3 + 2]? = some (.int .i64 c.2.2)
  | [], j, c, h => by simp at h
  | d :: t, 0, c, h => by
    simp at h; subst h
    exact ⟨rfl, rfl, rfl⟩
  | d :: t, j + 1, c, h => by
    have ih := I3_get t j c (by simpa using h)
    have e : ∀ m, (I3 (d :: t))[m + 3]? = (I3 t)[m]? := fun m => by
      show (c3 d ++ I3 t)[m + 3]? = _
      rw [List.getElem?_append_right (by simp [c3])]
      simp [c3]
    rw [show (j + 1) * 3 = j * 3 + 3 by omega, show j * 3 + 3 + 1 = (j * 3 + 1) + 3 by omega, show j * 3 + 3 + 2 = (j * 3 + 2) + 3 by omega, e, e, e]
    exact ih
/-- The slice '.slice A n c' holds the operations cs, below block B. -/
def RdI (w : World) (B : Nat) (A : Option Addr) (n : Nat) (cs : List Pl.Op3) : Prop :=
  cs.length = n ∧ (n = 0 ∨ ∃ b off, A = some ⟨b, off, none⟩ ∧ b < B ∧ ∀ j c, cs[j]? = some c → w.cell? ⟨b, off + j * 3, none⟩ = some (.int .i64 c.1) ∧ w.cell? ⟨b, off + j * 3 + 1, none⟩ = some (.int .i64 c.2.1) ∧ w.cell? ⟨b, off + j * 3 + 2, none⟩ = some (.int .i64 c.2.2))
section
variable {w w' : World} {B B' n : Nat} {A : Option Addr} {cs : List Pl.Op3}
theorem RdI.zero : RdI w B A 0 [] := ⟨rfl, .inl rfl⟩
theorem RdI.pos (h : RdI w B A n cs) (hn : 0 < n) : ∃ b off, A = some ⟨b, off, none⟩ ∧ b < B ∧ ∀ j c, cs[j]? = some c → w.cell? ⟨b, off + j * 3, none⟩ = some (.int .i64 c.1) ∧ w.cell? ⟨b, off + j * 3 + 1, none⟩ = some (.int .i64 c.2.1) ∧ w.cell? ⟨b, off + j * 3 + 2, none⟩ = some (.int .i64 c.2.2) := by
  rcases h.2 with h | h
  · omega
  · exact h
theorem RdI.keep (h : RdI w B A n cs) (hk : ∀ p : Addr, p.block < B → w'.cell? p = w.cell? p) : RdI w' B A n cs :=
  ⟨h.1, by
    rcases h.2 with h | ⟨b, off, e, hb, hc⟩
    · exact .inl h
    · exact .inr ⟨b, off, e, hb, fun j c hj => by
        obtain ⟨h1, h2, h3⟩ := hc j c hj
        exact ⟨(hk _ hb).trans h1, (hk _ hb).trans h2, (hk _ hb).trans h3⟩⟩⟩
theorem RdI.more (h : RdI w B A n cs) (hB : B ≤ B') : RdI w B' A n cs :=
  ⟨h.1, by
    rcases h.2 with h | ⟨b, off, e, hb, hc⟩
    · exact .inl h
    · exact .inr ⟨b, off, e, by omega, hc⟩⟩
theorem RdI.below (h : RdI w B A n cs) (hb : Below B w w') : RdI w' B A n cs := h.keep fun _ hp => hb.cell hp
theorem RdI.drewN (h : RdI w B A n cs) (k : Nat) : RdI (w.drewN k) B A n cs := h
/-- A row of the call's own holds operations. -/
theorem rdI_own {base c : Nat} {e : TypeId} (h : w.ownsRow base e 3 (.slice A n c) n (I3 cs)) : RdI w w.heap.size A n cs := by
  have hl := h.1
  rw [I3_len] at hl
  refine ⟨by omega, ?_⟩
  rcases h.2 with ⟨h0, rfl⟩ | ⟨g, cap, cur, hv, hg, hh, hnc, hm, hs, hx⟩
  · exact .inl rfl
  · injection hv with h1 h2 h3
    subst h1
    refine .inr ⟨g, 0, rfl, ?_, fun j d hj => ?_⟩
    · rcases Nat.lt_or_ge g w.heap.size with h1 | h1
      · exact h1
      · rw [Array.getElem?_eq_none h1] at hh; cases hh
    · obtain ⟨c1, c2, c3⟩ := I3_get cs j d hj
      have key : ∀ m u, (I3 cs)[m]? = some u → w.cell? ⟨g, m, none⟩ = some u := fun m u hu => by
        have h3 := h.cells (g := g) rfl m u hu
        have e : (⟨g, 0, none⟩ : Addr).add m = ⟨g, m, none⟩ := by
          unfold Addr.add
          split
          · rename_i h0; subst h0; rfl
          · simp
        rwa [e] at h3
      rw [Nat.zero_add]
      exact ⟨key _ _ c1, key _ _ c2, key _ _ c3⟩
end

/-- An append of one number as a step of a region that draws, with what stays as it was. -/
theorem step_int_far {ops : Array Oper} {o : Oper} {a : Act} {w : World} {K : Act → World → Prop} {Q : Exit → Act → World → Prop} {E : Prop} (hgd : o.guard = none) (s x : Operand)
    (ho : o.op = .call { callee := .builtin .append, args := #[s, x], argTypes := #[22, 22] })
    (base : Nat) (v : Value) (n : Nat) (xs : List Value) (u : Value) (ad : Addr) (hs : a.eval s = v) (hx : a.eval x = .slice (some ad) 1 1) (hown : w.ownsRow base 3 1 v n xs)
    (hc : w.cell? ad = some u) (h1 : u.oneCell' = true) (hn : n ≤ 1000000000000) (hbase : base ≤ w.heap.size)
    (h : ∀ v' w', w'.ownsRow base 3 1 v' (n + 1) (xs ++ [u]) → Below base w w' → w.grownBy w' v.ownBlock → K (a.put o.dst v') w') :
    if Region.wanted o (yielded ops a.tmps) = true then Oper.wp Try.prog o a w K Q else E := by
  have hw : Region.wanted o (yielded ops a.tmps) = true := by simp [Region.wanted, hgd]
  rw [if_pos hw]
  obtain ⟨i0, hi0, hz0, hz1, hz2⟩ := info_parts int_info
  have hc' : ∀ j u', [u][j]? = some u' → w.cell? (ad.add j) = some u' := by
    intro j u' hu
    rcases j with _ | j
    · simp at hu; subst hu; simpa [Addr.add] using hc
    · simp at hu
  exact wp_append_own w s x _ ho base 3 i0 _ 1 8 Try.underlying22 hi0 hz0 hz1 hz2 rfl (by decide) v n xs hs hown ad 1 1 [u] hx rfl
    hc' (by simpa using h1) (by simp only [maxLen]; omega) (by omega) hbase
    (fun v' w' h2 h3 _ => h v' w' h2 ((Below.refl base w).grown h3 hbase (fun k hk => (hown.lt k hk).1)) h3)
theorem far_cell {w w' : World} {base n g : Nat} {e : TypeId} {size : Nat} {v : Value} {xs : List Value} {o : Nat} {u : Value} (hown : w.ownsRow base e size v n xs) (hg : w.grownBy w' v.ownBlock)
    (hne : v.ownBlock ≠ some g) (hc : w.cell? ⟨g, o, none⟩ = some u) : w'.cell? ⟨g, o, none⟩ = some u := hg.cell hc (fun e => hne e.symm)

end Go.Proofs.Ytfnolajhhdnpoaa
namespace Go.Proofs.Ytfnolajhhdnpoaa
set_option linter.unusedVariables false
set_option linter.unusedSimpArgs false
open Go.RowKit

theorem idx_at : ∀ {cs : List Pl.Op3} {c : Pl.Op3} {j : Nat}, cs[j]? = some c → (∀ t, t < j → cs[t]? ≠ some c) → cs.idxOf c = j
  | [], c, j, h, _ => by simp at h
  | d :: t, c, 0, h, _ => by simp at h; subst h; simp
  | d :: t, c, j + 1, h, hb => by
    have hd : (d == c) = false := by
      rw [beq_eq_false_iff_ne]
      exact fun e => hb 0 (by omega) (by simp [e])
    have ih := idx_at (cs := t) (c := c) (j := j) (by simpa using h) (fun s hs => by have := hb (s + 1) (by omega); simpa using this)
    rw [List.idxOf_cons, hd, ih]; rfl
theorem idx_none : ∀ {cs : List Pl.Op3} {c : Pl.Op3}, (∀ t, t < cs.length → cs[t]? ≠ some c) → cs.idxOf c = cs.length
  | [], c, _ => rfl
  | d :: t, c, hb => by
    have hd : (d == c) = false := by
      rw [beq_eq_false_iff_ne]
      exact fun e => hb 0 (by simp) (by simp [e])
    have ih := idx_none (cs := t) (c := c) (fun s hs => by have := hb (s + 1) (by simp; omega); simpa using this)
    rw [List.idxOf_cons, hd, ih]; rfl
/-- Where an operation first stands in a code; -1 if it does not. -/
def idxI (cs : List Pl.Op3) (c : Pl.Op3) (n : Nat) : Int := if cs.idxOf c < n then (cs.idxOf c : Int) else -1
set_option maxHeartbeats 1000000 in
theorem index_ins (A : Option Addr) (n cp B : Nat) (cs : List Pl.Op3) (c : Pl.Op3) (w : World) (hr : RdI w B A n cs) (hB : B ≤ w.heap.size) (hn : n ≤ 1000000) :
    Calls Try.prog 41 #[.slice A n cp, .agg #[.int .i64 c.1, .int .i64 c.2.1, .int .i64 c.2.2]] w
      fun e w' => e = .returned (.int .i64 (idxI cs c n)) ∧ Below w.heap.size w w' := by
  have hl := hr.1
  obtain ⟨op, oa, ob⟩ := c
  rcases Nat.eq_zero_or_pos n with h0 | h0
  · subst h0
    have he := Lib.hid (show idxI cs (op, oa, ob) 0 = -1 by simp [idxI])
    go_enter Try.func41, Try.ntmps41
    go_wp2
    refine wp_loop_rounds 1 ?_
    rw [rounds_succ]
    go_wp2
    go_ret
    exact ⟨ret_int he.out.symm, by go_grown⟩
  · obtain ⟨b, off, rfl, hbl, hc⟩ := hr.pos h0
    have HC := Lib.hid hc
    have hL := Lib.hid hl
    clear hc hr hl
    go_enter Try.func41, Try.ntmps41
    go_wp2
    go_loopw [8] (fun i wr => ∃ j q : Nat, j ≤ n ∧ i = .int .i64 j ∧ Hid (∀ t : Nat, t < j → cs[t]? ≠ some (op, oa, ob)) ∧ wr = (w.alloc (.cells #[.int .i64 op, .int .i64 oa, .int .i64 ob] 63)).drewN q) (fun i _ => n - (intOf i).toNat)
    case atStart => exact ⟨0, 0, by omega, rfl, fun t ht => absurd ht (by omega), rfl⟩
    case round =>
      obtain ⟨j, q, hj, rfl, hs, rfl⟩ := hrel
      by_cases hlt : j < n
      · obtain ⟨⟨p, pa, pb⟩, eo⟩ : ∃ o, cs[j]? = some o := ⟨_, List.getElem?_eq_getElem (by have := hL.out; omega)⟩
        obtain ⟨q1, q2, q3⟩ := HC.out j _ eo
        have c1 : (w.alloc (.cells #[.int .i64 op, .int .i64 oa, .int .i64 ob] 63)).cell? ⟨b, off + j * 3, none⟩ = some (.int .i64 p) := (World.cell?_alloc_lt w _ ⟨b, off + j * 3, none⟩ (show b < w.heap.size by omega)).trans q1
        have c2 : (w.alloc (.cells #[.int .i64 op, .int .i64 oa, .int .i64 ob] 63)).cell? ⟨b, off + j * 3 + 1, none⟩ = some (.int .i64 pa) := (World.cell?_alloc_lt w _ ⟨b, off + j * 3 + 1, none⟩ (show b < w.heap.size by omega)).trans q2
        have c3 : (w.alloc (.cells #[.int .i64 op, .int .i64 oa, .int .i64 ob] 63)).cell? ⟨b, off + j * 3 + 2, none⟩ = some (.int .i64 pb) := (World.cell?_alloc_lt w _ ⟨b, off + j * 3 + 2, none⟩ (show b < w.heap.size by omega)).trans q3
        have hin : (j : Int) < (n : Int) := by omega
        have hj0 : (0 : Int) ≤ j := by omega
        have EO := Lib.hid eo
        clear q1 q2 q3 eo
        by_cases e1 : op = p
        · subst e1
          by_cases e2 : oa = pa
          · subst e2
            by_cases e3 : ob = pb
            · subst e3
              have hi := idx_at EO.out hs.out
              have he := Lib.hid (show idxI cs (op, oa, ob) n = (j : Int) by unfold idxI; rw [hi, if_pos hlt])
              clear hi
              go_wp2_with fail
              go_quiet (fail)
              go_wp2_with fail
              go_ret
              exact ⟨ret_int he.out.symm, below_drewN (below_drewN ((Below.refl _ _).alloc (Nat.le_refl _) _) _) _⟩
            · have HD := Lib.hid (show (op, oa, pb) ≠ (op, oa, ob) from fun e => e3 (by injection e with _ e; injection e with _ e; exact e.symm))
              go_wp2_with fail
              go_quiet (fail)
              go_wp2_with fail
              go_roundw
              case rel =>
                refine ⟨j + 1, q + nq, by omega, by go_num, fun t ht => ?_, by first | rfl | rw [World.drewN_drewN]⟩
                rcases Nat.lt_or_ge t j with h | h
                · exact hs.out t h
                · obtain rfl : t = j := by omega
                  rw [EO.out]
                  exact fun e => HD.out (by injection e)
              case measure => simp [intOf]; omega
          · have HD := Lib.hid (show (op, pa, pb) ≠ (op, oa, ob) from fun e => e2 (by injection e with _ e; injection e with e _; exact e.symm))
            go_wp2_with fail
            go_quiet (fail)
            go_wp2_with fail
            go_roundw
            case rel =>
              refine ⟨j + 1, q + nq, by omega, by go_num, fun t ht => ?_, by first | rfl | rw [World.drewN_drewN]⟩
              rcases Nat.lt_or_ge t j with h | h
              · exact hs.out t h
              · obtain rfl : t = j := by omega
                rw [EO.out]
                exact fun e => HD.out (by injection e)
            case measure => simp [intOf]; omega
        · have HD := Lib.hid (show (p, pa, pb) ≠ (op, oa, ob) from fun e => e1 (by injection e with e _; exact e.symm))
          go_wp2_with fail
          go_quiet (fail)
          go_wp2_with fail
          go_roundw
          case rel =>
            refine ⟨j + 1, q + nq, by omega, by go_num, fun t ht => ?_, by first | rfl | rw [World.drewN_drewN]⟩
            rcases Nat.lt_or_ge t j with h | h
            · exact hs.out t h
            · obtain rfl : t = j := by omega
              rw [EO.out]
              exact fun e => HD.out (by injection e)
          case measure => simp [intOf]; omega
      · obtain rfl : j = n := by omega
        have hi := idx_none (cs := cs) (c := (op, oa, ob)) (fun t ht => hs.out t (by have := hL.out; omega))
        have he := Lib.hid (show idxI cs (op, oa, ob) j = -1 by unfold idxI; rw [hi, if_neg (by have := hL.out; omega)])
        clear hi
        go_wp2_with fail
        go_ret
        exact ⟨ret_int he.out.symm, below_drewN ((Below.refl _ _).alloc (Nat.le_refl _) _) _⟩
end Go.Proofs.Ytfnolajhhdnpoaa
namespace Go.Proofs.Ytfnolajhhdnpoaa
set_option linter.unusedVariables false
set_option linter.unusedSimpArgs false
open Go.RowKit

theorem rows_apart {w : World} {base n n' size size' : Nat} {e e' : TypeId} {v v' : Value} {xs xs' : List Value} (h : w.ownsRow base e size v n xs) (h' : w.ownsRow base e' size' v' n' xs') (hne : e ≠ e') :
    v.ownBlock = none ∨ v.ownBlock ≠ v'.ownBlock := by
  rcases h.2 with ⟨rfl, _⟩ | ⟨g, cap, cur, rfl, _, hh, _⟩
  · exact .inl rfl
  · refine .inr (fun he => ?_)
    rcases h'.2 with ⟨rfl, _⟩ | ⟨g', cap', cur', rfl, _, hh', _⟩
    · simp [Value.ownBlock] at he
    · have hg : g = g' := by simpa [Value.ownBlock] using he
      subst hg
      rw [hh] at hh'
      injection hh' with hh'
      injection hh' with _ ht
      exact hne ht
theorem ins_info : (Try.prog.info? 63).map (fun i => (i.zero, i.size, i.bytes)) = some (some (.agg #[.int .i64 0, .int .i64 0, .int .i64 0]), 3, 24) := by kernel_rfl
section
variable {w : World} {ops : Array Oper} {rest : List Oper} {o : Oper} {a : Act} {Q : Exit → Act → World → Prop}
/-- A number behind a row, with what stays as it was. -/
theorem app_int_far (hgd : o.guard = none) (s x : Operand)
    (ho : o.op = .call { callee := .builtin .append, args := #[s, x], argTypes := #[22, 22] })
    (base : Nat) (v : Value) (n : Nat) (xs : List Int) (z : Int) (hs : a.eval s = v) (hown : w.ownsRow base 3 1 v n (I64 xs))
    (hx : a.eval x = .slice (some ⟨w.heap.size, 0, none⟩) 1 1) (hn : n ≤ 1000000000000) (hbase : base ≤ w.heap.size)
    (h : ∀ v' w', w'.ownsRow base 3 1 v' (n + 1) (I64 (xs ++ [z])) → Below base w w' → (w.alloc (.cells #[.int .i64 z] 3)).grownBy w' v.ownBlock → wpList Try.prog ops Q rest (a.put o.dst v') w') :
    wpList Try.prog ops Q (o :: rest) a (w.alloc (.cells #[.int .i64 z] 3)) := by
  obtain ⟨i0, hi0, hz0, hz1, hz2⟩ := info_parts int_info
  exact wpList_append_own _ hgd s x _ ho base 3 i0 _ 1 8 Try.underlying22 hi0 hz0 hz1 hz2 rfl (by decide) v n (I64 xs) hs (hown.alloc _) ⟨w.heap.size, 0, none⟩ 1 1 [.int .i64 z] hx rfl
    (cell_one_new _ _ _) (by simp [Value.oneCell']) (by simp only [maxLen]; omega) (by omega) (by simp; omega)
    (fun v' w' h2 h3 _ => h v' w' (by rw [I64_append]; exact h2) (below_of_grown hown hbase h3) h3)
/-- An operation behind a row. -/
theorem app_op (hgd : o.guard = none) (s x : Operand)
    (ho : o.op = .call { callee := .builtin .append, args := #[s, x], argTypes := #[37, 37] })
    (base : Nat) (v : Value) (n : Nat) (xs : List Pl.Op3) (c : Pl.Op3) (hs : a.eval s = v) (hown : w.ownsRow base 63 3 v n (I3 xs))
    (hx : a.eval x = .slice (some ⟨w.heap.size, 0, none⟩) 1 1) (hn : n ≤ 1000000) (hbase : base ≤ w.heap.size)
    (h : ∀ v' w', w'.ownsRow base 63 3 v' (n + 1) (I3 (xs ++ [c])) → Below base w w' → (w.alloc (.cells #[.int .i64 c.1, .int .i64 c.2.1, .int .i64 c.2.2] 63)).grownBy w' v.ownBlock → wpList Try.prog ops Q rest (a.put o.dst v') w') :
    wpList Try.prog ops Q (o :: rest) a (w.alloc (.cells #[.int .i64 c.1, .int .i64 c.2.1, .int .i64 c.2.2] 63)) := by
  obtain ⟨i0, hi0, hz0, hz1, hz2⟩ := info_parts ins_info
  have hnew := (Blk.new w 63 #[.int .i64 c.1, .int .i64 c.2.1, .int .i64 c.2.2])
  refine wpList_append_own _ hgd s x _ ho base 63 i0 _ 3 24 Try.underlying37 hi0 hz0 hz1 hz2 rfl (by decide) v n (I3 xs) hs (hown.alloc _) ⟨w.heap.size, 0, none⟩ 1 1 (c3 c) hx rfl
    (fun j u hu => ?_) (fun u hu => ?_) (by simp only [maxLen]; omega) (by omega) (by simp; omega)
    (fun v' w' h2 h3 _ => h v' w' (by rw [I3_append, I3_one]; exact h2) (below_of_grown hown hbase h3) h3)
  · have e : (⟨w.heap.size, 0, none⟩ : Addr).add j = ⟨w.heap.size, j, none⟩ := by
      unfold Addr.add
      split
      · rename_i h0; subst h0; rfl
      · simp
    rw [e, hnew.cell]
    simpa [c3] using hu
  · simp [c3] at hu
    rcases hu with rfl | rfl | rfl <;> rfl
end
def OutC (r : List Pl.Op3 × Int) (w : World) (e : Ending) (w' : World) : Prop :=
  ∃ A c, e = .returned (.tuple #[.slice A r.1.length c, .int .i64 r.2]) ∧ w'.ownsRow w.heap.size 63 3 (.slice A r.1.length c) r.1.length (I3 r.1) ∧ Below w.heap.size w w'
theorem codeOf_f {e : List Int} (h : Pl.exprValid e = false) : Pl.codeOf e = ([], -1) := by unfold Pl.codeOf; rw [h]; rfl
theorem codeOf_t {e : List Int} (h : Pl.exprValid e = true) : Pl.codeOf e = ((Pl.codeS e).1, (Pl.codeS e).2.headD 0) := by unfold Pl.codeOf; rw [if_pos h]
theorem code_0 {code : List Pl.Op3} {st : List Int} {s : Int} (h : s < 12) : Pl.codeStep (code, st) s = (code, st ++ [s]) := by unfold Pl.codeStep; rw [if_pos (Pl.takes_0 h)]
theorem code_1 {code : List Pl.Op3} {st : List Int} {s : Int} {m : Nat} (h : 12 ≤ s) (h' : s < 15) (hm : st.length = m + 1) :
    Pl.codeStep (code, st) s = (if code.idxOf (s, st.getD m 0, 0) < code.length then code else code ++ [(s, st.getD m 0, 0)], st.take m ++ [100 + (code.idxOf (s, st.getD m 0, (0 : Int)) : Int)]) := by
  unfold Pl.codeStep Pl.mkOp
  simp only [Pl.takes_1 h h', hm]
  rfl
theorem code_2 {code : List Pl.Op3} {st : List Int} {s : Int} {m : Nat} (h : 15 ≤ s) (hm : st.length = m + 2) :
    Pl.codeStep (code, st) s = (if code.idxOf (s, st.getD m 0, st.getD (m + 1) 0) < code.length then code else code ++ [(s, st.getD m 0, st.getD (m + 1) 0)], st.take m ++ [100 + (code.idxOf (s, st.getD m 0, st.getD (m + 1) 0) : Int)]) := by
  unfold Pl.codeStep Pl.mkOp
  simp only [Pl.takes_2 h, hm]
  rfl
end Go.Proofs.Ytfnolajhhdnpoaa
namespace Go.Proofs.Ytfnolajhhdnpoaa
set_option linter.unusedVariables false
set_option linter.unusedSimpArgs false
open Go.RowKit
theorem own_form {w : World} {base n size : Nat} {e : TypeId} {v : Value} {xs : List Value} (h : w.ownsRow base e size v n xs) : ∃ A c, v = .slice A n c := by
  rcases h.2 with ⟨rfl, rfl⟩ | ⟨g, cap, cur, rfl, _⟩
  · exact ⟨_, _, rfl⟩
  · exact ⟨_, _, rfl⟩
set_option maxRecDepth 100000 in
set_option maxHeartbeats 2000000 in
theorem impl_CodeOf (A : Option Addr) (n c B : Nat) (xs : List Int) (w : World) (hx : Rd w B A n (I64 xs)) (hB : B ≤ w.heap.size) (hn : n ≤ 1000000000000) :
    Calls Try.prog 17 #[.slice A n c] w (OutC (Pl.codeOf xs) w) := by
  have lx : xs.length = n := by have := hx.len; rwa [I64_len] at this
  have cv := fun w' => impl_ExprValid A n c B xs w'
  cases he : Pl.exprValid xs
  · have hr := Lib.hid (codeOf_f he)
    rw [he] at cv
    go_enter Try.func17, Try.ntmps17
    go_wp2_with fail
    refine (cv _ hx hn).mono ?_
    rintro e w' ⟨rfl, rfl⟩
    go_wp2_with fail
    go_ret2
    rw [hr.out]
    exact ⟨_, _, rfl, World.ownsRow_nil _ _ _ _, Below.refl _ _⟩
  · have hr := Lib.hid (codeOf_t he)
    rw [he] at cv
    obtain ⟨e0, e1, e2⟩ := Pl.valid_t he
    rw [lx] at e0 e1
    obtain ⟨b, off, rfl, hbl, hc⟩ := hx.pos (by omega)
    have HC := Lib.hid hc
    have hL := Lib.hid lx
    have HSC := Lib.hid e2
    have hx' := hx
    clear hc he e2 lx
    go_enter Try.func17, Try.ntmps17
    go_wp2_with fail
    refine (cv _ hx' hn).mono ?_
    rintro e w' ⟨rfl, rfl⟩
    clear hx hx' cv
    go_wp2_with fail
    go_loopw [4, 5, 16] (fun vc vs i wr => ∃ (j d nc : Nat) (code : List Pl.Op3) (st : List Int) (Ac As : Option Addr) (cc cs : Nat), j ≤ n ∧ i = .int .i64 j ∧ Hid (Pl.codeS (xs.take j) = (code, st)) ∧ Hid (Pl.scan (xs.take j) 0 = some (d : Int)) ∧ d ≤ j ∧ nc ≤ j ∧ Hid (code.length = nc) ∧ Hid (st.length = d) ∧ vc = .slice Ac nc cc ∧ vs = .slice As d cs ∧
      wr.ownsRow w.heap.size 63 3 (.slice Ac nc cc) nc (I3 code) ∧ wr.ownsRow w.heap.size 3 1 (.slice As d cs) d (I64 st) ∧ Below w.heap.size w wr) (fun _ _ i _ => n - (intOf i).toNat)
    case atStart => exact ⟨0, 0, 0, [], [], none, none, 0, 0, by omega, rfl, Lib.hid rfl, Lib.hid (by simp [Pl.scan]), by omega, by omega, Lib.hid rfl, Lib.hid rfl, rfl, rfl, World.ownsRow_nil _ _ _ _, World.ownsRow_nil _ _ _ _, Below.refl _ _⟩
    case round =>
      obtain ⟨j, d, nc, code, st, Ac, As, cc, cs, hj, rfl, hcode, hscan, hdj, hncj, hnc, hd, rfl, rfl, ownC, ownS, hb⟩ := hrel
      have hz := hb.size
      by_cases hlt : j < n
      · obtain ⟨s, es⟩ : ∃ s, xs[j]? = some s := ⟨_, List.getElem?_eq_getElem (by have := hL.out; omega)⟩
        have c1 : wr.cell? ⟨b, off + j, none⟩ = some (.int .i64 s) := (hb.cell (p := ⟨b, off + j, none⟩) (show b < w.heap.size by omega)).trans (HC.out j _ (I64_get es))
        obtain ⟨⟨s0, s1⟩, ht⟩ := Pl.scan_at HSC.out es hscan.out
        have hnext := Pl.codeS_snoc es
        rw [hcode.out] at hnext
        have HN := Lib.hid hnext
        have HS := Lib.hid (Pl.scan_snoc es hscan.out s0 s1 ht)
        have hin : (j : Int) < (n : Int) := by omega
        have hj0 : (0 : Int) ≤ j := by omega
        clear es hnext
        by_cases t0 : s < 12
        · have ht0 := Pl.takes_0 t0
          rw [ht0] at HS ht
          have hpu := Lib.hid (code_0 (code := code) (st := st) t0)
          go_wp2_with (first | (first | (go_at_call 40; refine (impl_takes _ _).mono ?_; rintro e w' ⟨rfl, rfl⟩)) | (at_builtin; refine app_int_far rfl (.tmp 25) (.tmp 27) rfl w.heap.size (.slice As d cs) d st s rfl ownS rfl (by omega) hz ?_; intro v' w1 own1 hb1 hg1))
          obtain ⟨A1, k1, rfl, _⟩ := Rd.of_own own1
          have ownC1 := (ownC.alloc (.cells #[.int .i64 s] 3)).kept hg1 (rows_apart ownC ownS (by decide))
          exact ⟨⟨j + 1, d + 1, nc, code, st ++ [s], Ac, A1, cc, k1, by omega, by go_num, Lib.hid (by rw [HN.out, hpu.out]), Lib.hid (by rw [HS.out]; simp), by omega, by omega, hnc, Lib.hid (by rw [List.length_append, hd.out]; rfl), rfl, rfl, ownC1, own1, hb.trans hb1⟩, by simp [intOf]; omega⟩
        · by_cases t1 : s < 15
          · have ht1 := Pl.takes_1 (by omega) t1
            rw [ht1] at HS ht
            obtain ⟨m, rfl⟩ : ∃ m, d = m + 1 := ⟨d - 1, by omega⟩
            have hpu := Lib.hid (code_1 (code := code) (st := st) (by omega) t1 hd.out)
            obtain ⟨g, rfl, hg0, hg1⟩ := own_some ownS (by omega)
            have hgm := Lib.hid (I64_getD (xs := st) (j := m) (by have := hd.out; omega))
            generalize st.getD m 0 = a at *
            have d2 : wr.cell? ⟨g, m, none⟩ = some (.int .i64 a) := by rw [ownS.cellAt m (by omega)]; exact hgm.out
            have hm0 : (0 : Int) ≤ (m : Int) := by omega
            go_wp2_with (first | (go_at_call 40; refine (impl_takes _ _).mono ?_; rintro e w' ⟨rfl, rfl⟩))
            refine (index_ins Ac nc cc _ code (s, a, 0) _ ((rdI_own ownC).below ((Below.refl wr.heap.size wr).alloc (Nat.le_refl _) (.cells #[.int .i64 s, .int .i64 a, .int .i64 0] 63))) (by simp) (by omega)).mono ?_
            have bl := Blk.new wr 63 #[.int .i64 s, .int .i64 a, .int .i64 0]
            have ownCa := ownC.alloc (.cells #[.int .i64 s, .int .i64 a, .int .i64 0] 63)
            have ownSa := ownS.alloc (.cells #[.int .i64 s, .int .i64 a, .int .i64 0] 63)
            have hba := hb.alloc hz (.cells #[.int .i64 s, .int .i64 a, .int .i64 0] 63)
            have hcap : (m : Int) ≤ (cs : Int) := by obtain ⟨_, _, e, hle, _⟩ := Rd.of_own ownS; injection e with _ _ e3; omega
            have hnc' := hnc.out
            by_cases hf : code.idxOf (s, a, 0) < nc
            · have hI : idxI code (s, a, 0) nc = (code.idxOf (s, a, 0) : Int) := by unfold idxI; rw [if_pos hf]
              rw [hI]
              have hif : (if code.idxOf (s, a, 0) < code.length then code else code ++ [(s, a, 0)]) = code := by rw [if_pos (by omega)]
              have HIF := Lib.hid hif
              have hN : ∃ I : Nat, I = code.idxOf (s, a, 0) := ⟨_, rfl⟩
              obtain ⟨I, hIe⟩ := hN
              rw [← hIe] at hf ⊢
              have HIE := Lib.hid hIe
              clear hI hif hIe
              have hI0 : ¬ (I : Int) < 0 := by omega
              rintro e w5 ⟨rfl, hb5⟩
              have ownC5 := own_below ownCa hb5
              have ownS5 := own_below ownSa hb5
              have ownSc := own_cut ownS5 (m := m) (by omega)
              rw [I64_take] at ownSc
              have hz5 := hb5.size
              have hz5' : wr.heap.size + 1 ≤ w5.heap.size := by simpa using hz5
              have HB5 := below_step hba hb5 (by simp; omega)
              clear ownCa ownSa ownS5 hba bl
              go_wp2_with (first | (first | (go_at_call 40; refine (impl_takes _ _).mono ?_; rintro e w' ⟨rfl, rfl⟩)) | (at_builtin; refine app_int_far rfl (.tmp 63) (.tmp 66) rfl w.heap.size (.slice (some ⟨g, 0, none⟩) m cs) m (st.take m) (100 + (I : Int)) rfl ownSc rfl (by omega) (by omega) ?_; intro v7 w7 own7 hb7 hg7))
              obtain ⟨A7, k7, rfl, _⟩ := Rd.of_own own7
              have ownC7 := (ownC5.alloc (.cells #[.int .i64 (100 + (I : Int))] 3)).kept hg7 (rows_apart ownC5 ownSc (by decide))
              exact ⟨⟨j + 1, m + 1, nc, code, st.take m ++ [100 + (I : Int)], Ac, A7, cc, k7, by omega, by go_num, Lib.hid (by rw [HN.out, hpu.out, HIF.out, HIE.out]), Lib.hid (by rw [HS.out]; simp), by omega, by omega, hnc, Lib.hid (by rw [List.length_append, List.length_take, hd.out]; simp), rfl, rfl, ownC7, own7, HB5.trans hb7⟩, by simp [intOf]; omega⟩
            · have hI : idxI code (s, a, 0) nc = -1 := by unfold idxI; rw [if_neg hf]
              rw [hI]
              have hif : (if code.idxOf (s, a, 0) < code.length then code else code ++ [(s, a, 0)]) = code ++ [(s, a, 0)] := by rw [if_neg (by omega)]
              have hidx : code.idxOf (s, a, 0) = nc := by have := List.idxOf_le_length (a := (s, a, 0)) (l := code); omega
              have HIF := Lib.hid hif
              have HIE := Lib.hid hidx
              clear hI hif hidx hf
              rintro e w5 ⟨rfl, hb5⟩
              have ownC5 := own_below ownCa hb5
              have ownS5 := own_below ownSa hb5
              have ownSc := own_cut ownS5 (m := m) (by omega)
              rw [I64_take] at ownSc
              have hz5 := hb5.size
              have hz5' : wr.heap.size + 1 ≤ w5.heap.size := by simpa using hz5
              have bl5 := bl.below hb5 bl.lt
              have y0 : w5.cell? ⟨wr.heap.size, 0, none⟩ = some (.int .i64 s) := (bl5.cell 0).trans rfl
              have y1 : w5.cell? ⟨wr.heap.size, 1, none⟩ = some (.int .i64 a) := (bl5.cell 1).trans rfl
              have y2 : w5.cell? ⟨wr.heap.size, 2, none⟩ = some (.int .i64 0) := (bl5.cell 2).trans rfl
              have HB5 := below_step hba hb5 (by simp; omega)
              clear ownCa ownSa ownS5 hba bl bl5
              go_wp2_with (first
                | (first | (go_at_call 40; refine (impl_takes _ _).mono ?_; rintro e w' ⟨rfl, rfl⟩))
                | (at_builtin; refine app_op rfl (.tmp 54) (.tmp 56) rfl w.heap.size (.slice Ac nc cc) nc code (s, a, 0) rfl ownC5 rfl (by omega) (by omega) ?_; intro v6 w6 own6 hb6 hg6; obtain ⟨A6, k6, rfl⟩ := own_form own6; have hz6 := hb6.size; have ownS6 := (ownSc.alloc (.cells #[.int .i64 s, .int .i64 a, .int .i64 0] 63)).kept hg6 (rows_apart ownSc ownC5 (by decide)))
                | (at_builtin; refine app_int_far rfl (.tmp 63) (.tmp 66) rfl w.heap.size (.slice (some ⟨g, 0, none⟩) m cs) m (st.take m) (100 + (nc : Int)) rfl ownS6 rfl (by omega) (by omega) ?_; intro v7 w7 own7 hb7 hg7))
              obtain ⟨A7, k7, rfl, _⟩ := Rd.of_own own7
              have ownC7 := (own6.alloc (.cells #[.int .i64 (100 + (nc : Int))] 3)).kept hg7 (rows_apart own6 ownS6 (by decide))
              exact ⟨⟨j + 1, m + 1, nc + 1, code ++ [(s, a, 0)], st.take m ++ [100 + (nc : Int)], A6, A7, k6, k7, by omega, by go_num, Lib.hid (by rw [HN.out, hpu.out, HIF.out, HIE.out]), Lib.hid (by rw [HS.out]; simp), by omega, by omega, Lib.hid (by rw [List.length_append, hnc.out]; rfl), Lib.hid (by rw [List.length_append, List.length_take, hd.out]; simp), rfl, rfl, ownC7, own7, (HB5.trans hb6).trans hb7⟩, by simp [intOf]; omega⟩
          · have ht2 := Pl.takes_2 (s := s) (by omega)
            rw [ht2] at HS ht
            obtain ⟨m, rfl⟩ : ∃ m, d = m + 2 := ⟨d - 2, by omega⟩
            have hpu := Lib.hid (code_2 (code := code) (st := st) (s := s) (by omega) hd.out)
            obtain ⟨g, rfl, hg0, hg1⟩ := own_some ownS (by omega)
            have hgm := Lib.hid (I64_getD (xs := st) (j := m) (by have := hd.out; omega))
            have hgm' := Lib.hid (I64_getD (xs := st) (j := m + 1) (by have := hd.out; omega))
            generalize st.getD m 0 = a at *
            generalize st.getD (m + 1) 0 = a' at *
            have d2 : wr.cell? ⟨g, m, none⟩ = some (.int .i64 a) := by rw [ownS.cellAt m (by omega)]; exact hgm.out
            have d3 : wr.cell? ⟨g, m + 1, none⟩ = some (.int .i64 a') := by rw [ownS.cellAt (m + 1) (by omega)]; exact hgm'.out
            have hm0 : (0 : Int) ≤ (m : Int) := by omega
            have hm1 : (m : Int) < (m : Int) + 2 := by omega
            have hm2 : (m : Int) + 1 < (m : Int) + 2 := by omega
            have hm3 : (0 : Int) ≤ (m : Int) + 1 := by omega
            have hm4 : ((m : Int) + 1).toNat = m + 1 := by omega
            have hm5 : (m : Int) + 2 - 1 = (m : Int) + 1 := by omega
            have hgne : ¬ g = wr.heap.size := by omega
            have hgne' : ¬ wr.heap.size = g := by omega
            have d3' : (wr.alloc (.cells #[.int .i64 s, .int .i64 a, .int .i64 0] 63)).cell? ⟨g, m + 1, none⟩ = some (.int .i64 a') := (World.cell?_alloc_lt wr _ ⟨g, m + 1, none⟩ hg1).trans d3
            go_wp2_with (first | (go_at_call 40; refine (impl_takes _ _).mono ?_; rintro e w' ⟨rfl, rfl⟩))
            refine (index_ins Ac nc cc _ code (s, a, a') _ ((rdI_own ownC).below ((Below.refl wr.heap.size wr).alloc (Nat.le_refl _) (.cells #[.int .i64 s, .int .i64 a, .int .i64 a'] 63))) (by simp) (by omega)).mono ?_
            have bl := Blk.new wr 63 #[.int .i64 s, .int .i64 a, .int .i64 a']
            have ownCa := ownC.alloc (.cells #[.int .i64 s, .int .i64 a, .int .i64 a'] 63)
            have ownSa := ownS.alloc (.cells #[.int .i64 s, .int .i64 a, .int .i64 a'] 63)
            have hba := hb.alloc hz (.cells #[.int .i64 s, .int .i64 a, .int .i64 a'] 63)
            have hcap : (m : Int) ≤ (cs : Int) := by obtain ⟨_, _, e, hle, _⟩ := Rd.of_own ownS; injection e with _ _ e3; omega
            have hnc' := hnc.out
            by_cases hf : code.idxOf (s, a, a') < nc
            · have hI : idxI code (s, a, a') nc = (code.idxOf (s, a, a') : Int) := by unfold idxI; rw [if_pos hf]
              rw [hI]
              have hif : (if code.idxOf (s, a, a') < code.length then code else code ++ [(s, a, a')]) = code := by rw [if_pos (by omega)]
              have HIF := Lib.hid hif
              have hN : ∃ I : Nat, I = code.idxOf (s, a, a') := ⟨_, rfl⟩
              obtain ⟨I, hIe⟩ := hN
              rw [← hIe] at hf ⊢
              have HIE := Lib.hid hIe
              clear hI hif hIe
              have hI0 : ¬ (I : Int) < 0 := by omega
              rintro e w5 ⟨rfl, hb5⟩
              have ownC5 := own_below ownCa hb5
              have ownS5 := own_below ownSa hb5
              have ownSc := own_cut ownS5 (m := m) (by omega)
              rw [I64_take] at ownSc
              have hz5 := hb5.size
              have hz5' : wr.heap.size + 1 ≤ w5.heap.size := by simpa using hz5
              have HB5 := below_step hba hb5 (by simp; omega)
              clear ownCa ownSa ownS5 hba bl
              go_wp2_with (first | (first | (go_at_call 40; refine (impl_takes _ _).mono ?_; rintro e w' ⟨rfl, rfl⟩)) | (at_builtin; refine app_int_far rfl (.tmp 63) (.tmp 66) rfl w.heap.size (.slice (some ⟨g, 0, none⟩) m cs) m (st.take m) (100 + (I : Int)) rfl ownSc rfl (by omega) (by omega) ?_; intro v7 w7 own7 hb7 hg7))
              obtain ⟨A7, k7, rfl, _⟩ := Rd.of_own own7
              have ownC7 := (ownC5.alloc (.cells #[.int .i64 (100 + (I : Int))] 3)).kept hg7 (rows_apart ownC5 ownSc (by decide))
              exact ⟨⟨j + 1, m + 1, nc, code, st.take m ++ [100 + (I : Int)], Ac, A7, cc, k7, by omega, by go_num, Lib.hid (by rw [HN.out, hpu.out, HIF.out, HIE.out]), Lib.hid (by rw [HS.out]; simp; omega), by omega, by omega, hnc, Lib.hid (by rw [List.length_append, List.length_take, hd.out]; simp), rfl, rfl, ownC7, own7, HB5.trans hb7⟩, by simp [intOf]; omega⟩
            · have hI : idxI code (s, a, a') nc = -1 := by unfold idxI; rw [if_neg hf]
              rw [hI]
              have hif : (if code.idxOf (s, a, a') < code.length then code else code ++ [(s, a, a')]) = code ++ [(s, a, a')] := by rw [if_neg (by omega)]
              have hidx : code.idxOf (s, a, a') = nc := by have := List.idxOf_le_length (a := (s, a, a')) (l := code); omega
              have HIF := Lib.hid hif
              have HIE := Lib.hid hidx
              clear hI hif hidx hf
              rintro e w5 ⟨rfl, hb5⟩
              have ownC5 := own_below ownCa hb5
              have ownS5 := own_below ownSa hb5
              have ownSc := own_cut ownS5 (m := m) (by omega)
              rw [I64_take] at ownSc
              have hz5 := hb5.size
              have hz5' : wr.heap.size + 1 ≤ w5.heap.size := by simpa using hz5
              have bl5 := bl.below hb5 bl.lt
              have y0 : w5.cell? ⟨wr.heap.size, 0, none⟩ = some (.int .i64 s) := (bl5.cell 0).trans rfl
              have y1 : w5.cell? ⟨wr.heap.size, 1, none⟩ = some (.int .i64 a) := (bl5.cell 1).trans rfl
              have y2 : w5.cell? ⟨wr.heap.size, 2, none⟩ = some (.int .i64 a') := (bl5.cell 2).trans rfl
              have HB5 := below_step hba hb5 (by simp; omega)
              clear ownCa ownSa ownS5 hba bl bl5
              go_wp2_with (first
                | (first | (go_at_call 40; refine (impl_takes _ _).mono ?_; rintro e w' ⟨rfl, rfl⟩))
                | (at_builtin; refine app_op rfl (.tmp 54) (.tmp 56) rfl w.heap.size (.slice Ac nc cc) nc code (s, a, a') rfl ownC5 rfl (by omega) (by omega) ?_; intro v6 w6 own6 hb6 hg6; obtain ⟨A6, k6, rfl⟩ := own_form own6; have hz6 := hb6.size; have ownS6 := (ownSc.alloc (.cells #[.int .i64 s, .int .i64 a, .int .i64 a'] 63)).kept hg6 (rows_apart ownSc ownC5 (by decide)))
                | (at_builtin; refine app_int_far rfl (.tmp 63) (.tmp 66) rfl w.heap.size (.slice (some ⟨g, 0, none⟩) m cs) m (st.take m) (100 + (nc : Int)) rfl ownS6 rfl (by omega) (by omega) ?_; intro v7 w7 own7 hb7 hg7))
              obtain ⟨A7, k7, rfl, _⟩ := Rd.of_own own7
              have ownC7 := (own6.alloc (.cells #[.int .i64 (100 + (nc : Int))] 3)).kept hg7 (rows_apart own6 ownS6 (by decide))
              exact ⟨⟨j + 1, m + 1, nc + 1, code ++ [(s, a, a')], st.take m ++ [100 + (nc : Int)], A6, A7, k6, k7, by omega, by go_num, Lib.hid (by rw [HN.out, hpu.out, HIF.out, HIE.out]), Lib.hid (by rw [HS.out]; simp; omega), by omega, by omega, Lib.hid (by rw [List.length_append, hnc.out]; rfl), Lib.hid (by rw [List.length_append, List.length_take, hd.out]; simp), rfl, rfl, ownC7, own7, (HB5.trans hb6).trans hb7⟩, by simp [intOf]; omega⟩
      · obtain rfl : j = n := by omega
        have hs1 := hscan.out
        have hcd := hcode.out
        rw [show xs.take j = xs by rw [← hL.out, List.take_length]] at hs1 hcd
        rw [HSC.out] at hs1
        have hd1 : d = 1 := by injection hs1 with h; omega
        subst hd1
        obtain ⟨v, rfl⟩ : ∃ v, st = [v] := List.length_eq_one_iff.1 hd.out
        obtain ⟨g, rfl, hg0, hg1⟩ := own_some ownS (by omega)
        have d2 : wr.cell? ⟨g, 0, none⟩ = some (.int .i64 v) := by rw [ownS.cellAt 0 (by omega)]; rfl
        have hre := hr.out
        rw [hcd] at hre
        have HR := Lib.hid hre
        clear hre hs1 hcd
        go_wp2_with fail
        go_quiet (fail)
        go_wp2_with fail
        go_ret2
        rw [HR.out]
        have hnn := hnc.out
        subst hnn
        exact ⟨Ac, cc, rfl, ownC, below_drewN hb _⟩
end Go.Proofs.Ytfnolajhhdnpoaa
