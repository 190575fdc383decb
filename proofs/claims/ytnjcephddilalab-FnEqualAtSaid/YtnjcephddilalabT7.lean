/-
  The program's reader of rows, and ReadExpr.
  Conditions: as stated at each.
-/
import Derived.Test.YtnjcephddilalabT6
import Derived.Laws.OwnMore
import Derived.Laws.AppendOwnNone
import Derived.Laws.Strings
namespace Go.Proofs.Ytnjcephddilalab
set_option linter.unusedVariables false
set_option linter.unusedSimpArgs false
open Go.RowKit
theorem loop_goF {small : Nat → Pl.Rs} {s : List UInt8} {m : Nat} {sg k : Int} {st st' : List Int × Nat} {c : UInt8} (h : s[st.2]? = some c) (hc : Pl.sgn c = some k) (h' : small (st.2 + 1) = some st') :
    Pl.loopP false small s (m + 1) sg st = Pl.loopP false small s m k (st.1 ++ st'.1 ++ [15 + k], st'.2) := by
  rw [Pl.loopP, h]
  simp only [hc]
  rw [if_neg (by simp), h']
theorem loop_failF {small : Nat → Pl.Rs} {s : List UInt8} {m : Nat} {sg k : Int} {st : List Int × Nat} {c : UInt8} (h : s[st.2]? = some c) (hc : Pl.sgn c = some k) (h' : small (st.2 + 1) = none) :
    Pl.loopP false small s (m + 1) sg st = none := by
  rw [Pl.loopP, h]
  simp only [hc]
  rw [if_neg (by simp), h']
/-- What is still to be read of a row. -/
def RowAt (s : List UInt8) (small : Nat → Pl.Rs) (RR : Pl.Rs) (ok : Bool) (ys : List Int) (p : Nat) : Prop :=
  (ok = true → ∃ m sg, RR = Pl.loopP false small s m sg (ys, p) ∧ s.length ≤ m + p) ∧ (ok = false → RR = none)
theorem rowAt_start {s : List UInt8} {small : Nat → Pl.Rs} {a p : Nat} {ys : List Int} (hst : ∀ st, small a = some st → st = (ys, p)) : RowAt s small (Pl.rowP false small s a) (small a).isSome ys p := by
  refine ⟨fun h => ?_, fun h => ?_⟩
  · cases hs : small a with
    | none => rw [hs] at h; cases h
    | some st =>
      have := hst st hs
      subst this
      exact ⟨s.length, -1, Pl.row_start hs, by omega⟩
  · cases hs : small a with
    | none => unfold Pl.rowP; rw [hs]
    | some st => rw [hs] at h; cases h
theorem rowAt_stop {s : List UInt8} {small : Nat → Pl.Rs} {RR : Pl.Rs} {ys : List Int} {p : Nat} (h : RowAt s small RR true ys p) (hs : s[p]? = none ∨ ∃ c, s[p]? = some c ∧ Pl.sgn c = none) : RR = some (ys, p) := by
  obtain ⟨m, sg, e, _⟩ := h.1 rfl
  rw [e]
  exact Pl.loop_stop hs
theorem rowAt_next {s : List UInt8} {small : Nat → Pl.Rs} {RR : Pl.Rs} {ys ys2 : List Int} {p p2 : Nat} {c : UInt8} {k : Int} (h : RowAt s small RR true ys p) (hs : s[p]? = some c) (hc : Pl.sgn c = some k) (hp : p < s.length) (hp2 : p + 1 ≤ p2)
    (hst : ∀ st, small (p + 1) = some st → st = (ys2, p2)) : RowAt s small RR (small (p + 1)).isSome (ys ++ ys2 ++ [15 + k]) p2 := by
  obtain ⟨m, sg, e, hm⟩ := h.1 rfl
  obtain ⟨m, rfl⟩ : ∃ m', m = m' + 1 := ⟨m - 1, by omega⟩
  refine ⟨fun h => ?_, fun h => ?_⟩
  · cases hs2 : small (p + 1) with
    | none => rw [hs2] at h; cases h
    | some st =>
      have := hst st hs2
      subst this
      exact ⟨m, k, by rw [e, loop_goF (st := (ys, p)) hs hc hs2], by omega⟩
  · cases hs2 : small (p + 1) with
    | none => rw [e]; exact loop_failF (st := (ys, p)) hs hc hs2
    | some st => rw [hs2] at h; cases h
theorem grown_then {a b c : World} {R B : Nat} (h : a.grownBy b (some R)) (h' : Below B b c) (hB : a.heap.size ≤ B) : a.grownBy c (some R) :=
  ⟨h'.os.trans h.os, h'.tape.trans h.tape, h'.output.trans h.output, Nat.le_trans h.size h'.size, fun i hi hne => (h'.block i (by omega)).trans (h.block i hi hne)⟩
section
variable {w : World} {ops : Array Oper} {rest : List Oper} {o : Oper} {a : Act} {Q : Exit → Act → World → Prop}
/-- A list behind a list, nil or not. -/
theorem app_more (hgd : o.guard = none) (s x : Operand)
    (ho : o.op = .call { callee := .builtin .append, args := #[s, x], argTypes := #[23, 23] })
    (B : Nat) (v : Value) (n : Nat) (xs : List Int) (hs : a.eval s = v) (hown : w.ownsRow B 3 1 v n (I64 xs))
    (A : Option Addr) (m c : Nat) (ys : List Int) (B2 : Nat) (hx : a.eval x = .slice A m c) (hown2 : w.ownsRow B2 3 1 (.slice A m c) m (I64 ys)) (hn : n ≤ 1000000000000) (hm : m ≤ 1000000000000) (hB : B ≤ w.heap.size)
    (h : ∀ v' w', w'.ownsRow B 3 1 v' (n + m) (I64 (xs ++ ys)) → Below B w w' → wpList Try.prog ops Q rest (a.put o.dst v') w') :
    wpList Try.prog ops Q (o :: rest) a w := by
  obtain ⟨i0, hi0, hz0, hz1, hz2⟩ := info_parts int_info
  rcases hown2.2 with ⟨hv, h0⟩ | ⟨g, cap, cur, hv, _⟩
  · subst h0
    injection hv with e1 e2 e3
    subst e1
    subst e3
    have hys : ys = [] := List.eq_nil_of_length_eq_zero (by have := hown2.1; rw [I64_len] at this; omega)
    subst hys
    rw [List.append_nil] at h
    exact wpList_append_own_none hgd s x _ ho B 3 i0 1 Try.underlying23 hi0 v n (I64 xs) hs hown hx (h v w hown (Below.refl _ _))
  · injection hv with e1 e2 e3
    subst e1
    refine wpList_append_own _ hgd s x _ ho B 3 i0 _ 1 8 Try.underlying23 hi0 hz0 hz1 hz2 rfl (by decide) v n (I64 xs) hs hown ⟨g, 0, none⟩ m c (I64 ys) hx hown2.1
      (hown2.cells rfl) (fun u hu => ?_) (by simp only [maxLen]; omega) (by omega) hB
      (fun v' w' h2 h3 _ => h v' w' (by rw [I64_append]; exact h2) ((Below.refl _ _).grown h3 hB (fun k hk => (hown.lt k hk).1)))
    unfold I64 at hu
    obtain ⟨_, _, rfl⟩ := List.mem_map.1 hu
    rfl
end
set_option maxRecDepth 100000 in
set_option maxHeartbeats 4000000 in
theorem impl_row (s : List UInt8) (hs : s.length ≤ 1000) (f : Nat) (ihO : POp s f) : PRow s f := by
  intro at_ g w hat hf hblk
  have hsz := Ba_size s
  have hgl := hblk.lt
  have IHO := Lib.hid ihO
  have hcall := ihO at_ g w hat hf hblk
  have hstart := fun ys p => rowAt_start (s := s) (small := Pl.opP false s f) (a := at_) (ys := ys) (p := p)
  generalize Pl.rowP false (Pl.opP false s f) s at_ = RR at *
  have HC := Lib.hid hcall
  have HST := Lib.hid hstart
  clear ihO hblk hcall hstart
  go_enter Try.func59, Try.ntmps59
  go_wp2_with fail
  refine HC.out.mono ?_
  rintro e w1 ⟨ys0, A0, cc0, p0, rfl, own0, blk0, g0, p1, p2, p3, hst0⟩
  have hrow0 := Lib.hid (HST.out ys0 p0 hst0)
  generalize (Pl.opP false s f at_).isSome = ok0 at *
  clear hst0 HST HC
  have hz0 := g0.size
  go_wp2_with fail
  go_loopw [4, 5] (fun ve vo wr => ∃ (ys : List Int) (A : Option Addr) (cc p : Nat) (ok : Bool), ve = .slice A ys.length cc ∧ vo = .bool ok ∧ Hid (RowAt s (Pl.opP false s f) RR ok ys p) ∧
    wr.ownsRow w.heap.size 3 1 (.slice A ys.length cc) ys.length (I64 ys) ∧ Blk wr g 73 #[.string (Ba s), .int .i64 (p : Int)] ∧ w.grownBy wr (some g) ∧ at_ ≤ p ∧ p ≤ s.length ∧ ys.length + at_ ≤ p)
    (fun ve _ _ => match ve with | .slice _ n _ => s.length + 1 - n | _ => 0)
  case atStart => exact ⟨ys0, A0, cc0, p0, ok0, rfl, rfl, hrow0, own0, blk0, g0, p1, p2, p3⟩
  case round =>
    obtain ⟨ys, A, cc, p, ok, rfl, rfl, hrow, own, blk, hg, p1, p2, p3⟩ := hrel
    have hz := hg.size
    have c0 : wr.cell? ⟨g, 0, none⟩ = some (.string (Ba s)) := (blk.cell 0).trans rfl
    have c1 : wr.cell? ⟨g, 1, none⟩ = some (.int .i64 (p : Int)) := (blk.cell 1).trans rfl
    have f1 : wr.frozen? ⟨g, 1, none⟩ = false := blk.frozen 1
    have HB := Lib.hid blk
    have HG := Lib.hid hg
    clear blk hg
    cases ok with
    | false =>
      have hR := Lib.hid (hrow.out.2 rfl)
      go_wp2_with fail
      go_quiet (fail)
      go_wp2_with fail
      go_ret2
      rw [hR.out]
      exact ⟨ys, A, cc, p, rfl, own, HB.out.drewN _, HG.out.trans (grown_drewN _ _ _), p1, p2, p3, fun st h => by cases h⟩
    | true =>
      by_cases hend : p = s.length
      · have hR := Lib.hid (rowAt_stop hrow.out (.inl (List.getElem?_eq_none (by omega))))
        have k2 : decide (p < s.length) = false := by simp; omega
        have k3 : ¬ (p : Int) < ((s.length : Nat) : Int) := by omega
        go_wp2_with fail
        go_quiet (fail)
        go_wp2_with fail
        go_ret2
        rw [hR.out]
        exact ⟨ys, A, cc, p, rfl, own, HB.out.drewN _, HG.out.trans (grown_drewN _ _ _), p1, p2, p3, fun st h => by injection h with h; exact h.symm⟩
      · obtain ⟨c, hc⟩ : ∃ c, s[p]? = some c := ⟨_, List.getElem?_eq_getElem (by omega)⟩
        have hch := fun h => ba_at hc h
        have hpl : p < s.length := by omega
        have k1 : decide (p < s.length) = true := by simp; omega
        have k2 : (p : Int) < ((s.length : Nat) : Int) := by omega
        have k3 : (0 : Int) ≤ (p : Int) := by omega
        have k4 : (p : Int) < 1000 := by omega
        have HI := Lib.hid (fun w => idx_sgn c w)
        cases hsg : Pl.sgn c with
        | none =>
          have hR := Lib.hid (rowAt_stop hrow.out (.inr ⟨c, hc, hsg⟩))
          rw [hsg, Option.getD_none] at HI
          clear hsg hc
          go_wp2_with fail
          go_quiet (fail)
          go_wp2_with fail
          go_quiet ((first | (go_at_call 90; first | exact quiet_left (HI.out _) | exact quiet_add_left (HI.out _))))
          go_wp2_with fail
          go_ret2
          rw [hR.out]
          exact ⟨ys, A, cc, p, rfl, own, HB.out.drewN _, HG.out.trans (grown_drewN _ _ _), p1, p2, p3, fun st h => by injection h with h; exact h.symm⟩
        | some k =>
          have hk := sgn_bd hsg
          have k5 : 0 ≤ k := hk.1
          have k6 : k ≤ 4 := hk.2
          rw [hsg, Option.getD_some] at HI
          have hnx := Lib.hid (fun ys2 p2 => rowAt_next (ys2 := ys2) (p2 := p2) hrow.out hc hsg hpl)
          clear hsg hc hk
          go_wp2_with fail
          go_quiet (fail)
          go_wp2_with fail
          go_quiet ((first | (go_at_call 90; first | exact quiet_left (HI.out _) | exact quiet_add_left (HI.out _))))
          go_wp2_with fail
          have HF := Lib.hid (fun q => reader_step (q := q) HB.out)
          refine (IHO.out (p + 1) g _ (by omega) (by omega) (HF.out _).1).mono ?_
          generalize Pl.opP false s f (p + 1) = R2 at hnx
          rintro e w3 ⟨ys2, A2, cc2, p4, rfl, own2, blk2, g2, q1, q2, q3, hst2⟩
          have HN := Lib.hid (hnx.out ys2 p4 q1 hst2)
          have z2 := g2.size
          have hz3 : wr.heap.size ≤ w3.heap.size := by simpa using z2
          have gg := ((HF.out _).2.1).trans g2
          have own3 := own.kept gg (by
            cases hv : (Value.slice A ys.length cc).ownBlock with
            | none => exact .inl rfl
            | some k => exact .inr (fun e => by injection e with e; have := (own.lt k hv).1; omega))
          have own2' := own2.mono (base' := wr.heap.size) (by simp)
          have HG3 := Lib.hid (HG.out.trans gg)
          have HB3 := Lib.hid blk2
          clear hst2 hnx g2 gg own own2 blk2 c0 c1 f1 hch
          go_wp2_with (first
            | (at_builtin; refine app_more rfl (.tmp 51) (.tmp 52) rfl w.heap.size (.slice A ys.length cc) ys.length ys rfl own3 A2 ys2.length cc2 ys2 wr.heap.size rfl own2' (by omega) (by omega) (by omega) ?_; intro v5 w5 own5 hb5)
            | (at_builtin; refine app_int_far rfl (.tmp 53) (.tmp 56) rfl w.heap.size v5 (ys.length + ys2.length) (ys ++ ys2) (15 + k) rfl own5 rfl (by omega) (by have := hb5.size; omega) ?_; intro v6 w6 own6 hb6 hg6))
          obtain ⟨A6, k6, rfl, _⟩ := Rd.of_own own6
          have hl6 : (ys ++ ys2 ++ [15 + k]).length = ys.length + ys2.length + 1 := by simp; omega
          refine ⟨⟨ys ++ ys2 ++ [15 + k], A6, k6, p4, R2.isSome, by rw [hl6], rfl, HN, by rw [hl6]; exact own6, (HB3.out.below hb5 hgl).below hb6 hgl, (grown_then (grown_then HG3.out hb5 (Nat.le_refl _)) hb6 (Nat.le_refl _)), by omega, q2, by rw [hl6]; omega⟩, ?_⟩
          show s.length + 1 - (ys.length + ys2.length + 1) < s.length + 1 - ys.length
          omega
theorem reads_op (s : List UInt8) (hs : s.length ≤ 1000) : ∀ f, POp s f
  | 0 => fun at_ g w h1 h2 _ => absurd h2 (by omega)
  | f + 1 => impl_operand s hs f (reads_op s hs f) (impl_row s hs f (reads_op s hs f))
theorem Ba_inj {a b : List UInt8} (h : Ba a = Ba b) : a = b := by
  have h1 := congrArg (fun x => x.data.toList) h
  simpa [Ba] using h1
theorem Ba_list (a : List UInt8) : (Ba a).toList = a := by rw [ByteArray.toList_eq]; simp [Ba]
theorem Ba_ne {a b : List UInt8} (h : a ≠ b) : ((Ba a).toList == (Ba b).toList) = false := by
  rw [Ba_list, Ba_list]
  simpa using h
/-- What ReadExpr leaves. -/
def OutRd (r : Option (List Int)) (w : World) (e : Ending) (w' : World) : Prop :=
  ∃ (ys : List Int) (A : Option Addr) (c : Nat), ys = r.getD [] ∧ e = .returned (.tuple #[.slice A ys.length c, .bool r.isSome]) ∧ w'.ownsRow w.heap.size 3 1 (.slice A ys.length c) ys.length (I64 ys) ∧ Below w.heap.size w w'
theorem row_empty (chk : Bool) (f : Nat) : Pl.rowP chk (Pl.opP chk [] f) [] 0 = none := by
  unfold Pl.rowP
  cases f <;> rfl
set_option maxRecDepth 100000 in
set_option maxHeartbeats 4000000 in
theorem impl_ReadExpr (s : List UInt8) (w : World) (hs : s.length ≤ 1000000000000) : Calls Try.prog 27 #[.string (Ba s)] w (OutRd (Pl.readE s) w) := by
  have hsz := Ba_size s
  by_cases hbig : 96 < s.length
  · have hr := Lib.hid (Pl.readE_long (s := s) (by omega))
    have k1 : (96 : Int) < ((s.length : Nat) : Int) := by omega
    go_enter Try.func27, Try.ntmps27
    go_wp2_with fail
    go_ret2
    rw [hr.out]
    exact ⟨[], none, 0, rfl, rfl, World.ownsRow_nil _ _ _ _, Below.refl _ _⟩
  · have k1 : ¬ (96 : Int) < ((s.length : Nat) : Int) := by omega
    have hrow := impl_row s (by omega) (s.length + 1) (reads_op s (by omega) _) 0
    have hby := Pl.readE_by (s := s) (R := Pl.rowP false (Pl.opP false s (s.length + 1)) s 0) (fun e h1 h2 => ⟨_, Pl.text_reads h1 h2 (by have := Pl.expr_le h1 h2; omega)⟩)
    have hemp : Pl.rowP false (Pl.opP false s (s.length + 1)) s 0 ≠ none → s ≠ [] := by
      intro h e
      subst e
      exact h (row_empty _ _)
    generalize Pl.rowP false (Pl.opP false s (s.length + 1)) s 0 = R at *
    have HR := Lib.hid hrow
    have HBy := Lib.hid hby
    have HE := Lib.hid hemp
    clear hrow hby hemp
    go_enter Try.func27, Try.ntmps27
    go_wp2_with fail
    refine (HR.out w.heap.size _ (by omega) (by omega) (Blk.new w 73 #[.string (Ba s), .int .i64 ((0 : Nat) : Int)])).mono ?_
    rintro e w3 ⟨ys, A, cc, p, rfl, own3, blk3, g3, p1, p2, p3, hst⟩
    have z3 := g3.size
    have hz3 : w.heap.size + 1 ≤ w3.heap.size := by simpa using z3
    have HB3 := ((Below.refl w.heap.size w).alloc (Nat.le_refl _) (.cells #[.string (Ba s), .int .i64 ((0 : Nat) : Int)] 73)).grown g3 (by simp) (fun k hk => by injection hk with hk; omega)
    have own3' := own3.mono (base' := w.heap.size) (by simp)
    clear g3 blk3 own3 z3
    cases R with
    | none =>
      have hr := HBy.out
      unfold Pl.checkT at hr
      have hr := Lib.hid hr
      clear HBy hst
      go_wp2_with fail
      go_ret2
      rw [← hr.out]
      exact ⟨[], none, 0, rfl, rfl, World.ownsRow_nil _ _ _ _, HB3⟩
    | some st =>
      obtain rfl := hst st rfl
      have hne : s ≠ [] := HE.out (by simp)
      have hr : (if Pl.exprText ys = s ∧ s ≠ [] then some ys else none) = Pl.readE s := HBy.out
      have rd3 := Lib.hid (rd_own own3')
      clear HBy hst HE
      by_cases hq : Pl.exprText ys = s
      · rw [if_pos ⟨hq, hne⟩] at hr
        have hr := Lib.hid hr
        have HQ := Lib.hid hq
        clear hq
        go_wp2_with fail
        refine (impl_ExprText A ys.length cc _ ys _ rd3.out (Nat.le_refl _) (by omega)).mono ?_
        rw [HQ.out]
        rintro e w4 ⟨rfl, hb4⟩
        go_wp2_with fail
        go_ret2
        rw [← hr.out]
        exact ⟨ys, A, cc, rfl, rfl, own_below own3' hb4, below_step HB3 hb4 (by omega)⟩
      · rw [if_neg (fun h => hq h.1)] at hr
        have hr := Lib.hid hr
        have hn := Ba_ne hq
        clear hq
        go_wp2_with fail
        refine (impl_ExprText A ys.length cc _ ys _ rd3.out (Nat.le_refl _) (by omega)).mono ?_
        rintro e w4 ⟨rfl, hb4⟩
        go_wp2_with fail
        go_ret2
        rw [← hr.out]
        exact ⟨[], none, 0, rfl, rfl, World.ownsRow_nil _ _ _ _, below_step HB3 hb4 (by omega)⟩
end Go.Proofs.Ytnjcephddilalab
