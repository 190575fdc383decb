/-
  The cut of a deed's text at its first space, and what the library says of it.
  Conditions: the library's variables hold what its contracts ask.
-/
import Derived.Test.YtamhpgledbmnoaaGreatDoorPy
import Derived.Test.YtamhpgledbmnoaaGreatDoorO0
import Derived.Test.YtamhpgledbmnoaaGreatDoorLb
import Derived.Test.YtamhpgledbmnoaaGreatDoorKN
import Derived.Lib.AtoiErrMem
import Derived.Lib.IndexMore
namespace Go.Proofs.YtamhpgledbmnoaaGreatDoor
set_option linter.unusedVariables false
set_option linter.unusedSimpArgs false
open Go.RowKit
namespace Pl
theorem idx_sp : ∀ (p r : List UInt8), (∀ c ∈ p, c ≠ 32) → Lib.index (p ++ 32 :: r) [32] = p.length
  | [], r, _ => by unfold Lib.index; simp
  | c :: p, r, h => by
    have ih := idx_sp p r (fun x hx => h x (List.mem_cons_of_mem _ hx))
    have hc : ¬ (32 : UInt8) = c := fun e => h c (List.mem_cons_self ..) e.symm
    rw [List.cons_append]
    unfold Lib.index
    rw [ih, if_neg (by simp [hc]), if_neg (by first | (simp; done) | (simp; omega))]
    simp
theorem idx_no : ∀ (p : List UInt8), (∀ c ∈ p, c ≠ 32) → Lib.index p [32] = -1
  | [], _ => by unfold Lib.index; simp
  | c :: p, h => by
    have ih := idx_no p (fun x hx => h x (List.mem_cons_of_mem _ hx))
    have hc : ¬ (32 : UInt8) = c := fun e => h c (List.mem_cons_self ..) e.symm
    unfold Lib.index
    rw [ih, if_neg (by simp [hc]), if_pos (by simp)]
theorem cut_sp (p r : List UInt8) (h : ∀ c ∈ p, c ≠ 32) : Lib.cut (p ++ 32 :: r) [32] = (p, r, true) := by
  unfold Lib.cut
  rw [idx_sp p r h, if_pos (by omega)]
  simp
theorem cut_no (p : List UInt8) (h : ∀ c ∈ p, c ≠ 32) : Lib.cut p [32] = (p, [], false) := by
  unfold Lib.cut
  rw [idx_no p h, if_neg (by decide)]
theorem idx_spB (b : UInt8) : ∀ (p r : List UInt8), (∀ c ∈ p, c ≠ b) → Lib.index (p ++ b :: r) [b] = p.length
  | [], r, _ => by unfold Lib.index; simp
  | c :: p, r, h => by
    have ih := idx_spB b p r (fun x hx => h x (List.mem_cons_of_mem _ hx))
    have hc : ¬ b = c := fun e => h c (List.mem_cons_self ..) e.symm
    rw [List.cons_append]
    unfold Lib.index
    rw [ih, if_neg (by simp [hc]), if_neg (by first | (simp; done) | (simp; omega))]
    simp
theorem idx_noB (b : UInt8) : ∀ (p : List UInt8), (∀ c ∈ p, c ≠ b) → Lib.index p [b] = -1
  | [], _ => by unfold Lib.index; simp
  | c :: p, h => by
    have ih := idx_noB b p (fun x hx => h x (List.mem_cons_of_mem _ hx))
    have hc : ¬ b = c := fun e => h c (List.mem_cons_self ..) e.symm
    unfold Lib.index
    rw [ih, if_neg (by simp [hc]), if_pos (by simp)]
theorem idxOf_first : ∀ (l : List UInt8) (b : UInt8), l.idxOf b < l.length → (∀ c ∈ l.take (l.idxOf b), c ≠ b) ∧ l = l.take (l.idxOf b) ++ b :: l.drop (l.idxOf b + 1)
  | [], b, h => by simp at h
  | c :: l, b, h => by
    by_cases hc : c = b
    · subst hc; simp
    · have hc' : (c == b) = false := by rw [beq_eq_false_iff_ne]; exact hc
      rw [List.idxOf_cons, hc', cond_false] at h ⊢
      obtain ⟨h1, h2⟩ := idxOf_first l b (by simpa using h)
      refine ⟨fun x hx => ?_, ?_⟩
      · rw [List.take_succ_cons, List.mem_cons] at hx
        rcases hx with rfl | hx
        · exact hc
        · exact h1 x hx
      · rw [List.take_succ_cons, List.drop_succ_cons, List.cons_append, ← h2]
theorem cut_at {l : List UInt8} (b : UInt8) (h : l.idxOf b < l.length) : Lib.cut l [b] = (l.take (l.idxOf b), l.drop (l.idxOf b + 1), true) := by
  obtain ⟨h1, h2⟩ := idxOf_first l b h
  have := idx_spB b (l.take (l.idxOf b)) (l.drop (l.idxOf b + 1)) h1
  rw [← h2, List.length_take, Nat.min_eq_left (by omega)] at this
  unfold Lib.cut
  rw [this, if_pos (by omega)]
  simp
theorem cut_none {l : List UInt8} (b : UInt8) (h : ¬ l.idxOf b < l.length) : Lib.cut l [b] = (l, [], false) := by
  have : Lib.index l [b] = -1 := idx_noB b l (fun c hc e => h (by subst e; exact List.idxOf_lt_length_of_mem hc))
  unfold Lib.cut
  rw [this, if_neg (by decide)]
theorem cut_len (s : List UInt8) : (Lib.cut s [32]).1.length ≤ s.length ∧ (Lib.cut s [32]).2.1.length ≤ s.length := by
  unfold Lib.cut
  split
  · exact ⟨by first | (simp; done) | (simp; omega), by first | (simp; done) | (simp; omega)⟩
  · exact ⟨Nat.le_refl _, Nat.zero_le _⟩
theorem cut_e {e : Dd} {s : List UInt8} (h : dtext e = s) (hn : s ≠ []) :
    (∃ n : Nat, n ≤ 9999 ∧ e = ⟨0, n, []⟩ ∧ Lib.cut s [32] = ([120], Lib.decDigits n, true)) ∨ (∃ n : Nat, n ≤ 9999 ∧ e = ⟨1, n, []⟩ ∧ Lib.cut s [32] = ([121], Lib.decDigits n, true)) ∨
    (∃ t, e = ⟨2, 0, t⟩ ∧ Lib.cut s [32] = ([101, 120, 112, 114], t, true)) ∨ (e = ⟨3, 0, []⟩ ∧ Lib.cut s [32] = ([115, 105, 109, 112, 108, 101], [], false)) ∨
    (e = ⟨4, 0, []⟩ ∧ Lib.cut s [32] = ([115, 104, 111, 114, 116], [], false)) ∨ (e = ⟨5, 0, []⟩ ∧ Lib.cut s [32] = ([98, 97, 99, 107], [], false)) := by
  subst h
  rcases dtext_cases e with h1 | ⟨m, hl, e1, h1⟩ | ⟨m, hl, e1, h1⟩ | ⟨u, hu, e1, h1⟩ | ⟨e1, h1⟩ | ⟨e1, h1⟩ | ⟨e1, h1⟩
  · exact absurd h1 hn
  · rw [h1]; exact .inl ⟨m, hl, e1, cut_sp [120] _ (by decide)⟩
  · rw [h1]; exact .inr (.inl ⟨m, hl, e1, cut_sp [121] _ (by decide)⟩)
  · rw [h1]; exact .inr (.inr (.inl ⟨u, e1, cut_sp [101, 120, 112, 114] _ (by decide)⟩))
  · rw [h1]; exact .inr (.inr (.inr (.inl ⟨e1, cut_no _ (by decide)⟩)))
  · rw [h1]; exact .inr (.inr (.inr (.inr (.inl ⟨e1, cut_no _ (by decide)⟩))))
  · rw [h1]; exact .inr (.inr (.inr (.inr (.inr ⟨e1, cut_no _ (by decide)⟩))))
theorem cut_ne {s h r : List UInt8} {f : Bool} (hc : Lib.cut s [32] = (h, r, f)) (hh : h ≠ []) : s ≠ [] := by
  rintro rfl
  rw [cut_no [] (by simp)] at hc
  injection hc with hc _
  exact hh hc.symm
/-- What was read is the deed that alone could have this text. -/
theorem rd_is {s : List UInt8} {d : Dd} (hs : s ≠ []) (h : ∀ e, dtext e = s → e = d) : (dtext d = s → readD s = some d) ∧ (dtext d ≠ s → readD s = none) := by
  rw [readD_try hs h]
  exact ⟨fun g => if_pos g, fun g => if_neg g⟩
theorem rd_x {s r : List UInt8} {f : Bool} {v : Int} (hc : Lib.cut s [32] = ([120], r, f)) (ha : Lib.atoiAll r = .ok v) : ∀ e, dtext e = s → e = ⟨0, v, []⟩ := by
  intro e he
  rcases cut_e he (cut_ne hc (by simp)) with ⟨n, hn, rfl, h⟩ | ⟨n, hn, rfl, h⟩ | ⟨t, rfl, h⟩ | ⟨rfl, h⟩ | ⟨rfl, h⟩ | ⟨rfl, h⟩ <;> rw [hc] at h <;> injection h with h1 h2 <;> (try exact absurd h1 (by decide))
  injection h2 with h2 _
  rw [h2, atoi_dec hn] at ha
  injection ha with ha
  rw [ha]
theorem rd_y {s r : List UInt8} {f : Bool} {v : Int} (hc : Lib.cut s [32] = ([121], r, f)) (ha : Lib.atoiAll r = .ok v) : ∀ e, dtext e = s → e = ⟨1, v, []⟩ := by
  intro e he
  rcases cut_e he (cut_ne hc (by simp)) with ⟨n, hn, rfl, h⟩ | ⟨n, hn, rfl, h⟩ | ⟨t, rfl, h⟩ | ⟨rfl, h⟩ | ⟨rfl, h⟩ | ⟨rfl, h⟩ <;> rw [hc] at h <;> injection h with h1 h2 <;> (try exact absurd h1 (by decide))
  injection h2 with h2 _
  rw [h2, atoi_dec hn] at ha
  injection ha with ha
  rw [ha]
theorem rd_xe {s r : List UInt8} {f : Bool} (hc : Lib.cut s [32] = ([120], r, f)) (ha : ∀ v, Lib.atoiAll r ≠ .ok v) : readD s = none := by
  refine readD_none fun e he hn => ?_
  rcases cut_e he hn with ⟨n, hn, rfl, h⟩ | ⟨n, hn, rfl, h⟩ | ⟨t, rfl, h⟩ | ⟨rfl, h⟩ | ⟨rfl, h⟩ | ⟨rfl, h⟩ <;> rw [hc] at h <;> injection h with h1 h2 <;> (try exact absurd h1 (by decide))
  injection h2 with h2 _
  exact ha n (by rw [h2]; exact atoi_dec hn)
theorem rd_ye {s r : List UInt8} {f : Bool} (hc : Lib.cut s [32] = ([121], r, f)) (ha : ∀ v, Lib.atoiAll r ≠ .ok v) : readD s = none := by
  refine readD_none fun e he hn => ?_
  rcases cut_e he hn with ⟨n, hn, rfl, h⟩ | ⟨n, hn, rfl, h⟩ | ⟨t, rfl, h⟩ | ⟨rfl, h⟩ | ⟨rfl, h⟩ | ⟨rfl, h⟩ <;> rw [hc] at h <;> injection h with h1 h2 <;> (try exact absurd h1 (by decide))
  injection h2 with h2 _
  exact ha n (by rw [h2]; exact atoi_dec hn)
theorem rd_e {s r : List UInt8} {f : Bool} (hc : Lib.cut s [32] = ([101, 120, 112, 114], r, f)) : ∀ e, dtext e = s → e = ⟨2, 0, r⟩ := by
  intro e he
  rcases cut_e he (cut_ne hc (by simp)) with ⟨n, hn, rfl, h⟩ | ⟨n, hn, rfl, h⟩ | ⟨t, rfl, h⟩ | ⟨rfl, h⟩ | ⟨rfl, h⟩ | ⟨rfl, h⟩ <;> rw [hc] at h <;> injection h with h1 h2 <;> (try exact absurd h1 (by decide))
  injection h2 with h2 _
  rw [h2]
theorem rd_3 {s r : List UInt8} {f : Bool} (hc : Lib.cut s [32] = ([115, 105, 109, 112, 108, 101], r, f)) : ∀ e, dtext e = s → e = ⟨3, 0, []⟩ := by
  intro e he
  rcases cut_e he (cut_ne hc (by simp)) with ⟨n, hn, rfl, h⟩ | ⟨n, hn, rfl, h⟩ | ⟨t, rfl, h⟩ | ⟨rfl, h⟩ | ⟨rfl, h⟩ | ⟨rfl, h⟩ <;> rw [hc] at h <;> injection h with h1 h2 <;> (first | rfl | exact absurd h1 (by decide))
theorem rd_4 {s r : List UInt8} {f : Bool} (hc : Lib.cut s [32] = ([115, 104, 111, 114, 116], r, f)) : ∀ e, dtext e = s → e = ⟨4, 0, []⟩ := by
  intro e he
  rcases cut_e he (cut_ne hc (by simp)) with ⟨n, hn, rfl, h⟩ | ⟨n, hn, rfl, h⟩ | ⟨t, rfl, h⟩ | ⟨rfl, h⟩ | ⟨rfl, h⟩ | ⟨rfl, h⟩ <;> rw [hc] at h <;> injection h with h1 h2 <;> (first | rfl | exact absurd h1 (by decide))
theorem rd_5 {s r : List UInt8} {f : Bool} (hc : Lib.cut s [32] = ([98, 97, 99, 107], r, f)) : ∀ e, dtext e = s → e = ⟨5, 0, []⟩ := by
  intro e he
  rcases cut_e he (cut_ne hc (by simp)) with ⟨n, hn, rfl, h⟩ | ⟨n, hn, rfl, h⟩ | ⟨t, rfl, h⟩ | ⟨rfl, h⟩ | ⟨rfl, h⟩ | ⟨rfl, h⟩ <;> rw [hc] at h <;> injection h with h1 h2 <;> (first | rfl | exact absurd h1 (by decide))
theorem rd_o {s h r : List UInt8} {f : Bool} (hc : Lib.cut s [32] = (h, r, f)) (h0 : h ≠ [120]) (h1 : h ≠ [121]) (h2 : h ≠ [101, 120, 112, 114]) (h3 : h ≠ [115, 105, 109, 112, 108, 101]) (h4 : h ≠ [115, 104, 111, 114, 116]) (h5 : h ≠ [98, 97, 99, 107]) : readD s = none := by
  refine readD_none fun e he hn => ?_
  rcases cut_e he hn with ⟨n, hn, rfl, g⟩ | ⟨n, hn, rfl, g⟩ | ⟨t, rfl, g⟩ | ⟨rfl, g⟩ | ⟨rfl, g⟩ | ⟨rfl, g⟩ <;> rw [hc] at g <;> injection g with g1 g2 <;> first | exact h0 g1 | exact h1 g1 | exact h2 g1 | exact h3 g1 | exact h4 g1 | exact h5 g1
end Pl
/-- What a reader of one deed leaves. -/
def RdO (r : Option Pl.Dd) (w : World) (e : Ending) (w' : World) : Prop := e = .returned (.tuple #[deedV (r.getD ⟨0, 0, []⟩).k (r.getD ⟨0, 0, []⟩).n (r.getD ⟨0, 0, []⟩).t, .bool r.isSome]) ∧ Below w.heap.size w w'
def put3d (w : World) (r : Nat) (v0 v1 v2 : Value) : World := ((w.setCell ⟨r, 0, none⟩ v0).setCell ⟨r, 1, none⟩ v1).setCell ⟨r, 2, none⟩ v2
section
variable {w a : World} {r r' g base n c : Nat} {t t' : TypeId} {u0 u1 u2 v0 v1 v2 : Value}
theorem put3d_blk (h : Blk w r t #[u0, u1, u2]) : Blk (put3d w r v0 v1 v2) r t #[v0, v1, v2] := ((h.set_ 0 v0).set_ 1 v1).set_ 2 v2
theorem put3d_below (h : Below g a w) (hr : g ≤ r) : Below g a (put3d w r v0 v1 v2) :=
  ((h.setCell (p := ⟨r, 0, none⟩) hr v0).setCell (p := ⟨r, 1, none⟩) hr v1).setCell (p := ⟨r, 2, none⟩) hr v2
theorem put3d_far {cs : Array Value} (h : r ≠ r') (hb : Blk w r' t cs) : Blk (put3d w r v0 v1 v2) r' t cs :=
  ((hb.far (p := ⟨r, 0, none⟩) (Ne.symm h) v0).far (p := ⟨r, 1, none⟩) (Ne.symm h) v1).far (p := ⟨r, 2, none⟩) (Ne.symm h) v2
theorem load_dd (h : Blk w r 24 #[v0, v1, v2]) : (loadVar 24 ⟨r, 0, none⟩).run Tryz.prog w = .ok (.agg #[v0, v1, v2]) w := by
  have c0 : w.cell? ⟨r, 0, none⟩ = some v0 := h.cell 0
  have c1 : w.cell? ⟨r, 1, none⟩ = some v1 := h.cell 1
  have c2 : w.cell? ⟨r, 2, none⟩ = some v2 := h.cell 2
  simp [go_sem, c0, c1, c2]
theorem cells3q {c0 c1 c2 : Value} (h : Blk w g t #[c0, c1, c2]) :
    (w.cell? ⟨g, 0, none⟩ = some c0 ∧ w.cell? ⟨g, 1, none⟩ = some c1 ∧ w.cell? ⟨g, 2, none⟩ = some c2) ∧ (w.frozen? ⟨g, 0, none⟩ = false ∧ w.frozen? ⟨g, 1, none⟩ = false ∧ w.frozen? ⟨g, 2, none⟩ = false) :=
  ⟨⟨(h.cell 0).trans rfl, (h.cell 1).trans rfl, (h.cell 2).trans rfl⟩, h.frozen 0, h.frozen 1, h.frozen 2⟩
end
theorem Blk.newd {w : World} {D : Nat} {t : TypeId} {cs : Array Value} (h : D = w.heap.size) : Blk (w.alloc (.cells cs t)) D t cs := by subst h; exact Blk.new w t cs
theorem lib_cutB {B : Nat} (c : UInt8) (s h r : List UInt8) (f : Bool) (w : World) (hl : LibOkE B w) (hs : s.length ≤ 2000000) (hc : Lib.cut s [c] = (h, r, f)) :
    Calls Tryz.prog 30 #[.string (Ba s), .string ⟨#[c]⟩] w fun e w' => e = .returned (.tuple #[.string (Ba h), .string (Ba r), .bool f]) ∧ ∃ n, w' = w.drewN n := by
  obtain ⟨m, hm⟩ := hl.mx
  refine (Tryz.strings_Cut (Ba s) ⟨#[c]⟩ m w (by rw [Ba_size]; omega) hm).mono ?_
  rintro e w' ⟨rfl, n, rfl⟩
  have hc' : Lib.cut (Ba s).data.toList (⟨#[c]⟩ : ByteArray).data.toList = (h, r, f) := hc
  rw [hc']
  exact ⟨rfl, n, rfl⟩
theorem lib_cut {B : Nat} (s h r : List UInt8) (f : Bool) (w : World) (hl : LibOkE B w) (hs : s.length ≤ 2000000) (hc : Lib.cut s [32] = (h, r, f)) :
    Calls Tryz.prog 30 #[.string (Ba s), .string ⟨#[32]⟩] w fun e w' => e = .returned (.tuple #[.string (Ba h), .string (Ba r), .bool f]) ∧ ∃ n, w' = w.drewN n := lib_cutB 32 s h r f w hl hs hc
theorem lib_atoi_ok (s : List UInt8) (v : Int) (w : World) (hs : s.length ≤ 2000000) (h : Lib.atoiAll s = .ok v) :
    Calls Tryz.prog 31 #[.string (Ba s)] w fun e w' => e = .returned (.tuple #[.int .i64 v, .nilIface]) ∧ Below w.heap.size w w' := by
  refine (Tryz.strconv_Atoi_ok (Ba s) (by rw [Ba_size]; omega) v h w).mono ?_
  rintro e w' ⟨rfl, rfl | ⟨t, rfl⟩⟩
  · exact ⟨rfl, Below.refl _ _⟩
  · exact ⟨rfl, Lib.bytesWorld_below _ _ _⟩
theorem lib_atoi_err {B : Nat} (s : List UInt8) (w : World) (hl : LibOkE B w) (hs : s.length ≤ 2000000) (h : ∀ v, Lib.atoiAll s ≠ .ok v) :
    Calls Tryz.prog 31 #[.string (Ba s)] w fun e w' => ∃ x tp p, e = .returned (.tuple #[.int .i64 x, .iface tp p]) ∧ Below w.heap.size w w' := by
  obtain ⟨t1, p1, h1⟩ := hl.es
  obtain ⟨t2, p2, h2⟩ := hl.er
  cases ha : Lib.atoiAll s
  · rename_i v
    exact absurd ha (h v)
  · refine (Tryz.strconv_Atoi_syntax_var (Ba s) (by rw [Ba_size]; omega) ha t1 p1 w h1).mono ?_
    rintro e w' ⟨N, rfl, _, _, hb⟩
    exact ⟨_, _, _, rfl, hb⟩
  · refine (Tryz.strconv_Atoi_range_var (Ba s) (by rw [Ba_size]; omega) ha t2 p2 w h2).mono ?_
    rintro e w' ⟨N, rfl, _, _, hb⟩
    exact ⟨_, _, _, rfl, hb⟩
end Go.Proofs.YtamhpgledbmnoaaGreatDoor
