/-
  The laws' helpers that turn a slice of the laws' operations into one of the program's, and size it.
  Conditions: as stated at each.
-/
import Derived.Test.YtnjcephddilalaaE13
namespace Go.Proofs.Ytnjcephddilalaa
set_option linter.unusedVariables false
set_option linter.unusedSimpArgs false
open Go.RowKit

set_option maxHeartbeats 1000000 in
theorem laws_toIns (p q r : Int) (w : World) : Calls Try.prog 72 #[.agg #[.int .i64 p, .int .i64 q, .int .i64 r]] w fun e w' => e = .returned (.agg #[.int .i64 p, .int .i64 q, .int .i64 r]) ∧ Below w.heap.size w w' := by
  go_enter Try.func72, Try.ntmps72
  go_wp2
  refine bodyPost_ret (v := .agg #[.int .i64 p, .int .i64 q, .int .i64 r]) (by simp [results, Try.results72, go_sem]) rfl ?_
  exact ⟨rfl, by go_grown⟩
set_option maxHeartbeats 1000000 in
theorem laws_szInsS_t (A : Option Addr) (n c : Nat) (w : World) (h : n ≤ 1048576) :
    Calls Try.prog 36 #[.slice A n c, .int .i64 1048576] w fun e w' => e = .returned (.int .i64 (1048576 - (n : Int))) ∧ w = w' := by
  have h2 : ¬ (1048576 : Int) - (n : Int) < 0 := by omega
  go_enter Try.func36, Try.ntmps36
  go_wp2
  go_ret
  exact ⟨ret_int rfl, rfl⟩
set_option maxHeartbeats 1000000 in
theorem laws_szInsS_f (A : Option Addr) (n c : Nat) (w : World) (h : 1048576 < n) (hn : n ≤ maxLen) :
    Calls Try.prog 36 #[.slice A n c, .int .i64 1048576] w fun e w' => e = .returned (.int .i64 (-1)) ∧ w = w' := by
  have h2 : (1048576 : Int) - (n : Int) < 0 := by omega
  unfold maxLen at hn
  go_enter Try.func36, Try.ntmps36
  go_wp2
  go_ret
  exact ⟨ret_int rfl, rfl⟩
/-- What a call that hands back its own operations leaves. -/
def OwnIns (base : Nat) (xs : List Pl.Op3) (w : World) (e : Ending) (w' : World) : Prop :=
  ∃ A c, e = .returned (.slice A xs.length c) ∧ w'.ownsRow base 68 3 (.slice A xs.length c) xs.length (I3 xs) ∧ Below base w w'
set_option maxRecDepth 100000 in
set_option maxHeartbeats 2000000 in
theorem laws_toInsS (A : Option Addr) (n c B : Nat) (xs : List Pl.Op3) (w : World) (hx : RdI w B A n xs) (hB : B ≤ w.heap.size) (hn : n ≤ 1048576) :
    Calls Try.prog 38 #[.slice A n c] w (OwnIns w.heap.size xs w) := by
  have lx : xs.length = n := hx.1
  have hX := Lib.hid hx
  have hL := Lib.hid lx
  clear hx lx
  obtain ⟨i0, hi0, hz0, hz1, hz2⟩ := info_parts ins_info
  obtain ⟨w1, hrun, hown, hg⟩ := run_make_full (P := Try.prog) w w.heap.size 31 68 i0 _ 3 Try.underlying31 hi0 hz0 hz1 .i64 .i64 n (by rw [hz2]; omega) (by unfold maxLen; omega) (Nat.le_refl _)
  clear hi0 hz0 hz1 hz2
  have hz := hg.size
  go_enter Try.func38, Try.ntmps38
  go_wp2
  go_loopw [4] (fun i wr => ∃ (j : Nat) (ys : List Value), j ≤ n ∧ i = .int .i64 j ∧ Hid (ys.length = n * 3) ∧ Hid (∀ t : Nat, t < j * 3 → ys[t]? = (I3 xs)[t]?) ∧ wr.ownsRow w.heap.size 68 3 (.slice (some ⟨w.heap.size, 0, none⟩) n n) n ys ∧ Below w.heap.size w wr) (fun i _ => n - (intOf i).toNat)
  case atStart => exact ⟨0, _, by omega, rfl, Lib.hid hown.1, Lib.hid (fun t ht => absurd ht (by omega)), hown, (Below.refl _ _).grown hg (Nat.le_refl _) (fun k hk => by cases hk)⟩
  case round =>
    obtain ⟨j, ys, hj, rfl, HYL, HY, hown1, hb⟩ := hrel
    by_cases hlt : j < n
    · obtain ⟨b, off, rfl, hbl, hc⟩ := hX.out.pos (by omega)
      obtain ⟨⟨p, q, r⟩, ex⟩ : ∃ x, xs[j]? = some x := ⟨_, List.getElem?_eq_getElem (by have := hL.out; omega)⟩
      obtain ⟨u1, u2, u3⟩ := hc j _ ex
      have hbz := hb.size
      have c1 : wr.cell? ⟨b, off + j * 3, none⟩ = some (.int .i64 p) := (hb.cell (p := ⟨b, off + j * 3, none⟩) (show b < w.heap.size by omega)).trans u1
      have c2 : wr.cell? ⟨b, off + j * 3 + 1, none⟩ = some (.int .i64 q) := (hb.cell (p := ⟨b, off + j * 3 + 1, none⟩) (show b < w.heap.size by omega)).trans u2
      have c3 : wr.cell? ⟨b, off + j * 3 + 2, none⟩ = some (.int .i64 r) := (hb.cell (p := ⟨b, off + j * 3 + 2, none⟩) (show b < w.heap.size by omega)).trans u3
      have EX := Lib.hid ex
      have hin : (j : Int) < (n : Int) := by omega
      have hj0 : (0 : Int) ≤ j := by omega
      clear hc u1 u2 u3 ex
      go_wp2_with fail
      refine (laws_toIns p q r _).mono ?_
      rintro e w2 ⟨rfl, hb2⟩
      have own2 := own_below hown1 hb2
      have HB2 := Lib.hid (below_step hb hb2 hbz)
      have d1 : w2.cell? ⟨w.heap.size, j * 3, none⟩ = some (ys[j * 3]'(by have := HYL.out; omega)) := by rw [own2.cellAt _ (by omega)]; exact List.getElem?_eq_getElem _
      have d2 : w2.cell? ⟨w.heap.size, j * 3 + 1, none⟩ = some (ys[j * 3 + 1]'(by have := HYL.out; omega)) := by rw [own2.cellAt _ (by omega)]; exact List.getElem?_eq_getElem _
      have d3 : w2.cell? ⟨w.heap.size, j * 3 + 2, none⟩ = some (ys[j * 3 + 2]'(by have := HYL.out; omega)) := by rw [own2.cellAt _ (by omega)]; exact List.getElem?_eq_getElem _
      have f1 : w2.frozen? ⟨w.heap.size, j * 3, none⟩ = false := own2.frozenAt _
      have f2 : w2.frozen? ⟨w.heap.size, j * 3 + 1, none⟩ = false := own2.frozenAt _
      have f3 : w2.frozen? ⟨w.heap.size, j * 3 + 2, none⟩ = false := own2.frozenAt _
      have s1 := own2.stored (j * 3) (.int .i64 p)
      have s2 := s1.1.stored (j * 3 + 1) (.int .i64 q)
      have s3 := s2.1.stored (j * 3 + 2) (.int .i64 r)
      have hz2 := HB2.out.size
      have hb3 : Below w.heap.size w _ := ((HB2.out.grown s1.2 (by omega) (fun q hq => by simp [Value.ownBlock] at hq; omega)).grown s2.2 (by simp [World.setCell]; omega) (fun q hq => by simp [Value.ownBlock] at hq; omega)).grown s3.2 (by simp [World.setCell]; omega) (fun q hq => by simp [Value.ownBlock] at hq; omega)
      have S3 := Lib.hid (And.intro s3.1 hb3)
      clear s1 s2 s3 hb3 c1 c2 c3 hb2 hb hown1 own2
      go_wp2
      go_roundw
      case rel =>
        refine ⟨j + 1, ((ys.set (j * 3) (.int .i64 p)).set (j * 3 + 1) (.int .i64 q)).set (j * 3 + 2) (.int .i64 r), by omega, by go_num, Lib.hid (by simp [HYL.out]), Lib.hid (fun t ht => ?_), S3.out.1, S3.out.2⟩
        have hy := HYL.out
        obtain ⟨g1, g2, g3⟩ := I3_get xs j _ EX.out
        rw [List.getElem?_set, List.getElem?_set, List.getElem?_set]
        simp only [List.length_set]
        by_cases e3 : j * 3 + 2 = t
        · subst e3; rw [if_pos rfl, if_pos (by omega)]; exact g3.symm
        · rw [if_neg e3]
          by_cases e2 : j * 3 + 1 = t
          · subst e2; rw [if_pos rfl, if_pos (by omega)]; exact g2.symm
          · rw [if_neg e2]
            by_cases e1 : j * 3 = t
            · subst e1; rw [if_pos rfl, if_pos (by omega)]; exact g1.symm
            · rw [if_neg e1]; exact HY.out t (by omega)
      case measure => simp [intOf]; omega
    · have hjn : j = n := by omega
      subst hjn
      have hfin : ys = I3 xs := by
        apply List.ext_getElem?
        intro i
        rcases Nat.lt_or_ge i (j * 3) with hi | hi
        · exact HY.out i hi
        · rw [List.getElem?_eq_none (by have := HYL.out; omega), List.getElem?_eq_none (by rw [I3_len]; have := hL.out; omega)]
      have HF := Lib.hid hfin
      clear hfin
      go_wp2
      go_ret
      have h1 := hL.out
      subst h1
      exact ⟨_, _, rfl, by rw [← HF.out]; exact hown1, hb⟩
end Go.Proofs.Ytnjcephddilalaa
