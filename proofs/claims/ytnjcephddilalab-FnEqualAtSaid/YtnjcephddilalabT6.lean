/-
  The program's reader of expressions: its two methods read what the plain readers read.
  Conditions: as stated at each.
-/
import Derived.Test.YtnjcephddilalabT4
import Derived.Lib.Bytealg
import Derived.Lib.Strings
import Derived.Deep.Onto
namespace Go.Proofs.Ytnjcephddilalab
set_option linter.unusedVariables false
set_option linter.unusedSimpArgs false
open Go.RowKit
set_option maxHeartbeats 1000000 in
set_option maxRecDepth 100000 in
theorem lite_IndexByte (s : ByteArray) (c : Int) (w : World) :
    Calls Try.prog 109 #[.string s, .int .u8 c] w fun e w' => e = .returned (.int .i64 (Lib.indexByte s.data.toList c.toNat.toUInt8)) ∧ w = w' := by
  go_enter Try.func109, Try.ntmps109
  go_wp2
  rw [run_callFunc_extern Try.func113 (by kernel_rfl) (by kernel_rfl) (by kernel_rfl) (e := Extern.BytealgIndexByte.indexByte) (by kernel_rfl), Lib.run_indexByteString]
  simp only [Result.andThen]
  rw [Oper.upon_value]
  go_wp2
  go_ret
  exact ⟨rfl, rfl⟩
set_option maxHeartbeats 1000000 in
theorem strings_IndexByte (s : ByteArray) (c : Int) (w : World) :
    Calls Try.prog 90 #[.string s, .int .u8 c] w fun e w' => e = .returned (.int .i64 (Lib.indexByte s.data.toList c.toNat.toUInt8)) ∧ w = w' := by
  go_enter Try.func90, Try.ntmps90
  go_wp2_with (go_at_call 109; refine (lite_IndexByte _ _ _).mono ?_; rintro e w' ⟨rfl, rfl⟩)
  go_ret
  exact ⟨rfl, rfl⟩
def digAll : Bool := (List.range 256).all fun n => Lib.indexByte [48, 49, 50, 51, 52, 53, 54, 55, 56, 57, 120, 121] (UInt8.ofNat n) == (Pl.dig (UInt8.ofNat n)).getD (-1)
def unAll : Bool := (List.range 256).all fun n => Lib.indexByte [126, 60, 62] (UInt8.ofNat n) == (Pl.unI (UInt8.ofNat n)).getD (-1)
def sgnAll : Bool := (List.range 256).all fun n => Lib.indexByte [43, 45, 38, 124, 94] (UInt8.ofNat n) == (Pl.sgn (UInt8.ofNat n)).getD (-1)
theorem digAll_t : digAll = true := by kernel_rfl
theorem unAll_t : unAll = true := by kernel_rfl
theorem sgnAll_t : sgnAll = true := by kernel_rfl
theorem dig_idx (c : UInt8) : Lib.indexByte [48, 49, 50, 51, 52, 53, 54, 55, 56, 57, 120, 121] c = (Pl.dig c).getD (-1) := by
  have := List.all_eq_true.1 digAll_t c.toNat (List.mem_range.2 c.toNat_lt)
  simpa using this
theorem un_idx (c : UInt8) : Lib.indexByte [126, 60, 62] c = (Pl.unI c).getD (-1) := by
  have := List.all_eq_true.1 unAll_t c.toNat (List.mem_range.2 c.toNat_lt)
  simpa using this
theorem sgn_idx (c : UInt8) : Lib.indexByte [43, 45, 38, 124, 94] c = (Pl.sgn c).getD (-1) := by
  have := List.all_eq_true.1 sgnAll_t c.toNat (List.mem_range.2 c.toNat_lt)
  simpa using this
theorem toNat_toUInt8 (c : UInt8) : ((c.toNat : Int)).toNat.toUInt8 = c := by
  rw [Int.toNat_natCast]
  exact UInt8.ofNat_toNat
theorem idx_dig (c : UInt8) (w : World) : Calls Try.prog 90 #[.string ⟨#[48, 49, 50, 51, 52, 53, 54, 55, 56, 57, 120, 121]⟩, .int .u8 (c.toNat : Int)] w fun e w' => e = .returned (.int .i64 ((Pl.dig c).getD (-1))) ∧ w = w' :=
  (strings_IndexByte _ _ w).mono fun e w' h => by rw [toNat_toUInt8] at h; rw [← dig_idx]; exact h
theorem idx_un (c : UInt8) (w : World) : Calls Try.prog 90 #[.string ⟨#[126, 60, 62]⟩, .int .u8 (c.toNat : Int)] w fun e w' => e = .returned (.int .i64 ((Pl.unI c).getD (-1))) ∧ w = w' :=
  (strings_IndexByte _ _ w).mono fun e w' h => by rw [toNat_toUInt8] at h; rw [← un_idx]; exact h
theorem idx_sgn (c : UInt8) (w : World) : Calls Try.prog 90 #[.string ⟨#[43, 45, 38, 124, 94]⟩, .int .u8 (c.toNat : Int)] w fun e w' => e = .returned (.int .i64 ((Pl.sgn c).getD (-1))) ∧ w = w' :=
  (strings_IndexByte _ _ w).mono fun e w' h => by rw [toNat_toUInt8] at h; rw [← sgn_idx]; exact h
theorem dig_bd {c : UInt8} {n : Int} (h : Pl.dig c = some n) : 0 ≤ n ∧ n ≤ 11 := by
  unfold Pl.dig at h
  repeat' split at h
  all_goals (first | (injection h with h; omega) | cases h)
theorem un_bd {c : UInt8} {n : Int} (h : Pl.unI c = some n) : 0 ≤ n ∧ n ≤ 2 := by
  unfold Pl.unI at h
  repeat' split at h
  all_goals (first | (injection h with h; omega) | cases h)
theorem sgn_bd {c : UInt8} {n : Int} (h : Pl.sgn c = some n) : 0 ≤ n ∧ n ≤ 4 := by
  unfold Pl.sgn at h
  repeat' split at h
  all_goals (first | (injection h with h; omega) | cases h)
theorem grown_drewN (w : World) (q : Nat) (row : Option Nat) : w.grownBy (w.drewN q) row := ⟨rfl, rfl, rfl, Nat.le_refl _, fun _ _ _ => rfl⟩
theorem grown_set (w : World) (g i : Nat) (u : Value) : w.grownBy (w.setCell ⟨g, i, none⟩ u) (some g) :=
  ⟨rfl, rfl, rfl, by simp, fun k _ hne => Below.heap_setCell w ⟨g, i, none⟩ u k (fun e => hne (by rw [e]))⟩
theorem below_grown {w w' : World} {row : Option Nat} (h : Below w.heap.size w w') : w.grownBy w' row := ⟨h.os, h.tape, h.output, h.size, fun k hk _ => h.block k hk⟩
/-- What a method of the reader leaves: what was read and where it stands, or that nothing was read. -/
def OutO (s : List UInt8) (g at_ : Nat) (R : Pl.Rs) (w : World) (e : Ending) (w' : World) : Prop :=
  ∃ (ys : List Int) (A : Option Addr) (c p : Nat), e = .returned (.tuple #[.slice A ys.length c, .bool R.isSome]) ∧ w'.ownsRow w.heap.size 3 1 (.slice A ys.length c) ys.length (I64 ys) ∧
    Blk w' g 73 #[.string (Ba s), .int .i64 (p : Int)] ∧ w.grownBy w' (some g) ∧ at_ ≤ p ∧ p ≤ s.length ∧ ys.length + at_ ≤ p ∧ (∀ st, R = some st → st = (ys, p))
/-- The reader has gone one letter on. -/
theorem reader_step {s : List UInt8} {at_ g : Nat} {w : World} {q : Nat} (h : Blk w g 73 #[.string (Ba s), .int .i64 (at_ : Int)]) :
    Blk ((w.drewN q).setCell ⟨g, 1, none⟩ (.int .i64 ((at_ : Int) + 1))) g 73 #[.string (Ba s), .int .i64 ((at_ + 1 : Nat) : Int)] ∧ w.grownBy ((w.drewN q).setCell ⟨g, 1, none⟩ (.int .i64 ((at_ : Int) + 1))) (some g) ∧
    ((w.drewN q).setCell ⟨g, 1, none⟩ (.int .i64 ((at_ : Int) + 1))).heap.size = w.heap.size :=
  ⟨(h.drewN q).set_ 1 _, (grown_drewN w q _).trans (grown_set _ g 1 _), by simp⟩
theorem own_lit1 (w : World) (n : Int) {B b0 : Nat} (hB : B ≤ w.heap.size) (hb0 : w.heap.size = b0) : (w.alloc (.cells #[.int .i64 n] 3)).ownsRow B 3 1 (.slice (some ⟨b0, 0, none⟩) 1 1) 1 (I64 [n]) := by
  subst hb0
  exact World.ownsRow_lit (base := B) (e := 3) (size := 1) w (I64 [n]).toArray 1 hB (by simp [maxLen]) (by simp [I64_len])
section
variable {s : List UInt8} {at_ g q : Nat} {w : World}
theorem out_lit {n : Int} (h : Blk w g 73 #[.string (Ba s), .int .i64 (at_ : Int)]) (hat : at_ < s.length) :
    OutO s g at_ (some ([n], at_ + 1)) w (.returned (.tuple #[.slice (some ⟨w.heap.size, 0, none⟩) 1 1, .bool true])) (((w.drewN q).setCell ⟨g, 1, none⟩ (.int .i64 ((at_ : Int) + 1))).alloc (.cells #[.int .i64 n] 3)) := by
  obtain ⟨b2, g2, z2⟩ := reader_step (q := q) h
  exact ⟨[n], _, 1, at_ + 1, rfl, own_lit1 _ n (by rw [z2]; exact Nat.le_refl _) z2, b2.alloc _, g2.trans (World.grownBy_alloc _ _ _), by omega, by omega, by simp; omega, fun st h => by injection h with h; exact h.symm⟩
theorem out_none (h : Blk w g 73 #[.string (Ba s), .int .i64 (at_ : Int)]) (hat : at_ < s.length) :
    OutO s g at_ none w (.returned (.tuple #[.slice none 0 0, .bool false])) ((w.drewN q).setCell ⟨g, 1, none⟩ (.int .i64 ((at_ : Int) + 1))) := by
  obtain ⟨b2, g2, z2⟩ := reader_step (q := q) h
  exact ⟨[], none, 0, at_ + 1, rfl, World.ownsRow_nil _ _ _ _, b2, g2, by omega, by omega, by simp, fun st h => by cases h⟩
/-- A number behind what was read. -/
theorem out_un {w3 w4 : World} {ys : List Int} {A : Option Addr} {c p : Nat} {v : Value} {n : Int} {R : Pl.Rs} (hG : w.grownBy w3 (some g)) (hbl : Blk w3 g 73 #[.string (Ba s), .int .i64 (p : Int)]) (hgl : g < w.heap.size)
    (own3 : w3.ownsRow w.heap.size 3 1 (.slice A ys.length c) ys.length (I64 ys)) (p1 : at_ + 1 ≤ p) (p2 : p ≤ s.length) (p3 : ys.length + (at_ + 1) ≤ p) (hst : ∀ st, R = some st → st = (ys, p))
    (own4 : w4.ownsRow w.heap.size 3 1 v (ys.length + 1) (I64 (ys ++ [n]))) (hg4 : (w3.alloc (.cells #[.int .i64 n] 3)).grownBy w4 (Value.slice A ys.length c).ownBlock) :
    OutO s g at_ (R.map fun st => (st.1 ++ [n], st.2)) w (.returned (.tuple #[v, .bool R.isSome])) w4 := by
  obtain ⟨A4, c4, rfl, _⟩ := Rd.of_own own4
  have hne : some g ≠ (Value.slice A ys.length c).ownBlock := fun e => by have := (own3.lt g e.symm).1; omega
  refine ⟨ys ++ [n], A4, c4, p, ?_, ?_, (hbl.alloc _).grown hg4 hne, ?_, by omega, p2, by simp; omega, ?_⟩
  · cases R <;> simp
  · simpa using own4
  · refine ⟨hg4.os.trans hG.os, hg4.tape.trans hG.tape, hg4.output.trans hG.output, ?_, fun k hk hk2 => ?_⟩
    · have h1 := hG.size
      have h2 := hg4.size
      simp at h2
      omega
    · have h1 := hG.size
      refine (hg4.block k (by simp; omega) (fun e => ?_)).trans ((Below.heap_alloc w3 _ k (by omega)).trans (hG.block k hk hk2))
      have := (own3.lt k e.symm).1
      omega
  · intro st h
    cases R with
    | none => cases h
    | some st' =>
      have := hst st' rfl
      subst this
      simpa using h.symm
theorem out_lost {w3 : World} {p : Nat} (hG : w.grownBy w3 (some g)) (hbl : Blk w3 g 73 #[.string (Ba s), .int .i64 (p : Int)]) (p1 : at_ + 1 ≤ p) (p2 : p ≤ s.length) :
    OutO s g at_ none w (.returned (.tuple #[.slice none 0 0, .bool false])) (w3.drewN q) :=
  ⟨[], none, 0, p, rfl, World.ownsRow_nil _ _ _ _, hbl.drewN _, hG.trans (grown_drewN _ _ _), by omega, p2, by simp; omega, fun st h => by cases h⟩
/-- A bracket was closed. -/
theorem out_close {w3 : World} {ys : List Int} {A : Option Addr} {c p : Nat} (hG : w.grownBy w3 (some g)) (hbl : Blk w3 g 73 #[.string (Ba s), .int .i64 (p : Int)]) (hgl : g < w.heap.size)
    (own3 : w3.ownsRow w.heap.size 3 1 (.slice A ys.length c) ys.length (I64 ys)) (p1 : at_ + 1 ≤ p) (p2 : p < s.length) (p3 : ys.length + (at_ + 1) ≤ p) :
    OutO s g at_ (some (ys, p + 1)) w (.returned (.tuple #[.slice A ys.length c, .bool true])) ((w3.drewN q).setCell ⟨g, 1, none⟩ (.int .i64 ((p : Int) + 1))) := by
  obtain ⟨b2, g2, z2⟩ := reader_step (q := q) hbl
  refine ⟨ys, A, c, p + 1, rfl, own3.kept g2 ?_, b2, hG.trans g2, by omega, by omega, by omega, fun st h => by injection h with h; exact h.symm⟩
  cases hv : (Value.slice A ys.length c).ownBlock with
  | none => exact .inl rfl
  | some k => exact .inr (fun e => by injection e with e; have := (own3.lt k hv).1; omega)
end
theorem op_bad {chk : Bool} {s : List UInt8} {f a : Nat} {c : UInt8} (h : s[a]? = some c) (hd : Pl.dig c = none) (hu : Pl.unI c = none) (hc : c ≠ 40) : Pl.opP chk s (f + 1) a = none := by
  rw [Pl.opP, h]
  simp only [hd, hu]
  rw [if_neg hc]
def POp (s : List UInt8) (f : Nat) : Prop := ∀ (at_ g : Nat) (w : World), at_ ≤ s.length → s.length < at_ + f → Blk w g 73 #[.string (Ba s), .int .i64 (at_ : Int)] →
  Calls Try.prog 89 #[.pointer (some ⟨g, 0, none⟩)] w (OutO s g at_ (Pl.opP false s f at_) w)
def PRow (s : List UInt8) (f : Nat) : Prop := ∀ (at_ g : Nat) (w : World), at_ ≤ s.length → s.length < at_ + f → Blk w g 73 #[.string (Ba s), .int .i64 (at_ : Int)] →
  Calls Try.prog 59 #[.pointer (some ⟨g, 0, none⟩)] w (OutO s g at_ (Pl.rowP false (Pl.opP false s f) s at_) w)
theorem ba_at {s : List UInt8} {a : Nat} {c : UInt8} (h : s[a]? = some c) (hh : a < (Ba s).size) : (Ba s)[a]'hh = c := by
  obtain ⟨h1, h2⟩ := List.getElem?_eq_some_iff.1 h
  rw [← h2]
  rfl
set_option maxRecDepth 100000 in
set_option maxHeartbeats 4000000 in
theorem impl_operand (s : List UInt8) (hs : s.length ≤ 1000) (f : Nat) (ihO : POp s f) (ihR : PRow s f) : POp s (f + 1) := by
  intro at_ g w hat hf hblk
  have c0 : w.cell? ⟨g, 0, none⟩ = some (.string (Ba s)) := (hblk.cell 0).trans rfl
  have c1 : w.cell? ⟨g, 1, none⟩ = some (.int .i64 (at_ : Int)) := (hblk.cell 1).trans rfl
  have f1 : w.frozen? ⟨g, 1, none⟩ = false := hblk.frozen 1
  have hsz := Ba_size s
  have hgl := hblk.lt
  have IHO := Lib.hid ihO
  have IHR := Lib.hid ihR
  have HB := Lib.hid hblk
  clear ihO ihR hblk
  by_cases hend : at_ = s.length
  · have hR : Pl.opP false s (f + 1) at_ = none := by rw [Pl.opP, List.getElem?_eq_none (by omega)]
    rw [hR]
    clear hR
    have k1 : ((s.length : Nat) : Int) ≤ (at_ : Int) := by omega
    have k2 : ¬ (at_ : Int) < ((s.length : Nat) : Int) := by omega
    go_enter Try.func89, Try.ntmps89
    go_wp2_with fail
    go_quiet (fail)
    go_wp2_with fail
    go_ret2
    exact ⟨[], none, 0, at_, rfl, World.ownsRow_nil _ _ _ _, HB.out.drewN _, grown_drewN _ _ _, by omega, by omega, by simp, fun st h => by cases h⟩
  · obtain ⟨c, hc⟩ : ∃ c, s[at_]? = some c := ⟨_, List.getElem?_eq_getElem (by omega)⟩
    have hch := fun h => ba_at hc h
    have k1 : (at_ : Int) < ((s.length : Nat) : Int) := by omega
    have k2 : ¬ ((s.length : Nat) : Int) ≤ (at_ : Int) := by omega
    have k3 : (0 : Int) ≤ (at_ : Int) := by omega
    have k4 : (at_ : Int) < 1000 := by omega
    go_enter Try.func89, Try.ntmps89
    go_wp2_with fail
    go_quiet (fail)
    go_wp2_with fail
    go_quiet (fail)
    go_wp2_with fail
    have HF := Lib.hid (fun q => reader_step (w := w) (q := q) HB.out)
    have hlt : at_ < s.length := by omega
    cases hd : Pl.dig c with
    | some n =>
      have hR : Pl.opP false s (f + 1) at_ = some ([n], at_ + 1) := Pl.op_leaf hc hd
      have HR := Lib.hid hR
      have hn := dig_bd hd
      have n0 : 0 ≤ n := hn.1
      clear hR
      refine (idx_dig c _).mono ?_
      rw [hd]
      rintro e w' ⟨rfl, rfl⟩
      go_wp2_with fail
      go_ret2
      rw [HR.out]
      exact out_lit HB.out hlt
    | none =>
      refine (idx_dig c _).mono ?_
      rw [hd]
      rintro e w' ⟨rfl, rfl⟩
      go_wp2_with fail
      refine (idx_un c _).mono ?_
      cases hu : Pl.unI c with
      | some n =>
        have hn := un_bd hu
        have n0 : 0 ≤ n := hn.1
        have n1 : n ≤ 2 := hn.2
        have hR : Pl.opP false s (f + 1) at_ = _ := Pl.op_un hc hd hu
        have HR := Lib.hid hR
        clear hR
        rintro e w' ⟨rfl, rfl⟩
        go_wp2_with fail
        refine (IHO.out (at_ + 1) g _ (by omega) (by omega) (HF.out _).1).mono ?_
        generalize Pl.opP false s f (at_ + 1) = R at HR
        rintro e w3 ⟨ys, A, cc, p, rfl, own3, blk3, g3, p1, p2, p3, hst⟩
        have z3 := g3.size
        have hz3 : w.heap.size ≤ w3.heap.size := by simpa using z3
        have own3' := own3.mono (base' := w.heap.size) (by simp)
        have G3 := Lib.hid (((HF.out _).2.1).trans g3)
        have BL3 := Lib.hid blk3
        have HST := Lib.hid hst
        clear g3 blk3 hst own3
        go_wp2_with (at_builtin; refine app_int_far rfl (.tmp 53) (.tmp 56) rfl w.heap.size (.slice A ys.length cc) ys.length ys (12 + n) rfl own3' rfl (by omega) (by omega) ?_; intro v' w4 own4 hb4 hg4)
        go_ret2
        rw [HR.out]
        exact out_un G3.out BL3.out hgl own3' p1 p2 p3 HST.out own4 hg4
      | none =>
        rintro e w' ⟨rfl, rfl⟩
        by_cases h40 : c = 40
        · have hR : Pl.opP false s (f + 1) at_ = _ := Pl.op_open (by rw [hc, h40])
          have HR := Lib.hid hR
          have hne : ((c.toNat : Int) != 40) = false := by rw [h40]; decide
          clear hR h40 hd hu
          go_wp2_with fail
          refine (IHR.out (at_ + 1) g _ (by omega) (by omega) (HF.out _).1).mono ?_
          generalize Pl.rowP false (Pl.opP false s f) s (at_ + 1) = R at HR
          rintro e w3 ⟨ys, A, cc, p, rfl, own3, blk3, g3, p1, p2, p3, hst⟩
          have z3 := g3.size
          have hz3 : w.heap.size ≤ w3.heap.size := by simpa using z3
          have own3' := own3.mono (base' := w.heap.size) (by simp)
          have G3 := Lib.hid (((HF.out _).2.1).trans g3)
          have BL3 := Lib.hid blk3
          have d0 : w3.cell? ⟨g, 0, none⟩ = some (.string (Ba s)) := (blk3.cell 0).trans rfl
          have d1 : w3.cell? ⟨g, 1, none⟩ = some (.int .i64 (p : Int)) := (blk3.cell 1).trans rfl
          have d2 : w3.frozen? ⟨g, 1, none⟩ = false := blk3.frozen 1
          clear g3 blk3 own3 c0 c1 f1 hch
          cases R with
          | none =>
            clear hst
            go_wp2_with fail
            go_quiet (fail)
            go_wp2_with fail
            go_ret2
            rw [HR.out]
            exact out_lost G3.out BL3.out p1 p2
          | some st =>
            obtain rfl := hst st rfl
            clear hst
            by_cases hpe : p = s.length
            · have hcl : (Option.some (ys, p) : Pl.Rs).bind (Pl.closeP s) = none := by
                show Pl.closeP s (ys, p) = none
                unfold Pl.closeP
                rw [if_neg (by rw [List.getElem?_eq_none (by simp only []; omega)]; simp)]
              rw [hcl] at HR
              have k5 : ((s.length : Nat) : Int) ≤ (p : Int) := by omega
              have k6 : decide (((s.length : Nat) : Int) ≤ (p : Int)) = true := by simpa using k5
              have k7 : decide (s.length ≤ p) = true := by simp; omega
              clear hcl
              go_wp2_with fail
              go_quiet (fail)
              go_wp2_with fail
              go_ret2
              rw [HR.out]
              exact out_lost G3.out BL3.out p1 p2
            · obtain ⟨c2, hc2⟩ : ∃ c, s[p]? = some c := ⟨_, List.getElem?_eq_getElem (by omega)⟩
              have hch2 := fun h => ba_at hc2 h
              have k5 : (p : Int) < ((s.length : Nat) : Int) := by omega
              have k6 : (0 : Int) ≤ (p : Int) := by omega
              have k7 : decide (s.length ≤ p) = false := by simp; omega
              have k8 : (p : Int) < 1000 := by omega
              have hpl : p < s.length := by omega
              by_cases h41 : c2 = 41
              · have hcl : (Option.some (ys, p) : Pl.Rs).bind (Pl.closeP s) = some (ys, p + 1) := by
                  show Pl.closeP s (ys, p) = _
                  unfold Pl.closeP
                  rw [if_pos (by simp only []; rw [hc2, h41])]
                rw [hcl] at HR
                have hne2 : ((c2.toNat : Int) != 41) = false := by rw [h41]; decide
                clear hcl h41
                go_wp2_with fail
                go_quiet (fail)
                go_wp2_with fail
                go_ret2
                rw [HR.out]
                exact out_close G3.out BL3.out hgl own3' p1 hpl p3
              · have hcl : (Option.some (ys, p) : Pl.Rs).bind (Pl.closeP s) = none := by
                  show Pl.closeP s (ys, p) = none
                  unfold Pl.closeP
                  rw [if_neg (by simp only []; rw [hc2]; intro h; injection h with h; exact h41 h)]
                rw [hcl] at HR
                have hne2 : ((c2.toNat : Int) != 41) = true := by
                  rw [bne_iff_ne]
                  intro h
                  exact h41 (by apply UInt8.toNat_inj.1; show c2.toNat = 41; omega)
                clear hcl h41
                go_wp2_with fail
                go_quiet (fail)
                go_wp2_with fail
                go_ret2
                rw [HR.out]
                exact out_lost G3.out BL3.out p1 p2
        · have hR : Pl.opP false s (f + 1) at_ = none := op_bad hc hd hu h40
          have HR := Lib.hid hR
          have hne : ((c.toNat : Int) != 40) = true := by
            rw [bne_iff_ne]
            intro h
            exact h40 (by apply UInt8.toNat_inj.1; show c.toNat = 40; omega)
          clear hR h40 hd hu
          go_wp2_with fail
          go_ret2
          rw [HR.out]
          exact out_none HB.out hlt
end Go.Proofs.Ytnjcephddilalab
