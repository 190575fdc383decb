/-
  Contracts of the reference's reading of expressions.
  Conditions: as stated at each.
-/
import Derived.Test.YtamhpgledbmnoaaGreatDoorKT
namespace Go.Proofs.YtamhpgledbmnoaaGreatDoor
set_option linter.unusedVariables false
set_option linter.unusedSimpArgs false
open Go.RowKit
/-- What a part of the reference's reader leaves. -/
def OutS (s : List UInt8) (at_ : Nat) (R : Pl.Rs) (w : World) (e : Ending) (w' : World) : Prop :=
  ∃ (ys : List Int) (A : Option Addr) (c p : Nat), e = .returned (.tuple #[.slice A ys.length c, .int .i64 (p : Int), .bool R.isSome]) ∧ w'.ownsRow w.heap.size 3 1 (.slice A ys.length c) ys.length (I64 ys) ∧
    Below w.heap.size w w' ∧ at_ ≤ p ∧ p ≤ s.length ∧ ys.length + at_ ≤ p ∧ (∀ st, R = some st → st = (ys, p))
theorem outS_none {s : List UInt8} {at_ : Nat} {w w1 : World} (hB : Below w.heap.size w w1) (h : at_ ≤ s.length) (b0 : Nat) (hb0 : w1.heap.size = b0) :
    OutS s at_ none w (.returned (.tuple #[.slice (some ⟨b0, 0, none⟩) 0 0, .int .i64 (at_ : Int), .bool false])) (w1.alloc (.cells #[] 3)) := by
  subst hb0
  exact ⟨[], some ⟨w1.heap.size, 0, none⟩, 0, at_, rfl, World.ownsRow_made w1 #[] 0 hB.size (by simp [maxLen]) rfl, hB.alloc hB.size _, Nat.le_refl _, h, by simp, fun st h => by cases h⟩
theorem outS_lit {s : List UInt8} {at_ : Nat} {w : World} {n : Int} (h : at_ < s.length) :
    OutS s at_ (some ([n], at_ + 1)) w (.returned (.tuple #[.slice (some ⟨w.heap.size, 0, none⟩) 1 1, .int .i64 ((at_ : Int) + 1), .bool true])) (w.alloc (.cells #[.int .i64 n] 3)) :=
  ⟨[n], _, 1, at_ + 1, rfl, own_lit1 w n (Nat.le_refl _) rfl, (Below.refl _ _).alloc (Nat.le_refl _) _, by omega, by omega, by simp; omega, fun st h => by injection h with h; exact h.symm⟩
theorem outS_un {s : List UInt8} {at_ p : Nat} {w w3 w6 : World} {ys : List Int} {n : Int} {v : Value} {R : Pl.Rs} (hB : Below w.heap.size w w3) (own6 : w6.ownsRow w3.heap.size 3 1 v (0 + ys.length + 1) (I64 ([] ++ ys ++ [n]))) (hb : Below w3.heap.size w3 w6)
    (p1 : at_ + 1 ≤ p) (p2 : p ≤ s.length) (p3 : ys.length + (at_ + 1) ≤ p) (hst : ∀ st, R = some st → st = (ys, p)) :
    OutS s at_ (R.map fun st => (st.1 ++ [n], st.2)) w (.returned (.tuple #[v, .int .i64 (p : Int), .bool R.isSome])) w6 := by
  obtain ⟨A4, c4, rfl, _⟩ := Rd.of_own own6
  refine ⟨ys ++ [n], A4, c4, p, ?_, ?_, below_step hB hb hB.size, by omega, p2, by simp; omega, ?_⟩
  · cases R <;> simp
  · have := own6.mono (base' := w.heap.size) hB.size
    simpa using this
  · intro st h
    cases R with
    | none => cases h
    | some st' =>
      have := hst st' rfl
      subst this
      simpa using h.symm
def PSm (s : List UInt8) (f : Nat) : Prop := ∀ (at_ : Nat) (d : Int) (w : World), at_ ≤ s.length → d = 61 - (f : Int) → Calls Tryz.prog 70 #[.string (Ba s), .int .i64 (at_ : Int), .int .i64 d] w (OutS s at_ (Pl.opP true s f at_) w)
def PSr (s : List UInt8) (f : Nat) : Prop := ∀ (at_ : Nat) (d : Int) (w : World), at_ ≤ s.length → d = 61 - (f : Int) → Calls Tryz.prog 47 #[.string (Ba s), .int .i64 (at_ : Int), .int .i64 d] w (OutS s at_ (Pl.rowP true (Pl.opP true s f) s at_) w)
set_option maxRecDepth 100000 in
set_option maxHeartbeats 1000000 in
theorem spec_small_0 (s : List UInt8) : PSm s 0 := by
  intro at_ d w hat hd
  have hsz := Ba_size s
  have k0 : (60 : Int) < d := by omega
  have HR := Lib.hid (show Pl.opP true s 0 at_ = none from rfl)
  clear hd
  by_cases hend : at_ = s.length
  · have k1 : ((s.length : Nat) : Int) ≤ (at_ : Int) := by omega
    have k2 : decide (s.length ≤ at_) = true := by simp; omega
    go_enter Tryz.func70, Tryz.ntmps70
    go_wp2_with fail
    go_ret3
    rw [HR.out]
    exact outS_none (Below.refl _ _) hat _ rfl
  · have k1 : ¬ ((s.length : Nat) : Int) ≤ (at_ : Int) := by omega
    have k2 : decide (s.length ≤ at_) = false := by simp; omega
    go_enter Tryz.func70, Tryz.ntmps70
    go_wp2_with fail
    go_ret3
    rw [HR.out]
    exact outS_none (Below.refl _ _) hat _ rfl
set_option maxRecDepth 100000 in
set_option maxHeartbeats 4000000 in
theorem spec_small (s : List UInt8) (hs : s.length ≤ 2000000) (f : Nat) (hf : f ≤ 60) (ihS : PSm s f) (ihR : PSr s f) : PSm s (f + 1) := by
  intro at_ d w hat hd
  have hsz := Ba_size s
  have d0 : d ≤ 60 := by omega
  have d1 : 0 ≤ d := by omega
  have d2 : d + 1 = 61 - (f : Int) := by omega
  have IHS := Lib.hid (fun at_ w h => ihS at_ (d + 1) w h d2)
  have IHR := Lib.hid (fun at_ w h => ihR at_ (d + 1) w h d2)
  clear ihS ihR hd d2 hf
  by_cases hend : at_ = s.length
  · have HR := Lib.hid (show Pl.opP true s (f + 1) at_ = none by rw [Pl.opP, List.getElem?_eq_none (by omega)])
    have k1 : ((s.length : Nat) : Int) ≤ (at_ : Int) := by omega
    have k2 : decide (s.length ≤ at_) = true := by simp; omega
    go_enter Tryz.func70, Tryz.ntmps70
    go_wp2_with fail
    go_ret3
    rw [HR.out]
    exact outS_none (Below.refl _ _) hat _ rfl
  · obtain ⟨c, hc⟩ : ∃ c, s[at_]? = some c := ⟨_, List.getElem?_eq_getElem (by omega)⟩
    have hch := fun h => ba_at hc h
    have hlt : at_ < s.length := by omega
    have k1 : (at_ : Int) < ((s.length : Nat) : Int) := by omega
    have k2 : ¬ ((s.length : Nat) : Int) ≤ (at_ : Int) := by omega
    have k3 : (0 : Int) ≤ (at_ : Int) := by omega
    have hw : wrap64 ((at_ : Int) + 1) = (at_ : Int) + 1 := IntWalk.wrap64_in _ ⟨by omega, by omega⟩
    have k5 : decide (s.length ≤ at_) = false := by simp; omega
    have HSL := Lib.hid hs
    clear hs
    by_cases h9 : 48 ≤ c.toNat ∧ c.toNat ≤ 57
    · have hd : Pl.dig c = some ((c.toNat : Int) - 48) := by unfold Pl.dig; rw [if_pos h9]
      have HR := Lib.hid (show Pl.opP true s (f + 1) at_ = _ from Pl.op_leaf hc hd)
      obtain ⟨v, hv⟩ : ∃ v, v = c.toNat := ⟨_, rfl⟩
      have hcv : ∀ h, ((Ba s)[at_]'h).toNat = v := fun h => by rw [hch h, hv]
      have v0 : (48 : Int) ≤ (v : Int) := by omega
      have v1 : (v : Int) ≤ 57 := by omega
      rw [← hv] at HR
      clear hd h9 hc hch hv
      go_enter Tryz.func70, Tryz.ntmps70
      go_wp2_with fail
      go_ret3
      rw [HR.out]
      exact outS_lit hlt
    · by_cases h : c = 120
      · subst h
        have HR := Lib.hid (show Pl.opP true s (f + 1) at_ = _ from Pl.op_leaf (n := 10) hc rfl)
        clear hc h9
        go_enter Tryz.func70, Tryz.ntmps70
        go_wp2_with fail
        go_ret3
        rw [HR.out]
        exact outS_lit hlt
      by_cases h' : c = 121
      · subst h'
        have HR := Lib.hid (show Pl.opP true s (f + 1) at_ = _ from Pl.op_leaf (n := 11) hc rfl)
        clear hc h9 h
        go_enter Tryz.func70, Tryz.ntmps70
        go_wp2_with fail
        go_ret3
        rw [HR.out]
        exact outS_lit hlt
      have hd : Pl.dig c = none := by unfold Pl.dig; rw [if_neg h9, if_neg h, if_neg h']
      have IH1 := Lib.hid (fun w => IHS.out (at_ + 1) w (by omega))
      have IH2 := Lib.hid (fun w => IHR.out (at_ + 1) w (by omega))
      clear IHS IHR
      by_cases hu : c = 126 ∨ c = 60 ∨ c = 62
      · clear h9 h h' hd
        rcases hu with h | h | h
        · subst h
          have HR := Lib.hid (show Pl.opP true s (f + 1) at_ = _ from Pl.op_un (n := 0) hc rfl rfl)
          generalize Pl.opP true s f (at_ + 1) = R at *
          clear hc
          go_enter Tryz.func70, Tryz.ntmps70
          go_wp2_with fail
          refine wp_loop_rounds 4 ?_
          rw [rounds_succ]
          go_wp2_with fail
          refine (IH1.out _).mono ?_
          rintro e w3 ⟨ys, A, cc, p, rfl, own3, hb3, p1, p2, p3, hst⟩
          have z3 := hb3.size
          have hz3 : w.heap.size + 1 ≤ w3.heap.size := by simpa using z3
          have HB3 : Below w.heap.size w w3 := by
            refine Below.trans ?_ (hb3.mono (by first | (simp; done) | (simp; omega)))
            exact ((Below.refl w.heap.size w).alloc (by first | (simp; done) | (simp; omega)) _)
          go_wp2_with (first
            | (at_builtin; refine app_more rfl (.tmp 109) (.tmp 110) rfl w3.heap.size (.slice (some ⟨w3.heap.size, 0, none⟩) 0 0) 0 [] rfl (World.ownsRow_made w3 #[] 0 (Nat.le_refl _) (by simp [maxLen]) rfl) A ys.length cc ys _ rfl (own3.alloc _) (by omega) (by have := HSL.out; omega) (by simp) ?_; intro v5 w5 own5 hb5)
            | (at_builtin; refine app_int_far rfl (.tmp 111) (.tmp 114) rfl w3.heap.size v5 (0 + ys.length) ([] ++ ys) 12 rfl own5 rfl (by have := HSL.out; omega) (by have := hb5.size; simp at this; omega) ?_; intro v6 w6 own6 hb6 hg6))
          go_ret3
          rw [HR.out]
          exact outS_un HB3 own6 (((Below.refl w3.heap.size w3).alloc (Nat.le_refl _) _).trans (hb5.trans hb6)) p1 p2 p3 hst
        · subst h
          have HR := Lib.hid (show Pl.opP true s (f + 1) at_ = _ from Pl.op_un (n := 1) hc rfl rfl)
          generalize Pl.opP true s f (at_ + 1) = R at *
          clear hc
          go_enter Tryz.func70, Tryz.ntmps70
          go_wp2_with fail
          refine wp_loop_rounds 4 ?_
          rw [rounds_succ]
          go_wp2_with fail
          rw [rounds_succ]
          go_wp2_with fail
          refine (IH1.out _).mono ?_
          rintro e w3 ⟨ys, A, cc, p, rfl, own3, hb3, p1, p2, p3, hst⟩
          have z3 := hb3.size
          have hz3 : w.heap.size + 2 ≤ w3.heap.size := by simpa using z3
          have HB3 : Below w.heap.size w w3 := by
            refine Below.trans ?_ (hb3.mono (by first | (simp; done) | (simp; omega)))
            exact (((Below.refl w.heap.size w).alloc (by first | (simp; done) | (simp; omega)) _).alloc (by first | (simp; done) | (simp; omega)) _)
          go_wp2_with (first
            | (at_builtin; refine app_more rfl (.tmp 109) (.tmp 110) rfl w3.heap.size (.slice (some ⟨w3.heap.size, 0, none⟩) 0 0) 0 [] rfl (World.ownsRow_made w3 #[] 0 (Nat.le_refl _) (by simp [maxLen]) rfl) A ys.length cc ys _ rfl (own3.alloc _) (by omega) (by have := HSL.out; omega) (by simp) ?_; intro v5 w5 own5 hb5)
            | (at_builtin; refine app_int_far rfl (.tmp 111) (.tmp 114) rfl w3.heap.size v5 (0 + ys.length) ([] ++ ys) 13 rfl own5 rfl (by have := HSL.out; omega) (by have := hb5.size; simp at this; omega) ?_; intro v6 w6 own6 hb6 hg6))
          go_ret3
          rw [HR.out]
          exact outS_un HB3 own6 (((Below.refl w3.heap.size w3).alloc (Nat.le_refl _) _).trans (hb5.trans hb6)) p1 p2 p3 hst
        · subst h
          have HR := Lib.hid (show Pl.opP true s (f + 1) at_ = _ from Pl.op_un (n := 2) hc rfl rfl)
          generalize Pl.opP true s f (at_ + 1) = R at *
          clear hc
          go_enter Tryz.func70, Tryz.ntmps70
          go_wp2_with fail
          refine wp_loop_rounds 4 ?_
          rw [rounds_succ]
          go_wp2_with fail
          rw [rounds_succ]
          go_wp2_with fail
          rw [rounds_succ]
          go_wp2_with fail
          refine (IH1.out _).mono ?_
          rintro e w3 ⟨ys, A, cc, p, rfl, own3, hb3, p1, p2, p3, hst⟩
          have z3 := hb3.size
          have hz3 : w.heap.size + 3 ≤ w3.heap.size := by simpa using z3
          have HB3 : Below w.heap.size w w3 := by
            refine Below.trans ?_ (hb3.mono (by first | (simp; done) | (simp; omega)))
            exact ((((Below.refl w.heap.size w).alloc (by first | (simp; done) | (simp; omega)) _).alloc (by first | (simp; done) | (simp; omega)) _).alloc (by first | (simp; done) | (simp; omega)) _)
          go_wp2_with (first
            | (at_builtin; refine app_more rfl (.tmp 109) (.tmp 110) rfl w3.heap.size (.slice (some ⟨w3.heap.size, 0, none⟩) 0 0) 0 [] rfl (World.ownsRow_made w3 #[] 0 (Nat.le_refl _) (by simp [maxLen]) rfl) A ys.length cc ys _ rfl (own3.alloc _) (by omega) (by have := HSL.out; omega) (by simp) ?_; intro v5 w5 own5 hb5)
            | (at_builtin; refine app_int_far rfl (.tmp 111) (.tmp 114) rfl w3.heap.size v5 (0 + ys.length) ([] ++ ys) 14 rfl own5 rfl (by have := HSL.out; omega) (by have := hb5.size; simp at this; omega) ?_; intro v6 w6 own6 hb6 hg6))
          go_ret3
          rw [HR.out]
          exact outS_un HB3 own6 (((Below.refl w3.heap.size w3).alloc (Nat.le_refl _) _).trans (hb5.trans hb6)) p1 p2 p3 hst
      have hun : Pl.unI c = none := by
        unfold Pl.unI
        rw [if_neg (fun e => hu (.inl e)), if_neg (fun e => hu (.inr (.inl e))), if_neg (fun e => hu (.inr (.inr e)))]
      by_cases h40 : c = 40
      · subst h40
        have HR := Lib.hid (show Pl.opP true s (f + 1) at_ = _ from Pl.op_open hc)
        generalize Pl.rowP true (Pl.opP true s f) s (at_ + 1) = R at *
        clear hc h9 h h' hu hun hd
        go_enter Tryz.func70, Tryz.ntmps70
        go_wp2_with fail
        refine (IH2.out _).mono ?_
        rintro e w3 ⟨ys, A, cc, p, rfl, own3, hb3, p1, p2, p3, hst⟩
        have z3 := hb3.size
        cases R with
        | none =>
          clear hst
          go_wp2_with fail
          go_ret3
          rw [HR.out]
          exact outS_none hb3 hat _ rfl
        | some st =>
          obtain rfl := hst st rfl
          clear hst
          by_cases hpe : p = s.length
          · have hcl : (Option.some (ys, p) : Pl.Rs).bind (Pl.closeP s) = none := by
              show Pl.closeP s (ys, p) = none
              unfold Pl.closeP
              rw [if_neg (by rw [List.getElem?_eq_none (by simp only []; omega)]; simp)]
            rw [hcl] at HR
            have k5 : ((s.length : Nat) : Int) ≤ (p : Int) := by omega
            have k7 : decide (s.length ≤ p) = true := by simp; omega
            clear hcl
            go_wp2_with fail
            go_ret3
            rw [HR.out]
            exact outS_none hb3 hat _ rfl
          · obtain ⟨c2, hc2⟩ : ∃ c, s[p]? = some c := ⟨_, List.getElem?_eq_getElem (by omega)⟩
            have hch2 := fun h => ba_at hc2 h
            have k5 : (p : Int) < ((s.length : Nat) : Int) := by omega
            have k6 : (0 : Int) ≤ (p : Int) := by omega
            have k7 : decide (s.length ≤ p) = false := by simp; omega
            have hwp : wrap64 ((p : Int) + 1) = (p : Int) + 1 := IntWalk.wrap64_in _ ⟨by omega, by have := HSL.out; omega⟩
            have hpl : p < s.length := by omega
            by_cases h41 : c2 = 41
            · have hcl : (Option.some (ys, p) : Pl.Rs).bind (Pl.closeP s) = some (ys, p + 1) := by
                show Pl.closeP s (ys, p) = _
                unfold Pl.closeP
                rw [if_pos (by simp only []; rw [hc2, h41])]
              rw [hcl] at HR
              have hne2 : ((c2.toNat : Int) != 41) = false := by rw [h41]; decide
              clear hcl h41
              go_wp2_with fail
              go_ret3
              rw [HR.out]
              exact ⟨ys, A, cc, p + 1, by show Ending.returned (.tuple #[.slice A ys.length cc, .int .i64 (wrap64 ((p : Int) + 1)), .bool true]) = _; rw [hwp]; rfl, own3, hb3, by omega, by omega, by omega, fun st h => by injection h with h; exact h.symm⟩
            · have hcl : (Option.some (ys, p) : Pl.Rs).bind (Pl.closeP s) = none := by
                show Pl.closeP s (ys, p) = none
                unfold Pl.closeP
                rw [if_neg (by simp only []; rw [hc2]; intro h; injection h with h; exact h41 h)]
              rw [hcl] at HR
              have hne2 : ((c2.toNat : Int) != 41) = true := by
                rw [bne_iff_ne]
                intro h
                exact h41 (by apply UInt8.toNat_inj.1; show c2.toNat = 41; omega)
              clear hcl h41
              go_wp2_with fail
              go_ret3
              rw [HR.out]
              exact outS_none hb3 hat _ rfl
      · have HR := Lib.hid (show Pl.opP true s (f + 1) at_ = none from op_bad hc hd hun h40)
        have hne : ∀ k : UInt8, c ≠ k → ((c.toNat : Int) == (k.toNat : Int)) = false := by
          intro k hk
          rw [beq_eq_false_iff_ne]
          intro e
          exact hk (UInt8.toNat_inj.1 (by omega))
        have n1 := hne 120 h
        have n2 := hne 121 h'
        have n3 := hne 40 h40
        have n4 := hne 126 (fun e => hu (.inl e))
        have n5 := hne 60 (fun e => hu (.inr (.inl e)))
        have n6 := hne 62 (fun e => hu (.inr (.inr e)))
        obtain ⟨v, hv⟩ : ∃ v, v = c.toNat := ⟨_, rfl⟩
        have hcv : ∀ h, ((Ba s)[at_]'h).toNat = v := fun h => by rw [hch h, hv]
        rw [← hv] at n1 n2 n3 n4 n5 n6 h9
        have n1 : ((v : Int) == 120) = false := n1
        have n2 : ((v : Int) == 121) = false := n2
        have n3 : ((v : Int) == 40) = false := n3
        have n4 : ((v : Int) == 126) = false := n4
        have n5 : ((v : Int) == 60) = false := n5
        have n6 : ((v : Int) == 62) = false := n6
        have h99 : (v : Int) < 48 ∨ (57 : Int) < (v : Int) := by omega
        clear hc hch hv hd hun h40 h h' hu hne h9
        rcases h99 with h9 | h9
        all_goals
          go_enter Tryz.func70, Tryz.ntmps70
          go_wp2_with fail
          refine wp_loop_rounds 5 ?_
          rw [rounds_succ]
          go_wp2_with fail
          rw [rounds_succ]
          go_wp2_with fail
          rw [rounds_succ]
          go_wp2_with fail
          rw [rounds_succ]
          go_wp2_with fail
          go_ret3
          rw [HR.out]
          exact outS_none ((((Below.refl w.heap.size w).alloc (Nat.le_refl _) _).alloc (by first | (simp; done) | (simp; omega)) _).alloc (by first | (simp; done) | (simp; omega)) _) hat _ (by simp)
end Go.Proofs.YtamhpgledbmnoaaGreatDoor
namespace Go.Proofs.YtamhpgledbmnoaaGreatDoor
set_option linter.unusedVariables false
set_option linter.unusedSimpArgs false
open Go.RowKit
/-- What is still to be read of a row whose sign is sg so far. -/
def RowAtS (s : List UInt8) (small : Nat → Pl.Rs) (RR : Pl.Rs) (ok : Bool) (sg : Int) (ys : List Int) (p : Nat) : Prop :=
  (ok = true → ∃ m, RR = Pl.loopP true small s m sg (ys, p) ∧ s.length ≤ m + p) ∧ (ok = false → RR = none)
theorem rowS_start {s : List UInt8} {small : Nat → Pl.Rs} {a p : Nat} {ys : List Int} (hst : ∀ st, small a = some st → st = (ys, p)) : RowAtS s small (Pl.rowP true small s a) (small a).isSome (-1) ys p := by
  refine ⟨fun h => ?_, fun h => ?_⟩
  · cases hs : small a with
    | none => rw [hs] at h; cases h
    | some st =>
      have := hst st hs
      subst this
      exact ⟨s.length, Pl.row_start hs, by omega⟩
  · cases hs : small a with
    | none => unfold Pl.rowP; rw [hs]
    | some st => rw [hs] at h; cases h
theorem rowS_stop {s : List UInt8} {small : Nat → Pl.Rs} {RR : Pl.Rs} {ys : List Int} {p : Nat} {sg : Int} (h : RowAtS s small RR true sg ys p) (hs : s[p]? = none ∨ ∃ c, s[p]? = some c ∧ Pl.sgn c = none) : RR = some (ys, p) := by
  obtain ⟨m, e, _⟩ := h.1 rfl
  rw [e]
  exact Pl.loop_stop hs
theorem rowS_other {s : List UInt8} {small : Nat → Pl.Rs} {RR : Pl.Rs} {ys : List Int} {p : Nat} {sg k : Int} {c : UInt8} (h : RowAtS s small RR true sg ys p) (hs : s[p]? = some c) (hc : Pl.sgn c = some k) (h0 : 0 ≤ sg) (hk : k ≠ sg) : RR = some (ys, p) := by
  obtain ⟨m, e, _⟩ := h.1 rfl
  rw [e]
  cases m with
  | zero => rfl
  | succ m =>
    rw [Pl.loopP]
    simp only [hs, hc]
    rw [if_pos ⟨trivial, h0, hk⟩]
theorem rowS_next {s : List UInt8} {small : Nat → Pl.Rs} {RR : Pl.Rs} {ys ys2 : List Int} {p p2 : Nat} {c : UInt8} {k sg : Int} (h : RowAtS s small RR true sg ys p) (hs : s[p]? = some c) (hc : Pl.sgn c = some k) (hsg : sg = -1 ∨ sg = k) (hp : p < s.length) (hp2 : p + 1 ≤ p2)
    (hst : ∀ st, small (p + 1) = some st → st = (ys2, p2)) : RowAtS s small RR (small (p + 1)).isSome k (ys ++ ys2 ++ [15 + k]) p2 := by
  obtain ⟨m, e, hm⟩ := h.1 rfl
  obtain ⟨m, rfl⟩ : ∃ m', m = m' + 1 := ⟨m - 1, by omega⟩
  refine ⟨fun h => ?_, fun h => ?_⟩
  · cases hs2 : small (p + 1) with
    | none => rw [hs2] at h; cases h
    | some st =>
      have := hst st hs2
      subst this
      exact ⟨m, by rw [e, Pl.loop_go (st := (ys, p)) hs hc hsg hs2], by omega⟩
  · cases hs2 : small (p + 1) with
    | none =>
      rw [e, Pl.loopP]
      simp only [hs, hc]
      rw [if_neg (by omega), hs2]
    | some st => rw [hs2] at h; cases h
/-- Which sign was found among the first k. -/
def nowK (c : UInt8) (k : Nat) : Int := if (Pl.sgn c).getD (-1) < k then (Pl.sgn c).getD (-1) else -1
theorem nowK_0 (c : UInt8) : nowK c 0 = -1 := by
  unfold nowK
  cases h : Pl.sgn c with
  | none => rfl
  | some k => have := sgn_bd h; show (if k < ((0 : Nat) : Int) then k else -1) = -1; rw [if_neg (by omega)]
theorem nowK_5 (c : UInt8) : nowK c 5 = (Pl.sgn c).getD (-1) := by
  unfold nowK
  cases h : Pl.sgn c with
  | none => rfl
  | some k => have := sgn_bd h; show (if k < ((5 : Nat) : Int) then k else -1) = k; rw [if_pos (by omega)]
theorem nowK_at {c : UInt8} {k : Nat} (h : Pl.sgn c = some (k : Int)) : nowK c (k + 1) = (k : Int) := by
  unfold nowK
  rw [h]
  show (if (k : Int) < ((k + 1 : Nat) : Int) then (k : Int) else -1) = _
  rw [if_pos (by omega)]
theorem nowK_not {c : UInt8} {k : Nat} (h : Pl.sgn c ≠ some (k : Int)) : nowK c (k + 1) = nowK c k := by
  unfold nowK
  cases hc : Pl.sgn c with
  | none => show (if (-1 : Int) < _ then (-1 : Int) else -1) = (if (-1 : Int) < _ then (-1 : Int) else -1); rw [ite_self, ite_self]
  | some j =>
    have : j ≠ (k : Int) := fun e => h (by rw [hc, e])
    show (if j < ((k + 1 : Nat) : Int) then j else -1) = (if j < (k : Int) then j else -1)
    by_cases hj : j < (k : Int)
    · rw [if_pos hj, if_pos (by omega)]
    · rw [if_neg hj, if_neg (by omega)]
def sgC (k : Nat) : UInt8 := ([43, 45, 38, 124, 94] : List UInt8).getD k 0
theorem sgn_sgC {c : UInt8} {k : Nat} (hk : k < 5) : Pl.sgn c = some (k : Int) ↔ c = sgC k := by
  constructor
  · intro h
    unfold Pl.sgn at h
    rcases (by omega : k = 0 ∨ k = 1 ∨ k = 2 ∨ k = 3 ∨ k = 4) with rfl | rfl | rfl | rfl | rfl
    all_goals
      repeat' split at h
      all_goals (first | (rename_i hh; subst hh; first | rfl | (injection h with h; omega)) | (injection h with h; omega) | cases h)
  · rintro rfl
    rcases (by omega : k = 0 ∨ k = 1 ∨ k = 2 ∨ k = 3 ∨ k = 4) with rfl | rfl | rfl | rfl | rfl <;> rfl
set_option maxRecDepth 100000 in
set_option maxHeartbeats 4000000 in
theorem spec_row (s : List UInt8) (hs : s.length ≤ 2000000) (f : Nat) (ihS : PSm s f) : PSr s f := by
  intro at_ d w hat hd
  have hsz := Ba_size s
  have hcall := ihS at_ d w hat hd
  have hstart := fun ys p => rowS_start (s := s) (small := Pl.opP true s f) (a := at_) (ys := ys) (p := p)
  generalize Pl.rowP true (Pl.opP true s f) s at_ = RR at *
  have IHS := Lib.hid (fun at_ w h => ihS at_ d w h hd)
  have HC := Lib.hid hcall
  have HST := Lib.hid hstart
  have HSL := Lib.hid hs
  clear ihS hcall hstart hd hs
  go_enter Tryz.func47, Tryz.ntmps47
  go_wp2_with fail
  refine HC.out.mono ?_
  rintro e w1 ⟨ys0, A0, cc0, p0, rfl, own0, hb0, p1, p2, p3, hst0⟩
  have hrow0 := Lib.hid (HST.out ys0 p0 hst0)
  generalize (Pl.opP true s f at_).isSome = ok0 at *
  clear hst0 HST HC
  go_wp2_with fail
  go_loopw [9, 10, 11, 12] (fun ve vt vo vg wr => ∃ (ys : List Int) (A : Option Addr) (cc p : Nat) (ok : Bool) (sg : Int), ve = .slice A ys.length cc ∧ vt = .int .i64 (p : Int) ∧ vo = .bool ok ∧ vg = .int .i64 sg ∧ Hid (RowAtS s (Pl.opP true s f) RR ok sg ys p) ∧
    wr.ownsRow w.heap.size 3 1 (.slice A ys.length cc) ys.length (I64 ys) ∧ Below w.heap.size w wr ∧ at_ ≤ p ∧ p ≤ s.length ∧ ys.length + at_ ≤ p ∧ -1 ≤ sg ∧ sg ≤ 4)
    (fun _ vt _ _ _ => s.length - (intOf vt).toNat)
  case atStart => exact ⟨ys0, A0, cc0, p0, ok0, -1, rfl, rfl, rfl, rfl, hrow0, own0, hb0, p1, p2, p3, by omega, by omega⟩
  case round =>
    obtain ⟨ys, A, cc, p, ok, sg, rfl, rfl, rfl, rfl, hrow, own, hb, p1, p2, p3, s0, s1⟩ := hrel
    have hz := hb.size
    cases ok with
    | false =>
      have hR := Lib.hid (hrow.out.2 rfl)
      go_wp2_with fail
      go_ret3
      rw [hR.out]
      exact ⟨ys, A, cc, p, rfl, own, hb, p1, p2, p3, fun st h => by cases h⟩
    | true =>
      by_cases hend : p = s.length
      · have hR := Lib.hid (rowS_stop hrow.out (.inl (List.getElem?_eq_none (by omega))))
        have k2 : decide (p < s.length) = false := by simp; omega
        have k3 : ¬ (p : Int) < ((s.length : Nat) : Int) := by omega
        clear hend
        go_wp2_with fail
        go_ret3
        rw [hR.out]
        exact ⟨ys, A, cc, p, rfl, own, hb, p1, p2, p3, fun st h => by injection h with h; exact h.symm⟩
      · obtain ⟨c, hc⟩ : ∃ c, s[p]? = some c := ⟨_, List.getElem?_eq_getElem (by omega)⟩
        have hch := fun h => ba_at hc h
        have hpl : p < s.length := by omega
        have k1 : decide (p < s.length) = true := by simp; omega
        have k2 : (p : Int) < ((s.length : Nat) : Int) := by omega
        have k3 : (0 : Int) ≤ (p : Int) := by omega
        have hwp : wrap64 ((p : Int) + 1) = (p : Int) + 1 := IntWalk.wrap64_in _ ⟨by omega, by have := HSL.out; omega⟩
        have HN0 := Lib.hid (nowK_0 c)
        go_wp2_with fail
        obtain ⟨wo, rfl⟩ : ∃ wo : World, wo = wr := ⟨_, rfl⟩
        go_loopw [13, 14] (fun vn vk wi => ∃ k : Nat, k ≤ 5 ∧ vk = .int .i64 (k : Int) ∧ vn = .int .i64 (nowK c k) ∧ Below wo.heap.size wo wi) (fun _ vk _ => 5 - (intOf vk).toNat)
        case atStart => exact ⟨0, by omega, rfl, by rw [HN0.out], Below.refl _ _⟩
        case round =>
          obtain ⟨k, hk, rfl, rfl, hbi⟩ := hrel
          have hzi := hbi.size
          by_cases hk5 : k < 5
          · by_cases hm : c = sgC k
            · have HN := Lib.hid (nowK_at ((sgn_sgC hk5).2 hm))
              have hm0 := Lib.hid hm
              clear hm
              rcases (by omega : k = 0 ∨ k = 1 ∨ k = 2 ∨ k = 3 ∨ k = 4) with rfl | rfl | rfl | rfl | rfl
              · clear hk hk5
                have hm : c = 43 := hm0.out
                subst hm
                clear hm0
                go_wp2_with fail
                go_region
                all_goals go_wp2
                all_goals go_roundw
                case rel => exact ⟨1, by omega, rfl, by rw [HN.out], ((hbi.alloc hbi.size _).drew)⟩
                case measure => simp [intOf]
              · clear hk hk5
                have hm : c = 45 := hm0.out
                subst hm
                clear hm0
                go_wp2_with fail
                go_region
                all_goals go_wp2
                all_goals go_roundw
                case rel => exact ⟨2, by omega, rfl, by rw [HN.out], ((hbi.alloc hbi.size _).drew)⟩
                case measure => simp [intOf]
              · clear hk hk5
                have hm : c = 38 := hm0.out
                subst hm
                clear hm0
                go_wp2_with fail
                go_region
                all_goals go_wp2
                all_goals go_roundw
                case rel => exact ⟨3, by omega, rfl, by rw [HN.out], ((hbi.alloc hbi.size _).drew)⟩
                case measure => simp [intOf]
              · clear hk hk5
                have hm : c = 124 := hm0.out
                subst hm
                clear hm0
                go_wp2_with fail
                go_region
                all_goals go_wp2
                all_goals go_roundw
                case rel => exact ⟨4, by omega, rfl, by rw [HN.out], ((hbi.alloc hbi.size _).drew)⟩
                case measure => simp [intOf]
              · clear hk hk5
                have hm : c = 94 := hm0.out
                subst hm
                clear hm0
                go_wp2_with fail
                go_region
                all_goals go_wp2
                all_goals go_roundw
                case rel => exact ⟨5, by omega, rfl, by rw [HN.out], ((hbi.alloc hbi.size _).drew)⟩
                case measure => simp [intOf]
            · have HN := Lib.hid (nowK_not (fun h => hm ((sgn_sgC hk5).1 h)))
              have HNE : Hid (((c.toNat : Int) == ((sgC k).toNat : Int)) = false) := Lib.hid (by
                rw [beq_eq_false_iff_ne]
                intro e
                exact hm (UInt8.toNat_inj.1 (by omega)))
              clear hm
              rcases (by omega : k = 0 ∨ k = 1 ∨ k = 2 ∨ k = 3 ∨ k = 4) with rfl | rfl | rfl | rfl | rfl
              · clear hk hk5
                have hne : ((c.toNat : Int) == 43) = false := HNE.out
                go_wp2_with fail
                go_region
                all_goals go_wp2
                all_goals go_roundw
                case rel => exact ⟨1, by omega, rfl, by rw [HN.out], ((hbi.alloc hbi.size _).drew)⟩
                case measure => simp [intOf]
              · clear hk hk5
                have hne : ((c.toNat : Int) == 45) = false := HNE.out
                go_wp2_with fail
                go_region
                all_goals go_wp2
                all_goals go_roundw
                case rel => exact ⟨2, by omega, rfl, by rw [HN.out], ((hbi.alloc hbi.size _).drew)⟩
                case measure => simp [intOf]
              · clear hk hk5
                have hne : ((c.toNat : Int) == 38) = false := HNE.out
                go_wp2_with fail
                go_region
                all_goals go_wp2
                all_goals go_roundw
                case rel => exact ⟨3, by omega, rfl, by rw [HN.out], ((hbi.alloc hbi.size _).drew)⟩
                case measure => simp [intOf]
              · clear hk hk5
                have hne : ((c.toNat : Int) == 124) = false := HNE.out
                go_wp2_with fail
                go_region
                all_goals go_wp2
                all_goals go_roundw
                case rel => exact ⟨4, by omega, rfl, by rw [HN.out], ((hbi.alloc hbi.size _).drew)⟩
                case measure => simp [intOf]
              · clear hk hk5
                have hne : ((c.toNat : Int) == 94) = false := HNE.out
                go_wp2_with fail
                go_region
                all_goals go_wp2
                all_goals go_roundw
                case rel => exact ⟨5, by omega, rfl, by rw [HN.out], ((hbi.alloc hbi.size _).drew)⟩
                case measure => simp [intOf]
          · obtain rfl : k = 5 := by omega
            cases hsg : Pl.sgn c with
            | none =>
              have e5 : nowK c 5 = -1 := by rw [nowK_5, hsg]; rfl
              have hR := Lib.hid (rowS_stop hrow.out (.inr ⟨c, hc, hsg⟩))
              rw [e5]
              clear e5 hsg hc
              go_wp2_with fail
              go_ret3
              rw [hR.out]
              exact ⟨ys, A, cc, p, rfl, own_below own hbi, below_step hb hbi hz, p1, p2, p3, fun st h => by injection h with h; exact h.symm⟩
            | some j =>
              have e5 : nowK c 5 = j := by rw [nowK_5, hsg]; rfl
              have hj := sgn_bd hsg
              have j0 : 0 ≤ j := hj.1
              have j1 : j ≤ 4 := hj.2
              rw [e5]
              by_cases hso : sg = -1 ∨ sg = j
              · have hnx := Lib.hid (fun ys2 p2 => rowS_next (ys2 := ys2) (p2 := p2) hrow.out hc hsg hso hpl)
                have hjj : (j != j) = false := by simp
                clear e5 hsg hc hj hch k1 hrow
                have hso : sg = -1 ∨ j = sg := hso.elim .inl (fun h => .inr h.symm)
                rcases hso with rfl | rfl
                all_goals
                  go_wp2_with fail
                  refine (IHS.out (p + 1) _ (by omega)).mono ?_
                  generalize Pl.opP true s f (p + 1) = R2 at hnx
                  rintro e w3 ⟨ys2, A2, cc2, p4, rfl, own2, hb3, q1, q2, q3, hst2⟩
                  have HN := Lib.hid (hnx.out ys2 p4 q1 hst2)
                  have z3 := hb3.size
                  have zi := hbi.size
                  have own3 := own_below (own_below own hbi) hb3
                  have HB3 := below_step (below_step hb hbi hz) hb3 (by omega)
                  have hsl := HSL.out
                  have l1 : ys.length ≤ 1000000000000 := by omega
                  have l2 : ys2.length ≤ 1000000000000 := by omega
                  have l3 : 0 + ys.length + ys2.length ≤ 1000000000000 := by omega
                  clear hst2 hnx own hb hbi hb3 hsl
                  go_wp2_with (first
                    | (at_builtin; refine app_more rfl (.tmp 70) (.tmp 71) rfl w3.heap.size (.slice (some ⟨w3.heap.size, 0, none⟩) 0 0) 0 [] rfl (World.ownsRow_made w3 #[] 0 (Nat.le_refl _) (by simp [maxLen]) rfl) A ys.length cc ys _ rfl (own3.alloc _) (by omega) l1 (by simp) ?_; intro v5 w5 own5 hb5)
                    | (at_builtin; refine app_more rfl (.tmp 72) (.tmp 73) rfl w3.heap.size v5 (0 + ys.length) ([] ++ ys) rfl own5 A2 ys2.length cc2 ys2 _ rfl (own_below own2 (((Below.refl w3.heap.size w3).alloc (Nat.le_refl _) _).trans hb5)) (by omega) l2 (by have := hb5.size; simp at this; omega) ?_; intro v6 w6 own6 hb6)
                    | (at_builtin; refine app_int_far rfl (.tmp 74) (.tmp 77) rfl w3.heap.size v6 (0 + ys.length + ys2.length) ([] ++ ys ++ ys2) (15 + j) rfl own6 rfl l3 (by have h5 := hb5.size; have h6 := hb6.size; simp at h5; omega) ?_; intro v7 w7 own7 hb7 hg7))
                  obtain ⟨A7, k7, rfl, _⟩ := Rd.of_own own7
                  have hl7 : (ys ++ ys2 ++ [15 + j]).length = 0 + ys.length + ys2.length + 1 := by simp; omega
                  refine ⟨⟨ys ++ ys2 ++ [15 + j], A7, k7, p4, R2.isSome, j, by rw [hl7], rfl, rfl, rfl, HN, by rw [hl7]; simpa using own7.mono (base' := w.heap.size) (by omega), below_step HB3 (((Below.refl w3.heap.size w3).alloc (Nat.le_refl _) _).trans (hb5.trans (hb6.trans hb7))) (by omega), by omega, q2, by rw [hl7]; omega, by omega, by omega⟩, ?_⟩
                  simp [intOf]
                  omega
              · have hR := Lib.hid (rowS_other hrow.out hc hsg (by omega) (by omega))
                have g0 : 0 ≤ sg := by omega
                have hjj : (j != sg) = true := by rw [bne_iff_ne]; omega
                clear e5 hsg hc hso
                go_wp2_with fail
                go_ret3
                rw [hR.out]
                exact ⟨ys, A, cc, p, rfl, own_below own hbi, below_step hb hbi hz, p1, p2, p3, fun st h => by injection h with h; exact h.symm⟩
theorem reads_small (s : List UInt8) (hs : s.length ≤ 2000000) : ∀ f, f ≤ 61 → PSm s f
  | 0, _ => spec_small_0 s
  | f + 1, h => spec_small s hs f (by omega) (reads_small s hs f (by omega)) (spec_row s hs f (reads_small s hs f (by omega)))
set_option maxRecDepth 100000 in
set_option maxHeartbeats 4000000 in
theorem spec_ReadExpr (s : List UInt8) (w : World) (hs : s.length ≤ 2000000) : Calls Tryz.prog 25 #[.string (Ba s)] w (OutRd (Pl.readE s) w) := by
  have hsz := Ba_size s
  have hrow := spec_row s hs 61 (reads_small s hs 61 (Nat.le_refl _)) 0 0 w (by omega) (by omega)
  have hat : ∀ e, Pl.exprText e = s → s ≠ [] → Pl.rowP true (Pl.opP true s 61) s 0 = some (e, s.length) := fun e h1 h2 => Pl.text_reads h1 h2 (by have := (Pl.valid_t (Pl.text_some h1 h2)).2.1; omega)
  have hby := Pl.readE_by (s := s) (R := Pl.rowP true (Pl.opP true s 61) s 0) (fun e h1 h2 => ⟨_, hat e h1 h2⟩)
  have hemp : Pl.rowP true (Pl.opP true s 61) s 0 ≠ none → s ≠ [] := by
    intro h e
    subst e
    exact h (row_empty _ _)
  generalize Pl.rowP true (Pl.opP true s 61) s 0 = R at *
  have HR := Lib.hid hrow
  have HBy := Lib.hid hby
  have HE := Lib.hid hemp
  have HA := Lib.hid hat
  have HSL := Lib.hid hs
  clear hrow hby hemp hat hs
  go_enter Tryz.func25, Tryz.ntmps25
  go_wp2_with fail
  refine (HR.out).mono ?_
  rintro e w3 ⟨ys, A, cc, p, rfl, own3, hb3, p1, p2, p3, hst⟩
  have z3 := hb3.size
  have hnil : ∀ w5, Below w.heap.size w w5 → OutRd none w (.returned (.tuple #[.slice (some ⟨w5.heap.size, 0, none⟩) 0 0, .bool false])) (w5.alloc (.cells #[] 3)) := fun w5 hb5 =>
    ⟨[], _, 0, rfl, rfl, World.ownsRow_made w5 #[] 0 hb5.size (by simp [maxLen]) rfl, hb5.alloc hb5.size _⟩
  have HNil := Lib.hid hnil
  clear hnil
  cases R with
  | none =>
    have hr : none = Pl.readE s := HBy.out
    have hr := Lib.hid hr
    clear HBy hst
    go_wp2_with fail
    go_ret2
    rw [← hr.out]
    exact HNil.out _ hb3
  | some st =>
    obtain rfl := hst st rfl
    have hne : s ≠ [] := HE.out (by simp)
    have hr : (if Pl.exprText ys = s ∧ s ≠ [] then some ys else none) = Pl.readE s := HBy.out
    have rd3 := Lib.hid (rd_own own3)
    have hpe : Pl.exprText ys = s → p = s.length := fun h => by have := HA.out ys h hne; injection this with this; exact congrArg Prod.snd this
    have hcc := own_cap own3
    have hyl : ys.length ≤ 1000000000000 := by have := HSL.out; omega
    clear HBy hst HE
    by_cases hpl : p = s.length
    · have hb1 : ((p : Int) != ((s.length : Nat) : Int)) = false := by rw [hpl]; simp
      by_cases hq : Pl.exprText ys = s
      · rw [if_pos ⟨hq, hne⟩] at hr
        have hr := Lib.hid hr
        have HQ := Lib.hid hq
        clear hq hpe hpl
        go_wp2_with fail
        refine (spec_ExprText A ys.length cc _ ys _ rd3.out (Nat.le_refl _) hyl hcc).mono ?_
        rw [HQ.out]
        rintro e w4 ⟨rfl, hb4⟩
        go_wp2_with fail
        go_ret2
        rw [← hr.out]
        exact ⟨ys, A, cc, rfl, rfl, own_below own3 hb4, below_step hb3 hb4 z3⟩
      · rw [if_neg (fun h => hq h.1)] at hr
        have hr := Lib.hid hr
        have hn := Ba_ne hq
        clear hq hpe hpl
        go_wp2_with fail
        refine (spec_ExprText A ys.length cc _ ys _ rd3.out (Nat.le_refl _) hyl hcc).mono ?_
        rintro e w4 ⟨rfl, hb4⟩
        go_wp2_with fail
        go_ret2
        rw [← hr.out]
        exact HNil.out _ (below_step hb3 hb4 z3)
    · have hb1 : ((p : Int) != ((s.length : Nat) : Int)) = true := by rw [bne_iff_ne]; omega
      rw [if_neg (fun h => hpl (hpe h.1))] at hr
      have hr := Lib.hid hr
      clear hpl hpe
      go_wp2_with fail
      go_ret2
      rw [← hr.out]
      exact HNil.out _ hb3
end Go.Proofs.YtamhpgledbmnoaaGreatDoor
