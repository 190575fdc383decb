/-
  The reference's reader of expressions reads what the plain reader reads.
  Conditions: as stated at each.
-/
import Derived.Test.YtnjcephddilalabT7
namespace Go.Proofs.Ytnjcephddilalab
set_option linter.unusedVariables false
set_option linter.unusedSimpArgs false
open Go.RowKit
/-- What a part of the reference's reader leaves. -/
def OutS (s : List UInt8) (at_ : Nat) (R : Pl.Rs) (w : World) (e : Ending) (w' : World) : Prop :=
  ∃ (ys : List Int) (A : Option Addr) (c p : Nat), e = .returned (.tuple #[.slice A ys.length c, .int .i64 (p : Int), .bool R.isSome]) ∧ w'.ownsRow w.heap.size 3 1 (.slice A ys.length c) ys.length (I64 ys) ∧
    Below w.heap.size w w' ∧ at_ ≤ p ∧ p ≤ s.length ∧ ys.length + at_ ≤ p ∧ (∀ st, R = some st → st = (ys, p))
theorem outS_none {s : List UInt8} {at_ : Nat} {w w1 : World} (hB : Below w.heap.size w w1) (h : at_ ≤ s.length) (b0 : Nat) (hb0 : w1.heap.size = b0) :
    OutS s at_ none w (.returned (.tuple #[.slice (some ⟨b0, 0, none⟩) 0 0, .int .i64 (at_ : Int), .bool false])) (w1.alloc (.cells #[] 3)) := by
  subst hb0
  exact ⟨[], some ⟨w1.heap.size, 0, none⟩, 0, at_, rfl, World.ownsRow_made w1 #[] 0 hB.size (by simp [maxLen]) rfl, hB.alloc hB.size _, Nat.le_refl _, h, by simp, fun st h => by cases h⟩
theorem outS_lit {s : List UInt8} {at_ : Nat} {w : World} {n : Int} (h : at_ < s.length) :
    OutS s at_ (some ([n], at_ + 1)) w (.returned (.tuple #[.slice (some ⟨w.heap.size, 0, none⟩) 1 1, .int .i64 ((at_ : Int) + 1), .bool true])) (w.alloc (.cells #[.int .i64 n] 3)) :=
  ⟨[n], _, 1, at_ + 1, rfl, own_lit1 w n (Nat.le_refl _) rfl, (Below.refl _ _).alloc (Nat.le_refl _) _, by omega, by omega, by simp; omega, fun st h => by injection h with h; exact h.symm⟩
theorem outS_un {s : List UInt8} {at_ p : Nat} {w w3 w6 : World} {ys : List Int} {n : Int} {v : Value} {R : Pl.Rs} (hB : Below w.heap.size w w3) (own6 : w6.ownsRow w3.heap.size 3 1 v (0 + ys.length + 1) (I64 ([] ++ ys ++ [n]))) (hb : Below w3.heap.size w3 w6)
    (p1 : at_ + 1 ≤ p) (p2 : p ≤ s.length) (p3 : ys.length + (at_ + 1) ≤ p) (hst : ∀ st, R = some st → st = (ys, p)) :
    OutS s at_ (R.map fun st => (st.1 ++ [n], st.2)) w (.returned (.tuple #[v, .int .i64 (p : Int), .bool R.isSome])) w6 := by
  obtain ⟨A4, c4, rfl, _⟩ := Rd.of_own own6
  refine ⟨ys ++ [n], A4, c4, p, ?_, ?_, below_step hB hb hB.size, by omega, p2, by simp; omega, ?_⟩
  · cases R <;> simp
  · have := own6.mono (base' := w.heap.size) hB.size
    simpa using this
  · intro st h
    cases R with
    | none => cases h
    | some st' =>
      have := hst st' rfl
      subst this
      simpa using h.symm
def PSm (s : List UInt8) (f : Nat) : Prop := ∀ (at_ : Nat) (d : Int) (w : World), at_ ≤ s.length → d = 61 - (f : Int) → Calls Try.prog 91 #[.string (Ba s), .int .i64 (at_ : Int), .int .i64 d] w (OutS s at_ (Pl.opP true s f at_) w)
def PSr (s : List UInt8) (f : Nat) : Prop := ∀ (at_ : Nat) (d : Int) (w : World), at_ ≤ s.length → d = 61 - (f : Int) → Calls Try.prog 60 #[.string (Ba s), .int .i64 (at_ : Int), .int .i64 d] w (OutS s at_ (Pl.rowP true (Pl.opP true s f) s at_) w)
set_option maxRecDepth 100000 in
set_option maxHeartbeats 1000000 in
theorem spec_small_0 (s : List UInt8) : PSm s 0 := by
  intro at_ d w hat hd
  have hsz := Ba_size s
  have k0 : (60 : Int) < d := by omega
  have HR := Lib.hid (show Pl.opP true s 0 at_ = none from rfl)
  clear hd
  by_cases hend : at_ = s.length
  · have k1 : ((s.length : Nat) : Int) ≤ (at_ : Int) := by omega
    have k2 : decide (s.length ≤ at_) = true := by simp; omega
    go_enter Try.func91, Try.ntmps91
    go_wp2_with fail
    go_ret3
    rw [HR.out]
    exact outS_none (Below.refl _ _) hat _ rfl
  · have k1 : ¬ ((s.length : Nat) : Int) ≤ (at_ : Int) := by omega
    have k2 : decide (s.length ≤ at_) = false := by simp; omega
    go_enter Try.func91, Try.ntmps91
    go_wp2_with fail
    go_ret3
    rw [HR.out]
    exact outS_none (Below.refl _ _) hat _ rfl
set_option maxRecDepth 100000 in
set_option maxHeartbeats 4000000 in
theorem spec_small (s : List UInt8) (hs : s.length ≤ 2000000) (f : Nat) (hf : f ≤ 60) (ihS : PSm s f) (ihR : PSr s f) : PSm s (f + 1) := by
  intro at_ d w hat hd
  have hsz := Ba_size s
  have d0 : d ≤ 60 := by omega
  have d1 : 0 ≤ d := by omega
  have d2 : d + 1 = 61 - (f : Int) := by omega
  have IHS := Lib.hid (fun at_ w h => ihS at_ (d + 1) w h d2)
  have IHR := Lib.hid (fun at_ w h => ihR at_ (d + 1) w h d2)
  clear ihS ihR hd d2 hf
  by_cases hend : at_ = s.length
  · have HR := Lib.hid (show Pl.opP true s (f + 1) at_ = none by rw [Pl.opP, List.getElem?_eq_none (by omega)])
    have k1 : ((s.length : Nat) : Int) ≤ (at_ : Int) := by omega
    have k2 : decide (s.length ≤ at_) = true := by simp; omega
    go_enter Try.func91, Try.ntmps91
    go_wp2_with fail
    go_ret3
    rw [HR.out]
    exact outS_none (Below.refl _ _) hat _ rfl
  · obtain ⟨c, hc⟩ : ∃ c, s[at_]? = some c := ⟨_, List.getElem?_eq_getElem (by omega)⟩
    have hch := fun h => ba_at hc h
    have hlt : at_ < s.length := by omega
    have k1 : (at_ : Int) < ((s.length : Nat) : Int) := by omega
    have k2 : ¬ ((s.length : Nat) : Int) ≤ (at_ : Int) := by omega
    have k3 : (0 : Int) ≤ (at_ : Int) := by omega
    have hw : wrap64 ((at_ : Int) + 1) = (at_ : Int) + 1 := IntWalk.wrap64_in _ ⟨by omega, by omega⟩
    have k5 : decide (s.length ≤ at_) = false := by simp; omega
    have HSL := Lib.hid hs
    clear hs
    by_cases h9 : 48 ≤ c.toNat ∧ c.toNat ≤ 57
    · have hd : Pl.dig c = some ((c.toNat : Int) - 48) := by unfold Pl.dig; rw [if_pos h9]
      have HR := Lib.hid (show Pl.opP true s (f + 1) at_ = _ from Pl.op_leaf hc hd)
      obtain ⟨v, hv⟩ : ∃ v, v = c.toNat := ⟨_, rfl⟩
      have hcv : ∀ h, ((Ba s)[at_]'h).toNat = v := fun h => by rw [hch h, hv]
      have v0 : (48 : Int) ≤ (v : Int) := by omega
      have v1 : (v : Int) ≤ 57 := by omega
      rw [← hv] at HR
      clear hd h9 hc hch hv
      go_enter Try.func91, Try.ntmps91
      go_wp2_with fail
      go_ret3
      rw [HR.out]
      exact outS_lit hlt
    · by_cases h : c = 120
      · subst h
        have HR := Lib.hid (show Pl.opP true s (f + 1) at_ = _ from Pl.op_leaf (n := 10) hc rfl)
        clear hc h9
        go_enter Try.func91, Try.ntmps91
        go_wp2_with fail
        go_ret3
        rw [HR.out]
        exact outS_lit hlt
      by_cases h' : c = 121
      · subst h'
        have HR := Lib.hid (show Pl.opP true s (f + 1) at_ = _ from Pl.op_leaf (n := 11) hc rfl)
        clear hc h9 h
        go_enter Try.func91, Try.ntmps91
        go_wp2_with fail
        go_ret3
        rw [HR.out]
        exact outS_lit hlt
      have hd : Pl.dig c = none := by unfold Pl.dig; rw [if_neg h9, if_neg h, if_neg h']
      have IH1 := Lib.hid (fun w => IHS.out (at_ + 1) w (by omega))
      have IH2 := Lib.hid (fun w => IHR.out (at_ + 1) w (by omega))
      clear IHS IHR
      by_cases hu : c = 126 ∨ c = 60 ∨ c = 62
      · clear h9 h h' hd
        rcases hu with h | h | h
        · subst h
          have HR := Lib.hid (show Pl.opP true s (f + 1) at_ = _ from Pl.op_un (n := 0) hc rfl rfl)
          generalize Pl.opP true s f (at_ + 1) = R at *
          clear hc
          go_enter Try.func91, Try.ntmps91
          go_wp2_with fail
          refine wp_loop_rounds 4 ?_
          rw [rounds_succ]
          go_wp2_with fail
          refine (IH1.out _).mono ?_
          rintro e w3 ⟨ys, A, cc, p, rfl, own3, hb3, p1, p2, p3, hst⟩
          have z3 := hb3.size
          have hz3 : w.heap.size + 1 ≤ w3.heap.size := by simpa using z3
          have HB3 : Below w.heap.size w w3 := by
            refine Below.trans ?_ (hb3.mono (by first | (simp; done) | (simp; omega)))
            exact ((Below.refl w.heap.size w).alloc (by first | (simp; done) | (simp; omega)) _)
          go_wp2_with (first
            | (at_builtin; refine app_more rfl (.tmp 109) (.tmp 110) rfl w3.heap.size (.slice (some ⟨w3.heap.size, 0, none⟩) 0 0) 0 [] rfl (World.ownsRow_made w3 #[] 0 (Nat.le_refl _) (by simp [maxLen]) rfl) A ys.length cc ys _ rfl (own3.alloc _) (by omega) (by have := HSL.out; omega) (by simp) ?_; intro v5 w5 own5 hb5)
            | (at_builtin; refine app_int_far rfl (.tmp 111) (.tmp 114) rfl w3.heap.size v5 (0 + ys.length) ([] ++ ys) 12 rfl own5 rfl (by have := HSL.out; omega) (by have := hb5.size; simp at this; omega) ?_; intro v6 w6 own6 hb6 hg6))
          go_ret3
          rw [HR.out]
          exact outS_un HB3 own6 (((Below.refl w3.heap.size w3).alloc (Nat.le_refl _) _).trans (hb5.trans hb6)) p1 p2 p3 hst
        · subst h
          have HR := Lib.hid (show Pl.opP true s (f + 1) at_ = _ from Pl.op_un (n := 1) hc rfl rfl)
          generalize Pl.opP true s f (at_ + 1) = R at *
          clear hc
          go_enter Try.func91, Try.ntmps91
          go_wp2_with fail
          refine wp_loop_rounds 4 ?_
          rw [rounds_succ]
          go_wp2_with fail
          rw [rounds_succ]
          go_wp2_with fail
          refine (IH1.out _).mono ?_
          rintro e w3 ⟨ys, A, cc, p, rfl, own3, hb3, p1, p2, p3, hst⟩
          have z3 := hb3.size
          have hz3 : w.heap.size + 2 ≤ w3.heap.size := by simpa using z3
          have HB3 : Below w.heap.size w w3 := by
            refine Below.trans ?_ (hb3.mono (by first | (simp; done) | (simp; omega)))
            exact (((Below.refl w.heap.size w).alloc (by first | (simp; done) | (simp; omega)) _).alloc (by first | (simp; done) | (simp; omega)) _)
          go_wp2_with (first
            | (at_builtin; refine app_more rfl (.tmp 109) (.tmp 110) rfl w3.heap.size (.slice (some ⟨w3.heap.size, 0, none⟩) 0 0) 0 [] rfl (World.ownsRow_made w3 #[] 0 (Nat.le_refl _) (by simp [maxLen]) rfl) A ys.length cc ys _ rfl (own3.alloc _) (by omega) (by have := HSL.out; omega) (by simp) ?_; intro v5 w5 own5 hb5)
            | (at_builtin; refine app_int_far rfl (.tmp 111) (.tmp 114) rfl w3.heap.size v5 (0 + ys.length) ([] ++ ys) 13 rfl own5 rfl (by have := HSL.out; omega) (by have := hb5.size; simp at this; omega) ?_; intro v6 w6 own6 hb6 hg6))
          go_ret3
          rw [HR.out]
          exact outS_un HB3 own6 (((Below.refl w3.heap.size w3).alloc (Nat.le_refl _) _).trans (hb5.trans hb6)) p1 p2 p3 hst
        · subst h
          have HR := Lib.hid (show Pl.opP true s (f + 1) at_ = _ from Pl.op_un (n := 2) hc rfl rfl)
          generalize Pl.opP true s f (at_ + 1) = R at *
          clear hc
          go_enter Try.func91, Try.ntmps91
          go_wp2_with fail
          refine wp_loop_rounds 4 ?_
          rw [rounds_succ]
          go_wp2_with fail
          rw [rounds_succ]
          go_wp2_with fail
          rw [rounds_succ]
          go_wp2_with fail
          refine (IH1.out _).mono ?_
          rintro e w3 ⟨ys, A, cc, p, rfl, own3, hb3, p1, p2, p3, hst⟩
          have z3 := hb3.size
          have hz3 : w.heap.size + 3 ≤ w3.heap.size := by simpa using z3
          have HB3 : Below w.heap.size w w3 := by
            refine Below.trans ?_ (hb3.mono (by first | (simp; done) | (simp; omega)))
            exact ((((Below.refl w.heap.size w).alloc (by first | (simp; done) | (simp; omega)) _).alloc (by first | (simp; done) | (simp; omega)) _).alloc (by first | (simp; done) | (simp; omega)) _)
          go_wp2_with (first
            | (at_builtin; refine app_more rfl (.tmp 109) (.tmp 110) rfl w3.heap.size (.slice (some ⟨w3.heap.size, 0, none⟩) 0 0) 0 [] rfl (World.ownsRow_made w3 #[] 0 (Nat.le_refl _) (by simp [maxLen]) rfl) A ys.length cc ys _ rfl (own3.alloc _) (by omega) (by have := HSL.out; omega) (by simp) ?_; intro v5 w5 own5 hb5)
            | (at_builtin; refine app_int_far rfl (.tmp 111) (.tmp 114) rfl w3.heap.size v5 (0 + ys.length) ([] ++ ys) 14 rfl own5 rfl (by have := HSL.out; omega) (by have := hb5.size; simp at this; omega) ?_; intro v6 w6 own6 hb6 hg6))
          go_ret3
          rw [HR.out]
          exact outS_un HB3 own6 (((Below.refl w3.heap.size w3).alloc (Nat.le_refl _) _).trans (hb5.trans hb6)) p1 p2 p3 hst
      have hun : Pl.unI c = none := by
        unfold Pl.unI
        rw [if_neg (fun e => hu (.inl e)), if_neg (fun e => hu (.inr (.inl e))), if_neg (fun e => hu (.inr (.inr e)))]
      by_cases h40 : c = 40
      · subst h40
        have HR := Lib.hid (show Pl.opP true s (f + 1) at_ = _ from Pl.op_open hc)
        generalize Pl.rowP true (Pl.opP true s f) s (at_ + 1) = R at *
        clear hc h9 h h' hu hun hd
        go_enter Try.func91, Try.ntmps91
        go_wp2_with fail
        refine (IH2.out _).mono ?_
        rintro e w3 ⟨ys, A, cc, p, rfl, own3, hb3, p1, p2, p3, hst⟩
        have z3 := hb3.size
        cases R with
        | none =>
          clear hst
          go_wp2_with fail
          go_ret3
          rw [HR.out]
          exact outS_none hb3 hat _ rfl
        | some st =>
          obtain rfl := hst st rfl
          clear hst
          by_cases hpe : p = s.length
          · have hcl : (Option.some (ys, p) : Pl.Rs).bind (Pl.closeP s) = none := by
              show Pl.closeP s (ys, p) = none
              unfold Pl.closeP
              rw [if_neg (by rw [List.getElem?_eq_none (by simp only []; omega)]; simp)]
            rw [hcl] at HR
            have k5 : ((s.length : Nat) : Int) ≤ (p : Int) := by omega
            have k7 : decide (s.length ≤ p) = true := by simp; omega
            clear hcl
            go_wp2_with fail
            go_ret3
            rw [HR.out]
            exact outS_none hb3 hat _ rfl
          · obtain ⟨c2, hc2⟩ : ∃ c, s[p]? = some c := ⟨_, List.getElem?_eq_getElem (by omega)⟩
            have hch2 := fun h => ba_at hc2 h
            have k5 : (p : Int) < ((s.length : Nat) : Int) := by omega
            have k6 : (0 : Int) ≤ (p : Int) := by omega
            have k7 : decide (s.length ≤ p) = false := by simp; omega
            have hwp : wrap64 ((p : Int) + 1) = (p : Int) + 1 := IntWalk.wrap64_in _ ⟨by omega, by have := HSL.out; omega⟩
            have hpl : p < s.length := by omega
            by_cases h41 : c2 = 41
            · have hcl : (Option.some (ys, p) : Pl.Rs).bind (Pl.closeP s) = some (ys, p + 1) := by
                show Pl.closeP s (ys, p) = _
                unfold Pl.closeP
                rw [if_pos (by simp only []; rw [hc2, h41])]
              rw [hcl] at HR
              have hne2 : ((c2.toNat : Int) != 41) = false := by rw [h41]; decide
              clear hcl h41
              go_wp2_with fail
              go_ret3
              rw [HR.out]
              exact ⟨ys, A, cc, p + 1, by show Ending.returned (.tuple #[.slice A ys.length cc, .int .i64 (wrap64 ((p : Int) + 1)), .bool true]) = _; rw [hwp]; rfl, own3, hb3, by omega, by omega, by omega, fun st h => by injection h with h; exact h.symm⟩
            · have hcl : (Option.some (ys, p) : Pl.Rs).bind (Pl.closeP s) = none := by
                show Pl.closeP s (ys, p) = none
                unfold Pl.closeP
                rw [if_neg (by simp only []; rw [hc2]; intro h; injection h with h; exact h41 h)]
              rw [hcl] at HR
              have hne2 : ((c2.toNat : Int) != 41) = true := by
                rw [bne_iff_ne]
                intro h
                exact h41 (by apply UInt8.toNat_inj.1; show c2.toNat = 41; omega)
              clear hcl h41
              go_wp2_with fail
              go_ret3
              rw [HR.out]
              exact outS_none hb3 hat _ rfl
      · have HR := Lib.hid (show Pl.opP true s (f + 1) at_ = none from op_bad hc hd hun h40)
        have hne : ∀ k : UInt8, c ≠ k → ((c.toNat : Int) == (k.toNat : Int)) = false := by
          intro k hk
          rw [beq_eq_false_iff_ne]
          intro e
          exact hk (UInt8.toNat_inj.1 (by omega))
        have n1 := hne 120 h
        have n2 := hne 121 h'
        have n3 := hne 40 h40
        have n4 := hne 126 (fun e => hu (.inl e))
        have n5 := hne 60 (fun e => hu (.inr (.inl e)))
        have n6 := hne 62 (fun e => hu (.inr (.inr e)))
        obtain ⟨v, hv⟩ : ∃ v, v = c.toNat := ⟨_, rfl⟩
        have hcv : ∀ h, ((Ba s)[at_]'h).toNat = v := fun h => by rw [hch h, hv]
        rw [← hv] at n1 n2 n3 n4 n5 n6 h9
        have n1 : ((v : Int) == 120) = false := n1
        have n2 : ((v : Int) == 121) = false := n2
        have n3 : ((v : Int) == 40) = false := n3
        have n4 : ((v : Int) == 126) = false := n4
        have n5 : ((v : Int) == 60) = false := n5
        have n6 : ((v : Int) == 62) = false := n6
        have h99 : (v : Int) < 48 ∨ (57 : Int) < (v : Int) := by omega
        clear hc hch hv hd hun h40 h h' hu hne h9
        rcases h99 with h9 | h9
        all_goals
          go_enter Try.func91, Try.ntmps91
          go_wp2_with fail
          refine wp_loop_rounds 5 ?_
          rw [rounds_succ]
          go_wp2_with fail
          rw [rounds_succ]
          go_wp2_with fail
          rw [rounds_succ]
          go_wp2_with fail
          rw [rounds_succ]
          go_wp2_with fail
          go_ret3
          rw [HR.out]
          exact outS_none ((((Below.refl w.heap.size w).alloc (Nat.le_refl _) _).alloc (by first | (simp; done) | (simp; omega)) _).alloc (by first | (simp; done) | (simp; omega)) _) hat _ (by simp)
end Go.Proofs.Ytnjcephddilalab
