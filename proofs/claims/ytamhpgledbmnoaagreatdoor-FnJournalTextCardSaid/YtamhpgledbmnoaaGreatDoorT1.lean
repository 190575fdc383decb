/-
  Trees of nodes in memory, and their texts: the walks of text and wrapped.
  Conditions: as stated at each.
-/
import Derived.Test.YtamhpgledbmnoaaGreatDoorKE
import Derived.Test.YtamhpgledbmnoaaGreatDoorKP
namespace Go.Proofs.YtamhpgledbmnoaaGreatDoor
set_option linter.unusedVariables false
set_option linter.unusedSimpArgs false
open Go.RowKit

/-- The tree t lies in memory at block g, in blocks of S. -/
def Node (w : World) (S : Nat → Prop) : Pl.Tr → Nat → Prop
  | .leaf s, g => S g ∧ w.cell? ⟨g, 0, none⟩ = some (.int .i64 s) ∧ ∃ A c, w.cell? ⟨g, 1, none⟩ = some (.slice A 0 c)
  | .un s t, g => S g ∧ w.cell? ⟨g, 0, none⟩ = some (.int .i64 s) ∧ ∃ k c g1, S k ∧ w.cell? ⟨g, 1, none⟩ = some (.slice (some ⟨k, 0, none⟩) 1 c) ∧ w.cell? ⟨k, 0, none⟩ = some (.pointer (some ⟨g1, 0, none⟩)) ∧ Node w S t g1
  | .bin s l r, g => S g ∧ w.cell? ⟨g, 0, none⟩ = some (.int .i64 s) ∧ ∃ k c g1 g2, S k ∧ w.cell? ⟨g, 1, none⟩ = some (.slice (some ⟨k, 0, none⟩) 2 c) ∧ w.cell? ⟨k, 0, none⟩ = some (.pointer (some ⟨g1, 0, none⟩)) ∧ w.cell? ⟨k, 1, none⟩ = some (.pointer (some ⟨g2, 0, none⟩)) ∧ Node w S l g1 ∧ Node w S r g2
theorem Node.keep {w w' : World} {S S' : Nat → Prop} (hk : ∀ g o v, S g → w.cell? ⟨g, o, none⟩ = some v → w'.cell? ⟨g, o, none⟩ = some v) (hS : ∀ g, S g → S' g) : ∀ {t : Pl.Tr} {g : Nat}, Node w S t g → Node w' S' t g
  | .leaf s, g, ⟨h1, h2, A, c, h3⟩ => ⟨hS _ h1, hk _ _ _ h1 h2, A, c, hk _ _ _ h1 h3⟩
  | .un s t, g, ⟨h1, h2, k, c, g1, h3, h4, h5, h6⟩ => ⟨hS _ h1, hk _ _ _ h1 h2, k, c, g1, hS _ h3, hk _ _ _ h1 h4, hk _ _ _ h3 h5, Node.keep hk hS h6⟩
  | .bin s l r, g, ⟨h1, h2, k, c, g1, g2, h3, h4, h5, h6, h7, h8⟩ => ⟨hS _ h1, hk _ _ _ h1 h2, k, c, g1, g2, hS _ h3, hk _ _ _ h1 h4, hk _ _ _ h3 h5, hk _ _ _ h3 h6, Node.keep hk hS h7, Node.keep hk hS h8⟩
theorem Node.drewN {w : World} {S : Nat → Prop} {t : Pl.Tr} {g : Nat} (h : Node w S t g) (q : Nat) : Node (w.drewN q) S t g := h.keep (fun _ _ _ _ h => by simpa using h) (fun _ h => h)
theorem Node.top {w : World} {S : Nat → Prop} {t : Pl.Tr} {g : Nat} (h : Node w S t g) : w.cell? ⟨g, 0, none⟩ = some (.int .i64 t.top) := by
  cases t with
  | leaf s => exact h.2.1
  | un s t => exact h.2.1
  | bin s l r => exact h.2.1

theorem add_Ba {P : Program} (a b : List UInt8) (h : a.length + b.length ≤ 9000000) (w : World) : (Op.stringOp .add (Ba a) (Ba b)).run P w = .ok (.string (Ba (a ++ b))) w := by
  rw [run_string_add_sum w _ _ (by rw [Ba_size, Ba_size]; omega), Ba_append]
/-- What text leaves. -/
def OutT (x : List UInt8) (w : World) (e : Ending) (w' : World) : Prop := e = .returned (.string (Ba x)) ∧ ∃ q, w' = w.drewN q
theorem two_takes (t : Pl.Tr) (ok : t.ok) (but : Int) : (t.two but = true ↔ Pl.takes t.top = 2 ∧ t.top ≠ but) := by
  cases t with
  | leaf s => simp [Pl.Tr.two, Pl.Tr.top, Pl.takes_0 ok.2]
  | un s t => simp [Pl.Tr.two, Pl.Tr.top, Pl.takes_1 ok.1.1 ok.1.2]
  | bin s l r => simp [Pl.Tr.two, Pl.Tr.top, Pl.takes_2 ok.1.1]
set_option maxHeartbeats 1000000 in
theorem impl_wrapped (S : Nat → Prop) (t : Pl.Tr) (ok : t.ok) (hlen : t.txt.length ≤ 1000000) (ht : ∀ (g : Nat) (w : World), Node w S t g → Calls Tryz.prog 95 #[.pointer (some ⟨g, 0, none⟩)] w (OutT t.txt w))
    (but : Int) (g : Nat) (w : World) (hN : Node w S t g) : Calls Tryz.prog 115 #[.pointer (some ⟨g, 0, none⟩), .int .i64 but] w (OutT (Pl.brk (t.two but) t.txt) w) := by
  have c0 := hN.top
  have h2 := two_takes t ok but
  have HT := Lib.hid (fun w h => ht g w h)
  have HN := Lib.hid hN
  have hsz := Ba_size t.txt
  have ct := fun w => impl_takes t.top w
  have e1 : (⟨#[40]⟩ : ByteArray) = Ba [40] := rfl
  have e2 : (⟨#[41]⟩ : ByteArray) = Ba [41] := rfl
  clear ht hN
  by_cases hk : Pl.takes t.top = 2
  · rw [hk] at ct
    by_cases hb : t.top = but
    · have hf : t.two but = false := by
        cases hq : t.two but
        · rfl
        · exact absurd hb (h2.1 hq).2
      rw [hf]
      subst hb
      have hnn : (t.top != t.top) = false := by simp
      clear h2 hk e1 e2
      go_enter Tryz.func115, Tryz.ntmps115
      go_wp2_with fail
      refine (ct _).mono ?_
      rintro e w' ⟨rfl, rfl⟩
      go_wp2_with fail
      refine (HT.out _ HN.out).mono ?_
      rintro e w' ⟨rfl, q, rfl⟩
      go_wp2_with fail
      go_ret
      exact ⟨rfl, q, rfl⟩
    · have hf : t.two but = true := h2.2 ⟨hk, hb⟩
      have hnn : (t.top != but) = true := by simp [hb]
      rw [hf]
      have a1 := fun w => add_Ba (P := Tryz.prog) [40] t.txt (by simp; omega) w
      have a2 := fun w => add_Ba (P := Tryz.prog) (40 :: t.txt) [41] (by simp; omega) w
      clear h2 hk
      go_enter Tryz.func115, Tryz.ntmps115
      go_wp2_with fail
      refine (ct _).mono ?_
      rintro e w' ⟨rfl, rfl⟩
      go_wp2_with fail
      refine (HT.out _ HN.out).mono ?_
      rintro e w' ⟨rfl, q, rfl⟩
      go_wp2_with fail
      go_ret
      exact ⟨rfl, q, rfl⟩
  · have hf : t.two but = false := by
      cases hq : t.two but
      · rfl
      · exact absurd (h2.1 hq).1 hk
    have hnn : (Pl.takes t.top == 2) = false := by simp [hk]
    rw [hf]
    clear h2
    go_enter Tryz.func115, Tryz.ntmps115
    go_wp2_with fail
    refine (ct _).mono ?_
    rintro e w' ⟨rfl, rfl⟩
    go_wp2_with fail
    refine (HT.out _ HN.out).mono ?_
    rintro e w' ⟨rfl, q, rfl⟩
    go_wp2_with fail
    go_ret
    exact ⟨rfl, q, rfl⟩
theorem brk_ge (b : Bool) (x : List UInt8) : x.length ≤ (Pl.brk b x).length := by unfold Pl.brk; split <;> simp; omega
theorem cut_signs (k : Nat) (c : UInt8) (h : Pl.signs[k]? = some c) : (⟨#[126, 60, 62, 43, 45, 38, 124, 94]⟩ : ByteArray).extract k (k + 1) = Ba [c] := by
  have hk : k < 8 := (List.getElem?_eq_some_iff.1 h).1
  match k, hk with
  | 0, _ => injection h with h; subst h; rfl
  | 1, _ => injection h with h; subst h; rfl
  | 2, _ => injection h with h; subst h; rfl
  | 3, _ => injection h with h; subst h; rfl
  | 4, _ => injection h with h; subst h; rfl
  | 5, _ => injection h with h; subst h; rfl
  | 6, _ => injection h with h; subst h; rfl
  | 7, _ => injection h with h; subst h; rfl
set_option maxRecDepth 100000 in
set_option maxHeartbeats 4000000 in
theorem impl_text (S : Nat → Prop) : ∀ (t : Pl.Tr), t.ok → t.txt.length ≤ 1000000 → ∀ (g : Nat) (w : World), Node w S t g → Calls Tryz.prog 95 #[.pointer (some ⟨g, 0, none⟩)] w (OutT t.txt w)
  | .leaf s, ok, hlen, g, w, hN => by
    obtain ⟨_, c0, A, c, c1⟩ := hN
    obtain ⟨s0, s1⟩ := ok
    have ct := fun w => impl_takes s w
    rw [Pl.takes_0 s1] at ct
    rcases (by omega : s = 0 ∨ s = 1 ∨ s = 2 ∨ s = 3 ∨ s = 4 ∨ s = 5 ∨ s = 6 ∨ s = 7 ∨ s = 8 ∨ s = 9 ∨ s = 10 ∨ s = 11) with rfl | rfl | rfl | rfl | rfl | rfl | rfl | rfl | rfl | rfl | rfl | rfl
    all_goals
      go_enter Tryz.func95, Tryz.ntmps95
      go_wp2_with fail
      refine (ct _).mono ?_
      rintro e w' ⟨rfl, rfl⟩
      go_wp2_with fail
      go_quiet (fail)
      go_wp2_with fail
      go_ret
      exact ⟨rfl, _, rfl⟩
  | .un s t, ok, hlen, g, w, hN => by
    obtain ⟨_, c0, k, c, g1, _, c1, ck, hk⟩ := hN
    obtain ⟨⟨s0, s1⟩, ok1⟩ := ok
    have hlen' : (Pl.brk (t.two (-1)) t.txt).length + 1 ≤ 1000000 := by simpa [Pl.Tr.txt] using hlen
    have l1 : t.txt.length ≤ 1000000 := by have := brk_ge (t.two (-1)) t.txt; omega
    have ih := Lib.hid (fun g w h => impl_wrapped S t ok1 l1 (impl_text S t ok1 l1) (-1) g w h)
    have HK := Lib.hid hk
    have ct := fun w => impl_takes s w
    rw [Pl.takes_1 s0 s1] at ct
    rcases (by omega : s = 12 ∨ s = 13 ∨ s = 14) with rfl | rfl | rfl
    · have ec := cut_signs 0 _ rfl
      have ha := fun w => add_Ba (P := Tryz.prog) [126] (Pl.brk (t.two (-1)) t.txt) (by simp; omega) w
      go_enter Tryz.func95, Tryz.ntmps95
      go_wp2_with fail
      refine (ct _).mono ?_
      rintro e w' ⟨rfl, rfl⟩
      go_wp2_with fail
      go_quiet (first
        | (go_at_call 115; refine Calls.quiet_of (ih.out _ _ ?_); exact HK.out.drewN _))
      go_wp2_with fail
      go_ret
      exact ⟨rfl, _, rfl⟩
    · have ec := cut_signs 1 _ rfl
      have ha := fun w => add_Ba (P := Tryz.prog) [60] (Pl.brk (t.two (-1)) t.txt) (by simp; omega) w
      go_enter Tryz.func95, Tryz.ntmps95
      go_wp2_with fail
      refine (ct _).mono ?_
      rintro e w' ⟨rfl, rfl⟩
      go_wp2_with fail
      go_quiet (first
        | (go_at_call 115; refine Calls.quiet_of (ih.out _ _ ?_); exact HK.out.drewN _))
      go_wp2_with fail
      go_ret
      exact ⟨rfl, _, rfl⟩
    · have ec := cut_signs 2 _ rfl
      have ha := fun w => add_Ba (P := Tryz.prog) [62] (Pl.brk (t.two (-1)) t.txt) (by simp; omega) w
      go_enter Tryz.func95, Tryz.ntmps95
      go_wp2_with fail
      refine (ct _).mono ?_
      rintro e w' ⟨rfl, rfl⟩
      go_wp2_with fail
      go_quiet (first
        | (go_at_call 115; refine Calls.quiet_of (ih.out _ _ ?_); exact HK.out.drewN _))
      go_wp2_with fail
      go_ret
      exact ⟨rfl, _, rfl⟩
  | .bin s l r, ok, hlen, g, w, hN => by
    obtain ⟨_, c0, k, c, g1, g2, _, c1, ck1, ck2, hl, hr⟩ := hN
    obtain ⟨⟨s0, s1⟩, ok1, ok2⟩ := ok
    have hlen' : (Pl.brk (l.two s) l.txt).length + (Pl.brk (r.two (-1)) r.txt).length + 1 ≤ 1000000 := by have := hlen; simp [Pl.Tr.txt] at this; omega
    have l1 : l.txt.length ≤ 1000000 := by have := brk_ge (l.two s) l.txt; omega
    have l2 : r.txt.length ≤ 1000000 := by have := brk_ge (r.two (-1)) r.txt; omega
    have ir := Lib.hid (fun g w h => impl_wrapped S r ok2 l2 (impl_text S r ok2 l2) (-1) g w h)
    have HL := Lib.hid hl
    have HR := Lib.hid hr
    have ct := fun w => impl_takes s w
    rw [Pl.takes_2 s0] at ct
    clear hlen hl hr
    rcases (by omega : s = 15 ∨ s = 16 ∨ s = 17 ∨ s = 18 ∨ s = 19) with rfl | rfl | rfl | rfl | rfl
    · have ec := cut_signs 3 _ rfl
      have ha := fun w => add_Ba (P := Tryz.prog) (Pl.brk (l.two 15) l.txt) [43] (by simp; omega) w
      have hb := fun w => add_Ba (P := Tryz.prog) (Pl.brk (l.two 15) l.txt ++ [43]) (Pl.brk (r.two (-1)) r.txt) (by simp; omega) w
      have il := Lib.hid (fun g w h => impl_wrapped S l ok1 l1 (impl_text S l ok1 l1) 15 g w h)
      go_enter Tryz.func95, Tryz.ntmps95
      go_wp2_with fail
      refine (ct _).mono ?_
      rintro e w' ⟨rfl, rfl⟩
      go_wp2_with fail
      go_quiet (first
        | (go_at_call_of 115 g1; refine Calls.quiet_of (il.out _ _ ?_); exact HL.out.drewN _)
        | (go_at_call_of 115 g2; refine Calls.quiet_of (ir.out _ _ ?_); exact HR.out.drewN _))
      go_wp2_with fail
      go_ret
      exact ⟨by simp [Pl.Tr.txt, Pl.signCh, Pl.signs], _, rfl⟩
    · have ec := cut_signs 4 _ rfl
      have ha := fun w => add_Ba (P := Tryz.prog) (Pl.brk (l.two 16) l.txt) [45] (by simp; omega) w
      have hb := fun w => add_Ba (P := Tryz.prog) (Pl.brk (l.two 16) l.txt ++ [45]) (Pl.brk (r.two (-1)) r.txt) (by simp; omega) w
      have il := Lib.hid (fun g w h => impl_wrapped S l ok1 l1 (impl_text S l ok1 l1) 16 g w h)
      go_enter Tryz.func95, Tryz.ntmps95
      go_wp2_with fail
      refine (ct _).mono ?_
      rintro e w' ⟨rfl, rfl⟩
      go_wp2_with fail
      go_quiet (first
        | (go_at_call_of 115 g1; refine Calls.quiet_of (il.out _ _ ?_); exact HL.out.drewN _)
        | (go_at_call_of 115 g2; refine Calls.quiet_of (ir.out _ _ ?_); exact HR.out.drewN _))
      go_wp2_with fail
      go_ret
      exact ⟨by simp [Pl.Tr.txt, Pl.signCh, Pl.signs], _, rfl⟩
    · have ec := cut_signs 5 _ rfl
      have ha := fun w => add_Ba (P := Tryz.prog) (Pl.brk (l.two 17) l.txt) [38] (by simp; omega) w
      have hb := fun w => add_Ba (P := Tryz.prog) (Pl.brk (l.two 17) l.txt ++ [38]) (Pl.brk (r.two (-1)) r.txt) (by simp; omega) w
      have il := Lib.hid (fun g w h => impl_wrapped S l ok1 l1 (impl_text S l ok1 l1) 17 g w h)
      go_enter Tryz.func95, Tryz.ntmps95
      go_wp2_with fail
      refine (ct _).mono ?_
      rintro e w' ⟨rfl, rfl⟩
      go_wp2_with fail
      go_quiet (first
        | (go_at_call_of 115 g1; refine Calls.quiet_of (il.out _ _ ?_); exact HL.out.drewN _)
        | (go_at_call_of 115 g2; refine Calls.quiet_of (ir.out _ _ ?_); exact HR.out.drewN _))
      go_wp2_with fail
      go_ret
      exact ⟨by simp [Pl.Tr.txt, Pl.signCh, Pl.signs], _, rfl⟩
    · have ec := cut_signs 6 _ rfl
      have ha := fun w => add_Ba (P := Tryz.prog) (Pl.brk (l.two 18) l.txt) [124] (by simp; omega) w
      have hb := fun w => add_Ba (P := Tryz.prog) (Pl.brk (l.two 18) l.txt ++ [124]) (Pl.brk (r.two (-1)) r.txt) (by simp; omega) w
      have il := Lib.hid (fun g w h => impl_wrapped S l ok1 l1 (impl_text S l ok1 l1) 18 g w h)
      go_enter Tryz.func95, Tryz.ntmps95
      go_wp2_with fail
      refine (ct _).mono ?_
      rintro e w' ⟨rfl, rfl⟩
      go_wp2_with fail
      go_quiet (first
        | (go_at_call_of 115 g1; refine Calls.quiet_of (il.out _ _ ?_); exact HL.out.drewN _)
        | (go_at_call_of 115 g2; refine Calls.quiet_of (ir.out _ _ ?_); exact HR.out.drewN _))
      go_wp2_with fail
      go_ret
      exact ⟨by simp [Pl.Tr.txt, Pl.signCh, Pl.signs], _, rfl⟩
    · have ec := cut_signs 7 _ rfl
      have ha := fun w => add_Ba (P := Tryz.prog) (Pl.brk (l.two 19) l.txt) [94] (by simp; omega) w
      have hb := fun w => add_Ba (P := Tryz.prog) (Pl.brk (l.two 19) l.txt ++ [94]) (Pl.brk (r.two (-1)) r.txt) (by simp; omega) w
      have il := Lib.hid (fun g w h => impl_wrapped S l ok1 l1 (impl_text S l ok1 l1) 19 g w h)
      go_enter Tryz.func95, Tryz.ntmps95
      go_wp2_with fail
      refine (ct _).mono ?_
      rintro e w' ⟨rfl, rfl⟩
      go_wp2_with fail
      go_quiet (first
        | (go_at_call_of 115 g1; refine Calls.quiet_of (il.out _ _ ?_); exact HL.out.drewN _)
        | (go_at_call_of 115 g2; refine Calls.quiet_of (ir.out _ _ ?_); exact HR.out.drewN _))
      go_wp2_with fail
      go_ret
      exact ⟨by simp [Pl.Tr.txt, Pl.signCh, Pl.signs], _, rfl⟩
end Go.Proofs.YtamhpgledbmnoaaGreatDoor
