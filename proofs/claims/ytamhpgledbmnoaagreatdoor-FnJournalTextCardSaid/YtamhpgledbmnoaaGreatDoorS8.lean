/-
  The reference's ExprSimple.
  Conditions: as stated at each.
-/
import Derived.Test.YtamhpgledbmnoaaGreatDoorS7
namespace Go.Proofs.YtamhpgledbmnoaaGreatDoor
set_option linter.unusedVariables false
set_option linter.unusedSimpArgs false
open Go.RowKit
theorem spec_l9Simple : ∀ (t : Pl.Tr), t.ok → t.post.length ≤ 1000 → ∀ (b off n c B : Nat) (w : World), Rd w B (some ⟨b, off, none⟩) n (I64 t.post) → n ≤ c → B ≤ w.heap.size →
    Calls Tryz.prog 82 #[.slice (some ⟨b, off, none⟩) n c] w (OutP w.heap.size (Pl.simpT t).post w)
  | .leaf s, ok, hlen, b, off, n, c, B, w, hx, hnc, hB => by
    obtain rfl : n = 1 := by have := hx.len; rw [I64_len] at this; simpa [Pl.Tr.post] using this.symm
    exact spec_simple_leaf s ok.1 ok.2 b off c B w hx hB
  | .un s t, ok, hlen, b, off, n, c, B, w, hx, hnc, hB => by
    obtain ⟨rfl, H⟩ := unW hx hnc hB hlen
    have hl := H.hlen
    have hs := Pl.simpT_len t
    exact spec_simple_un s ok.1.1 ok.1.2 t (Pl.simpT t) (Pl.simpT_ok t ok.2) (by omega) b off c B _ w H (fun w' h h2 => spec_l9Simple t ok.2 hl b off _ c B w' h (by omega) h2)
  | .bin s l r, ok, hlen, b, off, n, c, B, w, hx, hnc, hB => by
    have hl1 : l.post.length ≤ 1000 := by simp [Pl.Tr.post] at hlen; omega
    have hl2 : r.post.length ≤ 1000 := by simp [Pl.Tr.post] at hlen; omega
    obtain ⟨rfl, H⟩ := binW hx hnc hB ok.2.2 (by omega)
    have hs1 := Pl.simpT_len l
    have hs2 := Pl.simpT_len r
    exact spec_simple_bin s ok.1.1 ok.1.2 l r (Pl.simpT l) (Pl.simpT r) (Pl.simpT_ok l ok.2.1) (Pl.simpT_ok r ok.2.2) (by omega) (by omega) b off c B _ _ w H
      (fun w' h h2 => spec_l9Simple l ok.2.1 hl1 b off _ c B w' h (by omega) h2)
      (fun w' h h2 => spec_l9Simple r ok.2.2 hl2 b (off + l.post.length) _ (c - l.post.length) B w' h (by omega) h2)
set_option maxRecDepth 100000 in
set_option maxHeartbeats 2000000 in
theorem spec_ExprSimple (A : Option Addr) (n c B : Nat) (xs : List Int) (w : World) (hx : Rd w B A n (I64 xs)) (hB : B ≤ w.heap.size) (hn : n ≤ 1000000000000) (hnc : n ≤ c) :
    Calls Tryz.prog 58 #[.slice A n c] w (OutP w.heap.size (Pl.exprSimple xs) w) := by
  have lx : xs.length = n := by have := hx.len; rwa [I64_len] at this
  have cv := fun w' => spec_ExprValid A n c B xs w'
  cases he : Pl.exprValid xs
  · have hr := Lib.hid (Pl.exprSimple_f he)
    rw [he] at cv
    go_enter Tryz.func58, Tryz.ntmps58
    go_wp2_with fail
    refine (cv _ hx hn).mono ?_
    rintro e w' ⟨rfl, rfl⟩
    go_wp2_with fail
    go_ret
    rw [hr.out]
    exact ⟨some ⟨w.heap.size, 0, none⟩, 0, rfl, World.ownsRow_made w #[] 0 (Nat.le_refl _) (by simp [maxLen]) rfl, (Below.refl _ _).alloc (Nat.le_refl _) _⟩
  · have hr := Lib.hid (Pl.exprSimple_t he)
    rw [he] at cv
    obtain ⟨h1, h2, h3⟩ := Pl.run_valid he
    have hv := Pl.valid_t he
    obtain ⟨b, off, rfl, hbl, hc⟩ := hx.pos (by omega)
    have hx' : Rd w B (some ⟨b, off, none⟩) n (I64 (Pl.tree xs).post) := by rw [h3]; exact hx
    have hT := spec_l9Simple (Pl.tree xs) h2 (by rw [h3]; omega) b off n c B w hx' hnc hB
    have HT := Lib.hid hT
    have HX := Lib.hid hx
    clear hT hx' hc h1 h2 h3 he lx hx
    go_enter Tryz.func58, Tryz.ntmps58
    go_wp2_with fail
    refine (cv _ HX.out hn).mono ?_
    rintro e w' ⟨rfl, rfl⟩
    go_wp2_with fail
    refine (HT.out).mono ?_
    rintro e w' ⟨A2, c2, rfl, own2, hb⟩
    go_wp2_with fail
    go_ret
    rw [hr.out]
    exact ⟨A2, c2, rfl, own2, hb⟩
end Go.Proofs.YtamhpgledbmnoaaGreatDoor
