/-
  The given reader of a journal.
  Conditions: as stated.
-/
import Derived.Test.YtamhpgledbmnoaaDoorRs
import Derived.Test.YtamhpgledbmnoaaDoorPg
import Derived.Test.YtamhpgledbmnoaaDoorJo
namespace Go.Proofs.YtamhpgledbmnoaaDoor
set_option linter.unusedVariables false
set_option linter.unusedSimpArgs false
open Go.RowKit
namespace Pl
theorem idx_is : ∀ (l : List UInt8) (m : Nat), (∀ k, k < m → l[k]? ≠ some 10) → l[m]? = some 10 → l.idxOf 10 = m
  | [], m, _, h => by simp at h
  | c :: l, 0, _, h => by
    simp at h
    subst h
    simp
  | c :: l, m + 1, h, hm => by
    have hc : (c == (10 : UInt8)) = false := by
      rw [beq_eq_false_iff_ne]
      intro e
      exact h 0 (by omega) (by simp [e])
    rw [List.idxOf_cons, hc, cond_false, idx_is l m (fun k hk => by have := h (k + 1) (by omega); simpa using this) (by simpa using hm)]
theorem idx_isnt {l : List UInt8} (h : ∀ k : Nat, l[k]? ≠ some 10) : ¬ l.idxOf 10 < l.length := by
  intro hl
  rw [List.idxOf_lt_length_iff] at hl
  obtain ⟨k, hk⟩ := List.getElem?_of_mem hl
  exact h k hk
end Pl
theorem Ba_mid (s : List UInt8) (a i : Nat) : (Ba s).extract a i = Ba ((s.drop a).take (i - a)) := by
  apply ByteArray.ext
  rw [ByteArray.data_extract]
  show (s.toArray).extract a i = ((s.drop a).take (i - a)).toArray
  simp
set_option maxRecDepth 100000 in
set_option maxHeartbeats 8000000 in
theorem spec_ReadJournal (s : List UInt8) (w : World) (hs : s.length ≤ 2000000) :
    Calls Tryd.prog 19 #[.string (Ba s)] w (OutJ (Pl.readJ s) w) := by
  have hsz := Ba_size s
  obtain ⟨g, hg⟩ : ∃ g, w.heap.size = g := ⟨_, rfl⟩
  obtain ⟨w0, hw0⟩ : ∃ w0, w0 = w.alloc (.cells #[] 26) := ⟨_, rfl⟩
  have hz0 : w0.heap.size = g + 1 := by rw [hw0, ← hg]; simp
  have HB0 : Below g w w0 := by rw [hw0, ← hg]; go_grown
  have own0 : w0.ownsRow g 26 3 (.slice (some ⟨g, 0, none⟩) 0 0) 0 (D3 []) := by
    rw [hw0]
    have := World.ownsRow_made (base := g) (e := 26) (size := 3) w #[] 0 (by omega) (by simp [maxLen]) rfl
    rw [hg] at this
    exact this
  unfold OutJ
  rw [hg]
  have OWN0 := Lib.hid own0
  clear own0
  go_enter Tryd.func19, Tryd.ntmps19
  go_upto_region 2 with (fail)
  try rw [hg]
  rw [← hw0]
  clear hw0 hg
  go_wp2_with fail
  go_loopw [4, 5, 6] (fun vd vp vi wr => ∃ (ds : List Pl.Dd) (A : Option Addr) (n c a i : Nat), vd = .slice A n c ∧ vp = .int .i64 (a : Int) ∧ vi = .int .i64 (i : Int) ∧ Hid (ds.length = n) ∧ Hid (Pl.Read s ds a) ∧ a ≤ i ∧ i ≤ s.length ∧ n ≤ a ∧ Hid (∀ k : Nat, a ≤ k → k < i → s[k]? ≠ some 10) ∧ Hid (wr.ownsRow g 26 3 (.slice A n c) n (D3 ds)) ∧ g ≤ wr.heap.size ∧ Below g w wr) (fun _ _ vi _ => s.length - (intOf vi).toNat)
  case atStart => exact ⟨[], _, 0, 0, 0, 0, rfl, rfl, rfl, Lib.hid rfl, Lib.hid (Pl.read_start s), by omega, by omega, by omega, Lib.hid (fun k h1 h2 => by omega), OWN0, by omega, HB0⟩
  case round =>
    obtain ⟨ds, A, n, c, a, i, rfl, rfl, rfl, HN, HR, hai, hi, hda, HNO, OWN, hz, hb⟩ := hrel
    by_cases hlt : i < s.length
    · obtain ⟨x, hx⟩ : ∃ x, s[i]? = some x := ⟨_, List.getElem?_eq_getElem (by omega)⟩
      have hch := fun h => ba_at hx h
      have k0 : (0 : Int) ≤ (i : Int) := by omega
      have k1 : (i : Int) < ((s.length : Nat) : Int) := by omega
      by_cases hx10 : x = 10
      · subst hx10
        have ex := Ba_mid s a i
        have k2 : (0 : Int) ≤ (a : Int) := by omega
        have k3 : (a : Int) ≤ (i : Int) := by omega
        have k4 : (i : Int) ≤ ((s.length : Nat) : Int) := by omega
        have hio := Pl.idx_is (s.drop a) (i - a) (fun k hk => by rw [List.getElem?_drop]; exact HNO.out (a + k) (by omega) (by omega)) (by rw [List.getElem?_drop, show a + (i - a) = i by omega]; exact hx)
        obtain ⟨h, hh⟩ : ∃ h, (s.drop a).take (i - a) = h := ⟨_, rfl⟩
        have hhl : h.length ≤ 2000000 := by rw [← hh, List.length_take, List.length_drop]; omega
        rw [hh] at ex
        have CD := Lib.hid (fun w' => spec_ReadDeed h w' hhl)
        obtain ⟨rd, hrd⟩ : ∃ rd, Pl.readD h = rd := ⟨_, rfl⟩
        rw [hrd] at CD
        unfold RdO deedV at CD
        have HI := Lib.hid hio
        have HH := Lib.hid hh
        have HRD := Lib.hid hrd
        have hnl : Hid (i - a < (s.drop a).length) := Lib.hid (by rw [List.length_drop]; omega)
        clear hio hh hrd hx
        go_wp2_with fail
        refine (CD.out _).mono ?_
        rintro e w2 ⟨rfl, hb2⟩
        have hz2 := hb2.size
        have HB2 : Below g w w2 := hb.trans (hb2.mono hz)
        have OWN2 := Lib.hid (own_new OWN.out hb2)
        clear hb2 OWN hb CD
        cases rd with
        | none =>
          have hr := Lib.hid (Pl.read_end HR.out (Pl.readJ_bad (by rw [HI.out, HH.out, HRD.out])))
          go_wp2_with fail
          go_ret2
          rw [hr.out]
          have hn := HN.out
          subst hn
          exact ⟨A, c, rfl, own_alloc OWN2.out _, HB2.alloc (by omega) _⟩
        | some d =>
          obtain ⟨p, q2, r⟩ := d
          obtain ⟨w3, hw3⟩ : ∃ w3, w3 = w2.alloc (.cells #[.int .i64 p, .int .i64 q2, .string (Ba r)] 26) := ⟨_, rfl⟩
          have K3 : Blk w3 w2.heap.size 26 #[.int .i64 p, .int .i64 q2, .string (Ba r)] := by rw [hw3]; exact Blk.new _ _ _
          have HB3 : Below g w w3 := by rw [hw3]; exact HB2.alloc (by omega) _
          have OWN3 : Hid (w3.ownsRow g 26 3 (.slice A n c) n (D3 ds)) := Lib.hid (by rw [hw3]; exact own_alloc OWN2.out _)
          have hz3 : w2.heap.size ≤ w3.heap.size := by rw [hw3]; simp
          have HX := Lib.hid (Pl.read_step (i := i - a) HR.out HI.out hnl.out (by rw [HH.out]; exact HRD.out))
          go_upto_region 10 with (fail)
          try simp only [Option.getD_some]
          rw [← hw3]
          clear hw3 OWN2 HB2
          obtain ⟨⟨c0, c1, c2⟩, _⟩ := cells3q K3
          clear K3
          go_wp2_with (at_builtin; go_must (refine app_deedB rfl (.tmp 32) (.tmp 34) rfl g (.slice A n c) n ds rfl (own_alloc OWN3.out _) _ 1 1 [⟨p, q2, r⟩] _ (by first | rfl | (go_simp; done)) rfl (Blk.new _ _ _) rfl (by omega) (by omega) (by omega) (by simp; omega) ?_; intro A7 c7 wb own7 hb7; have HBb : Below g w3 wb := ((Below.refl _ _).alloc (by omega) _).trans hb7; have OWN7 := Lib.hid own7; clear own7 hb7))
          have hz7 := HBb.size
          have HB7 := HB3.trans HBb
          go_roundw
          case rel => exact ⟨ds ++ [⟨p, q2, r⟩], A7, n + 1, c7, i + 1, i + 1, rfl, by go_num, by go_num, Lib.hid (by rw [List.length_append, HN.out]; rfl), Lib.hid (by have := HX.out; rwa [show a + (i - a + 1) = i + 1 by omega] at this), by omega, by omega, by omega, Lib.hid (fun k h1 h2 => by omega), OWN7, by omega, HB7⟩
          case measure => simp [intOf]; omega
      · have hbx : ((x.toNat : Int) == 10) = false := by
          rw [beq_eq_false_iff_ne]
          intro h
          exact hx10 (UInt8.toNat_inj.1 (by show x.toNat = 10; omega))
        have HX := Lib.hid hx
        have H10 := Lib.hid hx10
        clear hx hx10
        go_wp2_with fail
        go_roundw
        case rel =>
          refine ⟨ds, A, n, c, a, i + 1, rfl, rfl, by go_num, HN, HR, by omega, by omega, hda, Lib.hid (fun k h1 h2 => ?_), OWN, hz, hb⟩
          rcases Nat.lt_or_ge k i with h | h
          · exact HNO.out k h1 h
          · obtain rfl : k = i := by omega
            rw [HX.out]
            intro e
            injection e with e
            exact H10.out e
        case measure => simp [intOf]; omega
    · obtain rfl : i = s.length := by omega
      have hr := Lib.hid (Pl.read_end HR.out (Pl.readJ_no (Pl.idx_isnt (fun k => by
        rw [List.getElem?_drop]
        rcases Nat.lt_or_ge (a + k) s.length with h | h
        · exact HNO.out (a + k) (by omega) h
        · rw [List.getElem?_eq_none h]; simp))))
      go_wp2_with fail
      go_ret2
      rw [hr.out]
      have hn := HN.out
      subst hn
      exact ⟨A, c, rfl, OWN.out, hb⟩
end Go.Proofs.YtamhpgledbmnoaaDoor
