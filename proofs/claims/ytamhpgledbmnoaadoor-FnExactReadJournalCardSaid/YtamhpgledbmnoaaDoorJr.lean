/-
  The program's reader of a journal.
  Conditions: the library's variables stand.
-/
import Derived.Test.YtamhpgledbmnoaaDoorRi
import Derived.Test.YtamhpgledbmnoaaDoorRs
import Derived.Test.YtamhpgledbmnoaaDoorPg
import Derived.Test.YtamhpgledbmnoaaDoorJo
namespace Go.Proofs.YtamhpgledbmnoaaDoor
set_option linter.unusedVariables false
set_option linter.unusedSimpArgs false
open Go.RowKit
set_option maxRecDepth 100000 in
set_option maxHeartbeats 8000000 in
theorem impl_ReadJournal (s : List UInt8) (B : Nat) (w : World) (hl : LibOkE B w) (hs : s.length ≤ 2000000) :
    Calls Tryd.prog 20 #[.string (Ba s)] w (OutJ (Pl.readJ s) w) := by
  have hsz := Ba_size s
  obtain ⟨g, hg⟩ : ∃ g, w.heap.size = g := ⟨_, rfl⟩
  have hBg : B ≤ g := by rw [← hg]; exact hl.sz
  have hb0 : Below g w w := by rw [← hg]; exact Below.refl _ _
  unfold OutJ
  rw [hg]
  have HL0 := Lib.hid hl
  have HG := Lib.hid hg
  clear hl hg
  go_enter Tryd.func20, Tryd.ntmps20
  go_wp2_with fail
  go_loopw [4, 5] (fun vd vp wr => ∃ (ds : List Pl.Dd) (A : Option Addr) (n c a : Nat), vd = .slice A n c ∧ vp = .int .i64 (a : Int) ∧ Hid (ds.length = n) ∧ Hid (Pl.Read s ds a) ∧ a ≤ s.length ∧ n ≤ a ∧ Hid (wr.ownsRow g 26 3 (.slice A n c) n (D3 ds)) ∧ g ≤ wr.heap.size ∧ LibOkE B wr ∧ Below g w wr) (fun _ vp _ => s.length - (intOf vp).toNat)
  case atStart => exact ⟨[], none, 0, 0, 0, rfl, rfl, Lib.hid rfl, Lib.hid (Pl.read_start s), by omega, by omega, Lib.hid (World.ownsRow_nil _ _ _ _), by rw [HG.out]; exact Nat.le_refl _, HL0.out, hb0⟩
  case round =>
    obtain ⟨ds, A, n, c, a, rfl, rfl, HN, HR, ha, hda, OWN, hz, HL, hb⟩ := hrel
    have ex := Ba_drop' s a
    have k1 : (0 : Int) ≤ (a : Int) := by omega
    have k2 : (a : Int) ≤ ((s.length : Nat) : Int) := by omega
    obtain ⟨t, ht⟩ : ∃ t, s.drop a = t := ⟨_, rfl⟩
    have htl : t.length = s.length - a := by rw [← ht, List.length_drop]
    rw [ht] at ex
    have HT := Lib.hid ht
    have htl2 : t.length ≤ 2000000 := by omega
    have HTL := Lib.hid htl
    clear ht htl
    by_cases hi : t.idxOf 10 < t.length
    · have CC := Lib.hid (lib_cutB 10 t _ _ _ wr HL htl2 (Pl.cut_at 10 hi))
      obtain ⟨i, hi'⟩ : ∃ i, t.idxOf 10 = i := ⟨_, rfl⟩
      rw [hi'] at CC hi
      obtain ⟨h, hh⟩ : ∃ h, t.take i = h := ⟨_, rfl⟩
      have hhl : h.length = i := by rw [← hh, List.length_take]; omega
      have hhs := Ba_size h
      rw [hhl] at hhs
      rw [hh] at CC
      have CD := Lib.hid (fun w' hL => impl_ReadDeed h B w' hL (by omega))
      obtain ⟨rd, hrd⟩ : ∃ rd, Pl.readD h = rd := ⟨_, rfl⟩
      rw [hrd] at CD
      unfold RdO deedV at CD
      have HI := Lib.hid hi'
      have HH := Lib.hid hh
      have HRD := Lib.hid hrd
      have hin : i < t.length := hi
      have HIN := Lib.hid hin
      have hia : a + (i + 1) ≤ s.length := by have := HTL.out; omega
      clear hi hi' hh hhl hrd hin
      go_wp2_with fail
      refine (CC.out).mono ?_
      rintro e w1 ⟨rfl, q, rfl⟩
      go_wp2_with fail
      refine (CD.out _ (HL.drewN q)).mono ?_
      rintro e w2 ⟨rfl, hb2⟩
      have hb2' : Below wr.heap.size wr w2 := ⟨hb2.os, hb2.tape, hb2.output, hb2.size, hb2.block⟩
      have hz2 : wr.heap.size ≤ w2.heap.size := hb2'.size
      have HB2 : Below g w w2 := hb.trans (hb2'.mono hz)
      have HL2 : LibOkE B w2 := HL.on hb2'
      have OWN2 := Lib.hid (own_new OWN.out hb2')
      clear hb2 hb2' HL OWN hb CC CD
      cases rd with
      | none =>
        have hr := Lib.hid (Pl.read_end HR.out (by rw [HT.out]; exact Pl.readJ_bad (by rw [HI.out, HH.out, HRD.out])))
        go_wp2_with fail
        go_ret2
        rw [hr.out]
        have hn := HN.out
        subst hn
        exact ⟨A, c, rfl, own_alloc OWN2.out _, HB2.alloc (by omega) _⟩
      | some d =>
        obtain ⟨p, q2, r⟩ := d
        obtain ⟨w3, hw3⟩ : ∃ w3, w3 = w2.alloc (.cells #[.int .i64 p, .int .i64 q2, .string (Ba r)] 26) := ⟨_, rfl⟩
        have K3 : Blk w3 w2.heap.size 26 #[.int .i64 p, .int .i64 q2, .string (Ba r)] := by rw [hw3]; exact Blk.new _ _ _
        have HB3 : Below g w w3 := by rw [hw3]; exact HB2.alloc (by omega) _
        have HL3 : LibOkE B w3 := by rw [hw3]; exact HL2.alloc _
        have OWN3 : Hid (w3.ownsRow g 26 3 (.slice A n c) n (D3 ds)) := Lib.hid (by rw [hw3]; exact own_alloc OWN2.out _)
        have hz3 : w2.heap.size ≤ w3.heap.size := by rw [hw3]; simp
        have HX := Lib.hid (Pl.read_step (i := i) HR.out (by rw [HT.out]; exact HI.out) (by rw [HT.out]; exact HIN.out) (by rw [HT.out, HH.out]; exact HRD.out))
        go_upto_region 7 with (fail)
        try simp only [Option.getD_some]
        rw [← hw3]
        clear hw3 OWN2 HB2 HL2
        obtain ⟨⟨c0, c1, c2⟩, _⟩ := cells3q K3
        clear K3
        go_wp2_with (at_builtin; go_must (refine app_deedB rfl (.tmp 32) (.tmp 34) rfl g (.slice A n c) n ds rfl (own_alloc OWN3.out _) _ 1 1 [⟨p, q2, r⟩] _ (by first | rfl | (go_simp; done)) rfl (Blk.new _ _ _) rfl (by omega) (by omega) (by omega) (by simp; omega) ?_; intro A7 c7 wb own7 hb7; have HBb : Below g w3 wb := ((Below.refl _ _).alloc (by omega) _).trans hb7; have OWN7 := Lib.hid own7; clear own7 hb7))
        have hz7 := HBb.size
        have HB7 := HB3.trans HBb
        have HL7 : LibOkE B wb := HL3.below (HBb.mono hBg)
        go_roundw
        case rel => exact ⟨ds ++ [⟨p, q2, r⟩], A7, n + 1, c7, a + (i + 1), rfl, by go_num, Lib.hid (by rw [List.length_append, HN.out]; rfl), HX, hia, by omega, OWN7, by omega, HL7, HB7⟩
        case measure => simp [intOf]; omega
    · have CC := Lib.hid (lib_cutB 10 t _ _ _ wr HL htl2 (Pl.cut_none 10 hi))
      have CD := Lib.hid (fun w' hL => impl_ReadDeed t B w' hL (by omega))
      obtain ⟨rd, hrd⟩ : ∃ rd, Pl.readD t = rd := ⟨_, rfl⟩
      rw [hrd] at CD
      unfold RdO deedV at CD
      have hr := Lib.hid (Pl.read_end HR.out (by rw [HT.out]; exact Pl.readJ_no hi))
      clear hrd hi
      go_wp2_with fail
      refine (CC.out).mono ?_
      rintro e w1 ⟨rfl, q, rfl⟩
      go_wp2_with fail
      refine (CD.out _ (HL.drewN q)).mono ?_
      rintro e w2 ⟨rfl, hb2⟩
      have hb2' : Below wr.heap.size wr w2 := ⟨hb2.os, hb2.tape, hb2.output, hb2.size, hb2.block⟩
      have hz2 : wr.heap.size ≤ w2.heap.size := hb2'.size
      have HB2 : Below g w w2 := hb.trans (hb2'.mono hz)
      have OWN2 := Lib.hid (own_new OWN.out hb2')
      clear hb2 hb2' HL OWN hb CC CD
      go_wp2_with fail
      go_ret2
      rw [hr.out]
      have hn := HN.out
      subst hn
      exact ⟨A, c, rfl, own_alloc OWN2.out _, HB2.alloc (by omega) _⟩
end Go.Proofs.YtamhpgledbmnoaaDoor
