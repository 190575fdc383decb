/-
  The exact law of ReadJournal: for every text the program and the reference read the same deeds, and no memory is shared.
  Conditions: the library's variables stand.
-/
import Derived.Test.YtamhpgledbmnoaaDoorM5
import Derived.Test.YtamhpgledbmnoaaDoorHd
import Derived.Test.YtamhpgledbmnoaaDoorJr
import Derived.Test.YtamhpgledbmnoaaDoorJq
namespace Go.Proofs.YtamhpgledbmnoaaDoor
set_option linter.unusedVariables false
set_option linter.unusedSimpArgs false
open Go.RowKit
namespace Pl
theorem rj_len : ∀ (f : Nat) (s : List UInt8), (rj f s).1.length ≤ (rj f s).2 ∧ (rj f s).2 ≤ s.length
  | 0, s => by unfold rj; simp
  | f + 1, s => by
    unfold rj
    split
    · rename_i hi
      split
      · simp
      · have := rj_len f (s.drop (s.idxOf 10 + 1))
        rw [List.length_drop] at this
        simp only [List.length_cons]
        omega
    · simp
theorem readJ_len (s : List UInt8) : (readJ s).1.length ≤ s.length := by
  have := rj_len s.length s
  unfold readJ
  omega
end Pl
theorem Ba_data2 (a : ByteArray) : Ba a.data.toList = a := by unfold Ba; rw [Array.toArray_toList]
theorem outJ_n {x : List Pl.Dd × Nat} {n k : Nat} {ds : List Pl.Dd} {w w' : World} {e : Ending} (h : OutJ x w e w') (hx : x = (ds, k)) (hn : ds.length = n) :
    ∃ A c, e = .returned (.tuple #[.slice A n c, .int .i64 (k : Int)]) ∧ w'.ownsRow w.heap.size 26 3 (.slice A n c) n (D3 ds) ∧ Below w.heap.size w w' := by
  subst hx; subst hn; exact h
set_option maxRecDepth 100000 in
set_option maxHeartbeats 8000000 in
theorem law_FnExactReadJournal (a0 : ByteArray) (B : Nat) (w : World) (w0 : a0.size ≤ maxLen) (hl : LibOkE B w) :
    Calls Tryd.prog 6 #[.string a0] w fun e w' => e = .returned (.bool true) ∧ Below w.heap.size w w' := by
  obtain ⟨s, rfl⟩ : ∃ s, a0 = Ba s := ⟨a0.data.toList, (Ba_data2 a0).symm⟩
  have hsz := Ba_size s
  by_cases hbig : 1048576 < s.length
  · have hbi : (1048576 : Int) < ((s.length : Nat) : Int) := by omega
    clear w0
    go_enter Tryd.func6, Tryd.ntmps6
    go_wp2_with fail
    go_ret
    exact ⟨rfl, Below.refl _ _⟩
  have hbi : ¬ (1048576 : Int) < ((s.length : Nat) : Int) := by omega
  have hs : s.length ≤ 2000000 := by omega
  have CS := Lib.hid (fun w' => spec_ReadJournal s w' hs)
  have CI := Lib.hid (fun w' h => impl_ReadJournal s B w' h hs)
  have hnl := Pl.readJ_len s
  obtain ⟨⟨ds, k⟩, hx⟩ : ∃ x, Pl.readJ s = x := ⟨_, rfl⟩
  rw [hx] at CS CI hnl
  obtain ⟨n, hn⟩ : ∃ n, ds.length = n := ⟨_, rfl⟩
  have hn1 : n ≤ 2000000 := by have : ds.length ≤ s.length := hnl; omega
  have CE := Lib.hid (fun A A' c c' B' w' h h' hB => laws_eqDeedS A A' n c c' B' ds w' h h' hB (by omega))
  have CH := Lib.hid (fun A c B' w' h hB => laws_heldDeedS A n c B' 1 w' h hB (by omega) (by omega) (by omega))
  have CM := Lib.hid (fun base c A xs w' h hB => laws_markDeedS base n c 1 A xs w' h (by omega) (by omega) (by omega) hB)
  obtain ⟨q, hq⟩ : ∃ q, 1 + 3 * n = q := ⟨_, rfl⟩
  rw [hq] at CH CM
  have one : ((1 : Nat) : Int) = 1 := rfl
  simp only [one] at CH CM
  have hq0 : ¬ (q : Int) < 0 := by omega
  have hqq : ((q : Int) != (q : Int)) = false := by simp
  have hkk : ((k : Int) != (k : Int)) = false := by simp
  have HN := Lib.hid hn
  have HL := Lib.hid hl
  obtain ⟨g, hg⟩ : ∃ g, w.heap.size = g := ⟨_, rfl⟩
  have hBg : B ≤ g := by rw [← hg]; exact hl.sz
  have hb0 : Below g w w := by rw [← hg]; exact Below.refl _ _
  have HG := Lib.hid hg
  rw [hg]
  clear hx hs hbig w0 hnl hn hq one hl hg
  go_enter Tryd.func6, Tryd.ntmps6
  go_wp2_with fail
  refine (CS.out _).mono ?_
  rintro e w1 hh
  obtain ⟨A1, c1, rfl, own1, hb1⟩ := outJ_n hh rfl HN.out
  rw [HG.out] at hb1
  have hz1 : g ≤ w1.heap.size := by have := hb1.size; rw [HG.out] at this; exact this
  have RS := Lib.hid (rdD_own own1)
  have HL1 := HL.out.below (hb1.mono hBg)
  clear hh own1 CS HL HG hb0
  go_wp2_with fail
  refine (CI.out _ HL1).mono ?_
  rintro e w2 hh
  obtain ⟨A2, c2, rfl, own2, hb2⟩ := outJ_n hh rfl HN.out
  have hz2 := hb2.size
  have RS2 := Lib.hid (RS.out.below hb2)
  have RI2 := Lib.hid (rdD_own own2)
  have HL2 := HL1.on hb2
  have HB2 := hb1.trans (hb2.mono (by omega))
  have OWN2 := Lib.hid own2
  obtain ⟨g1, hg1⟩ : ∃ g1, w1.heap.size = g1 := ⟨_, rfl⟩
  rw [hg1] at RS2 OWN2 hz1 hz2
  clear hh own2 HL1 RS hb1 hb2 hg1
  go_wp2_with fail
  refine (CE.out _ _ _ _ _ _ RI2.out (RS2.out.more hz2) (Nat.le_refl _)).mono ?_
  rintro e w3 ⟨rfl, hb3⟩
  have hz3 := hb3.size
  have RS3 := Lib.hid (RS2.out.below (hb3.mono hz2))
  have HL3 := HL2.on hb3
  have HB3 := HB2.trans (hb3.mono (by omega))
  have OWN3 := Lib.hid (own_new OWN2.out hb3)
  clear hb3 HL2 HB2 RS2 RI2 OWN2
  go_wp2_with fail
  refine (CM.out _ _ _ _ _ OWN3.out (by omega)).mono ?_
  rintro e w4 ⟨rfl, own4, hgr⟩
  have hb4 : Below g1 w3 w4 := (Below.refl g1 w3).grown hgr (by omega) (fun k hk => (OWN3.out.lt k hk).1)
  have hz4 := hb4.size
  have RS4 := Lib.hid (RS3.out.below hb4)
  have HL4 := HL3.below (hb4.mono (by omega))
  have HB4 := HB3.trans (hb4.mono (by omega))
  have OWN4 := Lib.hid own4
  have RM4 := Lib.hid (rdD_own own4)
  clear own4 hgr hb4 HL3 HB3 RS3 OWN3
  go_wp2_with fail
  refine (CH.out _ _ _ _ RM4.out (Nat.le_refl _)).mono ?_
  rintro e w5 ⟨rfl, hb5⟩
  have hz5 := hb5.size
  have RS5 := Lib.hid (RS4.out.below (hb5.mono (by omega)))
  have RM5 := Lib.hid ((RM4.out.below hb5).more hz5)
  have HL5 := HL4.on hb5
  have HB5 := HB4.trans (hb5.mono (by omega))
  clear hb5 HL4 HB4 RS4 RM4 OWN4
  go_wp2_with fail
  refine (CI.out _ HL5).mono ?_
  rintro e w6 hh
  obtain ⟨A6, c6, rfl, own6, hb6⟩ := outJ_n hh rfl HN.out
  have hz6 := hb6.size
  have RS6 := Lib.hid (RS5.out.below (hb6.mono (by omega)))
  have RM6 := Lib.hid ((RM5.out.below hb6).more hz6)
  have RI6 := Lib.hid (rdD_own own6)
  have HB6 := HB5.trans (hb6.mono (by omega))
  clear hh own6 hb6 HL5 HB5 RS5 RM5
  go_wp2_with fail
  refine (CE.out _ _ _ _ _ _ RI6.out (RS6.out.more (by omega)) (Nat.le_refl _)).mono ?_
  rintro e w7 ⟨rfl, hb7⟩
  have hz7 := hb7.size
  have RM7 := Lib.hid ((RM6.out.below hb7).more hz7)
  have HB7 := HB6.trans (hb7.mono (by omega))
  clear hb7 HB6 RS6 RM6 RI6
  go_wp2_with fail
  refine (CH.out _ _ _ _ RM7.out (Nat.le_refl _)).mono ?_
  rintro e w8 ⟨rfl, hb8⟩
  have HB8 := HB7.trans (hb8.mono (by omega))
  clear hb8 HB7 RM7
  go_wp2_with fail
  go_ret
  exact ⟨rfl, HB8⟩
end Go.Proofs.YtamhpgledbmnoaaDoor
