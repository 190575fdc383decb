/-
  The program's simpler: what a step that takes two makes of parts that are simple.
  Conditions: as stated at each. (Printed by wip/gen/s3.py.)
-/
import Derived.Test.YtamhpgledbmnoaaGreatKS
namespace Go.Proofs.YtamhpgledbmnoaaGreat
set_option linter.unusedVariables false
set_option linter.unusedSimpArgs false
open Go.RowKit
theorem dec_t {a b : List Int} (h : a = b) : decide (a = b) = true := by simpa using h
theorem dec_f {a b : List Int} (h : a ≠ b) : decide (a = b) = false := by simpa using h
theorem is_zero {t : Pl.Tr} (ok : t.ok) : t.post = [0] ↔ t = .leaf 0 := ⟨fun h => Pl.post_inj ok Pl.zero_ok h, fun h => by rw [h]; rfl⟩
set_option maxRecDepth 100000 in
set_option maxHeartbeats 8000000 in
theorem simpler_bin_15 (ta tb : Pl.Tr) (oka : ta.ok) (okb : tb.ok) (pb n c n' c' B pc : Nat) (A A' : Option Addr) (w : World) (own1 : w.ownsRow B 3 1 (.slice A n c) n (I64 ta.post)) (own2 : w.ownsRow B 3 1 (.slice A' n' c') n' (I64 tb.post)) (hl : n ≤ 1000) (hl' : n' ≤ 1000)
    (hp : w.cell? ⟨pb, 0, none⟩ = some (.slice A n c)) (hp' : w.cell? ⟨pb, 1, none⟩ = some (.slice A' n' c')) (hB : B ≤ w.heap.size) :
    Calls Tryz.prog 115 #[.int .i64 15, .slice (some ⟨pb, 0, none⟩) 2 pc] w (OutP B (Pl.simp2 15 ta tb).post w) := by
  have hn : ta.post.length = n := own_ilen own1
  have hn' : tb.post.length = n' := own_ilen own2
  have hpa := ta.post_pos
  have hpb := tb.post_pos
  obtain ⟨g, rfl, hg0, hg1⟩ := own_some own1 (by omega)
  obtain ⟨g', rfl, hg0', hg1'⟩ := own_some own2 (by omega)
  have RA := Lib.hid (((rd_own own1).alloc (Nat.le_refl _) (.cells #[.int .i64 0] 3)).more (Nat.le_succ _))
  have RB := Lib.hid (((rd_own own2).alloc (Nat.le_refl _) (.cells #[.int .i64 0] 3)).more (Nat.le_succ _))
  have RN : Hid (Rd (w.alloc (.cells #[.int .i64 0] 3)) (w.heap.size + 1) (some ⟨w.heap.size, 0, none⟩) 1 (I64 [0])) := Lib.hid (by
    have h := rd_own (own_lit1 w 0 (B := B) hB rfl)
    simpa using h)
  have OWA := Lib.hid (own1.alloc (.cells #[.int .i64 0] 3))
  have OWB := Lib.hid (own2.alloc (.cells #[.int .i64 0] 3))
  have OWN := Lib.hid (own_lit1 w 0 (B := B) hB rfl)
  have HNA := Lib.hid hn
  have HNB := Lib.hid hn'
  have HCl := Lib.hid (fun q => clone_ints g 0 n c (I64 ta.post) ((w.alloc (.cells #[.int .i64 0] 3)).drewN q) (by rw [I64_len, hn]) (fun j u hu => by rw [Nat.zero_add]; exact own_cell OWA.out hu) (by simp; omega) (fun u hu => by unfold I64 at hu; obtain ⟨_, _, rfl⟩ := List.mem_map.1 hu; rfl) hl)
  have ct := fun w => impl_takes 15 w
  rw [Pl.takes_2 (s := 15) (by omega)] at ct
  have hpi := fun h => Pl.post_inj oka okb h
  have hza' := is_zero oka
  have hzb' := is_zero okb
  clear own1 own2 hn hn' hpa hpb oka okb
  by_cases hab : ta = tb
  · skip
    have hsm := dec_t (congrArg Pl.Tr.post hab)
    have HSM := Lib.hid hsm
    by_cases hzb0 : tb = .leaf 0
    · have hza : True := trivial
      have hzb := dec_t (hzb'.2 hzb0)
      have HZB := Lib.hid hzb
      have hE : (Pl.simp2 15 ta tb).post = (ta : Pl.Tr).post := by congr 1; unfold Pl.simp2; simp [hab, hzb0] <;> first | exact fun h => h.symm | exact fun h => absurd h.symm (by assumption)
      have HE := Lib.hid hE
      clear hE hsm hzb hza hab hzb0 hpi hza' hzb'
      go_enter Tryz.func115, Tryz.ntmps115
      go_wp2_with fail
      refine (ct _).mono ?_
      rintro e w' ⟨rfl, rfl⟩
      go_wp2_with fail
      refine (equal_ints (some ⟨g, 0, none⟩) (some ⟨g', 0, none⟩) n n' c c' (w.heap.size + 1) ta.post tb.post _ (RA.out) (RB.out) (by omega) (by omega)).mono ?_
      rw [HSM.out]
      rintro e w' ⟨rfl, q0, rfl⟩
      go_wp2_with fail
      refine (equal_ints (some ⟨g', 0, none⟩) (some ⟨w.heap.size, 0, none⟩) n' 1 c' 1 (w.heap.size + 1) tb.post [0] _ (RB.out.drewN _) (RN.out.drewN _) (by omega) (by omega)).mono ?_
      rw [HZB.out]
      rintro e w' ⟨rfl, q1, rfl⟩
      go_wp2_with fail
      refine (equal_ints (some ⟨g', 0, none⟩) (some ⟨w.heap.size, 0, none⟩) n' 1 c' 1 (w.heap.size + 1) tb.post [0] _ (RB.out.drewN _) (RN.out.drewN _) (by omega) (by omega)).mono ?_
      rw [HZB.out]
      rintro e w' ⟨rfl, q2, rfl⟩
      go_wp2_with fail
      go_ret
      rw [HE.out]
      exact outP_row HNA.out (OWA.out) (below_drewN ((Below.refl w.heap.size w).alloc (Nat.le_refl _) _) _)
    · skip
      have hzb := dec_f (fun h => hzb0 (hzb'.1 h))
      have HZB := Lib.hid hzb
      by_cases hza0 : ta = .leaf 0
      · skip
        exact absurd (hab ▸ hza0) hzb0
      · skip
        have hza := dec_f (fun h => hza0 (hza'.1 h))
        have HZA := Lib.hid hza
        have hE : (Pl.simp2 15 ta tb).post = (.bin 15 ta tb : Pl.Tr).post := by congr 1; unfold Pl.simp2; simp [hab, hzb0, hza0] <;> first | exact fun h => h.symm | exact fun h => absurd h.symm (by assumption)
        have HE := Lib.hid hE
        clear hE hsm hzb hza hab hzb0 hza0 hpi hza' hzb'
        go_enter Tryz.func115, Tryz.ntmps115
        go_wp2_with fail
        refine (ct _).mono ?_
        rintro e w' ⟨rfl, rfl⟩
        go_wp2_with fail
        refine (equal_ints (some ⟨g, 0, none⟩) (some ⟨g', 0, none⟩) n n' c c' (w.heap.size + 1) ta.post tb.post _ (RA.out) (RB.out) (by omega) (by omega)).mono ?_
        rw [HSM.out]
        rintro e w' ⟨rfl, q0, rfl⟩
        go_wp2_with fail
        refine (equal_ints (some ⟨g', 0, none⟩) (some ⟨w.heap.size, 0, none⟩) n' 1 c' 1 (w.heap.size + 1) tb.post [0] _ (RB.out.drewN _) (RN.out.drewN _) (by omega) (by omega)).mono ?_
        rw [HZB.out]
        rintro e w' ⟨rfl, q1, rfl⟩
        go_wp2_with fail
        refine (equal_ints (some ⟨g', 0, none⟩) (some ⟨w.heap.size, 0, none⟩) n' 1 c' 1 (w.heap.size + 1) tb.post [0] _ (RB.out.drewN _) (RN.out.drewN _) (by omega) (by omega)).mono ?_
        rw [HZB.out]
        rintro e w' ⟨rfl, q2, rfl⟩
        go_wp2_with fail
        refine (equal_ints (some ⟨g, 0, none⟩) (some ⟨w.heap.size, 0, none⟩) n 1 c 1 (w.heap.size + 1) ta.post [0] _ (RA.out.drewN _) (RN.out.drewN _) (by omega) (by omega)).mono ?_
        rw [HZA.out]
        rintro e w' ⟨rfl, q3, rfl⟩
        go_wp2_with fail
        refine (equal_ints (some ⟨g, 0, none⟩) (some ⟨w.heap.size, 0, none⟩) n 1 c 1 (w.heap.size + 1) ta.post [0] _ (RA.out.drewN _) (RN.out.drewN _) (by omega) (by omega)).mono ?_
        rw [HZA.out]
        rintro e w' ⟨rfl, q4, rfl⟩
        go_wp2_with fail
        refine (HCl.out _).mono ?_
        rintro e w5 ⟨v5, rfl, own5, hb5⟩
        have hz5 : w.heap.size + 1 ≤ w5.heap.size := by have := hb5.size; simp at this; omega
        have ob := own_below (w := (w.alloc (.cells #[.int .i64 0] 3)).drewN _) (OWB.out) hb5
        have own5 := own5.mono (base' := w.heap.size) (by simp)
        have HB5 := Below.trans (below_drewN ((Below.refl w.heap.size w).alloc (Nat.le_refl _) (.cells #[.int .i64 0] 3)) _) (hb5.mono (by simp))
        go_wp2_with (first
          | (at_builtin; refine app_more rfl (.tmp 98) (.tmp 99) rfl w.heap.size v5 n ta.post rfl own5 (some ⟨g', 0, none⟩) n' c' tb.post B rfl ob (by omega) (by omega) (by omega) ?_; intro v6 w6 own6 hb6)
          | (at_builtin; refine app_int_far rfl (.tmp 100) (.tmp 102) rfl w.heap.size v6 (n + n') (ta.post ++ tb.post) 15 rfl own6 rfl (by omega) (by have := hb6.size; omega) ?_; intro v7 w7 own7 hb7 hg7))
        go_ret
        rw [HE.out]
        exact outP_row (by simp [Pl.Tr.post, HNA.out, HNB.out]; omega) (own7.mono hB) (HB5.trans (hb6.trans hb7))
  · skip
    have hsm := dec_f (fun h => hab (hpi h))
    have HSM := Lib.hid hsm
    by_cases hzb0 : tb = .leaf 0
    · have hza : True := trivial
      have hzb := dec_t (hzb'.2 hzb0)
      have HZB := Lib.hid hzb
      have hE : (Pl.simp2 15 ta tb).post = (ta : Pl.Tr).post := by congr 1; unfold Pl.simp2; simp [hab, hzb0] <;> first | exact fun h => h.symm | exact fun h => absurd h.symm (by assumption)
      have HE := Lib.hid hE
      clear hE hsm hzb hza hab hzb0 hpi hza' hzb'
      go_enter Tryz.func115, Tryz.ntmps115
      go_wp2_with fail
      refine (ct _).mono ?_
      rintro e w' ⟨rfl, rfl⟩
      go_wp2_with fail
      refine (equal_ints (some ⟨g, 0, none⟩) (some ⟨g', 0, none⟩) n n' c c' (w.heap.size + 1) ta.post tb.post _ (RA.out) (RB.out) (by omega) (by omega)).mono ?_
      rw [HSM.out]
      rintro e w' ⟨rfl, q0, rfl⟩
      go_wp2_with fail
      refine (equal_ints (some ⟨g', 0, none⟩) (some ⟨w.heap.size, 0, none⟩) n' 1 c' 1 (w.heap.size + 1) tb.post [0] _ (RB.out.drewN _) (RN.out.drewN _) (by omega) (by omega)).mono ?_
      rw [HZB.out]
      rintro e w' ⟨rfl, q1, rfl⟩
      go_wp2_with fail
      refine (equal_ints (some ⟨g', 0, none⟩) (some ⟨w.heap.size, 0, none⟩) n' 1 c' 1 (w.heap.size + 1) tb.post [0] _ (RB.out.drewN _) (RN.out.drewN _) (by omega) (by omega)).mono ?_
      rw [HZB.out]
      rintro e w' ⟨rfl, q2, rfl⟩
      go_wp2_with fail
      go_ret
      rw [HE.out]
      exact outP_row HNA.out (OWA.out) (below_drewN ((Below.refl w.heap.size w).alloc (Nat.le_refl _) _) _)
    · skip
      have hzb := dec_f (fun h => hzb0 (hzb'.1 h))
      have HZB := Lib.hid hzb
      by_cases hza0 : ta = .leaf 0
      · skip
        have hza := dec_t (hza'.2 hza0)
        have HZA := Lib.hid hza
        have hE : (Pl.simp2 15 ta tb).post = (tb : Pl.Tr).post := by congr 1; unfold Pl.simp2; simp [hab, hzb0, hza0] <;> first | exact fun h => h.symm | exact fun h => absurd h.symm (by assumption)
        have HE := Lib.hid hE
        clear hE hsm hzb hza hab hzb0 hza0 hpi hza' hzb'
        go_enter Tryz.func115, Tryz.ntmps115
        go_wp2_with fail
        refine (ct _).mono ?_
        rintro e w' ⟨rfl, rfl⟩
        go_wp2_with fail
        refine (equal_ints (some ⟨g, 0, none⟩) (some ⟨g', 0, none⟩) n n' c c' (w.heap.size + 1) ta.post tb.post _ (RA.out) (RB.out) (by omega) (by omega)).mono ?_
        rw [HSM.out]
        rintro e w' ⟨rfl, q0, rfl⟩
        go_wp2_with fail
        refine (equal_ints (some ⟨g', 0, none⟩) (some ⟨w.heap.size, 0, none⟩) n' 1 c' 1 (w.heap.size + 1) tb.post [0] _ (RB.out.drewN _) (RN.out.drewN _) (by omega) (by omega)).mono ?_
        rw [HZB.out]
        rintro e w' ⟨rfl, q1, rfl⟩
        go_wp2_with fail
        refine (equal_ints (some ⟨g', 0, none⟩) (some ⟨w.heap.size, 0, none⟩) n' 1 c' 1 (w.heap.size + 1) tb.post [0] _ (RB.out.drewN _) (RN.out.drewN _) (by omega) (by omega)).mono ?_
        rw [HZB.out]
        rintro e w' ⟨rfl, q2, rfl⟩
        go_wp2_with fail
        refine (equal_ints (some ⟨g, 0, none⟩) (some ⟨w.heap.size, 0, none⟩) n 1 c 1 (w.heap.size + 1) ta.post [0] _ (RA.out.drewN _) (RN.out.drewN _) (by omega) (by omega)).mono ?_
        rw [HZA.out]
        rintro e w' ⟨rfl, q3, rfl⟩
        go_wp2_with fail
        refine (equal_ints (some ⟨g, 0, none⟩) (some ⟨w.heap.size, 0, none⟩) n 1 c 1 (w.heap.size + 1) ta.post [0] _ (RA.out.drewN _) (RN.out.drewN _) (by omega) (by omega)).mono ?_
        rw [HZA.out]
        rintro e w' ⟨rfl, q4, rfl⟩
        go_wp2_with fail
        go_ret
        rw [HE.out]
        exact outP_row HNB.out (OWB.out) (below_drewN ((Below.refl w.heap.size w).alloc (Nat.le_refl _) _) _)
      · skip
        have hza := dec_f (fun h => hza0 (hza'.1 h))
        have HZA := Lib.hid hza
        have hE : (Pl.simp2 15 ta tb).post = (.bin 15 ta tb : Pl.Tr).post := by congr 1; unfold Pl.simp2; simp [hab, hzb0, hza0] <;> first | exact fun h => h.symm | exact fun h => absurd h.symm (by assumption)
        have HE := Lib.hid hE
        clear hE hsm hzb hza hab hzb0 hza0 hpi hza' hzb'
        go_enter Tryz.func115, Tryz.ntmps115
        go_wp2_with fail
        refine (ct _).mono ?_
        rintro e w' ⟨rfl, rfl⟩
        go_wp2_with fail
        refine (equal_ints (some ⟨g, 0, none⟩) (some ⟨g', 0, none⟩) n n' c c' (w.heap.size + 1) ta.post tb.post _ (RA.out) (RB.out) (by omega) (by omega)).mono ?_
        rw [HSM.out]
        rintro e w' ⟨rfl, q0, rfl⟩
        go_wp2_with fail
        refine (equal_ints (some ⟨g', 0, none⟩) (some ⟨w.heap.size, 0, none⟩) n' 1 c' 1 (w.heap.size + 1) tb.post [0] _ (RB.out.drewN _) (RN.out.drewN _) (by omega) (by omega)).mono ?_
        rw [HZB.out]
        rintro e w' ⟨rfl, q1, rfl⟩
        go_wp2_with fail
        refine (equal_ints (some ⟨g', 0, none⟩) (some ⟨w.heap.size, 0, none⟩) n' 1 c' 1 (w.heap.size + 1) tb.post [0] _ (RB.out.drewN _) (RN.out.drewN _) (by omega) (by omega)).mono ?_
        rw [HZB.out]
        rintro e w' ⟨rfl, q2, rfl⟩
        go_wp2_with fail
        refine (equal_ints (some ⟨g, 0, none⟩) (some ⟨w.heap.size, 0, none⟩) n 1 c 1 (w.heap.size + 1) ta.post [0] _ (RA.out.drewN _) (RN.out.drewN _) (by omega) (by omega)).mono ?_
        rw [HZA.out]
        rintro e w' ⟨rfl, q3, rfl⟩
        go_wp2_with fail
        refine (equal_ints (some ⟨g, 0, none⟩) (some ⟨w.heap.size, 0, none⟩) n 1 c 1 (w.heap.size + 1) ta.post [0] _ (RA.out.drewN _) (RN.out.drewN _) (by omega) (by omega)).mono ?_
        rw [HZA.out]
        rintro e w' ⟨rfl, q4, rfl⟩
        go_wp2_with fail
        refine (HCl.out _).mono ?_
        rintro e w5 ⟨v5, rfl, own5, hb5⟩
        have hz5 : w.heap.size + 1 ≤ w5.heap.size := by have := hb5.size; simp at this; omega
        have ob := own_below (w := (w.alloc (.cells #[.int .i64 0] 3)).drewN _) (OWB.out) hb5
        have own5 := own5.mono (base' := w.heap.size) (by simp)
        have HB5 := Below.trans (below_drewN ((Below.refl w.heap.size w).alloc (Nat.le_refl _) (.cells #[.int .i64 0] 3)) _) (hb5.mono (by simp))
        go_wp2_with (first
          | (at_builtin; refine app_more rfl (.tmp 98) (.tmp 99) rfl w.heap.size v5 n ta.post rfl own5 (some ⟨g', 0, none⟩) n' c' tb.post B rfl ob (by omega) (by omega) (by omega) ?_; intro v6 w6 own6 hb6)
          | (at_builtin; refine app_int_far rfl (.tmp 100) (.tmp 102) rfl w.heap.size v6 (n + n') (ta.post ++ tb.post) 15 rfl own6 rfl (by omega) (by have := hb6.size; omega) ?_; intro v7 w7 own7 hb7 hg7))
        go_ret
        rw [HE.out]
        exact outP_row (by simp [Pl.Tr.post, HNA.out, HNB.out]; omega) (own7.mono hB) (HB5.trans (hb6.trans hb7))
set_option maxRecDepth 100000 in
set_option maxHeartbeats 8000000 in
theorem simpler_bin_16 (ta tb : Pl.Tr) (oka : ta.ok) (okb : tb.ok) (pb n c n' c' B pc : Nat) (A A' : Option Addr) (w : World) (own1 : w.ownsRow B 3 1 (.slice A n c) n (I64 ta.post)) (own2 : w.ownsRow B 3 1 (.slice A' n' c') n' (I64 tb.post)) (hl : n ≤ 1000) (hl' : n' ≤ 1000)
    (hp : w.cell? ⟨pb, 0, none⟩ = some (.slice A n c)) (hp' : w.cell? ⟨pb, 1, none⟩ = some (.slice A' n' c')) (hB : B ≤ w.heap.size) :
    Calls Tryz.prog 115 #[.int .i64 16, .slice (some ⟨pb, 0, none⟩) 2 pc] w (OutP B (Pl.simp2 16 ta tb).post w) := by
  have hn : ta.post.length = n := own_ilen own1
  have hn' : tb.post.length = n' := own_ilen own2
  have hpa := ta.post_pos
  have hpb := tb.post_pos
  obtain ⟨g, rfl, hg0, hg1⟩ := own_some own1 (by omega)
  obtain ⟨g', rfl, hg0', hg1'⟩ := own_some own2 (by omega)
  have RA := Lib.hid (((rd_own own1).alloc (Nat.le_refl _) (.cells #[.int .i64 0] 3)).more (Nat.le_succ _))
  have RB := Lib.hid (((rd_own own2).alloc (Nat.le_refl _) (.cells #[.int .i64 0] 3)).more (Nat.le_succ _))
  have RN : Hid (Rd (w.alloc (.cells #[.int .i64 0] 3)) (w.heap.size + 1) (some ⟨w.heap.size, 0, none⟩) 1 (I64 [0])) := Lib.hid (by
    have h := rd_own (own_lit1 w 0 (B := B) hB rfl)
    simpa using h)
  have OWA := Lib.hid (own1.alloc (.cells #[.int .i64 0] 3))
  have OWB := Lib.hid (own2.alloc (.cells #[.int .i64 0] 3))
  have OWN := Lib.hid (own_lit1 w 0 (B := B) hB rfl)
  have HNA := Lib.hid hn
  have HNB := Lib.hid hn'
  have HCl := Lib.hid (fun q => clone_ints g 0 n c (I64 ta.post) ((w.alloc (.cells #[.int .i64 0] 3)).drewN q) (by rw [I64_len, hn]) (fun j u hu => by rw [Nat.zero_add]; exact own_cell OWA.out hu) (by simp; omega) (fun u hu => by unfold I64 at hu; obtain ⟨_, _, rfl⟩ := List.mem_map.1 hu; rfl) hl)
  have ct := fun w => impl_takes 16 w
  rw [Pl.takes_2 (s := 16) (by omega)] at ct
  have hpi := fun h => Pl.post_inj oka okb h
  have hza' := is_zero oka
  have hzb' := is_zero okb
  clear own1 own2 hn hn' hpa hpb oka okb
  by_cases hab : ta = tb
  · have hzb : True := trivial
    have hza : True := trivial
    have hsm := dec_t (congrArg Pl.Tr.post hab)
    have HSM := Lib.hid hsm
    have hE : (Pl.simp2 16 ta tb).post = (.leaf 0 : Pl.Tr).post := by congr 1; unfold Pl.simp2; simp [hab] <;> first | exact fun h => h.symm | exact fun h => absurd h.symm (by assumption)
    have HE := Lib.hid hE
    clear hE hsm hzb hza hab hpi hza' hzb'
    go_enter Tryz.func115, Tryz.ntmps115
    go_wp2_with fail
    refine (ct _).mono ?_
    rintro e w' ⟨rfl, rfl⟩
    go_wp2_with fail
    refine (equal_ints (some ⟨g, 0, none⟩) (some ⟨g', 0, none⟩) n n' c c' (w.heap.size + 1) ta.post tb.post _ (RA.out) (RB.out) (by omega) (by omega)).mono ?_
    rw [HSM.out]
    rintro e w' ⟨rfl, q0, rfl⟩
    go_wp2_with fail
    go_ret
    rw [HE.out]
    exact outP_row (X := [0]) rfl (OWN.out) (below_drewN ((Below.refl w.heap.size w).alloc (Nat.le_refl _) _) _)
  · skip
    have hsm := dec_f (fun h => hab (hpi h))
    have HSM := Lib.hid hsm
    by_cases hzb0 : tb = .leaf 0
    · have hza : True := trivial
      have hzb := dec_t (hzb'.2 hzb0)
      have HZB := Lib.hid hzb
      have hE : (Pl.simp2 16 ta tb).post = (ta : Pl.Tr).post := by congr 1; unfold Pl.simp2; simp [hab, hzb0] <;> first | exact fun h => h.symm | exact fun h => absurd h.symm (by assumption)
      have HE := Lib.hid hE
      clear hE hsm hzb hza hab hzb0 hpi hza' hzb'
      go_enter Tryz.func115, Tryz.ntmps115
      go_wp2_with fail
      refine (ct _).mono ?_
      rintro e w' ⟨rfl, rfl⟩
      go_wp2_with fail
      refine (equal_ints (some ⟨g, 0, none⟩) (some ⟨g', 0, none⟩) n n' c c' (w.heap.size + 1) ta.post tb.post _ (RA.out) (RB.out) (by omega) (by omega)).mono ?_
      rw [HSM.out]
      rintro e w' ⟨rfl, q0, rfl⟩
      go_wp2_with fail
      refine (equal_ints (some ⟨g', 0, none⟩) (some ⟨w.heap.size, 0, none⟩) n' 1 c' 1 (w.heap.size + 1) tb.post [0] _ (RB.out.drewN _) (RN.out.drewN _) (by omega) (by omega)).mono ?_
      rw [HZB.out]
      rintro e w' ⟨rfl, q1, rfl⟩
      go_wp2_with fail
      refine (equal_ints (some ⟨g', 0, none⟩) (some ⟨w.heap.size, 0, none⟩) n' 1 c' 1 (w.heap.size + 1) tb.post [0] _ (RB.out.drewN _) (RN.out.drewN _) (by omega) (by omega)).mono ?_
      rw [HZB.out]
      rintro e w' ⟨rfl, q2, rfl⟩
      go_wp2_with fail
      go_ret
      rw [HE.out]
      exact outP_row HNA.out (OWA.out) (below_drewN ((Below.refl w.heap.size w).alloc (Nat.le_refl _) _) _)
    · skip
      have hzb := dec_f (fun h => hzb0 (hzb'.1 h))
      have HZB := Lib.hid hzb
      by_cases hza0 : ta = .leaf 0
      · skip
        have hza := dec_t (hza'.2 hza0)
        have HZA := Lib.hid hza
        have hE : (Pl.simp2 16 ta tb).post = (.bin 16 ta tb : Pl.Tr).post := by congr 1; unfold Pl.simp2; simp [hab, hzb0, hza0] <;> first | exact fun h => h.symm | exact fun h => absurd h.symm (by assumption)
        have HE := Lib.hid hE
        clear hE hsm hzb hza hab hzb0 hza0 hpi hza' hzb'
        go_enter Tryz.func115, Tryz.ntmps115
        go_wp2_with fail
        refine (ct _).mono ?_
        rintro e w' ⟨rfl, rfl⟩
        go_wp2_with fail
        refine (equal_ints (some ⟨g, 0, none⟩) (some ⟨g', 0, none⟩) n n' c c' (w.heap.size + 1) ta.post tb.post _ (RA.out) (RB.out) (by omega) (by omega)).mono ?_
        rw [HSM.out]
        rintro e w' ⟨rfl, q0, rfl⟩
        go_wp2_with fail
        refine (equal_ints (some ⟨g', 0, none⟩) (some ⟨w.heap.size, 0, none⟩) n' 1 c' 1 (w.heap.size + 1) tb.post [0] _ (RB.out.drewN _) (RN.out.drewN _) (by omega) (by omega)).mono ?_
        rw [HZB.out]
        rintro e w' ⟨rfl, q1, rfl⟩
        go_wp2_with fail
        refine (equal_ints (some ⟨g', 0, none⟩) (some ⟨w.heap.size, 0, none⟩) n' 1 c' 1 (w.heap.size + 1) tb.post [0] _ (RB.out.drewN _) (RN.out.drewN _) (by omega) (by omega)).mono ?_
        rw [HZB.out]
        rintro e w' ⟨rfl, q2, rfl⟩
        go_wp2_with fail
        refine (equal_ints (some ⟨g, 0, none⟩) (some ⟨w.heap.size, 0, none⟩) n 1 c 1 (w.heap.size + 1) ta.post [0] _ (RA.out.drewN _) (RN.out.drewN _) (by omega) (by omega)).mono ?_
        rw [HZA.out]
        rintro e w' ⟨rfl, q3, rfl⟩
        go_wp2_with fail
        refine (equal_ints (some ⟨g, 0, none⟩) (some ⟨w.heap.size, 0, none⟩) n 1 c 1 (w.heap.size + 1) ta.post [0] _ (RA.out.drewN _) (RN.out.drewN _) (by omega) (by omega)).mono ?_
        rw [HZA.out]
        rintro e w' ⟨rfl, q4, rfl⟩
        go_wp2_with fail
        refine (HCl.out _).mono ?_
        rintro e w5 ⟨v5, rfl, own5, hb5⟩
        have hz5 : w.heap.size + 1 ≤ w5.heap.size := by have := hb5.size; simp at this; omega
        have ob := own_below (w := (w.alloc (.cells #[.int .i64 0] 3)).drewN _) (OWB.out) hb5
        have own5 := own5.mono (base' := w.heap.size) (by simp)
        have HB5 := Below.trans (below_drewN ((Below.refl w.heap.size w).alloc (Nat.le_refl _) (.cells #[.int .i64 0] 3)) _) (hb5.mono (by simp))
        go_wp2_with (first
          | (at_builtin; refine app_more rfl (.tmp 98) (.tmp 99) rfl w.heap.size v5 n ta.post rfl own5 (some ⟨g', 0, none⟩) n' c' tb.post B rfl ob (by omega) (by omega) (by omega) ?_; intro v6 w6 own6 hb6)
          | (at_builtin; refine app_int_far rfl (.tmp 100) (.tmp 102) rfl w.heap.size v6 (n + n') (ta.post ++ tb.post) 16 rfl own6 rfl (by omega) (by have := hb6.size; omega) ?_; intro v7 w7 own7 hb7 hg7))
        go_ret
        rw [HE.out]
        exact outP_row (by simp [Pl.Tr.post, HNA.out, HNB.out]; omega) (own7.mono hB) (HB5.trans (hb6.trans hb7))
      · skip
        have hza := dec_f (fun h => hza0 (hza'.1 h))
        have HZA := Lib.hid hza
        have hE : (Pl.simp2 16 ta tb).post = (.bin 16 ta tb : Pl.Tr).post := by congr 1; unfold Pl.simp2; simp [hab, hzb0, hza0] <;> first | exact fun h => h.symm | exact fun h => absurd h.symm (by assumption)
        have HE := Lib.hid hE
        clear hE hsm hzb hza hab hzb0 hza0 hpi hza' hzb'
        go_enter Tryz.func115, Tryz.ntmps115
        go_wp2_with fail
        refine (ct _).mono ?_
        rintro e w' ⟨rfl, rfl⟩
        go_wp2_with fail
        refine (equal_ints (some ⟨g, 0, none⟩) (some ⟨g', 0, none⟩) n n' c c' (w.heap.size + 1) ta.post tb.post _ (RA.out) (RB.out) (by omega) (by omega)).mono ?_
        rw [HSM.out]
        rintro e w' ⟨rfl, q0, rfl⟩
        go_wp2_with fail
        refine (equal_ints (some ⟨g', 0, none⟩) (some ⟨w.heap.size, 0, none⟩) n' 1 c' 1 (w.heap.size + 1) tb.post [0] _ (RB.out.drewN _) (RN.out.drewN _) (by omega) (by omega)).mono ?_
        rw [HZB.out]
        rintro e w' ⟨rfl, q1, rfl⟩
        go_wp2_with fail
        refine (equal_ints (some ⟨g', 0, none⟩) (some ⟨w.heap.size, 0, none⟩) n' 1 c' 1 (w.heap.size + 1) tb.post [0] _ (RB.out.drewN _) (RN.out.drewN _) (by omega) (by omega)).mono ?_
        rw [HZB.out]
        rintro e w' ⟨rfl, q2, rfl⟩
        go_wp2_with fail
        refine (equal_ints (some ⟨g, 0, none⟩) (some ⟨w.heap.size, 0, none⟩) n 1 c 1 (w.heap.size + 1) ta.post [0] _ (RA.out.drewN _) (RN.out.drewN _) (by omega) (by omega)).mono ?_
        rw [HZA.out]
        rintro e w' ⟨rfl, q3, rfl⟩
        go_wp2_with fail
        refine (equal_ints (some ⟨g, 0, none⟩) (some ⟨w.heap.size, 0, none⟩) n 1 c 1 (w.heap.size + 1) ta.post [0] _ (RA.out.drewN _) (RN.out.drewN _) (by omega) (by omega)).mono ?_
        rw [HZA.out]
        rintro e w' ⟨rfl, q4, rfl⟩
        go_wp2_with fail
        refine (HCl.out _).mono ?_
        rintro e w5 ⟨v5, rfl, own5, hb5⟩
        have hz5 : w.heap.size + 1 ≤ w5.heap.size := by have := hb5.size; simp at this; omega
        have ob := own_below (w := (w.alloc (.cells #[.int .i64 0] 3)).drewN _) (OWB.out) hb5
        have own5 := own5.mono (base' := w.heap.size) (by simp)
        have HB5 := Below.trans (below_drewN ((Below.refl w.heap.size w).alloc (Nat.le_refl _) (.cells #[.int .i64 0] 3)) _) (hb5.mono (by simp))
        go_wp2_with (first
          | (at_builtin; refine app_more rfl (.tmp 98) (.tmp 99) rfl w.heap.size v5 n ta.post rfl own5 (some ⟨g', 0, none⟩) n' c' tb.post B rfl ob (by omega) (by omega) (by omega) ?_; intro v6 w6 own6 hb6)
          | (at_builtin; refine app_int_far rfl (.tmp 100) (.tmp 102) rfl w.heap.size v6 (n + n') (ta.post ++ tb.post) 16 rfl own6 rfl (by omega) (by have := hb6.size; omega) ?_; intro v7 w7 own7 hb7 hg7))
        go_ret
        rw [HE.out]
        exact outP_row (by simp [Pl.Tr.post, HNA.out, HNB.out]; omega) (own7.mono hB) (HB5.trans (hb6.trans hb7))
set_option maxRecDepth 100000 in
set_option maxHeartbeats 8000000 in
theorem simpler_bin_17 (ta tb : Pl.Tr) (oka : ta.ok) (okb : tb.ok) (pb n c n' c' B pc : Nat) (A A' : Option Addr) (w : World) (own1 : w.ownsRow B 3 1 (.slice A n c) n (I64 ta.post)) (own2 : w.ownsRow B 3 1 (.slice A' n' c') n' (I64 tb.post)) (hl : n ≤ 1000) (hl' : n' ≤ 1000)
    (hp : w.cell? ⟨pb, 0, none⟩ = some (.slice A n c)) (hp' : w.cell? ⟨pb, 1, none⟩ = some (.slice A' n' c')) (hB : B ≤ w.heap.size) :
    Calls Tryz.prog 115 #[.int .i64 17, .slice (some ⟨pb, 0, none⟩) 2 pc] w (OutP B (Pl.simp2 17 ta tb).post w) := by
  have hn : ta.post.length = n := own_ilen own1
  have hn' : tb.post.length = n' := own_ilen own2
  have hpa := ta.post_pos
  have hpb := tb.post_pos
  obtain ⟨g, rfl, hg0, hg1⟩ := own_some own1 (by omega)
  obtain ⟨g', rfl, hg0', hg1'⟩ := own_some own2 (by omega)
  have RA := Lib.hid (((rd_own own1).alloc (Nat.le_refl _) (.cells #[.int .i64 0] 3)).more (Nat.le_succ _))
  have RB := Lib.hid (((rd_own own2).alloc (Nat.le_refl _) (.cells #[.int .i64 0] 3)).more (Nat.le_succ _))
  have RN : Hid (Rd (w.alloc (.cells #[.int .i64 0] 3)) (w.heap.size + 1) (some ⟨w.heap.size, 0, none⟩) 1 (I64 [0])) := Lib.hid (by
    have h := rd_own (own_lit1 w 0 (B := B) hB rfl)
    simpa using h)
  have OWA := Lib.hid (own1.alloc (.cells #[.int .i64 0] 3))
  have OWB := Lib.hid (own2.alloc (.cells #[.int .i64 0] 3))
  have OWN := Lib.hid (own_lit1 w 0 (B := B) hB rfl)
  have HNA := Lib.hid hn
  have HNB := Lib.hid hn'
  have HCl := Lib.hid (fun q => clone_ints g 0 n c (I64 ta.post) ((w.alloc (.cells #[.int .i64 0] 3)).drewN q) (by rw [I64_len, hn]) (fun j u hu => by rw [Nat.zero_add]; exact own_cell OWA.out hu) (by simp; omega) (fun u hu => by unfold I64 at hu; obtain ⟨_, _, rfl⟩ := List.mem_map.1 hu; rfl) hl)
  have ct := fun w => impl_takes 17 w
  rw [Pl.takes_2 (s := 17) (by omega)] at ct
  have hpi := fun h => Pl.post_inj oka okb h
  have hza' := is_zero oka
  have hzb' := is_zero okb
  clear own1 own2 hn hn' hpa hpb oka okb
  by_cases hab : ta = tb
  · have hzb : True := trivial
    have hza : True := trivial
    have hsm := dec_t (congrArg Pl.Tr.post hab)
    have HSM := Lib.hid hsm
    have hE : (Pl.simp2 17 ta tb).post = (ta : Pl.Tr).post := by congr 1; unfold Pl.simp2; simp [hab] <;> first | exact fun h => h.symm | exact fun h => absurd h.symm (by assumption)
    have HE := Lib.hid hE
    clear hE hsm hzb hza hab hpi hza' hzb'
    go_enter Tryz.func115, Tryz.ntmps115
    go_wp2_with fail
    refine (ct _).mono ?_
    rintro e w' ⟨rfl, rfl⟩
    go_wp2_with fail
    refine (equal_ints (some ⟨g, 0, none⟩) (some ⟨g', 0, none⟩) n n' c c' (w.heap.size + 1) ta.post tb.post _ (RA.out) (RB.out) (by omega) (by omega)).mono ?_
    rw [HSM.out]
    rintro e w' ⟨rfl, q0, rfl⟩
    go_wp2_with fail
    go_ret
    rw [HE.out]
    exact outP_row HNA.out (OWA.out) (below_drewN ((Below.refl w.heap.size w).alloc (Nat.le_refl _) _) _)
  · skip
    have hsm := dec_f (fun h => hab (hpi h))
    have HSM := Lib.hid hsm
    by_cases hzb0 : tb = .leaf 0
    · have hza : True := trivial
      have hzb := dec_t (hzb'.2 hzb0)
      have HZB := Lib.hid hzb
      have hE : (Pl.simp2 17 ta tb).post = (.leaf 0 : Pl.Tr).post := by congr 1; unfold Pl.simp2; simp [hab, hzb0] <;> first | exact fun h => h.symm | exact fun h => absurd h.symm (by assumption)
      have HE := Lib.hid hE
      clear hE hsm hzb hza hab hzb0 hpi hza' hzb'
      go_enter Tryz.func115, Tryz.ntmps115
      go_wp2_with fail
      refine (ct _).mono ?_
      rintro e w' ⟨rfl, rfl⟩
      go_wp2_with fail
      refine (equal_ints (some ⟨g, 0, none⟩) (some ⟨g', 0, none⟩) n n' c c' (w.heap.size + 1) ta.post tb.post _ (RA.out) (RB.out) (by omega) (by omega)).mono ?_
      rw [HSM.out]
      rintro e w' ⟨rfl, q0, rfl⟩
      go_wp2_with fail
      refine (equal_ints (some ⟨g', 0, none⟩) (some ⟨w.heap.size, 0, none⟩) n' 1 c' 1 (w.heap.size + 1) tb.post [0] _ (RB.out.drewN _) (RN.out.drewN _) (by omega) (by omega)).mono ?_
      rw [HZB.out]
      rintro e w' ⟨rfl, q1, rfl⟩
      go_wp2_with fail
      go_ret
      rw [HE.out]
      exact outP_row (X := [0]) rfl (OWN.out) (below_drewN ((Below.refl w.heap.size w).alloc (Nat.le_refl _) _) _)
    · skip
      have hzb := dec_f (fun h => hzb0 (hzb'.1 h))
      have HZB := Lib.hid hzb
      by_cases hza0 : ta = .leaf 0
      · skip
        have hza := dec_t (hza'.2 hza0)
        have HZA := Lib.hid hza
        have hE : (Pl.simp2 17 ta tb).post = (.leaf 0 : Pl.Tr).post := by congr 1; unfold Pl.simp2; simp [hab, hzb0, hza0] <;> first | exact fun h => h.symm | exact fun h => absurd h.symm (by assumption)
        have HE := Lib.hid hE
        clear hE hsm hzb hza hab hzb0 hza0 hpi hza' hzb'
        go_enter Tryz.func115, Tryz.ntmps115
        go_wp2_with fail
        refine (ct _).mono ?_
        rintro e w' ⟨rfl, rfl⟩
        go_wp2_with fail
        refine (equal_ints (some ⟨g, 0, none⟩) (some ⟨g', 0, none⟩) n n' c c' (w.heap.size + 1) ta.post tb.post _ (RA.out) (RB.out) (by omega) (by omega)).mono ?_
        rw [HSM.out]
        rintro e w' ⟨rfl, q0, rfl⟩
        go_wp2_with fail
        refine (equal_ints (some ⟨g', 0, none⟩) (some ⟨w.heap.size, 0, none⟩) n' 1 c' 1 (w.heap.size + 1) tb.post [0] _ (RB.out.drewN _) (RN.out.drewN _) (by omega) (by omega)).mono ?_
        rw [HZB.out]
        rintro e w' ⟨rfl, q1, rfl⟩
        go_wp2_with fail
        refine (equal_ints (some ⟨g', 0, none⟩) (some ⟨w.heap.size, 0, none⟩) n' 1 c' 1 (w.heap.size + 1) tb.post [0] _ (RB.out.drewN _) (RN.out.drewN _) (by omega) (by omega)).mono ?_
        rw [HZB.out]
        rintro e w' ⟨rfl, q2, rfl⟩
        go_wp2_with fail
        refine (equal_ints (some ⟨g, 0, none⟩) (some ⟨w.heap.size, 0, none⟩) n 1 c 1 (w.heap.size + 1) ta.post [0] _ (RA.out.drewN _) (RN.out.drewN _) (by omega) (by omega)).mono ?_
        rw [HZA.out]
        rintro e w' ⟨rfl, q3, rfl⟩
        go_wp2_with fail
        go_ret
        rw [HE.out]
        exact outP_row (X := [0]) rfl (OWN.out) (below_drewN ((Below.refl w.heap.size w).alloc (Nat.le_refl _) _) _)
      · skip
        have hza := dec_f (fun h => hza0 (hza'.1 h))
        have HZA := Lib.hid hza
        have hE : (Pl.simp2 17 ta tb).post = (.bin 17 ta tb : Pl.Tr).post := by congr 1; unfold Pl.simp2; simp [hab, hzb0, hza0] <;> first | exact fun h => h.symm | exact fun h => absurd h.symm (by assumption)
        have HE := Lib.hid hE
        clear hE hsm hzb hza hab hzb0 hza0 hpi hza' hzb'
        go_enter Tryz.func115, Tryz.ntmps115
        go_wp2_with fail
        refine (ct _).mono ?_
        rintro e w' ⟨rfl, rfl⟩
        go_wp2_with fail
        refine (equal_ints (some ⟨g, 0, none⟩) (some ⟨g', 0, none⟩) n n' c c' (w.heap.size + 1) ta.post tb.post _ (RA.out) (RB.out) (by omega) (by omega)).mono ?_
        rw [HSM.out]
        rintro e w' ⟨rfl, q0, rfl⟩
        go_wp2_with fail
        refine (equal_ints (some ⟨g', 0, none⟩) (some ⟨w.heap.size, 0, none⟩) n' 1 c' 1 (w.heap.size + 1) tb.post [0] _ (RB.out.drewN _) (RN.out.drewN _) (by omega) (by omega)).mono ?_
        rw [HZB.out]
        rintro e w' ⟨rfl, q1, rfl⟩
        go_wp2_with fail
        refine (equal_ints (some ⟨g', 0, none⟩) (some ⟨w.heap.size, 0, none⟩) n' 1 c' 1 (w.heap.size + 1) tb.post [0] _ (RB.out.drewN _) (RN.out.drewN _) (by omega) (by omega)).mono ?_
        rw [HZB.out]
        rintro e w' ⟨rfl, q2, rfl⟩
        go_wp2_with fail
        refine (equal_ints (some ⟨g, 0, none⟩) (some ⟨w.heap.size, 0, none⟩) n 1 c 1 (w.heap.size + 1) ta.post [0] _ (RA.out.drewN _) (RN.out.drewN _) (by omega) (by omega)).mono ?_
        rw [HZA.out]
        rintro e w' ⟨rfl, q3, rfl⟩
        go_wp2_with fail
        refine (equal_ints (some ⟨g, 0, none⟩) (some ⟨w.heap.size, 0, none⟩) n 1 c 1 (w.heap.size + 1) ta.post [0] _ (RA.out.drewN _) (RN.out.drewN _) (by omega) (by omega)).mono ?_
        rw [HZA.out]
        rintro e w' ⟨rfl, q4, rfl⟩
        go_wp2_with fail
        refine (HCl.out _).mono ?_
        rintro e w5 ⟨v5, rfl, own5, hb5⟩
        have hz5 : w.heap.size + 1 ≤ w5.heap.size := by have := hb5.size; simp at this; omega
        have ob := own_below (w := (w.alloc (.cells #[.int .i64 0] 3)).drewN _) (OWB.out) hb5
        have own5 := own5.mono (base' := w.heap.size) (by simp)
        have HB5 := Below.trans (below_drewN ((Below.refl w.heap.size w).alloc (Nat.le_refl _) (.cells #[.int .i64 0] 3)) _) (hb5.mono (by simp))
        go_wp2_with (first
          | (at_builtin; refine app_more rfl (.tmp 98) (.tmp 99) rfl w.heap.size v5 n ta.post rfl own5 (some ⟨g', 0, none⟩) n' c' tb.post B rfl ob (by omega) (by omega) (by omega) ?_; intro v6 w6 own6 hb6)
          | (at_builtin; refine app_int_far rfl (.tmp 100) (.tmp 102) rfl w.heap.size v6 (n + n') (ta.post ++ tb.post) 17 rfl own6 rfl (by omega) (by have := hb6.size; omega) ?_; intro v7 w7 own7 hb7 hg7))
        go_ret
        rw [HE.out]
        exact outP_row (by simp [Pl.Tr.post, HNA.out, HNB.out]; omega) (own7.mono hB) (HB5.trans (hb6.trans hb7))
set_option maxRecDepth 100000 in
set_option maxHeartbeats 8000000 in
theorem simpler_bin_18 (ta tb : Pl.Tr) (oka : ta.ok) (okb : tb.ok) (pb n c n' c' B pc : Nat) (A A' : Option Addr) (w : World) (own1 : w.ownsRow B 3 1 (.slice A n c) n (I64 ta.post)) (own2 : w.ownsRow B 3 1 (.slice A' n' c') n' (I64 tb.post)) (hl : n ≤ 1000) (hl' : n' ≤ 1000)
    (hp : w.cell? ⟨pb, 0, none⟩ = some (.slice A n c)) (hp' : w.cell? ⟨pb, 1, none⟩ = some (.slice A' n' c')) (hB : B ≤ w.heap.size) :
    Calls Tryz.prog 115 #[.int .i64 18, .slice (some ⟨pb, 0, none⟩) 2 pc] w (OutP B (Pl.simp2 18 ta tb).post w) := by
  have hn : ta.post.length = n := own_ilen own1
  have hn' : tb.post.length = n' := own_ilen own2
  have hpa := ta.post_pos
  have hpb := tb.post_pos
  obtain ⟨g, rfl, hg0, hg1⟩ := own_some own1 (by omega)
  obtain ⟨g', rfl, hg0', hg1'⟩ := own_some own2 (by omega)
  have RA := Lib.hid (((rd_own own1).alloc (Nat.le_refl _) (.cells #[.int .i64 0] 3)).more (Nat.le_succ _))
  have RB := Lib.hid (((rd_own own2).alloc (Nat.le_refl _) (.cells #[.int .i64 0] 3)).more (Nat.le_succ _))
  have RN : Hid (Rd (w.alloc (.cells #[.int .i64 0] 3)) (w.heap.size + 1) (some ⟨w.heap.size, 0, none⟩) 1 (I64 [0])) := Lib.hid (by
    have h := rd_own (own_lit1 w 0 (B := B) hB rfl)
    simpa using h)
  have OWA := Lib.hid (own1.alloc (.cells #[.int .i64 0] 3))
  have OWB := Lib.hid (own2.alloc (.cells #[.int .i64 0] 3))
  have OWN := Lib.hid (own_lit1 w 0 (B := B) hB rfl)
  have HNA := Lib.hid hn
  have HNB := Lib.hid hn'
  have HCl := Lib.hid (fun q => clone_ints g 0 n c (I64 ta.post) ((w.alloc (.cells #[.int .i64 0] 3)).drewN q) (by rw [I64_len, hn]) (fun j u hu => by rw [Nat.zero_add]; exact own_cell OWA.out hu) (by simp; omega) (fun u hu => by unfold I64 at hu; obtain ⟨_, _, rfl⟩ := List.mem_map.1 hu; rfl) hl)
  have ct := fun w => impl_takes 18 w
  rw [Pl.takes_2 (s := 18) (by omega)] at ct
  have hpi := fun h => Pl.post_inj oka okb h
  have hza' := is_zero oka
  have hzb' := is_zero okb
  clear own1 own2 hn hn' hpa hpb oka okb
  by_cases hab : ta = tb
  · have hzb : True := trivial
    have hza : True := trivial
    have hsm := dec_t (congrArg Pl.Tr.post hab)
    have HSM := Lib.hid hsm
    have hE : (Pl.simp2 18 ta tb).post = (ta : Pl.Tr).post := by congr 1; unfold Pl.simp2; simp [hab] <;> first | exact fun h => h.symm | exact fun h => absurd h.symm (by assumption)
    have HE := Lib.hid hE
    clear hE hsm hzb hza hab hpi hza' hzb'
    go_enter Tryz.func115, Tryz.ntmps115
    go_wp2_with fail
    refine (ct _).mono ?_
    rintro e w' ⟨rfl, rfl⟩
    go_wp2_with fail
    refine (equal_ints (some ⟨g, 0, none⟩) (some ⟨g', 0, none⟩) n n' c c' (w.heap.size + 1) ta.post tb.post _ (RA.out) (RB.out) (by omega) (by omega)).mono ?_
    rw [HSM.out]
    rintro e w' ⟨rfl, q0, rfl⟩
    go_wp2_with fail
    go_ret
    rw [HE.out]
    exact outP_row HNA.out (OWA.out) (below_drewN ((Below.refl w.heap.size w).alloc (Nat.le_refl _) _) _)
  · skip
    have hsm := dec_f (fun h => hab (hpi h))
    have HSM := Lib.hid hsm
    by_cases hzb0 : tb = .leaf 0
    · have hza : True := trivial
      have hzb := dec_t (hzb'.2 hzb0)
      have HZB := Lib.hid hzb
      have hE : (Pl.simp2 18 ta tb).post = (ta : Pl.Tr).post := by congr 1; unfold Pl.simp2; simp [hab, hzb0] <;> first | exact fun h => h.symm | exact fun h => absurd h.symm (by assumption)
      have HE := Lib.hid hE
      clear hE hsm hzb hza hab hzb0 hpi hza' hzb'
      go_enter Tryz.func115, Tryz.ntmps115
      go_wp2_with fail
      refine (ct _).mono ?_
      rintro e w' ⟨rfl, rfl⟩
      go_wp2_with fail
      refine (equal_ints (some ⟨g, 0, none⟩) (some ⟨g', 0, none⟩) n n' c c' (w.heap.size + 1) ta.post tb.post _ (RA.out) (RB.out) (by omega) (by omega)).mono ?_
      rw [HSM.out]
      rintro e w' ⟨rfl, q0, rfl⟩
      go_wp2_with fail
      refine (equal_ints (some ⟨g', 0, none⟩) (some ⟨w.heap.size, 0, none⟩) n' 1 c' 1 (w.heap.size + 1) tb.post [0] _ (RB.out.drewN _) (RN.out.drewN _) (by omega) (by omega)).mono ?_
      rw [HZB.out]
      rintro e w' ⟨rfl, q1, rfl⟩
      go_wp2_with fail
      refine (equal_ints (some ⟨g', 0, none⟩) (some ⟨w.heap.size, 0, none⟩) n' 1 c' 1 (w.heap.size + 1) tb.post [0] _ (RB.out.drewN _) (RN.out.drewN _) (by omega) (by omega)).mono ?_
      rw [HZB.out]
      rintro e w' ⟨rfl, q2, rfl⟩
      go_wp2_with fail
      go_ret
      rw [HE.out]
      exact outP_row HNA.out (OWA.out) (below_drewN ((Below.refl w.heap.size w).alloc (Nat.le_refl _) _) _)
    · skip
      have hzb := dec_f (fun h => hzb0 (hzb'.1 h))
      have HZB := Lib.hid hzb
      by_cases hza0 : ta = .leaf 0
      · skip
        have hza := dec_t (hza'.2 hza0)
        have HZA := Lib.hid hza
        have hE : (Pl.simp2 18 ta tb).post = (tb : Pl.Tr).post := by congr 1; unfold Pl.simp2; simp [hab, hzb0, hza0] <;> first | exact fun h => h.symm | exact fun h => absurd h.symm (by assumption)
        have HE := Lib.hid hE
        clear hE hsm hzb hza hab hzb0 hza0 hpi hza' hzb'
        go_enter Tryz.func115, Tryz.ntmps115
        go_wp2_with fail
        refine (ct _).mono ?_
        rintro e w' ⟨rfl, rfl⟩
        go_wp2_with fail
        refine (equal_ints (some ⟨g, 0, none⟩) (some ⟨g', 0, none⟩) n n' c c' (w.heap.size + 1) ta.post tb.post _ (RA.out) (RB.out) (by omega) (by omega)).mono ?_
        rw [HSM.out]
        rintro e w' ⟨rfl, q0, rfl⟩
        go_wp2_with fail
        refine (equal_ints (some ⟨g', 0, none⟩) (some ⟨w.heap.size, 0, none⟩) n' 1 c' 1 (w.heap.size + 1) tb.post [0] _ (RB.out.drewN _) (RN.out.drewN _) (by omega) (by omega)).mono ?_
        rw [HZB.out]
        rintro e w' ⟨rfl, q1, rfl⟩
        go_wp2_with fail
        refine (equal_ints (some ⟨g', 0, none⟩) (some ⟨w.heap.size, 0, none⟩) n' 1 c' 1 (w.heap.size + 1) tb.post [0] _ (RB.out.drewN _) (RN.out.drewN _) (by omega) (by omega)).mono ?_
        rw [HZB.out]
        rintro e w' ⟨rfl, q2, rfl⟩
        go_wp2_with fail
        refine (equal_ints (some ⟨g, 0, none⟩) (some ⟨w.heap.size, 0, none⟩) n 1 c 1 (w.heap.size + 1) ta.post [0] _ (RA.out.drewN _) (RN.out.drewN _) (by omega) (by omega)).mono ?_
        rw [HZA.out]
        rintro e w' ⟨rfl, q3, rfl⟩
        go_wp2_with fail
        refine (equal_ints (some ⟨g, 0, none⟩) (some ⟨w.heap.size, 0, none⟩) n 1 c 1 (w.heap.size + 1) ta.post [0] _ (RA.out.drewN _) (RN.out.drewN _) (by omega) (by omega)).mono ?_
        rw [HZA.out]
        rintro e w' ⟨rfl, q4, rfl⟩
        go_wp2_with fail
        go_ret
        rw [HE.out]
        exact outP_row HNB.out (OWB.out) (below_drewN ((Below.refl w.heap.size w).alloc (Nat.le_refl _) _) _)
      · skip
        have hza := dec_f (fun h => hza0 (hza'.1 h))
        have HZA := Lib.hid hza
        have hE : (Pl.simp2 18 ta tb).post = (.bin 18 ta tb : Pl.Tr).post := by congr 1; unfold Pl.simp2; simp [hab, hzb0, hza0] <;> first | exact fun h => h.symm | exact fun h => absurd h.symm (by assumption)
        have HE := Lib.hid hE
        clear hE hsm hzb hza hab hzb0 hza0 hpi hza' hzb'
        go_enter Tryz.func115, Tryz.ntmps115
        go_wp2_with fail
        refine (ct _).mono ?_
        rintro e w' ⟨rfl, rfl⟩
        go_wp2_with fail
        refine (equal_ints (some ⟨g, 0, none⟩) (some ⟨g', 0, none⟩) n n' c c' (w.heap.size + 1) ta.post tb.post _ (RA.out) (RB.out) (by omega) (by omega)).mono ?_
        rw [HSM.out]
        rintro e w' ⟨rfl, q0, rfl⟩
        go_wp2_with fail
        refine (equal_ints (some ⟨g', 0, none⟩) (some ⟨w.heap.size, 0, none⟩) n' 1 c' 1 (w.heap.size + 1) tb.post [0] _ (RB.out.drewN _) (RN.out.drewN _) (by omega) (by omega)).mono ?_
        rw [HZB.out]
        rintro e w' ⟨rfl, q1, rfl⟩
        go_wp2_with fail
        refine (equal_ints (some ⟨g', 0, none⟩) (some ⟨w.heap.size, 0, none⟩) n' 1 c' 1 (w.heap.size + 1) tb.post [0] _ (RB.out.drewN _) (RN.out.drewN _) (by omega) (by omega)).mono ?_
        rw [HZB.out]
        rintro e w' ⟨rfl, q2, rfl⟩
        go_wp2_with fail
        refine (equal_ints (some ⟨g, 0, none⟩) (some ⟨w.heap.size, 0, none⟩) n 1 c 1 (w.heap.size + 1) ta.post [0] _ (RA.out.drewN _) (RN.out.drewN _) (by omega) (by omega)).mono ?_
        rw [HZA.out]
        rintro e w' ⟨rfl, q3, rfl⟩
        go_wp2_with fail
        refine (equal_ints (some ⟨g, 0, none⟩) (some ⟨w.heap.size, 0, none⟩) n 1 c 1 (w.heap.size + 1) ta.post [0] _ (RA.out.drewN _) (RN.out.drewN _) (by omega) (by omega)).mono ?_
        rw [HZA.out]
        rintro e w' ⟨rfl, q4, rfl⟩
        go_wp2_with fail
        refine (HCl.out _).mono ?_
        rintro e w5 ⟨v5, rfl, own5, hb5⟩
        have hz5 : w.heap.size + 1 ≤ w5.heap.size := by have := hb5.size; simp at this; omega
        have ob := own_below (w := (w.alloc (.cells #[.int .i64 0] 3)).drewN _) (OWB.out) hb5
        have own5 := own5.mono (base' := w.heap.size) (by simp)
        have HB5 := Below.trans (below_drewN ((Below.refl w.heap.size w).alloc (Nat.le_refl _) (.cells #[.int .i64 0] 3)) _) (hb5.mono (by simp))
        go_wp2_with (first
          | (at_builtin; refine app_more rfl (.tmp 98) (.tmp 99) rfl w.heap.size v5 n ta.post rfl own5 (some ⟨g', 0, none⟩) n' c' tb.post B rfl ob (by omega) (by omega) (by omega) ?_; intro v6 w6 own6 hb6)
          | (at_builtin; refine app_int_far rfl (.tmp 100) (.tmp 102) rfl w.heap.size v6 (n + n') (ta.post ++ tb.post) 18 rfl own6 rfl (by omega) (by have := hb6.size; omega) ?_; intro v7 w7 own7 hb7 hg7))
        go_ret
        rw [HE.out]
        exact outP_row (by simp [Pl.Tr.post, HNA.out, HNB.out]; omega) (own7.mono hB) (HB5.trans (hb6.trans hb7))
set_option maxRecDepth 100000 in
set_option maxHeartbeats 8000000 in
theorem simpler_bin_19 (ta tb : Pl.Tr) (oka : ta.ok) (okb : tb.ok) (pb n c n' c' B pc : Nat) (A A' : Option Addr) (w : World) (own1 : w.ownsRow B 3 1 (.slice A n c) n (I64 ta.post)) (own2 : w.ownsRow B 3 1 (.slice A' n' c') n' (I64 tb.post)) (hl : n ≤ 1000) (hl' : n' ≤ 1000)
    (hp : w.cell? ⟨pb, 0, none⟩ = some (.slice A n c)) (hp' : w.cell? ⟨pb, 1, none⟩ = some (.slice A' n' c')) (hB : B ≤ w.heap.size) :
    Calls Tryz.prog 115 #[.int .i64 19, .slice (some ⟨pb, 0, none⟩) 2 pc] w (OutP B (Pl.simp2 19 ta tb).post w) := by
  have hn : ta.post.length = n := own_ilen own1
  have hn' : tb.post.length = n' := own_ilen own2
  have hpa := ta.post_pos
  have hpb := tb.post_pos
  obtain ⟨g, rfl, hg0, hg1⟩ := own_some own1 (by omega)
  obtain ⟨g', rfl, hg0', hg1'⟩ := own_some own2 (by omega)
  have RA := Lib.hid (((rd_own own1).alloc (Nat.le_refl _) (.cells #[.int .i64 0] 3)).more (Nat.le_succ _))
  have RB := Lib.hid (((rd_own own2).alloc (Nat.le_refl _) (.cells #[.int .i64 0] 3)).more (Nat.le_succ _))
  have RN : Hid (Rd (w.alloc (.cells #[.int .i64 0] 3)) (w.heap.size + 1) (some ⟨w.heap.size, 0, none⟩) 1 (I64 [0])) := Lib.hid (by
    have h := rd_own (own_lit1 w 0 (B := B) hB rfl)
    simpa using h)
  have OWA := Lib.hid (own1.alloc (.cells #[.int .i64 0] 3))
  have OWB := Lib.hid (own2.alloc (.cells #[.int .i64 0] 3))
  have OWN := Lib.hid (own_lit1 w 0 (B := B) hB rfl)
  have HNA := Lib.hid hn
  have HNB := Lib.hid hn'
  have HCl := Lib.hid (fun q => clone_ints g 0 n c (I64 ta.post) ((w.alloc (.cells #[.int .i64 0] 3)).drewN q) (by rw [I64_len, hn]) (fun j u hu => by rw [Nat.zero_add]; exact own_cell OWA.out hu) (by simp; omega) (fun u hu => by unfold I64 at hu; obtain ⟨_, _, rfl⟩ := List.mem_map.1 hu; rfl) hl)
  have ct := fun w => impl_takes 19 w
  rw [Pl.takes_2 (s := 19) (by omega)] at ct
  have hpi := fun h => Pl.post_inj oka okb h
  have hza' := is_zero oka
  have hzb' := is_zero okb
  clear own1 own2 hn hn' hpa hpb oka okb
  by_cases hab : ta = tb
  · have hzb : True := trivial
    have hza : True := trivial
    have hsm := dec_t (congrArg Pl.Tr.post hab)
    have HSM := Lib.hid hsm
    have hE : (Pl.simp2 19 ta tb).post = (.leaf 0 : Pl.Tr).post := by congr 1; unfold Pl.simp2; simp [hab] <;> first | exact fun h => h.symm | exact fun h => absurd h.symm (by assumption)
    have HE := Lib.hid hE
    clear hE hsm hzb hza hab hpi hza' hzb'
    go_enter Tryz.func115, Tryz.ntmps115
    go_wp2_with fail
    refine (ct _).mono ?_
    rintro e w' ⟨rfl, rfl⟩
    go_wp2_with fail
    refine (equal_ints (some ⟨g, 0, none⟩) (some ⟨g', 0, none⟩) n n' c c' (w.heap.size + 1) ta.post tb.post _ (RA.out) (RB.out) (by omega) (by omega)).mono ?_
    rw [HSM.out]
    rintro e w' ⟨rfl, q0, rfl⟩
    go_wp2_with fail
    go_ret
    rw [HE.out]
    exact outP_row (X := [0]) rfl (OWN.out) (below_drewN ((Below.refl w.heap.size w).alloc (Nat.le_refl _) _) _)
  · skip
    have hsm := dec_f (fun h => hab (hpi h))
    have HSM := Lib.hid hsm
    by_cases hzb0 : tb = .leaf 0
    · have hza : True := trivial
      have hzb := dec_t (hzb'.2 hzb0)
      have HZB := Lib.hid hzb
      have hE : (Pl.simp2 19 ta tb).post = (ta : Pl.Tr).post := by congr 1; unfold Pl.simp2; simp [hab, hzb0] <;> first | exact fun h => h.symm | exact fun h => absurd h.symm (by assumption)
      have HE := Lib.hid hE
      clear hE hsm hzb hza hab hzb0 hpi hza' hzb'
      go_enter Tryz.func115, Tryz.ntmps115
      go_wp2_with fail
      refine (ct _).mono ?_
      rintro e w' ⟨rfl, rfl⟩
      go_wp2_with fail
      refine (equal_ints (some ⟨g, 0, none⟩) (some ⟨g', 0, none⟩) n n' c c' (w.heap.size + 1) ta.post tb.post _ (RA.out) (RB.out) (by omega) (by omega)).mono ?_
      rw [HSM.out]
      rintro e w' ⟨rfl, q0, rfl⟩
      go_wp2_with fail
      refine (equal_ints (some ⟨g', 0, none⟩) (some ⟨w.heap.size, 0, none⟩) n' 1 c' 1 (w.heap.size + 1) tb.post [0] _ (RB.out.drewN _) (RN.out.drewN _) (by omega) (by omega)).mono ?_
      rw [HZB.out]
      rintro e w' ⟨rfl, q1, rfl⟩
      go_wp2_with fail
      refine (equal_ints (some ⟨g', 0, none⟩) (some ⟨w.heap.size, 0, none⟩) n' 1 c' 1 (w.heap.size + 1) tb.post [0] _ (RB.out.drewN _) (RN.out.drewN _) (by omega) (by omega)).mono ?_
      rw [HZB.out]
      rintro e w' ⟨rfl, q2, rfl⟩
      go_wp2_with fail
      go_ret
      rw [HE.out]
      exact outP_row HNA.out (OWA.out) (below_drewN ((Below.refl w.heap.size w).alloc (Nat.le_refl _) _) _)
    · skip
      have hzb := dec_f (fun h => hzb0 (hzb'.1 h))
      have HZB := Lib.hid hzb
      by_cases hza0 : ta = .leaf 0
      · skip
        have hza := dec_t (hza'.2 hza0)
        have HZA := Lib.hid hza
        have hE : (Pl.simp2 19 ta tb).post = (tb : Pl.Tr).post := by congr 1; unfold Pl.simp2; simp [hab, hzb0, hza0] <;> first | exact fun h => h.symm | exact fun h => absurd h.symm (by assumption)
        have HE := Lib.hid hE
        clear hE hsm hzb hza hab hzb0 hza0 hpi hza' hzb'
        go_enter Tryz.func115, Tryz.ntmps115
        go_wp2_with fail
        refine (ct _).mono ?_
        rintro e w' ⟨rfl, rfl⟩
        go_wp2_with fail
        refine (equal_ints (some ⟨g, 0, none⟩) (some ⟨g', 0, none⟩) n n' c c' (w.heap.size + 1) ta.post tb.post _ (RA.out) (RB.out) (by omega) (by omega)).mono ?_
        rw [HSM.out]
        rintro e w' ⟨rfl, q0, rfl⟩
        go_wp2_with fail
        refine (equal_ints (some ⟨g', 0, none⟩) (some ⟨w.heap.size, 0, none⟩) n' 1 c' 1 (w.heap.size + 1) tb.post [0] _ (RB.out.drewN _) (RN.out.drewN _) (by omega) (by omega)).mono ?_
        rw [HZB.out]
        rintro e w' ⟨rfl, q1, rfl⟩
        go_wp2_with fail
        refine (equal_ints (some ⟨g', 0, none⟩) (some ⟨w.heap.size, 0, none⟩) n' 1 c' 1 (w.heap.size + 1) tb.post [0] _ (RB.out.drewN _) (RN.out.drewN _) (by omega) (by omega)).mono ?_
        rw [HZB.out]
        rintro e w' ⟨rfl, q2, rfl⟩
        go_wp2_with fail
        refine (equal_ints (some ⟨g, 0, none⟩) (some ⟨w.heap.size, 0, none⟩) n 1 c 1 (w.heap.size + 1) ta.post [0] _ (RA.out.drewN _) (RN.out.drewN _) (by omega) (by omega)).mono ?_
        rw [HZA.out]
        rintro e w' ⟨rfl, q3, rfl⟩
        go_wp2_with fail
        refine (equal_ints (some ⟨g, 0, none⟩) (some ⟨w.heap.size, 0, none⟩) n 1 c 1 (w.heap.size + 1) ta.post [0] _ (RA.out.drewN _) (RN.out.drewN _) (by omega) (by omega)).mono ?_
        rw [HZA.out]
        rintro e w' ⟨rfl, q4, rfl⟩
        go_wp2_with fail
        go_ret
        rw [HE.out]
        exact outP_row HNB.out (OWB.out) (below_drewN ((Below.refl w.heap.size w).alloc (Nat.le_refl _) _) _)
      · skip
        have hza := dec_f (fun h => hza0 (hza'.1 h))
        have HZA := Lib.hid hza
        have hE : (Pl.simp2 19 ta tb).post = (.bin 19 ta tb : Pl.Tr).post := by congr 1; unfold Pl.simp2; simp [hab, hzb0, hza0] <;> first | exact fun h => h.symm | exact fun h => absurd h.symm (by assumption)
        have HE := Lib.hid hE
        clear hE hsm hzb hza hab hzb0 hza0 hpi hza' hzb'
        go_enter Tryz.func115, Tryz.ntmps115
        go_wp2_with fail
        refine (ct _).mono ?_
        rintro e w' ⟨rfl, rfl⟩
        go_wp2_with fail
        refine (equal_ints (some ⟨g, 0, none⟩) (some ⟨g', 0, none⟩) n n' c c' (w.heap.size + 1) ta.post tb.post _ (RA.out) (RB.out) (by omega) (by omega)).mono ?_
        rw [HSM.out]
        rintro e w' ⟨rfl, q0, rfl⟩
        go_wp2_with fail
        refine (equal_ints (some ⟨g', 0, none⟩) (some ⟨w.heap.size, 0, none⟩) n' 1 c' 1 (w.heap.size + 1) tb.post [0] _ (RB.out.drewN _) (RN.out.drewN _) (by omega) (by omega)).mono ?_
        rw [HZB.out]
        rintro e w' ⟨rfl, q1, rfl⟩
        go_wp2_with fail
        refine (equal_ints (some ⟨g', 0, none⟩) (some ⟨w.heap.size, 0, none⟩) n' 1 c' 1 (w.heap.size + 1) tb.post [0] _ (RB.out.drewN _) (RN.out.drewN _) (by omega) (by omega)).mono ?_
        rw [HZB.out]
        rintro e w' ⟨rfl, q2, rfl⟩
        go_wp2_with fail
        refine (equal_ints (some ⟨g, 0, none⟩) (some ⟨w.heap.size, 0, none⟩) n 1 c 1 (w.heap.size + 1) ta.post [0] _ (RA.out.drewN _) (RN.out.drewN _) (by omega) (by omega)).mono ?_
        rw [HZA.out]
        rintro e w' ⟨rfl, q3, rfl⟩
        go_wp2_with fail
        refine (equal_ints (some ⟨g, 0, none⟩) (some ⟨w.heap.size, 0, none⟩) n 1 c 1 (w.heap.size + 1) ta.post [0] _ (RA.out.drewN _) (RN.out.drewN _) (by omega) (by omega)).mono ?_
        rw [HZA.out]
        rintro e w' ⟨rfl, q4, rfl⟩
        go_wp2_with fail
        refine (HCl.out _).mono ?_
        rintro e w5 ⟨v5, rfl, own5, hb5⟩
        have hz5 : w.heap.size + 1 ≤ w5.heap.size := by have := hb5.size; simp at this; omega
        have ob := own_below (w := (w.alloc (.cells #[.int .i64 0] 3)).drewN _) (OWB.out) hb5
        have own5 := own5.mono (base' := w.heap.size) (by simp)
        have HB5 := Below.trans (below_drewN ((Below.refl w.heap.size w).alloc (Nat.le_refl _) (.cells #[.int .i64 0] 3)) _) (hb5.mono (by simp))
        go_wp2_with (first
          | (at_builtin; refine app_more rfl (.tmp 98) (.tmp 99) rfl w.heap.size v5 n ta.post rfl own5 (some ⟨g', 0, none⟩) n' c' tb.post B rfl ob (by omega) (by omega) (by omega) ?_; intro v6 w6 own6 hb6)
          | (at_builtin; refine app_int_far rfl (.tmp 100) (.tmp 102) rfl w.heap.size v6 (n + n') (ta.post ++ tb.post) 19 rfl own6 rfl (by omega) (by have := hb6.size; omega) ?_; intro v7 w7 own7 hb7 hg7))
        go_ret
        rw [HE.out]
        exact outP_row (by simp [Pl.Tr.post, HNA.out, HNB.out]; omega) (own7.mono hB) (HB5.trans (hb6.trans hb7))
theorem simpler_bin (s : Int) (s0 : 15 ≤ s) (s1 : s ≤ 19) (ta tb : Pl.Tr) (oka : ta.ok) (okb : tb.ok) (pb n c n' c' B pc : Nat) (A A' : Option Addr) (w : World) (own1 : w.ownsRow B 3 1 (.slice A n c) n (I64 ta.post)) (own2 : w.ownsRow B 3 1 (.slice A' n' c') n' (I64 tb.post)) (hl : n ≤ 1000) (hl' : n' ≤ 1000)
    (hp : w.cell? ⟨pb, 0, none⟩ = some (.slice A n c)) (hp' : w.cell? ⟨pb, 1, none⟩ = some (.slice A' n' c')) (hB : B ≤ w.heap.size) :
    Calls Tryz.prog 115 #[.int .i64 s, .slice (some ⟨pb, 0, none⟩) 2 pc] w (OutP B (Pl.simp2 s ta tb).post w) := by
  rcases (by omega : s = 15 ∨ s = 16 ∨ s = 17 ∨ s = 18 ∨ s = 19) with rfl | rfl | rfl | rfl | rfl
  · exact simpler_bin_15 ta tb oka okb pb n c n' c' B pc A A' w own1 own2 hl hl' hp hp' hB
  · exact simpler_bin_16 ta tb oka okb pb n c n' c' B pc A A' w own1 own2 hl hl' hp hp' hB
  · exact simpler_bin_17 ta tb oka okb pb n c n' c' B pc A A' w own1 own2 hl hl' hp hp' hB
  · exact simpler_bin_18 ta tb oka okb pb n c n' c' B pc A A' w own1 own2 hl hl' hp hp' hB
  · exact simpler_bin_19 ta tb oka okb pb n c n' c' B pc A A' w own1 own2 hl hl' hp hp' hB
end Go.Proofs.YtamhpgledbmnoaaGreat
