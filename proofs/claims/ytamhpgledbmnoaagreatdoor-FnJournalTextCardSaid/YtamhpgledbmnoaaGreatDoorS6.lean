/-
  The reference's l9Simple: what a step that takes two makes of its parts.
  Conditions: as stated at each. (Printed by wip/gen/s5.py.)
-/
import Derived.Test.YtamhpgledbmnoaaGreatDoorKR
namespace Go.Proofs.YtamhpgledbmnoaaGreatDoor
set_option linter.unusedVariables false
set_option linter.unusedSimpArgs false
open Go.RowKit
set_option maxRecDepth 100000 in
set_option maxHeartbeats 8000000 in
theorem spec_simple_bin_15 (l r : Pl.Tr) (u v : Pl.Tr) (oku : u.ok) (okv : v.ok) (hul : u.post.length ≤ 1000) (hvl : v.post.length ≤ 1000) (b off c B p m : Nat) (w : World) (H : BinW 15 l r b off c B p m w)
    (ihl : ∀ (w : World), Rd w B (some ⟨b, off, none⟩) p (I64 l.post) → B ≤ w.heap.size → Calls Tryz.prog 82 #[.slice (some ⟨b, off, none⟩) p c] w (OutP w.heap.size u.post w))
    (ihr : ∀ (w : World), Rd w B (some ⟨b, off + p, none⟩) m (I64 r.post) → B ≤ w.heap.size → Calls Tryz.prog 82 #[.slice (some ⟨b, off + p, none⟩) m (c - p)] w (OutP w.heap.size v.post w)) :
    Calls Tryz.prog 82 #[.slice (some ⟨b, off, none⟩) (p + m + 1) c] w (OutP w.heap.size (Pl.simp2 15 u v).post w) := by
  obtain ⟨hp0, hm0, hlen, hnc, hB, hbl, c0, cl, hxl, hxr, halves⟩ := H
  have IHL := Lib.hid ihl
  have IHR := Lib.hid ihr
  have HL := Lib.hid hxl
  have HR := Lib.hid hxr
  have HV := Lib.hid halves
  have k1 : ((p + m + 1 : Nat) : Int) = (p : Int) + m + 1 := by omega
  have k2 : (p : Int) + m + 1 - 1 = ((p + m : Nat) : Int) := by omega
  have k3 : (0 : Int) ≤ ((p + m : Nat) : Int) := by omega
  have k4 : ((p + m : Nat) : Int) < ((p + m + 1 : Nat) : Int) := by omega
  have ct := fun w => spec_l9Takes 15 w
  rw [Pl.takes_2 (s := 15) (by omega)] at ct
  obtain ⟨n, hn⟩ : ∃ n, u.post.length = n := ⟨_, rfl⟩
  obtain ⟨n2, hn2⟩ : ∃ n, v.post.length = n := ⟨_, rfl⟩
  have hn0 : 0 < n := by have := u.post_pos; omega
  have hn20 : 0 < n2 := by have := v.post_pos; omega
  have hul : n ≤ 1000 := by omega
  have hvl : n2 ≤ 1000 := by omega
  obtain ⟨a0, ha0⟩ : ∃ a, u.post[0]? = some a := ⟨_, List.getElem?_eq_getElem (by omega)⟩
  obtain ⟨b0, hb0⟩ : ∃ a, v.post[0]? = some a := ⟨_, List.getElem?_eq_getElem (by omega)⟩
  have HN := Lib.hid hn
  have HN2 := Lib.hid hn2
  have BU := Lib.hid ha0
  have BV := Lib.hid hb0
  have ZU := Lib.hid (is_zero oku)
  have ZV := Lib.hid (is_zero okv)
  have okuH := Lib.hid oku
  have okvH := Lib.hid okv
  have hpi := Lib.hid (fun h => Pl.post_inj oku okv h)
  clear halves hxl hxr ihl ihr hn hn2 ha0 hb0 oku okv cl
  go_enter Tryz.func82, Tryz.ntmps82
  go_wp2_with fail
  refine (ct _).mono ?_
  rintro e w' ⟨rfl, rfl⟩
  go_wp2_with fail
  refine (ct _).mono ?_
  rintro e w' ⟨rfl, rfl⟩
  go_wp2_with fail
  refine (HV.out).mono ?_
  rintro e w' ⟨rfl, q, rfl⟩
  go_wp2_with fail
  refine (IHL.out _ (HL.out.drewN q) (by simp; omega)).mono ?_
  rintro e w1 ⟨A1, c1, rfl, own1, hb1⟩
  rw [HN.out] at own1 ⊢
  have z1 : w.heap.size ≤ w1.heap.size := by simpa using hb1.size
  have own1 := own1.mono (base' := w.heap.size) (by simp)
  obtain ⟨ga, rfl, hga0, hga1⟩ := own_some own1 (by omega)
  go_wp2_with fail
  refine (IHR.out _ ((HR.out.drewN q).below (hb1.mono (by simp; omega))) (by omega)).mono ?_
  rintro e w2 ⟨A2, c2, rfl, own2, hb2⟩
  rw [HN2.out] at own2 ⊢
  have z2 := hb2.size
  have hz2 : w.heap.size ≤ w2.heap.size := by omega
  obtain ⟨gb, rfl, hgb0, hgb1⟩ := own_some own2 (by omega)
  have OWA := Lib.hid (own_below own1 hb2)
  have OWB := Lib.hid (own2.mono (base' := w.heap.size) z1)
  have HB2 := Lib.hid (((below_drewN (Below.refl w.heap.size w) q).trans (hb1.mono (by simp))).trans (hb2.mono z1))
  have ca0 : w2.cell? ⟨ga, 0, none⟩ = some (.int .i64 a0) := own_cell OWA.out (I64_get BU.out)
  have cb0 : w2.cell? ⟨gb, 0, none⟩ = some (.int .i64 b0) := own_cell OWB.out (I64_get BV.out)
  have ga2 : ga < w2.heap.size := by omega
  have ga3 : ¬ ga = w2.heap.size := by omega
  have gb3 : ¬ gb = w2.heap.size := by omega
  clear own1 own2 hb1 hb2
  go_wp2_with fail
  go_loopw [10, 11] (fun vs vk wr => ∃ (k q2 : Nat) (sm : Bool), k ≤ n ∧ vk = .int .i64 (k : Int) ∧ vs = .bool sm ∧ Hid (sm = true → n = n2 ∧ ∀ j, j < k → u.post[j]? = v.post[j]?) ∧ Hid (sm = false → u.post ≠ v.post) ∧ wr = w2.drewN q2) (fun _ vk _ => n - (intOf vk).toNat)
  case atStart =>
    refine ⟨0, 0, ((n : Int) == (n2 : Int)), by omega, rfl, rfl, Lib.hid (fun h => ⟨by have := eq_of_beq h; omega, fun j hj => absurd hj (by omega)⟩), Lib.hid (fun h e => ?_), rfl⟩
    have h1 := HN.out
    have h2 := HN2.out
    rw [e, h2] at h1
    rw [h1] at h
    simp at h
  case round =>
    obtain ⟨k, q2, sm, hk, rfl, rfl, h1, h2, rfl⟩ := hrel
    cases sm with
    | false =>
      have hab : u ≠ v := fun e => h2.out rfl (by rw [e])
      clear h1 h2
      have oa : (w2.drewN q2).ownsRow w.heap.size 3 1 (.slice (some ⟨ga, 0, none⟩) n c1) n (I64 u.post) := OWA.out
      have ob : (w2.drewN q2).ownsRow w.heap.size 3 1 (.slice (some ⟨gb, 0, none⟩) n2 c2) n2 (I64 v.post) := OWB.out
      have wa : (w2.drewN q2).cell? ⟨ga, 0, none⟩ = some (.int .i64 a0) := by simpa using ca0
      have wb : (w2.drewN q2).cell? ⟨gb, 0, none⟩ = some (.int .i64 b0) := by simpa using cb0
      have la : ga < (w2.drewN q2).heap.size := ga2
      have lb : gb < (w2.drewN q2).heap.size := hgb1
      have hzW : w.heap.size ≤ (w2.drewN q2).heap.size := hz2
      have HBW := Lib.hid (below_drewN HB2.out q2)
      clear OWA OWB HB2 ca0 cb0 ga2 hgb1 ga3 gb3
      generalize w2.drewN q2 = W at *
      by_cases hzb : v = .leaf 0
      · have hb0 := ZV.out.2 hzb
        obtain ⟨rfl, rfl⟩ := one_zero HN2.out BV.out hb0
        clear hb0
        have hE : (Pl.simp2 15 u v).post = (u : Pl.Tr).post := by congr 1; unfold Pl.simp2; simp [hab, hzb] <;> first | exact fun h => h.symm | exact fun h => absurd h.symm (by assumption)
        have HE := Lib.hid hE
        clear hE hab hzb 
        go_wp2_with fail
        all_goals (go_ret; rw [HE.out]; exact outP_row HN.out (oa.alloc _) (HBW.out.alloc hzW _))
      · have hbn := not_zero okvH.out HN2.out BV.out (fun h => hzb (ZV.out.1 h))
        rcases hbn with hbn | ⟨rfl, hbn⟩
        · by_cases hza : u = .leaf 0
          · have ha0 := ZU.out.2 hza
            obtain ⟨rfl, rfl⟩ := one_zero HN.out BU.out ha0
            clear ha0
            have hE : (Pl.simp2 15 u v).post = (v : Pl.Tr).post := by congr 1; unfold Pl.simp2; simp [hab, hzb, hza] <;> first | exact fun h => h.symm | exact fun h => absurd h.symm (by assumption)
            have HE := Lib.hid hE
            clear hE hab hzb hza 
            go_wp2_with fail
            all_goals (go_ret; rw [HE.out]; exact outP_row HN2.out (ob.alloc _) (HBW.out.alloc hzW _))
          · have han := not_zero okuH.out HN.out BU.out (fun h => hza (ZU.out.1 h))
            rcases han with han | ⟨rfl, han⟩
            · skip
              have hE : (Pl.simp2 15 u v).post = (.bin 15 u v : Pl.Tr).post := by congr 1; unfold Pl.simp2; simp [hab, hzb, hza] <;> first | exact fun h => h.symm | exact fun h => absurd h.symm (by assumption)
              have HE := Lib.hid hE
              clear hE hab hzb hza 
              go_wp2_with (first
                | (at_builtin; refine app_more rfl (.tmp 166) (.tmp 167) rfl W.heap.size (.slice (some ⟨W.heap.size + 1, 0, none⟩) 0 0) 0 [] rfl (own_made0 _ _ (by simp) (by first | (simp; done) | (simp; omega))) (some ⟨ga, 0, none⟩) _ c1 u.post w.heap.size rfl ((oa.alloc _).alloc _) (by omega) (by omega) (by first | (simp; done) | (simp; omega)) ?_; intro v5 w5 own5 hb5)
                | (at_builtin; refine app_more rfl (.tmp 168) (.tmp 169) rfl W.heap.size v5 _ ([] ++ u.post) rfl own5 (some ⟨gb, 0, none⟩) _ c2 v.post w.heap.size rfl (own_keepB ((ob.alloc _).alloc _) (fun k hk => (ob.lt k hk).2) hb5) (by omega) (by omega) (by have h5 := hb5.size; simp at h5; omega) ?_; intro v6 w6 own6 hb6)
                | (at_builtin; refine app_int_far rfl (.tmp 170) (.tmp 172) rfl W.heap.size v6 _ ([] ++ u.post ++ v.post) 15 rfl own6 rfl (by omega) (by have h5 := hb5.size; have h6 := hb6.size; simp at h5; omega) ?_; intro v7 w7 own7 hb7 hg7))
              all_goals (go_ret; rw [HE.out]; exact outP_row (by simp [Pl.Tr.post, HN.out, HN2.out] <;> omega) (own7.mono hzW) (((HBW.out.alloc hzW _).alloc (by simp; omega) _).trans ((hb5.trans (hb6.trans hb7)).mono hzW)))
            · skip
              have hE : (Pl.simp2 15 u v).post = (.bin 15 u v : Pl.Tr).post := by congr 1; unfold Pl.simp2; simp [hab, hzb, hza] <;> first | exact fun h => h.symm | exact fun h => absurd h.symm (by assumption)
              have HE := Lib.hid hE
              clear hE hab hzb hza 
              go_wp2_with (first
                | (at_builtin; refine app_more rfl (.tmp 166) (.tmp 167) rfl W.heap.size (.slice (some ⟨W.heap.size + 1, 0, none⟩) 0 0) 0 [] rfl (own_made0 _ _ (by simp) (by first | (simp; done) | (simp; omega))) (some ⟨ga, 0, none⟩) _ c1 u.post w.heap.size rfl ((oa.alloc _).alloc _) (by omega) (by omega) (by first | (simp; done) | (simp; omega)) ?_; intro v5 w5 own5 hb5)
                | (at_builtin; refine app_more rfl (.tmp 168) (.tmp 169) rfl W.heap.size v5 _ ([] ++ u.post) rfl own5 (some ⟨gb, 0, none⟩) _ c2 v.post w.heap.size rfl (own_keepB ((ob.alloc _).alloc _) (fun k hk => (ob.lt k hk).2) hb5) (by omega) (by omega) (by have h5 := hb5.size; simp at h5; omega) ?_; intro v6 w6 own6 hb6)
                | (at_builtin; refine app_int_far rfl (.tmp 170) (.tmp 172) rfl W.heap.size v6 _ ([] ++ u.post ++ v.post) 15 rfl own6 rfl (by omega) (by have h5 := hb5.size; have h6 := hb6.size; simp at h5; omega) ?_; intro v7 w7 own7 hb7 hg7))
              all_goals (go_ret; rw [HE.out]; exact outP_row (by simp [Pl.Tr.post, HN.out, HN2.out] <;> omega) (own7.mono hzW) (((HBW.out.alloc hzW _).alloc (by simp; omega) _).trans ((hb5.trans (hb6.trans hb7)).mono hzW)))
        · by_cases hza : u = .leaf 0
          · have ha0 := ZU.out.2 hza
            obtain ⟨rfl, rfl⟩ := one_zero HN.out BU.out ha0
            clear ha0
            have hE : (Pl.simp2 15 u v).post = (v : Pl.Tr).post := by congr 1; unfold Pl.simp2; simp [hab, hzb, hza] <;> first | exact fun h => h.symm | exact fun h => absurd h.symm (by assumption)
            have HE := Lib.hid hE
            clear hE hab hzb hza 
            go_wp2_with fail
            all_goals (go_ret; rw [HE.out]; exact outP_row HN2.out (ob.alloc _) (HBW.out.alloc hzW _))
          · have han := not_zero okuH.out HN.out BU.out (fun h => hza (ZU.out.1 h))
            rcases han with han | ⟨rfl, han⟩
            · skip
              have hE : (Pl.simp2 15 u v).post = (.bin 15 u v : Pl.Tr).post := by congr 1; unfold Pl.simp2; simp [hab, hzb, hza] <;> first | exact fun h => h.symm | exact fun h => absurd h.symm (by assumption)
              have HE := Lib.hid hE
              clear hE hab hzb hza 
              go_wp2_with (first
                | (at_builtin; refine app_more rfl (.tmp 166) (.tmp 167) rfl W.heap.size (.slice (some ⟨W.heap.size + 1, 0, none⟩) 0 0) 0 [] rfl (own_made0 _ _ (by simp) (by first | (simp; done) | (simp; omega))) (some ⟨ga, 0, none⟩) _ c1 u.post w.heap.size rfl ((oa.alloc _).alloc _) (by omega) (by omega) (by first | (simp; done) | (simp; omega)) ?_; intro v5 w5 own5 hb5)
                | (at_builtin; refine app_more rfl (.tmp 168) (.tmp 169) rfl W.heap.size v5 _ ([] ++ u.post) rfl own5 (some ⟨gb, 0, none⟩) _ c2 v.post w.heap.size rfl (own_keepB ((ob.alloc _).alloc _) (fun k hk => (ob.lt k hk).2) hb5) (by omega) (by omega) (by have h5 := hb5.size; simp at h5; omega) ?_; intro v6 w6 own6 hb6)
                | (at_builtin; refine app_int_far rfl (.tmp 170) (.tmp 172) rfl W.heap.size v6 _ ([] ++ u.post ++ v.post) 15 rfl own6 rfl (by omega) (by have h5 := hb5.size; have h6 := hb6.size; simp at h5; omega) ?_; intro v7 w7 own7 hb7 hg7))
              all_goals (go_ret; rw [HE.out]; exact outP_row (by simp [Pl.Tr.post, HN.out, HN2.out] <;> omega) (own7.mono hzW) (((HBW.out.alloc hzW _).alloc (by simp; omega) _).trans ((hb5.trans (hb6.trans hb7)).mono hzW)))
            · skip
              have hE : (Pl.simp2 15 u v).post = (.bin 15 u v : Pl.Tr).post := by congr 1; unfold Pl.simp2; simp [hab, hzb, hza] <;> first | exact fun h => h.symm | exact fun h => absurd h.symm (by assumption)
              have HE := Lib.hid hE
              clear hE hab hzb hza 
              go_wp2_with (first
                | (at_builtin; refine app_more rfl (.tmp 166) (.tmp 167) rfl W.heap.size (.slice (some ⟨W.heap.size + 1, 0, none⟩) 0 0) 0 [] rfl (own_made0 _ _ (by simp) (by first | (simp; done) | (simp; omega))) (some ⟨ga, 0, none⟩) _ c1 u.post w.heap.size rfl ((oa.alloc _).alloc _) (by omega) (by omega) (by first | (simp; done) | (simp; omega)) ?_; intro v5 w5 own5 hb5)
                | (at_builtin; refine app_more rfl (.tmp 168) (.tmp 169) rfl W.heap.size v5 _ ([] ++ u.post) rfl own5 (some ⟨gb, 0, none⟩) _ c2 v.post w.heap.size rfl (own_keepB ((ob.alloc _).alloc _) (fun k hk => (ob.lt k hk).2) hb5) (by omega) (by omega) (by have h5 := hb5.size; simp at h5; omega) ?_; intro v6 w6 own6 hb6)
                | (at_builtin; refine app_int_far rfl (.tmp 170) (.tmp 172) rfl W.heap.size v6 _ ([] ++ u.post ++ v.post) 15 rfl own6 rfl (by omega) (by have h5 := hb5.size; have h6 := hb6.size; simp at h5; omega) ?_; intro v7 w7 own7 hb7 hg7))
              all_goals (go_ret; rw [HE.out]; exact outP_row (by simp [Pl.Tr.post, HN.out, HN2.out] <;> omega) (own7.mono hzW) (((HBW.out.alloc hzW _).alloc (by simp; omega) _).trans ((hb5.trans (hb6.trans hb7)).mono hzW)))
    | true =>
      have HNN := Lib.hid (h1.out (by trivial)).1
      by_cases hlt : k < n
      · obtain ⟨x, ex⟩ : ∃ x, u.post[k]? = some x := ⟨_, List.getElem?_eq_getElem (by have := HN.out; omega)⟩
        obtain ⟨y, ey⟩ : ∃ y, v.post[k]? = some y := ⟨_, List.getElem?_eq_getElem (by have := HN2.out; have := HNN.out; omega)⟩
        have cx : w2.cell? ⟨ga, k, none⟩ = some (.int .i64 x) := own_cell OWA.out (I64_get ex)
        have cy : w2.cell? ⟨gb, k, none⟩ = some (.int .i64 y) := own_cell OWB.out (I64_get ey)
        have EX := Lib.hid ex
        have EY := Lib.hid ey
        have i1 : (k : Int) < (n : Int) := by omega
        have i2 : (k : Int) < (n2 : Int) := by have := HNN.out; omega
        have i3 : (0 : Int) ≤ (k : Int) := by omega
        clear ex ey h2
        go_wp2_with fail
        go_quiet (fail)
        go_wp2_with fail
        go_roundw
        case rel =>
          refine ⟨k + 1, q2 + nq, (x == y), by omega, by go_num, rfl, Lib.hid (fun h => ⟨HNN.out, fun j hj => ?_⟩), Lib.hid (fun h e => ?_), by first | rfl | rw [World.drewN_drewN]⟩
          · rcases Nat.lt_or_ge j k with h3 | h3
            · exact (h1.out (by trivial)).2 j h3
            · obtain rfl : j = k := by omega
              rw [EX.out, EY.out, eq_of_beq h]
          · have h3 := EX.out
            rw [e, EY.out] at h3
            injection h3 with h3
            rw [h3] at h
            simp at h
        case measure => simp [intOf]; omega
      · have hnn := HNN.out
        subst hnn
        have hab : u = v := hpi.out (lists_meet (n := n) HN.out HN2.out (fun j hj => (h1.out (by trivial)).2 j (by omega)))
        have i1 : ¬ (k : Int) < (n : Int) := by omega
        clear h1 h2 hlt
        have oa : (w2.drewN q2).ownsRow w.heap.size 3 1 (.slice (some ⟨ga, 0, none⟩) n c1) n (I64 u.post) := OWA.out
        have ob : (w2.drewN q2).ownsRow w.heap.size 3 1 (.slice (some ⟨gb, 0, none⟩) n c2) n (I64 v.post) := OWB.out
        have wa : (w2.drewN q2).cell? ⟨ga, 0, none⟩ = some (.int .i64 a0) := by simpa using ca0
        have wb : (w2.drewN q2).cell? ⟨gb, 0, none⟩ = some (.int .i64 b0) := by simpa using cb0
        have la : ga < (w2.drewN q2).heap.size := ga2
        have lb : gb < (w2.drewN q2).heap.size := hgb1
        have hzW : w.heap.size ≤ (w2.drewN q2).heap.size := hz2
        have HBW := Lib.hid (below_drewN HB2.out q2)
        clear OWA OWB HB2 ca0 cb0 ga2 hgb1 ga3 gb3
        generalize w2.drewN q2 = W at *
        by_cases hzb : v = .leaf 0
        · have hb0 := ZV.out.2 hzb
          obtain ⟨rfl, rfl⟩ := one_zero HN2.out BV.out hb0
          clear hb0
          have hE : (Pl.simp2 15 u v).post = (u : Pl.Tr).post := by congr 1; unfold Pl.simp2; simp [hab, hzb] <;> first | exact fun h => h.symm | exact fun h => absurd h.symm (by assumption)
          have HE := Lib.hid hE
          clear hE hab hzb 
          go_wp2_with fail
          all_goals (go_ret; rw [HE.out]; exact outP_row HN.out (oa.alloc _) (HBW.out.alloc hzW _))
        · have hbn := not_zero okvH.out HN2.out BV.out (fun h => hzb (ZV.out.1 h))
          rcases hbn with hbn | ⟨rfl, hbn⟩
          · have hza : u ≠ .leaf 0 := fun h => hzb (hab ▸ h)
            have hE : (Pl.simp2 15 u v).post = (.bin 15 u v : Pl.Tr).post := by congr 1; unfold Pl.simp2; simp [hab, hzb, hza] <;> first | exact fun h => h.symm | exact fun h => absurd h.symm (by assumption)
            have HE := Lib.hid hE
            clear hE hab hzb hza 
            go_wp2_with (first
              | (at_builtin; refine app_more rfl (.tmp 166) (.tmp 167) rfl W.heap.size (.slice (some ⟨W.heap.size + 1, 0, none⟩) 0 0) 0 [] rfl (own_made0 _ _ (by simp) (by first | (simp; done) | (simp; omega))) (some ⟨ga, 0, none⟩) _ c1 u.post w.heap.size rfl ((oa.alloc _).alloc _) (by omega) (by omega) (by first | (simp; done) | (simp; omega)) ?_; intro v5 w5 own5 hb5)
              | (at_builtin; refine app_more rfl (.tmp 168) (.tmp 169) rfl W.heap.size v5 _ ([] ++ u.post) rfl own5 (some ⟨gb, 0, none⟩) _ c2 v.post w.heap.size rfl (own_keepB ((ob.alloc _).alloc _) (fun k hk => (ob.lt k hk).2) hb5) (by omega) (by omega) (by have h5 := hb5.size; simp at h5; omega) ?_; intro v6 w6 own6 hb6)
              | (at_builtin; refine app_int_far rfl (.tmp 170) (.tmp 172) rfl W.heap.size v6 _ ([] ++ u.post ++ v.post) 15 rfl own6 rfl (by omega) (by have h5 := hb5.size; have h6 := hb6.size; simp at h5; omega) ?_; intro v7 w7 own7 hb7 hg7))
            all_goals (go_ret; rw [HE.out]; exact outP_row (by simp [Pl.Tr.post, HN.out, HN2.out] <;> omega) (own7.mono hzW) (((HBW.out.alloc hzW _).alloc (by simp; omega) _).trans ((hb5.trans (hb6.trans hb7)).mono hzW)))
          · have hza : u ≠ .leaf 0 := fun h => hzb (hab ▸ h)
            have han := not_zero okuH.out HN.out BU.out (fun h => hza (ZU.out.1 h))
            rcases han with han | ⟨_, han⟩
            · exact absurd han (by decide)
            · skip
              have hE : (Pl.simp2 15 u v).post = (.bin 15 u v : Pl.Tr).post := by congr 1; unfold Pl.simp2; simp [hab, hzb, hza] <;> first | exact fun h => h.symm | exact fun h => absurd h.symm (by assumption)
              have HE := Lib.hid hE
              clear hE hab hzb hza 
              go_wp2_with (first
                | (at_builtin; refine app_more rfl (.tmp 166) (.tmp 167) rfl W.heap.size (.slice (some ⟨W.heap.size + 1, 0, none⟩) 0 0) 0 [] rfl (own_made0 _ _ (by simp) (by first | (simp; done) | (simp; omega))) (some ⟨ga, 0, none⟩) _ c1 u.post w.heap.size rfl ((oa.alloc _).alloc _) (by omega) (by omega) (by first | (simp; done) | (simp; omega)) ?_; intro v5 w5 own5 hb5)
                | (at_builtin; refine app_more rfl (.tmp 168) (.tmp 169) rfl W.heap.size v5 _ ([] ++ u.post) rfl own5 (some ⟨gb, 0, none⟩) _ c2 v.post w.heap.size rfl (own_keepB ((ob.alloc _).alloc _) (fun k hk => (ob.lt k hk).2) hb5) (by omega) (by omega) (by have h5 := hb5.size; simp at h5; omega) ?_; intro v6 w6 own6 hb6)
                | (at_builtin; refine app_int_far rfl (.tmp 170) (.tmp 172) rfl W.heap.size v6 _ ([] ++ u.post ++ v.post) 15 rfl own6 rfl (by omega) (by have h5 := hb5.size; have h6 := hb6.size; simp at h5; omega) ?_; intro v7 w7 own7 hb7 hg7))
              all_goals (go_ret; rw [HE.out]; exact outP_row (by simp [Pl.Tr.post, HN.out, HN2.out] <;> omega) (own7.mono hzW) (((HBW.out.alloc hzW _).alloc (by simp; omega) _).trans ((hb5.trans (hb6.trans hb7)).mono hzW)))
set_option maxRecDepth 100000 in
set_option maxHeartbeats 8000000 in
theorem spec_simple_bin_16 (l r : Pl.Tr) (u v : Pl.Tr) (oku : u.ok) (okv : v.ok) (hul : u.post.length ≤ 1000) (hvl : v.post.length ≤ 1000) (b off c B p m : Nat) (w : World) (H : BinW 16 l r b off c B p m w)
    (ihl : ∀ (w : World), Rd w B (some ⟨b, off, none⟩) p (I64 l.post) → B ≤ w.heap.size → Calls Tryz.prog 82 #[.slice (some ⟨b, off, none⟩) p c] w (OutP w.heap.size u.post w))
    (ihr : ∀ (w : World), Rd w B (some ⟨b, off + p, none⟩) m (I64 r.post) → B ≤ w.heap.size → Calls Tryz.prog 82 #[.slice (some ⟨b, off + p, none⟩) m (c - p)] w (OutP w.heap.size v.post w)) :
    Calls Tryz.prog 82 #[.slice (some ⟨b, off, none⟩) (p + m + 1) c] w (OutP w.heap.size (Pl.simp2 16 u v).post w) := by
  obtain ⟨hp0, hm0, hlen, hnc, hB, hbl, c0, cl, hxl, hxr, halves⟩ := H
  have IHL := Lib.hid ihl
  have IHR := Lib.hid ihr
  have HL := Lib.hid hxl
  have HR := Lib.hid hxr
  have HV := Lib.hid halves
  have k1 : ((p + m + 1 : Nat) : Int) = (p : Int) + m + 1 := by omega
  have k2 : (p : Int) + m + 1 - 1 = ((p + m : Nat) : Int) := by omega
  have k3 : (0 : Int) ≤ ((p + m : Nat) : Int) := by omega
  have k4 : ((p + m : Nat) : Int) < ((p + m + 1 : Nat) : Int) := by omega
  have ct := fun w => spec_l9Takes 16 w
  rw [Pl.takes_2 (s := 16) (by omega)] at ct
  obtain ⟨n, hn⟩ : ∃ n, u.post.length = n := ⟨_, rfl⟩
  obtain ⟨n2, hn2⟩ : ∃ n, v.post.length = n := ⟨_, rfl⟩
  have hn0 : 0 < n := by have := u.post_pos; omega
  have hn20 : 0 < n2 := by have := v.post_pos; omega
  have hul : n ≤ 1000 := by omega
  have hvl : n2 ≤ 1000 := by omega
  obtain ⟨a0, ha0⟩ : ∃ a, u.post[0]? = some a := ⟨_, List.getElem?_eq_getElem (by omega)⟩
  obtain ⟨b0, hb0⟩ : ∃ a, v.post[0]? = some a := ⟨_, List.getElem?_eq_getElem (by omega)⟩
  have HN := Lib.hid hn
  have HN2 := Lib.hid hn2
  have BU := Lib.hid ha0
  have BV := Lib.hid hb0
  have ZU := Lib.hid (is_zero oku)
  have ZV := Lib.hid (is_zero okv)
  have okuH := Lib.hid oku
  have okvH := Lib.hid okv
  have hpi := Lib.hid (fun h => Pl.post_inj oku okv h)
  clear halves hxl hxr ihl ihr hn hn2 ha0 hb0 oku okv cl
  go_enter Tryz.func82, Tryz.ntmps82
  go_wp2_with fail
  refine (ct _).mono ?_
  rintro e w' ⟨rfl, rfl⟩
  go_wp2_with fail
  refine (ct _).mono ?_
  rintro e w' ⟨rfl, rfl⟩
  go_wp2_with fail
  refine (HV.out).mono ?_
  rintro e w' ⟨rfl, q, rfl⟩
  go_wp2_with fail
  refine (IHL.out _ (HL.out.drewN q) (by simp; omega)).mono ?_
  rintro e w1 ⟨A1, c1, rfl, own1, hb1⟩
  rw [HN.out] at own1 ⊢
  have z1 : w.heap.size ≤ w1.heap.size := by simpa using hb1.size
  have own1 := own1.mono (base' := w.heap.size) (by simp)
  obtain ⟨ga, rfl, hga0, hga1⟩ := own_some own1 (by omega)
  go_wp2_with fail
  refine (IHR.out _ ((HR.out.drewN q).below (hb1.mono (by simp; omega))) (by omega)).mono ?_
  rintro e w2 ⟨A2, c2, rfl, own2, hb2⟩
  rw [HN2.out] at own2 ⊢
  have z2 := hb2.size
  have hz2 : w.heap.size ≤ w2.heap.size := by omega
  obtain ⟨gb, rfl, hgb0, hgb1⟩ := own_some own2 (by omega)
  have OWA := Lib.hid (own_below own1 hb2)
  have OWB := Lib.hid (own2.mono (base' := w.heap.size) z1)
  have HB2 := Lib.hid (((below_drewN (Below.refl w.heap.size w) q).trans (hb1.mono (by simp))).trans (hb2.mono z1))
  have ca0 : w2.cell? ⟨ga, 0, none⟩ = some (.int .i64 a0) := own_cell OWA.out (I64_get BU.out)
  have cb0 : w2.cell? ⟨gb, 0, none⟩ = some (.int .i64 b0) := own_cell OWB.out (I64_get BV.out)
  have ga2 : ga < w2.heap.size := by omega
  have ga3 : ¬ ga = w2.heap.size := by omega
  have gb3 : ¬ gb = w2.heap.size := by omega
  clear own1 own2 hb1 hb2
  go_wp2_with fail
  go_loopw [10, 11] (fun vs vk wr => ∃ (k q2 : Nat) (sm : Bool), k ≤ n ∧ vk = .int .i64 (k : Int) ∧ vs = .bool sm ∧ Hid (sm = true → n = n2 ∧ ∀ j, j < k → u.post[j]? = v.post[j]?) ∧ Hid (sm = false → u.post ≠ v.post) ∧ wr = w2.drewN q2) (fun _ vk _ => n - (intOf vk).toNat)
  case atStart =>
    refine ⟨0, 0, ((n : Int) == (n2 : Int)), by omega, rfl, rfl, Lib.hid (fun h => ⟨by have := eq_of_beq h; omega, fun j hj => absurd hj (by omega)⟩), Lib.hid (fun h e => ?_), rfl⟩
    have h1 := HN.out
    have h2 := HN2.out
    rw [e, h2] at h1
    rw [h1] at h
    simp at h
  case round =>
    obtain ⟨k, q2, sm, hk, rfl, rfl, h1, h2, rfl⟩ := hrel
    cases sm with
    | false =>
      have hab : u ≠ v := fun e => h2.out rfl (by rw [e])
      clear h1 h2
      have oa : (w2.drewN q2).ownsRow w.heap.size 3 1 (.slice (some ⟨ga, 0, none⟩) n c1) n (I64 u.post) := OWA.out
      have ob : (w2.drewN q2).ownsRow w.heap.size 3 1 (.slice (some ⟨gb, 0, none⟩) n2 c2) n2 (I64 v.post) := OWB.out
      have wa : (w2.drewN q2).cell? ⟨ga, 0, none⟩ = some (.int .i64 a0) := by simpa using ca0
      have wb : (w2.drewN q2).cell? ⟨gb, 0, none⟩ = some (.int .i64 b0) := by simpa using cb0
      have la : ga < (w2.drewN q2).heap.size := ga2
      have lb : gb < (w2.drewN q2).heap.size := hgb1
      have hzW : w.heap.size ≤ (w2.drewN q2).heap.size := hz2
      have HBW := Lib.hid (below_drewN HB2.out q2)
      clear OWA OWB HB2 ca0 cb0 ga2 hgb1 ga3 gb3
      generalize w2.drewN q2 = W at *
      by_cases hzb : v = .leaf 0
      · have hb0 := ZV.out.2 hzb
        obtain ⟨rfl, rfl⟩ := one_zero HN2.out BV.out hb0
        clear hb0
        have hE : (Pl.simp2 16 u v).post = (u : Pl.Tr).post := by congr 1; unfold Pl.simp2; simp [hab, hzb] <;> first | exact fun h => h.symm | exact fun h => absurd h.symm (by assumption)
        have HE := Lib.hid hE
        clear hE hab hzb 
        go_wp2_with fail
        all_goals (go_ret; rw [HE.out]; exact outP_row HN.out (oa.alloc _) (HBW.out.alloc hzW _))
      · have hbn := not_zero okvH.out HN2.out BV.out (fun h => hzb (ZV.out.1 h))
        rcases hbn with hbn | ⟨rfl, hbn⟩
        · by_cases hza : u = .leaf 0
          · have ha0 := ZU.out.2 hza
            obtain ⟨rfl, rfl⟩ := one_zero HN.out BU.out ha0
            clear ha0
            have hE : (Pl.simp2 16 u v).post = (.bin 16 u v : Pl.Tr).post := by congr 1; unfold Pl.simp2; simp [hab, hzb, hza] <;> first | exact fun h => h.symm | exact fun h => absurd h.symm (by assumption)
            have HE := Lib.hid hE
            clear hE hab hzb hza 
            go_wp2_with (first
              | (at_builtin; refine app_more rfl (.tmp 166) (.tmp 167) rfl W.heap.size (.slice (some ⟨W.heap.size + 1, 0, none⟩) 0 0) 0 [] rfl (own_made0 _ _ (by simp) (by first | (simp; done) | (simp; omega))) (some ⟨ga, 0, none⟩) _ c1 u.post w.heap.size rfl ((oa.alloc _).alloc _) (by omega) (by omega) (by first | (simp; done) | (simp; omega)) ?_; intro v5 w5 own5 hb5)
              | (at_builtin; refine app_more rfl (.tmp 168) (.tmp 169) rfl W.heap.size v5 _ ([] ++ u.post) rfl own5 (some ⟨gb, 0, none⟩) _ c2 v.post w.heap.size rfl (own_keepB ((ob.alloc _).alloc _) (fun k hk => (ob.lt k hk).2) hb5) (by omega) (by omega) (by have h5 := hb5.size; simp at h5; omega) ?_; intro v6 w6 own6 hb6)
              | (at_builtin; refine app_int_far rfl (.tmp 170) (.tmp 172) rfl W.heap.size v6 _ ([] ++ u.post ++ v.post) 16 rfl own6 rfl (by omega) (by have h5 := hb5.size; have h6 := hb6.size; simp at h5; omega) ?_; intro v7 w7 own7 hb7 hg7))
            all_goals (go_ret; rw [HE.out]; exact outP_row (by simp [Pl.Tr.post, HN.out, HN2.out] <;> omega) (own7.mono hzW) (((HBW.out.alloc hzW _).alloc (by simp; omega) _).trans ((hb5.trans (hb6.trans hb7)).mono hzW)))
          · have han := not_zero okuH.out HN.out BU.out (fun h => hza (ZU.out.1 h))
            rcases han with han | ⟨rfl, han⟩
            · skip
              have hE : (Pl.simp2 16 u v).post = (.bin 16 u v : Pl.Tr).post := by congr 1; unfold Pl.simp2; simp [hab, hzb, hza] <;> first | exact fun h => h.symm | exact fun h => absurd h.symm (by assumption)
              have HE := Lib.hid hE
              clear hE hab hzb hza 
              go_wp2_with (first
                | (at_builtin; refine app_more rfl (.tmp 166) (.tmp 167) rfl W.heap.size (.slice (some ⟨W.heap.size + 1, 0, none⟩) 0 0) 0 [] rfl (own_made0 _ _ (by simp) (by first | (simp; done) | (simp; omega))) (some ⟨ga, 0, none⟩) _ c1 u.post w.heap.size rfl ((oa.alloc _).alloc _) (by omega) (by omega) (by first | (simp; done) | (simp; omega)) ?_; intro v5 w5 own5 hb5)
                | (at_builtin; refine app_more rfl (.tmp 168) (.tmp 169) rfl W.heap.size v5 _ ([] ++ u.post) rfl own5 (some ⟨gb, 0, none⟩) _ c2 v.post w.heap.size rfl (own_keepB ((ob.alloc _).alloc _) (fun k hk => (ob.lt k hk).2) hb5) (by omega) (by omega) (by have h5 := hb5.size; simp at h5; omega) ?_; intro v6 w6 own6 hb6)
                | (at_builtin; refine app_int_far rfl (.tmp 170) (.tmp 172) rfl W.heap.size v6 _ ([] ++ u.post ++ v.post) 16 rfl own6 rfl (by omega) (by have h5 := hb5.size; have h6 := hb6.size; simp at h5; omega) ?_; intro v7 w7 own7 hb7 hg7))
              all_goals (go_ret; rw [HE.out]; exact outP_row (by simp [Pl.Tr.post, HN.out, HN2.out] <;> omega) (own7.mono hzW) (((HBW.out.alloc hzW _).alloc (by simp; omega) _).trans ((hb5.trans (hb6.trans hb7)).mono hzW)))
            · skip
              have hE : (Pl.simp2 16 u v).post = (.bin 16 u v : Pl.Tr).post := by congr 1; unfold Pl.simp2; simp [hab, hzb, hza] <;> first | exact fun h => h.symm | exact fun h => absurd h.symm (by assumption)
              have HE := Lib.hid hE
              clear hE hab hzb hza 
              go_wp2_with (first
                | (at_builtin; refine app_more rfl (.tmp 166) (.tmp 167) rfl W.heap.size (.slice (some ⟨W.heap.size + 1, 0, none⟩) 0 0) 0 [] rfl (own_made0 _ _ (by simp) (by first | (simp; done) | (simp; omega))) (some ⟨ga, 0, none⟩) _ c1 u.post w.heap.size rfl ((oa.alloc _).alloc _) (by omega) (by omega) (by first | (simp; done) | (simp; omega)) ?_; intro v5 w5 own5 hb5)
                | (at_builtin; refine app_more rfl (.tmp 168) (.tmp 169) rfl W.heap.size v5 _ ([] ++ u.post) rfl own5 (some ⟨gb, 0, none⟩) _ c2 v.post w.heap.size rfl (own_keepB ((ob.alloc _).alloc _) (fun k hk => (ob.lt k hk).2) hb5) (by omega) (by omega) (by have h5 := hb5.size; simp at h5; omega) ?_; intro v6 w6 own6 hb6)
                | (at_builtin; refine app_int_far rfl (.tmp 170) (.tmp 172) rfl W.heap.size v6 _ ([] ++ u.post ++ v.post) 16 rfl own6 rfl (by omega) (by have h5 := hb5.size; have h6 := hb6.size; simp at h5; omega) ?_; intro v7 w7 own7 hb7 hg7))
              all_goals (go_ret; rw [HE.out]; exact outP_row (by simp [Pl.Tr.post, HN.out, HN2.out] <;> omega) (own7.mono hzW) (((HBW.out.alloc hzW _).alloc (by simp; omega) _).trans ((hb5.trans (hb6.trans hb7)).mono hzW)))
        · by_cases hza : u = .leaf 0
          · have ha0 := ZU.out.2 hza
            obtain ⟨rfl, rfl⟩ := one_zero HN.out BU.out ha0
            clear ha0
            have hE : (Pl.simp2 16 u v).post = (.bin 16 u v : Pl.Tr).post := by congr 1; unfold Pl.simp2; simp [hab, hzb, hza] <;> first | exact fun h => h.symm | exact fun h => absurd h.symm (by assumption)
            have HE := Lib.hid hE
            clear hE hab hzb hza 
            go_wp2_with (first
              | (at_builtin; refine app_more rfl (.tmp 166) (.tmp 167) rfl W.heap.size (.slice (some ⟨W.heap.size + 1, 0, none⟩) 0 0) 0 [] rfl (own_made0 _ _ (by simp) (by first | (simp; done) | (simp; omega))) (some ⟨ga, 0, none⟩) _ c1 u.post w.heap.size rfl ((oa.alloc _).alloc _) (by omega) (by omega) (by first | (simp; done) | (simp; omega)) ?_; intro v5 w5 own5 hb5)
              | (at_builtin; refine app_more rfl (.tmp 168) (.tmp 169) rfl W.heap.size v5 _ ([] ++ u.post) rfl own5 (some ⟨gb, 0, none⟩) _ c2 v.post w.heap.size rfl (own_keepB ((ob.alloc _).alloc _) (fun k hk => (ob.lt k hk).2) hb5) (by omega) (by omega) (by have h5 := hb5.size; simp at h5; omega) ?_; intro v6 w6 own6 hb6)
              | (at_builtin; refine app_int_far rfl (.tmp 170) (.tmp 172) rfl W.heap.size v6 _ ([] ++ u.post ++ v.post) 16 rfl own6 rfl (by omega) (by have h5 := hb5.size; have h6 := hb6.size; simp at h5; omega) ?_; intro v7 w7 own7 hb7 hg7))
            all_goals (go_ret; rw [HE.out]; exact outP_row (by simp [Pl.Tr.post, HN.out, HN2.out] <;> omega) (own7.mono hzW) (((HBW.out.alloc hzW _).alloc (by simp; omega) _).trans ((hb5.trans (hb6.trans hb7)).mono hzW)))
          · have han := not_zero okuH.out HN.out BU.out (fun h => hza (ZU.out.1 h))
            rcases han with han | ⟨rfl, han⟩
            · skip
              have hE : (Pl.simp2 16 u v).post = (.bin 16 u v : Pl.Tr).post := by congr 1; unfold Pl.simp2; simp [hab, hzb, hza] <;> first | exact fun h => h.symm | exact fun h => absurd h.symm (by assumption)
              have HE := Lib.hid hE
              clear hE hab hzb hza 
              go_wp2_with (first
                | (at_builtin; refine app_more rfl (.tmp 166) (.tmp 167) rfl W.heap.size (.slice (some ⟨W.heap.size + 1, 0, none⟩) 0 0) 0 [] rfl (own_made0 _ _ (by simp) (by first | (simp; done) | (simp; omega))) (some ⟨ga, 0, none⟩) _ c1 u.post w.heap.size rfl ((oa.alloc _).alloc _) (by omega) (by omega) (by first | (simp; done) | (simp; omega)) ?_; intro v5 w5 own5 hb5)
                | (at_builtin; refine app_more rfl (.tmp 168) (.tmp 169) rfl W.heap.size v5 _ ([] ++ u.post) rfl own5 (some ⟨gb, 0, none⟩) _ c2 v.post w.heap.size rfl (own_keepB ((ob.alloc _).alloc _) (fun k hk => (ob.lt k hk).2) hb5) (by omega) (by omega) (by have h5 := hb5.size; simp at h5; omega) ?_; intro v6 w6 own6 hb6)
                | (at_builtin; refine app_int_far rfl (.tmp 170) (.tmp 172) rfl W.heap.size v6 _ ([] ++ u.post ++ v.post) 16 rfl own6 rfl (by omega) (by have h5 := hb5.size; have h6 := hb6.size; simp at h5; omega) ?_; intro v7 w7 own7 hb7 hg7))
              all_goals (go_ret; rw [HE.out]; exact outP_row (by simp [Pl.Tr.post, HN.out, HN2.out] <;> omega) (own7.mono hzW) (((HBW.out.alloc hzW _).alloc (by simp; omega) _).trans ((hb5.trans (hb6.trans hb7)).mono hzW)))
            · skip
              have hE : (Pl.simp2 16 u v).post = (.bin 16 u v : Pl.Tr).post := by congr 1; unfold Pl.simp2; simp [hab, hzb, hza] <;> first | exact fun h => h.symm | exact fun h => absurd h.symm (by assumption)
              have HE := Lib.hid hE
              clear hE hab hzb hza 
              go_wp2_with (first
                | (at_builtin; refine app_more rfl (.tmp 166) (.tmp 167) rfl W.heap.size (.slice (some ⟨W.heap.size + 1, 0, none⟩) 0 0) 0 [] rfl (own_made0 _ _ (by simp) (by first | (simp; done) | (simp; omega))) (some ⟨ga, 0, none⟩) _ c1 u.post w.heap.size rfl ((oa.alloc _).alloc _) (by omega) (by omega) (by first | (simp; done) | (simp; omega)) ?_; intro v5 w5 own5 hb5)
                | (at_builtin; refine app_more rfl (.tmp 168) (.tmp 169) rfl W.heap.size v5 _ ([] ++ u.post) rfl own5 (some ⟨gb, 0, none⟩) _ c2 v.post w.heap.size rfl (own_keepB ((ob.alloc _).alloc _) (fun k hk => (ob.lt k hk).2) hb5) (by omega) (by omega) (by have h5 := hb5.size; simp at h5; omega) ?_; intro v6 w6 own6 hb6)
                | (at_builtin; refine app_int_far rfl (.tmp 170) (.tmp 172) rfl W.heap.size v6 _ ([] ++ u.post ++ v.post) 16 rfl own6 rfl (by omega) (by have h5 := hb5.size; have h6 := hb6.size; simp at h5; omega) ?_; intro v7 w7 own7 hb7 hg7))
              all_goals (go_ret; rw [HE.out]; exact outP_row (by simp [Pl.Tr.post, HN.out, HN2.out] <;> omega) (own7.mono hzW) (((HBW.out.alloc hzW _).alloc (by simp; omega) _).trans ((hb5.trans (hb6.trans hb7)).mono hzW)))
    | true =>
      have HNN := Lib.hid (h1.out (by trivial)).1
      by_cases hlt : k < n
      · obtain ⟨x, ex⟩ : ∃ x, u.post[k]? = some x := ⟨_, List.getElem?_eq_getElem (by have := HN.out; omega)⟩
        obtain ⟨y, ey⟩ : ∃ y, v.post[k]? = some y := ⟨_, List.getElem?_eq_getElem (by have := HN2.out; have := HNN.out; omega)⟩
        have cx : w2.cell? ⟨ga, k, none⟩ = some (.int .i64 x) := own_cell OWA.out (I64_get ex)
        have cy : w2.cell? ⟨gb, k, none⟩ = some (.int .i64 y) := own_cell OWB.out (I64_get ey)
        have EX := Lib.hid ex
        have EY := Lib.hid ey
        have i1 : (k : Int) < (n : Int) := by omega
        have i2 : (k : Int) < (n2 : Int) := by have := HNN.out; omega
        have i3 : (0 : Int) ≤ (k : Int) := by omega
        clear ex ey h2
        go_wp2_with fail
        go_quiet (fail)
        go_wp2_with fail
        go_roundw
        case rel =>
          refine ⟨k + 1, q2 + nq, (x == y), by omega, by go_num, rfl, Lib.hid (fun h => ⟨HNN.out, fun j hj => ?_⟩), Lib.hid (fun h e => ?_), by first | rfl | rw [World.drewN_drewN]⟩
          · rcases Nat.lt_or_ge j k with h3 | h3
            · exact (h1.out (by trivial)).2 j h3
            · obtain rfl : j = k := by omega
              rw [EX.out, EY.out, eq_of_beq h]
          · have h3 := EX.out
            rw [e, EY.out] at h3
            injection h3 with h3
            rw [h3] at h
            simp at h
        case measure => simp [intOf]; omega
      · have hnn := HNN.out
        subst hnn
        have hab : u = v := hpi.out (lists_meet (n := n) HN.out HN2.out (fun j hj => (h1.out (by trivial)).2 j (by omega)))
        have i1 : ¬ (k : Int) < (n : Int) := by omega
        clear h1 h2 hlt
        have oa : (w2.drewN q2).ownsRow w.heap.size 3 1 (.slice (some ⟨ga, 0, none⟩) n c1) n (I64 u.post) := OWA.out
        have ob : (w2.drewN q2).ownsRow w.heap.size 3 1 (.slice (some ⟨gb, 0, none⟩) n c2) n (I64 v.post) := OWB.out
        have wa : (w2.drewN q2).cell? ⟨ga, 0, none⟩ = some (.int .i64 a0) := by simpa using ca0
        have wb : (w2.drewN q2).cell? ⟨gb, 0, none⟩ = some (.int .i64 b0) := by simpa using cb0
        have la : ga < (w2.drewN q2).heap.size := ga2
        have lb : gb < (w2.drewN q2).heap.size := hgb1
        have hzW : w.heap.size ≤ (w2.drewN q2).heap.size := hz2
        have HBW := Lib.hid (below_drewN HB2.out q2)
        clear OWA OWB HB2 ca0 cb0 ga2 hgb1 ga3 gb3
        generalize w2.drewN q2 = W at *
        have hE : (Pl.simp2 16 u v).post = (.leaf 0 : Pl.Tr).post := by congr 1; unfold Pl.simp2; simp [hab] <;> first | exact fun h => h.symm | exact fun h => absurd h.symm (by assumption)
        have HE := Lib.hid hE
        clear hE hab 
        go_wp2_with fail
        all_goals (go_ret; rw [HE.out]; exact outP_row (X := [0]) rfl (own_lit1 W 0 hzW rfl) (HBW.out.alloc hzW _))
set_option maxRecDepth 100000 in
set_option maxHeartbeats 8000000 in
theorem spec_simple_bin_17 (l r : Pl.Tr) (u v : Pl.Tr) (oku : u.ok) (okv : v.ok) (hul : u.post.length ≤ 1000) (hvl : v.post.length ≤ 1000) (b off c B p m : Nat) (w : World) (H : BinW 17 l r b off c B p m w)
    (ihl : ∀ (w : World), Rd w B (some ⟨b, off, none⟩) p (I64 l.post) → B ≤ w.heap.size → Calls Tryz.prog 82 #[.slice (some ⟨b, off, none⟩) p c] w (OutP w.heap.size u.post w))
    (ihr : ∀ (w : World), Rd w B (some ⟨b, off + p, none⟩) m (I64 r.post) → B ≤ w.heap.size → Calls Tryz.prog 82 #[.slice (some ⟨b, off + p, none⟩) m (c - p)] w (OutP w.heap.size v.post w)) :
    Calls Tryz.prog 82 #[.slice (some ⟨b, off, none⟩) (p + m + 1) c] w (OutP w.heap.size (Pl.simp2 17 u v).post w) := by
  obtain ⟨hp0, hm0, hlen, hnc, hB, hbl, c0, cl, hxl, hxr, halves⟩ := H
  have IHL := Lib.hid ihl
  have IHR := Lib.hid ihr
  have HL := Lib.hid hxl
  have HR := Lib.hid hxr
  have HV := Lib.hid halves
  have k1 : ((p + m + 1 : Nat) : Int) = (p : Int) + m + 1 := by omega
  have k2 : (p : Int) + m + 1 - 1 = ((p + m : Nat) : Int) := by omega
  have k3 : (0 : Int) ≤ ((p + m : Nat) : Int) := by omega
  have k4 : ((p + m : Nat) : Int) < ((p + m + 1 : Nat) : Int) := by omega
  have ct := fun w => spec_l9Takes 17 w
  rw [Pl.takes_2 (s := 17) (by omega)] at ct
  obtain ⟨n, hn⟩ : ∃ n, u.post.length = n := ⟨_, rfl⟩
  obtain ⟨n2, hn2⟩ : ∃ n, v.post.length = n := ⟨_, rfl⟩
  have hn0 : 0 < n := by have := u.post_pos; omega
  have hn20 : 0 < n2 := by have := v.post_pos; omega
  have hul : n ≤ 1000 := by omega
  have hvl : n2 ≤ 1000 := by omega
  obtain ⟨a0, ha0⟩ : ∃ a, u.post[0]? = some a := ⟨_, List.getElem?_eq_getElem (by omega)⟩
  obtain ⟨b0, hb0⟩ : ∃ a, v.post[0]? = some a := ⟨_, List.getElem?_eq_getElem (by omega)⟩
  have HN := Lib.hid hn
  have HN2 := Lib.hid hn2
  have BU := Lib.hid ha0
  have BV := Lib.hid hb0
  have ZU := Lib.hid (is_zero oku)
  have ZV := Lib.hid (is_zero okv)
  have okuH := Lib.hid oku
  have okvH := Lib.hid okv
  have hpi := Lib.hid (fun h => Pl.post_inj oku okv h)
  clear halves hxl hxr ihl ihr hn hn2 ha0 hb0 oku okv cl
  go_enter Tryz.func82, Tryz.ntmps82
  go_wp2_with fail
  refine (ct _).mono ?_
  rintro e w' ⟨rfl, rfl⟩
  go_wp2_with fail
  refine (ct _).mono ?_
  rintro e w' ⟨rfl, rfl⟩
  go_wp2_with fail
  refine (HV.out).mono ?_
  rintro e w' ⟨rfl, q, rfl⟩
  go_wp2_with fail
  refine (IHL.out _ (HL.out.drewN q) (by simp; omega)).mono ?_
  rintro e w1 ⟨A1, c1, rfl, own1, hb1⟩
  rw [HN.out] at own1 ⊢
  have z1 : w.heap.size ≤ w1.heap.size := by simpa using hb1.size
  have own1 := own1.mono (base' := w.heap.size) (by simp)
  obtain ⟨ga, rfl, hga0, hga1⟩ := own_some own1 (by omega)
  go_wp2_with fail
  refine (IHR.out _ ((HR.out.drewN q).below (hb1.mono (by simp; omega))) (by omega)).mono ?_
  rintro e w2 ⟨A2, c2, rfl, own2, hb2⟩
  rw [HN2.out] at own2 ⊢
  have z2 := hb2.size
  have hz2 : w.heap.size ≤ w2.heap.size := by omega
  obtain ⟨gb, rfl, hgb0, hgb1⟩ := own_some own2 (by omega)
  have OWA := Lib.hid (own_below own1 hb2)
  have OWB := Lib.hid (own2.mono (base' := w.heap.size) z1)
  have HB2 := Lib.hid (((below_drewN (Below.refl w.heap.size w) q).trans (hb1.mono (by simp))).trans (hb2.mono z1))
  have ca0 : w2.cell? ⟨ga, 0, none⟩ = some (.int .i64 a0) := own_cell OWA.out (I64_get BU.out)
  have cb0 : w2.cell? ⟨gb, 0, none⟩ = some (.int .i64 b0) := own_cell OWB.out (I64_get BV.out)
  have ga2 : ga < w2.heap.size := by omega
  have ga3 : ¬ ga = w2.heap.size := by omega
  have gb3 : ¬ gb = w2.heap.size := by omega
  clear own1 own2 hb1 hb2
  go_wp2_with fail
  go_loopw [10, 11] (fun vs vk wr => ∃ (k q2 : Nat) (sm : Bool), k ≤ n ∧ vk = .int .i64 (k : Int) ∧ vs = .bool sm ∧ Hid (sm = true → n = n2 ∧ ∀ j, j < k → u.post[j]? = v.post[j]?) ∧ Hid (sm = false → u.post ≠ v.post) ∧ wr = w2.drewN q2) (fun _ vk _ => n - (intOf vk).toNat)
  case atStart =>
    refine ⟨0, 0, ((n : Int) == (n2 : Int)), by omega, rfl, rfl, Lib.hid (fun h => ⟨by have := eq_of_beq h; omega, fun j hj => absurd hj (by omega)⟩), Lib.hid (fun h e => ?_), rfl⟩
    have h1 := HN.out
    have h2 := HN2.out
    rw [e, h2] at h1
    rw [h1] at h
    simp at h
  case round =>
    obtain ⟨k, q2, sm, hk, rfl, rfl, h1, h2, rfl⟩ := hrel
    cases sm with
    | false =>
      have hab : u ≠ v := fun e => h2.out rfl (by rw [e])
      clear h1 h2
      have oa : (w2.drewN q2).ownsRow w.heap.size 3 1 (.slice (some ⟨ga, 0, none⟩) n c1) n (I64 u.post) := OWA.out
      have ob : (w2.drewN q2).ownsRow w.heap.size 3 1 (.slice (some ⟨gb, 0, none⟩) n2 c2) n2 (I64 v.post) := OWB.out
      have wa : (w2.drewN q2).cell? ⟨ga, 0, none⟩ = some (.int .i64 a0) := by simpa using ca0
      have wb : (w2.drewN q2).cell? ⟨gb, 0, none⟩ = some (.int .i64 b0) := by simpa using cb0
      have la : ga < (w2.drewN q2).heap.size := ga2
      have lb : gb < (w2.drewN q2).heap.size := hgb1
      have hzW : w.heap.size ≤ (w2.drewN q2).heap.size := hz2
      have HBW := Lib.hid (below_drewN HB2.out q2)
      clear OWA OWB HB2 ca0 cb0 ga2 hgb1 ga3 gb3
      generalize w2.drewN q2 = W at *
      by_cases hzb : v = .leaf 0
      · have hb0 := ZV.out.2 hzb
        obtain ⟨rfl, rfl⟩ := one_zero HN2.out BV.out hb0
        clear hb0
        have hE : (Pl.simp2 17 u v).post = (.leaf 0 : Pl.Tr).post := by congr 1; unfold Pl.simp2; simp [hab, hzb] <;> first | exact fun h => h.symm | exact fun h => absurd h.symm (by assumption)
        have HE := Lib.hid hE
        clear hE hab hzb 
        go_wp2_with fail
        all_goals (go_ret; rw [HE.out]; exact outP_row (X := [0]) rfl (own_lit1 W 0 hzW rfl) (HBW.out.alloc hzW _))
      · have hbn := not_zero okvH.out HN2.out BV.out (fun h => hzb (ZV.out.1 h))
        rcases hbn with hbn | ⟨rfl, hbn⟩
        · by_cases hza : u = .leaf 0
          · have ha0 := ZU.out.2 hza
            obtain ⟨rfl, rfl⟩ := one_zero HN.out BU.out ha0
            clear ha0
            have hE : (Pl.simp2 17 u v).post = (.leaf 0 : Pl.Tr).post := by congr 1; unfold Pl.simp2; simp [hab, hzb, hza] <;> first | exact fun h => h.symm | exact fun h => absurd h.symm (by assumption)
            have HE := Lib.hid hE
            clear hE hab hzb hza 
            go_wp2_with fail
            all_goals (go_ret; rw [HE.out]; exact outP_row (X := [0]) rfl (own_lit1 W 0 hzW rfl) (HBW.out.alloc hzW _))
          · have han := not_zero okuH.out HN.out BU.out (fun h => hza (ZU.out.1 h))
            rcases han with han | ⟨rfl, han⟩
            · skip
              have hE : (Pl.simp2 17 u v).post = (.bin 17 u v : Pl.Tr).post := by congr 1; unfold Pl.simp2; simp [hab, hzb, hza] <;> first | exact fun h => h.symm | exact fun h => absurd h.symm (by assumption)
              have HE := Lib.hid hE
              clear hE hab hzb hza 
              go_wp2_with (first
                | (at_builtin; refine app_more rfl (.tmp 166) (.tmp 167) rfl W.heap.size (.slice (some ⟨W.heap.size + 1, 0, none⟩) 0 0) 0 [] rfl (own_made0 _ _ (by simp) (by first | (simp; done) | (simp; omega))) (some ⟨ga, 0, none⟩) _ c1 u.post w.heap.size rfl ((oa.alloc _).alloc _) (by omega) (by omega) (by first | (simp; done) | (simp; omega)) ?_; intro v5 w5 own5 hb5)
                | (at_builtin; refine app_more rfl (.tmp 168) (.tmp 169) rfl W.heap.size v5 _ ([] ++ u.post) rfl own5 (some ⟨gb, 0, none⟩) _ c2 v.post w.heap.size rfl (own_keepB ((ob.alloc _).alloc _) (fun k hk => (ob.lt k hk).2) hb5) (by omega) (by omega) (by have h5 := hb5.size; simp at h5; omega) ?_; intro v6 w6 own6 hb6)
                | (at_builtin; refine app_int_far rfl (.tmp 170) (.tmp 172) rfl W.heap.size v6 _ ([] ++ u.post ++ v.post) 17 rfl own6 rfl (by omega) (by have h5 := hb5.size; have h6 := hb6.size; simp at h5; omega) ?_; intro v7 w7 own7 hb7 hg7))
              all_goals (go_ret; rw [HE.out]; exact outP_row (by simp [Pl.Tr.post, HN.out, HN2.out] <;> omega) (own7.mono hzW) (((HBW.out.alloc hzW _).alloc (by simp; omega) _).trans ((hb5.trans (hb6.trans hb7)).mono hzW)))
            · skip
              have hE : (Pl.simp2 17 u v).post = (.bin 17 u v : Pl.Tr).post := by congr 1; unfold Pl.simp2; simp [hab, hzb, hza] <;> first | exact fun h => h.symm | exact fun h => absurd h.symm (by assumption)
              have HE := Lib.hid hE
              clear hE hab hzb hza 
              go_wp2_with (first
                | (at_builtin; refine app_more rfl (.tmp 166) (.tmp 167) rfl W.heap.size (.slice (some ⟨W.heap.size + 1, 0, none⟩) 0 0) 0 [] rfl (own_made0 _ _ (by simp) (by first | (simp; done) | (simp; omega))) (some ⟨ga, 0, none⟩) _ c1 u.post w.heap.size rfl ((oa.alloc _).alloc _) (by omega) (by omega) (by first | (simp; done) | (simp; omega)) ?_; intro v5 w5 own5 hb5)
                | (at_builtin; refine app_more rfl (.tmp 168) (.tmp 169) rfl W.heap.size v5 _ ([] ++ u.post) rfl own5 (some ⟨gb, 0, none⟩) _ c2 v.post w.heap.size rfl (own_keepB ((ob.alloc _).alloc _) (fun k hk => (ob.lt k hk).2) hb5) (by omega) (by omega) (by have h5 := hb5.size; simp at h5; omega) ?_; intro v6 w6 own6 hb6)
                | (at_builtin; refine app_int_far rfl (.tmp 170) (.tmp 172) rfl W.heap.size v6 _ ([] ++ u.post ++ v.post) 17 rfl own6 rfl (by omega) (by have h5 := hb5.size; have h6 := hb6.size; simp at h5; omega) ?_; intro v7 w7 own7 hb7 hg7))
              all_goals (go_ret; rw [HE.out]; exact outP_row (by simp [Pl.Tr.post, HN.out, HN2.out] <;> omega) (own7.mono hzW) (((HBW.out.alloc hzW _).alloc (by simp; omega) _).trans ((hb5.trans (hb6.trans hb7)).mono hzW)))
        · by_cases hza : u = .leaf 0
          · have ha0 := ZU.out.2 hza
            obtain ⟨rfl, rfl⟩ := one_zero HN.out BU.out ha0
            clear ha0
            have hE : (Pl.simp2 17 u v).post = (.leaf 0 : Pl.Tr).post := by congr 1; unfold Pl.simp2; simp [hab, hzb, hza] <;> first | exact fun h => h.symm | exact fun h => absurd h.symm (by assumption)
            have HE := Lib.hid hE
            clear hE hab hzb hza 
            go_wp2_with fail
            all_goals (go_ret; rw [HE.out]; exact outP_row (X := [0]) rfl (own_lit1 W 0 hzW rfl) (HBW.out.alloc hzW _))
          · have han := not_zero okuH.out HN.out BU.out (fun h => hza (ZU.out.1 h))
            rcases han with han | ⟨rfl, han⟩
            · skip
              have hE : (Pl.simp2 17 u v).post = (.bin 17 u v : Pl.Tr).post := by congr 1; unfold Pl.simp2; simp [hab, hzb, hza] <;> first | exact fun h => h.symm | exact fun h => absurd h.symm (by assumption)
              have HE := Lib.hid hE
              clear hE hab hzb hza 
              go_wp2_with (first
                | (at_builtin; refine app_more rfl (.tmp 166) (.tmp 167) rfl W.heap.size (.slice (some ⟨W.heap.size + 1, 0, none⟩) 0 0) 0 [] rfl (own_made0 _ _ (by simp) (by first | (simp; done) | (simp; omega))) (some ⟨ga, 0, none⟩) _ c1 u.post w.heap.size rfl ((oa.alloc _).alloc _) (by omega) (by omega) (by first | (simp; done) | (simp; omega)) ?_; intro v5 w5 own5 hb5)
                | (at_builtin; refine app_more rfl (.tmp 168) (.tmp 169) rfl W.heap.size v5 _ ([] ++ u.post) rfl own5 (some ⟨gb, 0, none⟩) _ c2 v.post w.heap.size rfl (own_keepB ((ob.alloc _).alloc _) (fun k hk => (ob.lt k hk).2) hb5) (by omega) (by omega) (by have h5 := hb5.size; simp at h5; omega) ?_; intro v6 w6 own6 hb6)
                | (at_builtin; refine app_int_far rfl (.tmp 170) (.tmp 172) rfl W.heap.size v6 _ ([] ++ u.post ++ v.post) 17 rfl own6 rfl (by omega) (by have h5 := hb5.size; have h6 := hb6.size; simp at h5; omega) ?_; intro v7 w7 own7 hb7 hg7))
              all_goals (go_ret; rw [HE.out]; exact outP_row (by simp [Pl.Tr.post, HN.out, HN2.out] <;> omega) (own7.mono hzW) (((HBW.out.alloc hzW _).alloc (by simp; omega) _).trans ((hb5.trans (hb6.trans hb7)).mono hzW)))
            · skip
              have hE : (Pl.simp2 17 u v).post = (.bin 17 u v : Pl.Tr).post := by congr 1; unfold Pl.simp2; simp [hab, hzb, hza] <;> first | exact fun h => h.symm | exact fun h => absurd h.symm (by assumption)
              have HE := Lib.hid hE
              clear hE hab hzb hza 
              go_wp2_with (first
                | (at_builtin; refine app_more rfl (.tmp 166) (.tmp 167) rfl W.heap.size (.slice (some ⟨W.heap.size + 1, 0, none⟩) 0 0) 0 [] rfl (own_made0 _ _ (by simp) (by first | (simp; done) | (simp; omega))) (some ⟨ga, 0, none⟩) _ c1 u.post w.heap.size rfl ((oa.alloc _).alloc _) (by omega) (by omega) (by first | (simp; done) | (simp; omega)) ?_; intro v5 w5 own5 hb5)
                | (at_builtin; refine app_more rfl (.tmp 168) (.tmp 169) rfl W.heap.size v5 _ ([] ++ u.post) rfl own5 (some ⟨gb, 0, none⟩) _ c2 v.post w.heap.size rfl (own_keepB ((ob.alloc _).alloc _) (fun k hk => (ob.lt k hk).2) hb5) (by omega) (by omega) (by have h5 := hb5.size; simp at h5; omega) ?_; intro v6 w6 own6 hb6)
                | (at_builtin; refine app_int_far rfl (.tmp 170) (.tmp 172) rfl W.heap.size v6 _ ([] ++ u.post ++ v.post) 17 rfl own6 rfl (by omega) (by have h5 := hb5.size; have h6 := hb6.size; simp at h5; omega) ?_; intro v7 w7 own7 hb7 hg7))
              all_goals (go_ret; rw [HE.out]; exact outP_row (by simp [Pl.Tr.post, HN.out, HN2.out] <;> omega) (own7.mono hzW) (((HBW.out.alloc hzW _).alloc (by simp; omega) _).trans ((hb5.trans (hb6.trans hb7)).mono hzW)))
    | true =>
      have HNN := Lib.hid (h1.out (by trivial)).1
      by_cases hlt : k < n
      · obtain ⟨x, ex⟩ : ∃ x, u.post[k]? = some x := ⟨_, List.getElem?_eq_getElem (by have := HN.out; omega)⟩
        obtain ⟨y, ey⟩ : ∃ y, v.post[k]? = some y := ⟨_, List.getElem?_eq_getElem (by have := HN2.out; have := HNN.out; omega)⟩
        have cx : w2.cell? ⟨ga, k, none⟩ = some (.int .i64 x) := own_cell OWA.out (I64_get ex)
        have cy : w2.cell? ⟨gb, k, none⟩ = some (.int .i64 y) := own_cell OWB.out (I64_get ey)
        have EX := Lib.hid ex
        have EY := Lib.hid ey
        have i1 : (k : Int) < (n : Int) := by omega
        have i2 : (k : Int) < (n2 : Int) := by have := HNN.out; omega
        have i3 : (0 : Int) ≤ (k : Int) := by omega
        clear ex ey h2
        go_wp2_with fail
        go_quiet (fail)
        go_wp2_with fail
        go_roundw
        case rel =>
          refine ⟨k + 1, q2 + nq, (x == y), by omega, by go_num, rfl, Lib.hid (fun h => ⟨HNN.out, fun j hj => ?_⟩), Lib.hid (fun h e => ?_), by first | rfl | rw [World.drewN_drewN]⟩
          · rcases Nat.lt_or_ge j k with h3 | h3
            · exact (h1.out (by trivial)).2 j h3
            · obtain rfl : j = k := by omega
              rw [EX.out, EY.out, eq_of_beq h]
          · have h3 := EX.out
            rw [e, EY.out] at h3
            injection h3 with h3
            rw [h3] at h
            simp at h
        case measure => simp [intOf]; omega
      · have hnn := HNN.out
        subst hnn
        have hab : u = v := hpi.out (lists_meet (n := n) HN.out HN2.out (fun j hj => (h1.out (by trivial)).2 j (by omega)))
        have i1 : ¬ (k : Int) < (n : Int) := by omega
        clear h1 h2 hlt
        have oa : (w2.drewN q2).ownsRow w.heap.size 3 1 (.slice (some ⟨ga, 0, none⟩) n c1) n (I64 u.post) := OWA.out
        have ob : (w2.drewN q2).ownsRow w.heap.size 3 1 (.slice (some ⟨gb, 0, none⟩) n c2) n (I64 v.post) := OWB.out
        have wa : (w2.drewN q2).cell? ⟨ga, 0, none⟩ = some (.int .i64 a0) := by simpa using ca0
        have wb : (w2.drewN q2).cell? ⟨gb, 0, none⟩ = some (.int .i64 b0) := by simpa using cb0
        have la : ga < (w2.drewN q2).heap.size := ga2
        have lb : gb < (w2.drewN q2).heap.size := hgb1
        have hzW : w.heap.size ≤ (w2.drewN q2).heap.size := hz2
        have HBW := Lib.hid (below_drewN HB2.out q2)
        clear OWA OWB HB2 ca0 cb0 ga2 hgb1 ga3 gb3
        generalize w2.drewN q2 = W at *
        have hE : (Pl.simp2 17 u v).post = (u : Pl.Tr).post := by congr 1; unfold Pl.simp2; simp [hab] <;> first | exact fun h => h.symm | exact fun h => absurd h.symm (by assumption)
        have HE := Lib.hid hE
        clear hE hab 
        go_wp2_with fail
        all_goals (go_ret; rw [HE.out]; exact outP_row HN.out (oa.alloc _) (HBW.out.alloc hzW _))
end Go.Proofs.YtamhpgledbmnoaaGreatDoor
