/-
  For every input the law FnExactEqualAt returns true and leaves what was there as it was: the frame round its walk.
  Conditions: none.
-/
import Derived.Test.YtnjcephddilalaaX6
import Derived.Test.YtnjcephddilalaaFc
namespace Go.Proofs.Ytnjcephddilalaa.fnExactEqualAt
open Go.ChangeShapes Go.WideShapes Go.ChangeAt Go.RowKit
open Go.ChangeMaps (open_string shut_string)
set_option linter.unusedVariables false
set_option linter.unusedSimpArgs false

set_option maxRecDepth 100000 in
theorem lifted (os : Os) (started : os.Started) (H : Type) (enc : TypeId × Value → H) :
    ReturnsInHanded {} Try.checked os 9 .any (Rows.fnExactEqualAtSpec.pre6 enc Try.prog Try.f9 Rows.fnExactEqualAtRow.domain false) (Rows.fnExactEqualAtSpec.post enc Try.prog Try.f9 false true false false) := by
  refine returnsInHanded_of_change (C := Try.checked) own started (by kernel_rfl) Try.func9
    (ChangeSpec.witness6 (enc := enc) (C := Try.checked) false ⟨#[], #[.int .i64 0, .slice none 0 0, .slice none 0 0], []⟩ 8 (by kernel_rfl) (by kernel_rfl) (by kernel_rfl) (by kernel_rfl)) ?_
  intro W base args ds gs before hval0 hW hcnd _
  have hval : ∀ (j : Nat) t v, Try.f9.params[j]? = some t → args[j]? = some v → Value.okWide Try.prog W .any base t v := hval0
  have hW' := hW
  obtain ⟨p, q, hA0, hV, rfl, hfz, hnd⟩ := hW
  have hA : DataW.TrodAll enc Try.prog W 0 (fun _ => true) true Try.f9.params.toList args.toList ds p := hA0
  rw [Try.params9] at hA hval
  obtain ⟨v0, vs0, d0, ds0, p0, q0, hargs, rfl, rfl, h0, r0⟩ := trodAll_cons hA
  obtain ⟨v1, vs1, d1, ds1, p1, q1, rfl, rfl, rfl, h1, r1⟩ := trodAll_cons r0
  obtain ⟨v2, vs2, d2, ds2, p2, q2, rfl, rfl, rfl, h2, r2⟩ := trodAll_cons r1
  obtain ⟨rfl, rfl, rfl⟩ := trodAll_nil r2
  obtain rfl : args = #[v0, v1, v2] := by cases args; simp_all
  obtain ⟨rfl, rfl⟩ := trodVars_none hV
  obtain ⟨a0, rfl, rfl, rfl, w0⟩ := open_int Try.underlying3 (hval 0 3 v0 rfl rfl) h0
  obtain ⟨a1, len1, cap1, rfl⟩ := okWide_slice Try.underlying22 (hval 1 22 v1 rfl rfl)
  have k1 := h1
  have lt1 : ∀ x ∈ p1, x.block < W.heap.size := by obtain ⟨m, hm⟩ := k1; exact DataW.trod_lt m _ _ _ hm
  obtain ⟨z1, w1⟩ : ∃ zs, IsRow .i64 W a1 len1 cap1 zs := by
    obtain ⟨fuel, hf⟩ := h1
    rcases open_ints Try.underlying22 Try.underlying3 (by kernel_rfl) hf with ⟨hcs, _⟩ | ⟨x, l, c, zs, hcs, _, hl, hm, hz, hx, hcell, hwz⟩
    · simp [Value.cells] at hcs
      obtain ⟨rfl, rfl, rfl⟩ := hcs
      exact ⟨[], .inl ⟨rfl, rfl, rfl, rfl⟩⟩
    · simp [Value.cells] at hcs
      obtain ⟨rfl, rfl, rfl⟩ := hcs
      exact ⟨zs, .inr ⟨_, rfl, hl, hm, by simpa using hz, hcell, hwz⟩⟩
  obtain ⟨a2, len2, cap2, rfl⟩ := okWide_slice Try.underlying22 (hval 2 22 v2 rfl rfl)
  have k2 := h2
  have lt2 : ∀ x ∈ p2, x.block < W.heap.size := by obtain ⟨m, hm⟩ := k2; exact DataW.trod_lt m _ _ _ hm
  obtain ⟨z2, w2⟩ : ∃ zs, IsRow .i64 W a2 len2 cap2 zs := by
    obtain ⟨fuel, hf⟩ := h2
    rcases open_ints Try.underlying22 Try.underlying3 (by kernel_rfl) hf with ⟨hcs, _⟩ | ⟨x, l, c, zs, hcs, _, hl, hm, hz, hx, hcell, hwz⟩
    · simp [Value.cells] at hcs
      obtain ⟨rfl, rfl, rfl⟩ := hcs
      exact ⟨[], .inl ⟨rfl, rfl, rfl, rfl⟩⟩
    · simp [Value.cells] at hcs
      obtain ⟨rfl, rfl, rfl⟩ := hcs
      exact ⟨zs, .inr ⟨_, rfl, hl, hm, by simpa using hz, hcell, hwz⟩⟩
  clear hA0 hval0
  refine (law_FnExactEqualAt a0 a1 len1 cap1 z1 a2 len2 cap2 z2 W w0 w1 w2).mono fun e W' ⟨he, bel⟩ => ?_
  subst he
  exact ⟨_, rfl, _, _, _, [], _, [], hW', trodAll_mk1 (shut_bool Try.underlying4 _), (trodAll_cons_mk (shut_int Try.underlying3 w0) (trodAll_cons_mk (Below.trod laidOut (by kernel_rfl) (of_decide_eq_true (by kernel_rfl)) k1 bel lt1) (trodAll_cons_mk (Below.trod laidOut (by kernel_rfl) (of_decide_eq_true (by kernel_rfl)) k2 bel lt2) trodAll_mk0))), rfl, bel.frame _, fun h => by cases h⟩

theorem fact0 : (Rows.fnExactEqualAtRow.wf (OpenSpec.ofChange Rows.fnExactEqualAtSpec)) = true := by kernel_rfl
theorem fact3 : (Try.f9.params.all (Try.checked.prog.readableRec ·)) = true := by kernel_rfl
theorem fact4 : (namedTie Try.checked.prog Rows.fnExactEqualAtRow.named Rows.fnExactEqualAtSpec.vars) = true := by kernel_rfl
theorem fact5 : ((Rows.fnExactEqualAtRow.stops == [])) = true := by kernel_rfl
theorem fact7 : ((Rows.fnExactEqualAtRow.knobs == [])) = true := by kernel_rfl
theorem fact9 : ((Rows.fnExactEqualAtRow.inPlace == Try.checked.prog.inPlace 9)) = true := by kernel_rfl
theorem fact10 : ((Rows.fnExactEqualAtRow.unfollowed == Try.checked.prog.unfollowed 9)) = true := by kernel_rfl
theorem fact11 : ((Rows.fnExactEqualAtRow.recurses == Try.checked.prog.recurses 9)) = true := by kernel_rfl
theorem fact12 : ((Rows.fnExactEqualAtRow.named == Try.checked.prog.varsNamed 9)) = true := by kernel_rfl
theorem fact13 : ((Rows.fnExactEqualAtRow.maps == (Try.f9.params.toList ++ Rows.fnExactEqualAtSpec.plain.varTypes Try.checked.prog).any (Try.checked.prog.mapsRec ·))) = true := by kernel_rfl
theorem fact14 : ((Rows.fnExactEqualAtRow.ifaces == (Try.f9.params.toList ++ Rows.fnExactEqualAtSpec.plain.varTypes Try.checked.prog).any (Try.checked.prog.ifacesRec ·))) = true := by kernel_rfl
theorem fact15 : ((Rows.fnExactEqualAtRow.mapsOut == Try.checked.prog.mapsAmong Try.f9.resultTypes.toList)) = true := by kernel_rfl
theorem fact16 : ((Rows.fnExactEqualAtRow.loops == (Try.f9.params.toList ++ Rows.fnExactEqualAtSpec.plain.varTypes Try.checked.prog).any (Try.checked.prog.loopsFrom ·))) = true := by kernel_rfl
theorem fact17 : ((Rows.fnExactEqualAtRow.wideKeys == (Try.f9.params.toList ++ Rows.fnExactEqualAtSpec.plain.varTypes Try.checked.prog ++ Try.f9.resultTypes.toList).any (Try.checked.prog.wideKeysFrom ·))) = true := by kernel_rfl
theorem fact18 : (Rows.fnExactEqualAtSpec.vars.all (Try.checked.prog.varReadable ·)) = true := by kernel_rfl
theorem fact19 : (Try.f9.resultTypes.all (fun t => Try.checked.prog.readableRec t && decide (t < Try.checked.prog.types.size))) = true := by kernel_rfl
theorem fact20 : ((Rows.fnExactEqualAtRow.ifacesOut == Try.f9.resultTypes.toList.any (Try.checked.prog.ifacesRec ·))) = true := by kernel_rfl
theorem fact21 : ((Rows.fnExactEqualAtRow.loopsOut == Try.f9.resultTypes.toList.any (Try.checked.prog.loopsFrom ·))) = true := by kernel_rfl
theorem fact23 : (Rows.fnExactEqualAtRow.shortTexts.isNone) = true := by kernel_rfl
theorem fact28 : ((Rows.fnExactEqualAtRow.kinds == (if Rows.fnExactEqualAtRow.domain.isEmpty then [] else Try.f9.params.toList.map fun t => match Try.checked.prog.underlying t with | some (.int k) => some k | _ => none))) = true := by kernel_rfl
theorem fact29 : ((Rows.fnExactEqualAtRow.pinned == Rows.fnExactEqualAtRow.pinnedBy)) = true := by kernel_rfl
theorem fact30 : ((Rows.fnExactEqualAtRow.veiled == (Try.f9.params.toList ++ Rows.fnExactEqualAtSpec.plain.varTypes Try.checked.prog ++ Try.f9.resultTypes.toList).any (Try.checked.prog.veiledRec ·))) = true := by kernel_rfl
theorem fact31 : (Rows.fnExactEqualAtRow.veiledFits Try.checked.prog Try.f9.params.toList (Try.f9.params.toList ++ Rows.fnExactEqualAtSpec.plain.varTypes Try.checked.prog ++ Try.f9.resultTypes.toList)) = true := by kernel_rfl
set_option maxRecDepth 100000 in
theorem facts : joinedFacts Try.checked.prog 9 Try.f9 Rows.fnExactEqualAtSpec Rows.fnExactEqualAtRow = true := by
  unfold joinedFacts
  exact (Fc.and_mk (Fc.and_mk (Fc.and_mk (Fc.and_mk (Fc.and_mk (Fc.and_mk (Fc.and_mk (Fc.and_mk (Fc.and_mk (Fc.and_mk (Fc.and_mk (Fc.and_mk (Fc.and_mk (Fc.and_mk (Fc.and_mk (Fc.and_mk (Fc.and_mk (Fc.and_mk (Fc.and_mk (Fc.and_mk (Fc.and_mk (Fc.and_mk (Fc.and_mk (Fc.and_mk (Fc.and_mk (Fc.and_mk (Fc.and_mk (Fc.and_mk (Fc.and_mk (Fc.and_mk (Fc.and_mk fact0 Fc.laid) Fc.maps_) fact3) fact4) fact5) Fc.stops_) fact7) Fc.knobs_) fact9) fact10) fact11) fact12) fact13) fact14) fact15) fact16) fact17) fact18) fact19) fact20) fact21) Fc.keys_) fact23) Fc.heard_) Fc.enters) Fc.final_) Fc.make_) fact28) fact29) fact30) fact31)
theorem over : Rows.fnExactEqualAtRow.holds Try.pinned (OpenSpec.ofChange Rows.fnExactEqualAtSpec) :=
  OpenClaim.holds_of_wide 9 Try.f9 rfl rfl rfl rfl rfl rfl rfl ⟨rfl, rfl, rfl, rfl, rfl⟩ rfl rfl rfl rfl rfl (by kernel_rfl) Try.func9 facts
    (of_decide_eq_true (by kernel_rfl)) (by unfold Func.isWrapper; first | (rw [if_pos (by decide +kernel)]; kernel_rfl) | (rw [if_neg (by decide +kernel)]; exact ⟨rfl, rfl⟩))
    (fun os started H enc _ => lifted os started H enc)

theorem proved : Rows.FnExactEqualAtSaid := over
#print axioms proved
end Go.Proofs.Ytnjcephddilalaa.fnExactEqualAt
