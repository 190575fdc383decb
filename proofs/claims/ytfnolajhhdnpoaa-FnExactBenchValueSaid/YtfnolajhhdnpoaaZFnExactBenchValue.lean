/-
  For every input the law FnExactBenchValue returns true and leaves what was there as it was: the frame round its walk.
  Conditions: none.
-/
import Derived.Test.YtfnolajhhdnpoaaX15
import Derived.Test.YtfnolajhhdnpoaaFc
namespace Go.Proofs.Ytfnolajhhdnpoaa.fnExactBenchValue
open Go.ChangeShapes Go.WideShapes Go.ChangeAt Go.RowKit
open Go.ChangeMaps (open_string shut_string)
set_option linter.unusedVariables false
set_option linter.unusedSimpArgs false

set_option maxRecDepth 100000 in
theorem lifted (os : Os) (started : os.Started) (H : Type) (enc : TypeId × Value → H) :
    ReturnsInHanded {} Try.checked os 4 .any (Rows.fnExactBenchValueSpec.pre6 enc Try.prog Try.f4 Rows.fnExactBenchValueRow.domain false) (Rows.fnExactBenchValueSpec.post enc Try.prog Try.f4 false true false false) := by
  refine returnsInHanded_of_change (C := Try.checked) own started (by kernel_rfl) Try.func4
    (ChangeSpec.witness6 (enc := enc) (C := Try.checked) false ⟨#[], #[.agg #[.int .i64 0, .int .i64 0, .int .i64 0, .slice none 0 0, .slice none 0 0]], []⟩ 8 (by kernel_rfl) (by kernel_rfl) (by kernel_rfl) (by kernel_rfl)) ?_
  intro W base args ds gs before hval0 hW hcnd _
  have hval : ∀ (j : Nat) t v, Try.f4.params[j]? = some t → args[j]? = some v → Value.okWide Try.prog W .any base t v := hval0
  have hW' := hW
  obtain ⟨p, q, hA0, hV, rfl, hfz, hnd⟩ := hW
  have hA : DataW.TrodAll enc Try.prog W 0 (fun _ => true) true Try.f4.params.toList args.toList ds p := hA0
  rw [Try.params4] at hA hval
  obtain ⟨v0, vs0, d0, ds0, p0, q0, hargs, rfl, rfl, h0, r0⟩ := trodAll_cons hA
  obtain ⟨rfl, rfl, rfl⟩ := trodAll_nil r0
  obtain rfl : args = #[v0] := by cases args; simp_all
  obtain ⟨rfl, rfl⟩ := trodVars_none hV
  have k0 := h0
  have lt0 : ∀ x ∈ p0, x.block < W.heap.size := by obtain ⟨m, hm⟩ := k0; exact DataW.trod_lt m _ _ _ hm
  have w0 : IsBench W v0 := isBench_open (hval 0 25 v0 rfl rfl) h0
  clear hA0 hval0
  refine (law_FnExactBenchValue v0 W w0).mono fun e W' ⟨he, bel⟩ => ?_
  subst he
  exact ⟨_, rfl, _, _, _, [], _, [], hW', trodAll_mk1 (shut_bool Try.underlying4 _), (trodAll_cons_mk (Below.trod laidOut (by kernel_rfl) (of_decide_eq_true (by kernel_rfl)) k0 bel lt0) trodAll_mk0), rfl, bel.frame _, fun h => by cases h⟩

theorem fact0 : (Rows.fnExactBenchValueRow.wf (OpenSpec.ofChange Rows.fnExactBenchValueSpec)) = true := by kernel_rfl
theorem fact3 : (Try.f4.params.all (Try.checked.prog.readableRec ·)) = true := by kernel_rfl
theorem fact4 : (namedTie Try.checked.prog Rows.fnExactBenchValueRow.named Rows.fnExactBenchValueSpec.vars) = true := by kernel_rfl
theorem fact5 : ((Rows.fnExactBenchValueRow.stops == [])) = true := by kernel_rfl
theorem fact7 : ((Rows.fnExactBenchValueRow.knobs == [])) = true := by kernel_rfl
theorem fact9 : ((Rows.fnExactBenchValueRow.inPlace == Try.checked.prog.inPlace 4)) = true := by kernel_rfl
theorem fact10 : ((Rows.fnExactBenchValueRow.unfollowed == Try.checked.prog.unfollowed 4)) = true := by kernel_rfl
theorem fact11 : ((Rows.fnExactBenchValueRow.recurses == Try.checked.prog.recurses 4)) = true := by kernel_rfl
theorem fact12 : ((Rows.fnExactBenchValueRow.named == Try.checked.prog.varsNamed 4)) = true := by kernel_rfl
theorem fact13 : ((Rows.fnExactBenchValueRow.maps == (Try.f4.params.toList ++ Rows.fnExactBenchValueSpec.plain.varTypes Try.checked.prog).any (Try.checked.prog.mapsRec ·))) = true := by kernel_rfl
theorem fact14 : ((Rows.fnExactBenchValueRow.ifaces == (Try.f4.params.toList ++ Rows.fnExactBenchValueSpec.plain.varTypes Try.checked.prog).any (Try.checked.prog.ifacesRec ·))) = true := by kernel_rfl
theorem fact15 : ((Rows.fnExactBenchValueRow.mapsOut == Try.checked.prog.mapsAmong Try.f4.resultTypes.toList)) = true := by kernel_rfl
theorem fact16 : ((Rows.fnExactBenchValueRow.loops == (Try.f4.params.toList ++ Rows.fnExactBenchValueSpec.plain.varTypes Try.checked.prog).any (Try.checked.prog.loopsFrom ·))) = true := by kernel_rfl
theorem fact17 : ((Rows.fnExactBenchValueRow.wideKeys == (Try.f4.params.toList ++ Rows.fnExactBenchValueSpec.plain.varTypes Try.checked.prog ++ Try.f4.resultTypes.toList).any (Try.checked.prog.wideKeysFrom ·))) = true := by kernel_rfl
theorem fact18 : (Rows.fnExactBenchValueSpec.vars.all (Try.checked.prog.varReadable ·)) = true := by kernel_rfl
theorem fact19 : (Try.f4.resultTypes.all (fun t => Try.checked.prog.readableRec t && decide (t < Try.checked.prog.types.size))) = true := by kernel_rfl
theorem fact20 : ((Rows.fnExactBenchValueRow.ifacesOut == Try.f4.resultTypes.toList.any (Try.checked.prog.ifacesRec ·))) = true := by kernel_rfl
theorem fact21 : ((Rows.fnExactBenchValueRow.loopsOut == Try.f4.resultTypes.toList.any (Try.checked.prog.loopsFrom ·))) = true := by kernel_rfl
theorem fact23 : (Rows.fnExactBenchValueRow.shortTexts.isNone) = true := by kernel_rfl
theorem fact28 : ((Rows.fnExactBenchValueRow.kinds == (if Rows.fnExactBenchValueRow.domain.isEmpty then [] else Try.f4.params.toList.map fun t => match Try.checked.prog.underlying t with | some (.int k) => some k | _ => none))) = true := by kernel_rfl
theorem fact29 : ((Rows.fnExactBenchValueRow.pinned == Rows.fnExactBenchValueRow.pinnedBy)) = true := by kernel_rfl
theorem fact30 : ((Rows.fnExactBenchValueRow.veiled == (Try.f4.params.toList ++ Rows.fnExactBenchValueSpec.plain.varTypes Try.checked.prog ++ Try.f4.resultTypes.toList).any (Try.checked.prog.veiledRec ·))) = true := by kernel_rfl
theorem fact31 : (Rows.fnExactBenchValueRow.veiledFits Try.checked.prog Try.f4.params.toList (Try.f4.params.toList ++ Rows.fnExactBenchValueSpec.plain.varTypes Try.checked.prog ++ Try.f4.resultTypes.toList)) = true := by kernel_rfl
set_option maxRecDepth 100000 in
theorem facts : joinedFacts Try.checked.prog 4 Try.f4 Rows.fnExactBenchValueSpec Rows.fnExactBenchValueRow = true := by
  unfold joinedFacts
  exact (Fc.and_mk (Fc.and_mk (Fc.and_mk (Fc.and_mk (Fc.and_mk (Fc.and_mk (Fc.and_mk (Fc.and_mk (Fc.and_mk (Fc.and_mk (Fc.and_mk (Fc.and_mk (Fc.and_mk (Fc.and_mk (Fc.and_mk (Fc.and_mk (Fc.and_mk (Fc.and_mk (Fc.and_mk (Fc.and_mk (Fc.and_mk (Fc.and_mk (Fc.and_mk (Fc.and_mk (Fc.and_mk (Fc.and_mk (Fc.and_mk (Fc.and_mk (Fc.and_mk (Fc.and_mk (Fc.and_mk fact0 Fc.laid) Fc.maps_) fact3) fact4) fact5) Fc.stops_) fact7) Fc.knobs_) fact9) fact10) fact11) fact12) fact13) fact14) fact15) fact16) fact17) fact18) fact19) fact20) fact21) Fc.keys_) fact23) Fc.heard_) Fc.enters) Fc.final_) Fc.make_) fact28) fact29) fact30) fact31)
theorem over : Rows.fnExactBenchValueRow.holds Try.pinned (OpenSpec.ofChange Rows.fnExactBenchValueSpec) :=
  OpenClaim.holds_of_wide 4 Try.f4 rfl rfl rfl rfl rfl rfl rfl ⟨rfl, rfl, rfl, rfl, rfl⟩ rfl rfl rfl rfl rfl (by kernel_rfl) Try.func4 facts
    (of_decide_eq_true (by kernel_rfl)) (by unfold Func.isWrapper; first | (rw [if_pos (by decide +kernel)]; kernel_rfl) | (rw [if_neg (by decide +kernel)]; exact ⟨rfl, rfl⟩))
    (fun os started H enc _ => lifted os started H enc)

theorem proved : Rows.FnExactBenchValueSaid := over
#print axioms proved
end Go.Proofs.Ytfnolajhhdnpoaa.fnExactBenchValue
