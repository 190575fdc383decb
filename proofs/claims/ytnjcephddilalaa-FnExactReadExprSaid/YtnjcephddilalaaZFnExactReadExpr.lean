/-
  For every input the law FnExactReadExpr returns true and leaves what was there as it was: the frame round its walk.
  Conditions: none.
-/
import Derived.Test.YtnjcephddilalaaX11
import Derived.Test.YtnjcephddilalaaFc
namespace Go.Proofs.Ytnjcephddilalaa.fnExactReadExpr
open Go.ChangeShapes Go.WideShapes Go.ChangeAt Go.RowKit
open Go.ChangeMaps (open_string shut_string)
set_option linter.unusedVariables false
set_option linter.unusedSimpArgs false

set_option maxRecDepth 100000 in
theorem lifted (os : Os) (started : os.Started) (H : Type) (enc : TypeId × Value → H) :
    ReturnsInHanded {} Try.checked os 11 .any (Rows.fnExactReadExprSpec.pre6 enc Try.prog Try.f11 Rows.fnExactReadExprRow.domain false) (Rows.fnExactReadExprSpec.post enc Try.prog Try.f11 false true false false) := by
  refine returnsInHanded_of_change (C := Try.checked) own started (by kernel_rfl) Try.func11
    (ChangeSpec.witness6 (enc := enc) (C := Try.checked) false ⟨#[], #[.string ByteArray.empty], []⟩ 8 (by kernel_rfl) (by kernel_rfl) (by kernel_rfl) (by kernel_rfl)) ?_
  intro W base args ds gs before hval0 hW hcnd _
  have hval : ∀ (j : Nat) t v, Try.f11.params[j]? = some t → args[j]? = some v → Value.okWide Try.prog W .any base t v := hval0
  have hW' := hW
  obtain ⟨p, q, hA0, hV, rfl, hfz, hnd⟩ := hW
  have hA : DataW.TrodAll enc Try.prog W 0 (fun _ => true) true Try.f11.params.toList args.toList ds p := hA0
  rw [Try.params11] at hA hval
  obtain ⟨v0, vs0, d0, ds0, p0, q0, hargs, rfl, rfl, h0, r0⟩ := trodAll_cons hA
  obtain ⟨rfl, rfl, rfl⟩ := trodAll_nil r0
  obtain rfl : args = #[v0] := by cases args; simp_all
  obtain ⟨rfl, rfl⟩ := trodVars_none hV
  obtain ⟨a0, rfl, rfl, rfl, w0⟩ := open_string Try.underlying9 (hval 0 9 v0 rfl rfl) h0
  clear hA0 hval0
  refine (law_FnExactReadExpr a0 W w0).mono fun e W' ⟨he, bel⟩ => ?_
  subst he
  exact ⟨_, rfl, _, _, _, [], _, [], hW', trodAll_mk1 (shut_bool Try.underlying4 _), (trodAll_cons_mk (shut_string Try.underlying9 w0) trodAll_mk0), rfl, bel.frame _, fun h => by cases h⟩

theorem fact0 : (Rows.fnExactReadExprRow.wf (OpenSpec.ofChange Rows.fnExactReadExprSpec)) = true := by kernel_rfl
theorem fact3 : (Try.f11.params.all (Try.checked.prog.readableRec ·)) = true := by kernel_rfl
theorem fact4 : (namedTie Try.checked.prog Rows.fnExactReadExprRow.named Rows.fnExactReadExprSpec.vars) = true := by kernel_rfl
theorem fact5 : ((Rows.fnExactReadExprRow.stops == [])) = true := by kernel_rfl
theorem fact7 : ((Rows.fnExactReadExprRow.knobs == [])) = true := by kernel_rfl
theorem fact9 : ((Rows.fnExactReadExprRow.inPlace == Try.checked.prog.inPlace 11)) = true := by kernel_rfl
theorem fact10 : ((Rows.fnExactReadExprRow.unfollowed == Try.checked.prog.unfollowed 11)) = true := by kernel_rfl
theorem fact11 : ((Rows.fnExactReadExprRow.recurses == Try.checked.prog.recurses 11)) = true := by kernel_rfl
theorem fact12 : ((Rows.fnExactReadExprRow.named == Try.checked.prog.varsNamed 11)) = true := by kernel_rfl
theorem fact13 : ((Rows.fnExactReadExprRow.maps == (Try.f11.params.toList ++ Rows.fnExactReadExprSpec.plain.varTypes Try.checked.prog).any (Try.checked.prog.mapsRec ·))) = true := by kernel_rfl
theorem fact14 : ((Rows.fnExactReadExprRow.ifaces == (Try.f11.params.toList ++ Rows.fnExactReadExprSpec.plain.varTypes Try.checked.prog).any (Try.checked.prog.ifacesRec ·))) = true := by kernel_rfl
theorem fact15 : ((Rows.fnExactReadExprRow.mapsOut == Try.checked.prog.mapsAmong Try.f11.resultTypes.toList)) = true := by kernel_rfl
theorem fact16 : ((Rows.fnExactReadExprRow.loops == (Try.f11.params.toList ++ Rows.fnExactReadExprSpec.plain.varTypes Try.checked.prog).any (Try.checked.prog.loopsFrom ·))) = true := by kernel_rfl
theorem fact17 : ((Rows.fnExactReadExprRow.wideKeys == (Try.f11.params.toList ++ Rows.fnExactReadExprSpec.plain.varTypes Try.checked.prog ++ Try.f11.resultTypes.toList).any (Try.checked.prog.wideKeysFrom ·))) = true := by kernel_rfl
theorem fact18 : (Rows.fnExactReadExprSpec.vars.all (Try.checked.prog.varReadable ·)) = true := by kernel_rfl
theorem fact19 : (Try.f11.resultTypes.all (fun t => Try.checked.prog.readableRec t && decide (t < Try.checked.prog.types.size))) = true := by kernel_rfl
theorem fact20 : ((Rows.fnExactReadExprRow.ifacesOut == Try.f11.resultTypes.toList.any (Try.checked.prog.ifacesRec ·))) = true := by kernel_rfl
theorem fact21 : ((Rows.fnExactReadExprRow.loopsOut == Try.f11.resultTypes.toList.any (Try.checked.prog.loopsFrom ·))) = true := by kernel_rfl
theorem fact23 : (Rows.fnExactReadExprRow.shortTexts.isNone) = true := by kernel_rfl
theorem fact28 : ((Rows.fnExactReadExprRow.kinds == (if Rows.fnExactReadExprRow.domain.isEmpty then [] else Try.f11.params.toList.map fun t => match Try.checked.prog.underlying t with | some (.int k) => some k | _ => none))) = true := by kernel_rfl
theorem fact29 : ((Rows.fnExactReadExprRow.pinned == Rows.fnExactReadExprRow.pinnedBy)) = true := by kernel_rfl
theorem fact30 : ((Rows.fnExactReadExprRow.veiled == (Try.f11.params.toList ++ Rows.fnExactReadExprSpec.plain.varTypes Try.checked.prog ++ Try.f11.resultTypes.toList).any (Try.checked.prog.veiledRec ·))) = true := by kernel_rfl
theorem fact31 : (Rows.fnExactReadExprRow.veiledFits Try.checked.prog Try.f11.params.toList (Try.f11.params.toList ++ Rows.fnExactReadExprSpec.plain.varTypes Try.checked.prog ++ Try.f11.resultTypes.toList)) = true := by kernel_rfl
set_option maxRecDepth 100000 in
theorem facts : joinedFacts Try.checked.prog 11 Try.f11 Rows.fnExactReadExprSpec Rows.fnExactReadExprRow = true := by
  unfold joinedFacts
  exact (Fc.and_mk (Fc.and_mk (Fc.and_mk (Fc.and_mk (Fc.and_mk (Fc.and_mk (Fc.and_mk (Fc.and_mk (Fc.and_mk (Fc.and_mk (Fc.and_mk (Fc.and_mk (Fc.and_mk (Fc.and_mk (Fc.and_mk (Fc.and_mk (Fc.and_mk (Fc.and_mk (Fc.and_mk (Fc.and_mk (Fc.and_mk (Fc.and_mk (Fc.and_mk (Fc.and_mk (Fc.and_mk (Fc.and_mk (Fc.and_mk (Fc.and_mk (Fc.and_mk (Fc.and_mk (Fc.and_mk fact0 Fc.laid) Fc.maps_) fact3) fact4) fact5) Fc.stops_) fact7) Fc.knobs_) fact9) fact10) fact11) fact12) fact13) fact14) fact15) fact16) fact17) fact18) fact19) fact20) fact21) Fc.keys_) fact23) Fc.heard_) Fc.enters) Fc.final_) Fc.make_) fact28) fact29) fact30) fact31)
theorem over : Rows.fnExactReadExprRow.holds Try.pinned (OpenSpec.ofChange Rows.fnExactReadExprSpec) :=
  OpenClaim.holds_of_wide 11 Try.f11 rfl rfl rfl rfl rfl rfl rfl ⟨rfl, rfl, rfl, rfl, rfl⟩ rfl rfl rfl rfl rfl (by kernel_rfl) Try.func11 facts
    (of_decide_eq_true (by kernel_rfl)) (by unfold Func.isWrapper; first | (rw [if_pos (by decide +kernel)]; kernel_rfl) | (rw [if_neg (by decide +kernel)]; exact ⟨rfl, rfl⟩))
    (fun os started H enc _ => lifted os started H enc)

theorem proved : Rows.FnExactReadExprSaid := over
#print axioms proved
end Go.Proofs.Ytnjcephddilalaa.fnExactReadExpr
