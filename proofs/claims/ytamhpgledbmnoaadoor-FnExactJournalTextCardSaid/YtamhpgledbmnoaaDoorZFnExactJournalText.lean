/-
  For every input the law FnExactJournalText returns true and leaves what was there as it was: the frame round its walk.
  Conditions: none.
-/
import Derived.Test.YtamhpgledbmnoaaDoorX20
import Derived.Test.YtamhpgledbmnoaaDoorFc
import Derived.Test.YtamhpgledbmnoaaDoorLw
import Derived.Test.YtamhpgledbmnoaaDoorTie
import Derived.Test.YtamhpgledbmnoaaDoorCards
namespace Go.Proofs.YtamhpgledbmnoaaDoor.fnExactJournalText
open Go.ChangeShapes Go.WideShapes Go.ChangeAt Go.RowKit
open Go.ChangeMaps (open_string shut_string)
set_option linter.unusedVariables false
set_option linter.unusedSimpArgs false

theorem door_met (os : Os) (args : Array Value) : laidMetH Tryd.prog Rows.fnExactJournalTextRow.laid ((World.doorLaid Tryd.prog 62 os).forCall (fun _ _ => 0) ⟨#[], args, []⟩).memory :=
  show laidMet Tryd.prog Rows.fnExactJournalTextRow.laid _ from laidMet_of_run' 8 (by kernel_rfl) (by kernel_rfl)
set_option maxRecDepth 100000 in
theorem lifted (os : Os) (started : os.Started) (H : Type) (enc : TypeId × Value → H) :
    ReturnsInHanded {} Tryd.checked os 4 .any (fun w args => (Rows.fnExactJournalTextSpec.pre enc Tryd.prog Tryd.f4 Rows.fnExactJournalTextRow.domain false w args ∧ laidMetH Tryd.prog Rows.fnExactJournalTextRow.laid w) ∧ sizedMet enc Tryd.prog Tryd.f4 (OpenSpec.ofChange Rows.fnExactJournalTextSpec) false w args) (Rows.fnExactJournalTextSpec.post enc Tryd.prog Tryd.f4 false true false false) := by
  refine returns_laid (C := Tryd.checked) (X := fun w _ => laidMetH Tryd.prog Rows.fnExactJournalTextRow.laid w) (fun _ _ _ hh h => h.of_heap hh) own started (by kernel_rfl) Tryd.func4
    (ChangeSpec.witness_shaped (enc := enc) (C := Tryd.checked) (os := os) (X := fun w _ => laidMetH Tryd.prog Rows.fnExactJournalTextRow.laid w) false (World.doorLaid Tryd.prog 62 os) #[.slice none 0 0] 8 rfl (World.shaped_of_RefB (by kernel_rfl) (by kernel_rfl)) (by kernel_rfl) (by kernel_rfl) (by kernel_rfl) (door_met os _)) ?_
  intro W base args ds gs before hval0 hW hcnd hshape hL
  have hL1 : laidMet Tryd.prog [("math/bits.deBruijn32tab", Rows.laid_math_bits_deBruijn32tab), ("math/bits.deBruijn64tab", Rows.laid_math_bits_deBruijn64tab), ("internal/strconv.uint64pow10", Rows.laid_internal_strconv_uint64pow10)] W := hL
  have HL := tab_of hL1.tail.tail
  have hval : ∀ (j : Nat) t v, Tryd.f4.params[j]? = some t → args[j]? = some v → Value.okWide Tryd.prog W .any base t v := hval0
  have hW' := hW
  obtain ⟨p, q, hA0, hV, rfl, hfz, hnd⟩ := hW
  have hA : DataW.TrodAll enc Tryd.prog W 0 (fun _ => true) true Tryd.f4.params.toList args.toList ds p := hA0
  rw [Tryd.params4] at hA hval
  obtain ⟨v0, vs0, d0, ds0, p0, q0, hargs, rfl, rfl, h0, r0⟩ := trodAll_cons hA
  obtain ⟨rfl, rfl, rfl⟩ := trodAll_nil r0
  obtain rfl : args = #[v0] := by cases args; simp_all
  obtain ⟨rfl, rfl⟩ := trodVars_none hV
  have k0 := h0
  have lt0 : ∀ x ∈ p0, x.block < W.heap.size := by obtain ⟨m, hm⟩ := k0; exact DataW.trod_lt m _ _ _ hm
  have w0 : IsDeeds W v0 := isDeeds_open (hval 0 29 v0 rfl rfl) h0
  clear hA0 hval0
  refine (law_FnExactJournalText v0 W.heap.size W w0 HL).mono fun e W' ⟨he, bel⟩ => ?_
  subst he
  exact ⟨_, rfl, _, _, _, [], _, [], hW', trodAll_mk1 (shut_bool Tryd.underlying4 _), (trodAll_cons_mk (Below.trod laidOut (by kernel_rfl) (of_decide_eq_true (by kernel_rfl)) k0 bel lt0) trodAll_mk0), rfl, bel.frame _, fun h => by cases h⟩

theorem fact0 : (Rows.fnExactJournalTextRow.wf (OpenSpec.ofChange Rows.fnExactJournalTextSpec)) = true := by kernel_rfl
theorem fact3 : (Tryd.f4.params.all (Tryd.checked.prog.readableRec ·)) = true := by kernel_rfl
theorem fact4 : (namedTie Tryd.checked.prog Rows.fnExactJournalTextRow.named Rows.fnExactJournalTextSpec.vars) = true := by kernel_rfl
theorem fact5 : ((Rows.fnExactJournalTextRow.stops == [])) = true := by kernel_rfl
theorem fact7 : ((Rows.fnExactJournalTextRow.knobs == [])) = true := by kernel_rfl
theorem fact9 : ((Rows.fnExactJournalTextRow.inPlace == Tryd.checked.prog.inPlace 4)) = true := by kernel_rfl
theorem fact10 : ((Rows.fnExactJournalTextRow.unfollowed == Tryd.checked.prog.unfollowed 4)) = true := by kernel_rfl
theorem fact11 : ((Rows.fnExactJournalTextRow.recurses == Tryd.checked.prog.recurses 4)) = true := by kernel_rfl
theorem fact12 : ((Rows.fnExactJournalTextRow.named == Tryd.checked.prog.varsNamed 4)) = true := by kernel_rfl
theorem fact13 : ((Rows.fnExactJournalTextRow.maps == (Tryd.f4.params.toList ++ Rows.fnExactJournalTextSpec.plain.varTypes Tryd.checked.prog).any (Tryd.checked.prog.mapsRec ·))) = true := by kernel_rfl
theorem fact14 : ((Rows.fnExactJournalTextRow.ifaces == (Tryd.f4.params.toList ++ Rows.fnExactJournalTextSpec.plain.varTypes Tryd.checked.prog).any (Tryd.checked.prog.ifacesRec ·))) = true := by kernel_rfl
theorem fact15 : ((Rows.fnExactJournalTextRow.mapsOut == Tryd.checked.prog.mapsAmong Tryd.f4.resultTypes.toList)) = true := by kernel_rfl
theorem fact16 : ((Rows.fnExactJournalTextRow.loops == (Tryd.f4.params.toList ++ Rows.fnExactJournalTextSpec.plain.varTypes Tryd.checked.prog).any (Tryd.checked.prog.loopsFrom ·))) = true := by kernel_rfl
theorem fact17 : ((Rows.fnExactJournalTextRow.wideKeys == (Tryd.f4.params.toList ++ Rows.fnExactJournalTextSpec.plain.varTypes Tryd.checked.prog ++ Tryd.f4.resultTypes.toList).any (Tryd.checked.prog.wideKeysFrom ·))) = true := by kernel_rfl
theorem fact18 : (Rows.fnExactJournalTextSpec.vars.all (Tryd.checked.prog.varReadable ·)) = true := by kernel_rfl
theorem fact19 : (Tryd.f4.resultTypes.all (fun t => Tryd.checked.prog.readableRec t && decide (t < Tryd.checked.prog.types.size))) = true := by kernel_rfl
theorem fact20 : ((Rows.fnExactJournalTextRow.ifacesOut == Tryd.f4.resultTypes.toList.any (Tryd.checked.prog.ifacesRec ·))) = true := by kernel_rfl
theorem fact21 : ((Rows.fnExactJournalTextRow.loopsOut == Tryd.f4.resultTypes.toList.any (Tryd.checked.prog.loopsFrom ·))) = true := by kernel_rfl
theorem fact23 : (Rows.fnExactJournalTextRow.shortTexts.isNone) = true := by kernel_rfl
theorem fact28 : ((Rows.fnExactJournalTextRow.kinds == (if Rows.fnExactJournalTextRow.domain.isEmpty then [] else Tryd.f4.params.toList.map fun t => match Tryd.checked.prog.underlying t with | some (.int k) => some k | _ => none))) = true := by kernel_rfl
theorem fact29 : ((Rows.fnExactJournalTextRow.pinned == Rows.fnExactJournalTextRow.pinnedBy)) = true := by kernel_rfl
theorem fact30 : ((Rows.fnExactJournalTextRow.veiled == (Tryd.f4.params.toList ++ Rows.fnExactJournalTextSpec.plain.varTypes Tryd.checked.prog ++ Tryd.f4.resultTypes.toList).any (Tryd.checked.prog.veiledRec ·))) = true := by kernel_rfl
theorem fact31 : (Rows.fnExactJournalTextRow.veiledFits Tryd.checked.prog Tryd.f4.params.toList (Tryd.f4.params.toList ++ Rows.fnExactJournalTextSpec.plain.varTypes Tryd.checked.prog ++ Tryd.f4.resultTypes.toList)) = true := by kernel_rfl
set_option maxRecDepth 100000 in
theorem facts : joinedFacts Tryd.checked.prog 4 Tryd.f4 Rows.fnExactJournalTextSpec Rows.fnExactJournalTextRow = true := by
  unfold joinedFacts
  exact (Fc.and_mk (Fc.and_mk (Fc.and_mk (Fc.and_mk (Fc.and_mk (Fc.and_mk (Fc.and_mk (Fc.and_mk (Fc.and_mk (Fc.and_mk (Fc.and_mk (Fc.and_mk (Fc.and_mk (Fc.and_mk (Fc.and_mk (Fc.and_mk (Fc.and_mk (Fc.and_mk (Fc.and_mk (Fc.and_mk (Fc.and_mk (Fc.and_mk (Fc.and_mk (Fc.and_mk (Fc.and_mk (Fc.and_mk (Fc.and_mk (Fc.and_mk (Fc.and_mk (Fc.and_mk (Fc.and_mk fact0 Fc.laid) Fc.maps_) fact3) fact4) fact5) Fc.stops_) fact7) Fc.knobs_) fact9) fact10) fact11) fact12) fact13) fact14) fact15) fact16) fact17) fact18) fact19) fact20) fact21) Fc.keys_) fact23) Fc.heard_) Fc.enters) Fc.final_) Fc.make_) fact28) fact29) fact30) fact31)
theorem over : Rows.fnExactJournalTextRow.holds Tryd.pinned (OpenSpec.ofChange Rows.fnExactJournalTextSpec) :=
  OpenClaim.holds_of_wide 4 Tryd.f4 rfl rfl rfl rfl rfl rfl rfl ⟨rfl, rfl, rfl, rfl, rfl⟩ rfl rfl rfl rfl rfl (by kernel_rfl) Tryd.func4 facts
    (of_decide_eq_true (by kernel_rfl)) (by unfold Func.isWrapper; first | (rw [if_pos (by decide +kernel)]; kernel_rfl) | (rw [if_neg (by decide +kernel)]; exact ⟨rfl, rfl⟩))
    (fun os started H enc _ => lifted os started H enc)

set_option maxRecDepth 100000 in
theorem proved : Rows.FnExactJournalTextCardSaid :=
  Claim7.holds_tied_plain_at .later [] [.data, .data, .data] true Rows.fnExactJournalTextCard.stood.harness true
    over (fun _ h => by cases h) (by kernel_rfl) (fun _ h => by cases h) fnExactJournalText_row_tie rfl ⟨rfl, rfl⟩ (by kernel_rfl) (by kernel_rfl)
    (fun f fn hf hfn => by
      obtain rfl : f = 4 := Option.some.inj ((show Tryd.prog.funcNamed "loop.example/bitwords/laws.FnExactJournalText" = some 4 by kernel_rfl).symm.trans hf) |>.symm
      obtain rfl : fn = Tryd.f4 := (Option.some.inj (Tryd.func4.symm.trans hfn)).symm
      exact ⟨by kernel_rfl, fun j t ht => by
        rw [Tryd.params4] at ht
        have hm : t ∈ [29] := by simpa using Array.mem_of_getElem? ht
        have hall : ([29].all fun u => !Tryd.prog.wantsStandIn u) = true := by kernel_rfl
        exact (show Tryd.prog.wantsStandIn t = false by simpa using List.all_eq_true.1 hall t hm)⟩)
    (by kernel_rfl)
#print axioms proved
end Go.Proofs.YtamhpgledbmnoaaDoor.fnExactJournalText
