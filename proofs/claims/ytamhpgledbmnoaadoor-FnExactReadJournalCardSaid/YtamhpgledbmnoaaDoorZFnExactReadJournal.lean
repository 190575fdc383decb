/-
  For every input the law FnExactReadJournal returns true and leaves what was there as it was: the frame round its walk.
  Conditions: none.
-/
import Derived.Test.YtamhpgledbmnoaaDoorX21
import Derived.Test.YtamhpgledbmnoaaDoorFc
import Derived.Test.YtamhpgledbmnoaaDoorLw
import Derived.Test.YtamhpgledbmnoaaDoorTie
import Derived.Test.YtamhpgledbmnoaaDoorCards
namespace Go.Proofs.YtamhpgledbmnoaaDoor.fnExactReadJournal
open Go.ChangeShapes Go.WideShapes Go.ChangeAt Go.RowKit
open Go.ChangeMaps (open_string shut_string)
set_option linter.unusedVariables false
set_option linter.unusedSimpArgs false

theorem door_met (os : Os) (args : Array Value) : laidMetH Tryd.prog Rows.fnExactReadJournalRow.laid ((World.doorLaid Tryd.prog 62 os).forCall (fun _ _ => 0) ⟨#[], args, []⟩).memory :=
  show laidMet Tryd.prog Rows.fnExactReadJournalRow.laid _ from laidMet_of_run' 8 (by kernel_rfl) (by kernel_rfl)
set_option maxRecDepth 100000 in
theorem lifted (os : Os) (started : os.Started) (H : Type) (enc : TypeId × Value → H) :
    ReturnsInHanded {} Tryd.checked os 6 .any (fun w args => (Rows.fnExactReadJournalSpec.pre enc Tryd.prog Tryd.f6 Rows.fnExactReadJournalRow.domain false w args ∧ laidMetH Tryd.prog Rows.fnExactReadJournalRow.laid w) ∧ sizedMet enc Tryd.prog Tryd.f6 (OpenSpec.ofChange Rows.fnExactReadJournalSpec) false w args) (Rows.fnExactReadJournalSpec.post enc Tryd.prog Tryd.f6 false true false false) := by
  refine returns_laid (C := Tryd.checked) (X := fun w _ => laidMetH Tryd.prog Rows.fnExactReadJournalRow.laid w) (fun _ _ _ hh h => h.of_heap hh) own started (by kernel_rfl) Tryd.func6
    (ChangeSpec.witness_shaped (enc := enc) (C := Tryd.checked) (os := os) (X := fun w _ => laidMetH Tryd.prog Rows.fnExactReadJournalRow.laid w) false (World.doorLaid Tryd.prog 62 os) #[.string ByteArray.empty] 8 rfl (World.shaped_of_RefB (by kernel_rfl) (by kernel_rfl)) (by kernel_rfl) (by kernel_rfl) (by kernel_rfl) (door_met os _)) ?_
  intro W base args ds gs before hval0 hW hcnd hshape hL
  have hL1 : laidMet Tryd.prog [("math/bits.deBruijn32tab", Rows.laid_math_bits_deBruijn32tab), ("math/bits.deBruijn64tab", Rows.laid_math_bits_deBruijn64tab), ("internal/strconv.uint64pow10", Rows.laid_internal_strconv_uint64pow10), ("strconv.ErrRange", Rows.laid_strconv_ErrRange), ("strconv.ErrSyntax", Rows.laid_strconv_ErrSyntax)] W := hL
  have HL := all_of hshape hL1.tail.tail
  have hval : ∀ (j : Nat) t v, Tryd.f6.params[j]? = some t → args[j]? = some v → Value.okWide Tryd.prog W .any base t v := hval0
  have hW' := hW
  obtain ⟨p, q, hA0, hV, rfl, hfz, hnd⟩ := hW
  have hA : DataW.TrodAll enc Tryd.prog W 0 (fun _ => true) true Tryd.f6.params.toList args.toList ds p := hA0
  rw [Tryd.params6] at hA hval
  obtain ⟨v0, vs0, d0, ds0, p0, q0, hargs, rfl, rfl, h0, r0⟩ := trodAll_cons hA
  obtain ⟨rfl, rfl, rfl⟩ := trodAll_nil r0
  obtain rfl : args = #[v0] := by cases args; simp_all
  obtain ⟨rfl, rfl⟩ := trodVars_none hV
  obtain ⟨a0, rfl, rfl, rfl, w0⟩ := open_string Tryd.underlying9 (hval 0 9 v0 rfl rfl) h0
  clear hA0 hval0
  refine (law_FnExactReadJournal a0 W.heap.size W w0 HL).mono fun e W' ⟨he, bel⟩ => ?_
  subst he
  exact ⟨_, rfl, _, _, _, [], _, [], hW', trodAll_mk1 (shut_bool Tryd.underlying4 _), (trodAll_cons_mk (shut_string Tryd.underlying9 w0) trodAll_mk0), rfl, bel.frame _, fun h => by cases h⟩

theorem fact0 : (Rows.fnExactReadJournalRow.wf (OpenSpec.ofChange Rows.fnExactReadJournalSpec)) = true := by kernel_rfl
theorem fact3 : (Tryd.f6.params.all (Tryd.checked.prog.readableRec ·)) = true := by kernel_rfl
theorem fact4 : (namedTie Tryd.checked.prog Rows.fnExactReadJournalRow.named Rows.fnExactReadJournalSpec.vars) = true := by kernel_rfl
theorem fact5 : ((Rows.fnExactReadJournalRow.stops == [])) = true := by kernel_rfl
theorem fact7 : ((Rows.fnExactReadJournalRow.knobs == [])) = true := by kernel_rfl
theorem fact9 : ((Rows.fnExactReadJournalRow.inPlace == Tryd.checked.prog.inPlace 6)) = true := by kernel_rfl
theorem fact10 : ((Rows.fnExactReadJournalRow.unfollowed == Tryd.checked.prog.unfollowed 6)) = true := by kernel_rfl
theorem fact11 : ((Rows.fnExactReadJournalRow.recurses == Tryd.checked.prog.recurses 6)) = true := by kernel_rfl
theorem fact12 : ((Rows.fnExactReadJournalRow.named == Tryd.checked.prog.varsNamed 6)) = true := by kernel_rfl
theorem fact13 : ((Rows.fnExactReadJournalRow.maps == (Tryd.f6.params.toList ++ Rows.fnExactReadJournalSpec.plain.varTypes Tryd.checked.prog).any (Tryd.checked.prog.mapsRec ·))) = true := by kernel_rfl
theorem fact14 : ((Rows.fnExactReadJournalRow.ifaces == (Tryd.f6.params.toList ++ Rows.fnExactReadJournalSpec.plain.varTypes Tryd.checked.prog).any (Tryd.checked.prog.ifacesRec ·))) = true := by kernel_rfl
theorem fact15 : ((Rows.fnExactReadJournalRow.mapsOut == Tryd.checked.prog.mapsAmong Tryd.f6.resultTypes.toList)) = true := by kernel_rfl
theorem fact16 : ((Rows.fnExactReadJournalRow.loops == (Tryd.f6.params.toList ++ Rows.fnExactReadJournalSpec.plain.varTypes Tryd.checked.prog).any (Tryd.checked.prog.loopsFrom ·))) = true := by kernel_rfl
theorem fact17 : ((Rows.fnExactReadJournalRow.wideKeys == (Tryd.f6.params.toList ++ Rows.fnExactReadJournalSpec.plain.varTypes Tryd.checked.prog ++ Tryd.f6.resultTypes.toList).any (Tryd.checked.prog.wideKeysFrom ·))) = true := by kernel_rfl
theorem fact18 : (Rows.fnExactReadJournalSpec.vars.all (Tryd.checked.prog.varReadable ·)) = true := by kernel_rfl
theorem fact19 : (Tryd.f6.resultTypes.all (fun t => Tryd.checked.prog.readableRec t && decide (t < Tryd.checked.prog.types.size))) = true := by kernel_rfl
theorem fact20 : ((Rows.fnExactReadJournalRow.ifacesOut == Tryd.f6.resultTypes.toList.any (Tryd.checked.prog.ifacesRec ·))) = true := by kernel_rfl
theorem fact21 : ((Rows.fnExactReadJournalRow.loopsOut == Tryd.f6.resultTypes.toList.any (Tryd.checked.prog.loopsFrom ·))) = true := by kernel_rfl
theorem fact23 : (Rows.fnExactReadJournalRow.shortTexts.isNone) = true := by kernel_rfl
theorem fact28 : ((Rows.fnExactReadJournalRow.kinds == (if Rows.fnExactReadJournalRow.domain.isEmpty then [] else Tryd.f6.params.toList.map fun t => match Tryd.checked.prog.underlying t with | some (.int k) => some k | _ => none))) = true := by kernel_rfl
theorem fact29 : ((Rows.fnExactReadJournalRow.pinned == Rows.fnExactReadJournalRow.pinnedBy)) = true := by kernel_rfl
theorem fact30 : ((Rows.fnExactReadJournalRow.veiled == (Tryd.f6.params.toList ++ Rows.fnExactReadJournalSpec.plain.varTypes Tryd.checked.prog ++ Tryd.f6.resultTypes.toList).any (Tryd.checked.prog.veiledRec ·))) = true := by kernel_rfl
theorem fact31 : (Rows.fnExactReadJournalRow.veiledFits Tryd.checked.prog Tryd.f6.params.toList (Tryd.f6.params.toList ++ Rows.fnExactReadJournalSpec.plain.varTypes Tryd.checked.prog ++ Tryd.f6.resultTypes.toList)) = true := by kernel_rfl
set_option maxRecDepth 100000 in
theorem facts : joinedFacts Tryd.checked.prog 6 Tryd.f6 Rows.fnExactReadJournalSpec Rows.fnExactReadJournalRow = true := by
  unfold joinedFacts
  exact (Fc.and_mk (Fc.and_mk (Fc.and_mk (Fc.and_mk (Fc.and_mk (Fc.and_mk (Fc.and_mk (Fc.and_mk (Fc.and_mk (Fc.and_mk (Fc.and_mk (Fc.and_mk (Fc.and_mk (Fc.and_mk (Fc.and_mk (Fc.and_mk (Fc.and_mk (Fc.and_mk (Fc.and_mk (Fc.and_mk (Fc.and_mk (Fc.and_mk (Fc.and_mk (Fc.and_mk (Fc.and_mk (Fc.and_mk (Fc.and_mk (Fc.and_mk (Fc.and_mk (Fc.and_mk (Fc.and_mk fact0 Fc.laid) Fc.maps_) fact3) fact4) fact5) Fc.stops_) fact7) Fc.knobs_) fact9) fact10) fact11) fact12) fact13) fact14) fact15) fact16) fact17) fact18) fact19) fact20) fact21) Fc.keys_) fact23) Fc.heard_) Fc.enters) Fc.final_) Fc.make_) fact28) fact29) fact30) fact31)
theorem over : Rows.fnExactReadJournalRow.holds Tryd.pinned (OpenSpec.ofChange Rows.fnExactReadJournalSpec) :=
  OpenClaim.holds_of_wide 6 Tryd.f6 rfl rfl rfl rfl rfl rfl rfl ⟨rfl, rfl, rfl, rfl, rfl⟩ rfl rfl rfl rfl rfl (by kernel_rfl) Tryd.func6 facts
    (of_decide_eq_true (by kernel_rfl)) (by unfold Func.isWrapper; first | (rw [if_pos (by decide +kernel)]; kernel_rfl) | (rw [if_neg (by decide +kernel)]; exact ⟨rfl, rfl⟩))
    (fun os started H enc _ => lifted os started H enc)

set_option maxRecDepth 100000 in
theorem proved : Rows.FnExactReadJournalCardSaid :=
  Claim7.holds_tied_plain_at .later [] [.data, .data, .data, .sentinel, .sentinel] true Rows.fnExactReadJournalCard.stood.harness true
    over (fun _ h => by cases h) (by kernel_rfl) (fun _ h => by cases h) fnExactReadJournal_row_tie rfl ⟨rfl, rfl⟩ (by kernel_rfl) (by kernel_rfl)
    (fun f fn hf hfn => by
      obtain rfl : f = 6 := Option.some.inj ((show Tryd.prog.funcNamed "loop.example/bitwords/laws.FnExactReadJournal" = some 6 by kernel_rfl).symm.trans hf) |>.symm
      obtain rfl : fn = Tryd.f6 := (Option.some.inj (Tryd.func6.symm.trans hfn)).symm
      exact ⟨by kernel_rfl, fun j t ht => by
        rw [Tryd.params6] at ht
        have hm : t ∈ [9] := by simpa using Array.mem_of_getElem? ht
        have hall : ([9].all fun u => !Tryd.prog.wantsStandIn u) = true := by kernel_rfl
        exact (show Tryd.prog.wantsStandIn t = false by simpa using List.all_eq_true.1 hall t hm)⟩)
    (by kernel_rfl)
#print axioms proved
end Go.Proofs.YtamhpgledbmnoaaDoor.fnExactReadJournal
