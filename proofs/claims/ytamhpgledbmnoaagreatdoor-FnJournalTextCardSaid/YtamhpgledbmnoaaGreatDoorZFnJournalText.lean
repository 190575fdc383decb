/-
  For every input the law FnJournalText returns true and leaves what was there as it was: the frame round its walk.
  Conditions: none.
-/
import Derived.Test.YtamhpgledbmnoaaGreatDoorYFnJournalText
import Derived.Test.YtamhpgledbmnoaaGreatDoorFc
import Derived.Test.YtamhpgledbmnoaaGreatDoorLw
import Derived.Test.YtamhpgledbmnoaaGreatDoorTie
import Derived.Test.YtamhpgledbmnoaaGreatDoorCards
namespace Go.Proofs.YtamhpgledbmnoaaGreatDoor.fnJournalText
open Go.ChangeShapes Go.WideShapes Go.ChangeAt Go.RowKit
open Go.ChangeMaps (open_string shut_string)
set_option linter.unusedVariables false
set_option linter.unusedSimpArgs false

theorem door_met (os : Os) (args : Array Value) : laidMetH Tryz.prog Rows.fnJournalTextRow.laid ((World.doorLaid Tryz.prog 62 os).forCall (fun _ _ => 0) ⟨#[], args, []⟩).memory :=
  show laidMet Tryz.prog Rows.fnJournalTextRow.laid _ from laidMet_of_run' 8 (by kernel_rfl) (by kernel_rfl)
set_option maxRecDepth 100000 in
theorem lifted (os : Os) (started : os.Started) (H : Type) (enc : TypeId × Value → H) :
    ReturnsInHanded {} Tryz.checked os 5 .any (fun w args => (Rows.fnJournalTextSpec.pre enc Tryz.prog Tryz.f5 Rows.fnJournalTextRow.domain false w args ∧ laidMetH Tryz.prog Rows.fnJournalTextRow.laid w) ∧ sizedMet enc Tryz.prog Tryz.f5 (OpenSpec.ofChange Rows.fnJournalTextSpec) false w args) (Rows.fnJournalTextSpec.post enc Tryz.prog Tryz.f5 false true false false) := by
  refine returns_laid (C := Tryz.checked) (X := fun w _ => laidMetH Tryz.prog Rows.fnJournalTextRow.laid w) (fun _ _ _ hh h => h.of_heap hh) own started (by kernel_rfl) Tryz.func5
    (ChangeSpec.witness_shaped (enc := enc) (C := Tryz.checked) (os := os) (X := fun w _ => laidMetH Tryz.prog Rows.fnJournalTextRow.laid w) false (World.doorLaid Tryz.prog 62 os) #[.slice none 0 0] 8 rfl (World.shaped_of_RefB (by kernel_rfl) (by kernel_rfl)) (by kernel_rfl) (by kernel_rfl) (by kernel_rfl) (door_met os _)) ?_
  intro W base args ds gs before hval0 hW hcnd hshape hL
  have hL1 : laidMet Tryz.prog [("math/bits.deBruijn32tab", Rows.laid_math_bits_deBruijn32tab), ("math/bits.deBruijn64tab", Rows.laid_math_bits_deBruijn64tab), ("internal/strconv.uint64pow10", Rows.laid_internal_strconv_uint64pow10), ("strconv.ErrRange", Rows.laid_strconv_ErrRange), ("strconv.ErrSyntax", Rows.laid_strconv_ErrSyntax)] W := hL
  have HL := all_of hshape hL1.tail.tail
  have hval : ∀ (j : Nat) t v, Tryz.f5.params[j]? = some t → args[j]? = some v → Value.okWide Tryz.prog W .any base t v := hval0
  have hW' := hW
  obtain ⟨p, q, hA0, hV, rfl, hfz, hnd⟩ := hW
  have hA : DataW.TrodAll enc Tryz.prog W 0 (fun _ => true) true Tryz.f5.params.toList args.toList ds p := hA0
  rw [Tryz.params5] at hA hval
  obtain ⟨v0, vs0, d0, ds0, p0, q0, hargs, rfl, rfl, h0, r0⟩ := trodAll_cons hA
  obtain ⟨rfl, rfl, rfl⟩ := trodAll_nil r0
  obtain rfl : args = #[v0] := by cases args; simp_all
  obtain ⟨rfl, rfl⟩ := trodVars_none hV
  obtain ⟨a0, len0, cap0, rfl⟩ := okWide_slice Tryz.underlying22 (hval 0 22 v0 rfl rfl)
  have k0 := h0
  have lt0 : ∀ x ∈ p0, x.block < W.heap.size := by obtain ⟨m, hm⟩ := k0; exact DataW.trod_lt m _ _ _ hm
  obtain ⟨z0, w0⟩ : ∃ zs, IsRow .u8 W a0 len0 cap0 zs := by
    obtain ⟨fuel, hf⟩ := h0
    rcases open_ints Tryz.underlying22 Tryz.underlying5 (by kernel_rfl) hf with ⟨hcs, _⟩ | ⟨x, l, c, zs, hcs, _, hl, hm, hz, hx, hcell, hwz⟩
    · simp [Value.cells] at hcs
      obtain ⟨rfl, rfl, rfl⟩ := hcs
      exact ⟨[], .inl ⟨rfl, rfl, rfl, rfl⟩⟩
    · simp [Value.cells] at hcs
      obtain ⟨rfl, rfl, rfl⟩ := hcs
      exact ⟨zs, .inr ⟨_, rfl, hl, hm, by simpa using hz, hcell, hwz⟩⟩
  clear hA0 hval0
  refine (law_FnJournalText a0 len0 cap0 z0 W.heap.size W w0 HL).mono fun e W' ⟨he, bel⟩ => ?_
  subst he
  exact ⟨_, rfl, _, _, _, [], _, [], hW', trodAll_mk1 (shut_bool Tryz.underlying4 _), (trodAll_cons_mk (Below.trod laidOut (by kernel_rfl) (of_decide_eq_true (by kernel_rfl)) k0 bel lt0) trodAll_mk0), rfl, bel.frame _, fun h => by cases h⟩

theorem fact0 : (Rows.fnJournalTextRow.wf (OpenSpec.ofChange Rows.fnJournalTextSpec)) = true := by kernel_rfl
theorem fact3 : (Tryz.f5.params.all (Tryz.checked.prog.readableRec ·)) = true := by kernel_rfl
theorem fact4 : (namedTie Tryz.checked.prog Rows.fnJournalTextRow.named Rows.fnJournalTextSpec.vars) = true := by kernel_rfl
theorem fact5 : ((Rows.fnJournalTextRow.stops == [])) = true := by kernel_rfl
theorem fact7 : ((Rows.fnJournalTextRow.knobs == [])) = true := by kernel_rfl
theorem fact9 : ((Rows.fnJournalTextRow.inPlace == Tryz.checked.prog.inPlace 5)) = true := by kernel_rfl
theorem fact10 : ((Rows.fnJournalTextRow.unfollowed == Tryz.checked.prog.unfollowed 5)) = true := by kernel_rfl
theorem fact11 : ((Rows.fnJournalTextRow.recurses == Tryz.checked.prog.recurses 5)) = true := by kernel_rfl
theorem fact12 : ((Rows.fnJournalTextRow.named == Tryz.checked.prog.varsNamed 5)) = true := by kernel_rfl
theorem fact13 : ((Rows.fnJournalTextRow.maps == (Tryz.f5.params.toList ++ Rows.fnJournalTextSpec.plain.varTypes Tryz.checked.prog).any (Tryz.checked.prog.mapsRec ·))) = true := by kernel_rfl
theorem fact14 : ((Rows.fnJournalTextRow.ifaces == (Tryz.f5.params.toList ++ Rows.fnJournalTextSpec.plain.varTypes Tryz.checked.prog).any (Tryz.checked.prog.ifacesRec ·))) = true := by kernel_rfl
theorem fact15 : ((Rows.fnJournalTextRow.mapsOut == Tryz.checked.prog.mapsAmong Tryz.f5.resultTypes.toList)) = true := by kernel_rfl
theorem fact16 : ((Rows.fnJournalTextRow.loops == (Tryz.f5.params.toList ++ Rows.fnJournalTextSpec.plain.varTypes Tryz.checked.prog).any (Tryz.checked.prog.loopsFrom ·))) = true := by kernel_rfl
theorem fact17 : ((Rows.fnJournalTextRow.wideKeys == (Tryz.f5.params.toList ++ Rows.fnJournalTextSpec.plain.varTypes Tryz.checked.prog ++ Tryz.f5.resultTypes.toList).any (Tryz.checked.prog.wideKeysFrom ·))) = true := by kernel_rfl
theorem fact18 : (Rows.fnJournalTextSpec.vars.all (Tryz.checked.prog.varReadable ·)) = true := by kernel_rfl
theorem fact19 : (Tryz.f5.resultTypes.all (fun t => Tryz.checked.prog.readableRec t && decide (t < Tryz.checked.prog.types.size))) = true := by kernel_rfl
theorem fact20 : ((Rows.fnJournalTextRow.ifacesOut == Tryz.f5.resultTypes.toList.any (Tryz.checked.prog.ifacesRec ·))) = true := by kernel_rfl
theorem fact21 : ((Rows.fnJournalTextRow.loopsOut == Tryz.f5.resultTypes.toList.any (Tryz.checked.prog.loopsFrom ·))) = true := by kernel_rfl
theorem fact23 : (Rows.fnJournalTextRow.shortTexts.isNone) = true := by kernel_rfl
theorem fact28 : ((Rows.fnJournalTextRow.kinds == (if Rows.fnJournalTextRow.domain.isEmpty then [] else Tryz.f5.params.toList.map fun t => match Tryz.checked.prog.underlying t with | some (.int k) => some k | _ => none))) = true := by kernel_rfl
theorem fact29 : ((Rows.fnJournalTextRow.pinned == Rows.fnJournalTextRow.pinnedBy)) = true := by kernel_rfl
theorem fact30 : ((Rows.fnJournalTextRow.veiled == (Tryz.f5.params.toList ++ Rows.fnJournalTextSpec.plain.varTypes Tryz.checked.prog ++ Tryz.f5.resultTypes.toList).any (Tryz.checked.prog.veiledRec ·))) = true := by kernel_rfl
theorem fact31 : (Rows.fnJournalTextRow.veiledFits Tryz.checked.prog Tryz.f5.params.toList (Tryz.f5.params.toList ++ Rows.fnJournalTextSpec.plain.varTypes Tryz.checked.prog ++ Tryz.f5.resultTypes.toList)) = true := by kernel_rfl
set_option maxRecDepth 100000 in
theorem facts : joinedFacts Tryz.checked.prog 5 Tryz.f5 Rows.fnJournalTextSpec Rows.fnJournalTextRow = true := by
  unfold joinedFacts
  exact (Fc.and_mk (Fc.and_mk (Fc.and_mk (Fc.and_mk (Fc.and_mk (Fc.and_mk (Fc.and_mk (Fc.and_mk (Fc.and_mk (Fc.and_mk (Fc.and_mk (Fc.and_mk (Fc.and_mk (Fc.and_mk (Fc.and_mk (Fc.and_mk (Fc.and_mk (Fc.and_mk (Fc.and_mk (Fc.and_mk (Fc.and_mk (Fc.and_mk (Fc.and_mk (Fc.and_mk (Fc.and_mk (Fc.and_mk (Fc.and_mk (Fc.and_mk (Fc.and_mk (Fc.and_mk (Fc.and_mk fact0 Fc.laid) Fc.maps_) fact3) fact4) fact5) Fc.stops_) fact7) Fc.knobs_) fact9) fact10) fact11) fact12) fact13) fact14) fact15) fact16) fact17) fact18) fact19) fact20) fact21) Fc.keys_) fact23) Fc.heard_) Fc.enters) Fc.final_) Fc.make_) fact28) fact29) fact30) fact31)
theorem over : Rows.fnJournalTextRow.holds Tryz.pinned (OpenSpec.ofChange Rows.fnJournalTextSpec) :=
  OpenClaim.holds_of_wide 5 Tryz.f5 rfl rfl rfl rfl rfl rfl rfl ⟨rfl, rfl, rfl, rfl, rfl⟩ rfl rfl rfl rfl rfl (by kernel_rfl) Tryz.func5 facts
    (of_decide_eq_true (by kernel_rfl)) (by unfold Func.isWrapper; first | (rw [if_pos (by decide +kernel)]; kernel_rfl) | (rw [if_neg (by decide +kernel)]; exact ⟨rfl, rfl⟩))
    (fun os started H enc _ => lifted os started H enc)

set_option maxRecDepth 100000 in
theorem proved : Rows.FnJournalTextCardSaid :=
  Claim7.holds_tied_plain_at .later [] [.data, .data, .data, .sentinel, .sentinel] true Rows.fnJournalTextCard.stood.harness true
    over (fun _ h => by cases h) (by kernel_rfl) (fun _ h => by cases h) fnJournalText_row_tie rfl ⟨rfl, rfl⟩ (by kernel_rfl) (by kernel_rfl)
    (fun f fn hf hfn => by
      obtain rfl : f = 5 := Option.some.inj ((show Tryz.prog.funcNamed "loop.example/bitwords/laws.FnJournalText" = some 5 by kernel_rfl).symm.trans hf) |>.symm
      obtain rfl : fn = Tryz.f5 := (Option.some.inj (Tryz.func5.symm.trans hfn)).symm
      exact ⟨by kernel_rfl, fun j t ht => by
        rw [Tryz.params5] at ht
        have hm : t ∈ [22] := by simpa using Array.mem_of_getElem? ht
        have hall : ([22].all fun u => !Tryz.prog.wantsStandIn u) = true := by kernel_rfl
        exact (show Tryz.prog.wantsStandIn t = false by simpa using List.all_eq_true.1 hall t hm)⟩)
    (by kernel_rfl)
#print axioms proved
end Go.Proofs.YtamhpgledbmnoaaGreatDoor.fnJournalText
