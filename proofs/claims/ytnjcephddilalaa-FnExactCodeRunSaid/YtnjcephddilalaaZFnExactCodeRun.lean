/-
  For every input the law FnExactCodeRun returns true and leaves what was there as it was: the frame round its walk.
  Conditions: none.
-/
import Derived.Test.YtnjcephddilalaaX9
import Derived.Test.YtnjcephddilalaaFc
namespace Go.Proofs.Ytnjcephddilalaa.fnExactCodeRun
open Go.ChangeShapes Go.WideShapes Go.ChangeAt Go.RowKit
open Go.ChangeMaps (open_string shut_string)
set_option linter.unusedVariables false
set_option linter.unusedSimpArgs false

set_option maxRecDepth 100000 in
theorem lifted (os : Os) (started : os.Started) (H : Type) (enc : TypeId × Value → H) :
    ReturnsInHanded {} Try.checked os 10 .any (Rows.fnExactCodeRunSpec.pre6 enc Try.prog Try.f10 Rows.fnExactCodeRunRow.domain false) (Rows.fnExactCodeRunSpec.post enc Try.prog Try.f10 false true false false) := by
  refine returnsInHanded_of_change (C := Try.checked) own started (by kernel_rfl) Try.func10
    (ChangeSpec.witness6 (enc := enc) (C := Try.checked) false ⟨#[], #[.int .i64 0, .slice none 0 0, .int .i64 0, .int .i64 0, .int .i64 0], []⟩ 8 (by kernel_rfl) (by kernel_rfl) (by kernel_rfl) (by kernel_rfl)) ?_
  intro W base args ds gs before hval0 hW hcnd _
  have hval : ∀ (j : Nat) t v, Try.f10.params[j]? = some t → args[j]? = some v → Value.okWide Try.prog W .any base t v := hval0
  have hW' := hW
  obtain ⟨p, q, hA0, hV, rfl, hfz, hnd⟩ := hW
  have hA : DataW.TrodAll enc Try.prog W 0 (fun _ => true) true Try.f10.params.toList args.toList ds p := hA0
  rw [Try.params10] at hA hval
  obtain ⟨v0, vs0, d0, ds0, p0, q0, hargs, rfl, rfl, h0, r0⟩ := trodAll_cons hA
  obtain ⟨v1, vs1, d1, ds1, p1, q1, rfl, rfl, rfl, h1, r1⟩ := trodAll_cons r0
  obtain ⟨v2, vs2, d2, ds2, p2, q2, rfl, rfl, rfl, h2, r2⟩ := trodAll_cons r1
  obtain ⟨v3, vs3, d3, ds3, p3, q3, rfl, rfl, rfl, h3, r3⟩ := trodAll_cons r2
  obtain ⟨v4, vs4, d4, ds4, p4, q4, rfl, rfl, rfl, h4, r4⟩ := trodAll_cons r3
  obtain ⟨rfl, rfl, rfl⟩ := trodAll_nil r4
  obtain rfl : args = #[v0, v1, v2, v3, v4] := by cases args; simp_all
  obtain ⟨rfl, rfl⟩ := trodVars_none hV
  obtain ⟨a0, rfl, rfl, rfl, w0⟩ := open_int Try.underlying3 (hval 0 3 v0 rfl rfl) h0
  obtain ⟨a1, len1, cap1, rfl⟩ := okWide_slice Try.underlying42 (hval 1 42 v1 rfl rfl)
  have k1 := h1
  have lt1 : ∀ x ∈ p1, x.block < W.heap.size := by obtain ⟨m, hm⟩ := k1; exact DataW.trod_lt m _ _ _ hm
  have w1 : IsOps W a1 len1 cap1 := by
    obtain ⟨fuel, hf⟩ := h1
    rcases open_slice_fields Try.underlying42 Try.underlying76 (by kernel_rfl) (by kernel_rfl) hf with ⟨hcs, _⟩ | ⟨x, l, c, m, D, Pl, hcs, _, hl, hm, hmm, hx, hi⟩
    · simp [Value.cells] at hcs
      obtain ⟨rfl, rfl, rfl⟩ := hcs
      exact .inl ⟨rfl, rfl⟩
    · simp [Value.cells] at hcs
      obtain ⟨rfl, rfl, rfl⟩ := hcs
      refine .inr ⟨_, rfl, Nat.le_trans hl hm, fun i hi0 => ?_⟩
      obtain ⟨ys, n, _, _, _, hg⟩ := hi i (by rw [hmm]; split <;> omega)
      obtain ⟨g0, y0, hc0, _, ht0⟩ := hg 0 _ rfl
      obtain ⟨t0, e0, _, _⟩ := DataW.trod_int Try.underlying3 ht0
      obtain rfl : g0 = .int .i64 t0 := by simpa using e0
      obtain ⟨g1, y1, hc1, _, ht1⟩ := hg 1 _ rfl
      obtain ⟨t1, e1, _, _⟩ := DataW.trod_int Try.underlying3 ht1
      obtain rfl : g1 = .int .i64 t1 := by simpa using e1
      obtain ⟨g2, y2, hc2, _, ht2⟩ := hg 2 _ rfl
      obtain ⟨t2, e2, _, _⟩ := DataW.trod_int Try.underlying3 ht2
      obtain rfl : g2 = .int .i64 t2 := by simpa using e2
      exact ⟨t0, t1, t2, hc0, hc1, hc2⟩
  obtain ⟨a2, rfl, rfl, rfl, w2⟩ := open_int Try.underlying3 (hval 2 3 v2 rfl rfl) h2
  obtain ⟨a3, rfl, rfl, rfl, w3⟩ := open_int Try.underlying3 (hval 3 3 v3 rfl rfl) h3
  obtain ⟨a4, rfl, rfl, rfl, w4⟩ := open_int Try.underlying3 (hval 4 3 v4 rfl rfl) h4
  clear hA0 hval0
  refine (law_FnExactCodeRun a0 a1 len1 cap1 a2 a3 a4 W w0 w1 w2 w3 w4).mono fun e W' ⟨he, bel⟩ => ?_
  subst he
  exact ⟨_, rfl, _, _, _, [], _, [], hW', trodAll_mk1 (shut_bool Try.underlying4 _), (trodAll_cons_mk (shut_int Try.underlying3 w0) (trodAll_cons_mk (Below.trod laidOut (by kernel_rfl) (of_decide_eq_true (by kernel_rfl)) k1 bel lt1) (trodAll_cons_mk (shut_int Try.underlying3 w2) (trodAll_cons_mk (shut_int Try.underlying3 w3) (trodAll_cons_mk (shut_int Try.underlying3 w4) trodAll_mk0))))), rfl, bel.frame _, fun h => by cases h⟩

theorem fact0 : (Rows.fnExactCodeRunRow.wf (OpenSpec.ofChange Rows.fnExactCodeRunSpec)) = true := by kernel_rfl
theorem fact3 : (Try.f10.params.all (Try.checked.prog.readableRec ·)) = true := by kernel_rfl
theorem fact4 : (namedTie Try.checked.prog Rows.fnExactCodeRunRow.named Rows.fnExactCodeRunSpec.vars) = true := by kernel_rfl
theorem fact5 : ((Rows.fnExactCodeRunRow.stops == [])) = true := by kernel_rfl
theorem fact7 : ((Rows.fnExactCodeRunRow.knobs == [])) = true := by kernel_rfl
theorem fact9 : ((Rows.fnExactCodeRunRow.inPlace == Try.checked.prog.inPlace 10)) = true := by kernel_rfl
theorem fact10 : ((Rows.fnExactCodeRunRow.unfollowed == Try.checked.prog.unfollowed 10)) = true := by kernel_rfl
theorem fact11 : ((Rows.fnExactCodeRunRow.recurses == Try.checked.prog.recurses 10)) = true := by kernel_rfl
theorem fact12 : ((Rows.fnExactCodeRunRow.named == Try.checked.prog.varsNamed 10)) = true := by kernel_rfl
theorem fact13 : ((Rows.fnExactCodeRunRow.maps == (Try.f10.params.toList ++ Rows.fnExactCodeRunSpec.plain.varTypes Try.checked.prog).any (Try.checked.prog.mapsRec ·))) = true := by kernel_rfl
theorem fact14 : ((Rows.fnExactCodeRunRow.ifaces == (Try.f10.params.toList ++ Rows.fnExactCodeRunSpec.plain.varTypes Try.checked.prog).any (Try.checked.prog.ifacesRec ·))) = true := by kernel_rfl
theorem fact15 : ((Rows.fnExactCodeRunRow.mapsOut == Try.checked.prog.mapsAmong Try.f10.resultTypes.toList)) = true := by kernel_rfl
theorem fact16 : ((Rows.fnExactCodeRunRow.loops == (Try.f10.params.toList ++ Rows.fnExactCodeRunSpec.plain.varTypes Try.checked.prog).any (Try.checked.prog.loopsFrom ·))) = true := by kernel_rfl
theorem fact17 : ((Rows.fnExactCodeRunRow.wideKeys == (Try.f10.params.toList ++ Rows.fnExactCodeRunSpec.plain.varTypes Try.checked.prog ++ Try.f10.resultTypes.toList).any (Try.checked.prog.wideKeysFrom ·))) = true := by kernel_rfl
theorem fact18 : (Rows.fnExactCodeRunSpec.vars.all (Try.checked.prog.varReadable ·)) = true := by kernel_rfl
theorem fact19 : (Try.f10.resultTypes.all (fun t => Try.checked.prog.readableRec t && decide (t < Try.checked.prog.types.size))) = true := by kernel_rfl
theorem fact20 : ((Rows.fnExactCodeRunRow.ifacesOut == Try.f10.resultTypes.toList.any (Try.checked.prog.ifacesRec ·))) = true := by kernel_rfl
theorem fact21 : ((Rows.fnExactCodeRunRow.loopsOut == Try.f10.resultTypes.toList.any (Try.checked.prog.loopsFrom ·))) = true := by kernel_rfl
theorem fact23 : (Rows.fnExactCodeRunRow.shortTexts.isNone) = true := by kernel_rfl
theorem fact28 : ((Rows.fnExactCodeRunRow.kinds == (if Rows.fnExactCodeRunRow.domain.isEmpty then [] else Try.f10.params.toList.map fun t => match Try.checked.prog.underlying t with | some (.int k) => some k | _ => none))) = true := by kernel_rfl
theorem fact29 : ((Rows.fnExactCodeRunRow.pinned == Rows.fnExactCodeRunRow.pinnedBy)) = true := by kernel_rfl
theorem fact30 : ((Rows.fnExactCodeRunRow.veiled == (Try.f10.params.toList ++ Rows.fnExactCodeRunSpec.plain.varTypes Try.checked.prog ++ Try.f10.resultTypes.toList).any (Try.checked.prog.veiledRec ·))) = true := by kernel_rfl
theorem fact31 : (Rows.fnExactCodeRunRow.veiledFits Try.checked.prog Try.f10.params.toList (Try.f10.params.toList ++ Rows.fnExactCodeRunSpec.plain.varTypes Try.checked.prog ++ Try.f10.resultTypes.toList)) = true := by kernel_rfl
set_option maxRecDepth 100000 in
theorem facts : joinedFacts Try.checked.prog 10 Try.f10 Rows.fnExactCodeRunSpec Rows.fnExactCodeRunRow = true := by
  unfold joinedFacts
  exact (Fc.and_mk (Fc.and_mk (Fc.and_mk (Fc.and_mk (Fc.and_mk (Fc.and_mk (Fc.and_mk (Fc.and_mk (Fc.and_mk (Fc.and_mk (Fc.and_mk (Fc.and_mk (Fc.and_mk (Fc.and_mk (Fc.and_mk (Fc.and_mk (Fc.and_mk (Fc.and_mk (Fc.and_mk (Fc.and_mk (Fc.and_mk (Fc.and_mk (Fc.and_mk (Fc.and_mk (Fc.and_mk (Fc.and_mk (Fc.and_mk (Fc.and_mk (Fc.and_mk (Fc.and_mk (Fc.and_mk fact0 Fc.laid) Fc.maps_) fact3) fact4) fact5) Fc.stops_) fact7) Fc.knobs_) fact9) fact10) fact11) fact12) fact13) fact14) fact15) fact16) fact17) fact18) fact19) fact20) fact21) Fc.keys_) fact23) Fc.heard_) Fc.enters) Fc.final_) Fc.make_) fact28) fact29) fact30) fact31)
theorem over : Rows.fnExactCodeRunRow.holds Try.pinned (OpenSpec.ofChange Rows.fnExactCodeRunSpec) :=
  OpenClaim.holds_of_wide 10 Try.f10 rfl rfl rfl rfl rfl rfl rfl ⟨rfl, rfl, rfl, rfl, rfl⟩ rfl rfl rfl rfl rfl (by kernel_rfl) Try.func10 facts
    (of_decide_eq_true (by kernel_rfl)) (by unfold Func.isWrapper; first | (rw [if_pos (by decide +kernel)]; kernel_rfl) | (rw [if_neg (by decide +kernel)]; exact ⟨rfl, rfl⟩))
    (fun os started H enc _ => lifted os started H enc)

theorem proved : Rows.FnExactCodeRunSaid := over
#print axioms proved
end Go.Proofs.Ytnjcephddilalaa.fnExactCodeRun
