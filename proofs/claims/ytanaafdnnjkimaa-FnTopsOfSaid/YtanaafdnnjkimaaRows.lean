/-
  No cell of these rows narrows 'for every input' (looked for: loops, veiled, ifaces, maps, wideKeys, modest, calm, conditions, laid).
  DERIVED. THE GIVEN ROWS OF THIS SEAT. 8 by the template 'for every input the law returns true; each argument reads behind the call as it read before'; 0 by the template 'total and deterministic' (their statements: YtanaafdnnjkimaaTotals.lean).
  GIVEN WITH THE SEED: the statements are not yours to turn. If you find one false, say at which input.
  Laid BY PROGRAM, IN A SANDBOX (cutbox-rows.mjs): the forced cells as the released guide's own fill.sh prints them over the translation 581b2ba54147d596… (all of the seat's roots in one cut). By AI agents, Wed Nov 11 2026. No macro, syntax, notation, axiom, sorry.
-/
import Derived.Test.YtanaafdnnjkimaaChecked
import GoSem.Claim
import GoSem.ClaimJoined
import GoSem.ClaimMapViews
import Derived.JoinedTies
import Derived.KernelRfl
namespace Go.Proofs.Ytanaafdnnjkimaa
/- THE CELL 'sum', in the pinned program and in every row, IS THE sha256 OF THE DUMP (.gsa) THAT YtanaafdnnjkimaaProg.lean LOADS. Nothing in Lean hashes anything: it is a label: what it is worth is what the hold of that sum in a sandbox is worth. -/
noncomputable def Try.pinned : Pinned := { name := "ytanaafdnnjkimaa", sum := "581b2ba54147d596345481e9efcee0cd2cc3be7e331764f4e96f655481d686ee", checked := Try.checked }
namespace Rows
def none {H : Type} : Left H := { results := [], args := [] }

/-- 'laws.FnLanesValid': WHATEVER THE INPUT: true; the input reads as it did. -/
def fnLanesValidSpec : ChangeSpec := { name := "fnLanesValid", fn := fun _ => fun
  | [d] => { results := [.lit (.bool true)], args := [d] }
  | _ => none }
def fnLanesValidRow : OpenClaim := { program := "ytanaafdnnjkimaa", sum := "581b2ba54147d596345481e9efcee0cd2cc3be7e331764f4e96f655481d686ee", func := "loop.example/bitwords/laws.FnLanesValid", spec := "fnLanesValid", unfollowed := true, recurses := true, apart := false }
def FnLanesValidSaid : Prop := fnLanesValidRow.holds Try.pinned (OpenSpec.ofChange fnLanesValidSpec)

/-- ITS FALSE NEIGHBOUR: 'it returns false'. Refute it at one input. -/
def fnLanesValidWrong : ChangeSpec := { name := "fnLanesValid", fn := fun _ => fun
  | [d] => { results := [.lit (.bool false)], args := [d] }
  | _ => none }
def FnLanesValidWrongFalsely : Prop := fnLanesValidRow.holds Try.pinned (OpenSpec.ofChange fnLanesValidWrong)

/-- 'laws.FnExactLanesAdd': WHATEVER THE INPUT: true; the input reads as it did. -/
def fnExactLanesAddSpec : ChangeSpec := { name := "fnExactLanesAdd", fn := fun _ => fun
  | [d1, d2, d3, d4] => { results := [.lit (.bool true)], args := [d1, d2, d3, d4] }
  | _ => none }
def fnExactLanesAddRow : OpenClaim := { program := "ytanaafdnnjkimaa", sum := "581b2ba54147d596345481e9efcee0cd2cc3be7e331764f4e96f655481d686ee", func := "loop.example/bitwords/laws.FnExactLanesAdd", spec := "fnExactLanesAdd", unfollowed := true, recurses := true, apart := false }
def FnExactLanesAddSaid : Prop := fnExactLanesAddRow.holds Try.pinned (OpenSpec.ofChange fnExactLanesAddSpec)

/-- ITS FALSE NEIGHBOUR: 'it returns false'. Refute it at one input. -/
def fnExactLanesAddWrong : ChangeSpec := { name := "fnExactLanesAdd", fn := fun _ => fun
  | [d1, d2, d3, d4] => { results := [.lit (.bool false)], args := [d1, d2, d3, d4] }
  | _ => none }
def FnExactLanesAddWrongFalsely : Prop := fnExactLanesAddRow.holds Try.pinned (OpenSpec.ofChange fnExactLanesAddWrong)

/-- 'laws.FnLanesOf': WHATEVER THE INPUT: true; the input reads as it did. -/
def fnLanesOfSpec : ChangeSpec := { name := "fnLanesOf", fn := fun _ => fun
  | [d] => { results := [.lit (.bool true)], args := [d] }
  | _ => none }
def fnLanesOfRow : OpenClaim := { program := "ytanaafdnnjkimaa", sum := "581b2ba54147d596345481e9efcee0cd2cc3be7e331764f4e96f655481d686ee", func := "loop.example/bitwords/laws.FnLanesOf", spec := "fnLanesOf", unfollowed := true, recurses := true, apart := false }
def FnLanesOfSaid : Prop := fnLanesOfRow.holds Try.pinned (OpenSpec.ofChange fnLanesOfSpec)

/-- ITS FALSE NEIGHBOUR: 'it returns false'. Refute it at one input. -/
def fnLanesOfWrong : ChangeSpec := { name := "fnLanesOf", fn := fun _ => fun
  | [d] => { results := [.lit (.bool false)], args := [d] }
  | _ => none }
def FnLanesOfWrongFalsely : Prop := fnLanesOfRow.holds Try.pinned (OpenSpec.ofChange fnLanesOfWrong)

/-- 'laws.FnTopsOf': WHATEVER THE INPUT: true; the input reads as it did. -/
def fnTopsOfSpec : ChangeSpec := { name := "fnTopsOf", fn := fun _ => fun
  | [d] => { results := [.lit (.bool true)], args := [d] }
  | _ => none }
def fnTopsOfRow : OpenClaim := { program := "ytanaafdnnjkimaa", sum := "581b2ba54147d596345481e9efcee0cd2cc3be7e331764f4e96f655481d686ee", func := "loop.example/bitwords/laws.FnTopsOf", spec := "fnTopsOf", unfollowed := true, recurses := true, apart := false }
def FnTopsOfSaid : Prop := fnTopsOfRow.holds Try.pinned (OpenSpec.ofChange fnTopsOfSpec)

/-- ITS FALSE NEIGHBOUR: 'it returns false'. Refute it at one input. -/
def fnTopsOfWrong : ChangeSpec := { name := "fnTopsOf", fn := fun _ => fun
  | [d] => { results := [.lit (.bool false)], args := [d] }
  | _ => none }
def FnTopsOfWrongFalsely : Prop := fnTopsOfRow.holds Try.pinned (OpenSpec.ofChange fnTopsOfWrong)

/-- 'laws.FnLeastOf': WHATEVER THE INPUT: true; the input reads as it did. -/
def fnLeastOfSpec : ChangeSpec := { name := "fnLeastOf", fn := fun _ => fun
  | [d] => { results := [.lit (.bool true)], args := [d] }
  | _ => none }
def fnLeastOfRow : OpenClaim := { program := "ytanaafdnnjkimaa", sum := "581b2ba54147d596345481e9efcee0cd2cc3be7e331764f4e96f655481d686ee", func := "loop.example/bitwords/laws.FnLeastOf", spec := "fnLeastOf", unfollowed := true, recurses := true, apart := false }
def FnLeastOfSaid : Prop := fnLeastOfRow.holds Try.pinned (OpenSpec.ofChange fnLeastOfSpec)

/-- ITS FALSE NEIGHBOUR: 'it returns false'. Refute it at one input. -/
def fnLeastOfWrong : ChangeSpec := { name := "fnLeastOf", fn := fun _ => fun
  | [d] => { results := [.lit (.bool false)], args := [d] }
  | _ => none }
def FnLeastOfWrongFalsely : Prop := fnLeastOfRow.holds Try.pinned (OpenSpec.ofChange fnLeastOfWrong)

/-- 'laws.FnLanesAdd': WHATEVER THE INPUT: true; the input reads as it did. -/
def fnLanesAddSpec : ChangeSpec := { name := "fnLanesAdd", fn := fun _ => fun
  | [d] => { results := [.lit (.bool true)], args := [d] }
  | _ => none }
def fnLanesAddRow : OpenClaim := { program := "ytanaafdnnjkimaa", sum := "581b2ba54147d596345481e9efcee0cd2cc3be7e331764f4e96f655481d686ee", func := "loop.example/bitwords/laws.FnLanesAdd", spec := "fnLanesAdd", unfollowed := true, recurses := true, apart := false }
def FnLanesAddSaid : Prop := fnLanesAddRow.holds Try.pinned (OpenSpec.ofChange fnLanesAddSpec)

/-- ITS FALSE NEIGHBOUR: 'it returns false'. Refute it at one input. -/
def fnLanesAddWrong : ChangeSpec := { name := "fnLanesAdd", fn := fun _ => fun
  | [d] => { results := [.lit (.bool false)], args := [d] }
  | _ => none }
def FnLanesAddWrongFalsely : Prop := fnLanesAddRow.holds Try.pinned (OpenSpec.ofChange fnLanesAddWrong)

/-- 'laws.FnLanesSub': WHATEVER THE INPUT: true; the input reads as it did. -/
def fnLanesSubSpec : ChangeSpec := { name := "fnLanesSub", fn := fun _ => fun
  | [d] => { results := [.lit (.bool true)], args := [d] }
  | _ => none }
def fnLanesSubRow : OpenClaim := { program := "ytanaafdnnjkimaa", sum := "581b2ba54147d596345481e9efcee0cd2cc3be7e331764f4e96f655481d686ee", func := "loop.example/bitwords/laws.FnLanesSub", spec := "fnLanesSub", unfollowed := true, recurses := true, apart := false }
def FnLanesSubSaid : Prop := fnLanesSubRow.holds Try.pinned (OpenSpec.ofChange fnLanesSubSpec)

/-- ITS FALSE NEIGHBOUR: 'it returns false'. Refute it at one input. -/
def fnLanesSubWrong : ChangeSpec := { name := "fnLanesSub", fn := fun _ => fun
  | [d] => { results := [.lit (.bool false)], args := [d] }
  | _ => none }
def FnLanesSubWrongFalsely : Prop := fnLanesSubRow.holds Try.pinned (OpenSpec.ofChange fnLanesSubWrong)

/-- 'laws.FnLanesNone': WHATEVER THE INPUT: true; the input reads as it did. -/
def fnLanesNoneSpec : ChangeSpec := { name := "fnLanesNone", fn := fun _ => fun
  | [d] => { results := [.lit (.bool true)], args := [d] }
  | _ => none }
def fnLanesNoneRow : OpenClaim := { program := "ytanaafdnnjkimaa", sum := "581b2ba54147d596345481e9efcee0cd2cc3be7e331764f4e96f655481d686ee", func := "loop.example/bitwords/laws.FnLanesNone", spec := "fnLanesNone", unfollowed := true, recurses := true, apart := false }
def FnLanesNoneSaid : Prop := fnLanesNoneRow.holds Try.pinned (OpenSpec.ofChange fnLanesNoneSpec)

/-- ITS FALSE NEIGHBOUR: 'it returns false'. Refute it at one input. -/
def fnLanesNoneWrong : ChangeSpec := { name := "fnLanesNone", fn := fun _ => fun
  | [d] => { results := [.lit (.bool false)], args := [d] }
  | _ => none }
def FnLanesNoneWrongFalsely : Prop := fnLanesNoneRow.holds Try.pinned (OpenSpec.ofChange fnLanesNoneWrong)

/- THE SECOND FORM. 'bulk': how many values and letters a reading holds, each counted each time it is reached (what is shared counts as often as it is met; a slice's spare places count too). A statement '..UptoSaid' is the law's where the arguments, and the package variables that the reading takes, are together of bulk at most 1048576: NARROWER than '..Said'. Prove '..Said' where nothing that the law and all that it calls make is longer than what came in: it says more and counts as full. Else prove '..UptoSaid'. A law counts once. -/
mutual
def uptoBulk {H : Type} : DataW H → Nat
  | .lit (.string bytes) => bytes.length + 1
  | .lit _ => 1
  | .nil => 1
  | .ptr d => uptoBulk d + 1
  | .slice elems spare => uptoBulkAll elems + uptoBulkAll spare + 1
  | .agg parts => uptoBulkAll parts + 1
  | .iface _ d => uptoBulk d + 1
  | .map entries => uptoBulkEntries entries + 1
  | .held _ => 1
def uptoBulkAll {H : Type} : List (DataW H) → Nat
  | [] => 0
  | d :: r => uptoBulk d + uptoBulkAll r
def uptoBulkEntries {H : Type} : List (Lit × DataW H) → Nat
  | [] => 0
  | x :: r => uptoBulkEntry x + uptoBulkEntries r
def uptoBulkEntry {H : Type} : Lit × DataW H → Nat
  | (.string bytes, d) => bytes.length + uptoBulk d + 1
  | (_, d) => uptoBulk d + 1
 end
def uptoSmall : (H : Type) → List (DataW H) → Bool := fun _ ds => decide (uptoBulkAll ds ≤ 1048576)
def OpenSpec.upto (s : _root_.Go.ChangeSpec) : _root_.Go.OpenSpec := { _root_.Go.OpenSpec.ofChange s with cond := some uptoSmall }

/-- 'laws.FnLanesValid', WHERE WHAT IT READS IS OF BULK AT MOST 1048576: true; the input reads as it did. -/
def fnLanesValidUptoRow : OpenClaim := { program := "ytanaafdnnjkimaa", sum := "581b2ba54147d596345481e9efcee0cd2cc3be7e331764f4e96f655481d686ee", func := "loop.example/bitwords/laws.FnLanesValid", spec := "fnLanesValid", unfollowed := true, recurses := true, apart := false, narrowed := true }
def FnLanesValidUptoSaid : Prop := fnLanesValidUptoRow.holds Try.pinned (OpenSpec.upto fnLanesValidSpec)

/-- 'laws.FnExactLanesAdd', WHERE WHAT IT READS IS OF BULK AT MOST 1048576: true; the input reads as it did. -/
def fnExactLanesAddUptoRow : OpenClaim := { program := "ytanaafdnnjkimaa", sum := "581b2ba54147d596345481e9efcee0cd2cc3be7e331764f4e96f655481d686ee", func := "loop.example/bitwords/laws.FnExactLanesAdd", spec := "fnExactLanesAdd", unfollowed := true, recurses := true, apart := false, narrowed := true }
def FnExactLanesAddUptoSaid : Prop := fnExactLanesAddUptoRow.holds Try.pinned (OpenSpec.upto fnExactLanesAddSpec)

/-- 'laws.FnLanesOf', WHERE WHAT IT READS IS OF BULK AT MOST 1048576: true; the input reads as it did. -/
def fnLanesOfUptoRow : OpenClaim := { program := "ytanaafdnnjkimaa", sum := "581b2ba54147d596345481e9efcee0cd2cc3be7e331764f4e96f655481d686ee", func := "loop.example/bitwords/laws.FnLanesOf", spec := "fnLanesOf", unfollowed := true, recurses := true, apart := false, narrowed := true }
def FnLanesOfUptoSaid : Prop := fnLanesOfUptoRow.holds Try.pinned (OpenSpec.upto fnLanesOfSpec)

/-- 'laws.FnTopsOf', WHERE WHAT IT READS IS OF BULK AT MOST 1048576: true; the input reads as it did. -/
def fnTopsOfUptoRow : OpenClaim := { program := "ytanaafdnnjkimaa", sum := "581b2ba54147d596345481e9efcee0cd2cc3be7e331764f4e96f655481d686ee", func := "loop.example/bitwords/laws.FnTopsOf", spec := "fnTopsOf", unfollowed := true, recurses := true, apart := false, narrowed := true }
def FnTopsOfUptoSaid : Prop := fnTopsOfUptoRow.holds Try.pinned (OpenSpec.upto fnTopsOfSpec)

/-- 'laws.FnLeastOf', WHERE WHAT IT READS IS OF BULK AT MOST 1048576: true; the input reads as it did. -/
def fnLeastOfUptoRow : OpenClaim := { program := "ytanaafdnnjkimaa", sum := "581b2ba54147d596345481e9efcee0cd2cc3be7e331764f4e96f655481d686ee", func := "loop.example/bitwords/laws.FnLeastOf", spec := "fnLeastOf", unfollowed := true, recurses := true, apart := false, narrowed := true }
def FnLeastOfUptoSaid : Prop := fnLeastOfUptoRow.holds Try.pinned (OpenSpec.upto fnLeastOfSpec)

/-- 'laws.FnLanesAdd', WHERE WHAT IT READS IS OF BULK AT MOST 1048576: true; the input reads as it did. -/
def fnLanesAddUptoRow : OpenClaim := { program := "ytanaafdnnjkimaa", sum := "581b2ba54147d596345481e9efcee0cd2cc3be7e331764f4e96f655481d686ee", func := "loop.example/bitwords/laws.FnLanesAdd", spec := "fnLanesAdd", unfollowed := true, recurses := true, apart := false, narrowed := true }
def FnLanesAddUptoSaid : Prop := fnLanesAddUptoRow.holds Try.pinned (OpenSpec.upto fnLanesAddSpec)

/-- 'laws.FnLanesSub', WHERE WHAT IT READS IS OF BULK AT MOST 1048576: true; the input reads as it did. -/
def fnLanesSubUptoRow : OpenClaim := { program := "ytanaafdnnjkimaa", sum := "581b2ba54147d596345481e9efcee0cd2cc3be7e331764f4e96f655481d686ee", func := "loop.example/bitwords/laws.FnLanesSub", spec := "fnLanesSub", unfollowed := true, recurses := true, apart := false, narrowed := true }
def FnLanesSubUptoSaid : Prop := fnLanesSubUptoRow.holds Try.pinned (OpenSpec.upto fnLanesSubSpec)

/-- 'laws.FnLanesNone', WHERE WHAT IT READS IS OF BULK AT MOST 1048576: true; the input reads as it did. -/
def fnLanesNoneUptoRow : OpenClaim := { program := "ytanaafdnnjkimaa", sum := "581b2ba54147d596345481e9efcee0cd2cc3be7e331764f4e96f655481d686ee", func := "loop.example/bitwords/laws.FnLanesNone", spec := "fnLanesNone", unfollowed := true, recurses := true, apart := false, narrowed := true }
def FnLanesNoneUptoSaid : Prop := fnLanesNoneUptoRow.holds Try.pinned (OpenSpec.upto fnLanesNoneSpec)

end Rows
end Go.Proofs.Ytanaafdnnjkimaa
