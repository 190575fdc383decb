/-
  No cell of these rows narrows 'for every input' (looked for: loops, veiled, ifaces, maps, wideKeys, modest, calm, conditions, laid).
  DERIVED. THE GIVEN ROWS OF THIS SEAT. 12 by the template 'for every input the law returns true; each argument reads behind the call as it read before'; 0 by the template 'total and deterministic' (their statements: YtchlmjlcmcdjpaaTotals.lean).
  GIVEN WITH THE SEED: the statements are not yours to turn. If you find one false, say at which input.
  Laid BY PROGRAM, IN A SANDBOX (cutbox-rows.mjs): the forced cells as the released guide's own fill.sh prints them over the translation cccbe9d49b5253c8… (all of the seat's roots in one cut). By AI agents, Wed Nov 11 2026. No macro, syntax, notation, axiom, sorry.
-/
import Derived.Test.YtchlmjlcmcdjpaaChecked
import GoSem.Claim
import GoSem.ClaimJoined
import GoSem.ClaimMapViews
import Derived.JoinedTies
import Derived.KernelRfl
namespace Go.Proofs.Ytchlmjlcmcdjpaa
/- THE CELL 'sum', in the pinned program and in every row, IS THE sha256 OF THE DUMP (.gsa) THAT YtchlmjlcmcdjpaaProg.lean LOADS. Nothing in Lean hashes anything: it is a label: what it is worth is what the hold of that sum in a sandbox is worth. -/
noncomputable def Try.pinned : Pinned := { name := "ytchlmjlcmcdjpaa", sum := "cccbe9d49b5253c8f65cf2c58b274d71c2caa08d8a9f0a1e1b0da59bded3bc74", checked := Try.checked }
namespace Rows
def none {H : Type} : Left H := { results := [], args := [] }

/-- 'laws.FnExactLanesSub': WHATEVER THE INPUT: true; the input reads as it did. -/
def fnExactLanesSubSpec : ChangeSpec := { name := "fnExactLanesSub", fn := fun _ => fun
  | [d1, d2, d3, d4] => { results := [.lit (.bool true)], args := [d1, d2, d3, d4] }
  | _ => none }
def fnExactLanesSubRow : OpenClaim := { program := "ytchlmjlcmcdjpaa", sum := "cccbe9d49b5253c8f65cf2c58b274d71c2caa08d8a9f0a1e1b0da59bded3bc74", func := "loop.example/bitwords/laws.FnExactLanesSub", spec := "fnExactLanesSub", unfollowed := true, recurses := true, apart := false }
def FnExactLanesSubSaid : Prop := fnExactLanesSubRow.holds Try.pinned (OpenSpec.ofChange fnExactLanesSubSpec)

/-- ITS FALSE NEIGHBOUR: 'it returns false'. Refute it at one input. -/
def fnExactLanesSubWrong : ChangeSpec := { name := "fnExactLanesSub", fn := fun _ => fun
  | [d1, d2, d3, d4] => { results := [.lit (.bool false)], args := [d1, d2, d3, d4] }
  | _ => none }
def FnExactLanesSubWrongFalsely : Prop := fnExactLanesSubRow.holds Try.pinned (OpenSpec.ofChange fnExactLanesSubWrong)

/-- 'laws.FnMaskOf': WHATEVER THE INPUT: true; the input reads as it did. -/
def fnMaskOfSpec : ChangeSpec := { name := "fnMaskOf", fn := fun _ => fun
  | [d] => { results := [.lit (.bool true)], args := [d] }
  | _ => none }
def fnMaskOfRow : OpenClaim := { program := "ytchlmjlcmcdjpaa", sum := "cccbe9d49b5253c8f65cf2c58b274d71c2caa08d8a9f0a1e1b0da59bded3bc74", func := "loop.example/bitwords/laws.FnMaskOf", spec := "fnMaskOf", unfollowed := true, recurses := true, apart := false }
def FnMaskOfSaid : Prop := fnMaskOfRow.holds Try.pinned (OpenSpec.ofChange fnMaskOfSpec)

/-- ITS FALSE NEIGHBOUR: 'it returns false'. Refute it at one input. -/
def fnMaskOfWrong : ChangeSpec := { name := "fnMaskOf", fn := fun _ => fun
  | [d] => { results := [.lit (.bool false)], args := [d] }
  | _ => none }
def FnMaskOfWrongFalsely : Prop := fnMaskOfRow.holds Try.pinned (OpenSpec.ofChange fnMaskOfWrong)

/-- 'laws.FnExactLanesNone': WHATEVER THE INPUT: true; the input reads as it did. -/
def fnExactLanesNoneSpec : ChangeSpec := { name := "fnExactLanesNone", fn := fun _ => fun
  | [d1, d2, d3] => { results := [.lit (.bool true)], args := [d1, d2, d3] }
  | _ => none }
def fnExactLanesNoneRow : OpenClaim := { program := "ytchlmjlcmcdjpaa", sum := "cccbe9d49b5253c8f65cf2c58b274d71c2caa08d8a9f0a1e1b0da59bded3bc74", func := "loop.example/bitwords/laws.FnExactLanesNone", spec := "fnExactLanesNone", unfollowed := true, recurses := true, apart := false }
def FnExactLanesNoneSaid : Prop := fnExactLanesNoneRow.holds Try.pinned (OpenSpec.ofChange fnExactLanesNoneSpec)

/-- ITS FALSE NEIGHBOUR: 'it returns false'. Refute it at one input. -/
def fnExactLanesNoneWrong : ChangeSpec := { name := "fnExactLanesNone", fn := fun _ => fun
  | [d1, d2, d3] => { results := [.lit (.bool false)], args := [d1, d2, d3] }
  | _ => none }
def FnExactLanesNoneWrongFalsely : Prop := fnExactLanesNoneRow.holds Try.pinned (OpenSpec.ofChange fnExactLanesNoneWrong)

/-- 'laws.FnMeanDown': WHATEVER THE INPUT: true; the input reads as it did. -/
def fnMeanDownSpec : ChangeSpec := { name := "fnMeanDown", fn := fun _ => fun
  | [d] => { results := [.lit (.bool true)], args := [d] }
  | _ => none }
def fnMeanDownRow : OpenClaim := { program := "ytchlmjlcmcdjpaa", sum := "cccbe9d49b5253c8f65cf2c58b274d71c2caa08d8a9f0a1e1b0da59bded3bc74", func := "loop.example/bitwords/laws.FnMeanDown", spec := "fnMeanDown", unfollowed := true, recurses := true, apart := false }
def FnMeanDownSaid : Prop := fnMeanDownRow.holds Try.pinned (OpenSpec.ofChange fnMeanDownSpec)

/-- ITS FALSE NEIGHBOUR: 'it returns false'. Refute it at one input. -/
def fnMeanDownWrong : ChangeSpec := { name := "fnMeanDown", fn := fun _ => fun
  | [d] => { results := [.lit (.bool false)], args := [d] }
  | _ => none }
def FnMeanDownWrongFalsely : Prop := fnMeanDownRow.holds Try.pinned (OpenSpec.ofChange fnMeanDownWrong)

/-- 'laws.FnMeanUp': WHATEVER THE INPUT: true; the input reads as it did. -/
def fnMeanUpSpec : ChangeSpec := { name := "fnMeanUp", fn := fun _ => fun
  | [d] => { results := [.lit (.bool true)], args := [d] }
  | _ => none }
def fnMeanUpRow : OpenClaim := { program := "ytchlmjlcmcdjpaa", sum := "cccbe9d49b5253c8f65cf2c58b274d71c2caa08d8a9f0a1e1b0da59bded3bc74", func := "loop.example/bitwords/laws.FnMeanUp", spec := "fnMeanUp", unfollowed := true, recurses := true, apart := false }
def FnMeanUpSaid : Prop := fnMeanUpRow.holds Try.pinned (OpenSpec.ofChange fnMeanUpSpec)

/-- ITS FALSE NEIGHBOUR: 'it returns false'. Refute it at one input. -/
def fnMeanUpWrong : ChangeSpec := { name := "fnMeanUp", fn := fun _ => fun
  | [d] => { results := [.lit (.bool false)], args := [d] }
  | _ => none }
def FnMeanUpWrongFalsely : Prop := fnMeanUpRow.holds Try.pinned (OpenSpec.ofChange fnMeanUpWrong)

/-- 'laws.FnLanesOf': WHATEVER THE INPUT: true; the input reads as it did. -/
def fnLanesOfSpec : ChangeSpec := { name := "fnLanesOf", fn := fun _ => fun
  | [d] => { results := [.lit (.bool true)], args := [d] }
  | _ => none }
def fnLanesOfRow : OpenClaim := { program := "ytchlmjlcmcdjpaa", sum := "cccbe9d49b5253c8f65cf2c58b274d71c2caa08d8a9f0a1e1b0da59bded3bc74", func := "loop.example/bitwords/laws.FnLanesOf", spec := "fnLanesOf", unfollowed := true, recurses := true, apart := false }
def FnLanesOfSaid : Prop := fnLanesOfRow.holds Try.pinned (OpenSpec.ofChange fnLanesOfSpec)

/-- ITS FALSE NEIGHBOUR: 'it returns false'. Refute it at one input. -/
def fnLanesOfWrong : ChangeSpec := { name := "fnLanesOf", fn := fun _ => fun
  | [d] => { results := [.lit (.bool false)], args := [d] }
  | _ => none }
def FnLanesOfWrongFalsely : Prop := fnLanesOfRow.holds Try.pinned (OpenSpec.ofChange fnLanesOfWrong)

/-- 'laws.FnLessBit': WHATEVER THE INPUT: true; the input reads as it did. -/
def fnLessBitSpec : ChangeSpec := { name := "fnLessBit", fn := fun _ => fun
  | [d] => { results := [.lit (.bool true)], args := [d] }
  | _ => none }
def fnLessBitRow : OpenClaim := { program := "ytchlmjlcmcdjpaa", sum := "cccbe9d49b5253c8f65cf2c58b274d71c2caa08d8a9f0a1e1b0da59bded3bc74", func := "loop.example/bitwords/laws.FnLessBit", spec := "fnLessBit", unfollowed := true, recurses := true, apart := false }
def FnLessBitSaid : Prop := fnLessBitRow.holds Try.pinned (OpenSpec.ofChange fnLessBitSpec)

/-- ITS FALSE NEIGHBOUR: 'it returns false'. Refute it at one input. -/
def fnLessBitWrong : ChangeSpec := { name := "fnLessBit", fn := fun _ => fun
  | [d] => { results := [.lit (.bool false)], args := [d] }
  | _ => none }
def FnLessBitWrongFalsely : Prop := fnLessBitRow.holds Try.pinned (OpenSpec.ofChange fnLessBitWrong)

/-- 'laws.FnFullAdd': WHATEVER THE INPUT: true; the input reads as it did. -/
def fnFullAddSpec : ChangeSpec := { name := "fnFullAdd", fn := fun _ => fun
  | [d1, d2] => { results := [.lit (.bool true)], args := [d1, d2] }
  | _ => none }
def fnFullAddRow : OpenClaim := { program := "ytchlmjlcmcdjpaa", sum := "cccbe9d49b5253c8f65cf2c58b274d71c2caa08d8a9f0a1e1b0da59bded3bc74", func := "loop.example/bitwords/laws.FnFullAdd", spec := "fnFullAdd", unfollowed := true, recurses := true, apart := false }
def FnFullAddSaid : Prop := fnFullAddRow.holds Try.pinned (OpenSpec.ofChange fnFullAddSpec)

/-- ITS FALSE NEIGHBOUR: 'it returns false'. Refute it at one input. -/
def fnFullAddWrong : ChangeSpec := { name := "fnFullAdd", fn := fun _ => fun
  | [d1, d2] => { results := [.lit (.bool false)], args := [d1, d2] }
  | _ => none }
def FnFullAddWrongFalsely : Prop := fnFullAddRow.holds Try.pinned (OpenSpec.ofChange fnFullAddWrong)

/-- 'laws.FnChoose': WHATEVER THE INPUT: true; the input reads as it did. -/
def fnChooseSpec : ChangeSpec := { name := "fnChoose", fn := fun _ => fun
  | [d] => { results := [.lit (.bool true)], args := [d] }
  | _ => none }
def fnChooseRow : OpenClaim := { program := "ytchlmjlcmcdjpaa", sum := "cccbe9d49b5253c8f65cf2c58b274d71c2caa08d8a9f0a1e1b0da59bded3bc74", func := "loop.example/bitwords/laws.FnChoose", spec := "fnChoose", unfollowed := true, recurses := true, apart := false }
def FnChooseSaid : Prop := fnChooseRow.holds Try.pinned (OpenSpec.ofChange fnChooseSpec)

/-- ITS FALSE NEIGHBOUR: 'it returns false'. Refute it at one input. -/
def fnChooseWrong : ChangeSpec := { name := "fnChoose", fn := fun _ => fun
  | [d] => { results := [.lit (.bool false)], args := [d] }
  | _ => none }
def FnChooseWrongFalsely : Prop := fnChooseRow.holds Try.pinned (OpenSpec.ofChange fnChooseWrong)

/-- 'laws.FnSignlessOf': WHATEVER THE INPUT: true; the input reads as it did. -/
def fnSignlessOfSpec : ChangeSpec := { name := "fnSignlessOf", fn := fun _ => fun
  | [d] => { results := [.lit (.bool true)], args := [d] }
  | _ => none }
def fnSignlessOfRow : OpenClaim := { program := "ytchlmjlcmcdjpaa", sum := "cccbe9d49b5253c8f65cf2c58b274d71c2caa08d8a9f0a1e1b0da59bded3bc74", func := "loop.example/bitwords/laws.FnSignlessOf", spec := "fnSignlessOf", unfollowed := true, recurses := true, apart := false }
def FnSignlessOfSaid : Prop := fnSignlessOfRow.holds Try.pinned (OpenSpec.ofChange fnSignlessOfSpec)

/-- ITS FALSE NEIGHBOUR: 'it returns false'. Refute it at one input. -/
def fnSignlessOfWrong : ChangeSpec := { name := "fnSignlessOf", fn := fun _ => fun
  | [d] => { results := [.lit (.bool false)], args := [d] }
  | _ => none }
def FnSignlessOfWrongFalsely : Prop := fnSignlessOfRow.holds Try.pinned (OpenSpec.ofChange fnSignlessOfWrong)

/-- 'laws.FnEmptySub': WHATEVER THE INPUT: true; the input reads as it did. -/
def fnEmptySubSpec : ChangeSpec := { name := "fnEmptySub", fn := fun _ => fun
  | [d] => { results := [.lit (.bool true)], args := [d] }
  | _ => none }
def fnEmptySubRow : OpenClaim := { program := "ytchlmjlcmcdjpaa", sum := "cccbe9d49b5253c8f65cf2c58b274d71c2caa08d8a9f0a1e1b0da59bded3bc74", func := "loop.example/bitwords/laws.FnEmptySub", spec := "fnEmptySub", unfollowed := true, recurses := true, apart := false }
def FnEmptySubSaid : Prop := fnEmptySubRow.holds Try.pinned (OpenSpec.ofChange fnEmptySubSpec)

/-- ITS FALSE NEIGHBOUR: 'it returns false'. Refute it at one input. -/
def fnEmptySubWrong : ChangeSpec := { name := "fnEmptySub", fn := fun _ => fun
  | [d] => { results := [.lit (.bool false)], args := [d] }
  | _ => none }
def FnEmptySubWrongFalsely : Prop := fnEmptySubRow.holds Try.pinned (OpenSpec.ofChange fnEmptySubWrong)

/-- 'laws.FnDistanceOf': WHATEVER THE INPUT: true; the input reads as it did. -/
def fnDistanceOfSpec : ChangeSpec := { name := "fnDistanceOf", fn := fun _ => fun
  | [d1, d2] => { results := [.lit (.bool true)], args := [d1, d2] }
  | _ => none }
def fnDistanceOfRow : OpenClaim := { program := "ytchlmjlcmcdjpaa", sum := "cccbe9d49b5253c8f65cf2c58b274d71c2caa08d8a9f0a1e1b0da59bded3bc74", func := "loop.example/bitwords/laws.FnDistanceOf", spec := "fnDistanceOf", unfollowed := true, recurses := true, apart := false }
def FnDistanceOfSaid : Prop := fnDistanceOfRow.holds Try.pinned (OpenSpec.ofChange fnDistanceOfSpec)

/-- ITS FALSE NEIGHBOUR: 'it returns false'. Refute it at one input. -/
def fnDistanceOfWrong : ChangeSpec := { name := "fnDistanceOf", fn := fun _ => fun
  | [d1, d2] => { results := [.lit (.bool false)], args := [d1, d2] }
  | _ => none }
def FnDistanceOfWrongFalsely : Prop := fnDistanceOfRow.holds Try.pinned (OpenSpec.ofChange fnDistanceOfWrong)

/- THE SECOND FORM. 'bulk': how many values and letters a reading holds, each counted each time it is reached (what is shared counts as often as it is met; a slice's spare places count too). A statement '..UptoSaid' is the law's where the arguments, and the package variables that the reading takes, are together of bulk at most 1048576: NARROWER than '..Said'. Prove '..Said' where nothing that the law and all that it calls make is longer than what came in: it says more and counts as full. Else prove '..UptoSaid'. A law counts once. -/
mutual
def uptoBulk {H : Type} : DataW H → Nat
  | .lit (.string bytes) => bytes.length + 1
  | .lit _ => 1
  | .nil => 1
  | .ptr d => uptoBulk d + 1
  | .slice elems spare => uptoBulkAll elems + uptoBulkAll spare + 1
  | .agg parts => uptoBulkAll parts + 1
  | .iface _ d => uptoBulk d + 1
  | .map entries => uptoBulkEntries entries + 1
  | .held _ => 1
def uptoBulkAll {H : Type} : List (DataW H) → Nat
  | [] => 0
  | d :: r => uptoBulk d + uptoBulkAll r
def uptoBulkEntries {H : Type} : List (Lit × DataW H) → Nat
  | [] => 0
  | x :: r => uptoBulkEntry x + uptoBulkEntries r
def uptoBulkEntry {H : Type} : Lit × DataW H → Nat
  | (.string bytes, d) => bytes.length + uptoBulk d + 1
  | (_, d) => uptoBulk d + 1
 end
def uptoSmall : (H : Type) → List (DataW H) → Bool := fun _ ds => decide (uptoBulkAll ds ≤ 1048576)
def OpenSpec.upto (s : _root_.Go.ChangeSpec) : _root_.Go.OpenSpec := { _root_.Go.OpenSpec.ofChange s with cond := some uptoSmall }

/-- 'laws.FnExactLanesSub', WHERE WHAT IT READS IS OF BULK AT MOST 1048576: true; the input reads as it did. -/
def fnExactLanesSubUptoRow : OpenClaim := { program := "ytchlmjlcmcdjpaa", sum := "cccbe9d49b5253c8f65cf2c58b274d71c2caa08d8a9f0a1e1b0da59bded3bc74", func := "loop.example/bitwords/laws.FnExactLanesSub", spec := "fnExactLanesSub", unfollowed := true, recurses := true, apart := false, narrowed := true }
def FnExactLanesSubUptoSaid : Prop := fnExactLanesSubUptoRow.holds Try.pinned (OpenSpec.upto fnExactLanesSubSpec)

/-- 'laws.FnMaskOf', WHERE WHAT IT READS IS OF BULK AT MOST 1048576: true; the input reads as it did. -/
def fnMaskOfUptoRow : OpenClaim := { program := "ytchlmjlcmcdjpaa", sum := "cccbe9d49b5253c8f65cf2c58b274d71c2caa08d8a9f0a1e1b0da59bded3bc74", func := "loop.example/bitwords/laws.FnMaskOf", spec := "fnMaskOf", unfollowed := true, recurses := true, apart := false, narrowed := true }
def FnMaskOfUptoSaid : Prop := fnMaskOfUptoRow.holds Try.pinned (OpenSpec.upto fnMaskOfSpec)

/-- 'laws.FnExactLanesNone', WHERE WHAT IT READS IS OF BULK AT MOST 1048576: true; the input reads as it did. -/
def fnExactLanesNoneUptoRow : OpenClaim := { program := "ytchlmjlcmcdjpaa", sum := "cccbe9d49b5253c8f65cf2c58b274d71c2caa08d8a9f0a1e1b0da59bded3bc74", func := "loop.example/bitwords/laws.FnExactLanesNone", spec := "fnExactLanesNone", unfollowed := true, recurses := true, apart := false, narrowed := true }
def FnExactLanesNoneUptoSaid : Prop := fnExactLanesNoneUptoRow.holds Try.pinned (OpenSpec.upto fnExactLanesNoneSpec)

/-- 'laws.FnMeanDown', WHERE WHAT IT READS IS OF BULK AT MOST 1048576: true; the input reads as it did. -/
def fnMeanDownUptoRow : OpenClaim := { program := "ytchlmjlcmcdjpaa", sum := "cccbe9d49b5253c8f65cf2c58b274d71c2caa08d8a9f0a1e1b0da59bded3bc74", func := "loop.example/bitwords/laws.FnMeanDown", spec := "fnMeanDown", unfollowed := true, recurses := true, apart := false, narrowed := true }
def FnMeanDownUptoSaid : Prop := fnMeanDownUptoRow.holds Try.pinned (OpenSpec.upto fnMeanDownSpec)

/-- 'laws.FnMeanUp', WHERE WHAT IT READS IS OF BULK AT MOST 1048576: true; the input reads as it did. -/
def fnMeanUpUptoRow : OpenClaim := { program := "ytchlmjlcmcdjpaa", sum := "cccbe9d49b5253c8f65cf2c58b274d71c2caa08d8a9f0a1e1b0da59bded3bc74", func := "loop.example/bitwords/laws.FnMeanUp", spec := "fnMeanUp", unfollowed := true, recurses := true, apart := false, narrowed := true }
def FnMeanUpUptoSaid : Prop := fnMeanUpUptoRow.holds Try.pinned (OpenSpec.upto fnMeanUpSpec)

/-- 'laws.FnLanesOf', WHERE WHAT IT READS IS OF BULK AT MOST 1048576: true; the input reads as it did. -/
def fnLanesOfUptoRow : OpenClaim := { program := "ytchlmjlcmcdjpaa", sum := "cccbe9d49b5253c8f65cf2c58b274d71c2caa08d8a9f0a1e1b0da59bded3bc74", func := "loop.example/bitwords/laws.FnLanesOf", spec := "fnLanesOf", unfollowed := true, recurses := true, apart := false, narrowed := true }
def FnLanesOfUptoSaid : Prop := fnLanesOfUptoRow.holds Try.pinned (OpenSpec.upto fnLanesOfSpec)

/-- 'laws.FnLessBit', WHERE WHAT IT READS IS OF BULK AT MOST 1048576: true; the input reads as it did. -/
def fnLessBitUptoRow : OpenClaim := { program := "ytchlmjlcmcdjpaa", sum := "cccbe9d49b5253c8f65cf2c58b274d71c2caa08d8a9f0a1e1b0da59bded3bc74", func := "loop.example/bitwords/laws.FnLessBit", spec := "fnLessBit", unfollowed := true, recurses := true, apart := false, narrowed := true }
def FnLessBitUptoSaid : Prop := fnLessBitUptoRow.holds Try.pinned (OpenSpec.upto fnLessBitSpec)

/-- 'laws.FnFullAdd', WHERE WHAT IT READS IS OF BULK AT MOST 1048576: true; the input reads as it did. -/
def fnFullAddUptoRow : OpenClaim := { program := "ytchlmjlcmcdjpaa", sum := "cccbe9d49b5253c8f65cf2c58b274d71c2caa08d8a9f0a1e1b0da59bded3bc74", func := "loop.example/bitwords/laws.FnFullAdd", spec := "fnFullAdd", unfollowed := true, recurses := true, apart := false, narrowed := true }
def FnFullAddUptoSaid : Prop := fnFullAddUptoRow.holds Try.pinned (OpenSpec.upto fnFullAddSpec)

/-- 'laws.FnChoose', WHERE WHAT IT READS IS OF BULK AT MOST 1048576: true; the input reads as it did. -/
def fnChooseUptoRow : OpenClaim := { program := "ytchlmjlcmcdjpaa", sum := "cccbe9d49b5253c8f65cf2c58b274d71c2caa08d8a9f0a1e1b0da59bded3bc74", func := "loop.example/bitwords/laws.FnChoose", spec := "fnChoose", unfollowed := true, recurses := true, apart := false, narrowed := true }
def FnChooseUptoSaid : Prop := fnChooseUptoRow.holds Try.pinned (OpenSpec.upto fnChooseSpec)

/-- 'laws.FnSignlessOf', WHERE WHAT IT READS IS OF BULK AT MOST 1048576: true; the input reads as it did. -/
def fnSignlessOfUptoRow : OpenClaim := { program := "ytchlmjlcmcdjpaa", sum := "cccbe9d49b5253c8f65cf2c58b274d71c2caa08d8a9f0a1e1b0da59bded3bc74", func := "loop.example/bitwords/laws.FnSignlessOf", spec := "fnSignlessOf", unfollowed := true, recurses := true, apart := false, narrowed := true }
def FnSignlessOfUptoSaid : Prop := fnSignlessOfUptoRow.holds Try.pinned (OpenSpec.upto fnSignlessOfSpec)

/-- 'laws.FnEmptySub', WHERE WHAT IT READS IS OF BULK AT MOST 1048576: true; the input reads as it did. -/
def fnEmptySubUptoRow : OpenClaim := { program := "ytchlmjlcmcdjpaa", sum := "cccbe9d49b5253c8f65cf2c58b274d71c2caa08d8a9f0a1e1b0da59bded3bc74", func := "loop.example/bitwords/laws.FnEmptySub", spec := "fnEmptySub", unfollowed := true, recurses := true, apart := false, narrowed := true }
def FnEmptySubUptoSaid : Prop := fnEmptySubUptoRow.holds Try.pinned (OpenSpec.upto fnEmptySubSpec)

/-- 'laws.FnDistanceOf', WHERE WHAT IT READS IS OF BULK AT MOST 1048576: true; the input reads as it did. -/
def fnDistanceOfUptoRow : OpenClaim := { program := "ytchlmjlcmcdjpaa", sum := "cccbe9d49b5253c8f65cf2c58b274d71c2caa08d8a9f0a1e1b0da59bded3bc74", func := "loop.example/bitwords/laws.FnDistanceOf", spec := "fnDistanceOf", unfollowed := true, recurses := true, apart := false, narrowed := true }
def FnDistanceOfUptoSaid : Prop := fnDistanceOfUptoRow.holds Try.pinned (OpenSpec.upto fnDistanceOfSpec)

end Rows
end Go.Proofs.Ytchlmjlcmcdjpaa
