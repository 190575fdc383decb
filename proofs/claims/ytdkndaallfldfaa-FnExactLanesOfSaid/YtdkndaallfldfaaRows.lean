/-
  No cell of these rows narrows 'for every input' (looked for: loops, veiled, ifaces, maps, wideKeys, modest, calm, conditions, laid).
  DERIVED. THE GIVEN ROWS OF THIS SEAT. 11 by the template 'for every input the law returns true; each argument reads behind the call as it read before'; 0 by the template 'total and deterministic' (their statements: YtdkndaallfldfaaTotals.lean).
  GIVEN WITH THE SEED: the statements are not yours to turn. If you find one false, say at which input.
  Laid BY PROGRAM, IN A SANDBOX (cutbox-rows.mjs): the forced cells as the released guide's own fill.sh prints them over the translation 89a53566f3c87ba1… (all of the seat's roots in one cut). By AI agents, Wed Nov 11 2026. No macro, syntax, notation, axiom, sorry.
-/
import Derived.Test.YtdkndaallfldfaaChecked
import GoSem.Claim
import GoSem.ClaimJoined
import GoSem.ClaimMapViews
import Derived.JoinedTies
import Derived.KernelRfl
namespace Go.Proofs.Ytdkndaallfldfaa
/- THE CELL 'sum', in the pinned program and in every row, IS THE sha256 OF THE DUMP (.gsa) THAT YtdkndaallfldfaaProg.lean LOADS. Nothing in Lean hashes anything: it is a label: what it is worth is what the hold of that sum in a sandbox is worth. -/
noncomputable def Try.pinned : Pinned := { name := "ytdkndaallfldfaa", sum := "89a53566f3c87ba10139b8907d68f85736c934c3570c7c8619625a3de9947439", checked := Try.checked }
namespace Rows
def none {H : Type} : Left H := { results := [], args := [] }

/-- 'laws.FnExactSignlessOf': WHATEVER THE INPUT: true; the input reads as it did. -/
def fnExactSignlessOfSpec : ChangeSpec := { name := "fnExactSignlessOf", fn := fun _ => fun
  | [d1, d2] => { results := [.lit (.bool true)], args := [d1, d2] }
  | _ => none }
def fnExactSignlessOfRow : OpenClaim := { program := "ytdkndaallfldfaa", sum := "89a53566f3c87ba10139b8907d68f85736c934c3570c7c8619625a3de9947439", func := "loop.example/bitwords/laws.FnExactSignlessOf", spec := "fnExactSignlessOf", unfollowed := true, recurses := true, apart := false }
def FnExactSignlessOfSaid : Prop := fnExactSignlessOfRow.holds Try.pinned (OpenSpec.ofChange fnExactSignlessOfSpec)

/-- ITS FALSE NEIGHBOUR: 'it returns false'. Refute it at one input. -/
def fnExactSignlessOfWrong : ChangeSpec := { name := "fnExactSignlessOf", fn := fun _ => fun
  | [d1, d2] => { results := [.lit (.bool false)], args := [d1, d2] }
  | _ => none }
def FnExactSignlessOfWrongFalsely : Prop := fnExactSignlessOfRow.holds Try.pinned (OpenSpec.ofChange fnExactSignlessOfWrong)

/-- 'laws.FnExactExprValid': WHATEVER THE INPUT: true; the input reads as it did. -/
def fnExactExprValidSpec : ChangeSpec := { name := "fnExactExprValid", fn := fun _ => fun
  | [d] => { results := [.lit (.bool true)], args := [d] }
  | _ => none }
def fnExactExprValidRow : OpenClaim := { program := "ytdkndaallfldfaa", sum := "89a53566f3c87ba10139b8907d68f85736c934c3570c7c8619625a3de9947439", func := "loop.example/bitwords/laws.FnExactExprValid", spec := "fnExactExprValid", apart := false }
def FnExactExprValidSaid : Prop := fnExactExprValidRow.holds Try.pinned (OpenSpec.ofChange fnExactExprValidSpec)

/-- ITS FALSE NEIGHBOUR: 'it returns false'. Refute it at one input. -/
def fnExactExprValidWrong : ChangeSpec := { name := "fnExactExprValid", fn := fun _ => fun
  | [d] => { results := [.lit (.bool false)], args := [d] }
  | _ => none }
def FnExactExprValidWrongFalsely : Prop := fnExactExprValidRow.holds Try.pinned (OpenSpec.ofChange fnExactExprValidWrong)

/-- 'laws.FnExactChoose': WHATEVER THE INPUT: true; the input reads as it did. -/
def fnExactChooseSpec : ChangeSpec := { name := "fnExactChoose", fn := fun _ => fun
  | [d1, d2, d3, d4] => { results := [.lit (.bool true)], args := [d1, d2, d3, d4] }
  | _ => none }
def fnExactChooseRow : OpenClaim := { program := "ytdkndaallfldfaa", sum := "89a53566f3c87ba10139b8907d68f85736c934c3570c7c8619625a3de9947439", func := "loop.example/bitwords/laws.FnExactChoose", spec := "fnExactChoose", apart := false }
def FnExactChooseSaid : Prop := fnExactChooseRow.holds Try.pinned (OpenSpec.ofChange fnExactChooseSpec)

/-- ITS FALSE NEIGHBOUR: 'it returns false'. Refute it at one input. -/
def fnExactChooseWrong : ChangeSpec := { name := "fnExactChoose", fn := fun _ => fun
  | [d1, d2, d3, d4] => { results := [.lit (.bool false)], args := [d1, d2, d3, d4] }
  | _ => none }
def FnExactChooseWrongFalsely : Prop := fnExactChooseRow.holds Try.pinned (OpenSpec.ofChange fnExactChooseWrong)

/-- 'laws.FnExactLessBit': WHATEVER THE INPUT: true; the input reads as it did. -/
def fnExactLessBitSpec : ChangeSpec := { name := "fnExactLessBit", fn := fun _ => fun
  | [d1, d2, d3] => { results := [.lit (.bool true)], args := [d1, d2, d3] }
  | _ => none }
def fnExactLessBitRow : OpenClaim := { program := "ytdkndaallfldfaa", sum := "89a53566f3c87ba10139b8907d68f85736c934c3570c7c8619625a3de9947439", func := "loop.example/bitwords/laws.FnExactLessBit", spec := "fnExactLessBit", unfollowed := true, recurses := true, apart := false }
def FnExactLessBitSaid : Prop := fnExactLessBitRow.holds Try.pinned (OpenSpec.ofChange fnExactLessBitSpec)

/-- ITS FALSE NEIGHBOUR: 'it returns false'. Refute it at one input. -/
def fnExactLessBitWrong : ChangeSpec := { name := "fnExactLessBit", fn := fun _ => fun
  | [d1, d2, d3] => { results := [.lit (.bool false)], args := [d1, d2, d3] }
  | _ => none }
def FnExactLessBitWrongFalsely : Prop := fnExactLessBitRow.holds Try.pinned (OpenSpec.ofChange fnExactLessBitWrong)

/-- 'laws.FnExactLanesOf': WHATEVER THE INPUT: true; the input reads as it did. -/
def fnExactLanesOfSpec : ChangeSpec := { name := "fnExactLanesOf", fn := fun _ => fun
  | [d1, d2, d3] => { results := [.lit (.bool true)], args := [d1, d2, d3] }
  | _ => none }
def fnExactLanesOfRow : OpenClaim := { program := "ytdkndaallfldfaa", sum := "89a53566f3c87ba10139b8907d68f85736c934c3570c7c8619625a3de9947439", func := "loop.example/bitwords/laws.FnExactLanesOf", spec := "fnExactLanesOf", apart := false }
def FnExactLanesOfSaid : Prop := fnExactLanesOfRow.holds Try.pinned (OpenSpec.ofChange fnExactLanesOfSpec)

/-- ITS FALSE NEIGHBOUR: 'it returns false'. Refute it at one input. -/
def fnExactLanesOfWrong : ChangeSpec := { name := "fnExactLanesOf", fn := fun _ => fun
  | [d1, d2, d3] => { results := [.lit (.bool false)], args := [d1, d2, d3] }
  | _ => none }
def FnExactLanesOfWrongFalsely : Prop := fnExactLanesOfRow.holds Try.pinned (OpenSpec.ofChange fnExactLanesOfWrong)

/-- 'laws.FnExactEmptySub': WHATEVER THE INPUT: true; the input reads as it did. -/
def fnExactEmptySubSpec : ChangeSpec := { name := "fnExactEmptySub", fn := fun _ => fun
  | [d1, d2, d3] => { results := [.lit (.bool true)], args := [d1, d2, d3] }
  | _ => none }
def fnExactEmptySubRow : OpenClaim := { program := "ytdkndaallfldfaa", sum := "89a53566f3c87ba10139b8907d68f85736c934c3570c7c8619625a3de9947439", func := "loop.example/bitwords/laws.FnExactEmptySub", spec := "fnExactEmptySub", unfollowed := true, recurses := true, apart := false }
def FnExactEmptySubSaid : Prop := fnExactEmptySubRow.holds Try.pinned (OpenSpec.ofChange fnExactEmptySubSpec)

/-- ITS FALSE NEIGHBOUR: 'it returns false'. Refute it at one input. -/
def fnExactEmptySubWrong : ChangeSpec := { name := "fnExactEmptySub", fn := fun _ => fun
  | [d1, d2, d3] => { results := [.lit (.bool false)], args := [d1, d2, d3] }
  | _ => none }
def FnExactEmptySubWrongFalsely : Prop := fnExactEmptySubRow.holds Try.pinned (OpenSpec.ofChange fnExactEmptySubWrong)

/-- 'laws.FnExactFullAdd': WHATEVER THE INPUT: true; the input reads as it did. -/
def fnExactFullAddSpec : ChangeSpec := { name := "fnExactFullAdd", fn := fun _ => fun
  | [d1, d2, d3] => { results := [.lit (.bool true)], args := [d1, d2, d3] }
  | _ => none }
def fnExactFullAddRow : OpenClaim := { program := "ytdkndaallfldfaa", sum := "89a53566f3c87ba10139b8907d68f85736c934c3570c7c8619625a3de9947439", func := "loop.example/bitwords/laws.FnExactFullAdd", spec := "fnExactFullAdd", unfollowed := true, recurses := true, apart := false }
def FnExactFullAddSaid : Prop := fnExactFullAddRow.holds Try.pinned (OpenSpec.ofChange fnExactFullAddSpec)

/-- ITS FALSE NEIGHBOUR: 'it returns false'. Refute it at one input. -/
def fnExactFullAddWrong : ChangeSpec := { name := "fnExactFullAdd", fn := fun _ => fun
  | [d1, d2, d3] => { results := [.lit (.bool false)], args := [d1, d2, d3] }
  | _ => none }
def FnExactFullAddWrongFalsely : Prop := fnExactFullAddRow.holds Try.pinned (OpenSpec.ofChange fnExactFullAddWrong)

/-- 'laws.FnExactDistanceOf': WHATEVER THE INPUT: true; the input reads as it did. -/
def fnExactDistanceOfSpec : ChangeSpec := { name := "fnExactDistanceOf", fn := fun _ => fun
  | [d1, d2, d3] => { results := [.lit (.bool true)], args := [d1, d2, d3] }
  | _ => none }
def fnExactDistanceOfRow : OpenClaim := { program := "ytdkndaallfldfaa", sum := "89a53566f3c87ba10139b8907d68f85736c934c3570c7c8619625a3de9947439", func := "loop.example/bitwords/laws.FnExactDistanceOf", spec := "fnExactDistanceOf", unfollowed := true, recurses := true, apart := false }
def FnExactDistanceOfSaid : Prop := fnExactDistanceOfRow.holds Try.pinned (OpenSpec.ofChange fnExactDistanceOfSpec)

/-- ITS FALSE NEIGHBOUR: 'it returns false'. Refute it at one input. -/
def fnExactDistanceOfWrong : ChangeSpec := { name := "fnExactDistanceOf", fn := fun _ => fun
  | [d1, d2, d3] => { results := [.lit (.bool false)], args := [d1, d2, d3] }
  | _ => none }
def FnExactDistanceOfWrongFalsely : Prop := fnExactDistanceOfRow.holds Try.pinned (OpenSpec.ofChange fnExactDistanceOfWrong)

/-- 'laws.FnLanesValid': WHATEVER THE INPUT: true; the input reads as it did. -/
def fnLanesValidSpec : ChangeSpec := { name := "fnLanesValid", fn := fun _ => fun
  | [d] => { results := [.lit (.bool true)], args := [d] }
  | _ => none }
def fnLanesValidRow : OpenClaim := { program := "ytdkndaallfldfaa", sum := "89a53566f3c87ba10139b8907d68f85736c934c3570c7c8619625a3de9947439", func := "loop.example/bitwords/laws.FnLanesValid", spec := "fnLanesValid", unfollowed := true, recurses := true, apart := false }
def FnLanesValidSaid : Prop := fnLanesValidRow.holds Try.pinned (OpenSpec.ofChange fnLanesValidSpec)

/-- ITS FALSE NEIGHBOUR: 'it returns false'. Refute it at one input. -/
def fnLanesValidWrong : ChangeSpec := { name := "fnLanesValid", fn := fun _ => fun
  | [d] => { results := [.lit (.bool false)], args := [d] }
  | _ => none }
def FnLanesValidWrongFalsely : Prop := fnLanesValidRow.holds Try.pinned (OpenSpec.ofChange fnLanesValidWrong)

/-- 'laws.FnExactLeastOf': WHATEVER THE INPUT: true; the input reads as it did. -/
def fnExactLeastOfSpec : ChangeSpec := { name := "fnExactLeastOf", fn := fun _ => fun
  | [d1, d2, d3] => { results := [.lit (.bool true)], args := [d1, d2, d3] }
  | _ => none }
def fnExactLeastOfRow : OpenClaim := { program := "ytdkndaallfldfaa", sum := "89a53566f3c87ba10139b8907d68f85736c934c3570c7c8619625a3de9947439", func := "loop.example/bitwords/laws.FnExactLeastOf", spec := "fnExactLeastOf", unfollowed := true, recurses := true, apart := false }
def FnExactLeastOfSaid : Prop := fnExactLeastOfRow.holds Try.pinned (OpenSpec.ofChange fnExactLeastOfSpec)

/-- ITS FALSE NEIGHBOUR: 'it returns false'. Refute it at one input. -/
def fnExactLeastOfWrong : ChangeSpec := { name := "fnExactLeastOf", fn := fun _ => fun
  | [d1, d2, d3] => { results := [.lit (.bool false)], args := [d1, d2, d3] }
  | _ => none }
def FnExactLeastOfWrongFalsely : Prop := fnExactLeastOfRow.holds Try.pinned (OpenSpec.ofChange fnExactLeastOfWrong)

/-- 'laws.FnExactLanesAdd': WHATEVER THE INPUT: true; the input reads as it did. -/
def fnExactLanesAddSpec : ChangeSpec := { name := "fnExactLanesAdd", fn := fun _ => fun
  | [d1, d2, d3, d4] => { results := [.lit (.bool true)], args := [d1, d2, d3, d4] }
  | _ => none }
def fnExactLanesAddRow : OpenClaim := { program := "ytdkndaallfldfaa", sum := "89a53566f3c87ba10139b8907d68f85736c934c3570c7c8619625a3de9947439", func := "loop.example/bitwords/laws.FnExactLanesAdd", spec := "fnExactLanesAdd", unfollowed := true, recurses := true, apart := false }
def FnExactLanesAddSaid : Prop := fnExactLanesAddRow.holds Try.pinned (OpenSpec.ofChange fnExactLanesAddSpec)

/-- ITS FALSE NEIGHBOUR: 'it returns false'. Refute it at one input. -/
def fnExactLanesAddWrong : ChangeSpec := { name := "fnExactLanesAdd", fn := fun _ => fun
  | [d1, d2, d3, d4] => { results := [.lit (.bool false)], args := [d1, d2, d3, d4] }
  | _ => none }
def FnExactLanesAddWrongFalsely : Prop := fnExactLanesAddRow.holds Try.pinned (OpenSpec.ofChange fnExactLanesAddWrong)

/- THE SECOND FORM. 'bulk': how many values and letters a reading holds, each counted each time it is reached (what is shared counts as often as it is met; a slice's spare places count too). A statement '..UptoSaid' is the law's where the arguments, and the package variables that the reading takes, are together of bulk at most 1048576: NARROWER than '..Said'. Prove '..Said' where nothing that the law and all that it calls make is longer than what came in: it says more and counts as full. Else prove '..UptoSaid'. A law counts once. -/
mutual
def uptoBulk {H : Type} : DataW H → Nat
  | .lit (.string bytes) => bytes.length + 1
  | .lit _ => 1
  | .nil => 1
  | .ptr d => uptoBulk d + 1
  | .slice elems spare => uptoBulkAll elems + uptoBulkAll spare + 1
  | .agg parts => uptoBulkAll parts + 1
  | .iface _ d => uptoBulk d + 1
  | .map entries => uptoBulkEntries entries + 1
  | .held _ => 1
def uptoBulkAll {H : Type} : List (DataW H) → Nat
  | [] => 0
  | d :: r => uptoBulk d + uptoBulkAll r
def uptoBulkEntries {H : Type} : List (Lit × DataW H) → Nat
  | [] => 0
  | x :: r => uptoBulkEntry x + uptoBulkEntries r
def uptoBulkEntry {H : Type} : Lit × DataW H → Nat
  | (.string bytes, d) => bytes.length + uptoBulk d + 1
  | (_, d) => uptoBulk d + 1
 end
def uptoSmall : (H : Type) → List (DataW H) → Bool := fun _ ds => decide (uptoBulkAll ds ≤ 1048576)
def OpenSpec.upto (s : _root_.Go.ChangeSpec) : _root_.Go.OpenSpec := { _root_.Go.OpenSpec.ofChange s with cond := some uptoSmall }

/-- 'laws.FnExactSignlessOf', WHERE WHAT IT READS IS OF BULK AT MOST 1048576: true; the input reads as it did. -/
def fnExactSignlessOfUptoRow : OpenClaim := { program := "ytdkndaallfldfaa", sum := "89a53566f3c87ba10139b8907d68f85736c934c3570c7c8619625a3de9947439", func := "loop.example/bitwords/laws.FnExactSignlessOf", spec := "fnExactSignlessOf", unfollowed := true, recurses := true, apart := false, narrowed := true }
def FnExactSignlessOfUptoSaid : Prop := fnExactSignlessOfUptoRow.holds Try.pinned (OpenSpec.upto fnExactSignlessOfSpec)

/-- 'laws.FnExactExprValid', WHERE WHAT IT READS IS OF BULK AT MOST 1048576: true; the input reads as it did. -/
def fnExactExprValidUptoRow : OpenClaim := { program := "ytdkndaallfldfaa", sum := "89a53566f3c87ba10139b8907d68f85736c934c3570c7c8619625a3de9947439", func := "loop.example/bitwords/laws.FnExactExprValid", spec := "fnExactExprValid", apart := false, narrowed := true }
def FnExactExprValidUptoSaid : Prop := fnExactExprValidUptoRow.holds Try.pinned (OpenSpec.upto fnExactExprValidSpec)

/-- 'laws.FnExactChoose', WHERE WHAT IT READS IS OF BULK AT MOST 1048576: true; the input reads as it did. -/
def fnExactChooseUptoRow : OpenClaim := { program := "ytdkndaallfldfaa", sum := "89a53566f3c87ba10139b8907d68f85736c934c3570c7c8619625a3de9947439", func := "loop.example/bitwords/laws.FnExactChoose", spec := "fnExactChoose", apart := false, narrowed := true }
def FnExactChooseUptoSaid : Prop := fnExactChooseUptoRow.holds Try.pinned (OpenSpec.upto fnExactChooseSpec)

/-- 'laws.FnExactLessBit', WHERE WHAT IT READS IS OF BULK AT MOST 1048576: true; the input reads as it did. -/
def fnExactLessBitUptoRow : OpenClaim := { program := "ytdkndaallfldfaa", sum := "89a53566f3c87ba10139b8907d68f85736c934c3570c7c8619625a3de9947439", func := "loop.example/bitwords/laws.FnExactLessBit", spec := "fnExactLessBit", unfollowed := true, recurses := true, apart := false, narrowed := true }
def FnExactLessBitUptoSaid : Prop := fnExactLessBitUptoRow.holds Try.pinned (OpenSpec.upto fnExactLessBitSpec)

/-- 'laws.FnExactLanesOf', WHERE WHAT IT READS IS OF BULK AT MOST 1048576: true; the input reads as it did. -/
def fnExactLanesOfUptoRow : OpenClaim := { program := "ytdkndaallfldfaa", sum := "89a53566f3c87ba10139b8907d68f85736c934c3570c7c8619625a3de9947439", func := "loop.example/bitwords/laws.FnExactLanesOf", spec := "fnExactLanesOf", apart := false, narrowed := true }
def FnExactLanesOfUptoSaid : Prop := fnExactLanesOfUptoRow.holds Try.pinned (OpenSpec.upto fnExactLanesOfSpec)

/-- 'laws.FnExactEmptySub', WHERE WHAT IT READS IS OF BULK AT MOST 1048576: true; the input reads as it did. -/
def fnExactEmptySubUptoRow : OpenClaim := { program := "ytdkndaallfldfaa", sum := "89a53566f3c87ba10139b8907d68f85736c934c3570c7c8619625a3de9947439", func := "loop.example/bitwords/laws.FnExactEmptySub", spec := "fnExactEmptySub", unfollowed := true, recurses := true, apart := false, narrowed := true }
def FnExactEmptySubUptoSaid : Prop := fnExactEmptySubUptoRow.holds Try.pinned (OpenSpec.upto fnExactEmptySubSpec)

/-- 'laws.FnExactFullAdd', WHERE WHAT IT READS IS OF BULK AT MOST 1048576: true; the input reads as it did. -/
def fnExactFullAddUptoRow : OpenClaim := { program := "ytdkndaallfldfaa", sum := "89a53566f3c87ba10139b8907d68f85736c934c3570c7c8619625a3de9947439", func := "loop.example/bitwords/laws.FnExactFullAdd", spec := "fnExactFullAdd", unfollowed := true, recurses := true, apart := false, narrowed := true }
def FnExactFullAddUptoSaid : Prop := fnExactFullAddUptoRow.holds Try.pinned (OpenSpec.upto fnExactFullAddSpec)

/-- 'laws.FnExactDistanceOf', WHERE WHAT IT READS IS OF BULK AT MOST 1048576: true; the input reads as it did. -/
def fnExactDistanceOfUptoRow : OpenClaim := { program := "ytdkndaallfldfaa", sum := "89a53566f3c87ba10139b8907d68f85736c934c3570c7c8619625a3de9947439", func := "loop.example/bitwords/laws.FnExactDistanceOf", spec := "fnExactDistanceOf", unfollowed := true, recurses := true, apart := false, narrowed := true }
def FnExactDistanceOfUptoSaid : Prop := fnExactDistanceOfUptoRow.holds Try.pinned (OpenSpec.upto fnExactDistanceOfSpec)

/-- 'laws.FnLanesValid', WHERE WHAT IT READS IS OF BULK AT MOST 1048576: true; the input reads as it did. -/
def fnLanesValidUptoRow : OpenClaim := { program := "ytdkndaallfldfaa", sum := "89a53566f3c87ba10139b8907d68f85736c934c3570c7c8619625a3de9947439", func := "loop.example/bitwords/laws.FnLanesValid", spec := "fnLanesValid", unfollowed := true, recurses := true, apart := false, narrowed := true }
def FnLanesValidUptoSaid : Prop := fnLanesValidUptoRow.holds Try.pinned (OpenSpec.upto fnLanesValidSpec)

/-- 'laws.FnExactLeastOf', WHERE WHAT IT READS IS OF BULK AT MOST 1048576: true; the input reads as it did. -/
def fnExactLeastOfUptoRow : OpenClaim := { program := "ytdkndaallfldfaa", sum := "89a53566f3c87ba10139b8907d68f85736c934c3570c7c8619625a3de9947439", func := "loop.example/bitwords/laws.FnExactLeastOf", spec := "fnExactLeastOf", unfollowed := true, recurses := true, apart := false, narrowed := true }
def FnExactLeastOfUptoSaid : Prop := fnExactLeastOfUptoRow.holds Try.pinned (OpenSpec.upto fnExactLeastOfSpec)

/-- 'laws.FnExactLanesAdd', WHERE WHAT IT READS IS OF BULK AT MOST 1048576: true; the input reads as it did. -/
def fnExactLanesAddUptoRow : OpenClaim := { program := "ytdkndaallfldfaa", sum := "89a53566f3c87ba10139b8907d68f85736c934c3570c7c8619625a3de9947439", func := "loop.example/bitwords/laws.FnExactLanesAdd", spec := "fnExactLanesAdd", unfollowed := true, recurses := true, apart := false, narrowed := true }
def FnExactLanesAddUptoSaid : Prop := fnExactLanesAddUptoRow.holds Try.pinned (OpenSpec.upto fnExactLanesAddSpec)

end Rows
end Go.Proofs.Ytdkndaallfldfaa
