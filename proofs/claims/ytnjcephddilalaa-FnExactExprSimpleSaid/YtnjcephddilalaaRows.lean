/-
  No cell of these rows narrows 'for every input' (looked for: loops, veiled, ifaces, maps, wideKeys, modest, calm, conditions, laid).
  DERIVED. THE GIVEN ROWS OF THIS SEAT. 12 by the template 'for every input the law returns true; each argument reads behind the call as it read before'; 0 by the template 'total and deterministic' (their statements: YtnjcephddilalaaTotals.lean).
  GIVEN WITH THE SEED: the statements are not yours to turn. If you find one false, say at which input.
  Laid BY PROGRAM, IN A SANDBOX (cutbox-rows.mjs): the forced cells as the released guide's own fill.sh prints them over the translation b48ff9618ed54e4a… (all of the seat's roots in one cut). By AI agents, Wed Nov 11 2026. No macro, syntax, notation, axiom, sorry.
-/
import Derived.Test.YtnjcephddilalaaChecked
import GoSem.Claim
import GoSem.ClaimJoined
import GoSem.ClaimMapViews
import Derived.JoinedTies
import Derived.KernelRfl
namespace Go.Proofs.Ytnjcephddilalaa
/- THE CELL 'sum', in the pinned program and in every row, IS THE sha256 OF THE DUMP (.gsa) THAT YtnjcephddilalaaProg.lean LOADS. Nothing in Lean hashes anything: it is a label: what it is worth is what the hold of that sum in a sandbox is worth. -/
noncomputable def Try.pinned : Pinned := { name := "ytnjcephddilalaa", sum := "b48ff9618ed54e4afd1d90cfe4a997cbb345635f13f787cb507089c8facfe39b", checked := Try.checked }
namespace Rows
def none {H : Type} : Left H := { results := [], args := [] }

/-- 'laws.FnExactExprValid': WHATEVER THE INPUT: true; the input reads as it did. -/
def fnExactExprValidSpec : ChangeSpec := { name := "fnExactExprValid", fn := fun _ => fun
  | [d] => { results := [.lit (.bool true)], args := [d] }
  | _ => none }
def fnExactExprValidRow : OpenClaim := { program := "ytnjcephddilalaa", sum := "b48ff9618ed54e4afd1d90cfe4a997cbb345635f13f787cb507089c8facfe39b", func := "loop.example/bitwords/laws.FnExactExprValid", spec := "fnExactExprValid", apart := false }
def FnExactExprValidSaid : Prop := fnExactExprValidRow.holds Try.pinned (OpenSpec.ofChange fnExactExprValidSpec)

/-- ITS FALSE NEIGHBOUR: 'it returns false'. Refute it at one input. -/
def fnExactExprValidWrong : ChangeSpec := { name := "fnExactExprValid", fn := fun _ => fun
  | [d] => { results := [.lit (.bool false)], args := [d] }
  | _ => none }
def FnExactExprValidWrongFalsely : Prop := fnExactExprValidRow.holds Try.pinned (OpenSpec.ofChange fnExactExprValidWrong)

/-- 'laws.FnExprValid': WHATEVER THE INPUT: true; the input reads as it did. -/
def fnExprValidSpec : ChangeSpec := { name := "fnExprValid", fn := fun _ => fun
  | [d] => { results := [.lit (.bool true)], args := [d] }
  | _ => none }
def fnExprValidRow : OpenClaim := { program := "ytnjcephddilalaa", sum := "b48ff9618ed54e4afd1d90cfe4a997cbb345635f13f787cb507089c8facfe39b", func := "loop.example/bitwords/laws.FnExprValid", spec := "fnExprValid", unfollowed := true, recurses := true, apart := false }
def FnExprValidSaid : Prop := fnExprValidRow.holds Try.pinned (OpenSpec.ofChange fnExprValidSpec)

/-- ITS FALSE NEIGHBOUR: 'it returns false'. Refute it at one input. -/
def fnExprValidWrong : ChangeSpec := { name := "fnExprValid", fn := fun _ => fun
  | [d] => { results := [.lit (.bool false)], args := [d] }
  | _ => none }
def FnExprValidWrongFalsely : Prop := fnExprValidRow.holds Try.pinned (OpenSpec.ofChange fnExprValidWrong)

/-- 'laws.FnExactExprText': WHATEVER THE INPUT: true; the input reads as it did. -/
def fnExactExprTextSpec : ChangeSpec := { name := "fnExactExprText", fn := fun _ => fun
  | [d] => { results := [.lit (.bool true)], args := [d] }
  | _ => none }
def fnExactExprTextRow : OpenClaim := { program := "ytnjcephddilalaa", sum := "b48ff9618ed54e4afd1d90cfe4a997cbb345635f13f787cb507089c8facfe39b", func := "loop.example/bitwords/laws.FnExactExprText", spec := "fnExactExprText", recurses := true, apart := false }
def FnExactExprTextSaid : Prop := fnExactExprTextRow.holds Try.pinned (OpenSpec.ofChange fnExactExprTextSpec)

/-- ITS FALSE NEIGHBOUR: 'it returns false'. Refute it at one input. -/
def fnExactExprTextWrong : ChangeSpec := { name := "fnExactExprText", fn := fun _ => fun
  | [d] => { results := [.lit (.bool false)], args := [d] }
  | _ => none }
def FnExactExprTextWrongFalsely : Prop := fnExactExprTextRow.holds Try.pinned (OpenSpec.ofChange fnExactExprTextWrong)

/-- 'laws.FnExactCodeOf': WHATEVER THE INPUT: true; the input reads as it did. -/
def fnExactCodeOfSpec : ChangeSpec := { name := "fnExactCodeOf", fn := fun _ => fun
  | [d] => { results := [.lit (.bool true)], args := [d] }
  | _ => none }
def fnExactCodeOfRow : OpenClaim := { program := "ytnjcephddilalaa", sum := "b48ff9618ed54e4afd1d90cfe4a997cbb345635f13f787cb507089c8facfe39b", func := "loop.example/bitwords/laws.FnExactCodeOf", spec := "fnExactCodeOf", apart := false }
def FnExactCodeOfSaid : Prop := fnExactCodeOfRow.holds Try.pinned (OpenSpec.ofChange fnExactCodeOfSpec)

/-- ITS FALSE NEIGHBOUR: 'it returns false'. Refute it at one input. -/
def fnExactCodeOfWrong : ChangeSpec := { name := "fnExactCodeOf", fn := fun _ => fun
  | [d] => { results := [.lit (.bool false)], args := [d] }
  | _ => none }
def FnExactCodeOfWrongFalsely : Prop := fnExactCodeOfRow.holds Try.pinned (OpenSpec.ofChange fnExactCodeOfWrong)

/-- 'laws.FnExactExprSimple': WHATEVER THE INPUT: true; the input reads as it did. -/
def fnExactExprSimpleSpec : ChangeSpec := { name := "fnExactExprSimple", fn := fun _ => fun
  | [d] => { results := [.lit (.bool true)], args := [d] }
  | _ => none }
def fnExactExprSimpleRow : OpenClaim := { program := "ytnjcephddilalaa", sum := "b48ff9618ed54e4afd1d90cfe4a997cbb345635f13f787cb507089c8facfe39b", func := "loop.example/bitwords/laws.FnExactExprSimple", spec := "fnExactExprSimple", recurses := true, apart := false }
def FnExactExprSimpleSaid : Prop := fnExactExprSimpleRow.holds Try.pinned (OpenSpec.ofChange fnExactExprSimpleSpec)

/-- ITS FALSE NEIGHBOUR: 'it returns false'. Refute it at one input. -/
def fnExactExprSimpleWrong : ChangeSpec := { name := "fnExactExprSimple", fn := fun _ => fun
  | [d] => { results := [.lit (.bool false)], args := [d] }
  | _ => none }
def FnExactExprSimpleWrongFalsely : Prop := fnExactExprSimpleRow.holds Try.pinned (OpenSpec.ofChange fnExactExprSimpleWrong)

/-- 'laws.FnExactValueOf': WHATEVER THE INPUT: true; the input reads as it did. -/
def fnExactValueOfSpec : ChangeSpec := { name := "fnExactValueOf", fn := fun _ => fun
  | [d1, d2, d3, d4] => { results := [.lit (.bool true)], args := [d1, d2, d3, d4] }
  | _ => none }
def fnExactValueOfRow : OpenClaim := { program := "ytnjcephddilalaa", sum := "b48ff9618ed54e4afd1d90cfe4a997cbb345635f13f787cb507089c8facfe39b", func := "loop.example/bitwords/laws.FnExactValueOf", spec := "fnExactValueOf", unfollowed := true, recurses := true, apart := false }
def FnExactValueOfSaid : Prop := fnExactValueOfRow.holds Try.pinned (OpenSpec.ofChange fnExactValueOfSpec)

/-- ITS FALSE NEIGHBOUR: 'it returns false'. Refute it at one input. -/
def fnExactValueOfWrong : ChangeSpec := { name := "fnExactValueOf", fn := fun _ => fun
  | [d1, d2, d3, d4] => { results := [.lit (.bool false)], args := [d1, d2, d3, d4] }
  | _ => none }
def FnExactValueOfWrongFalsely : Prop := fnExactValueOfRow.holds Try.pinned (OpenSpec.ofChange fnExactValueOfWrong)

/-- 'laws.FnExactEqualAt': WHATEVER THE INPUT: true; the input reads as it did. -/
def fnExactEqualAtSpec : ChangeSpec := { name := "fnExactEqualAt", fn := fun _ => fun
  | [d1, d2, d3] => { results := [.lit (.bool true)], args := [d1, d2, d3] }
  | _ => none }
def fnExactEqualAtRow : OpenClaim := { program := "ytnjcephddilalaa", sum := "b48ff9618ed54e4afd1d90cfe4a997cbb345635f13f787cb507089c8facfe39b", func := "loop.example/bitwords/laws.FnExactEqualAt", spec := "fnExactEqualAt", unfollowed := true, recurses := true, apart := false }
def FnExactEqualAtSaid : Prop := fnExactEqualAtRow.holds Try.pinned (OpenSpec.ofChange fnExactEqualAtSpec)

/-- ITS FALSE NEIGHBOUR: 'it returns false'. Refute it at one input. -/
def fnExactEqualAtWrong : ChangeSpec := { name := "fnExactEqualAt", fn := fun _ => fun
  | [d1, d2, d3] => { results := [.lit (.bool false)], args := [d1, d2, d3] }
  | _ => none }
def FnExactEqualAtWrongFalsely : Prop := fnExactEqualAtRow.holds Try.pinned (OpenSpec.ofChange fnExactEqualAtWrong)

/-- 'laws.FnExactCodeRun': WHATEVER THE INPUT: true; the input reads as it did. -/
def fnExactCodeRunSpec : ChangeSpec := { name := "fnExactCodeRun", fn := fun _ => fun
  | [d1, d2, d3, d4, d5] => { results := [.lit (.bool true)], args := [d1, d2, d3, d4, d5] }
  | _ => none }
def fnExactCodeRunRow : OpenClaim := { program := "ytnjcephddilalaa", sum := "b48ff9618ed54e4afd1d90cfe4a997cbb345635f13f787cb507089c8facfe39b", func := "loop.example/bitwords/laws.FnExactCodeRun", spec := "fnExactCodeRun", unfollowed := true, recurses := true, apart := false }
def FnExactCodeRunSaid : Prop := fnExactCodeRunRow.holds Try.pinned (OpenSpec.ofChange fnExactCodeRunSpec)

/-- ITS FALSE NEIGHBOUR: 'it returns false'. Refute it at one input. -/
def fnExactCodeRunWrong : ChangeSpec := { name := "fnExactCodeRun", fn := fun _ => fun
  | [d1, d2, d3, d4, d5] => { results := [.lit (.bool false)], args := [d1, d2, d3, d4, d5] }
  | _ => none }
def FnExactCodeRunWrongFalsely : Prop := fnExactCodeRunRow.holds Try.pinned (OpenSpec.ofChange fnExactCodeRunWrong)

/-- 'laws.FnExactReadExpr': WHATEVER THE INPUT: true; the input reads as it did. -/
def fnExactReadExprSpec : ChangeSpec := { name := "fnExactReadExpr", fn := fun _ => fun
  | [d] => { results := [.lit (.bool true)], args := [d] }
  | _ => none }
def fnExactReadExprRow : OpenClaim := { program := "ytnjcephddilalaa", sum := "b48ff9618ed54e4afd1d90cfe4a997cbb345635f13f787cb507089c8facfe39b", func := "loop.example/bitwords/laws.FnExactReadExpr", spec := "fnExactReadExpr", inPlace := ["internal/bytealg.IndexByteString"], recurses := true, apart := false }
def FnExactReadExprSaid : Prop := fnExactReadExprRow.holds Try.pinned (OpenSpec.ofChange fnExactReadExprSpec)

/-- ITS FALSE NEIGHBOUR: 'it returns false'. Refute it at one input. -/
def fnExactReadExprWrong : ChangeSpec := { name := "fnExactReadExpr", fn := fun _ => fun
  | [d] => { results := [.lit (.bool false)], args := [d] }
  | _ => none }
def FnExactReadExprWrongFalsely : Prop := fnExactReadExprRow.holds Try.pinned (OpenSpec.ofChange fnExactReadExprWrong)

/-- 'laws.FnExprText': WHATEVER THE INPUT: true; the input reads as it did. -/
def fnExprTextSpec : ChangeSpec := { name := "fnExprText", fn := fun _ => fun
  | [d] => { results := [.lit (.bool true)], args := [d] }
  | _ => none }
def fnExprTextRow : OpenClaim := { program := "ytnjcephddilalaa", sum := "b48ff9618ed54e4afd1d90cfe4a997cbb345635f13f787cb507089c8facfe39b", func := "loop.example/bitwords/laws.FnExprText", spec := "fnExprText", inPlace := ["internal/bytealg.IndexByteString"], unfollowed := true, recurses := true, apart := false }
def FnExprTextSaid : Prop := fnExprTextRow.holds Try.pinned (OpenSpec.ofChange fnExprTextSpec)

/-- ITS FALSE NEIGHBOUR: 'it returns false'. Refute it at one input. -/
def fnExprTextWrong : ChangeSpec := { name := "fnExprText", fn := fun _ => fun
  | [d] => { results := [.lit (.bool false)], args := [d] }
  | _ => none }
def FnExprTextWrongFalsely : Prop := fnExprTextRow.holds Try.pinned (OpenSpec.ofChange fnExprTextWrong)

/-- 'laws.FnValueOf': WHATEVER THE INPUT: true; the input reads as it did. -/
def fnValueOfSpec : ChangeSpec := { name := "fnValueOf", fn := fun _ => fun
  | [d] => { results := [.lit (.bool true)], args := [d] }
  | _ => none }
def fnValueOfRow : OpenClaim := { program := "ytnjcephddilalaa", sum := "b48ff9618ed54e4afd1d90cfe4a997cbb345635f13f787cb507089c8facfe39b", func := "loop.example/bitwords/laws.FnValueOf", spec := "fnValueOf", unfollowed := true, recurses := true, apart := false }
def FnValueOfSaid : Prop := fnValueOfRow.holds Try.pinned (OpenSpec.ofChange fnValueOfSpec)

/-- ITS FALSE NEIGHBOUR: 'it returns false'. Refute it at one input. -/
def fnValueOfWrong : ChangeSpec := { name := "fnValueOf", fn := fun _ => fun
  | [d] => { results := [.lit (.bool false)], args := [d] }
  | _ => none }
def FnValueOfWrongFalsely : Prop := fnValueOfRow.holds Try.pinned (OpenSpec.ofChange fnValueOfWrong)

/-- 'laws.FnCodeRun': WHATEVER THE INPUT: true; the input reads as it did. -/
def fnCodeRunSpec : ChangeSpec := { name := "fnCodeRun", fn := fun _ => fun
  | [d] => { results := [.lit (.bool true)], args := [d] }
  | _ => none }
def fnCodeRunRow : OpenClaim := { program := "ytnjcephddilalaa", sum := "b48ff9618ed54e4afd1d90cfe4a997cbb345635f13f787cb507089c8facfe39b", func := "loop.example/bitwords/laws.FnCodeRun", spec := "fnCodeRun", unfollowed := true, recurses := true, apart := false }
def FnCodeRunSaid : Prop := fnCodeRunRow.holds Try.pinned (OpenSpec.ofChange fnCodeRunSpec)

/-- ITS FALSE NEIGHBOUR: 'it returns false'. Refute it at one input. -/
def fnCodeRunWrong : ChangeSpec := { name := "fnCodeRun", fn := fun _ => fun
  | [d] => { results := [.lit (.bool false)], args := [d] }
  | _ => none }
def FnCodeRunWrongFalsely : Prop := fnCodeRunRow.holds Try.pinned (OpenSpec.ofChange fnCodeRunWrong)

/- THE SECOND FORM. 'bulk': how many values and letters a reading holds, each counted each time it is reached (what is shared counts as often as it is met; a slice's spare places count too). A statement '..UptoSaid' is the law's where the arguments, and the package variables that the reading takes, are together of bulk at most 1048576: NARROWER than '..Said'. Prove '..Said' where nothing that the law and all that it calls make is longer than what came in: it says more and counts as full. Else prove '..UptoSaid'. A law counts once. -/
mutual
def uptoBulk {H : Type} : DataW H → Nat
  | .lit (.string bytes) => bytes.length + 1
  | .lit _ => 1
  | .nil => 1
  | .ptr d => uptoBulk d + 1
  | .slice elems spare => uptoBulkAll elems + uptoBulkAll spare + 1
  | .agg parts => uptoBulkAll parts + 1
  | .iface _ d => uptoBulk d + 1
  | .map entries => uptoBulkEntries entries + 1
  | .held _ => 1
def uptoBulkAll {H : Type} : List (DataW H) → Nat
  | [] => 0
  | d :: r => uptoBulk d + uptoBulkAll r
def uptoBulkEntries {H : Type} : List (Lit × DataW H) → Nat
  | [] => 0
  | x :: r => uptoBulkEntry x + uptoBulkEntries r
def uptoBulkEntry {H : Type} : Lit × DataW H → Nat
  | (.string bytes, d) => bytes.length + uptoBulk d + 1
  | (_, d) => uptoBulk d + 1
 end
def uptoSmall : (H : Type) → List (DataW H) → Bool := fun _ ds => decide (uptoBulkAll ds ≤ 1048576)
def OpenSpec.upto (s : _root_.Go.ChangeSpec) : _root_.Go.OpenSpec := { _root_.Go.OpenSpec.ofChange s with cond := some uptoSmall }

/-- 'laws.FnExactExprValid', WHERE WHAT IT READS IS OF BULK AT MOST 1048576: true; the input reads as it did. -/
def fnExactExprValidUptoRow : OpenClaim := { program := "ytnjcephddilalaa", sum := "b48ff9618ed54e4afd1d90cfe4a997cbb345635f13f787cb507089c8facfe39b", func := "loop.example/bitwords/laws.FnExactExprValid", spec := "fnExactExprValid", apart := false, narrowed := true }
def FnExactExprValidUptoSaid : Prop := fnExactExprValidUptoRow.holds Try.pinned (OpenSpec.upto fnExactExprValidSpec)

/-- 'laws.FnExprValid', WHERE WHAT IT READS IS OF BULK AT MOST 1048576: true; the input reads as it did. -/
def fnExprValidUptoRow : OpenClaim := { program := "ytnjcephddilalaa", sum := "b48ff9618ed54e4afd1d90cfe4a997cbb345635f13f787cb507089c8facfe39b", func := "loop.example/bitwords/laws.FnExprValid", spec := "fnExprValid", unfollowed := true, recurses := true, apart := false, narrowed := true }
def FnExprValidUptoSaid : Prop := fnExprValidUptoRow.holds Try.pinned (OpenSpec.upto fnExprValidSpec)

/-- 'laws.FnExactExprText', WHERE WHAT IT READS IS OF BULK AT MOST 1048576: true; the input reads as it did. -/
def fnExactExprTextUptoRow : OpenClaim := { program := "ytnjcephddilalaa", sum := "b48ff9618ed54e4afd1d90cfe4a997cbb345635f13f787cb507089c8facfe39b", func := "loop.example/bitwords/laws.FnExactExprText", spec := "fnExactExprText", recurses := true, apart := false, narrowed := true }
def FnExactExprTextUptoSaid : Prop := fnExactExprTextUptoRow.holds Try.pinned (OpenSpec.upto fnExactExprTextSpec)

/-- 'laws.FnExactCodeOf', WHERE WHAT IT READS IS OF BULK AT MOST 1048576: true; the input reads as it did. -/
def fnExactCodeOfUptoRow : OpenClaim := { program := "ytnjcephddilalaa", sum := "b48ff9618ed54e4afd1d90cfe4a997cbb345635f13f787cb507089c8facfe39b", func := "loop.example/bitwords/laws.FnExactCodeOf", spec := "fnExactCodeOf", apart := false, narrowed := true }
def FnExactCodeOfUptoSaid : Prop := fnExactCodeOfUptoRow.holds Try.pinned (OpenSpec.upto fnExactCodeOfSpec)

/-- 'laws.FnExactExprSimple', WHERE WHAT IT READS IS OF BULK AT MOST 1048576: true; the input reads as it did. -/
def fnExactExprSimpleUptoRow : OpenClaim := { program := "ytnjcephddilalaa", sum := "b48ff9618ed54e4afd1d90cfe4a997cbb345635f13f787cb507089c8facfe39b", func := "loop.example/bitwords/laws.FnExactExprSimple", spec := "fnExactExprSimple", recurses := true, apart := false, narrowed := true }
def FnExactExprSimpleUptoSaid : Prop := fnExactExprSimpleUptoRow.holds Try.pinned (OpenSpec.upto fnExactExprSimpleSpec)

/-- 'laws.FnExactValueOf', WHERE WHAT IT READS IS OF BULK AT MOST 1048576: true; the input reads as it did. -/
def fnExactValueOfUptoRow : OpenClaim := { program := "ytnjcephddilalaa", sum := "b48ff9618ed54e4afd1d90cfe4a997cbb345635f13f787cb507089c8facfe39b", func := "loop.example/bitwords/laws.FnExactValueOf", spec := "fnExactValueOf", unfollowed := true, recurses := true, apart := false, narrowed := true }
def FnExactValueOfUptoSaid : Prop := fnExactValueOfUptoRow.holds Try.pinned (OpenSpec.upto fnExactValueOfSpec)

/-- 'laws.FnExactEqualAt', WHERE WHAT IT READS IS OF BULK AT MOST 1048576: true; the input reads as it did. -/
def fnExactEqualAtUptoRow : OpenClaim := { program := "ytnjcephddilalaa", sum := "b48ff9618ed54e4afd1d90cfe4a997cbb345635f13f787cb507089c8facfe39b", func := "loop.example/bitwords/laws.FnExactEqualAt", spec := "fnExactEqualAt", unfollowed := true, recurses := true, apart := false, narrowed := true }
def FnExactEqualAtUptoSaid : Prop := fnExactEqualAtUptoRow.holds Try.pinned (OpenSpec.upto fnExactEqualAtSpec)

/-- 'laws.FnExactCodeRun', WHERE WHAT IT READS IS OF BULK AT MOST 1048576: true; the input reads as it did. -/
def fnExactCodeRunUptoRow : OpenClaim := { program := "ytnjcephddilalaa", sum := "b48ff9618ed54e4afd1d90cfe4a997cbb345635f13f787cb507089c8facfe39b", func := "loop.example/bitwords/laws.FnExactCodeRun", spec := "fnExactCodeRun", unfollowed := true, recurses := true, apart := false, narrowed := true }
def FnExactCodeRunUptoSaid : Prop := fnExactCodeRunUptoRow.holds Try.pinned (OpenSpec.upto fnExactCodeRunSpec)

/-- 'laws.FnExactReadExpr', WHERE WHAT IT READS IS OF BULK AT MOST 1048576: true; the input reads as it did. -/
def fnExactReadExprUptoRow : OpenClaim := { program := "ytnjcephddilalaa", sum := "b48ff9618ed54e4afd1d90cfe4a997cbb345635f13f787cb507089c8facfe39b", func := "loop.example/bitwords/laws.FnExactReadExpr", spec := "fnExactReadExpr", inPlace := ["internal/bytealg.IndexByteString"], recurses := true, apart := false, narrowed := true }
def FnExactReadExprUptoSaid : Prop := fnExactReadExprUptoRow.holds Try.pinned (OpenSpec.upto fnExactReadExprSpec)

/-- 'laws.FnExprText', WHERE WHAT IT READS IS OF BULK AT MOST 1048576: true; the input reads as it did. -/
def fnExprTextUptoRow : OpenClaim := { program := "ytnjcephddilalaa", sum := "b48ff9618ed54e4afd1d90cfe4a997cbb345635f13f787cb507089c8facfe39b", func := "loop.example/bitwords/laws.FnExprText", spec := "fnExprText", inPlace := ["internal/bytealg.IndexByteString"], unfollowed := true, recurses := true, apart := false, narrowed := true }
def FnExprTextUptoSaid : Prop := fnExprTextUptoRow.holds Try.pinned (OpenSpec.upto fnExprTextSpec)

/-- 'laws.FnValueOf', WHERE WHAT IT READS IS OF BULK AT MOST 1048576: true; the input reads as it did. -/
def fnValueOfUptoRow : OpenClaim := { program := "ytnjcephddilalaa", sum := "b48ff9618ed54e4afd1d90cfe4a997cbb345635f13f787cb507089c8facfe39b", func := "loop.example/bitwords/laws.FnValueOf", spec := "fnValueOf", unfollowed := true, recurses := true, apart := false, narrowed := true }
def FnValueOfUptoSaid : Prop := fnValueOfUptoRow.holds Try.pinned (OpenSpec.upto fnValueOfSpec)

/-- 'laws.FnCodeRun', WHERE WHAT IT READS IS OF BULK AT MOST 1048576: true; the input reads as it did. -/
def fnCodeRunUptoRow : OpenClaim := { program := "ytnjcephddilalaa", sum := "b48ff9618ed54e4afd1d90cfe4a997cbb345635f13f787cb507089c8facfe39b", func := "loop.example/bitwords/laws.FnCodeRun", spec := "fnCodeRun", unfollowed := true, recurses := true, apart := false, narrowed := true }
def FnCodeRunUptoSaid : Prop := fnCodeRunUptoRow.holds Try.pinned (OpenSpec.upto fnCodeRunSpec)

end Rows
end Go.Proofs.Ytnjcephddilalaa
