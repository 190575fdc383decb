/-
  No cell of these rows narrows 'for every input' (looked for: loops, veiled, ifaces, maps, wideKeys, modest, calm, conditions, laid).
  DERIVED. THE GIVEN ROWS OF THIS SEAT. 6 by the template 'for every input the law returns true; each argument reads behind the call as it read before'; 0 by the template 'total and deterministic' (their statements: YtnjcephddilalabTotals.lean).
  GIVEN WITH THE SEED: the statements are not yours to turn. If you find one false, say at which input.
  Laid BY PROGRAM, IN A SANDBOX (cutbox-rows.mjs): the forced cells as the released guide's own fill.sh prints them over the translation 8f0f9b5ae926f1cf… (all of the seat's roots in one cut). By AI agents, Wed Nov 11 2026. No macro, syntax, notation, axiom, sorry.
-/
import Derived.Test.YtnjcephddilalabChecked
import GoSem.Claim
import GoSem.ClaimJoined
import GoSem.ClaimMapViews
import Derived.JoinedTies
import Derived.KernelRfl
namespace Go.Proofs.Ytnjcephddilalab
/- THE CELL 'sum', in the pinned program and in every row, IS THE sha256 OF THE DUMP (.gsa) THAT YtnjcephddilalabProg.lean LOADS. Nothing in Lean hashes anything: it is a label: what it is worth is what the hold of that sum in a sandbox is worth. -/
noncomputable def Try.pinned : Pinned := { name := "ytnjcephddilalab", sum := "8f0f9b5ae926f1cf44659cb13ebda77600cdfc1982b99eb70166b64460100680", checked := Try.checked }
namespace Rows
def none {H : Type} : Left H := { results := [], args := [] }

/-- 'laws.FnCodeOf': WHATEVER THE INPUT: true; the input reads as it did. -/
def fnCodeOfSpec : ChangeSpec := { name := "fnCodeOf", fn := fun _ => fun
  | [d1, d2] => { results := [.lit (.bool true)], args := [d1, d2] }
  | _ => none }
def fnCodeOfRow : OpenClaim := { program := "ytnjcephddilalab", sum := "8f0f9b5ae926f1cf44659cb13ebda77600cdfc1982b99eb70166b64460100680", func := "loop.example/bitwords/laws.FnCodeOf", spec := "fnCodeOf", unfollowed := true, recurses := true, apart := false }
def FnCodeOfSaid : Prop := fnCodeOfRow.holds Try.pinned (OpenSpec.ofChange fnCodeOfSpec)

/-- ITS FALSE NEIGHBOUR: 'it returns false'. Refute it at one input. -/
def fnCodeOfWrong : ChangeSpec := { name := "fnCodeOf", fn := fun _ => fun
  | [d1, d2] => { results := [.lit (.bool false)], args := [d1, d2] }
  | _ => none }
def FnCodeOfWrongFalsely : Prop := fnCodeOfRow.holds Try.pinned (OpenSpec.ofChange fnCodeOfWrong)

/-- 'laws.FnExactShortFor': WHATEVER THE INPUT: true; the input reads as it did. -/
def fnExactShortForSpec : ChangeSpec := { name := "fnExactShortFor", fn := fun _ => fun
  | [d] => { results := [.lit (.bool true)], args := [d] }
  | _ => none }
def fnExactShortForRow : OpenClaim := { program := "ytnjcephddilalab", sum := "8f0f9b5ae926f1cf44659cb13ebda77600cdfc1982b99eb70166b64460100680", func := "loop.example/bitwords/laws.FnExactShortFor", spec := "fnExactShortFor", unfollowed := true, recurses := true, apart := false }
def FnExactShortForSaid : Prop := fnExactShortForRow.holds Try.pinned (OpenSpec.ofChange fnExactShortForSpec)

/-- ITS FALSE NEIGHBOUR: 'it returns false'. Refute it at one input. -/
def fnExactShortForWrong : ChangeSpec := { name := "fnExactShortFor", fn := fun _ => fun
  | [d] => { results := [.lit (.bool false)], args := [d] }
  | _ => none }
def FnExactShortForWrongFalsely : Prop := fnExactShortForRow.holds Try.pinned (OpenSpec.ofChange fnExactShortForWrong)

/-- 'laws.FnReadExpr': WHATEVER THE INPUT: true; the input reads as it did. -/
def fnReadExprSpec : ChangeSpec := { name := "fnReadExpr", fn := fun _ => fun
  | [d] => { results := [.lit (.bool true)], args := [d] }
  | _ => none }
def fnReadExprRow : OpenClaim := { program := "ytnjcephddilalab", sum := "8f0f9b5ae926f1cf44659cb13ebda77600cdfc1982b99eb70166b64460100680", func := "loop.example/bitwords/laws.FnReadExpr", spec := "fnReadExpr", inPlace := ["internal/bytealg.IndexByteString"], unfollowed := true, recurses := true, apart := false }
def FnReadExprSaid : Prop := fnReadExprRow.holds Try.pinned (OpenSpec.ofChange fnReadExprSpec)

/-- ITS FALSE NEIGHBOUR: 'it returns false'. Refute it at one input. -/
def fnReadExprWrong : ChangeSpec := { name := "fnReadExpr", fn := fun _ => fun
  | [d] => { results := [.lit (.bool false)], args := [d] }
  | _ => none }
def FnReadExprWrongFalsely : Prop := fnReadExprRow.holds Try.pinned (OpenSpec.ofChange fnReadExprWrong)

/-- 'laws.FnExprSimple': WHATEVER THE INPUT: true; the input reads as it did. -/
def fnExprSimpleSpec : ChangeSpec := { name := "fnExprSimple", fn := fun _ => fun
  | [d1, d2] => { results := [.lit (.bool true)], args := [d1, d2] }
  | _ => none }
def fnExprSimpleRow : OpenClaim := { program := "ytnjcephddilalab", sum := "8f0f9b5ae926f1cf44659cb13ebda77600cdfc1982b99eb70166b64460100680", func := "loop.example/bitwords/laws.FnExprSimple", spec := "fnExprSimple", unfollowed := true, recurses := true, apart := false }
def FnExprSimpleSaid : Prop := fnExprSimpleRow.holds Try.pinned (OpenSpec.ofChange fnExprSimpleSpec)

/-- ITS FALSE NEIGHBOUR: 'it returns false'. Refute it at one input. -/
def fnExprSimpleWrong : ChangeSpec := { name := "fnExprSimple", fn := fun _ => fun
  | [d1, d2] => { results := [.lit (.bool false)], args := [d1, d2] }
  | _ => none }
def FnExprSimpleWrongFalsely : Prop := fnExprSimpleRow.holds Try.pinned (OpenSpec.ofChange fnExprSimpleWrong)

/-- 'laws.FnEqualAt': WHATEVER THE INPUT: true; the input reads as it did. -/
def fnEqualAtSpec : ChangeSpec := { name := "fnEqualAt", fn := fun _ => fun
  | [d] => { results := [.lit (.bool true)], args := [d] }
  | _ => none }
def fnEqualAtRow : OpenClaim := { program := "ytnjcephddilalab", sum := "8f0f9b5ae926f1cf44659cb13ebda77600cdfc1982b99eb70166b64460100680", func := "loop.example/bitwords/laws.FnEqualAt", spec := "fnEqualAt", unfollowed := true, recurses := true, apart := false }
def FnEqualAtSaid : Prop := fnEqualAtRow.holds Try.pinned (OpenSpec.ofChange fnEqualAtSpec)

/-- ITS FALSE NEIGHBOUR: 'it returns false'. Refute it at one input. -/
def fnEqualAtWrong : ChangeSpec := { name := "fnEqualAt", fn := fun _ => fun
  | [d] => { results := [.lit (.bool false)], args := [d] }
  | _ => none }
def FnEqualAtWrongFalsely : Prop := fnEqualAtRow.holds Try.pinned (OpenSpec.ofChange fnEqualAtWrong)

/-- 'laws.FnShortFor': WHATEVER THE INPUT: true; the input reads as it did. -/
def fnShortForSpec : ChangeSpec := { name := "fnShortFor", fn := fun _ => fun
  | [d] => { results := [.lit (.bool true)], args := [d] }
  | _ => none }
def fnShortForRow : OpenClaim := { program := "ytnjcephddilalab", sum := "8f0f9b5ae926f1cf44659cb13ebda77600cdfc1982b99eb70166b64460100680", func := "loop.example/bitwords/laws.FnShortFor", spec := "fnShortFor", unfollowed := true, recurses := true, apart := false }
def FnShortForSaid : Prop := fnShortForRow.holds Try.pinned (OpenSpec.ofChange fnShortForSpec)

/-- ITS FALSE NEIGHBOUR: 'it returns false'. Refute it at one input. -/
def fnShortForWrong : ChangeSpec := { name := "fnShortFor", fn := fun _ => fun
  | [d] => { results := [.lit (.bool false)], args := [d] }
  | _ => none }
def FnShortForWrongFalsely : Prop := fnShortForRow.holds Try.pinned (OpenSpec.ofChange fnShortForWrong)

/- THE SECOND FORM. 'bulk': how many values and letters a reading holds, each counted each time it is reached (what is shared counts as often as it is met; a slice's spare places count too). A statement '..UptoSaid' is the law's where the arguments, and the package variables that the reading takes, are together of bulk at most 1048576: NARROWER than '..Said'. Prove '..Said' where nothing that the law and all that it calls make is longer than what came in: it says more and counts as full. Else prove '..UptoSaid'. A law counts once. -/
mutual
def uptoBulk {H : Type} : DataW H → Nat
  | .lit (.string bytes) => bytes.length + 1
  | .lit _ => 1
  | .nil => 1
  | .ptr d => uptoBulk d + 1
  | .slice elems spare => uptoBulkAll elems + uptoBulkAll spare + 1
  | .agg parts => uptoBulkAll parts + 1
  | .iface _ d => uptoBulk d + 1
  | .map entries => uptoBulkEntries entries + 1
  | .held _ => 1
def uptoBulkAll {H : Type} : List (DataW H) → Nat
  | [] => 0
  | d :: r => uptoBulk d + uptoBulkAll r
def uptoBulkEntries {H : Type} : List (Lit × DataW H) → Nat
  | [] => 0
  | x :: r => uptoBulkEntry x + uptoBulkEntries r
def uptoBulkEntry {H : Type} : Lit × DataW H → Nat
  | (.string bytes, d) => bytes.length + uptoBulk d + 1
  | (_, d) => uptoBulk d + 1
 end
def uptoSmall : (H : Type) → List (DataW H) → Bool := fun _ ds => decide (uptoBulkAll ds ≤ 1048576)
def OpenSpec.upto (s : _root_.Go.ChangeSpec) : _root_.Go.OpenSpec := { _root_.Go.OpenSpec.ofChange s with cond := some uptoSmall }

/-- 'laws.FnCodeOf', WHERE WHAT IT READS IS OF BULK AT MOST 1048576: true; the input reads as it did. -/
def fnCodeOfUptoRow : OpenClaim := { program := "ytnjcephddilalab", sum := "8f0f9b5ae926f1cf44659cb13ebda77600cdfc1982b99eb70166b64460100680", func := "loop.example/bitwords/laws.FnCodeOf", spec := "fnCodeOf", unfollowed := true, recurses := true, apart := false, narrowed := true }
def FnCodeOfUptoSaid : Prop := fnCodeOfUptoRow.holds Try.pinned (OpenSpec.upto fnCodeOfSpec)

/-- 'laws.FnExactShortFor', WHERE WHAT IT READS IS OF BULK AT MOST 1048576: true; the input reads as it did. -/
def fnExactShortForUptoRow : OpenClaim := { program := "ytnjcephddilalab", sum := "8f0f9b5ae926f1cf44659cb13ebda77600cdfc1982b99eb70166b64460100680", func := "loop.example/bitwords/laws.FnExactShortFor", spec := "fnExactShortFor", unfollowed := true, recurses := true, apart := false, narrowed := true }
def FnExactShortForUptoSaid : Prop := fnExactShortForUptoRow.holds Try.pinned (OpenSpec.upto fnExactShortForSpec)

/-- 'laws.FnReadExpr', WHERE WHAT IT READS IS OF BULK AT MOST 1048576: true; the input reads as it did. -/
def fnReadExprUptoRow : OpenClaim := { program := "ytnjcephddilalab", sum := "8f0f9b5ae926f1cf44659cb13ebda77600cdfc1982b99eb70166b64460100680", func := "loop.example/bitwords/laws.FnReadExpr", spec := "fnReadExpr", inPlace := ["internal/bytealg.IndexByteString"], unfollowed := true, recurses := true, apart := false, narrowed := true }
def FnReadExprUptoSaid : Prop := fnReadExprUptoRow.holds Try.pinned (OpenSpec.upto fnReadExprSpec)

/-- 'laws.FnExprSimple', WHERE WHAT IT READS IS OF BULK AT MOST 1048576: true; the input reads as it did. -/
def fnExprSimpleUptoRow : OpenClaim := { program := "ytnjcephddilalab", sum := "8f0f9b5ae926f1cf44659cb13ebda77600cdfc1982b99eb70166b64460100680", func := "loop.example/bitwords/laws.FnExprSimple", spec := "fnExprSimple", unfollowed := true, recurses := true, apart := false, narrowed := true }
def FnExprSimpleUptoSaid : Prop := fnExprSimpleUptoRow.holds Try.pinned (OpenSpec.upto fnExprSimpleSpec)

/-- 'laws.FnEqualAt', WHERE WHAT IT READS IS OF BULK AT MOST 1048576: true; the input reads as it did. -/
def fnEqualAtUptoRow : OpenClaim := { program := "ytnjcephddilalab", sum := "8f0f9b5ae926f1cf44659cb13ebda77600cdfc1982b99eb70166b64460100680", func := "loop.example/bitwords/laws.FnEqualAt", spec := "fnEqualAt", unfollowed := true, recurses := true, apart := false, narrowed := true }
def FnEqualAtUptoSaid : Prop := fnEqualAtUptoRow.holds Try.pinned (OpenSpec.upto fnEqualAtSpec)

/-- 'laws.FnShortFor', WHERE WHAT IT READS IS OF BULK AT MOST 1048576: true; the input reads as it did. -/
def fnShortForUptoRow : OpenClaim := { program := "ytnjcephddilalab", sum := "8f0f9b5ae926f1cf44659cb13ebda77600cdfc1982b99eb70166b64460100680", func := "loop.example/bitwords/laws.FnShortFor", spec := "fnShortFor", unfollowed := true, recurses := true, apart := false, narrowed := true }
def FnShortForUptoSaid : Prop := fnShortForUptoRow.holds Try.pinned (OpenSpec.upto fnShortForSpec)

end Rows
end Go.Proofs.Ytnjcephddilalab
