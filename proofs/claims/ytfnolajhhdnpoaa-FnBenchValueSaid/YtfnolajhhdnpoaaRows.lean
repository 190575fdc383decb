/-
  No cell of these rows narrows 'for every input' (looked for: loops, veiled, ifaces, maps, wideKeys, modest, calm, conditions, laid).
  DERIVED. THE GIVEN ROWS OF THIS SEAT. 4 by the template 'for every input the law returns true; each argument reads behind the call as it read before'; 0 by the template 'total and deterministic' (their statements: YtfnolajhhdnpoaaTotals.lean).
  GIVEN WITH THE SEED: the statements are not yours to turn. If you find one false, say at which input.
  Laid BY PROGRAM, IN A SANDBOX (cutbox-rows.mjs): the forced cells as the released guide's own fill.sh prints them over the translation 4687cdc46775b06f… (all of the seat's roots in one cut). By AI agents, Wed Nov 11 2026. No macro, syntax, notation, axiom, sorry.
-/
import Derived.Test.YtfnolajhhdnpoaaChecked
import GoSem.Claim
import GoSem.ClaimJoined
import GoSem.ClaimMapViews
import Derived.JoinedTies
import Derived.KernelRfl
namespace Go.Proofs.Ytfnolajhhdnpoaa
/- THE CELL 'sum', in the pinned program and in every row, IS THE sha256 OF THE DUMP (.gsa) THAT YtfnolajhhdnpoaaProg.lean LOADS. Nothing in Lean hashes anything: it is a label: what it is worth is what the hold of that sum in a sandbox is worth. -/
noncomputable def Try.pinned : Pinned := { name := "ytfnolajhhdnpoaa", sum := "4687cdc46775b06f5e49ca5f229c6648ed5e728aeb9cb67a6fc66687613bc91d", checked := Try.checked }
namespace Rows
def none {H : Type} : Left H := { results := [], args := [] }

/-- 'laws.FnExactBenchValid': WHATEVER THE INPUT: true; the input reads as it did. -/
def fnExactBenchValidSpec : ChangeSpec := { name := "fnExactBenchValid", fn := fun _ => fun
  | [d] => { results := [.lit (.bool true)], args := [d] }
  | _ => none }
def fnExactBenchValidRow : OpenClaim := { program := "ytfnolajhhdnpoaa", sum := "4687cdc46775b06f5e49ca5f229c6648ed5e728aeb9cb67a6fc66687613bc91d", func := "loop.example/bitwords/laws.FnExactBenchValid", spec := "fnExactBenchValid", inPlace := ["internal/bytealg.IndexByteString"], unfollowed := true, recurses := true, apart := false }
def FnExactBenchValidSaid : Prop := fnExactBenchValidRow.holds Try.pinned (OpenSpec.ofChange fnExactBenchValidSpec)

/-- ITS FALSE NEIGHBOUR: 'it returns false'. Refute it at one input. -/
def fnExactBenchValidWrong : ChangeSpec := { name := "fnExactBenchValid", fn := fun _ => fun
  | [d] => { results := [.lit (.bool false)], args := [d] }
  | _ => none }
def FnExactBenchValidWrongFalsely : Prop := fnExactBenchValidRow.holds Try.pinned (OpenSpec.ofChange fnExactBenchValidWrong)

/-- 'laws.FnExactBenchValue': WHATEVER THE INPUT: true; the input reads as it did. -/
def fnExactBenchValueSpec : ChangeSpec := { name := "fnExactBenchValue", fn := fun _ => fun
  | [d] => { results := [.lit (.bool true)], args := [d] }
  | _ => none }
def fnExactBenchValueRow : OpenClaim := { program := "ytfnolajhhdnpoaa", sum := "4687cdc46775b06f5e49ca5f229c6648ed5e728aeb9cb67a6fc66687613bc91d", func := "loop.example/bitwords/laws.FnExactBenchValue", spec := "fnExactBenchValue", inPlace := ["internal/bytealg.IndexByteString"], unfollowed := true, recurses := true, apart := false }
def FnExactBenchValueSaid : Prop := fnExactBenchValueRow.holds Try.pinned (OpenSpec.ofChange fnExactBenchValueSpec)

/-- ITS FALSE NEIGHBOUR: 'it returns false'. Refute it at one input. -/
def fnExactBenchValueWrong : ChangeSpec := { name := "fnExactBenchValue", fn := fun _ => fun
  | [d] => { results := [.lit (.bool false)], args := [d] }
  | _ => none }
def FnExactBenchValueWrongFalsely : Prop := fnExactBenchValueRow.holds Try.pinned (OpenSpec.ofChange fnExactBenchValueWrong)

/-- 'laws.FnBenchValid': WHATEVER THE INPUT: true; the input reads as it did. -/
def fnBenchValidSpec : ChangeSpec := { name := "fnBenchValid", fn := fun _ => fun
  | [d] => { results := [.lit (.bool true)], args := [d] }
  | _ => none }
def fnBenchValidRow : OpenClaim := { program := "ytfnolajhhdnpoaa", sum := "4687cdc46775b06f5e49ca5f229c6648ed5e728aeb9cb67a6fc66687613bc91d", func := "loop.example/bitwords/laws.FnBenchValid", spec := "fnBenchValid", inPlace := ["internal/bytealg.IndexByteString"], unfollowed := true, recurses := true, apart := false }
def FnBenchValidSaid : Prop := fnBenchValidRow.holds Try.pinned (OpenSpec.ofChange fnBenchValidSpec)

/-- ITS FALSE NEIGHBOUR: 'it returns false'. Refute it at one input. -/
def fnBenchValidWrong : ChangeSpec := { name := "fnBenchValid", fn := fun _ => fun
  | [d] => { results := [.lit (.bool false)], args := [d] }
  | _ => none }
def FnBenchValidWrongFalsely : Prop := fnBenchValidRow.holds Try.pinned (OpenSpec.ofChange fnBenchValidWrong)

/-- 'laws.FnBenchValue': WHATEVER THE INPUT: true; the input reads as it did. -/
def fnBenchValueSpec : ChangeSpec := { name := "fnBenchValue", fn := fun _ => fun
  | [d] => { results := [.lit (.bool true)], args := [d] }
  | _ => none }
def fnBenchValueRow : OpenClaim := { program := "ytfnolajhhdnpoaa", sum := "4687cdc46775b06f5e49ca5f229c6648ed5e728aeb9cb67a6fc66687613bc91d", func := "loop.example/bitwords/laws.FnBenchValue", spec := "fnBenchValue", inPlace := ["internal/bytealg.IndexByteString"], unfollowed := true, recurses := true, apart := false }
def FnBenchValueSaid : Prop := fnBenchValueRow.holds Try.pinned (OpenSpec.ofChange fnBenchValueSpec)

/-- ITS FALSE NEIGHBOUR: 'it returns false'. Refute it at one input. -/
def fnBenchValueWrong : ChangeSpec := { name := "fnBenchValue", fn := fun _ => fun
  | [d] => { results := [.lit (.bool false)], args := [d] }
  | _ => none }
def FnBenchValueWrongFalsely : Prop := fnBenchValueRow.holds Try.pinned (OpenSpec.ofChange fnBenchValueWrong)

/- THE SECOND FORM. 'bulk': how many values and letters a reading holds, each counted each time it is reached (what is shared counts as often as it is met; a slice's spare places count too). A statement '..UptoSaid' is the law's where the arguments, and the package variables that the reading takes, are together of bulk at most 1048576: NARROWER than '..Said'. Prove '..Said' where nothing that the law and all that it calls make is longer than what came in: it says more and counts as full. Else prove '..UptoSaid'. A law counts once. -/
mutual
def uptoBulk {H : Type} : DataW H → Nat
  | .lit (.string bytes) => bytes.length + 1
  | .lit _ => 1
  | .nil => 1
  | .ptr d => uptoBulk d + 1
  | .slice elems spare => uptoBulkAll elems + uptoBulkAll spare + 1
  | .agg parts => uptoBulkAll parts + 1
  | .iface _ d => uptoBulk d + 1
  | .map entries => uptoBulkEntries entries + 1
  | .held _ => 1
def uptoBulkAll {H : Type} : List (DataW H) → Nat
  | [] => 0
  | d :: r => uptoBulk d + uptoBulkAll r
def uptoBulkEntries {H : Type} : List (Lit × DataW H) → Nat
  | [] => 0
  | x :: r => uptoBulkEntry x + uptoBulkEntries r
def uptoBulkEntry {H : Type} : Lit × DataW H → Nat
  | (.string bytes, d) => bytes.length + uptoBulk d + 1
  | (_, d) => uptoBulk d + 1
 end
def uptoSmall : (H : Type) → List (DataW H) → Bool := fun _ ds => decide (uptoBulkAll ds ≤ 1048576)
def OpenSpec.upto (s : _root_.Go.ChangeSpec) : _root_.Go.OpenSpec := { _root_.Go.OpenSpec.ofChange s with cond := some uptoSmall }

/-- 'laws.FnExactBenchValid', WHERE WHAT IT READS IS OF BULK AT MOST 1048576: true; the input reads as it did. -/
def fnExactBenchValidUptoRow : OpenClaim := { program := "ytfnolajhhdnpoaa", sum := "4687cdc46775b06f5e49ca5f229c6648ed5e728aeb9cb67a6fc66687613bc91d", func := "loop.example/bitwords/laws.FnExactBenchValid", spec := "fnExactBenchValid", inPlace := ["internal/bytealg.IndexByteString"], unfollowed := true, recurses := true, apart := false, narrowed := true }
def FnExactBenchValidUptoSaid : Prop := fnExactBenchValidUptoRow.holds Try.pinned (OpenSpec.upto fnExactBenchValidSpec)

/-- 'laws.FnExactBenchValue', WHERE WHAT IT READS IS OF BULK AT MOST 1048576: true; the input reads as it did. -/
def fnExactBenchValueUptoRow : OpenClaim := { program := "ytfnolajhhdnpoaa", sum := "4687cdc46775b06f5e49ca5f229c6648ed5e728aeb9cb67a6fc66687613bc91d", func := "loop.example/bitwords/laws.FnExactBenchValue", spec := "fnExactBenchValue", inPlace := ["internal/bytealg.IndexByteString"], unfollowed := true, recurses := true, apart := false, narrowed := true }
def FnExactBenchValueUptoSaid : Prop := fnExactBenchValueUptoRow.holds Try.pinned (OpenSpec.upto fnExactBenchValueSpec)

/-- 'laws.FnBenchValid', WHERE WHAT IT READS IS OF BULK AT MOST 1048576: true; the input reads as it did. -/
def fnBenchValidUptoRow : OpenClaim := { program := "ytfnolajhhdnpoaa", sum := "4687cdc46775b06f5e49ca5f229c6648ed5e728aeb9cb67a6fc66687613bc91d", func := "loop.example/bitwords/laws.FnBenchValid", spec := "fnBenchValid", inPlace := ["internal/bytealg.IndexByteString"], unfollowed := true, recurses := true, apart := false, narrowed := true }
def FnBenchValidUptoSaid : Prop := fnBenchValidUptoRow.holds Try.pinned (OpenSpec.upto fnBenchValidSpec)

/-- 'laws.FnBenchValue', WHERE WHAT IT READS IS OF BULK AT MOST 1048576: true; the input reads as it did. -/
def fnBenchValueUptoRow : OpenClaim := { program := "ytfnolajhhdnpoaa", sum := "4687cdc46775b06f5e49ca5f229c6648ed5e728aeb9cb67a6fc66687613bc91d", func := "loop.example/bitwords/laws.FnBenchValue", spec := "fnBenchValue", inPlace := ["internal/bytealg.IndexByteString"], unfollowed := true, recurses := true, apart := false, narrowed := true }
def FnBenchValueUptoSaid : Prop := fnBenchValueUptoRow.holds Try.pinned (OpenSpec.upto fnBenchValueSpec)

end Rows
end Go.Proofs.Ytfnolajhhdnpoaa
