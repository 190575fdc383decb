/-
  No cell of these rows narrows 'for every input' (looked for: loops, veiled, ifaces, maps, wideKeys, modest, calm, conditions, laid).
  DERIVED. THE GIVEN ROWS OF THIS SEAT. 2 by the template 'for every input the law returns true; each argument reads behind the call as it read before'; 0 by the template 'total and deterministic' (their statements: YtpjikmnddkobfaaTotals.lean).
  GIVEN WITH THE SEED: the statements are not yours to turn. If you find one false, say at which input.
  Laid BY PROGRAM, IN A SANDBOX (cutbox-rows.mjs): the forced cells as the released guide's own fill.sh prints them over the translation 44df27ab3bea84f7… (all of the seat's roots in one cut). By AI agents, Wed Nov 11 2026. No macro, syntax, notation, axiom, sorry.
-/
import Derived.Test.YtpjikmnddkobfaaChecked
import GoSem.Claim
import GoSem.ClaimJoined
import GoSem.ClaimMapViews
import Derived.JoinedTies
import Derived.KernelRfl
namespace Go.Proofs.Ytpjikmnddkobfaa
/- THE CELL 'sum', in the pinned program and in every row, IS THE sha256 OF THE DUMP (.gsa) THAT YtpjikmnddkobfaaProg.lean LOADS. Nothing in Lean hashes anything: it is a label: what it is worth is what the hold of that sum in a sandbox is worth. -/
noncomputable def Try.pinned : Pinned := { name := "ytpjikmnddkobfaa", sum := "44df27ab3bea84f7dd39c640f75e1536b735daffefca8dd9f590d06fce7ea8bb", checked := Try.checked }
namespace Rows
def none {H : Type} : Left H := { results := [], args := [] }

/-- 'laws.FnExactBenchNew': WHATEVER THE INPUT: true; the input reads as it did. -/
def fnExactBenchNewSpec : ChangeSpec := { name := "fnExactBenchNew", fn := fun _ => fun
  | [d] => { results := [.lit (.bool true)], args := [d] }
  | _ => none }
def fnExactBenchNewRow : OpenClaim := { program := "ytpjikmnddkobfaa", sum := "44df27ab3bea84f7dd39c640f75e1536b735daffefca8dd9f590d06fce7ea8bb", func := "loop.example/bitwords/laws.FnExactBenchNew", spec := "fnExactBenchNew", apart := false }
def FnExactBenchNewSaid : Prop := fnExactBenchNewRow.holds Try.pinned (OpenSpec.ofChange fnExactBenchNewSpec)

/-- ITS FALSE NEIGHBOUR: 'it returns false'. Refute it at one input. -/
def fnExactBenchNewWrong : ChangeSpec := { name := "fnExactBenchNew", fn := fun _ => fun
  | [d] => { results := [.lit (.bool false)], args := [d] }
  | _ => none }
def FnExactBenchNewWrongFalsely : Prop := fnExactBenchNewRow.holds Try.pinned (OpenSpec.ofChange fnExactBenchNewWrong)

/-- 'laws.FnBenchNew': WHATEVER THE INPUT: true; the input reads as it did. -/
def fnBenchNewSpec : ChangeSpec := { name := "fnBenchNew", fn := fun _ => fun
  | [d] => { results := [.lit (.bool true)], args := [d] }
  | _ => none }
def fnBenchNewRow : OpenClaim := { program := "ytpjikmnddkobfaa", sum := "44df27ab3bea84f7dd39c640f75e1536b735daffefca8dd9f590d06fce7ea8bb", func := "loop.example/bitwords/laws.FnBenchNew", spec := "fnBenchNew", inPlace := ["internal/bytealg.IndexByteString"], unfollowed := true, recurses := true, apart := false }
def FnBenchNewSaid : Prop := fnBenchNewRow.holds Try.pinned (OpenSpec.ofChange fnBenchNewSpec)

/-- ITS FALSE NEIGHBOUR: 'it returns false'. Refute it at one input. -/
def fnBenchNewWrong : ChangeSpec := { name := "fnBenchNew", fn := fun _ => fun
  | [d] => { results := [.lit (.bool false)], args := [d] }
  | _ => none }
def FnBenchNewWrongFalsely : Prop := fnBenchNewRow.holds Try.pinned (OpenSpec.ofChange fnBenchNewWrong)

/- THE SECOND FORM. 'bulk': how many values and letters a reading holds, each counted each time it is reached (what is shared counts as often as it is met; a slice's spare places count too). A statement '..UptoSaid' is the law's where the arguments, and the package variables that the reading takes, are together of bulk at most 1048576: NARROWER than '..Said'. Prove '..Said' where nothing that the law and all that it calls make is longer than what came in: it says more and counts as full. Else prove '..UptoSaid'. A law counts once. -/
mutual
def uptoBulk {H : Type} : DataW H → Nat
  | .lit (.string bytes) => bytes.length + 1
  | .lit _ => 1
  | .nil => 1
  | .ptr d => uptoBulk d + 1
  | .slice elems spare => uptoBulkAll elems + uptoBulkAll spare + 1
  | .agg parts => uptoBulkAll parts + 1
  | .iface _ d => uptoBulk d + 1
  | .map entries => uptoBulkEntries entries + 1
  | .held _ => 1
def uptoBulkAll {H : Type} : List (DataW H) → Nat
  | [] => 0
  | d :: r => uptoBulk d + uptoBulkAll r
def uptoBulkEntries {H : Type} : List (Lit × DataW H) → Nat
  | [] => 0
  | x :: r => uptoBulkEntry x + uptoBulkEntries r
def uptoBulkEntry {H : Type} : Lit × DataW H → Nat
  | (.string bytes, d) => bytes.length + uptoBulk d + 1
  | (_, d) => uptoBulk d + 1
 end
def uptoSmall : (H : Type) → List (DataW H) → Bool := fun _ ds => decide (uptoBulkAll ds ≤ 1048576)
def OpenSpec.upto (s : _root_.Go.ChangeSpec) : _root_.Go.OpenSpec := { _root_.Go.OpenSpec.ofChange s with cond := some uptoSmall }

/-- 'laws.FnExactBenchNew', WHERE WHAT IT READS IS OF BULK AT MOST 1048576: true; the input reads as it did. -/
def fnExactBenchNewUptoRow : OpenClaim := { program := "ytpjikmnddkobfaa", sum := "44df27ab3bea84f7dd39c640f75e1536b735daffefca8dd9f590d06fce7ea8bb", func := "loop.example/bitwords/laws.FnExactBenchNew", spec := "fnExactBenchNew", apart := false, narrowed := true }
def FnExactBenchNewUptoSaid : Prop := fnExactBenchNewUptoRow.holds Try.pinned (OpenSpec.upto fnExactBenchNewSpec)

/-- 'laws.FnBenchNew', WHERE WHAT IT READS IS OF BULK AT MOST 1048576: true; the input reads as it did. -/
def fnBenchNewUptoRow : OpenClaim := { program := "ytpjikmnddkobfaa", sum := "44df27ab3bea84f7dd39c640f75e1536b735daffefca8dd9f590d06fce7ea8bb", func := "loop.example/bitwords/laws.FnBenchNew", spec := "fnBenchNew", inPlace := ["internal/bytealg.IndexByteString"], unfollowed := true, recurses := true, apart := false, narrowed := true }
def FnBenchNewUptoSaid : Prop := fnBenchNewUptoRow.holds Try.pinned (OpenSpec.upto fnBenchNewSpec)

end Rows
end Go.Proofs.Ytpjikmnddkobfaa
