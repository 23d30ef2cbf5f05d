/-
  No cell of these rows narrows 'for every input' (looked for: loops, veiled, ifaces, maps, wideKeys, modest, calm, conditions, laid).
  DERIVED. THE GIVEN ROWS OF THIS SEAT. 12 by the template 'for every input the law returns true; each argument reads behind the call as it read before'; 0 by the template 'total and deterministic' (their statements: YtkonnbkldjgomaaTotals.lean).
  GIVEN WITH THE SEED: the statements are not yours to turn. If you find one false, say at which input.
  Laid BY PROGRAM, IN A SANDBOX (cutbox-rows.mjs): the forced cells as the released guide's own fill.sh prints them over the translation 5edbeea83cbb8ba8… (all of the seat's roots in one cut). By AI agents, Wed Nov 11 2026. No macro, syntax, notation, axiom, sorry.
-/
import Derived.Test.YtkonnbkldjgomaaChecked
import GoSem.Claim
import GoSem.ClaimJoined
import GoSem.ClaimMapViews
import Derived.JoinedTies
import Derived.KernelRfl
namespace Go.Proofs.Ytkonnbkldjgomaa
/- THE CELL 'sum', in the pinned program and in every row, IS THE sha256 OF THE DUMP (.gsa) THAT YtkonnbkldjgomaaProg.lean LOADS. Nothing in Lean hashes anything: it is a label: what it is worth is what the hold of that sum in a sandbox is worth. -/
noncomputable def Try.pinned : Pinned := { name := "ytkonnbkldjgomaa", sum := "5edbeea83cbb8ba8287a95ddb8d2a2c8f9c8b74cd8f972e68f945d07fff92b21", checked := Try.checked }
namespace Rows
def none {H : Type} : Left H := { results := [], args := [] }

/-- 'laws.FnExactVarsOf': WHATEVER THE INPUT: true; the input reads as it did. -/
def fnExactVarsOfSpec : ChangeSpec := { name := "fnExactVarsOf", fn := fun _ => fun
  | [d1, d2] => { results := [.lit (.bool true)], args := [d1, d2] }
  | _ => none }
def fnExactVarsOfRow : OpenClaim := { program := "ytkonnbkldjgomaa", sum := "5edbeea83cbb8ba8287a95ddb8d2a2c8f9c8b74cd8f972e68f945d07fff92b21", func := "loop.example/g00895/laws.FnExactVarsOf", spec := "fnExactVarsOf", apart := false }
def FnExactVarsOfSaid : Prop := fnExactVarsOfRow.holds Try.pinned (OpenSpec.ofChange fnExactVarsOfSpec)

/-- ITS FALSE NEIGHBOUR: 'it returns false'. Refute it at one input. -/
def fnExactVarsOfWrong : ChangeSpec := { name := "fnExactVarsOf", fn := fun _ => fun
  | [d1, d2] => { results := [.lit (.bool false)], args := [d1, d2] }
  | _ => none }
def FnExactVarsOfWrongFalsely : Prop := fnExactVarsOfRow.holds Try.pinned (OpenSpec.ofChange fnExactVarsOfWrong)

/-- 'laws.FnExactDeepestOf': WHATEVER THE INPUT: true; the input reads as it did. -/
def fnExactDeepestOfSpec : ChangeSpec := { name := "fnExactDeepestOf", fn := fun _ => fun
  | [d1, d2] => { results := [.lit (.bool true)], args := [d1, d2] }
  | _ => none }
def fnExactDeepestOfRow : OpenClaim := { program := "ytkonnbkldjgomaa", sum := "5edbeea83cbb8ba8287a95ddb8d2a2c8f9c8b74cd8f972e68f945d07fff92b21", func := "loop.example/g00895/laws.FnExactDeepestOf", spec := "fnExactDeepestOf", apart := false }
def FnExactDeepestOfSaid : Prop := fnExactDeepestOfRow.holds Try.pinned (OpenSpec.ofChange fnExactDeepestOfSpec)

/-- ITS FALSE NEIGHBOUR: 'it returns false'. Refute it at one input. -/
def fnExactDeepestOfWrong : ChangeSpec := { name := "fnExactDeepestOf", fn := fun _ => fun
  | [d1, d2] => { results := [.lit (.bool false)], args := [d1, d2] }
  | _ => none }
def FnExactDeepestOfWrongFalsely : Prop := fnExactDeepestOfRow.holds Try.pinned (OpenSpec.ofChange fnExactDeepestOfWrong)

/-- 'laws.FnExactPutAt': WHATEVER THE INPUT: true; the input reads as it did. -/
def fnExactPutAtSpec : ChangeSpec := { name := "fnExactPutAt", fn := fun _ => fun
  | [d1, d2, d3, d4] => { results := [.lit (.bool true)], args := [d1, d2, d3, d4] }
  | _ => none }
def fnExactPutAtRow : OpenClaim := { program := "ytkonnbkldjgomaa", sum := "5edbeea83cbb8ba8287a95ddb8d2a2c8f9c8b74cd8f972e68f945d07fff92b21", func := "loop.example/g00895/laws.FnExactPutAt", spec := "fnExactPutAt", apart := false }
def FnExactPutAtSaid : Prop := fnExactPutAtRow.holds Try.pinned (OpenSpec.ofChange fnExactPutAtSpec)

/-- ITS FALSE NEIGHBOUR: 'it returns false'. Refute it at one input. -/
def fnExactPutAtWrong : ChangeSpec := { name := "fnExactPutAt", fn := fun _ => fun
  | [d1, d2, d3, d4] => { results := [.lit (.bool false)], args := [d1, d2, d3, d4] }
  | _ => none }
def FnExactPutAtWrongFalsely : Prop := fnExactPutAtRow.holds Try.pinned (OpenSpec.ofChange fnExactPutAtWrong)

/-- 'laws.FnExactPathOf': WHATEVER THE INPUT: true; the input reads as it did. -/
def fnExactPathOfSpec : ChangeSpec := { name := "fnExactPathOf", fn := fun _ => fun
  | [d1, d2, d3] => { results := [.lit (.bool true)], args := [d1, d2, d3] }
  | _ => none }
def fnExactPathOfRow : OpenClaim := { program := "ytkonnbkldjgomaa", sum := "5edbeea83cbb8ba8287a95ddb8d2a2c8f9c8b74cd8f972e68f945d07fff92b21", func := "loop.example/g00895/laws.FnExactPathOf", spec := "fnExactPathOf", apart := false }
def FnExactPathOfSaid : Prop := fnExactPathOfRow.holds Try.pinned (OpenSpec.ofChange fnExactPathOfSpec)

/-- ITS FALSE NEIGHBOUR: 'it returns false'. Refute it at one input. -/
def fnExactPathOfWrong : ChangeSpec := { name := "fnExactPathOf", fn := fun _ => fun
  | [d1, d2, d3] => { results := [.lit (.bool false)], args := [d1, d2, d3] }
  | _ => none }
def FnExactPathOfWrongFalsely : Prop := fnExactPathOfRow.holds Try.pinned (OpenSpec.ofChange fnExactPathOfWrong)

/-- 'laws.FnExactVariantIn': WHATEVER THE INPUT: true; the input reads as it did. -/
def fnExactVariantInSpec : ChangeSpec := { name := "fnExactVariantIn", fn := fun _ => fun
  | [d1, d2, d3] => { results := [.lit (.bool true)], args := [d1, d2, d3] }
  | _ => none }
def fnExactVariantInRow : OpenClaim := { program := "ytkonnbkldjgomaa", sum := "5edbeea83cbb8ba8287a95ddb8d2a2c8f9c8b74cd8f972e68f945d07fff92b21", func := "loop.example/g00895/laws.FnExactVariantIn", spec := "fnExactVariantIn", apart := false }
def FnExactVariantInSaid : Prop := fnExactVariantInRow.holds Try.pinned (OpenSpec.ofChange fnExactVariantInSpec)

/-- ITS FALSE NEIGHBOUR: 'it returns false'. Refute it at one input. -/
def fnExactVariantInWrong : ChangeSpec := { name := "fnExactVariantIn", fn := fun _ => fun
  | [d1, d2, d3] => { results := [.lit (.bool false)], args := [d1, d2, d3] }
  | _ => none }
def FnExactVariantInWrongFalsely : Prop := fnExactVariantInRow.holds Try.pinned (OpenSpec.ofChange fnExactVariantInWrong)

/-- 'laws.FnExactRenamed': WHATEVER THE INPUT: true; the input reads as it did. -/
def fnExactRenamedSpec : ChangeSpec := { name := "fnExactRenamed", fn := fun _ => fun
  | [d1, d2] => { results := [.lit (.bool true)], args := [d1, d2] }
  | _ => none }
def fnExactRenamedRow : OpenClaim := { program := "ytkonnbkldjgomaa", sum := "5edbeea83cbb8ba8287a95ddb8d2a2c8f9c8b74cd8f972e68f945d07fff92b21", func := "loop.example/g00895/laws.FnExactRenamed", spec := "fnExactRenamed", apart := false }
def FnExactRenamedSaid : Prop := fnExactRenamedRow.holds Try.pinned (OpenSpec.ofChange fnExactRenamedSpec)

/-- ITS FALSE NEIGHBOUR: 'it returns false'. Refute it at one input. -/
def fnExactRenamedWrong : ChangeSpec := { name := "fnExactRenamed", fn := fun _ => fun
  | [d1, d2] => { results := [.lit (.bool false)], args := [d1, d2] }
  | _ => none }
def FnExactRenamedWrongFalsely : Prop := fnExactRenamedRow.holds Try.pinned (OpenSpec.ofChange fnExactRenamedWrong)

/-- 'laws.FnExactSystemOk': WHATEVER THE INPUT: true; the input reads as it did. -/
def fnExactSystemOkSpec : ChangeSpec := { name := "fnExactSystemOk", fn := fun _ => fun
  | [d] => { results := [.lit (.bool true)], args := [d] }
  | _ => none }
def fnExactSystemOkRow : OpenClaim := { program := "ytkonnbkldjgomaa", sum := "5edbeea83cbb8ba8287a95ddb8d2a2c8f9c8b74cd8f972e68f945d07fff92b21", func := "loop.example/g00895/laws.FnExactSystemOk", spec := "fnExactSystemOk", apart := false }
def FnExactSystemOkSaid : Prop := fnExactSystemOkRow.holds Try.pinned (OpenSpec.ofChange fnExactSystemOkSpec)

/-- ITS FALSE NEIGHBOUR: 'it returns false'. Refute it at one input. -/
def fnExactSystemOkWrong : ChangeSpec := { name := "fnExactSystemOk", fn := fun _ => fun
  | [d] => { results := [.lit (.bool false)], args := [d] }
  | _ => none }
def FnExactSystemOkWrongFalsely : Prop := fnExactSystemOkRow.holds Try.pinned (OpenSpec.ofChange fnExactSystemOkWrong)

/-- 'laws.FnExactSameSubst': WHATEVER THE INPUT: true; the input reads as it did. -/
def fnExactSameSubstSpec : ChangeSpec := { name := "fnExactSameSubst", fn := fun _ => fun
  | [d1, d2, d3] => { results := [.lit (.bool true)], args := [d1, d2, d3] }
  | _ => none }
def fnExactSameSubstRow : OpenClaim := { program := "ytkonnbkldjgomaa", sum := "5edbeea83cbb8ba8287a95ddb8d2a2c8f9c8b74cd8f972e68f945d07fff92b21", func := "loop.example/g00895/laws.FnExactSameSubst", spec := "fnExactSameSubst", unfollowed := true, recurses := true, apart := false }
def FnExactSameSubstSaid : Prop := fnExactSameSubstRow.holds Try.pinned (OpenSpec.ofChange fnExactSameSubstSpec)

/-- ITS FALSE NEIGHBOUR: 'it returns false'. Refute it at one input. -/
def fnExactSameSubstWrong : ChangeSpec := { name := "fnExactSameSubst", fn := fun _ => fun
  | [d1, d2, d3] => { results := [.lit (.bool false)], args := [d1, d2, d3] }
  | _ => none }
def FnExactSameSubstWrongFalsely : Prop := fnExactSameSubstRow.holds Try.pinned (OpenSpec.ofChange fnExactSameSubstWrong)

/-- 'laws.FnExactFilled': WHATEVER THE INPUT: true; the input reads as it did. -/
def fnExactFilledSpec : ChangeSpec := { name := "fnExactFilled", fn := fun _ => fun
  | [d1, d2, d3] => { results := [.lit (.bool true)], args := [d1, d2, d3] }
  | _ => none }
def fnExactFilledRow : OpenClaim := { program := "ytkonnbkldjgomaa", sum := "5edbeea83cbb8ba8287a95ddb8d2a2c8f9c8b74cd8f972e68f945d07fff92b21", func := "loop.example/g00895/laws.FnExactFilled", spec := "fnExactFilled", unfollowed := true, recurses := true, apart := false }
def FnExactFilledSaid : Prop := fnExactFilledRow.holds Try.pinned (OpenSpec.ofChange fnExactFilledSpec)

/-- ITS FALSE NEIGHBOUR: 'it returns false'. Refute it at one input. -/
def fnExactFilledWrong : ChangeSpec := { name := "fnExactFilled", fn := fun _ => fun
  | [d1, d2, d3] => { results := [.lit (.bool false)], args := [d1, d2, d3] }
  | _ => none }
def FnExactFilledWrongFalsely : Prop := fnExactFilledRow.holds Try.pinned (OpenSpec.ofChange fnExactFilledWrong)

/-- 'laws.FnExactCollapsingIn': WHATEVER THE INPUT: true; the input reads as it did. -/
def fnExactCollapsingInSpec : ChangeSpec := { name := "fnExactCollapsingIn", fn := fun _ => fun
  | [d] => { results := [.lit (.bool true)], args := [d] }
  | _ => none }
def fnExactCollapsingInRow : OpenClaim := { program := "ytkonnbkldjgomaa", sum := "5edbeea83cbb8ba8287a95ddb8d2a2c8f9c8b74cd8f972e68f945d07fff92b21", func := "loop.example/g00895/laws.FnExactCollapsingIn", spec := "fnExactCollapsingIn", unfollowed := true, recurses := true, apart := false }
def FnExactCollapsingInSaid : Prop := fnExactCollapsingInRow.holds Try.pinned (OpenSpec.ofChange fnExactCollapsingInSpec)

/-- ITS FALSE NEIGHBOUR: 'it returns false'. Refute it at one input. -/
def fnExactCollapsingInWrong : ChangeSpec := { name := "fnExactCollapsingIn", fn := fun _ => fun
  | [d] => { results := [.lit (.bool false)], args := [d] }
  | _ => none }
def FnExactCollapsingInWrongFalsely : Prop := fnExactCollapsingInRow.holds Try.pinned (OpenSpec.ofChange fnExactCollapsingInWrong)

/-- 'laws.FnExactRenamedRule': WHATEVER THE INPUT: true; the input reads as it did. -/
def fnExactRenamedRuleSpec : ChangeSpec := { name := "fnExactRenamedRule", fn := fun _ => fun
  | [d1, d2] => { results := [.lit (.bool true)], args := [d1, d2] }
  | _ => none }
def fnExactRenamedRuleRow : OpenClaim := { program := "ytkonnbkldjgomaa", sum := "5edbeea83cbb8ba8287a95ddb8d2a2c8f9c8b74cd8f972e68f945d07fff92b21", func := "loop.example/g00895/laws.FnExactRenamedRule", spec := "fnExactRenamedRule", apart := false }
def FnExactRenamedRuleSaid : Prop := fnExactRenamedRuleRow.holds Try.pinned (OpenSpec.ofChange fnExactRenamedRuleSpec)

/-- ITS FALSE NEIGHBOUR: 'it returns false'. Refute it at one input. -/
def fnExactRenamedRuleWrong : ChangeSpec := { name := "fnExactRenamedRule", fn := fun _ => fun
  | [d1, d2] => { results := [.lit (.bool false)], args := [d1, d2] }
  | _ => none }
def FnExactRenamedRuleWrongFalsely : Prop := fnExactRenamedRuleRow.holds Try.pinned (OpenSpec.ofChange fnExactRenamedRuleWrong)

/-- 'laws.FnExactPlainOf': WHATEVER THE INPUT: true; the input reads as it did. -/
def fnExactPlainOfSpec : ChangeSpec := { name := "fnExactPlainOf", fn := fun _ => fun
  | [d1, d2] => { results := [.lit (.bool true)], args := [d1, d2] }
  | _ => none }
def fnExactPlainOfRow : OpenClaim := { program := "ytkonnbkldjgomaa", sum := "5edbeea83cbb8ba8287a95ddb8d2a2c8f9c8b74cd8f972e68f945d07fff92b21", func := "loop.example/g00895/laws.FnExactPlainOf", spec := "fnExactPlainOf", apart := false }
def FnExactPlainOfSaid : Prop := fnExactPlainOfRow.holds Try.pinned (OpenSpec.ofChange fnExactPlainOfSpec)

/-- ITS FALSE NEIGHBOUR: 'it returns false'. Refute it at one input. -/
def fnExactPlainOfWrong : ChangeSpec := { name := "fnExactPlainOf", fn := fun _ => fun
  | [d1, d2] => { results := [.lit (.bool false)], args := [d1, d2] }
  | _ => none }
def FnExactPlainOfWrongFalsely : Prop := fnExactPlainOfRow.holds Try.pinned (OpenSpec.ofChange fnExactPlainOfWrong)

/- THE SECOND FORM. 'bulk': how many values and letters a reading holds, each counted each time it is reached (what is shared counts as often as it is met; a slice's spare places count too). A statement '..UptoSaid' is the law's where the arguments, and the package variables that the reading takes, are together of bulk at most 1048576: NARROWER than '..Said'. Prove '..Said' where nothing that the law and all that it calls make is longer than what came in: it says more and counts as full. Else prove '..UptoSaid'. A law counts once. -/
mutual
def uptoBulk {H : Type} : DataW H → Nat
  | .lit (.string bytes) => bytes.length + 1
  | .lit _ => 1
  | .nil => 1
  | .ptr d => uptoBulk d + 1
  | .slice elems spare => uptoBulkAll elems + uptoBulkAll spare + 1
  | .agg parts => uptoBulkAll parts + 1
  | .iface _ d => uptoBulk d + 1
  | .map entries => uptoBulkEntries entries + 1
  | .held _ => 1
def uptoBulkAll {H : Type} : List (DataW H) → Nat
  | [] => 0
  | d :: r => uptoBulk d + uptoBulkAll r
def uptoBulkEntries {H : Type} : List (Lit × DataW H) → Nat
  | [] => 0
  | x :: r => uptoBulkEntry x + uptoBulkEntries r
def uptoBulkEntry {H : Type} : Lit × DataW H → Nat
  | (.string bytes, d) => bytes.length + uptoBulk d + 1
  | (_, d) => uptoBulk d + 1
 end
def uptoSmall : (H : Type) → List (DataW H) → Bool := fun _ ds => decide (uptoBulkAll ds ≤ 1048576)
def OpenSpec.upto (s : _root_.Go.ChangeSpec) : _root_.Go.OpenSpec := { _root_.Go.OpenSpec.ofChange s with cond := some uptoSmall }

/-- 'laws.FnExactVarsOf', WHERE WHAT IT READS IS OF BULK AT MOST 1048576: true; the input reads as it did. -/
def fnExactVarsOfUptoRow : OpenClaim := { program := "ytkonnbkldjgomaa", sum := "5edbeea83cbb8ba8287a95ddb8d2a2c8f9c8b74cd8f972e68f945d07fff92b21", func := "loop.example/g00895/laws.FnExactVarsOf", spec := "fnExactVarsOf", apart := false, narrowed := true }
def FnExactVarsOfUptoSaid : Prop := fnExactVarsOfUptoRow.holds Try.pinned (OpenSpec.upto fnExactVarsOfSpec)

/-- 'laws.FnExactDeepestOf', WHERE WHAT IT READS IS OF BULK AT MOST 1048576: true; the input reads as it did. -/
def fnExactDeepestOfUptoRow : OpenClaim := { program := "ytkonnbkldjgomaa", sum := "5edbeea83cbb8ba8287a95ddb8d2a2c8f9c8b74cd8f972e68f945d07fff92b21", func := "loop.example/g00895/laws.FnExactDeepestOf", spec := "fnExactDeepestOf", apart := false, narrowed := true }
def FnExactDeepestOfUptoSaid : Prop := fnExactDeepestOfUptoRow.holds Try.pinned (OpenSpec.upto fnExactDeepestOfSpec)

/-- 'laws.FnExactPutAt', WHERE WHAT IT READS IS OF BULK AT MOST 1048576: true; the input reads as it did. -/
def fnExactPutAtUptoRow : OpenClaim := { program := "ytkonnbkldjgomaa", sum := "5edbeea83cbb8ba8287a95ddb8d2a2c8f9c8b74cd8f972e68f945d07fff92b21", func := "loop.example/g00895/laws.FnExactPutAt", spec := "fnExactPutAt", apart := false, narrowed := true }
def FnExactPutAtUptoSaid : Prop := fnExactPutAtUptoRow.holds Try.pinned (OpenSpec.upto fnExactPutAtSpec)

/-- 'laws.FnExactPathOf', WHERE WHAT IT READS IS OF BULK AT MOST 1048576: true; the input reads as it did. -/
def fnExactPathOfUptoRow : OpenClaim := { program := "ytkonnbkldjgomaa", sum := "5edbeea83cbb8ba8287a95ddb8d2a2c8f9c8b74cd8f972e68f945d07fff92b21", func := "loop.example/g00895/laws.FnExactPathOf", spec := "fnExactPathOf", apart := false, narrowed := true }
def FnExactPathOfUptoSaid : Prop := fnExactPathOfUptoRow.holds Try.pinned (OpenSpec.upto fnExactPathOfSpec)

/-- 'laws.FnExactVariantIn', WHERE WHAT IT READS IS OF BULK AT MOST 1048576: true; the input reads as it did. -/
def fnExactVariantInUptoRow : OpenClaim := { program := "ytkonnbkldjgomaa", sum := "5edbeea83cbb8ba8287a95ddb8d2a2c8f9c8b74cd8f972e68f945d07fff92b21", func := "loop.example/g00895/laws.FnExactVariantIn", spec := "fnExactVariantIn", apart := false, narrowed := true }
def FnExactVariantInUptoSaid : Prop := fnExactVariantInUptoRow.holds Try.pinned (OpenSpec.upto fnExactVariantInSpec)

/-- 'laws.FnExactRenamed', WHERE WHAT IT READS IS OF BULK AT MOST 1048576: true; the input reads as it did. -/
def fnExactRenamedUptoRow : OpenClaim := { program := "ytkonnbkldjgomaa", sum := "5edbeea83cbb8ba8287a95ddb8d2a2c8f9c8b74cd8f972e68f945d07fff92b21", func := "loop.example/g00895/laws.FnExactRenamed", spec := "fnExactRenamed", apart := false, narrowed := true }
def FnExactRenamedUptoSaid : Prop := fnExactRenamedUptoRow.holds Try.pinned (OpenSpec.upto fnExactRenamedSpec)

/-- 'laws.FnExactSystemOk', WHERE WHAT IT READS IS OF BULK AT MOST 1048576: true; the input reads as it did. -/
def fnExactSystemOkUptoRow : OpenClaim := { program := "ytkonnbkldjgomaa", sum := "5edbeea83cbb8ba8287a95ddb8d2a2c8f9c8b74cd8f972e68f945d07fff92b21", func := "loop.example/g00895/laws.FnExactSystemOk", spec := "fnExactSystemOk", apart := false, narrowed := true }
def FnExactSystemOkUptoSaid : Prop := fnExactSystemOkUptoRow.holds Try.pinned (OpenSpec.upto fnExactSystemOkSpec)

/-- 'laws.FnExactSameSubst', WHERE WHAT IT READS IS OF BULK AT MOST 1048576: true; the input reads as it did. -/
def fnExactSameSubstUptoRow : OpenClaim := { program := "ytkonnbkldjgomaa", sum := "5edbeea83cbb8ba8287a95ddb8d2a2c8f9c8b74cd8f972e68f945d07fff92b21", func := "loop.example/g00895/laws.FnExactSameSubst", spec := "fnExactSameSubst", unfollowed := true, recurses := true, apart := false, narrowed := true }
def FnExactSameSubstUptoSaid : Prop := fnExactSameSubstUptoRow.holds Try.pinned (OpenSpec.upto fnExactSameSubstSpec)

/-- 'laws.FnExactFilled', WHERE WHAT IT READS IS OF BULK AT MOST 1048576: true; the input reads as it did. -/
def fnExactFilledUptoRow : OpenClaim := { program := "ytkonnbkldjgomaa", sum := "5edbeea83cbb8ba8287a95ddb8d2a2c8f9c8b74cd8f972e68f945d07fff92b21", func := "loop.example/g00895/laws.FnExactFilled", spec := "fnExactFilled", unfollowed := true, recurses := true, apart := false, narrowed := true }
def FnExactFilledUptoSaid : Prop := fnExactFilledUptoRow.holds Try.pinned (OpenSpec.upto fnExactFilledSpec)

/-- 'laws.FnExactCollapsingIn', WHERE WHAT IT READS IS OF BULK AT MOST 1048576: true; the input reads as it did. -/
def fnExactCollapsingInUptoRow : OpenClaim := { program := "ytkonnbkldjgomaa", sum := "5edbeea83cbb8ba8287a95ddb8d2a2c8f9c8b74cd8f972e68f945d07fff92b21", func := "loop.example/g00895/laws.FnExactCollapsingIn", spec := "fnExactCollapsingIn", unfollowed := true, recurses := true, apart := false, narrowed := true }
def FnExactCollapsingInUptoSaid : Prop := fnExactCollapsingInUptoRow.holds Try.pinned (OpenSpec.upto fnExactCollapsingInSpec)

/-- 'laws.FnExactRenamedRule', WHERE WHAT IT READS IS OF BULK AT MOST 1048576: true; the input reads as it did. -/
def fnExactRenamedRuleUptoRow : OpenClaim := { program := "ytkonnbkldjgomaa", sum := "5edbeea83cbb8ba8287a95ddb8d2a2c8f9c8b74cd8f972e68f945d07fff92b21", func := "loop.example/g00895/laws.FnExactRenamedRule", spec := "fnExactRenamedRule", apart := false, narrowed := true }
def FnExactRenamedRuleUptoSaid : Prop := fnExactRenamedRuleUptoRow.holds Try.pinned (OpenSpec.upto fnExactRenamedRuleSpec)

/-- 'laws.FnExactPlainOf', WHERE WHAT IT READS IS OF BULK AT MOST 1048576: true; the input reads as it did. -/
def fnExactPlainOfUptoRow : OpenClaim := { program := "ytkonnbkldjgomaa", sum := "5edbeea83cbb8ba8287a95ddb8d2a2c8f9c8b74cd8f972e68f945d07fff92b21", func := "loop.example/g00895/laws.FnExactPlainOf", spec := "fnExactPlainOf", apart := false, narrowed := true }
def FnExactPlainOfUptoSaid : Prop := fnExactPlainOfUptoRow.holds Try.pinned (OpenSpec.upto fnExactPlainOfSpec)

end Rows
end Go.Proofs.Ytkonnbkldjgomaa
