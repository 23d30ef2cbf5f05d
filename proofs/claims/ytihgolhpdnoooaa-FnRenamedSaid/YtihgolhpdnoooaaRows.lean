/-
  No cell of these rows narrows 'for every input' (looked for: loops, veiled, ifaces, maps, wideKeys, modest, calm, conditions, laid).
  DERIVED. THE GIVEN ROWS OF THIS SEAT. 8 by the template 'for every input the law returns true; each argument reads behind the call as it read before'; 0 by the template 'total and deterministic' (their statements: YtihgolhpdnoooaaTotals.lean).
  GIVEN WITH THE SEED: the statements are not yours to turn. If you find one false, say at which input.
  Laid BY PROGRAM, IN A SANDBOX (cutbox-rows.mjs): the forced cells as the released guide's own fill.sh prints them over the translation 542205a9526ae0d5… (all of the seat's roots in one cut). By AI agents, Wed Nov 11 2026. No macro, syntax, notation, axiom, sorry.
-/
import Derived.Test.YtihgolhpdnoooaaChecked
import GoSem.Claim
import GoSem.ClaimJoined
import GoSem.ClaimMapViews
import Derived.JoinedTies
import Derived.KernelRfl
namespace Go.Proofs.Ytihgolhpdnoooaa
/- THE CELL 'sum', in the pinned program and in every row, IS THE sha256 OF THE DUMP (.gsa) THAT YtihgolhpdnoooaaProg.lean LOADS. Nothing in Lean hashes anything: it is a label: what it is worth is what the hold of that sum in a sandbox is worth. -/
noncomputable def Try.pinned : Pinned := { name := "ytihgolhpdnoooaa", sum := "542205a9526ae0d521ccb54b1aa3d9d13f22e5b040e0f02072783f1510fd52fd", checked := Try.checked }
namespace Rows
def none {H : Type} : Left H := { results := [], args := [] }

/-- 'laws.FnTerms': WHATEVER THE INPUT: true; the input reads as it did. -/
def fnTermsSpec : ChangeSpec := { name := "fnTerms", fn := fun _ => fun
  | [d] => { results := [.lit (.bool true)], args := [d] }
  | _ => none }
def fnTermsRow : OpenClaim := { program := "ytihgolhpdnoooaa", sum := "542205a9526ae0d521ccb54b1aa3d9d13f22e5b040e0f02072783f1510fd52fd", func := "loop.example/g00895/laws.FnTerms", spec := "fnTerms", recurses := true, apart := false }
def FnTermsSaid : Prop := fnTermsRow.holds Try.pinned (OpenSpec.ofChange fnTermsSpec)

/-- ITS FALSE NEIGHBOUR: 'it returns false'. Refute it at one input. -/
def fnTermsWrong : ChangeSpec := { name := "fnTerms", fn := fun _ => fun
  | [d] => { results := [.lit (.bool false)], args := [d] }
  | _ => none }
def FnTermsWrongFalsely : Prop := fnTermsRow.holds Try.pinned (OpenSpec.ofChange fnTermsWrong)

/-- 'laws.FnLess': WHATEVER THE INPUT: true; the input reads as it did. -/
def fnLessSpec : ChangeSpec := { name := "fnLess", fn := fun _ => fun
  | [d] => { results := [.lit (.bool true)], args := [d] }
  | _ => none }
def fnLessRow : OpenClaim := { program := "ytihgolhpdnoooaa", sum := "542205a9526ae0d521ccb54b1aa3d9d13f22e5b040e0f02072783f1510fd52fd", func := "loop.example/g00895/laws.FnLess", spec := "fnLess", recurses := true, apart := false }
def FnLessSaid : Prop := fnLessRow.holds Try.pinned (OpenSpec.ofChange fnLessSpec)

/-- ITS FALSE NEIGHBOUR: 'it returns false'. Refute it at one input. -/
def fnLessWrong : ChangeSpec := { name := "fnLess", fn := fun _ => fun
  | [d] => { results := [.lit (.bool false)], args := [d] }
  | _ => none }
def FnLessWrongFalsely : Prop := fnLessRow.holds Try.pinned (OpenSpec.ofChange fnLessWrong)

/-- 'laws.FnPut': WHATEVER THE INPUT: true; the input reads as it did. -/
def fnPutSpec : ChangeSpec := { name := "fnPut", fn := fun _ => fun
  | [d] => { results := [.lit (.bool true)], args := [d] }
  | _ => none }
def fnPutRow : OpenClaim := { program := "ytihgolhpdnoooaa", sum := "542205a9526ae0d521ccb54b1aa3d9d13f22e5b040e0f02072783f1510fd52fd", func := "loop.example/g00895/laws.FnPut", spec := "fnPut", recurses := true, apart := false }
def FnPutSaid : Prop := fnPutRow.holds Try.pinned (OpenSpec.ofChange fnPutSpec)

/-- ITS FALSE NEIGHBOUR: 'it returns false'. Refute it at one input. -/
def fnPutWrong : ChangeSpec := { name := "fnPut", fn := fun _ => fun
  | [d] => { results := [.lit (.bool false)], args := [d] }
  | _ => none }
def FnPutWrongFalsely : Prop := fnPutRow.holds Try.pinned (OpenSpec.ofChange fnPutWrong)

/-- 'laws.FnPaths': WHATEVER THE INPUT: true; the input reads as it did. -/
def fnPathsSpec : ChangeSpec := { name := "fnPaths", fn := fun _ => fun
  | [d] => { results := [.lit (.bool true)], args := [d] }
  | _ => none }
def fnPathsRow : OpenClaim := { program := "ytihgolhpdnoooaa", sum := "542205a9526ae0d521ccb54b1aa3d9d13f22e5b040e0f02072783f1510fd52fd", func := "loop.example/g00895/laws.FnPaths", spec := "fnPaths", recurses := true, apart := false }
def FnPathsSaid : Prop := fnPathsRow.holds Try.pinned (OpenSpec.ofChange fnPathsSpec)

/-- ITS FALSE NEIGHBOUR: 'it returns false'. Refute it at one input. -/
def fnPathsWrong : ChangeSpec := { name := "fnPaths", fn := fun _ => fun
  | [d] => { results := [.lit (.bool false)], args := [d] }
  | _ => none }
def FnPathsWrongFalsely : Prop := fnPathsRow.holds Try.pinned (OpenSpec.ofChange fnPathsWrong)

/-- 'laws.FnPlain': WHATEVER THE INPUT: true; the input reads as it did. -/
def fnPlainSpec : ChangeSpec := { name := "fnPlain", fn := fun _ => fun
  | [d] => { results := [.lit (.bool true)], args := [d] }
  | _ => none }
def fnPlainRow : OpenClaim := { program := "ytihgolhpdnoooaa", sum := "542205a9526ae0d521ccb54b1aa3d9d13f22e5b040e0f02072783f1510fd52fd", func := "loop.example/g00895/laws.FnPlain", spec := "fnPlain", unfollowed := true, recurses := true, apart := false }
def FnPlainSaid : Prop := fnPlainRow.holds Try.pinned (OpenSpec.ofChange fnPlainSpec)

/-- ITS FALSE NEIGHBOUR: 'it returns false'. Refute it at one input. -/
def fnPlainWrong : ChangeSpec := { name := "fnPlain", fn := fun _ => fun
  | [d] => { results := [.lit (.bool false)], args := [d] }
  | _ => none }
def FnPlainWrongFalsely : Prop := fnPlainRow.holds Try.pinned (OpenSpec.ofChange fnPlainWrong)

/-- 'laws.FnFilled': WHATEVER THE INPUT: true; the input reads as it did. -/
def fnFilledSpec : ChangeSpec := { name := "fnFilled", fn := fun _ => fun
  | [d] => { results := [.lit (.bool true)], args := [d] }
  | _ => none }
def fnFilledRow : OpenClaim := { program := "ytihgolhpdnoooaa", sum := "542205a9526ae0d521ccb54b1aa3d9d13f22e5b040e0f02072783f1510fd52fd", func := "loop.example/g00895/laws.FnFilled", spec := "fnFilled", unfollowed := true, recurses := true, apart := false }
def FnFilledSaid : Prop := fnFilledRow.holds Try.pinned (OpenSpec.ofChange fnFilledSpec)

/-- ITS FALSE NEIGHBOUR: 'it returns false'. Refute it at one input. -/
def fnFilledWrong : ChangeSpec := { name := "fnFilled", fn := fun _ => fun
  | [d] => { results := [.lit (.bool false)], args := [d] }
  | _ => none }
def FnFilledWrongFalsely : Prop := fnFilledRow.holds Try.pinned (OpenSpec.ofChange fnFilledWrong)

/-- 'laws.FnRenamed': WHATEVER THE INPUT: true; the input reads as it did. -/
def fnRenamedSpec : ChangeSpec := { name := "fnRenamed", fn := fun _ => fun
  | [d] => { results := [.lit (.bool true)], args := [d] }
  | _ => none }
def fnRenamedRow : OpenClaim := { program := "ytihgolhpdnoooaa", sum := "542205a9526ae0d521ccb54b1aa3d9d13f22e5b040e0f02072783f1510fd52fd", func := "loop.example/g00895/laws.FnRenamed", spec := "fnRenamed", recurses := true, apart := false }
def FnRenamedSaid : Prop := fnRenamedRow.holds Try.pinned (OpenSpec.ofChange fnRenamedSpec)

/-- ITS FALSE NEIGHBOUR: 'it returns false'. Refute it at one input. -/
def fnRenamedWrong : ChangeSpec := { name := "fnRenamed", fn := fun _ => fun
  | [d] => { results := [.lit (.bool false)], args := [d] }
  | _ => none }
def FnRenamedWrongFalsely : Prop := fnRenamedRow.holds Try.pinned (OpenSpec.ofChange fnRenamedWrong)

/-- 'laws.FnForms': WHATEVER THE INPUT: true; the input reads as it did. -/
def fnFormsSpec : ChangeSpec := { name := "fnForms", fn := fun _ => fun
  | [d] => { results := [.lit (.bool true)], args := [d] }
  | _ => none }
def fnFormsRow : OpenClaim := { program := "ytihgolhpdnoooaa", sum := "542205a9526ae0d521ccb54b1aa3d9d13f22e5b040e0f02072783f1510fd52fd", func := "loop.example/g00895/laws.FnForms", spec := "fnForms", unfollowed := true, recurses := true, apart := false }
def FnFormsSaid : Prop := fnFormsRow.holds Try.pinned (OpenSpec.ofChange fnFormsSpec)

/-- ITS FALSE NEIGHBOUR: 'it returns false'. Refute it at one input. -/
def fnFormsWrong : ChangeSpec := { name := "fnForms", fn := fun _ => fun
  | [d] => { results := [.lit (.bool false)], args := [d] }
  | _ => none }
def FnFormsWrongFalsely : Prop := fnFormsRow.holds Try.pinned (OpenSpec.ofChange fnFormsWrong)

/- THE SECOND FORM. 'bulk': how many values and letters a reading holds, each counted each time it is reached (what is shared counts as often as it is met; a slice's spare places count too). A statement '..UptoSaid' is the law's where the arguments, and the package variables that the reading takes, are together of bulk at most 1048576: NARROWER than '..Said'. Prove '..Said' where nothing that the law and all that it calls make is longer than what came in: it says more and counts as full. Else prove '..UptoSaid'. A law counts once. -/
mutual
def uptoBulk {H : Type} : DataW H → Nat
  | .lit (.string bytes) => bytes.length + 1
  | .lit _ => 1
  | .nil => 1
  | .ptr d => uptoBulk d + 1
  | .slice elems spare => uptoBulkAll elems + uptoBulkAll spare + 1
  | .agg parts => uptoBulkAll parts + 1
  | .iface _ d => uptoBulk d + 1
  | .map entries => uptoBulkEntries entries + 1
  | .held _ => 1
def uptoBulkAll {H : Type} : List (DataW H) → Nat
  | [] => 0
  | d :: r => uptoBulk d + uptoBulkAll r
def uptoBulkEntries {H : Type} : List (Lit × DataW H) → Nat
  | [] => 0
  | x :: r => uptoBulkEntry x + uptoBulkEntries r
def uptoBulkEntry {H : Type} : Lit × DataW H → Nat
  | (.string bytes, d) => bytes.length + uptoBulk d + 1
  | (_, d) => uptoBulk d + 1
 end
def uptoSmall : (H : Type) → List (DataW H) → Bool := fun _ ds => decide (uptoBulkAll ds ≤ 1048576)
def OpenSpec.upto (s : _root_.Go.ChangeSpec) : _root_.Go.OpenSpec := { _root_.Go.OpenSpec.ofChange s with cond := some uptoSmall }

/-- 'laws.FnTerms', WHERE WHAT IT READS IS OF BULK AT MOST 1048576: true; the input reads as it did. -/
def fnTermsUptoRow : OpenClaim := { program := "ytihgolhpdnoooaa", sum := "542205a9526ae0d521ccb54b1aa3d9d13f22e5b040e0f02072783f1510fd52fd", func := "loop.example/g00895/laws.FnTerms", spec := "fnTerms", recurses := true, apart := false, narrowed := true }
def FnTermsUptoSaid : Prop := fnTermsUptoRow.holds Try.pinned (OpenSpec.upto fnTermsSpec)

/-- 'laws.FnLess', WHERE WHAT IT READS IS OF BULK AT MOST 1048576: true; the input reads as it did. -/
def fnLessUptoRow : OpenClaim := { program := "ytihgolhpdnoooaa", sum := "542205a9526ae0d521ccb54b1aa3d9d13f22e5b040e0f02072783f1510fd52fd", func := "loop.example/g00895/laws.FnLess", spec := "fnLess", recurses := true, apart := false, narrowed := true }
def FnLessUptoSaid : Prop := fnLessUptoRow.holds Try.pinned (OpenSpec.upto fnLessSpec)

/-- 'laws.FnPut', WHERE WHAT IT READS IS OF BULK AT MOST 1048576: true; the input reads as it did. -/
def fnPutUptoRow : OpenClaim := { program := "ytihgolhpdnoooaa", sum := "542205a9526ae0d521ccb54b1aa3d9d13f22e5b040e0f02072783f1510fd52fd", func := "loop.example/g00895/laws.FnPut", spec := "fnPut", recurses := true, apart := false, narrowed := true }
def FnPutUptoSaid : Prop := fnPutUptoRow.holds Try.pinned (OpenSpec.upto fnPutSpec)

/-- 'laws.FnPaths', WHERE WHAT IT READS IS OF BULK AT MOST 1048576: true; the input reads as it did. -/
def fnPathsUptoRow : OpenClaim := { program := "ytihgolhpdnoooaa", sum := "542205a9526ae0d521ccb54b1aa3d9d13f22e5b040e0f02072783f1510fd52fd", func := "loop.example/g00895/laws.FnPaths", spec := "fnPaths", recurses := true, apart := false, narrowed := true }
def FnPathsUptoSaid : Prop := fnPathsUptoRow.holds Try.pinned (OpenSpec.upto fnPathsSpec)

/-- 'laws.FnPlain', WHERE WHAT IT READS IS OF BULK AT MOST 1048576: true; the input reads as it did. -/
def fnPlainUptoRow : OpenClaim := { program := "ytihgolhpdnoooaa", sum := "542205a9526ae0d521ccb54b1aa3d9d13f22e5b040e0f02072783f1510fd52fd", func := "loop.example/g00895/laws.FnPlain", spec := "fnPlain", unfollowed := true, recurses := true, apart := false, narrowed := true }
def FnPlainUptoSaid : Prop := fnPlainUptoRow.holds Try.pinned (OpenSpec.upto fnPlainSpec)

/-- 'laws.FnFilled', WHERE WHAT IT READS IS OF BULK AT MOST 1048576: true; the input reads as it did. -/
def fnFilledUptoRow : OpenClaim := { program := "ytihgolhpdnoooaa", sum := "542205a9526ae0d521ccb54b1aa3d9d13f22e5b040e0f02072783f1510fd52fd", func := "loop.example/g00895/laws.FnFilled", spec := "fnFilled", unfollowed := true, recurses := true, apart := false, narrowed := true }
def FnFilledUptoSaid : Prop := fnFilledUptoRow.holds Try.pinned (OpenSpec.upto fnFilledSpec)

/-- 'laws.FnRenamed', WHERE WHAT IT READS IS OF BULK AT MOST 1048576: true; the input reads as it did. -/
def fnRenamedUptoRow : OpenClaim := { program := "ytihgolhpdnoooaa", sum := "542205a9526ae0d521ccb54b1aa3d9d13f22e5b040e0f02072783f1510fd52fd", func := "loop.example/g00895/laws.FnRenamed", spec := "fnRenamed", recurses := true, apart := false, narrowed := true }
def FnRenamedUptoSaid : Prop := fnRenamedUptoRow.holds Try.pinned (OpenSpec.upto fnRenamedSpec)

/-- 'laws.FnForms', WHERE WHAT IT READS IS OF BULK AT MOST 1048576: true; the input reads as it did. -/
def fnFormsUptoRow : OpenClaim := { program := "ytihgolhpdnoooaa", sum := "542205a9526ae0d521ccb54b1aa3d9d13f22e5b040e0f02072783f1510fd52fd", func := "loop.example/g00895/laws.FnForms", spec := "fnForms", unfollowed := true, recurses := true, apart := false, narrowed := true }
def FnFormsUptoSaid : Prop := fnFormsUptoRow.holds Try.pinned (OpenSpec.upto fnFormsSpec)

end Rows
end Go.Proofs.Ytihgolhpdnoooaa
