/-
  No cell of these rows narrows 'for every input' (looked for: loops, veiled, ifaces, maps, wideKeys, modest, calm, conditions, laid).
  DERIVED. THE GIVEN ROWS OF THIS SEAT. 5 by the template 'for every input the law returns true; each argument reads behind the call as it read before'; 0 by the template 'total and deterministic' (their statements: YtkmkopfkhpgagaaTotals.lean).
  GIVEN WITH THE SEED: the statements are not yours to turn. If you find one false, say at which input.
  Laid BY PROGRAM, IN A SANDBOX (cutbox-rows.mjs): the forced cells as the released guide's own fill.sh prints them over the translation 217ca5d4f9eaa1d0… (all of the seat's roots in one cut). By AI agents, Wed Nov 11 2026. No macro, syntax, notation, axiom, sorry.
-/
import Derived.Test.YtkmkopfkhpgagaaChecked
import GoSem.Claim
import GoSem.ClaimJoined
import GoSem.ClaimMapViews
import Derived.JoinedTies
import Derived.KernelRfl
namespace Go.Proofs.Ytkmkopfkhpgagaa
/- THE CELL 'sum', in the pinned program and in every row, IS THE sha256 OF THE DUMP (.gsa) THAT YtkmkopfkhpgagaaProg.lean LOADS. Nothing in Lean hashes anything: it is a label: what it is worth is what the hold of that sum in a sandbox is worth. -/
noncomputable def Try.pinned : Pinned := { name := "ytkmkopfkhpgagaa", sum := "217ca5d4f9eaa1d0dfc467eb5e1ebb0130b411e40d4c462fe1d5c0ef5f7e3088", checked := Try.checked }
namespace Rows
def none {H : Type} : Left H := { results := [], args := [] }

/-- 'laws.FnExactLeftLinearIn': WHATEVER THE INPUT: true; the input reads as it did. -/
def fnExactLeftLinearInSpec : ChangeSpec := { name := "fnExactLeftLinearIn", fn := fun _ => fun
  | [d] => { results := [.lit (.bool true)], args := [d] }
  | _ => none }
def fnExactLeftLinearInRow : OpenClaim := { program := "ytkmkopfkhpgagaa", sum := "217ca5d4f9eaa1d0dfc467eb5e1ebb0130b411e40d4c462fe1d5c0ef5f7e3088", func := "loop.example/g00895/laws.FnExactLeftLinearIn", spec := "fnExactLeftLinearIn", apart := false }
def FnExactLeftLinearInSaid : Prop := fnExactLeftLinearInRow.holds Try.pinned (OpenSpec.ofChange fnExactLeftLinearInSpec)

/-- ITS FALSE NEIGHBOUR: 'it returns false'. Refute it at one input. -/
def fnExactLeftLinearInWrong : ChangeSpec := { name := "fnExactLeftLinearIn", fn := fun _ => fun
  | [d] => { results := [.lit (.bool false)], args := [d] }
  | _ => none }
def FnExactLeftLinearInWrongFalsely : Prop := fnExactLeftLinearInRow.holds Try.pinned (OpenSpec.ofChange fnExactLeftLinearInWrong)

/-- 'laws.FnExactSameSystem': WHATEVER THE INPUT: true; the input reads as it did. -/
def fnExactSameSystemSpec : ChangeSpec := { name := "fnExactSameSystem", fn := fun _ => fun
  | [d1, d2] => { results := [.lit (.bool true)], args := [d1, d2] }
  | _ => none }
def fnExactSameSystemRow : OpenClaim := { program := "ytkmkopfkhpgagaa", sum := "217ca5d4f9eaa1d0dfc467eb5e1ebb0130b411e40d4c462fe1d5c0ef5f7e3088", func := "loop.example/g00895/laws.FnExactSameSystem", spec := "fnExactSameSystem", unfollowed := true, recurses := true, apart := false }
def FnExactSameSystemSaid : Prop := fnExactSameSystemRow.holds Try.pinned (OpenSpec.ofChange fnExactSameSystemSpec)

/-- ITS FALSE NEIGHBOUR: 'it returns false'. Refute it at one input. -/
def fnExactSameSystemWrong : ChangeSpec := { name := "fnExactSameSystem", fn := fun _ => fun
  | [d1, d2] => { results := [.lit (.bool false)], args := [d1, d2] }
  | _ => none }
def FnExactSameSystemWrongFalsely : Prop := fnExactSameSystemRow.holds Try.pinned (OpenSpec.ofChange fnExactSameSystemWrong)

/-- 'laws.FnExactDuplicatingIn': WHATEVER THE INPUT: true; the input reads as it did. -/
def fnExactDuplicatingInSpec : ChangeSpec := { name := "fnExactDuplicatingIn", fn := fun _ => fun
  | [d] => { results := [.lit (.bool true)], args := [d] }
  | _ => none }
def fnExactDuplicatingInRow : OpenClaim := { program := "ytkmkopfkhpgagaa", sum := "217ca5d4f9eaa1d0dfc467eb5e1ebb0130b411e40d4c462fe1d5c0ef5f7e3088", func := "loop.example/g00895/laws.FnExactDuplicatingIn", spec := "fnExactDuplicatingIn", unfollowed := true, recurses := true, apart := false }
def FnExactDuplicatingInSaid : Prop := fnExactDuplicatingInRow.holds Try.pinned (OpenSpec.ofChange fnExactDuplicatingInSpec)

/-- ITS FALSE NEIGHBOUR: 'it returns false'. Refute it at one input. -/
def fnExactDuplicatingInWrong : ChangeSpec := { name := "fnExactDuplicatingIn", fn := fun _ => fun
  | [d] => { results := [.lit (.bool false)], args := [d] }
  | _ => none }
def FnExactDuplicatingInWrongFalsely : Prop := fnExactDuplicatingInRow.holds Try.pinned (OpenSpec.ofChange fnExactDuplicatingInWrong)

/-- 'laws.FnExactConstructorSystem': WHATEVER THE INPUT: true; the input reads as it did. -/
def fnExactConstructorSystemSpec : ChangeSpec := { name := "fnExactConstructorSystem", fn := fun _ => fun
  | [d] => { results := [.lit (.bool true)], args := [d] }
  | _ => none }
def fnExactConstructorSystemRow : OpenClaim := { program := "ytkmkopfkhpgagaa", sum := "217ca5d4f9eaa1d0dfc467eb5e1ebb0130b411e40d4c462fe1d5c0ef5f7e3088", func := "loop.example/g00895/laws.FnExactConstructorSystem", spec := "fnExactConstructorSystem", unfollowed := true, recurses := true, apart := false }
def FnExactConstructorSystemSaid : Prop := fnExactConstructorSystemRow.holds Try.pinned (OpenSpec.ofChange fnExactConstructorSystemSpec)

/-- ITS FALSE NEIGHBOUR: 'it returns false'. Refute it at one input. -/
def fnExactConstructorSystemWrong : ChangeSpec := { name := "fnExactConstructorSystem", fn := fun _ => fun
  | [d] => { results := [.lit (.bool false)], args := [d] }
  | _ => none }
def FnExactConstructorSystemWrongFalsely : Prop := fnExactConstructorSystemRow.holds Try.pinned (OpenSpec.ofChange fnExactConstructorSystemWrong)

/-- 'laws.FnExactComposed': WHATEVER THE INPUT: true; the input reads as it did. -/
def fnExactComposedSpec : ChangeSpec := { name := "fnExactComposed", fn := fun _ => fun
  | [d1, d2, d3] => { results := [.lit (.bool true)], args := [d1, d2, d3] }
  | _ => none }
def fnExactComposedRow : OpenClaim := { program := "ytkmkopfkhpgagaa", sum := "217ca5d4f9eaa1d0dfc467eb5e1ebb0130b411e40d4c462fe1d5c0ef5f7e3088", func := "loop.example/g00895/laws.FnExactComposed", spec := "fnExactComposed", unfollowed := true, recurses := true, apart := false }
def FnExactComposedSaid : Prop := fnExactComposedRow.holds Try.pinned (OpenSpec.ofChange fnExactComposedSpec)

/-- ITS FALSE NEIGHBOUR: 'it returns false'. Refute it at one input. -/
def fnExactComposedWrong : ChangeSpec := { name := "fnExactComposed", fn := fun _ => fun
  | [d1, d2, d3] => { results := [.lit (.bool false)], args := [d1, d2, d3] }
  | _ => none }
def FnExactComposedWrongFalsely : Prop := fnExactComposedRow.holds Try.pinned (OpenSpec.ofChange fnExactComposedWrong)

/- THE SECOND FORM. 'bulk': how many values and letters a reading holds, each counted each time it is reached (what is shared counts as often as it is met; a slice's spare places count too). A statement '..UptoSaid' is the law's where the arguments, and the package variables that the reading takes, are together of bulk at most 1048576: NARROWER than '..Said'. Prove '..Said' where nothing that the law and all that it calls make is longer than what came in: it says more and counts as full. Else prove '..UptoSaid'. A law counts once. -/
mutual
def uptoBulk {H : Type} : DataW H → Nat
  | .lit (.string bytes) => bytes.length + 1
  | .lit _ => 1
  | .nil => 1
  | .ptr d => uptoBulk d + 1
  | .slice elems spare => uptoBulkAll elems + uptoBulkAll spare + 1
  | .agg parts => uptoBulkAll parts + 1
  | .iface _ d => uptoBulk d + 1
  | .map entries => uptoBulkEntries entries + 1
  | .held _ => 1
def uptoBulkAll {H : Type} : List (DataW H) → Nat
  | [] => 0
  | d :: r => uptoBulk d + uptoBulkAll r
def uptoBulkEntries {H : Type} : List (Lit × DataW H) → Nat
  | [] => 0
  | x :: r => uptoBulkEntry x + uptoBulkEntries r
def uptoBulkEntry {H : Type} : Lit × DataW H → Nat
  | (.string bytes, d) => bytes.length + uptoBulk d + 1
  | (_, d) => uptoBulk d + 1
 end
def uptoSmall : (H : Type) → List (DataW H) → Bool := fun _ ds => decide (uptoBulkAll ds ≤ 1048576)
def OpenSpec.upto (s : _root_.Go.ChangeSpec) : _root_.Go.OpenSpec := { _root_.Go.OpenSpec.ofChange s with cond := some uptoSmall }

/-- 'laws.FnExactLeftLinearIn', WHERE WHAT IT READS IS OF BULK AT MOST 1048576: true; the input reads as it did. -/
def fnExactLeftLinearInUptoRow : OpenClaim := { program := "ytkmkopfkhpgagaa", sum := "217ca5d4f9eaa1d0dfc467eb5e1ebb0130b411e40d4c462fe1d5c0ef5f7e3088", func := "loop.example/g00895/laws.FnExactLeftLinearIn", spec := "fnExactLeftLinearIn", apart := false, narrowed := true }
def FnExactLeftLinearInUptoSaid : Prop := fnExactLeftLinearInUptoRow.holds Try.pinned (OpenSpec.upto fnExactLeftLinearInSpec)

/-- 'laws.FnExactSameSystem', WHERE WHAT IT READS IS OF BULK AT MOST 1048576: true; the input reads as it did. -/
def fnExactSameSystemUptoRow : OpenClaim := { program := "ytkmkopfkhpgagaa", sum := "217ca5d4f9eaa1d0dfc467eb5e1ebb0130b411e40d4c462fe1d5c0ef5f7e3088", func := "loop.example/g00895/laws.FnExactSameSystem", spec := "fnExactSameSystem", unfollowed := true, recurses := true, apart := false, narrowed := true }
def FnExactSameSystemUptoSaid : Prop := fnExactSameSystemUptoRow.holds Try.pinned (OpenSpec.upto fnExactSameSystemSpec)

/-- 'laws.FnExactDuplicatingIn', WHERE WHAT IT READS IS OF BULK AT MOST 1048576: true; the input reads as it did. -/
def fnExactDuplicatingInUptoRow : OpenClaim := { program := "ytkmkopfkhpgagaa", sum := "217ca5d4f9eaa1d0dfc467eb5e1ebb0130b411e40d4c462fe1d5c0ef5f7e3088", func := "loop.example/g00895/laws.FnExactDuplicatingIn", spec := "fnExactDuplicatingIn", unfollowed := true, recurses := true, apart := false, narrowed := true }
def FnExactDuplicatingInUptoSaid : Prop := fnExactDuplicatingInUptoRow.holds Try.pinned (OpenSpec.upto fnExactDuplicatingInSpec)

/-- 'laws.FnExactConstructorSystem', WHERE WHAT IT READS IS OF BULK AT MOST 1048576: true; the input reads as it did. -/
def fnExactConstructorSystemUptoRow : OpenClaim := { program := "ytkmkopfkhpgagaa", sum := "217ca5d4f9eaa1d0dfc467eb5e1ebb0130b411e40d4c462fe1d5c0ef5f7e3088", func := "loop.example/g00895/laws.FnExactConstructorSystem", spec := "fnExactConstructorSystem", unfollowed := true, recurses := true, apart := false, narrowed := true }
def FnExactConstructorSystemUptoSaid : Prop := fnExactConstructorSystemUptoRow.holds Try.pinned (OpenSpec.upto fnExactConstructorSystemSpec)

/-- 'laws.FnExactComposed', WHERE WHAT IT READS IS OF BULK AT MOST 1048576: true; the input reads as it did. -/
def fnExactComposedUptoRow : OpenClaim := { program := "ytkmkopfkhpgagaa", sum := "217ca5d4f9eaa1d0dfc467eb5e1ebb0130b411e40d4c462fe1d5c0ef5f7e3088", func := "loop.example/g00895/laws.FnExactComposed", spec := "fnExactComposed", unfollowed := true, recurses := true, apart := false, narrowed := true }
def FnExactComposedUptoSaid : Prop := fnExactComposedUptoRow.holds Try.pinned (OpenSpec.upto fnExactComposedSpec)

end Rows
end Go.Proofs.Ytkmkopfkhpgagaa
