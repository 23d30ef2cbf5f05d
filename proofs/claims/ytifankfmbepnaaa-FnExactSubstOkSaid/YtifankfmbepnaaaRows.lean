/-
  No cell of these rows narrows 'for every input' (looked for: loops, veiled, ifaces, maps, wideKeys, modest, calm, conditions, laid).
  DERIVED. THE GIVEN ROWS OF THIS SEAT. 12 by the template 'for every input the law returns true; each argument reads behind the call as it read before'; 0 by the template 'total and deterministic' (their statements: YtifankfmbepnaaaTotals.lean).
  GIVEN WITH THE SEED: the statements are not yours to turn. If you find one false, say at which input.
  Laid BY PROGRAM, IN A SANDBOX (cutbox-rows.mjs): the forced cells as the released guide's own fill.sh prints them over the translation 3596dc667e3ddb47… (all of the seat's roots in one cut). By AI agents, Wed Nov 11 2026. No macro, syntax, notation, axiom, sorry.
-/
import Derived.Test.YtifankfmbepnaaaChecked
import GoSem.Claim
import GoSem.ClaimJoined
import GoSem.ClaimMapViews
import Derived.JoinedTies
import Derived.KernelRfl
namespace Go.Proofs.Ytifankfmbepnaaa
/- THE CELL 'sum', in the pinned program and in every row, IS THE sha256 OF THE DUMP (.gsa) THAT YtifankfmbepnaaaProg.lean LOADS. Nothing in Lean hashes anything: it is a label: what it is worth is what the hold of that sum in a sandbox is worth. -/
noncomputable def Try.pinned : Pinned := { name := "ytifankfmbepnaaa", sum := "3596dc667e3ddb474d84b67977abc0e6049b996c6710b7f99a2e0b320dbb9140", checked := Try.checked }
namespace Rows
def none {H : Type} : Left H := { results := [], args := [] }

/-- 'laws.FnExactCountOf': WHATEVER THE INPUT: true; the input reads as it did. -/
def fnExactCountOfSpec : ChangeSpec := { name := "fnExactCountOf", fn := fun _ => fun
  | [d1, d2, d3] => { results := [.lit (.bool true)], args := [d1, d2, d3] }
  | _ => none }
def fnExactCountOfRow : OpenClaim := { program := "ytifankfmbepnaaa", sum := "3596dc667e3ddb474d84b67977abc0e6049b996c6710b7f99a2e0b320dbb9140", func := "loop.example/g00895/laws.FnExactCountOf", spec := "fnExactCountOf", apart := false }
def FnExactCountOfSaid : Prop := fnExactCountOfRow.holds Try.pinned (OpenSpec.ofChange fnExactCountOfSpec)

/-- ITS FALSE NEIGHBOUR: 'it returns false'. Refute it at one input. -/
def fnExactCountOfWrong : ChangeSpec := { name := "fnExactCountOf", fn := fun _ => fun
  | [d1, d2, d3] => { results := [.lit (.bool false)], args := [d1, d2, d3] }
  | _ => none }
def FnExactCountOfWrongFalsely : Prop := fnExactCountOfRow.holds Try.pinned (OpenSpec.ofChange fnExactCountOfWrong)

/-- 'laws.FnExactLinearIn': WHATEVER THE INPUT: true; the input reads as it did. -/
def fnExactLinearInSpec : ChangeSpec := { name := "fnExactLinearIn", fn := fun _ => fun
  | [d1, d2] => { results := [.lit (.bool true)], args := [d1, d2] }
  | _ => none }
def fnExactLinearInRow : OpenClaim := { program := "ytifankfmbepnaaa", sum := "3596dc667e3ddb474d84b67977abc0e6049b996c6710b7f99a2e0b320dbb9140", func := "loop.example/g00895/laws.FnExactLinearIn", spec := "fnExactLinearIn", apart := false }
def FnExactLinearInSaid : Prop := fnExactLinearInRow.holds Try.pinned (OpenSpec.ofChange fnExactLinearInSpec)

/-- ITS FALSE NEIGHBOUR: 'it returns false'. Refute it at one input. -/
def fnExactLinearInWrong : ChangeSpec := { name := "fnExactLinearIn", fn := fun _ => fun
  | [d1, d2] => { results := [.lit (.bool false)], args := [d1, d2] }
  | _ => none }
def FnExactLinearInWrongFalsely : Prop := fnExactLinearInRow.holds Try.pinned (OpenSpec.ofChange fnExactLinearInWrong)

/-- 'laws.FnExactSymPlaces': WHATEVER THE INPUT: true; the input reads as it did. -/
def fnExactSymPlacesSpec : ChangeSpec := { name := "fnExactSymPlaces", fn := fun _ => fun
  | [d1, d2] => { results := [.lit (.bool true)], args := [d1, d2] }
  | _ => none }
def fnExactSymPlacesRow : OpenClaim := { program := "ytifankfmbepnaaa", sum := "3596dc667e3ddb474d84b67977abc0e6049b996c6710b7f99a2e0b320dbb9140", func := "loop.example/g00895/laws.FnExactSymPlaces", spec := "fnExactSymPlaces", apart := false }
def FnExactSymPlacesSaid : Prop := fnExactSymPlacesRow.holds Try.pinned (OpenSpec.ofChange fnExactSymPlacesSpec)

/-- ITS FALSE NEIGHBOUR: 'it returns false'. Refute it at one input. -/
def fnExactSymPlacesWrong : ChangeSpec := { name := "fnExactSymPlaces", fn := fun _ => fun
  | [d1, d2] => { results := [.lit (.bool false)], args := [d1, d2] }
  | _ => none }
def FnExactSymPlacesWrongFalsely : Prop := fnExactSymPlacesRow.holds Try.pinned (OpenSpec.ofChange fnExactSymPlacesWrong)

/-- 'laws.FnExactGroundIn': WHATEVER THE INPUT: true; the input reads as it did. -/
def fnExactGroundInSpec : ChangeSpec := { name := "fnExactGroundIn", fn := fun _ => fun
  | [d1, d2] => { results := [.lit (.bool true)], args := [d1, d2] }
  | _ => none }
def fnExactGroundInRow : OpenClaim := { program := "ytifankfmbepnaaa", sum := "3596dc667e3ddb474d84b67977abc0e6049b996c6710b7f99a2e0b320dbb9140", func := "loop.example/g00895/laws.FnExactGroundIn", spec := "fnExactGroundIn", apart := false }
def FnExactGroundInSaid : Prop := fnExactGroundInRow.holds Try.pinned (OpenSpec.ofChange fnExactGroundInSpec)

/-- ITS FALSE NEIGHBOUR: 'it returns false'. Refute it at one input. -/
def fnExactGroundInWrong : ChangeSpec := { name := "fnExactGroundIn", fn := fun _ => fun
  | [d1, d2] => { results := [.lit (.bool false)], args := [d1, d2] }
  | _ => none }
def FnExactGroundInWrongFalsely : Prop := fnExactGroundInRow.holds Try.pinned (OpenSpec.ofChange fnExactGroundInWrong)

/-- 'laws.FnExactPlaceOf': WHATEVER THE INPUT: true; the input reads as it did. -/
def fnExactPlaceOfSpec : ChangeSpec := { name := "fnExactPlaceOf", fn := fun _ => fun
  | [d1, d2, d3] => { results := [.lit (.bool true)], args := [d1, d2, d3] }
  | _ => none }
def fnExactPlaceOfRow : OpenClaim := { program := "ytifankfmbepnaaa", sum := "3596dc667e3ddb474d84b67977abc0e6049b996c6710b7f99a2e0b320dbb9140", func := "loop.example/g00895/laws.FnExactPlaceOf", spec := "fnExactPlaceOf", apart := false }
def FnExactPlaceOfSaid : Prop := fnExactPlaceOfRow.holds Try.pinned (OpenSpec.ofChange fnExactPlaceOfSpec)

/-- ITS FALSE NEIGHBOUR: 'it returns false'. Refute it at one input. -/
def fnExactPlaceOfWrong : ChangeSpec := { name := "fnExactPlaceOf", fn := fun _ => fun
  | [d1, d2, d3] => { results := [.lit (.bool false)], args := [d1, d2, d3] }
  | _ => none }
def FnExactPlaceOfWrongFalsely : Prop := fnExactPlaceOfRow.holds Try.pinned (OpenSpec.ofChange fnExactPlaceOfWrong)

/-- 'laws.FnExactSubAt': WHATEVER THE INPUT: true; the input reads as it did. -/
def fnExactSubAtSpec : ChangeSpec := { name := "fnExactSubAt", fn := fun _ => fun
  | [d1, d2, d3] => { results := [.lit (.bool true)], args := [d1, d2, d3] }
  | _ => none }
def fnExactSubAtRow : OpenClaim := { program := "ytifankfmbepnaaa", sum := "3596dc667e3ddb474d84b67977abc0e6049b996c6710b7f99a2e0b320dbb9140", func := "loop.example/g00895/laws.FnExactSubAt", spec := "fnExactSubAt", apart := false }
def FnExactSubAtSaid : Prop := fnExactSubAtRow.holds Try.pinned (OpenSpec.ofChange fnExactSubAtSpec)

/-- ITS FALSE NEIGHBOUR: 'it returns false'. Refute it at one input. -/
def fnExactSubAtWrong : ChangeSpec := { name := "fnExactSubAt", fn := fun _ => fun
  | [d1, d2, d3] => { results := [.lit (.bool false)], args := [d1, d2, d3] }
  | _ => none }
def FnExactSubAtWrongFalsely : Prop := fnExactSubAtRow.holds Try.pinned (OpenSpec.ofChange fnExactSubAtWrong)

/-- 'laws.FnExactDepthOf': WHATEVER THE INPUT: true; the input reads as it did. -/
def fnExactDepthOfSpec : ChangeSpec := { name := "fnExactDepthOf", fn := fun _ => fun
  | [d1, d2] => { results := [.lit (.bool true)], args := [d1, d2] }
  | _ => none }
def fnExactDepthOfRow : OpenClaim := { program := "ytifankfmbepnaaa", sum := "3596dc667e3ddb474d84b67977abc0e6049b996c6710b7f99a2e0b320dbb9140", func := "loop.example/g00895/laws.FnExactDepthOf", spec := "fnExactDepthOf", recurses := true, apart := false }
def FnExactDepthOfSaid : Prop := fnExactDepthOfRow.holds Try.pinned (OpenSpec.ofChange fnExactDepthOfSpec)

/-- ITS FALSE NEIGHBOUR: 'it returns false'. Refute it at one input. -/
def fnExactDepthOfWrong : ChangeSpec := { name := "fnExactDepthOf", fn := fun _ => fun
  | [d1, d2] => { results := [.lit (.bool false)], args := [d1, d2] }
  | _ => none }
def FnExactDepthOfWrongFalsely : Prop := fnExactDepthOfRow.holds Try.pinned (OpenSpec.ofChange fnExactDepthOfWrong)

/-- 'laws.FnExactAboveOf': WHATEVER THE INPUT: true; the input reads as it did. -/
def fnExactAboveOfSpec : ChangeSpec := { name := "fnExactAboveOf", fn := fun _ => fun
  | [d1, d2, d3] => { results := [.lit (.bool true)], args := [d1, d2, d3] }
  | _ => none }
def fnExactAboveOfRow : OpenClaim := { program := "ytifankfmbepnaaa", sum := "3596dc667e3ddb474d84b67977abc0e6049b996c6710b7f99a2e0b320dbb9140", func := "loop.example/g00895/laws.FnExactAboveOf", spec := "fnExactAboveOf", apart := false }
def FnExactAboveOfSaid : Prop := fnExactAboveOfRow.holds Try.pinned (OpenSpec.ofChange fnExactAboveOfSpec)

/-- ITS FALSE NEIGHBOUR: 'it returns false'. Refute it at one input. -/
def fnExactAboveOfWrong : ChangeSpec := { name := "fnExactAboveOf", fn := fun _ => fun
  | [d1, d2, d3] => { results := [.lit (.bool false)], args := [d1, d2, d3] }
  | _ => none }
def FnExactAboveOfWrongFalsely : Prop := fnExactAboveOfRow.holds Try.pinned (OpenSpec.ofChange fnExactAboveOfWrong)

/-- 'laws.FnExactArgsAt': WHATEVER THE INPUT: true; the input reads as it did. -/
def fnExactArgsAtSpec : ChangeSpec := { name := "fnExactArgsAt", fn := fun _ => fun
  | [d1, d2, d3] => { results := [.lit (.bool true)], args := [d1, d2, d3] }
  | _ => none }
def fnExactArgsAtRow : OpenClaim := { program := "ytifankfmbepnaaa", sum := "3596dc667e3ddb474d84b67977abc0e6049b996c6710b7f99a2e0b320dbb9140", func := "loop.example/g00895/laws.FnExactArgsAt", spec := "fnExactArgsAt", apart := false }
def FnExactArgsAtSaid : Prop := fnExactArgsAtRow.holds Try.pinned (OpenSpec.ofChange fnExactArgsAtSpec)

/-- ITS FALSE NEIGHBOUR: 'it returns false'. Refute it at one input. -/
def fnExactArgsAtWrong : ChangeSpec := { name := "fnExactArgsAt", fn := fun _ => fun
  | [d1, d2, d3] => { results := [.lit (.bool false)], args := [d1, d2, d3] }
  | _ => none }
def FnExactArgsAtWrongFalsely : Prop := fnExactArgsAtRow.holds Try.pinned (OpenSpec.ofChange fnExactArgsAtWrong)

/-- 'laws.FnExactShifted': WHATEVER THE INPUT: true; the input reads as it did. -/
def fnExactShiftedSpec : ChangeSpec := { name := "fnExactShifted", fn := fun _ => fun
  | [d1, d2, d3] => { results := [.lit (.bool true)], args := [d1, d2, d3] }
  | _ => none }
def fnExactShiftedRow : OpenClaim := { program := "ytifankfmbepnaaa", sum := "3596dc667e3ddb474d84b67977abc0e6049b996c6710b7f99a2e0b320dbb9140", func := "loop.example/g00895/laws.FnExactShifted", spec := "fnExactShifted", apart := false }
def FnExactShiftedSaid : Prop := fnExactShiftedRow.holds Try.pinned (OpenSpec.ofChange fnExactShiftedSpec)

/-- ITS FALSE NEIGHBOUR: 'it returns false'. Refute it at one input. -/
def fnExactShiftedWrong : ChangeSpec := { name := "fnExactShifted", fn := fun _ => fun
  | [d1, d2, d3] => { results := [.lit (.bool false)], args := [d1, d2, d3] }
  | _ => none }
def FnExactShiftedWrongFalsely : Prop := fnExactShiftedRow.holds Try.pinned (OpenSpec.ofChange fnExactShiftedWrong)

/-- 'laws.FnExactRuleOk': WHATEVER THE INPUT: true; the input reads as it did. -/
def fnExactRuleOkSpec : ChangeSpec := { name := "fnExactRuleOk", fn := fun _ => fun
  | [d1, d2] => { results := [.lit (.bool true)], args := [d1, d2] }
  | _ => none }
def fnExactRuleOkRow : OpenClaim := { program := "ytifankfmbepnaaa", sum := "3596dc667e3ddb474d84b67977abc0e6049b996c6710b7f99a2e0b320dbb9140", func := "loop.example/g00895/laws.FnExactRuleOk", spec := "fnExactRuleOk", apart := false }
def FnExactRuleOkSaid : Prop := fnExactRuleOkRow.holds Try.pinned (OpenSpec.ofChange fnExactRuleOkSpec)

/-- ITS FALSE NEIGHBOUR: 'it returns false'. Refute it at one input. -/
def fnExactRuleOkWrong : ChangeSpec := { name := "fnExactRuleOk", fn := fun _ => fun
  | [d1, d2] => { results := [.lit (.bool false)], args := [d1, d2] }
  | _ => none }
def FnExactRuleOkWrongFalsely : Prop := fnExactRuleOkRow.holds Try.pinned (OpenSpec.ofChange fnExactRuleOkWrong)

/-- 'laws.FnExactSubstOk': WHATEVER THE INPUT: true; the input reads as it did. -/
def fnExactSubstOkSpec : ChangeSpec := { name := "fnExactSubstOk", fn := fun _ => fun
  | [d1, d2] => { results := [.lit (.bool true)], args := [d1, d2] }
  | _ => none }
def fnExactSubstOkRow : OpenClaim := { program := "ytifankfmbepnaaa", sum := "3596dc667e3ddb474d84b67977abc0e6049b996c6710b7f99a2e0b320dbb9140", func := "loop.example/g00895/laws.FnExactSubstOk", spec := "fnExactSubstOk", apart := false }
def FnExactSubstOkSaid : Prop := fnExactSubstOkRow.holds Try.pinned (OpenSpec.ofChange fnExactSubstOkSpec)

/-- ITS FALSE NEIGHBOUR: 'it returns false'. Refute it at one input. -/
def fnExactSubstOkWrong : ChangeSpec := { name := "fnExactSubstOk", fn := fun _ => fun
  | [d1, d2] => { results := [.lit (.bool false)], args := [d1, d2] }
  | _ => none }
def FnExactSubstOkWrongFalsely : Prop := fnExactSubstOkRow.holds Try.pinned (OpenSpec.ofChange fnExactSubstOkWrong)

/- THE SECOND FORM. 'bulk': how many values and letters a reading holds, each counted each time it is reached (what is shared counts as often as it is met; a slice's spare places count too). A statement '..UptoSaid' is the law's where the arguments, and the package variables that the reading takes, are together of bulk at most 1048576: NARROWER than '..Said'. Prove '..Said' where nothing that the law and all that it calls make is longer than what came in: it says more and counts as full. Else prove '..UptoSaid'. A law counts once. -/
mutual
def uptoBulk {H : Type} : DataW H → Nat
  | .lit (.string bytes) => bytes.length + 1
  | .lit _ => 1
  | .nil => 1
  | .ptr d => uptoBulk d + 1
  | .slice elems spare => uptoBulkAll elems + uptoBulkAll spare + 1
  | .agg parts => uptoBulkAll parts + 1
  | .iface _ d => uptoBulk d + 1
  | .map entries => uptoBulkEntries entries + 1
  | .held _ => 1
def uptoBulkAll {H : Type} : List (DataW H) → Nat
  | [] => 0
  | d :: r => uptoBulk d + uptoBulkAll r
def uptoBulkEntries {H : Type} : List (Lit × DataW H) → Nat
  | [] => 0
  | x :: r => uptoBulkEntry x + uptoBulkEntries r
def uptoBulkEntry {H : Type} : Lit × DataW H → Nat
  | (.string bytes, d) => bytes.length + uptoBulk d + 1
  | (_, d) => uptoBulk d + 1
 end
def uptoSmall : (H : Type) → List (DataW H) → Bool := fun _ ds => decide (uptoBulkAll ds ≤ 1048576)
def OpenSpec.upto (s : _root_.Go.ChangeSpec) : _root_.Go.OpenSpec := { _root_.Go.OpenSpec.ofChange s with cond := some uptoSmall }

/-- 'laws.FnExactCountOf', WHERE WHAT IT READS IS OF BULK AT MOST 1048576: true; the input reads as it did. -/
def fnExactCountOfUptoRow : OpenClaim := { program := "ytifankfmbepnaaa", sum := "3596dc667e3ddb474d84b67977abc0e6049b996c6710b7f99a2e0b320dbb9140", func := "loop.example/g00895/laws.FnExactCountOf", spec := "fnExactCountOf", apart := false, narrowed := true }
def FnExactCountOfUptoSaid : Prop := fnExactCountOfUptoRow.holds Try.pinned (OpenSpec.upto fnExactCountOfSpec)

/-- 'laws.FnExactLinearIn', WHERE WHAT IT READS IS OF BULK AT MOST 1048576: true; the input reads as it did. -/
def fnExactLinearInUptoRow : OpenClaim := { program := "ytifankfmbepnaaa", sum := "3596dc667e3ddb474d84b67977abc0e6049b996c6710b7f99a2e0b320dbb9140", func := "loop.example/g00895/laws.FnExactLinearIn", spec := "fnExactLinearIn", apart := false, narrowed := true }
def FnExactLinearInUptoSaid : Prop := fnExactLinearInUptoRow.holds Try.pinned (OpenSpec.upto fnExactLinearInSpec)

/-- 'laws.FnExactSymPlaces', WHERE WHAT IT READS IS OF BULK AT MOST 1048576: true; the input reads as it did. -/
def fnExactSymPlacesUptoRow : OpenClaim := { program := "ytifankfmbepnaaa", sum := "3596dc667e3ddb474d84b67977abc0e6049b996c6710b7f99a2e0b320dbb9140", func := "loop.example/g00895/laws.FnExactSymPlaces", spec := "fnExactSymPlaces", apart := false, narrowed := true }
def FnExactSymPlacesUptoSaid : Prop := fnExactSymPlacesUptoRow.holds Try.pinned (OpenSpec.upto fnExactSymPlacesSpec)

/-- 'laws.FnExactGroundIn', WHERE WHAT IT READS IS OF BULK AT MOST 1048576: true; the input reads as it did. -/
def fnExactGroundInUptoRow : OpenClaim := { program := "ytifankfmbepnaaa", sum := "3596dc667e3ddb474d84b67977abc0e6049b996c6710b7f99a2e0b320dbb9140", func := "loop.example/g00895/laws.FnExactGroundIn", spec := "fnExactGroundIn", apart := false, narrowed := true }
def FnExactGroundInUptoSaid : Prop := fnExactGroundInUptoRow.holds Try.pinned (OpenSpec.upto fnExactGroundInSpec)

/-- 'laws.FnExactPlaceOf', WHERE WHAT IT READS IS OF BULK AT MOST 1048576: true; the input reads as it did. -/
def fnExactPlaceOfUptoRow : OpenClaim := { program := "ytifankfmbepnaaa", sum := "3596dc667e3ddb474d84b67977abc0e6049b996c6710b7f99a2e0b320dbb9140", func := "loop.example/g00895/laws.FnExactPlaceOf", spec := "fnExactPlaceOf", apart := false, narrowed := true }
def FnExactPlaceOfUptoSaid : Prop := fnExactPlaceOfUptoRow.holds Try.pinned (OpenSpec.upto fnExactPlaceOfSpec)

/-- 'laws.FnExactSubAt', WHERE WHAT IT READS IS OF BULK AT MOST 1048576: true; the input reads as it did. -/
def fnExactSubAtUptoRow : OpenClaim := { program := "ytifankfmbepnaaa", sum := "3596dc667e3ddb474d84b67977abc0e6049b996c6710b7f99a2e0b320dbb9140", func := "loop.example/g00895/laws.FnExactSubAt", spec := "fnExactSubAt", apart := false, narrowed := true }
def FnExactSubAtUptoSaid : Prop := fnExactSubAtUptoRow.holds Try.pinned (OpenSpec.upto fnExactSubAtSpec)

/-- 'laws.FnExactDepthOf', WHERE WHAT IT READS IS OF BULK AT MOST 1048576: true; the input reads as it did. -/
def fnExactDepthOfUptoRow : OpenClaim := { program := "ytifankfmbepnaaa", sum := "3596dc667e3ddb474d84b67977abc0e6049b996c6710b7f99a2e0b320dbb9140", func := "loop.example/g00895/laws.FnExactDepthOf", spec := "fnExactDepthOf", recurses := true, apart := false, narrowed := true }
def FnExactDepthOfUptoSaid : Prop := fnExactDepthOfUptoRow.holds Try.pinned (OpenSpec.upto fnExactDepthOfSpec)

/-- 'laws.FnExactAboveOf', WHERE WHAT IT READS IS OF BULK AT MOST 1048576: true; the input reads as it did. -/
def fnExactAboveOfUptoRow : OpenClaim := { program := "ytifankfmbepnaaa", sum := "3596dc667e3ddb474d84b67977abc0e6049b996c6710b7f99a2e0b320dbb9140", func := "loop.example/g00895/laws.FnExactAboveOf", spec := "fnExactAboveOf", apart := false, narrowed := true }
def FnExactAboveOfUptoSaid : Prop := fnExactAboveOfUptoRow.holds Try.pinned (OpenSpec.upto fnExactAboveOfSpec)

/-- 'laws.FnExactArgsAt', WHERE WHAT IT READS IS OF BULK AT MOST 1048576: true; the input reads as it did. -/
def fnExactArgsAtUptoRow : OpenClaim := { program := "ytifankfmbepnaaa", sum := "3596dc667e3ddb474d84b67977abc0e6049b996c6710b7f99a2e0b320dbb9140", func := "loop.example/g00895/laws.FnExactArgsAt", spec := "fnExactArgsAt", apart := false, narrowed := true }
def FnExactArgsAtUptoSaid : Prop := fnExactArgsAtUptoRow.holds Try.pinned (OpenSpec.upto fnExactArgsAtSpec)

/-- 'laws.FnExactShifted', WHERE WHAT IT READS IS OF BULK AT MOST 1048576: true; the input reads as it did. -/
def fnExactShiftedUptoRow : OpenClaim := { program := "ytifankfmbepnaaa", sum := "3596dc667e3ddb474d84b67977abc0e6049b996c6710b7f99a2e0b320dbb9140", func := "loop.example/g00895/laws.FnExactShifted", spec := "fnExactShifted", apart := false, narrowed := true }
def FnExactShiftedUptoSaid : Prop := fnExactShiftedUptoRow.holds Try.pinned (OpenSpec.upto fnExactShiftedSpec)

/-- 'laws.FnExactRuleOk', WHERE WHAT IT READS IS OF BULK AT MOST 1048576: true; the input reads as it did. -/
def fnExactRuleOkUptoRow : OpenClaim := { program := "ytifankfmbepnaaa", sum := "3596dc667e3ddb474d84b67977abc0e6049b996c6710b7f99a2e0b320dbb9140", func := "loop.example/g00895/laws.FnExactRuleOk", spec := "fnExactRuleOk", apart := false, narrowed := true }
def FnExactRuleOkUptoSaid : Prop := fnExactRuleOkUptoRow.holds Try.pinned (OpenSpec.upto fnExactRuleOkSpec)

/-- 'laws.FnExactSubstOk', WHERE WHAT IT READS IS OF BULK AT MOST 1048576: true; the input reads as it did. -/
def fnExactSubstOkUptoRow : OpenClaim := { program := "ytifankfmbepnaaa", sum := "3596dc667e3ddb474d84b67977abc0e6049b996c6710b7f99a2e0b320dbb9140", func := "loop.example/g00895/laws.FnExactSubstOk", spec := "fnExactSubstOk", apart := false, narrowed := true }
def FnExactSubstOkUptoSaid : Prop := fnExactSubstOkUptoRow.holds Try.pinned (OpenSpec.upto fnExactSubstOkSpec)

end Rows
end Go.Proofs.Ytifankfmbepnaaa
