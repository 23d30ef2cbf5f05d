/-
  No cell of these rows narrows 'for every input' (looked for: loops, veiled, ifaces, maps, wideKeys, modest, calm, conditions, laid).
  DERIVED. THE GIVEN ROWS OF THIS SEAT. 12 by the template 'for every input the law returns true; each argument reads behind the call as it read before'; 0 by the template 'total and deterministic' (their statements: YtlleldidkchicaaTotals.lean).
  GIVEN WITH THE SEED: the statements are not yours to turn. If you find one false, say at which input.
  Laid BY PROGRAM, IN A SANDBOX (cutbox-rows.mjs): the forced cells as the released guide's own fill.sh prints them over the translation 24e79f177bea94b0… (all of the seat's roots in one cut). By AI agents, Wed Nov 11 2026. No macro, syntax, notation, axiom, sorry.
-/
import Derived.Test.YtlleldidkchicaaChecked
import GoSem.Claim
import GoSem.ClaimJoined
import GoSem.ClaimMapViews
import Derived.JoinedTies
import Derived.KernelRfl
namespace Go.Proofs.Ytlleldidkchicaa
/- THE CELL 'sum', in the pinned program and in every row, IS THE sha256 OF THE DUMP (.gsa) THAT YtlleldidkchicaaProg.lean LOADS. Nothing in Lean hashes anything: it is a label: what it is worth is what the hold of that sum in a sandbox is worth. -/
noncomputable def Try.pinned : Pinned := { name := "ytlleldidkchicaa", sum := "24e79f177bea94b0ce6171a49d0187f8cade7260b008ea2b29a7e5fdc8e7e186", checked := Try.checked }
namespace Rows
def none {H : Type} : Left H := { results := [], args := [] }

/-- 'laws.FnExactConstants': WHATEVER THE INPUT: true; the input reads as it did. -/
def fnExactConstantsSpec : ChangeSpec := { name := "fnExactConstants", fn := fun _ => fun
  | [] => { results := [.lit (.bool true)], args := [] }
  | _ => none }
def fnExactConstantsRow : OpenClaim := { program := "ytlleldidkchicaa", sum := "24e79f177bea94b0ce6171a49d0187f8cade7260b008ea2b29a7e5fdc8e7e186", func := "loop.example/g00895/laws.FnExactConstants", spec := "fnExactConstants", apart := false }
def FnExactConstantsSaid : Prop := fnExactConstantsRow.holds Try.pinned (OpenSpec.ofChange fnExactConstantsSpec)

/-- ITS FALSE NEIGHBOUR: 'it returns false'. Refute it at one input. -/
def fnExactConstantsWrong : ChangeSpec := { name := "fnExactConstants", fn := fun _ => fun
  | [] => { results := [.lit (.bool false)], args := [] }
  | _ => none }
def FnExactConstantsWrongFalsely : Prop := fnExactConstantsRow.holds Try.pinned (OpenSpec.ofChange fnExactConstantsWrong)

/-- 'laws.FnExactSameTerm': WHATEVER THE INPUT: true; the input reads as it did. -/
def fnExactSameTermSpec : ChangeSpec := { name := "fnExactSameTerm", fn := fun _ => fun
  | [d1, d2] => { results := [.lit (.bool true)], args := [d1, d2] }
  | _ => none }
def fnExactSameTermRow : OpenClaim := { program := "ytlleldidkchicaa", sum := "24e79f177bea94b0ce6171a49d0187f8cade7260b008ea2b29a7e5fdc8e7e186", func := "loop.example/g00895/laws.FnExactSameTerm", spec := "fnExactSameTerm", apart := false }
def FnExactSameTermSaid : Prop := fnExactSameTermRow.holds Try.pinned (OpenSpec.ofChange fnExactSameTermSpec)

/-- ITS FALSE NEIGHBOUR: 'it returns false'. Refute it at one input. -/
def fnExactSameTermWrong : ChangeSpec := { name := "fnExactSameTerm", fn := fun _ => fun
  | [d1, d2] => { results := [.lit (.bool false)], args := [d1, d2] }
  | _ => none }
def FnExactSameTermWrongFalsely : Prop := fnExactSameTermRow.holds Try.pinned (OpenSpec.ofChange fnExactSameTermWrong)

/-- 'laws.FnExactSigOk': WHATEVER THE INPUT: true; the input reads as it did. -/
def fnExactSigOkSpec : ChangeSpec := { name := "fnExactSigOk", fn := fun _ => fun
  | [d] => { results := [.lit (.bool true)], args := [d] }
  | _ => none }
def fnExactSigOkRow : OpenClaim := { program := "ytlleldidkchicaa", sum := "24e79f177bea94b0ce6171a49d0187f8cade7260b008ea2b29a7e5fdc8e7e186", func := "loop.example/g00895/laws.FnExactSigOk", spec := "fnExactSigOk", apart := false }
def FnExactSigOkSaid : Prop := fnExactSigOkRow.holds Try.pinned (OpenSpec.ofChange fnExactSigOkSpec)

/-- ITS FALSE NEIGHBOUR: 'it returns false'. Refute it at one input. -/
def fnExactSigOkWrong : ChangeSpec := { name := "fnExactSigOk", fn := fun _ => fun
  | [d] => { results := [.lit (.bool false)], args := [d] }
  | _ => none }
def FnExactSigOkWrongFalsely : Prop := fnExactSigOkRow.holds Try.pinned (OpenSpec.ofChange fnExactSigOkWrong)

/-- 'laws.FnExactLessTerm': WHATEVER THE INPUT: true; the input reads as it did. -/
def fnExactLessTermSpec : ChangeSpec := { name := "fnExactLessTerm", fn := fun _ => fun
  | [d1, d2] => { results := [.lit (.bool true)], args := [d1, d2] }
  | _ => none }
def fnExactLessTermRow : OpenClaim := { program := "ytlleldidkchicaa", sum := "24e79f177bea94b0ce6171a49d0187f8cade7260b008ea2b29a7e5fdc8e7e186", func := "loop.example/g00895/laws.FnExactLessTerm", spec := "fnExactLessTerm", apart := false }
def FnExactLessTermSaid : Prop := fnExactLessTermRow.holds Try.pinned (OpenSpec.ofChange fnExactLessTermSpec)

/-- ITS FALSE NEIGHBOUR: 'it returns false'. Refute it at one input. -/
def fnExactLessTermWrong : ChangeSpec := { name := "fnExactLessTerm", fn := fun _ => fun
  | [d1, d2] => { results := [.lit (.bool false)], args := [d1, d2] }
  | _ => none }
def FnExactLessTermWrongFalsely : Prop := fnExactLessTermRow.holds Try.pinned (OpenSpec.ofChange fnExactLessTermWrong)

/-- 'laws.FnExactTrivialPeak': WHATEVER THE INPUT: true; the input reads as it did. -/
def fnExactTrivialPeakSpec : ChangeSpec := { name := "fnExactTrivialPeak", fn := fun _ => fun
  | [d] => { results := [.lit (.bool true)], args := [d] }
  | _ => none }
def fnExactTrivialPeakRow : OpenClaim := { program := "ytlleldidkchicaa", sum := "24e79f177bea94b0ce6171a49d0187f8cade7260b008ea2b29a7e5fdc8e7e186", func := "loop.example/g00895/laws.FnExactTrivialPeak", spec := "fnExactTrivialPeak", apart := false }
def FnExactTrivialPeakSaid : Prop := fnExactTrivialPeakRow.holds Try.pinned (OpenSpec.ofChange fnExactTrivialPeakSpec)

/-- ITS FALSE NEIGHBOUR: 'it returns false'. Refute it at one input. -/
def fnExactTrivialPeakWrong : ChangeSpec := { name := "fnExactTrivialPeak", fn := fun _ => fun
  | [d] => { results := [.lit (.bool false)], args := [d] }
  | _ => none }
def FnExactTrivialPeakWrongFalsely : Prop := fnExactTrivialPeakRow.holds Try.pinned (OpenSpec.ofChange fnExactTrivialPeakWrong)

/-- 'laws.FnExactRankOk': WHATEVER THE INPUT: true; the input reads as it did. -/
def fnExactRankOkSpec : ChangeSpec := { name := "fnExactRankOk", fn := fun _ => fun
  | [d1, d2] => { results := [.lit (.bool true)], args := [d1, d2] }
  | _ => none }
def fnExactRankOkRow : OpenClaim := { program := "ytlleldidkchicaa", sum := "24e79f177bea94b0ce6171a49d0187f8cade7260b008ea2b29a7e5fdc8e7e186", func := "loop.example/g00895/laws.FnExactRankOk", spec := "fnExactRankOk", apart := false }
def FnExactRankOkSaid : Prop := fnExactRankOkRow.holds Try.pinned (OpenSpec.ofChange fnExactRankOkSpec)

/-- ITS FALSE NEIGHBOUR: 'it returns false'. Refute it at one input. -/
def fnExactRankOkWrong : ChangeSpec := { name := "fnExactRankOk", fn := fun _ => fun
  | [d1, d2] => { results := [.lit (.bool false)], args := [d1, d2] }
  | _ => none }
def FnExactRankOkWrongFalsely : Prop := fnExactRankOkRow.holds Try.pinned (OpenSpec.ofChange fnExactRankOkWrong)

/-- 'laws.FnExactSamePeak': WHATEVER THE INPUT: true; the input reads as it did. -/
def fnExactSamePeakSpec : ChangeSpec := { name := "fnExactSamePeak", fn := fun _ => fun
  | [d1, d2] => { results := [.lit (.bool true)], args := [d1, d2] }
  | _ => none }
def fnExactSamePeakRow : OpenClaim := { program := "ytlleldidkchicaa", sum := "24e79f177bea94b0ce6171a49d0187f8cade7260b008ea2b29a7e5fdc8e7e186", func := "loop.example/g00895/laws.FnExactSamePeak", spec := "fnExactSamePeak", unfollowed := true, recurses := true, apart := false }
def FnExactSamePeakSaid : Prop := fnExactSamePeakRow.holds Try.pinned (OpenSpec.ofChange fnExactSamePeakSpec)

/-- ITS FALSE NEIGHBOUR: 'it returns false'. Refute it at one input. -/
def fnExactSamePeakWrong : ChangeSpec := { name := "fnExactSamePeak", fn := fun _ => fun
  | [d1, d2] => { results := [.lit (.bool false)], args := [d1, d2] }
  | _ => none }
def FnExactSamePeakWrongFalsely : Prop := fnExactSamePeakRow.holds Try.pinned (OpenSpec.ofChange fnExactSamePeakWrong)

/-- 'laws.FnExactTermOk': WHATEVER THE INPUT: true; the input reads as it did. -/
def fnExactTermOkSpec : ChangeSpec := { name := "fnExactTermOk", fn := fun _ => fun
  | [d1, d2] => { results := [.lit (.bool true)], args := [d1, d2] }
  | _ => none }
def fnExactTermOkRow : OpenClaim := { program := "ytlleldidkchicaa", sum := "24e79f177bea94b0ce6171a49d0187f8cade7260b008ea2b29a7e5fdc8e7e186", func := "loop.example/g00895/laws.FnExactTermOk", spec := "fnExactTermOk", apart := false }
def FnExactTermOkSaid : Prop := fnExactTermOkRow.holds Try.pinned (OpenSpec.ofChange fnExactTermOkSpec)

/-- ITS FALSE NEIGHBOUR: 'it returns false'. Refute it at one input. -/
def fnExactTermOkWrong : ChangeSpec := { name := "fnExactTermOk", fn := fun _ => fun
  | [d1, d2] => { results := [.lit (.bool false)], args := [d1, d2] }
  | _ => none }
def FnExactTermOkWrongFalsely : Prop := fnExactTermOkRow.holds Try.pinned (OpenSpec.ofChange fnExactTermOkWrong)

/-- 'laws.FnExactEndOf': WHATEVER THE INPUT: true; the input reads as it did. -/
def fnExactEndOfSpec : ChangeSpec := { name := "fnExactEndOf", fn := fun _ => fun
  | [d1, d2, d3] => { results := [.lit (.bool true)], args := [d1, d2, d3] }
  | _ => none }
def fnExactEndOfRow : OpenClaim := { program := "ytlleldidkchicaa", sum := "24e79f177bea94b0ce6171a49d0187f8cade7260b008ea2b29a7e5fdc8e7e186", func := "loop.example/g00895/laws.FnExactEndOf", spec := "fnExactEndOf", apart := false }
def FnExactEndOfSaid : Prop := fnExactEndOfRow.holds Try.pinned (OpenSpec.ofChange fnExactEndOfSpec)

/-- ITS FALSE NEIGHBOUR: 'it returns false'. Refute it at one input. -/
def fnExactEndOfWrong : ChangeSpec := { name := "fnExactEndOf", fn := fun _ => fun
  | [d1, d2, d3] => { results := [.lit (.bool false)], args := [d1, d2, d3] }
  | _ => none }
def FnExactEndOfWrongFalsely : Prop := fnExactEndOfRow.holds Try.pinned (OpenSpec.ofChange fnExactEndOfWrong)

/-- 'laws.FnExactInsideIn': WHATEVER THE INPUT: true; the input reads as it did. -/
def fnExactInsideInSpec : ChangeSpec := { name := "fnExactInsideIn", fn := fun _ => fun
  | [d1, d2, d3, d4] => { results := [.lit (.bool true)], args := [d1, d2, d3, d4] }
  | _ => none }
def fnExactInsideInRow : OpenClaim := { program := "ytlleldidkchicaa", sum := "24e79f177bea94b0ce6171a49d0187f8cade7260b008ea2b29a7e5fdc8e7e186", func := "loop.example/g00895/laws.FnExactInsideIn", spec := "fnExactInsideIn", apart := false }
def FnExactInsideInSaid : Prop := fnExactInsideInRow.holds Try.pinned (OpenSpec.ofChange fnExactInsideInSpec)

/-- ITS FALSE NEIGHBOUR: 'it returns false'. Refute it at one input. -/
def fnExactInsideInWrong : ChangeSpec := { name := "fnExactInsideIn", fn := fun _ => fun
  | [d1, d2, d3, d4] => { results := [.lit (.bool false)], args := [d1, d2, d3, d4] }
  | _ => none }
def FnExactInsideInWrongFalsely : Prop := fnExactInsideInRow.holds Try.pinned (OpenSpec.ofChange fnExactInsideInWrong)

/-- 'laws.FnExactApartIn': WHATEVER THE INPUT: true; the input reads as it did. -/
def fnExactApartInSpec : ChangeSpec := { name := "fnExactApartIn", fn := fun _ => fun
  | [d1, d2, d3, d4] => { results := [.lit (.bool true)], args := [d1, d2, d3, d4] }
  | _ => none }
def fnExactApartInRow : OpenClaim := { program := "ytlleldidkchicaa", sum := "24e79f177bea94b0ce6171a49d0187f8cade7260b008ea2b29a7e5fdc8e7e186", func := "loop.example/g00895/laws.FnExactApartIn", spec := "fnExactApartIn", apart := false }
def FnExactApartInSaid : Prop := fnExactApartInRow.holds Try.pinned (OpenSpec.ofChange fnExactApartInSpec)

/-- ITS FALSE NEIGHBOUR: 'it returns false'. Refute it at one input. -/
def fnExactApartInWrong : ChangeSpec := { name := "fnExactApartIn", fn := fun _ => fun
  | [d1, d2, d3, d4] => { results := [.lit (.bool false)], args := [d1, d2, d3, d4] }
  | _ => none }
def FnExactApartInWrongFalsely : Prop := fnExactApartInRow.holds Try.pinned (OpenSpec.ofChange fnExactApartInWrong)

/-- 'laws.FnExactBehindOf': WHATEVER THE INPUT: true; the input reads as it did. -/
def fnExactBehindOfSpec : ChangeSpec := { name := "fnExactBehindOf", fn := fun _ => fun
  | [d1, d2] => { results := [.lit (.bool true)], args := [d1, d2] }
  | _ => none }
def fnExactBehindOfRow : OpenClaim := { program := "ytlleldidkchicaa", sum := "24e79f177bea94b0ce6171a49d0187f8cade7260b008ea2b29a7e5fdc8e7e186", func := "loop.example/g00895/laws.FnExactBehindOf", spec := "fnExactBehindOf", apart := false }
def FnExactBehindOfSaid : Prop := fnExactBehindOfRow.holds Try.pinned (OpenSpec.ofChange fnExactBehindOfSpec)

/-- ITS FALSE NEIGHBOUR: 'it returns false'. Refute it at one input. -/
def fnExactBehindOfWrong : ChangeSpec := { name := "fnExactBehindOf", fn := fun _ => fun
  | [d1, d2] => { results := [.lit (.bool false)], args := [d1, d2] }
  | _ => none }
def FnExactBehindOfWrongFalsely : Prop := fnExactBehindOfRow.holds Try.pinned (OpenSpec.ofChange fnExactBehindOfWrong)

/- THE SECOND FORM. 'bulk': how many values and letters a reading holds, each counted each time it is reached (what is shared counts as often as it is met; a slice's spare places count too). A statement '..UptoSaid' is the law's where the arguments, and the package variables that the reading takes, are together of bulk at most 1048576: NARROWER than '..Said'. Prove '..Said' where nothing that the law and all that it calls make is longer than what came in: it says more and counts as full. Else prove '..UptoSaid'. A law counts once. -/
mutual
def uptoBulk {H : Type} : DataW H → Nat
  | .lit (.string bytes) => bytes.length + 1
  | .lit _ => 1
  | .nil => 1
  | .ptr d => uptoBulk d + 1
  | .slice elems spare => uptoBulkAll elems + uptoBulkAll spare + 1
  | .agg parts => uptoBulkAll parts + 1
  | .iface _ d => uptoBulk d + 1
  | .map entries => uptoBulkEntries entries + 1
  | .held _ => 1
def uptoBulkAll {H : Type} : List (DataW H) → Nat
  | [] => 0
  | d :: r => uptoBulk d + uptoBulkAll r
def uptoBulkEntries {H : Type} : List (Lit × DataW H) → Nat
  | [] => 0
  | x :: r => uptoBulkEntry x + uptoBulkEntries r
def uptoBulkEntry {H : Type} : Lit × DataW H → Nat
  | (.string bytes, d) => bytes.length + uptoBulk d + 1
  | (_, d) => uptoBulk d + 1
 end
def uptoSmall : (H : Type) → List (DataW H) → Bool := fun _ ds => decide (uptoBulkAll ds ≤ 1048576)
def OpenSpec.upto (s : _root_.Go.ChangeSpec) : _root_.Go.OpenSpec := { _root_.Go.OpenSpec.ofChange s with cond := some uptoSmall }

/-- 'laws.FnExactConstants', WHERE WHAT IT READS IS OF BULK AT MOST 1048576: true; the input reads as it did. -/
def fnExactConstantsUptoRow : OpenClaim := { program := "ytlleldidkchicaa", sum := "24e79f177bea94b0ce6171a49d0187f8cade7260b008ea2b29a7e5fdc8e7e186", func := "loop.example/g00895/laws.FnExactConstants", spec := "fnExactConstants", apart := false, narrowed := true }
def FnExactConstantsUptoSaid : Prop := fnExactConstantsUptoRow.holds Try.pinned (OpenSpec.upto fnExactConstantsSpec)

/-- 'laws.FnExactSameTerm', WHERE WHAT IT READS IS OF BULK AT MOST 1048576: true; the input reads as it did. -/
def fnExactSameTermUptoRow : OpenClaim := { program := "ytlleldidkchicaa", sum := "24e79f177bea94b0ce6171a49d0187f8cade7260b008ea2b29a7e5fdc8e7e186", func := "loop.example/g00895/laws.FnExactSameTerm", spec := "fnExactSameTerm", apart := false, narrowed := true }
def FnExactSameTermUptoSaid : Prop := fnExactSameTermUptoRow.holds Try.pinned (OpenSpec.upto fnExactSameTermSpec)

/-- 'laws.FnExactSigOk', WHERE WHAT IT READS IS OF BULK AT MOST 1048576: true; the input reads as it did. -/
def fnExactSigOkUptoRow : OpenClaim := { program := "ytlleldidkchicaa", sum := "24e79f177bea94b0ce6171a49d0187f8cade7260b008ea2b29a7e5fdc8e7e186", func := "loop.example/g00895/laws.FnExactSigOk", spec := "fnExactSigOk", apart := false, narrowed := true }
def FnExactSigOkUptoSaid : Prop := fnExactSigOkUptoRow.holds Try.pinned (OpenSpec.upto fnExactSigOkSpec)

/-- 'laws.FnExactLessTerm', WHERE WHAT IT READS IS OF BULK AT MOST 1048576: true; the input reads as it did. -/
def fnExactLessTermUptoRow : OpenClaim := { program := "ytlleldidkchicaa", sum := "24e79f177bea94b0ce6171a49d0187f8cade7260b008ea2b29a7e5fdc8e7e186", func := "loop.example/g00895/laws.FnExactLessTerm", spec := "fnExactLessTerm", apart := false, narrowed := true }
def FnExactLessTermUptoSaid : Prop := fnExactLessTermUptoRow.holds Try.pinned (OpenSpec.upto fnExactLessTermSpec)

/-- 'laws.FnExactTrivialPeak', WHERE WHAT IT READS IS OF BULK AT MOST 1048576: true; the input reads as it did. -/
def fnExactTrivialPeakUptoRow : OpenClaim := { program := "ytlleldidkchicaa", sum := "24e79f177bea94b0ce6171a49d0187f8cade7260b008ea2b29a7e5fdc8e7e186", func := "loop.example/g00895/laws.FnExactTrivialPeak", spec := "fnExactTrivialPeak", apart := false, narrowed := true }
def FnExactTrivialPeakUptoSaid : Prop := fnExactTrivialPeakUptoRow.holds Try.pinned (OpenSpec.upto fnExactTrivialPeakSpec)

/-- 'laws.FnExactRankOk', WHERE WHAT IT READS IS OF BULK AT MOST 1048576: true; the input reads as it did. -/
def fnExactRankOkUptoRow : OpenClaim := { program := "ytlleldidkchicaa", sum := "24e79f177bea94b0ce6171a49d0187f8cade7260b008ea2b29a7e5fdc8e7e186", func := "loop.example/g00895/laws.FnExactRankOk", spec := "fnExactRankOk", apart := false, narrowed := true }
def FnExactRankOkUptoSaid : Prop := fnExactRankOkUptoRow.holds Try.pinned (OpenSpec.upto fnExactRankOkSpec)

/-- 'laws.FnExactSamePeak', WHERE WHAT IT READS IS OF BULK AT MOST 1048576: true; the input reads as it did. -/
def fnExactSamePeakUptoRow : OpenClaim := { program := "ytlleldidkchicaa", sum := "24e79f177bea94b0ce6171a49d0187f8cade7260b008ea2b29a7e5fdc8e7e186", func := "loop.example/g00895/laws.FnExactSamePeak", spec := "fnExactSamePeak", unfollowed := true, recurses := true, apart := false, narrowed := true }
def FnExactSamePeakUptoSaid : Prop := fnExactSamePeakUptoRow.holds Try.pinned (OpenSpec.upto fnExactSamePeakSpec)

/-- 'laws.FnExactTermOk', WHERE WHAT IT READS IS OF BULK AT MOST 1048576: true; the input reads as it did. -/
def fnExactTermOkUptoRow : OpenClaim := { program := "ytlleldidkchicaa", sum := "24e79f177bea94b0ce6171a49d0187f8cade7260b008ea2b29a7e5fdc8e7e186", func := "loop.example/g00895/laws.FnExactTermOk", spec := "fnExactTermOk", apart := false, narrowed := true }
def FnExactTermOkUptoSaid : Prop := fnExactTermOkUptoRow.holds Try.pinned (OpenSpec.upto fnExactTermOkSpec)

/-- 'laws.FnExactEndOf', WHERE WHAT IT READS IS OF BULK AT MOST 1048576: true; the input reads as it did. -/
def fnExactEndOfUptoRow : OpenClaim := { program := "ytlleldidkchicaa", sum := "24e79f177bea94b0ce6171a49d0187f8cade7260b008ea2b29a7e5fdc8e7e186", func := "loop.example/g00895/laws.FnExactEndOf", spec := "fnExactEndOf", apart := false, narrowed := true }
def FnExactEndOfUptoSaid : Prop := fnExactEndOfUptoRow.holds Try.pinned (OpenSpec.upto fnExactEndOfSpec)

/-- 'laws.FnExactInsideIn', WHERE WHAT IT READS IS OF BULK AT MOST 1048576: true; the input reads as it did. -/
def fnExactInsideInUptoRow : OpenClaim := { program := "ytlleldidkchicaa", sum := "24e79f177bea94b0ce6171a49d0187f8cade7260b008ea2b29a7e5fdc8e7e186", func := "loop.example/g00895/laws.FnExactInsideIn", spec := "fnExactInsideIn", apart := false, narrowed := true }
def FnExactInsideInUptoSaid : Prop := fnExactInsideInUptoRow.holds Try.pinned (OpenSpec.upto fnExactInsideInSpec)

/-- 'laws.FnExactApartIn', WHERE WHAT IT READS IS OF BULK AT MOST 1048576: true; the input reads as it did. -/
def fnExactApartInUptoRow : OpenClaim := { program := "ytlleldidkchicaa", sum := "24e79f177bea94b0ce6171a49d0187f8cade7260b008ea2b29a7e5fdc8e7e186", func := "loop.example/g00895/laws.FnExactApartIn", spec := "fnExactApartIn", apart := false, narrowed := true }
def FnExactApartInUptoSaid : Prop := fnExactApartInUptoRow.holds Try.pinned (OpenSpec.upto fnExactApartInSpec)

/-- 'laws.FnExactBehindOf', WHERE WHAT IT READS IS OF BULK AT MOST 1048576: true; the input reads as it did. -/
def fnExactBehindOfUptoRow : OpenClaim := { program := "ytlleldidkchicaa", sum := "24e79f177bea94b0ce6171a49d0187f8cade7260b008ea2b29a7e5fdc8e7e186", func := "loop.example/g00895/laws.FnExactBehindOf", spec := "fnExactBehindOf", apart := false, narrowed := true }
def FnExactBehindOfUptoSaid : Prop := fnExactBehindOfUptoRow.holds Try.pinned (OpenSpec.upto fnExactBehindOfSpec)

end Rows
end Go.Proofs.Ytlleldidkchicaa
