/-
  NARROWER THAN 'FOR EVERY INPUT', by the rows' own cells (each row's printed sentence says how): FnExactTextRule: laid · FnExactTextSig: laid · FnExactSigText: laid · FnExactTermText: laid · FnExactRuleText: laid · FnExactTextTerm: laid · FnExactSubstText: laid · FnTermTexts: laid.
  DERIVED. THE GIVEN ROWS OF THIS SEAT. 8 by the template 'for every input the law returns true; each argument reads behind the call as it read before'; 0 by the template 'total and deterministic' (their statements: YtlcchafcgidpeaaDoorTotals.lean).
  GIVEN WITH THE SEED: the statements are not yours to turn. If you find one false, say at which input.
  Laid BY PROGRAM, IN A SANDBOX (cutbox-rows.mjs): the forced cells as the released guide's own fill.sh prints them over the translation 859efa64a99c95be… (all of the seat's roots in one cut). By AI agents, Wed Nov 11 2026. No macro, syntax, notation, axiom, sorry.
-/
import Derived.Test.YtlcchafcgidpeaaDoorChecked
import GoSem.PinnedTables
import GoSem.Claim
import GoSem.ClaimJoined
import GoSem.ClaimMapViews
import Derived.JoinedTies
import Derived.KernelRfl
namespace Go.Proofs.YtlcchafcgidpeaaDoor
/- THE CELL 'sum', in the pinned program and in every row, IS THE sha256 OF THE DUMP (.gsa) THAT YtlcchafcgidpeaaDoorProg.lean LOADS. Nothing in Lean hashes anything: it is a label: what it is worth is what the hold of that sum in a sandbox is worth. -/
noncomputable def Tryd.pinned : Pinned := { name := "ytlcchafcgidpeaadoor", sum := "859efa64a99c95be013b5d571441c0dd57126efcdf6e3ee034225ccb96706eb2", checked := Tryd.checked }
namespace Rows
def none {H : Type} : Left H := { results := [], args := [] }

/- WHAT THE LISTED PACKAGE-LEVEL VARIABLES READ AS WHEN THE CALL BEGINS. Each datum BY PROGRAM (the guide's laid-datum.mjs) off the statement by which the dump's own 'gosem.cut.vars' lays the variable. In a bare row this is a premise. The card (YtlcchafcgidpeaaDoorCards.lean) ties it to the program's text. -/
def laid_math_bits_deBruijn32tab {H : Type} : DataW H := .agg [.lit (.int .u8 0), .lit (.int .u8 1), .lit (.int .u8 28), .lit (.int .u8 2), .lit (.int .u8 29), .lit (.int .u8 14), .lit (.int .u8 24), .lit (.int .u8 3), .lit (.int .u8 30), .lit (.int .u8 22), .lit (.int .u8 20), .lit (.int .u8 15), .lit (.int .u8 25), .lit (.int .u8 17), .lit (.int .u8 4), .lit (.int .u8 8), .lit (.int .u8 31), .lit (.int .u8 27), .lit (.int .u8 13), .lit (.int .u8 23), .lit (.int .u8 21), .lit (.int .u8 19), .lit (.int .u8 16), .lit (.int .u8 7), .lit (.int .u8 26), .lit (.int .u8 12), .lit (.int .u8 18), .lit (.int .u8 6), .lit (.int .u8 11), .lit (.int .u8 5), .lit (.int .u8 10), .lit (.int .u8 9)]
def laid_math_bits_deBruijn64tab {H : Type} : DataW H := .agg [.lit (.int .u8 0), .lit (.int .u8 1), .lit (.int .u8 56), .lit (.int .u8 2), .lit (.int .u8 57), .lit (.int .u8 49), .lit (.int .u8 28), .lit (.int .u8 3), .lit (.int .u8 61), .lit (.int .u8 58), .lit (.int .u8 42), .lit (.int .u8 50), .lit (.int .u8 38), .lit (.int .u8 29), .lit (.int .u8 17), .lit (.int .u8 4), .lit (.int .u8 62), .lit (.int .u8 47), .lit (.int .u8 59), .lit (.int .u8 36), .lit (.int .u8 45), .lit (.int .u8 43), .lit (.int .u8 51), .lit (.int .u8 22), .lit (.int .u8 53), .lit (.int .u8 39), .lit (.int .u8 33), .lit (.int .u8 30), .lit (.int .u8 24), .lit (.int .u8 18), .lit (.int .u8 12), .lit (.int .u8 5), .lit (.int .u8 63), .lit (.int .u8 55), .lit (.int .u8 48), .lit (.int .u8 27), .lit (.int .u8 60), .lit (.int .u8 41), .lit (.int .u8 37), .lit (.int .u8 16), .lit (.int .u8 46), .lit (.int .u8 35), .lit (.int .u8 44), .lit (.int .u8 21), .lit (.int .u8 52), .lit (.int .u8 32), .lit (.int .u8 23), .lit (.int .u8 11), .lit (.int .u8 54), .lit (.int .u8 26), .lit (.int .u8 40), .lit (.int .u8 15), .lit (.int .u8 34), .lit (.int .u8 20), .lit (.int .u8 31), .lit (.int .u8 10), .lit (.int .u8 25), .lit (.int .u8 14), .lit (.int .u8 19), .lit (.int .u8 9), .lit (.int .u8 13), .lit (.int .u8 8), .lit (.int .u8 7), .lit (.int .u8 6)]
def laid_internal_strconv_uint64pow10 {H : Type} : DataW H := .agg [.lit (.int .u64 1), .lit (.int .u64 10), .lit (.int .u64 100), .lit (.int .u64 1000), .lit (.int .u64 10000), .lit (.int .u64 100000), .lit (.int .u64 1000000), .lit (.int .u64 10000000), .lit (.int .u64 100000000), .lit (.int .u64 1000000000), .lit (.int .u64 10000000000), .lit (.int .u64 100000000000), .lit (.int .u64 1000000000000), .lit (.int .u64 10000000000000), .lit (.int .u64 100000000000000), .lit (.int .u64 1000000000000000), .lit (.int .u64 10000000000000000), .lit (.int .u64 100000000000000000), .lit (.int .u64 1000000000000000000), .lit (.int .u64 10000000000000000000)]
def laid_unicode_utf8_acceptRanges {H : Type} : DataW H := .agg [.agg [.lit (.int .u8 128), .lit (.int .u8 191)], .agg [.lit (.int .u8 160), .lit (.int .u8 191)], .agg [.lit (.int .u8 128), .lit (.int .u8 159)], .agg [.lit (.int .u8 144), .lit (.int .u8 191)], .agg [.lit (.int .u8 128), .lit (.int .u8 143)], .agg [.lit (.int .u8 0), .lit (.int .u8 0)], .agg [.lit (.int .u8 0), .lit (.int .u8 0)], .agg [.lit (.int .u8 0), .lit (.int .u8 0)], .agg [.lit (.int .u8 0), .lit (.int .u8 0)], .agg [.lit (.int .u8 0), .lit (.int .u8 0)], .agg [.lit (.int .u8 0), .lit (.int .u8 0)], .agg [.lit (.int .u8 0), .lit (.int .u8 0)], .agg [.lit (.int .u8 0), .lit (.int .u8 0)], .agg [.lit (.int .u8 0), .lit (.int .u8 0)], .agg [.lit (.int .u8 0), .lit (.int .u8 0)], .agg [.lit (.int .u8 0), .lit (.int .u8 0)]]
/-- One of Go's own tables, pinned by name: the form's constant. -/
def laid_unicode_utf8_first : DataW Unit := Go.Pinned.utf8First

/-- 'laws.FnExactTextRule': WHATEVER THE INPUT: true; the input reads as it did. -/
def fnExactTextRuleSpec : ChangeSpec := { name := "fnExactTextRule", fn := fun _ => fun
  | [d1, d2] => { results := [.lit (.bool true)], args := [d1, d2] }
  | _ => none }
def fnExactTextRuleRow : OpenClaim := { program := "ytlcchafcgidpeaadoor", sum := "859efa64a99c95be013b5d571441c0dd57126efcdf6e3ee034225ccb96706eb2", func := "loop.example/g00895/laws.FnExactTextRule", spec := "fnExactTextRule", inPlace := ["internal/bytealg.IndexByteString", "internal/bytealg.IndexString", "internal/abi.NoEscape"], recurses := true, named := ["internal/bytealg.MaxLen", "internal/strconv.uint64pow10", "math/bits.deBruijn32tab", "math/bits.deBruijn64tab"], apart := false, laid := [("math/bits.deBruijn32tab", laid_math_bits_deBruijn32tab), ("math/bits.deBruijn64tab", laid_math_bits_deBruijn64tab), ("internal/strconv.uint64pow10", laid_internal_strconv_uint64pow10)] }
def FnExactTextRuleSaid : Prop := fnExactTextRuleRow.holds Tryd.pinned (OpenSpec.ofChange fnExactTextRuleSpec)

/-- ITS FALSE NEIGHBOUR: 'it returns false'. Refute it at one input. -/
def fnExactTextRuleWrong : ChangeSpec := { name := "fnExactTextRule", fn := fun _ => fun
  | [d1, d2] => { results := [.lit (.bool false)], args := [d1, d2] }
  | _ => none }
def FnExactTextRuleWrongFalsely : Prop := fnExactTextRuleRow.holds Tryd.pinned (OpenSpec.ofChange fnExactTextRuleWrong)

/-- 'laws.FnExactTextSig': WHATEVER THE INPUT: true; the input reads as it did. -/
def fnExactTextSigSpec : ChangeSpec := { name := "fnExactTextSig", fn := fun _ => fun
  | [d] => { results := [.lit (.bool true)], args := [d] }
  | _ => none }
def fnExactTextSigRow : OpenClaim := { program := "ytlcchafcgidpeaadoor", sum := "859efa64a99c95be013b5d571441c0dd57126efcdf6e3ee034225ccb96706eb2", func := "loop.example/g00895/laws.FnExactTextSig", spec := "fnExactTextSig", inPlace := ["internal/bytealg.CountString", "internal/bytealg.IndexByteString", "internal/bytealg.IndexString"], named := ["unicode/utf8.first", "unicode/utf8.acceptRanges", "internal/bytealg.MaxLen"], apart := false, laid := [("unicode/utf8.acceptRanges", laid_unicode_utf8_acceptRanges), ("unicode/utf8.first", laid_unicode_utf8_first)] }
def FnExactTextSigSaid : Prop := fnExactTextSigRow.holds Tryd.pinned (OpenSpec.ofChange fnExactTextSigSpec)

/-- ITS FALSE NEIGHBOUR: 'it returns false'. Refute it at one input. -/
def fnExactTextSigWrong : ChangeSpec := { name := "fnExactTextSig", fn := fun _ => fun
  | [d] => { results := [.lit (.bool false)], args := [d] }
  | _ => none }
def FnExactTextSigWrongFalsely : Prop := fnExactTextSigRow.holds Tryd.pinned (OpenSpec.ofChange fnExactTextSigWrong)

/-- 'laws.FnExactSigText': WHATEVER THE INPUT: true; the input reads as it did. -/
def fnExactSigTextSpec : ChangeSpec := { name := "fnExactSigText", fn := fun _ => fun
  | [d] => { results := [.lit (.bool true)], args := [d] }
  | _ => none }
def fnExactSigTextRow : OpenClaim := { program := "ytlcchafcgidpeaadoor", sum := "859efa64a99c95be013b5d571441c0dd57126efcdf6e3ee034225ccb96706eb2", func := "loop.example/g00895/laws.FnExactSigText", spec := "fnExactSigText", inPlace := ["internal/abi.NoEscape", "internal/bytealg.MakeNoZero"], named := ["internal/strconv.uint64pow10", "math/bits.deBruijn32tab", "math/bits.deBruijn64tab"], apart := false, laid := [("math/bits.deBruijn32tab", laid_math_bits_deBruijn32tab), ("math/bits.deBruijn64tab", laid_math_bits_deBruijn64tab), ("internal/strconv.uint64pow10", laid_internal_strconv_uint64pow10)] }
def FnExactSigTextSaid : Prop := fnExactSigTextRow.holds Tryd.pinned (OpenSpec.ofChange fnExactSigTextSpec)

/-- ITS FALSE NEIGHBOUR: 'it returns false'. Refute it at one input. -/
def fnExactSigTextWrong : ChangeSpec := { name := "fnExactSigText", fn := fun _ => fun
  | [d] => { results := [.lit (.bool false)], args := [d] }
  | _ => none }
def FnExactSigTextWrongFalsely : Prop := fnExactSigTextRow.holds Tryd.pinned (OpenSpec.ofChange fnExactSigTextWrong)

/-- 'laws.FnExactTermText': WHATEVER THE INPUT: true; the input reads as it did. -/
def fnExactTermTextSpec : ChangeSpec := { name := "fnExactTermText", fn := fun _ => fun
  | [d1, d2] => { results := [.lit (.bool true)], args := [d1, d2] }
  | _ => none }
def fnExactTermTextRow : OpenClaim := { program := "ytlcchafcgidpeaadoor", sum := "859efa64a99c95be013b5d571441c0dd57126efcdf6e3ee034225ccb96706eb2", func := "loop.example/g00895/laws.FnExactTermText", spec := "fnExactTermText", inPlace := ["internal/abi.NoEscape"], recurses := true, named := ["internal/strconv.uint64pow10", "math/bits.deBruijn32tab", "math/bits.deBruijn64tab"], apart := false, laid := [("math/bits.deBruijn32tab", laid_math_bits_deBruijn32tab), ("math/bits.deBruijn64tab", laid_math_bits_deBruijn64tab), ("internal/strconv.uint64pow10", laid_internal_strconv_uint64pow10)] }
def FnExactTermTextSaid : Prop := fnExactTermTextRow.holds Tryd.pinned (OpenSpec.ofChange fnExactTermTextSpec)

/-- ITS FALSE NEIGHBOUR: 'it returns false'. Refute it at one input. -/
def fnExactTermTextWrong : ChangeSpec := { name := "fnExactTermText", fn := fun _ => fun
  | [d1, d2] => { results := [.lit (.bool false)], args := [d1, d2] }
  | _ => none }
def FnExactTermTextWrongFalsely : Prop := fnExactTermTextRow.holds Tryd.pinned (OpenSpec.ofChange fnExactTermTextWrong)

/-- 'laws.FnExactRuleText': WHATEVER THE INPUT: true; the input reads as it did. -/
def fnExactRuleTextSpec : ChangeSpec := { name := "fnExactRuleText", fn := fun _ => fun
  | [d1, d2] => { results := [.lit (.bool true)], args := [d1, d2] }
  | _ => none }
def fnExactRuleTextRow : OpenClaim := { program := "ytlcchafcgidpeaadoor", sum := "859efa64a99c95be013b5d571441c0dd57126efcdf6e3ee034225ccb96706eb2", func := "loop.example/g00895/laws.FnExactRuleText", spec := "fnExactRuleText", inPlace := ["internal/abi.NoEscape"], recurses := true, named := ["internal/strconv.uint64pow10", "math/bits.deBruijn32tab", "math/bits.deBruijn64tab"], apart := false, laid := [("math/bits.deBruijn32tab", laid_math_bits_deBruijn32tab), ("math/bits.deBruijn64tab", laid_math_bits_deBruijn64tab), ("internal/strconv.uint64pow10", laid_internal_strconv_uint64pow10)] }
def FnExactRuleTextSaid : Prop := fnExactRuleTextRow.holds Tryd.pinned (OpenSpec.ofChange fnExactRuleTextSpec)

/-- ITS FALSE NEIGHBOUR: 'it returns false'. Refute it at one input. -/
def fnExactRuleTextWrong : ChangeSpec := { name := "fnExactRuleText", fn := fun _ => fun
  | [d1, d2] => { results := [.lit (.bool false)], args := [d1, d2] }
  | _ => none }
def FnExactRuleTextWrongFalsely : Prop := fnExactRuleTextRow.holds Tryd.pinned (OpenSpec.ofChange fnExactRuleTextWrong)

/-- 'laws.FnExactTextTerm': WHATEVER THE INPUT: true; the input reads as it did. -/
def fnExactTextTermSpec : ChangeSpec := { name := "fnExactTextTerm", fn := fun _ => fun
  | [d1, d2] => { results := [.lit (.bool true)], args := [d1, d2] }
  | _ => none }
def fnExactTextTermRow : OpenClaim := { program := "ytlcchafcgidpeaadoor", sum := "859efa64a99c95be013b5d571441c0dd57126efcdf6e3ee034225ccb96706eb2", func := "loop.example/g00895/laws.FnExactTextTerm", spec := "fnExactTextTerm", inPlace := ["internal/abi.NoEscape"], recurses := true, named := ["internal/strconv.uint64pow10", "math/bits.deBruijn32tab", "math/bits.deBruijn64tab"], apart := false, laid := [("math/bits.deBruijn32tab", laid_math_bits_deBruijn32tab), ("math/bits.deBruijn64tab", laid_math_bits_deBruijn64tab), ("internal/strconv.uint64pow10", laid_internal_strconv_uint64pow10)] }
def FnExactTextTermSaid : Prop := fnExactTextTermRow.holds Tryd.pinned (OpenSpec.ofChange fnExactTextTermSpec)

/-- ITS FALSE NEIGHBOUR: 'it returns false'. Refute it at one input. -/
def fnExactTextTermWrong : ChangeSpec := { name := "fnExactTextTerm", fn := fun _ => fun
  | [d1, d2] => { results := [.lit (.bool false)], args := [d1, d2] }
  | _ => none }
def FnExactTextTermWrongFalsely : Prop := fnExactTextTermRow.holds Tryd.pinned (OpenSpec.ofChange fnExactTextTermWrong)

/-- 'laws.FnExactSubstText': WHATEVER THE INPUT: true; the input reads as it did. -/
def fnExactSubstTextSpec : ChangeSpec := { name := "fnExactSubstText", fn := fun _ => fun
  | [d1, d2] => { results := [.lit (.bool true)], args := [d1, d2] }
  | _ => none }
def fnExactSubstTextRow : OpenClaim := { program := "ytlcchafcgidpeaadoor", sum := "859efa64a99c95be013b5d571441c0dd57126efcdf6e3ee034225ccb96706eb2", func := "loop.example/g00895/laws.FnExactSubstText", spec := "fnExactSubstText", inPlace := ["internal/abi.NoEscape", "internal/bytealg.MakeNoZero"], recurses := true, named := ["internal/strconv.uint64pow10", "math/bits.deBruijn32tab", "math/bits.deBruijn64tab"], apart := false, laid := [("math/bits.deBruijn32tab", laid_math_bits_deBruijn32tab), ("math/bits.deBruijn64tab", laid_math_bits_deBruijn64tab), ("internal/strconv.uint64pow10", laid_internal_strconv_uint64pow10)] }
def FnExactSubstTextSaid : Prop := fnExactSubstTextRow.holds Tryd.pinned (OpenSpec.ofChange fnExactSubstTextSpec)

/-- ITS FALSE NEIGHBOUR: 'it returns false'. Refute it at one input. -/
def fnExactSubstTextWrong : ChangeSpec := { name := "fnExactSubstText", fn := fun _ => fun
  | [d1, d2] => { results := [.lit (.bool false)], args := [d1, d2] }
  | _ => none }
def FnExactSubstTextWrongFalsely : Prop := fnExactSubstTextRow.holds Tryd.pinned (OpenSpec.ofChange fnExactSubstTextWrong)

/-- 'laws.FnTermTexts': WHATEVER THE INPUT: true; the input reads as it did. -/
def fnTermTextsSpec : ChangeSpec := { name := "fnTermTexts", fn := fun _ => fun
  | [d] => { results := [.lit (.bool true)], args := [d] }
  | _ => none }
def fnTermTextsRow : OpenClaim := { program := "ytlcchafcgidpeaadoor", sum := "859efa64a99c95be013b5d571441c0dd57126efcdf6e3ee034225ccb96706eb2", func := "loop.example/g00895/laws.FnTermTexts", spec := "fnTermTexts", inPlace := ["internal/abi.NoEscape"], recurses := true, named := ["internal/strconv.uint64pow10", "math/bits.deBruijn32tab", "math/bits.deBruijn64tab"], apart := false, laid := [("math/bits.deBruijn32tab", laid_math_bits_deBruijn32tab), ("math/bits.deBruijn64tab", laid_math_bits_deBruijn64tab), ("internal/strconv.uint64pow10", laid_internal_strconv_uint64pow10)] }
def FnTermTextsSaid : Prop := fnTermTextsRow.holds Tryd.pinned (OpenSpec.ofChange fnTermTextsSpec)

/-- ITS FALSE NEIGHBOUR: 'it returns false'. Refute it at one input. -/
def fnTermTextsWrong : ChangeSpec := { name := "fnTermTexts", fn := fun _ => fun
  | [d] => { results := [.lit (.bool false)], args := [d] }
  | _ => none }
def FnTermTextsWrongFalsely : Prop := fnTermTextsRow.holds Tryd.pinned (OpenSpec.ofChange fnTermTextsWrong)

/- THE SECOND FORM. 'bulk': how many values and letters a reading holds, each counted each time it is reached (what is shared counts as often as it is met; a slice's spare places count too). A statement '..UptoSaid' is the law's where the arguments, and the package variables that the reading takes, are together of bulk at most 1048576: NARROWER than '..Said'. Prove '..Said' where nothing that the law and all that it calls make is longer than what came in: it says more and counts as full. Else prove '..UptoSaid'. A law counts once. -/
mutual
def uptoBulk {H : Type} : DataW H → Nat
  | .lit (.string bytes) => bytes.length + 1
  | .lit _ => 1
  | .nil => 1
  | .ptr d => uptoBulk d + 1
  | .slice elems spare => uptoBulkAll elems + uptoBulkAll spare + 1
  | .agg parts => uptoBulkAll parts + 1
  | .iface _ d => uptoBulk d + 1
  | .map entries => uptoBulkEntries entries + 1
  | .held _ => 1
def uptoBulkAll {H : Type} : List (DataW H) → Nat
  | [] => 0
  | d :: r => uptoBulk d + uptoBulkAll r
def uptoBulkEntries {H : Type} : List (Lit × DataW H) → Nat
  | [] => 0
  | x :: r => uptoBulkEntry x + uptoBulkEntries r
def uptoBulkEntry {H : Type} : Lit × DataW H → Nat
  | (.string bytes, d) => bytes.length + uptoBulk d + 1
  | (_, d) => uptoBulk d + 1
 end
def uptoSmall : (H : Type) → List (DataW H) → Bool := fun _ ds => decide (uptoBulkAll ds ≤ 1048576)
def OpenSpec.upto (s : _root_.Go.ChangeSpec) : _root_.Go.OpenSpec := { _root_.Go.OpenSpec.ofChange s with cond := some uptoSmall }

/-- 'laws.FnExactTextRule', WHERE WHAT IT READS IS OF BULK AT MOST 1048576: true; the input reads as it did. -/
def fnExactTextRuleUptoRow : OpenClaim := { program := "ytlcchafcgidpeaadoor", sum := "859efa64a99c95be013b5d571441c0dd57126efcdf6e3ee034225ccb96706eb2", func := "loop.example/g00895/laws.FnExactTextRule", spec := "fnExactTextRule", inPlace := ["internal/bytealg.IndexByteString", "internal/bytealg.IndexString", "internal/abi.NoEscape"], recurses := true, named := ["internal/bytealg.MaxLen", "internal/strconv.uint64pow10", "math/bits.deBruijn32tab", "math/bits.deBruijn64tab"], apart := false, laid := [("math/bits.deBruijn32tab", laid_math_bits_deBruijn32tab), ("math/bits.deBruijn64tab", laid_math_bits_deBruijn64tab), ("internal/strconv.uint64pow10", laid_internal_strconv_uint64pow10)], narrowed := true }
def FnExactTextRuleUptoSaid : Prop := fnExactTextRuleUptoRow.holds Tryd.pinned (OpenSpec.upto fnExactTextRuleSpec)

/-- 'laws.FnExactTextSig', WHERE WHAT IT READS IS OF BULK AT MOST 1048576: true; the input reads as it did. -/
def fnExactTextSigUptoRow : OpenClaim := { program := "ytlcchafcgidpeaadoor", sum := "859efa64a99c95be013b5d571441c0dd57126efcdf6e3ee034225ccb96706eb2", func := "loop.example/g00895/laws.FnExactTextSig", spec := "fnExactTextSig", inPlace := ["internal/bytealg.CountString", "internal/bytealg.IndexByteString", "internal/bytealg.IndexString"], named := ["unicode/utf8.first", "unicode/utf8.acceptRanges", "internal/bytealg.MaxLen"], apart := false, laid := [("unicode/utf8.acceptRanges", laid_unicode_utf8_acceptRanges), ("unicode/utf8.first", laid_unicode_utf8_first)], narrowed := true }
def FnExactTextSigUptoSaid : Prop := fnExactTextSigUptoRow.holds Tryd.pinned (OpenSpec.upto fnExactTextSigSpec)

/-- 'laws.FnExactSigText', WHERE WHAT IT READS IS OF BULK AT MOST 1048576: true; the input reads as it did. -/
def fnExactSigTextUptoRow : OpenClaim := { program := "ytlcchafcgidpeaadoor", sum := "859efa64a99c95be013b5d571441c0dd57126efcdf6e3ee034225ccb96706eb2", func := "loop.example/g00895/laws.FnExactSigText", spec := "fnExactSigText", inPlace := ["internal/abi.NoEscape", "internal/bytealg.MakeNoZero"], named := ["internal/strconv.uint64pow10", "math/bits.deBruijn32tab", "math/bits.deBruijn64tab"], apart := false, laid := [("math/bits.deBruijn32tab", laid_math_bits_deBruijn32tab), ("math/bits.deBruijn64tab", laid_math_bits_deBruijn64tab), ("internal/strconv.uint64pow10", laid_internal_strconv_uint64pow10)], narrowed := true }
def FnExactSigTextUptoSaid : Prop := fnExactSigTextUptoRow.holds Tryd.pinned (OpenSpec.upto fnExactSigTextSpec)

/-- 'laws.FnExactTermText', WHERE WHAT IT READS IS OF BULK AT MOST 1048576: true; the input reads as it did. -/
def fnExactTermTextUptoRow : OpenClaim := { program := "ytlcchafcgidpeaadoor", sum := "859efa64a99c95be013b5d571441c0dd57126efcdf6e3ee034225ccb96706eb2", func := "loop.example/g00895/laws.FnExactTermText", spec := "fnExactTermText", inPlace := ["internal/abi.NoEscape"], recurses := true, named := ["internal/strconv.uint64pow10", "math/bits.deBruijn32tab", "math/bits.deBruijn64tab"], apart := false, laid := [("math/bits.deBruijn32tab", laid_math_bits_deBruijn32tab), ("math/bits.deBruijn64tab", laid_math_bits_deBruijn64tab), ("internal/strconv.uint64pow10", laid_internal_strconv_uint64pow10)], narrowed := true }
def FnExactTermTextUptoSaid : Prop := fnExactTermTextUptoRow.holds Tryd.pinned (OpenSpec.upto fnExactTermTextSpec)

/-- 'laws.FnExactRuleText', WHERE WHAT IT READS IS OF BULK AT MOST 1048576: true; the input reads as it did. -/
def fnExactRuleTextUptoRow : OpenClaim := { program := "ytlcchafcgidpeaadoor", sum := "859efa64a99c95be013b5d571441c0dd57126efcdf6e3ee034225ccb96706eb2", func := "loop.example/g00895/laws.FnExactRuleText", spec := "fnExactRuleText", inPlace := ["internal/abi.NoEscape"], recurses := true, named := ["internal/strconv.uint64pow10", "math/bits.deBruijn32tab", "math/bits.deBruijn64tab"], apart := false, laid := [("math/bits.deBruijn32tab", laid_math_bits_deBruijn32tab), ("math/bits.deBruijn64tab", laid_math_bits_deBruijn64tab), ("internal/strconv.uint64pow10", laid_internal_strconv_uint64pow10)], narrowed := true }
def FnExactRuleTextUptoSaid : Prop := fnExactRuleTextUptoRow.holds Tryd.pinned (OpenSpec.upto fnExactRuleTextSpec)

/-- 'laws.FnExactTextTerm', WHERE WHAT IT READS IS OF BULK AT MOST 1048576: true; the input reads as it did. -/
def fnExactTextTermUptoRow : OpenClaim := { program := "ytlcchafcgidpeaadoor", sum := "859efa64a99c95be013b5d571441c0dd57126efcdf6e3ee034225ccb96706eb2", func := "loop.example/g00895/laws.FnExactTextTerm", spec := "fnExactTextTerm", inPlace := ["internal/abi.NoEscape"], recurses := true, named := ["internal/strconv.uint64pow10", "math/bits.deBruijn32tab", "math/bits.deBruijn64tab"], apart := false, laid := [("math/bits.deBruijn32tab", laid_math_bits_deBruijn32tab), ("math/bits.deBruijn64tab", laid_math_bits_deBruijn64tab), ("internal/strconv.uint64pow10", laid_internal_strconv_uint64pow10)], narrowed := true }
def FnExactTextTermUptoSaid : Prop := fnExactTextTermUptoRow.holds Tryd.pinned (OpenSpec.upto fnExactTextTermSpec)

/-- 'laws.FnExactSubstText', WHERE WHAT IT READS IS OF BULK AT MOST 1048576: true; the input reads as it did. -/
def fnExactSubstTextUptoRow : OpenClaim := { program := "ytlcchafcgidpeaadoor", sum := "859efa64a99c95be013b5d571441c0dd57126efcdf6e3ee034225ccb96706eb2", func := "loop.example/g00895/laws.FnExactSubstText", spec := "fnExactSubstText", inPlace := ["internal/abi.NoEscape", "internal/bytealg.MakeNoZero"], recurses := true, named := ["internal/strconv.uint64pow10", "math/bits.deBruijn32tab", "math/bits.deBruijn64tab"], apart := false, laid := [("math/bits.deBruijn32tab", laid_math_bits_deBruijn32tab), ("math/bits.deBruijn64tab", laid_math_bits_deBruijn64tab), ("internal/strconv.uint64pow10", laid_internal_strconv_uint64pow10)], narrowed := true }
def FnExactSubstTextUptoSaid : Prop := fnExactSubstTextUptoRow.holds Tryd.pinned (OpenSpec.upto fnExactSubstTextSpec)

/-- 'laws.FnTermTexts', WHERE WHAT IT READS IS OF BULK AT MOST 1048576: true; the input reads as it did. -/
def fnTermTextsUptoRow : OpenClaim := { program := "ytlcchafcgidpeaadoor", sum := "859efa64a99c95be013b5d571441c0dd57126efcdf6e3ee034225ccb96706eb2", func := "loop.example/g00895/laws.FnTermTexts", spec := "fnTermTexts", inPlace := ["internal/abi.NoEscape"], recurses := true, named := ["internal/strconv.uint64pow10", "math/bits.deBruijn32tab", "math/bits.deBruijn64tab"], apart := false, laid := [("math/bits.deBruijn32tab", laid_math_bits_deBruijn32tab), ("math/bits.deBruijn64tab", laid_math_bits_deBruijn64tab), ("internal/strconv.uint64pow10", laid_internal_strconv_uint64pow10)], narrowed := true }
def FnTermTextsUptoSaid : Prop := fnTermTextsUptoRow.holds Tryd.pinned (OpenSpec.upto fnTermTextsSpec)

end Rows
end Go.Proofs.YtlcchafcgidpeaaDoor
