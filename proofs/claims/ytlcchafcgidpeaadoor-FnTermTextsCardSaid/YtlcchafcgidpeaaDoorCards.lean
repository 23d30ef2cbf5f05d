/-
  DERIVED. GIVEN WITH THE SEED: THE CARDS: each row of YtlcchafcgidpeaaDoorRows.lean that lists a variable, with what it lists TIED to the program's text (the seventh form; the later family's looks); each row that meets fmt, with fmt's text TOLD by the authors' own Lean function (tested against real Go, not proved from fmt's source: count such statements apart). THE CARD IS WHAT COUNTS. Prove the row's statement (the work); the ties are given (YtlcchafcgidpeaaDoorTie.lean); close each card by the builder's one call (the guide's Derived/Test/ToyasCard.lean, 'card_holds'). Laid BY PROGRAM, IN A SANDBOX (cutbox-door.mjs). By AI agents, Wed Nov 11 2026. No macro, syntax, notation, axiom, sorry.
-/
import Derived.Test.YtlcchafcgidpeaaDoorRows
import GoSem.ClaimSeven
namespace Go.Proofs.YtlcchafcgidpeaaDoor
namespace Rows

/-- THE TIED CARD OF 'laws.FnExactTextRule'. -/
def fnExactTextRuleCard : Claim7 := { stood := { row := fnExactTextRuleRow, standIns := [], harness := (true, "d6582fb7598aff9cb43af993d314a97985cd51163856a1205cc2a16781ad127d"), looks := false }, kinds := [], alts := [], laidByText := true, laidKinds := [.data, .data, .data], laidTests := true, laidLooks := .later }
def FnExactTextRuleCardSaid : Prop := Claim7.holds Tryd.pinned (.plain (OpenSpec.ofChange fnExactTextRuleSpec)) fnExactTextRuleCard

/-- THE TIED CARD OF 'laws.FnExactTextSig'. -/
def fnExactTextSigCard : Claim7 := { stood := { row := fnExactTextSigRow, standIns := [], harness := (true, "d6582fb7598aff9cb43af993d314a97985cd51163856a1205cc2a16781ad127d"), looks := false }, kinds := [], alts := [], laidByText := true, laidKinds := [.data, .pinned], laidTests := true, laidLooks := .later }
def FnExactTextSigCardSaid : Prop := Claim7.holds Tryd.pinned (.plain (OpenSpec.ofChange fnExactTextSigSpec)) fnExactTextSigCard

/-- THE TIED CARD OF 'laws.FnExactSigText'. -/
def fnExactSigTextCard : Claim7 := { stood := { row := fnExactSigTextRow, standIns := [], harness := (true, "d6582fb7598aff9cb43af993d314a97985cd51163856a1205cc2a16781ad127d"), looks := false }, kinds := [], alts := [], laidByText := true, laidKinds := [.data, .data, .data], laidTests := true, laidLooks := .later }
def FnExactSigTextCardSaid : Prop := Claim7.holds Tryd.pinned (.plain (OpenSpec.ofChange fnExactSigTextSpec)) fnExactSigTextCard

/-- THE TIED CARD OF 'laws.FnExactTermText'. -/
def fnExactTermTextCard : Claim7 := { stood := { row := fnExactTermTextRow, standIns := [], harness := (true, "d6582fb7598aff9cb43af993d314a97985cd51163856a1205cc2a16781ad127d"), looks := false }, kinds := [], alts := [], laidByText := true, laidKinds := [.data, .data, .data], laidTests := true, laidLooks := .later }
def FnExactTermTextCardSaid : Prop := Claim7.holds Tryd.pinned (.plain (OpenSpec.ofChange fnExactTermTextSpec)) fnExactTermTextCard

/-- THE TIED CARD OF 'laws.FnExactRuleText'. -/
def fnExactRuleTextCard : Claim7 := { stood := { row := fnExactRuleTextRow, standIns := [], harness := (true, "d6582fb7598aff9cb43af993d314a97985cd51163856a1205cc2a16781ad127d"), looks := false }, kinds := [], alts := [], laidByText := true, laidKinds := [.data, .data, .data], laidTests := true, laidLooks := .later }
def FnExactRuleTextCardSaid : Prop := Claim7.holds Tryd.pinned (.plain (OpenSpec.ofChange fnExactRuleTextSpec)) fnExactRuleTextCard

/-- THE TIED CARD OF 'laws.FnExactTextTerm'. -/
def fnExactTextTermCard : Claim7 := { stood := { row := fnExactTextTermRow, standIns := [], harness := (true, "d6582fb7598aff9cb43af993d314a97985cd51163856a1205cc2a16781ad127d"), looks := false }, kinds := [], alts := [], laidByText := true, laidKinds := [.data, .data, .data], laidTests := true, laidLooks := .later }
def FnExactTextTermCardSaid : Prop := Claim7.holds Tryd.pinned (.plain (OpenSpec.ofChange fnExactTextTermSpec)) fnExactTextTermCard

/-- THE TIED CARD OF 'laws.FnExactSubstText'. -/
def fnExactSubstTextCard : Claim7 := { stood := { row := fnExactSubstTextRow, standIns := [], harness := (true, "d6582fb7598aff9cb43af993d314a97985cd51163856a1205cc2a16781ad127d"), looks := false }, kinds := [], alts := [], laidByText := true, laidKinds := [.data, .data, .data], laidTests := true, laidLooks := .later }
def FnExactSubstTextCardSaid : Prop := Claim7.holds Tryd.pinned (.plain (OpenSpec.ofChange fnExactSubstTextSpec)) fnExactSubstTextCard

/-- THE TIED CARD OF 'laws.FnTermTexts'. -/
def fnTermTextsCard : Claim7 := { stood := { row := fnTermTextsRow, standIns := [], harness := (true, "d6582fb7598aff9cb43af993d314a97985cd51163856a1205cc2a16781ad127d"), looks := false }, kinds := [], alts := [], laidByText := true, laidKinds := [.data, .data, .data], laidTests := true, laidLooks := .later }
def FnTermTextsCardSaid : Prop := Claim7.holds Tryd.pinned (.plain (OpenSpec.ofChange fnTermTextsSpec)) fnTermTextsCard

/-- THE SECOND FORM's CARD OF 'laws.FnExactTextRule'. -/
def fnExactTextRuleUptoCard : Claim7 := { stood := { row := fnExactTextRuleUptoRow, standIns := [], harness := (true, "d6582fb7598aff9cb43af993d314a97985cd51163856a1205cc2a16781ad127d"), looks := false }, kinds := [], alts := [], laidByText := true, laidKinds := [.data, .data, .data], laidTests := true, laidLooks := .later }
def FnExactTextRuleUptoCardSaid : Prop := Claim7.holds Tryd.pinned (.plain (OpenSpec.upto fnExactTextRuleSpec)) fnExactTextRuleUptoCard

/-- THE SECOND FORM's CARD OF 'laws.FnExactTextSig'. -/
def fnExactTextSigUptoCard : Claim7 := { stood := { row := fnExactTextSigUptoRow, standIns := [], harness := (true, "d6582fb7598aff9cb43af993d314a97985cd51163856a1205cc2a16781ad127d"), looks := false }, kinds := [], alts := [], laidByText := true, laidKinds := [.data, .pinned], laidTests := true, laidLooks := .later }
def FnExactTextSigUptoCardSaid : Prop := Claim7.holds Tryd.pinned (.plain (OpenSpec.upto fnExactTextSigSpec)) fnExactTextSigUptoCard

/-- THE SECOND FORM's CARD OF 'laws.FnExactSigText'. -/
def fnExactSigTextUptoCard : Claim7 := { stood := { row := fnExactSigTextUptoRow, standIns := [], harness := (true, "d6582fb7598aff9cb43af993d314a97985cd51163856a1205cc2a16781ad127d"), looks := false }, kinds := [], alts := [], laidByText := true, laidKinds := [.data, .data, .data], laidTests := true, laidLooks := .later }
def FnExactSigTextUptoCardSaid : Prop := Claim7.holds Tryd.pinned (.plain (OpenSpec.upto fnExactSigTextSpec)) fnExactSigTextUptoCard

/-- THE SECOND FORM's CARD OF 'laws.FnExactTermText'. -/
def fnExactTermTextUptoCard : Claim7 := { stood := { row := fnExactTermTextUptoRow, standIns := [], harness := (true, "d6582fb7598aff9cb43af993d314a97985cd51163856a1205cc2a16781ad127d"), looks := false }, kinds := [], alts := [], laidByText := true, laidKinds := [.data, .data, .data], laidTests := true, laidLooks := .later }
def FnExactTermTextUptoCardSaid : Prop := Claim7.holds Tryd.pinned (.plain (OpenSpec.upto fnExactTermTextSpec)) fnExactTermTextUptoCard

/-- THE SECOND FORM's CARD OF 'laws.FnExactRuleText'. -/
def fnExactRuleTextUptoCard : Claim7 := { stood := { row := fnExactRuleTextUptoRow, standIns := [], harness := (true, "d6582fb7598aff9cb43af993d314a97985cd51163856a1205cc2a16781ad127d"), looks := false }, kinds := [], alts := [], laidByText := true, laidKinds := [.data, .data, .data], laidTests := true, laidLooks := .later }
def FnExactRuleTextUptoCardSaid : Prop := Claim7.holds Tryd.pinned (.plain (OpenSpec.upto fnExactRuleTextSpec)) fnExactRuleTextUptoCard

/-- THE SECOND FORM's CARD OF 'laws.FnExactTextTerm'. -/
def fnExactTextTermUptoCard : Claim7 := { stood := { row := fnExactTextTermUptoRow, standIns := [], harness := (true, "d6582fb7598aff9cb43af993d314a97985cd51163856a1205cc2a16781ad127d"), looks := false }, kinds := [], alts := [], laidByText := true, laidKinds := [.data, .data, .data], laidTests := true, laidLooks := .later }
def FnExactTextTermUptoCardSaid : Prop := Claim7.holds Tryd.pinned (.plain (OpenSpec.upto fnExactTextTermSpec)) fnExactTextTermUptoCard

/-- THE SECOND FORM's CARD OF 'laws.FnExactSubstText'. -/
def fnExactSubstTextUptoCard : Claim7 := { stood := { row := fnExactSubstTextUptoRow, standIns := [], harness := (true, "d6582fb7598aff9cb43af993d314a97985cd51163856a1205cc2a16781ad127d"), looks := false }, kinds := [], alts := [], laidByText := true, laidKinds := [.data, .data, .data], laidTests := true, laidLooks := .later }
def FnExactSubstTextUptoCardSaid : Prop := Claim7.holds Tryd.pinned (.plain (OpenSpec.upto fnExactSubstTextSpec)) fnExactSubstTextUptoCard

/-- THE SECOND FORM's CARD OF 'laws.FnTermTexts'. -/
def fnTermTextsUptoCard : Claim7 := { stood := { row := fnTermTextsUptoRow, standIns := [], harness := (true, "d6582fb7598aff9cb43af993d314a97985cd51163856a1205cc2a16781ad127d"), looks := false }, kinds := [], alts := [], laidByText := true, laidKinds := [.data, .data, .data], laidTests := true, laidLooks := .later }
def FnTermTextsUptoCardSaid : Prop := Claim7.holds Tryd.pinned (.plain (OpenSpec.upto fnTermTextsSpec)) fnTermTextsUptoCard
end Rows
end Go.Proofs.YtlcchafcgidpeaaDoor
