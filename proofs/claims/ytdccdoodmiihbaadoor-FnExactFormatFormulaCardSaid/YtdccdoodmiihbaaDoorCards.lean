/-
  DERIVED. GIVEN WITH THE SEED: THE CARDS: each row of YtdccdoodmiihbaaDoorRows.lean that lists a variable, with what it lists TIED to the program's text (the seventh form; the later family's looks); each row that meets fmt, with fmt's text TOLD by the authors' own Lean function (tested against real Go, not proved from fmt's source: count such statements apart). THE CARD IS WHAT COUNTS. Prove the row's statement (the work); the ties are given (YtdccdoodmiihbaaDoorTie.lean); close each card by the builder's one call (the guide's Derived/Test/ToyasCard.lean, 'card_holds'). Laid BY PROGRAM, IN A SANDBOX (cutbox-door.mjs). By AI agents, Wed Nov 11 2026. No macro, syntax, notation, axiom, sorry.
-/
import Derived.Test.YtdccdoodmiihbaaDoorRows
import GoSem.ClaimSeven
namespace Go.Proofs.YtdccdoodmiihbaaDoor
namespace Rows

/-- THE TIED CARD OF 'laws.FnExactParseFrac'. -/
def fnExactParseFracCard : Claim7 := { stood := { row := fnExactParseFracRow, standIns := [], harness := (true, "17ba1a6d306eb4817ceaad925e63bdd47ddd41ff84d25a483b4c26f589b5688e"), looks := true }, kinds := [], alts := [], laidByText := true, laidKinds := [.data, .data, .data, .sentinel, .sentinel], laidTests := true, laidLooks := .later }
def FnExactParseFracCardSaid : Prop := Claim7.holds Tryd.pinned (.plain (OpenSpec.ofChange fnExactParseFracSpec)) fnExactParseFracCard

/-- THE TIED CARD OF 'laws.FnExactParseFormula'. -/
def fnExactParseFormulaCard : Claim7 := { stood := { row := fnExactParseFormulaRow, standIns := [], harness := (true, "17ba1a6d306eb4817ceaad925e63bdd47ddd41ff84d25a483b4c26f589b5688e"), looks := true }, kinds := [], alts := [], laidByText := true, laidKinds := [.data, .data, .data, .sentinel, .sentinel, .listed, .data], laidTests := true, laidLooks := .later }
def FnExactParseFormulaCardSaid : Prop := Claim7.holds Tryd.pinned (.plain (OpenSpec.ofChange fnExactParseFormulaSpec)) fnExactParseFormulaCard

/-- THE TIED CARD OF 'laws.FnExactFormatFrac'. -/
def fnExactFormatFracCard : Claim7 := { stood := { row := fnExactFormatFracRow, standIns := [], harness := (true, "17ba1a6d306eb4817ceaad925e63bdd47ddd41ff84d25a483b4c26f589b5688e"), looks := true }, kinds := [], alts := [], laidByText := true, laidKinds := [.data, .data, .data], laidTests := true, laidLooks := .later }
def FnExactFormatFracCardSaid : Prop := Claim7.holds Tryd.pinned (.plain (OpenSpec.ofChange fnExactFormatFracSpec)) fnExactFormatFracCard

/-- THE TIED CARD OF 'laws.FnExactFormatFormula'. -/
def fnExactFormatFormulaCard : Claim7 := { stood := { row := fnExactFormatFormulaRow, standIns := [], harness := (true, "17ba1a6d306eb4817ceaad925e63bdd47ddd41ff84d25a483b4c26f589b5688e"), looks := true }, kinds := [], alts := [], laidByText := true, laidKinds := [.data, .data, .data], laidTests := true, laidLooks := .later }
def FnExactFormatFormulaCardSaid : Prop := Claim7.holds Tryd.pinned (.plain (OpenSpec.ofChange fnExactFormatFormulaSpec)) fnExactFormatFormulaCard

/-- THE TIED CARD OF 'laws.FnFracTexts'. -/
def fnFracTextsCard : Claim7 := { stood := { row := fnFracTextsRow, standIns := [], harness := (true, "17ba1a6d306eb4817ceaad925e63bdd47ddd41ff84d25a483b4c26f589b5688e"), looks := true }, kinds := [], alts := [], laidByText := true, laidKinds := [.data, .data, .data, .sentinel, .sentinel], laidTests := true, laidLooks := .later }
def FnFracTextsCardSaid : Prop := Claim7.holds Tryd.pinned (.plain (OpenSpec.ofChange fnFracTextsSpec)) fnFracTextsCard

/-- THE SECOND FORM's CARD OF 'laws.FnExactParseFrac'. -/
def fnExactParseFracUptoCard : Claim7 := { stood := { row := fnExactParseFracUptoRow, standIns := [], harness := (true, "17ba1a6d306eb4817ceaad925e63bdd47ddd41ff84d25a483b4c26f589b5688e"), looks := true }, kinds := [], alts := [], laidByText := true, laidKinds := [.data, .data, .data, .sentinel, .sentinel], laidTests := true, laidLooks := .later }
def FnExactParseFracUptoCardSaid : Prop := Claim7.holds Tryd.pinned (.plain (OpenSpec.upto fnExactParseFracSpec)) fnExactParseFracUptoCard

/-- THE SECOND FORM's CARD OF 'laws.FnExactParseFormula'. -/
def fnExactParseFormulaUptoCard : Claim7 := { stood := { row := fnExactParseFormulaUptoRow, standIns := [], harness := (true, "17ba1a6d306eb4817ceaad925e63bdd47ddd41ff84d25a483b4c26f589b5688e"), looks := true }, kinds := [], alts := [], laidByText := true, laidKinds := [.data, .data, .data, .sentinel, .sentinel, .listed, .data], laidTests := true, laidLooks := .later }
def FnExactParseFormulaUptoCardSaid : Prop := Claim7.holds Tryd.pinned (.plain (OpenSpec.upto fnExactParseFormulaSpec)) fnExactParseFormulaUptoCard

/-- THE SECOND FORM's CARD OF 'laws.FnExactFormatFrac'. -/
def fnExactFormatFracUptoCard : Claim7 := { stood := { row := fnExactFormatFracUptoRow, standIns := [], harness := (true, "17ba1a6d306eb4817ceaad925e63bdd47ddd41ff84d25a483b4c26f589b5688e"), looks := true }, kinds := [], alts := [], laidByText := true, laidKinds := [.data, .data, .data], laidTests := true, laidLooks := .later }
def FnExactFormatFracUptoCardSaid : Prop := Claim7.holds Tryd.pinned (.plain (OpenSpec.upto fnExactFormatFracSpec)) fnExactFormatFracUptoCard

/-- THE SECOND FORM's CARD OF 'laws.FnExactFormatFormula'. -/
def fnExactFormatFormulaUptoCard : Claim7 := { stood := { row := fnExactFormatFormulaUptoRow, standIns := [], harness := (true, "17ba1a6d306eb4817ceaad925e63bdd47ddd41ff84d25a483b4c26f589b5688e"), looks := true }, kinds := [], alts := [], laidByText := true, laidKinds := [.data, .data, .data], laidTests := true, laidLooks := .later }
def FnExactFormatFormulaUptoCardSaid : Prop := Claim7.holds Tryd.pinned (.plain (OpenSpec.upto fnExactFormatFormulaSpec)) fnExactFormatFormulaUptoCard

/-- THE SECOND FORM's CARD OF 'laws.FnFracTexts'. -/
def fnFracTextsUptoCard : Claim7 := { stood := { row := fnFracTextsUptoRow, standIns := [], harness := (true, "17ba1a6d306eb4817ceaad925e63bdd47ddd41ff84d25a483b4c26f589b5688e"), looks := true }, kinds := [], alts := [], laidByText := true, laidKinds := [.data, .data, .data, .sentinel, .sentinel], laidTests := true, laidLooks := .later }
def FnFracTextsUptoCardSaid : Prop := Claim7.holds Tryd.pinned (.plain (OpenSpec.upto fnFracTextsSpec)) fnFracTextsUptoCard
end Rows
end Go.Proofs.YtdccdoodmiihbaaDoor
