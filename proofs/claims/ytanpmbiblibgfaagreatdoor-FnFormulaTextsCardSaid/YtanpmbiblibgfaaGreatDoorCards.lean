/-
  DERIVED. GIVEN WITH THE SEED: THE CARDS: each row of YtanpmbiblibgfaaGreatDoorRows.lean that lists a variable, with what it lists TIED to the program's text (the seventh form; the later family's looks); each row that meets fmt, with fmt's text TOLD by the authors' own Lean function (tested against real Go, not proved from fmt's source: count such statements apart). THE CARD IS WHAT COUNTS. Prove the row's statement (the work); the ties are given (YtanpmbiblibgfaaGreatDoorTie.lean); close each card by the builder's one call (the guide's Derived/Test/ToyasCard.lean, 'card_holds'). Laid BY PROGRAM, IN A SANDBOX (cutbox-door.mjs). By AI agents, Wed Nov 11 2026. No macro, syntax, notation, axiom, sorry.
-/
import Derived.Test.YtanpmbiblibgfaaGreatDoorRows
import GoSem.ClaimSeven
namespace Go.Proofs.YtanpmbiblibgfaaGreatDoor
namespace Rows

/-- THE TIED CARD OF 'laws.FnFormulaTexts'. -/
def fnFormulaTextsCard : Claim7 := { stood := { row := fnFormulaTextsRow, standIns := [], harness := (true, "602e6c9b338c40db80afb462fa15987ba3bfa623ef1a83fba5fa6279238ebc43"), looks := true }, kinds := [], alts := [], laidByText := true, laidKinds := [.data, .data, .data, .sentinel, .sentinel, .listed, .data], laidTests := true, laidLooks := .later }
def FnFormulaTextsCardSaid : Prop := Claim7.holds Tryz.pinned (.plain (OpenSpec.ofChange fnFormulaTextsSpec)) fnFormulaTextsCard

/-- THE SECOND FORM's CARD OF 'laws.FnFormulaTexts'. -/
def fnFormulaTextsUptoCard : Claim7 := { stood := { row := fnFormulaTextsUptoRow, standIns := [], harness := (true, "602e6c9b338c40db80afb462fa15987ba3bfa623ef1a83fba5fa6279238ebc43"), looks := true }, kinds := [], alts := [], laidByText := true, laidKinds := [.data, .data, .data, .sentinel, .sentinel, .listed, .data], laidTests := true, laidLooks := .later }
def FnFormulaTextsUptoCardSaid : Prop := Claim7.holds Tryz.pinned (.plain (OpenSpec.upto fnFormulaTextsSpec)) fnFormulaTextsUptoCard
end Rows
end Go.Proofs.YtanpmbiblibgfaaGreatDoor
