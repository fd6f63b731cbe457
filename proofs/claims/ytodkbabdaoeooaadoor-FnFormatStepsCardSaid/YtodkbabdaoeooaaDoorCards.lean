/-
  DERIVED. GIVEN WITH THE SEED: THE CARDS: each row of YtodkbabdaoeooaaDoorRows.lean that lists a variable, with what it lists TIED to the program's text (the seventh form; the later family's looks); each row that meets fmt, with fmt's text TOLD by the authors' own Lean function (tested against real Go, not proved from fmt's source: count such statements apart). THE CARD IS WHAT COUNTS. Prove the row's statement (the work); the ties are given (YtodkbabdaoeooaaDoorTie.lean); close each card by the builder's one call (the guide's Derived/Test/ToyasCard.lean, 'card_holds'). Laid BY PROGRAM, IN A SANDBOX (cutbox-door.mjs). By AI agents, Wed Nov 11 2026. No macro, syntax, notation, axiom, sorry.
-/
import Derived.Test.YtodkbabdaoeooaaDoorRows
import GoSem.ClaimSeven
namespace Go.Proofs.YtodkbabdaoeooaaDoor
namespace Rows

/-- THE TIED CARD OF 'laws.FnFormatSteps'. -/
def fnFormatStepsCard : Claim7 := { stood := { row := fnFormatStepsRow, standIns := [], harness := (true, "16cde08ff6bca9fa669e1b74a6b1e887b37fb28db2be4d3f2f6330b18be175c5"), looks := false }, kinds := [], alts := [], laidByText := true, laidKinds := [.data, .data, .data], laidTests := true, laidLooks := .later }
def FnFormatStepsCardSaid : Prop := Claim7.holds Tryd.pinned (.plain (OpenSpec.ofChange fnFormatStepsSpec)) fnFormatStepsCard

/-- THE SECOND FORM's CARD OF 'laws.FnFormatSteps'. -/
def fnFormatStepsUptoCard : Claim7 := { stood := { row := fnFormatStepsUptoRow, standIns := [], harness := (true, "16cde08ff6bca9fa669e1b74a6b1e887b37fb28db2be4d3f2f6330b18be175c5"), looks := false }, kinds := [], alts := [], laidByText := true, laidKinds := [.data, .data, .data], laidTests := true, laidLooks := .later }
def FnFormatStepsUptoCardSaid : Prop := Claim7.holds Tryd.pinned (.plain (OpenSpec.upto fnFormatStepsSpec)) fnFormatStepsUptoCard
end Rows
end Go.Proofs.YtodkbabdaoeooaaDoor
