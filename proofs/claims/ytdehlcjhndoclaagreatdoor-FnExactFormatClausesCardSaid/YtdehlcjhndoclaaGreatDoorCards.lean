/-
  DERIVED. GIVEN WITH THE SEED: THE CARDS: each row of YtdehlcjhndoclaaGreatDoorRows.lean that lists a variable, with what it lists TIED to the program's text (the seventh form; the later family's looks); each row that meets fmt, with fmt's text TOLD by the authors' own Lean function (tested against real Go, not proved from fmt's source: count such statements apart). THE CARD IS WHAT COUNTS. Prove the row's statement (the work); the ties are given (YtdehlcjhndoclaaGreatDoorTie.lean); close each card by the builder's one call (the guide's Derived/Test/ToyasCard.lean, 'card_holds'). Laid BY PROGRAM, IN A SANDBOX (cutbox-door.mjs). By AI agents, Wed Nov 11 2026. No macro, syntax, notation, axiom, sorry.
-/
import Derived.Test.YtdehlcjhndoclaaGreatDoorRows
import GoSem.ClaimSeven
namespace Go.Proofs.YtdehlcjhndoclaaGreatDoor
namespace Rows

/-- THE TIED CARD OF 'laws.FnExactFormatExpr'. -/
def fnExactFormatExprCard : Claim7 := { stood := { row := fnExactFormatExprRow, standIns := [], harness := (true, "d6df56edd499a91e2e2d0b2699889e046e45027f612dd6998981c87367aaa6d5"), looks := false }, kinds := [], alts := [], laidByText := true, laidKinds := [.data, .data, .data], laidTests := true, laidLooks := .later }
def FnExactFormatExprCardSaid : Prop := Claim7.holds Tryz.pinned (.plain (OpenSpec.ofChange fnExactFormatExprSpec)) fnExactFormatExprCard

/-- THE TIED CARD OF 'laws.FnExactFormatClauses'. -/
def fnExactFormatClausesCard : Claim7 := { stood := { row := fnExactFormatClausesRow, standIns := [], harness := (true, "d6df56edd499a91e2e2d0b2699889e046e45027f612dd6998981c87367aaa6d5"), looks := false }, kinds := [], alts := [], laidByText := true, laidKinds := [.data, .data, .data], laidTests := true, laidLooks := .later }
def FnExactFormatClausesCardSaid : Prop := Claim7.holds Tryz.pinned (.plain (OpenSpec.ofChange fnExactFormatClausesSpec)) fnExactFormatClausesCard

/-- THE SECOND FORM's CARD OF 'laws.FnExactFormatExpr'. -/
def fnExactFormatExprUptoCard : Claim7 := { stood := { row := fnExactFormatExprUptoRow, standIns := [], harness := (true, "d6df56edd499a91e2e2d0b2699889e046e45027f612dd6998981c87367aaa6d5"), looks := false }, kinds := [], alts := [], laidByText := true, laidKinds := [.data, .data, .data], laidTests := true, laidLooks := .later }
def FnExactFormatExprUptoCardSaid : Prop := Claim7.holds Tryz.pinned (.plain (OpenSpec.upto fnExactFormatExprSpec)) fnExactFormatExprUptoCard

/-- THE SECOND FORM's CARD OF 'laws.FnExactFormatClauses'. -/
def fnExactFormatClausesUptoCard : Claim7 := { stood := { row := fnExactFormatClausesUptoRow, standIns := [], harness := (true, "d6df56edd499a91e2e2d0b2699889e046e45027f612dd6998981c87367aaa6d5"), looks := false }, kinds := [], alts := [], laidByText := true, laidKinds := [.data, .data, .data], laidTests := true, laidLooks := .later }
def FnExactFormatClausesUptoCardSaid : Prop := Claim7.holds Tryz.pinned (.plain (OpenSpec.upto fnExactFormatClausesSpec)) fnExactFormatClausesUptoCard
end Rows
end Go.Proofs.YtdehlcjhndoclaaGreatDoor
