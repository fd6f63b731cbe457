/-
  DERIVED. GIVEN WITH THE SEED: THE CARDS: each row of YtinfmpljhapfgaaGreatDoorRows.lean that lists a variable, with what it lists TIED to the program's text (the seventh form; the later family's looks); each row that meets fmt, with fmt's text TOLD by the authors' own Lean function (tested against real Go, not proved from fmt's source: count such statements apart). THE CARD IS WHAT COUNTS. Prove the row's statement (the work); the ties are given (YtinfmpljhapfgaaGreatDoorTie.lean); close each card by the builder's one call (the guide's Derived/Test/ToyasCard.lean, 'card_holds'). Laid BY PROGRAM, IN A SANDBOX (cutbox-door.mjs). By AI agents, Wed Nov 11 2026. No macro, syntax, notation, axiom, sorry.
-/
import Derived.Test.YtinfmpljhapfgaaGreatDoorRows
import GoSem.ClaimSeven
namespace Go.Proofs.YtinfmpljhapfgaaGreatDoor
namespace Rows

/-- THE TIED CARD OF 'laws.FnClausesPrefix'. -/
def fnClausesPrefixCard : Claim7 := { stood := { row := fnClausesPrefixRow, standIns := [], harness := (true, "b2a0a01834787a75c232db25b0ebc65c8bfd194c99831e002cc3bbccc689ece5"), looks := false }, kinds := [], alts := [], laidByText := true, laidKinds := [.data, .data, .data], laidTests := true, laidLooks := .later }
def FnClausesPrefixCardSaid : Prop := Claim7.holds Tryz.pinned (.plain (OpenSpec.ofChange fnClausesPrefixSpec)) fnClausesPrefixCard

/-- THE SECOND FORM's CARD OF 'laws.FnClausesPrefix'. -/
def fnClausesPrefixUptoCard : Claim7 := { stood := { row := fnClausesPrefixUptoRow, standIns := [], harness := (true, "b2a0a01834787a75c232db25b0ebc65c8bfd194c99831e002cc3bbccc689ece5"), looks := false }, kinds := [], alts := [], laidByText := true, laidKinds := [.data, .data, .data], laidTests := true, laidLooks := .later }
def FnClausesPrefixUptoCardSaid : Prop := Claim7.holds Tryz.pinned (.plain (OpenSpec.upto fnClausesPrefixSpec)) fnClausesPrefixUptoCard
end Rows
end Go.Proofs.YtinfmpljhapfgaaGreatDoor
