/-
  DERIVED. GIVEN WITH THE SEED: THE CARDS: each row of YtanfmnlkemmkpaaGreatDoorRows.lean that lists a variable, with what it lists TIED to the program's text (the seventh form; the later family's looks); each row that meets fmt, with fmt's text TOLD by the authors' own Lean function (tested against real Go, not proved from fmt's source: count such statements apart). THE CARD IS WHAT COUNTS. Prove the row's statement (the work); the ties are given (YtanfmnlkemmkpaaGreatDoorTie.lean); close each card by the builder's one call (the guide's Derived/Test/ToyasCard.lean, 'card_holds'). Laid BY PROGRAM, IN A SANDBOX (cutbox-door.mjs). By AI agents, Wed Nov 11 2026. No macro, syntax, notation, axiom, sorry.
-/
import Derived.Test.YtanfmnlkemmkpaaGreatDoorRows
import GoSem.ClaimSeven
namespace Go.Proofs.YtanfmnlkemmkpaaGreatDoor
namespace Rows

/-- THE TIED CARD OF 'laws.FnExprOf'. -/
def fnExprOfCard : Claim7 := { stood := { row := fnExprOfRow, standIns := [], harness := (true, "eb5a869333f3078d808cd25bb3a6093b94c81fb0b05bb5280e1a746b5ceec33d"), looks := false }, kinds := [], alts := [], laidByText := true, laidKinds := [.data, .data, .data], laidTests := true, laidLooks := .later }
def FnExprOfCardSaid : Prop := Claim7.holds Tryz.pinned (.plain (OpenSpec.ofChange fnExprOfSpec)) fnExprOfCard

/-- THE SECOND FORM's CARD OF 'laws.FnExprOf'. -/
def fnExprOfUptoCard : Claim7 := { stood := { row := fnExprOfUptoRow, standIns := [], harness := (true, "eb5a869333f3078d808cd25bb3a6093b94c81fb0b05bb5280e1a746b5ceec33d"), looks := false }, kinds := [], alts := [], laidByText := true, laidKinds := [.data, .data, .data], laidTests := true, laidLooks := .later }
def FnExprOfUptoCardSaid : Prop := Claim7.holds Tryz.pinned (.plain (OpenSpec.upto fnExprOfSpec)) fnExprOfUptoCard
end Rows
end Go.Proofs.YtanfmnlkemmkpaaGreatDoor
