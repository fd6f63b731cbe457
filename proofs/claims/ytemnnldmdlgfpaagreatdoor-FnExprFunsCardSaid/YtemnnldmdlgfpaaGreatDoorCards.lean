/-
  DERIVED. GIVEN WITH THE SEED: THE CARDS: each row of YtemnnldmdlgfpaaGreatDoorRows.lean that lists a variable, with what it lists TIED to the program's text (the seventh form; the later family's looks); each row that meets fmt, with fmt's text TOLD by the authors' own Lean function (tested against real Go, not proved from fmt's source: count such statements apart). THE CARD IS WHAT COUNTS. Prove the row's statement (the work); the ties are given (YtemnnldmdlgfpaaGreatDoorTie.lean); close each card by the builder's one call (the guide's Derived/Test/ToyasCard.lean, 'card_holds'). Laid BY PROGRAM, IN A SANDBOX (cutbox-door.mjs). By AI agents, Wed Nov 11 2026. No macro, syntax, notation, axiom, sorry.
-/
import Derived.Test.YtemnnldmdlgfpaaGreatDoorRows
import GoSem.ClaimSeven
namespace Go.Proofs.YtemnnldmdlgfpaaGreatDoor
namespace Rows

/-- THE TIED CARD OF 'laws.FnExprFuns'. -/
def fnExprFunsCard : Claim7 := { stood := { row := fnExprFunsRow, standIns := [], harness := (true, "02b3754c4b42cd5bf693b71a5e18f99e2c58f3f2c6d791989c650f6c38329203"), looks := false }, kinds := [], alts := [], laidByText := true, laidKinds := [.data, .data, .data], laidTests := true, laidLooks := .later }
def FnExprFunsCardSaid : Prop := Claim7.holds Tryz.pinned (.plain (OpenSpec.ofChange fnExprFunsSpec)) fnExprFunsCard

/-- THE TIED CARD OF 'laws.FnExprOf'. -/
def fnExprOfCard : Claim7 := { stood := { row := fnExprOfRow, standIns := [], harness := (true, "02b3754c4b42cd5bf693b71a5e18f99e2c58f3f2c6d791989c650f6c38329203"), looks := false }, kinds := [], alts := [], laidByText := true, laidKinds := [.data, .data, .data], laidTests := true, laidLooks := .later }
def FnExprOfCardSaid : Prop := Claim7.holds Tryz.pinned (.plain (OpenSpec.ofChange fnExprOfSpec)) fnExprOfCard

/-- THE SECOND FORM's CARD OF 'laws.FnExprFuns'. -/
def fnExprFunsUptoCard : Claim7 := { stood := { row := fnExprFunsUptoRow, standIns := [], harness := (true, "02b3754c4b42cd5bf693b71a5e18f99e2c58f3f2c6d791989c650f6c38329203"), looks := false }, kinds := [], alts := [], laidByText := true, laidKinds := [.data, .data, .data], laidTests := true, laidLooks := .later }
def FnExprFunsUptoCardSaid : Prop := Claim7.holds Tryz.pinned (.plain (OpenSpec.upto fnExprFunsSpec)) fnExprFunsUptoCard

/-- THE SECOND FORM's CARD OF 'laws.FnExprOf'. -/
def fnExprOfUptoCard : Claim7 := { stood := { row := fnExprOfUptoRow, standIns := [], harness := (true, "02b3754c4b42cd5bf693b71a5e18f99e2c58f3f2c6d791989c650f6c38329203"), looks := false }, kinds := [], alts := [], laidByText := true, laidKinds := [.data, .data, .data], laidTests := true, laidLooks := .later }
def FnExprOfUptoCardSaid : Prop := Claim7.holds Tryz.pinned (.plain (OpenSpec.upto fnExprOfSpec)) fnExprOfUptoCard
end Rows
end Go.Proofs.YtemnnldmdlgfpaaGreatDoor
