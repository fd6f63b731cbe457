/-
  DERIVED. GIVEN WITH THE SEED: THE CARDS: each row of YtodkbabdaoeooaaGreatDoorRows.lean that lists a variable, with what it lists TIED to the program's text (the seventh form; the later family's looks); each row that meets fmt, with fmt's text TOLD by the authors' own Lean function (tested against real Go, not proved from fmt's source: count such statements apart). THE CARD IS WHAT COUNTS. Prove the row's statement (the work); the ties are given (YtodkbabdaoeooaaGreatDoorTie.lean); close each card by the builder's one call (the guide's Derived/Test/ToyasCard.lean, 'card_holds'). Laid BY PROGRAM, IN A SANDBOX (cutbox-door.mjs). By AI agents, Wed Nov 11 2026. No macro, syntax, notation, axiom, sorry.
-/
import Derived.Test.YtodkbabdaoeooaaGreatDoorRows
import GoSem.ClaimSeven
namespace Go.Proofs.YtodkbabdaoeooaaGreatDoor
namespace Rows

/-- THE TIED CARD OF 'laws.FnFormatNodes'. -/
def fnFormatNodesCard : Claim7 := { stood := { row := fnFormatNodesRow, standIns := [], harness := (true, "9fe222f4ab2ab7364fffb55e1907d6c0d3410c76342f6e77b480e7317e523812"), looks := false }, kinds := [], alts := [], laidByText := true, laidKinds := [.data, .data, .data], laidTests := true, laidLooks := .later }
def FnFormatNodesCardSaid : Prop := Claim7.holds Tryz.pinned (.plain (OpenSpec.ofChange fnFormatNodesSpec)) fnFormatNodesCard

/-- THE TIED CARD OF 'laws.FnCompileSteps'. -/
def fnCompileStepsCard : Claim7 := { stood := { row := fnCompileStepsRow, standIns := [], harness := (true, "9fe222f4ab2ab7364fffb55e1907d6c0d3410c76342f6e77b480e7317e523812"), looks := false }, kinds := [], alts := [], laidByText := true, laidKinds := [.data, .data, .data], laidTests := true, laidLooks := .later }
def FnCompileStepsCardSaid : Prop := Claim7.holds Tryz.pinned (.plain (OpenSpec.ofChange fnCompileStepsSpec)) fnCompileStepsCard

/-- THE TIED CARD OF 'laws.FnStepsPrefix'. -/
def fnStepsPrefixCard : Claim7 := { stood := { row := fnStepsPrefixRow, standIns := [], harness := (true, "9fe222f4ab2ab7364fffb55e1907d6c0d3410c76342f6e77b480e7317e523812"), looks := false }, kinds := [], alts := [], laidByText := true, laidKinds := [.data, .data, .data], laidTests := true, laidLooks := .later }
def FnStepsPrefixCardSaid : Prop := Claim7.holds Tryz.pinned (.plain (OpenSpec.ofChange fnStepsPrefixSpec)) fnStepsPrefixCard

/-- THE SECOND FORM's CARD OF 'laws.FnFormatNodes'. -/
def fnFormatNodesUptoCard : Claim7 := { stood := { row := fnFormatNodesUptoRow, standIns := [], harness := (true, "9fe222f4ab2ab7364fffb55e1907d6c0d3410c76342f6e77b480e7317e523812"), looks := false }, kinds := [], alts := [], laidByText := true, laidKinds := [.data, .data, .data], laidTests := true, laidLooks := .later }
def FnFormatNodesUptoCardSaid : Prop := Claim7.holds Tryz.pinned (.plain (OpenSpec.upto fnFormatNodesSpec)) fnFormatNodesUptoCard

/-- THE SECOND FORM's CARD OF 'laws.FnCompileSteps'. -/
def fnCompileStepsUptoCard : Claim7 := { stood := { row := fnCompileStepsUptoRow, standIns := [], harness := (true, "9fe222f4ab2ab7364fffb55e1907d6c0d3410c76342f6e77b480e7317e523812"), looks := false }, kinds := [], alts := [], laidByText := true, laidKinds := [.data, .data, .data], laidTests := true, laidLooks := .later }
def FnCompileStepsUptoCardSaid : Prop := Claim7.holds Tryz.pinned (.plain (OpenSpec.upto fnCompileStepsSpec)) fnCompileStepsUptoCard

/-- THE SECOND FORM's CARD OF 'laws.FnStepsPrefix'. -/
def fnStepsPrefixUptoCard : Claim7 := { stood := { row := fnStepsPrefixUptoRow, standIns := [], harness := (true, "9fe222f4ab2ab7364fffb55e1907d6c0d3410c76342f6e77b480e7317e523812"), looks := false }, kinds := [], alts := [], laidByText := true, laidKinds := [.data, .data, .data], laidTests := true, laidLooks := .later }
def FnStepsPrefixUptoCardSaid : Prop := Claim7.holds Tryz.pinned (.plain (OpenSpec.upto fnStepsPrefixSpec)) fnStepsPrefixUptoCard
end Rows
end Go.Proofs.YtodkbabdaoeooaaGreatDoor
