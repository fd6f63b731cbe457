/-
  DERIVED. GIVEN WITH THE SEED: THE CARDS: each row of YtnbcpgpmeeminaaDoorRows.lean that lists a variable, with what it lists TIED to the program's text (the seventh form; the later family's looks); each row that meets fmt, with fmt's text TOLD by the authors' own Lean function (tested against real Go, not proved from fmt's source: count such statements apart). THE CARD IS WHAT COUNTS. Prove the row's statement (the work); the ties are given (YtnbcpgpmeeminaaDoorTie.lean); close each card by the builder's one call (the guide's Derived/Test/ToyasCard.lean, 'card_holds'). Laid BY PROGRAM, IN A SANDBOX (cutbox-door.mjs). By AI agents, Wed Nov 11 2026. No macro, syntax, notation, axiom, sorry.
-/
import Derived.Test.YtnbcpgpmeeminaaDoorRows
import GoSem.ClaimSeven
namespace Go.Proofs.YtnbcpgpmeeminaaDoor
namespace Rows

/-- THE TIED CARD OF 'laws.FnExactFormatSteps'. -/
def fnExactFormatStepsCard : Claim7 := { stood := { row := fnExactFormatStepsRow, standIns := [], harness := (true, "85e08f0db073a76f06324e5782e9a4cc6fc5aba351bbfd87fdaf1e6aa1e3a35a"), looks := false }, kinds := [], alts := [], laidByText := true, laidKinds := [.data, .data, .data], laidTests := true, laidLooks := .later }
def FnExactFormatStepsCardSaid : Prop := Claim7.holds Tryd.pinned (.plain (OpenSpec.ofChange fnExactFormatStepsSpec)) fnExactFormatStepsCard

/-- THE TIED CARD OF 'laws.FnExactFormatNodes'. -/
def fnExactFormatNodesCard : Claim7 := { stood := { row := fnExactFormatNodesRow, standIns := [], harness := (true, "85e08f0db073a76f06324e5782e9a4cc6fc5aba351bbfd87fdaf1e6aa1e3a35a"), looks := false }, kinds := [], alts := [], laidByText := true, laidKinds := [.data, .data, .data], laidTests := true, laidLooks := .later }
def FnExactFormatNodesCardSaid : Prop := Claim7.holds Tryd.pinned (.plain (OpenSpec.ofChange fnExactFormatNodesSpec)) fnExactFormatNodesCard

/-- THE SECOND FORM's CARD OF 'laws.FnExactFormatSteps'. -/
def fnExactFormatStepsUptoCard : Claim7 := { stood := { row := fnExactFormatStepsUptoRow, standIns := [], harness := (true, "85e08f0db073a76f06324e5782e9a4cc6fc5aba351bbfd87fdaf1e6aa1e3a35a"), looks := false }, kinds := [], alts := [], laidByText := true, laidKinds := [.data, .data, .data], laidTests := true, laidLooks := .later }
def FnExactFormatStepsUptoCardSaid : Prop := Claim7.holds Tryd.pinned (.plain (OpenSpec.upto fnExactFormatStepsSpec)) fnExactFormatStepsUptoCard

/-- THE SECOND FORM's CARD OF 'laws.FnExactFormatNodes'. -/
def fnExactFormatNodesUptoCard : Claim7 := { stood := { row := fnExactFormatNodesUptoRow, standIns := [], harness := (true, "85e08f0db073a76f06324e5782e9a4cc6fc5aba351bbfd87fdaf1e6aa1e3a35a"), looks := false }, kinds := [], alts := [], laidByText := true, laidKinds := [.data, .data, .data], laidTests := true, laidLooks := .later }
def FnExactFormatNodesUptoCardSaid : Prop := Claim7.holds Tryd.pinned (.plain (OpenSpec.upto fnExactFormatNodesSpec)) fnExactFormatNodesUptoCard
end Rows
end Go.Proofs.YtnbcpgpmeeminaaDoor
