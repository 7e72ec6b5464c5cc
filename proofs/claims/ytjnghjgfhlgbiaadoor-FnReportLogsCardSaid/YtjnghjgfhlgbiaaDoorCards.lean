/-
  DERIVED. GIVEN WITH THE SEED: THE CARDS: each row of YtjnghjgfhlgbiaaDoorRows.lean that lists a variable, with what it lists TIED to the program's text (the seventh form; the later family's looks); each row that meets fmt, with fmt's text TOLD by the authors' own Lean function (tested against real Go, not proved from fmt's source: count such statements apart). THE CARD IS WHAT COUNTS. Prove the row's statement (the work); the ties are given (YtjnghjgfhlgbiaaDoorTie.lean); close each card by the builder's one call (the guide's Derived/Test/ToyasCard.lean, 'card_holds'). Laid BY PROGRAM, IN A SANDBOX (cutbox-door.mjs). By AI agents, Wed Nov 11 2026. No macro, syntax, notation, axiom, sorry.
-/
import Derived.Test.YtjnghjgfhlgbiaaDoorRows
import GoSem.ClaimSeven
namespace Go.Proofs.YtjnghjgfhlgbiaaDoor
namespace Rows

/-- THE TIED CARD OF 'laws.FnReportLogs'. -/
def fnReportLogsCard : Claim7 := { stood := { row := fnReportLogsRow, standIns := [], harness := (true, "1d489eefec7e07ae4a2d7ca5f039a1d78346487bda627157ab89b70d2f3522b9"), looks := false }, kinds := [], alts := [], laidByText := true, laidKinds := [.data, .data, .data], laidTests := true, laidLooks := .later }
def FnReportLogsCardSaid : Prop := Claim7.holds Tryd.pinned (.plain (OpenSpec.ofChange fnReportLogsSpec)) fnReportLogsCard

/-- THE SECOND FORM's CARD OF 'laws.FnReportLogs'. -/
def fnReportLogsUptoCard : Claim7 := { stood := { row := fnReportLogsUptoRow, standIns := [], harness := (true, "1d489eefec7e07ae4a2d7ca5f039a1d78346487bda627157ab89b70d2f3522b9"), looks := false }, kinds := [], alts := [], laidByText := true, laidKinds := [.data, .data, .data], laidTests := true, laidLooks := .later }
def FnReportLogsUptoCardSaid : Prop := Claim7.holds Tryd.pinned (.plain (OpenSpec.upto fnReportLogsSpec)) fnReportLogsUptoCard
end Rows
end Go.Proofs.YtjnghjgfhlgbiaaDoor
