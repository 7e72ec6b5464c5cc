/-
  DERIVED. GIVEN WITH THE SEED: THE CARDS: each row of YtegnommappmegaaDoorRows.lean that lists a variable, with what it lists TIED to the program's text (the seventh form; the later family's looks); each row that meets fmt, with fmt's text TOLD by the authors' own Lean function (tested against real Go, not proved from fmt's source: count such statements apart). THE CARD IS WHAT COUNTS. Prove the row's statement (the work); the ties are given (YtegnommappmegaaDoorTie.lean); close each card by the builder's one call (the guide's Derived/Test/ToyasCard.lean, 'card_holds'). Laid BY PROGRAM, IN A SANDBOX (cutbox-door.mjs). By AI agents, Wed Nov 11 2026. No macro, syntax, notation, axiom, sorry.
-/
import Derived.Test.YtegnommappmegaaDoorRows
import GoSem.ClaimSeven
namespace Go.Proofs.YtegnommappmegaaDoor
namespace Rows

/-- THE TIED CARD OF 'laws.FnExactSealRecord'. -/
def fnExactSealRecordCard : Claim7 := { stood := { row := fnExactSealRecordRow, standIns := [], harness := (true, "fe6689c953cf34b2516cf44cbca2f30bcdb6e88459cca52bc4d8a0854e218c26"), looks := true }, kinds := [], alts := [], laidByText := true, laidKinds := [.data, .data, .data], laidTests := true, laidLooks := .later }
def FnExactSealRecordCardSaid : Prop := Claim7.holds Tryd.pinned (.plain (OpenSpec.ofChange fnExactSealRecordSpec)) fnExactSealRecordCard

/-- THE TIED CARD OF 'laws.FnExactCatalogueText'. -/
def fnExactCatalogueTextCard : Claim7 := { stood := { row := fnExactCatalogueTextRow, standIns := [], harness := (true, "fe6689c953cf34b2516cf44cbca2f30bcdb6e88459cca52bc4d8a0854e218c26"), looks := true }, kinds := [], alts := [], laidByText := true, laidKinds := [.data, .data, .data], laidTests := true, laidLooks := .later }
def FnExactCatalogueTextCardSaid : Prop := Claim7.holds Tryd.pinned (.plain (OpenSpec.ofChange fnExactCatalogueTextSpec)) fnExactCatalogueTextCard

/-- THE TIED CARD OF 'laws.FnExactReportsText'. -/
def fnExactReportsTextCard : Claim7 := { stood := { row := fnExactReportsTextRow, standIns := [], harness := (true, "fe6689c953cf34b2516cf44cbca2f30bcdb6e88459cca52bc4d8a0854e218c26"), looks := true }, kinds := [], alts := [], laidByText := true, laidKinds := [.data, .data, .data], laidTests := true, laidLooks := .later }
def FnExactReportsTextCardSaid : Prop := Claim7.holds Tryd.pinned (.plain (OpenSpec.ofChange fnExactReportsTextSpec)) fnExactReportsTextCard

/-- THE TIED CARD OF 'laws.FnExactTaskText'. -/
def fnExactTaskTextCard : Claim7 := { stood := { row := fnExactTaskTextRow, standIns := [], harness := (true, "fe6689c953cf34b2516cf44cbca2f30bcdb6e88459cca52bc4d8a0854e218c26"), looks := true }, kinds := [], alts := [], laidByText := true, laidKinds := [.data, .data, .data], laidTests := true, laidLooks := .later }
def FnExactTaskTextCardSaid : Prop := Claim7.holds Tryd.pinned (.plain (OpenSpec.ofChange fnExactTaskTextSpec)) fnExactTaskTextCard

/-- THE TIED CARD OF 'laws.FnExactRecoverJournal'. -/
def fnExactRecoverJournalCard : Claim7 := { stood := { row := fnExactRecoverJournalRow, standIns := [], harness := (true, "fe6689c953cf34b2516cf44cbca2f30bcdb6e88459cca52bc4d8a0854e218c26"), looks := true }, kinds := [], alts := [], laidByText := true, laidKinds := [.data, .data, .data, .data, .sentinel, .sentinel, .pinned], laidTests := true, laidLooks := .later }
def FnExactRecoverJournalCardSaid : Prop := Claim7.holds Tryd.pinned (.plain (OpenSpec.ofChange fnExactRecoverJournalSpec)) fnExactRecoverJournalCard

/-- THE TIED CARD OF 'laws.FnExactIsJournal'. -/
def fnExactIsJournalCard : Claim7 := { stood := { row := fnExactIsJournalRow, standIns := [], harness := (true, "fe6689c953cf34b2516cf44cbca2f30bcdb6e88459cca52bc4d8a0854e218c26"), looks := true }, kinds := [], alts := [], laidByText := true, laidKinds := [.data, .data, .data, .data, .sentinel, .sentinel, .pinned], laidTests := true, laidLooks := .later }
def FnExactIsJournalCardSaid : Prop := Claim7.holds Tryd.pinned (.plain (OpenSpec.ofChange fnExactIsJournalSpec)) fnExactIsJournalCard

/-- THE TIED CARD OF 'laws.FnExactCrashJournal'. -/
def fnExactCrashJournalCard : Claim7 := { stood := { row := fnExactCrashJournalRow, standIns := [], harness := (true, "fe6689c953cf34b2516cf44cbca2f30bcdb6e88459cca52bc4d8a0854e218c26"), looks := true }, kinds := [], alts := [], laidByText := true, laidKinds := [.data, .data, .data, .data, .sentinel, .sentinel, .pinned], laidTests := true, laidLooks := .later }
def FnExactCrashJournalCardSaid : Prop := Claim7.holds Tryd.pinned (.plain (OpenSpec.ofChange fnExactCrashJournalSpec)) fnExactCrashJournalCard

/-- THE TIED CARD OF 'laws.FnExactSyncJournal'. -/
def fnExactSyncJournalCard : Claim7 := { stood := { row := fnExactSyncJournalRow, standIns := [], harness := (true, "fe6689c953cf34b2516cf44cbca2f30bcdb6e88459cca52bc4d8a0854e218c26"), looks := true }, kinds := [], alts := [], laidByText := true, laidKinds := [.data, .data, .data, .data, .sentinel, .sentinel, .pinned], laidTests := true, laidLooks := .later }
def FnExactSyncJournalCardSaid : Prop := Claim7.holds Tryd.pinned (.plain (OpenSpec.ofChange fnExactSyncJournalSpec)) fnExactSyncJournalCard

/-- THE TIED CARD OF 'laws.FnExactAppendRecord'. -/
def fnExactAppendRecordCard : Claim7 := { stood := { row := fnExactAppendRecordRow, standIns := [], harness := (true, "fe6689c953cf34b2516cf44cbca2f30bcdb6e88459cca52bc4d8a0854e218c26"), looks := true }, kinds := [], alts := [], laidByText := true, laidKinds := [.data, .data, .data, .data, .sentinel, .sentinel, .pinned], laidTests := true, laidLooks := .later }
def FnExactAppendRecordCardSaid : Prop := Claim7.holds Tryd.pinned (.plain (OpenSpec.ofChange fnExactAppendRecordSpec)) fnExactAppendRecordCard

/-- THE TIED CARD OF 'laws.FnExactJournalRecords'. -/
def fnExactJournalRecordsCard : Claim7 := { stood := { row := fnExactJournalRecordsRow, standIns := [], harness := (true, "fe6689c953cf34b2516cf44cbca2f30bcdb6e88459cca52bc4d8a0854e218c26"), looks := true }, kinds := [], alts := [], laidByText := true, laidKinds := [.data, .data, .data, .data, .sentinel, .sentinel, .pinned], laidTests := true, laidLooks := .later }
def FnExactJournalRecordsCardSaid : Prop := Claim7.holds Tryd.pinned (.plain (OpenSpec.ofChange fnExactJournalRecordsSpec)) fnExactJournalRecordsCard

/-- THE TIED CARD OF 'laws.FnExactCompactJournal'. -/
def fnExactCompactJournalCard : Claim7 := { stood := { row := fnExactCompactJournalRow, standIns := [], harness := (true, "fe6689c953cf34b2516cf44cbca2f30bcdb6e88459cca52bc4d8a0854e218c26"), looks := true }, kinds := [], alts := [], laidByText := true, laidKinds := [.data, .data, .data, .data, .sentinel, .sentinel, .pinned], laidTests := true, laidLooks := .later }
def FnExactCompactJournalCardSaid : Prop := Claim7.holds Tryd.pinned (.plain (OpenSpec.ofChange fnExactCompactJournalSpec)) fnExactCompactJournalCard

/-- THE TIED CARD OF 'laws.FnExactBoundsIn'. -/
def fnExactBoundsInCard : Claim7 := { stood := { row := fnExactBoundsInRow, standIns := [], harness := (true, "fe6689c953cf34b2516cf44cbca2f30bcdb6e88459cca52bc4d8a0854e218c26"), looks := true }, kinds := [], alts := [], laidByText := true, laidKinds := [.data, .data, .data, .data, .sentinel, .sentinel, .pinned], laidTests := true, laidLooks := .later }
def FnExactBoundsInCardSaid : Prop := Claim7.holds Tryd.pinned (.plain (OpenSpec.ofChange fnExactBoundsInSpec)) fnExactBoundsInCard

/-- THE SECOND FORM's CARD OF 'laws.FnExactSealRecord'. -/
def fnExactSealRecordUptoCard : Claim7 := { stood := { row := fnExactSealRecordUptoRow, standIns := [], harness := (true, "fe6689c953cf34b2516cf44cbca2f30bcdb6e88459cca52bc4d8a0854e218c26"), looks := true }, kinds := [], alts := [], laidByText := true, laidKinds := [.data, .data, .data], laidTests := true, laidLooks := .later }
def FnExactSealRecordUptoCardSaid : Prop := Claim7.holds Tryd.pinned (.plain (OpenSpec.upto fnExactSealRecordSpec)) fnExactSealRecordUptoCard

/-- THE SECOND FORM's CARD OF 'laws.FnExactCatalogueText'. -/
def fnExactCatalogueTextUptoCard : Claim7 := { stood := { row := fnExactCatalogueTextUptoRow, standIns := [], harness := (true, "fe6689c953cf34b2516cf44cbca2f30bcdb6e88459cca52bc4d8a0854e218c26"), looks := true }, kinds := [], alts := [], laidByText := true, laidKinds := [.data, .data, .data], laidTests := true, laidLooks := .later }
def FnExactCatalogueTextUptoCardSaid : Prop := Claim7.holds Tryd.pinned (.plain (OpenSpec.upto fnExactCatalogueTextSpec)) fnExactCatalogueTextUptoCard

/-- THE SECOND FORM's CARD OF 'laws.FnExactReportsText'. -/
def fnExactReportsTextUptoCard : Claim7 := { stood := { row := fnExactReportsTextUptoRow, standIns := [], harness := (true, "fe6689c953cf34b2516cf44cbca2f30bcdb6e88459cca52bc4d8a0854e218c26"), looks := true }, kinds := [], alts := [], laidByText := true, laidKinds := [.data, .data, .data], laidTests := true, laidLooks := .later }
def FnExactReportsTextUptoCardSaid : Prop := Claim7.holds Tryd.pinned (.plain (OpenSpec.upto fnExactReportsTextSpec)) fnExactReportsTextUptoCard

/-- THE SECOND FORM's CARD OF 'laws.FnExactTaskText'. -/
def fnExactTaskTextUptoCard : Claim7 := { stood := { row := fnExactTaskTextUptoRow, standIns := [], harness := (true, "fe6689c953cf34b2516cf44cbca2f30bcdb6e88459cca52bc4d8a0854e218c26"), looks := true }, kinds := [], alts := [], laidByText := true, laidKinds := [.data, .data, .data], laidTests := true, laidLooks := .later }
def FnExactTaskTextUptoCardSaid : Prop := Claim7.holds Tryd.pinned (.plain (OpenSpec.upto fnExactTaskTextSpec)) fnExactTaskTextUptoCard

/-- THE SECOND FORM's CARD OF 'laws.FnExactRecoverJournal'. -/
def fnExactRecoverJournalUptoCard : Claim7 := { stood := { row := fnExactRecoverJournalUptoRow, standIns := [], harness := (true, "fe6689c953cf34b2516cf44cbca2f30bcdb6e88459cca52bc4d8a0854e218c26"), looks := true }, kinds := [], alts := [], laidByText := true, laidKinds := [.data, .data, .data, .data, .sentinel, .sentinel, .pinned], laidTests := true, laidLooks := .later }
def FnExactRecoverJournalUptoCardSaid : Prop := Claim7.holds Tryd.pinned (.plain (OpenSpec.upto fnExactRecoverJournalSpec)) fnExactRecoverJournalUptoCard

/-- THE SECOND FORM's CARD OF 'laws.FnExactIsJournal'. -/
def fnExactIsJournalUptoCard : Claim7 := { stood := { row := fnExactIsJournalUptoRow, standIns := [], harness := (true, "fe6689c953cf34b2516cf44cbca2f30bcdb6e88459cca52bc4d8a0854e218c26"), looks := true }, kinds := [], alts := [], laidByText := true, laidKinds := [.data, .data, .data, .data, .sentinel, .sentinel, .pinned], laidTests := true, laidLooks := .later }
def FnExactIsJournalUptoCardSaid : Prop := Claim7.holds Tryd.pinned (.plain (OpenSpec.upto fnExactIsJournalSpec)) fnExactIsJournalUptoCard

/-- THE SECOND FORM's CARD OF 'laws.FnExactCrashJournal'. -/
def fnExactCrashJournalUptoCard : Claim7 := { stood := { row := fnExactCrashJournalUptoRow, standIns := [], harness := (true, "fe6689c953cf34b2516cf44cbca2f30bcdb6e88459cca52bc4d8a0854e218c26"), looks := true }, kinds := [], alts := [], laidByText := true, laidKinds := [.data, .data, .data, .data, .sentinel, .sentinel, .pinned], laidTests := true, laidLooks := .later }
def FnExactCrashJournalUptoCardSaid : Prop := Claim7.holds Tryd.pinned (.plain (OpenSpec.upto fnExactCrashJournalSpec)) fnExactCrashJournalUptoCard

/-- THE SECOND FORM's CARD OF 'laws.FnExactSyncJournal'. -/
def fnExactSyncJournalUptoCard : Claim7 := { stood := { row := fnExactSyncJournalUptoRow, standIns := [], harness := (true, "fe6689c953cf34b2516cf44cbca2f30bcdb6e88459cca52bc4d8a0854e218c26"), looks := true }, kinds := [], alts := [], laidByText := true, laidKinds := [.data, .data, .data, .data, .sentinel, .sentinel, .pinned], laidTests := true, laidLooks := .later }
def FnExactSyncJournalUptoCardSaid : Prop := Claim7.holds Tryd.pinned (.plain (OpenSpec.upto fnExactSyncJournalSpec)) fnExactSyncJournalUptoCard

/-- THE SECOND FORM's CARD OF 'laws.FnExactAppendRecord'. -/
def fnExactAppendRecordUptoCard : Claim7 := { stood := { row := fnExactAppendRecordUptoRow, standIns := [], harness := (true, "fe6689c953cf34b2516cf44cbca2f30bcdb6e88459cca52bc4d8a0854e218c26"), looks := true }, kinds := [], alts := [], laidByText := true, laidKinds := [.data, .data, .data, .data, .sentinel, .sentinel, .pinned], laidTests := true, laidLooks := .later }
def FnExactAppendRecordUptoCardSaid : Prop := Claim7.holds Tryd.pinned (.plain (OpenSpec.upto fnExactAppendRecordSpec)) fnExactAppendRecordUptoCard

/-- THE SECOND FORM's CARD OF 'laws.FnExactJournalRecords'. -/
def fnExactJournalRecordsUptoCard : Claim7 := { stood := { row := fnExactJournalRecordsUptoRow, standIns := [], harness := (true, "fe6689c953cf34b2516cf44cbca2f30bcdb6e88459cca52bc4d8a0854e218c26"), looks := true }, kinds := [], alts := [], laidByText := true, laidKinds := [.data, .data, .data, .data, .sentinel, .sentinel, .pinned], laidTests := true, laidLooks := .later }
def FnExactJournalRecordsUptoCardSaid : Prop := Claim7.holds Tryd.pinned (.plain (OpenSpec.upto fnExactJournalRecordsSpec)) fnExactJournalRecordsUptoCard

/-- THE SECOND FORM's CARD OF 'laws.FnExactCompactJournal'. -/
def fnExactCompactJournalUptoCard : Claim7 := { stood := { row := fnExactCompactJournalUptoRow, standIns := [], harness := (true, "fe6689c953cf34b2516cf44cbca2f30bcdb6e88459cca52bc4d8a0854e218c26"), looks := true }, kinds := [], alts := [], laidByText := true, laidKinds := [.data, .data, .data, .data, .sentinel, .sentinel, .pinned], laidTests := true, laidLooks := .later }
def FnExactCompactJournalUptoCardSaid : Prop := Claim7.holds Tryd.pinned (.plain (OpenSpec.upto fnExactCompactJournalSpec)) fnExactCompactJournalUptoCard

/-- THE SECOND FORM's CARD OF 'laws.FnExactBoundsIn'. -/
def fnExactBoundsInUptoCard : Claim7 := { stood := { row := fnExactBoundsInUptoRow, standIns := [], harness := (true, "fe6689c953cf34b2516cf44cbca2f30bcdb6e88459cca52bc4d8a0854e218c26"), looks := true }, kinds := [], alts := [], laidByText := true, laidKinds := [.data, .data, .data, .data, .sentinel, .sentinel, .pinned], laidTests := true, laidLooks := .later }
def FnExactBoundsInUptoCardSaid : Prop := Claim7.holds Tryd.pinned (.plain (OpenSpec.upto fnExactBoundsInSpec)) fnExactBoundsInUptoCard
end Rows
end Go.Proofs.YtegnommappmegaaDoor
