/-
  DERIVED. GIVEN WITH THE SEED: THE CARDS: each row of YticbmpjdcanjkaaGreatDoorRows.lean that lists a variable, with what it lists TIED to the program's text (the seventh form; the later family's looks); each row that meets fmt, with fmt's text TOLD by the authors' own Lean function (tested against real Go, not proved from fmt's source: count such statements apart). THE CARD IS WHAT COUNTS. Prove the row's statement (the work); the ties are given (YticbmpjdcanjkaaGreatDoorTie.lean); close each card by the builder's one call (the guide's Derived/Test/ToyasCard.lean, 'card_holds'). Laid BY PROGRAM, IN A SANDBOX (cutbox-door.mjs). By AI agents, Wed Nov 11 2026. No macro, syntax, notation, axiom, sorry.
-/
import Derived.Test.YticbmpjdcanjkaaGreatDoorRows
import GoSem.ClaimSeven
namespace Go.Proofs.YticbmpjdcanjkaaGreatDoor
namespace Rows

/-- THE TIED CARD OF 'laws.FnExactParseTask'. -/
def fnExactParseTaskCard : Claim7 := { stood := { row := fnExactParseTaskRow, standIns := [], harness := (true, "028d706242d6d24a84ba72bde898bf56b7f2cb9817bdebf15fd623fe33fb5b96"), looks := true }, kinds := [], alts := [], laidByText := true, laidKinds := [.data, .data, .data, .data, .sentinel, .sentinel, .pinned], laidTests := true, laidLooks := .later }
def FnExactParseTaskCardSaid : Prop := Claim7.holds Tryz.pinned (.plain (OpenSpec.ofChange fnExactParseTaskSpec)) fnExactParseTaskCard

/-- THE TIED CARD OF 'laws.FnExactJournalCatalogue'. -/
def fnExactJournalCatalogueCard : Claim7 := { stood := { row := fnExactJournalCatalogueRow, standIns := [], harness := (true, "028d706242d6d24a84ba72bde898bf56b7f2cb9817bdebf15fd623fe33fb5b96"), looks := true }, kinds := [], alts := [], laidByText := true, laidKinds := [.data, .data, .data, .data, .sentinel, .sentinel, .pinned], laidTests := true, laidLooks := .later }
def FnExactJournalCatalogueCardSaid : Prop := Claim7.holds Tryz.pinned (.plain (OpenSpec.ofChange fnExactJournalCatalogueSpec)) fnExactJournalCatalogueCard

/-- THE SECOND FORM's CARD OF 'laws.FnExactParseTask'. -/
def fnExactParseTaskUptoCard : Claim7 := { stood := { row := fnExactParseTaskUptoRow, standIns := [], harness := (true, "028d706242d6d24a84ba72bde898bf56b7f2cb9817bdebf15fd623fe33fb5b96"), looks := true }, kinds := [], alts := [], laidByText := true, laidKinds := [.data, .data, .data, .data, .sentinel, .sentinel, .pinned], laidTests := true, laidLooks := .later }
def FnExactParseTaskUptoCardSaid : Prop := Claim7.holds Tryz.pinned (.plain (OpenSpec.upto fnExactParseTaskSpec)) fnExactParseTaskUptoCard

/-- THE SECOND FORM's CARD OF 'laws.FnExactJournalCatalogue'. -/
def fnExactJournalCatalogueUptoCard : Claim7 := { stood := { row := fnExactJournalCatalogueUptoRow, standIns := [], harness := (true, "028d706242d6d24a84ba72bde898bf56b7f2cb9817bdebf15fd623fe33fb5b96"), looks := true }, kinds := [], alts := [], laidByText := true, laidKinds := [.data, .data, .data, .data, .sentinel, .sentinel, .pinned], laidTests := true, laidLooks := .later }
def FnExactJournalCatalogueUptoCardSaid : Prop := Claim7.holds Tryz.pinned (.plain (OpenSpec.upto fnExactJournalCatalogueSpec)) fnExactJournalCatalogueUptoCard
end Rows
end Go.Proofs.YticbmpjdcanjkaaGreatDoor
