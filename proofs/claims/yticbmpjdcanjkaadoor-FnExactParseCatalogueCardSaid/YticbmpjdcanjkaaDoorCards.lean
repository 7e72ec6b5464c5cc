/-
  DERIVED. GIVEN WITH THE SEED: THE CARDS: each row of YticbmpjdcanjkaaDoorRows.lean that lists a variable, with what it lists TIED to the program's text (the seventh form; the later family's looks); each row that meets fmt, with fmt's text TOLD by the authors' own Lean function (tested against real Go, not proved from fmt's source: count such statements apart). THE CARD IS WHAT COUNTS. Prove the row's statement (the work); the ties are given (YticbmpjdcanjkaaDoorTie.lean); close each card by the builder's one call (the guide's Derived/Test/ToyasCard.lean, 'card_holds'). Laid BY PROGRAM, IN A SANDBOX (cutbox-door.mjs). By AI agents, Wed Nov 11 2026. No macro, syntax, notation, axiom, sorry.
-/
import Derived.Test.YticbmpjdcanjkaaDoorRows
import GoSem.ClaimSeven
namespace Go.Proofs.YticbmpjdcanjkaaDoor
namespace Rows

/-- THE TIED CARD OF 'laws.FnExactParseCatalogue'. -/
def fnExactParseCatalogueCard : Claim7 := { stood := { row := fnExactParseCatalogueRow, standIns := [], harness := (true, "b84ba51c38f8a646da1f55e3d7e59601714180b78d23d9825ed577d72b3834ee"), looks := true }, kinds := [], alts := [], laidByText := true, laidKinds := [.data, .data, .data, .data, .sentinel, .sentinel, .pinned], laidTests := true, laidLooks := .later }
def FnExactParseCatalogueCardSaid : Prop := Claim7.holds Tryd.pinned (.plain (OpenSpec.ofChange fnExactParseCatalogueSpec)) fnExactParseCatalogueCard

/-- THE SECOND FORM's CARD OF 'laws.FnExactParseCatalogue'. -/
def fnExactParseCatalogueUptoCard : Claim7 := { stood := { row := fnExactParseCatalogueUptoRow, standIns := [], harness := (true, "b84ba51c38f8a646da1f55e3d7e59601714180b78d23d9825ed577d72b3834ee"), looks := true }, kinds := [], alts := [], laidByText := true, laidKinds := [.data, .data, .data, .data, .sentinel, .sentinel, .pinned], laidTests := true, laidLooks := .later }
def FnExactParseCatalogueUptoCardSaid : Prop := Claim7.holds Tryd.pinned (.plain (OpenSpec.upto fnExactParseCatalogueSpec)) fnExactParseCatalogueUptoCard
end Rows
end Go.Proofs.YticbmpjdcanjkaaDoor
