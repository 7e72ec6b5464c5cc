/- The walks of the laws' own helpers at one curve, entry, record, report: toX, eqX. Conditions: none. -/
import Derived.Test.YticbmpjdcanjkaaGreatDoorBase
namespace Go.Proofs.YticbmpjdcanjkaaGreatDoor
open Go Go.RowKit

end Go.Proofs.YticbmpjdcanjkaaGreatDoor
