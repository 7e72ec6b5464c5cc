/- Is a task valid, in the reference. Conditions: none. -/
import Derived.Test.YticbmpjdcanjkaaGreatDoorTaskG
namespace Go.Proofs.YticbmpjdcanjkaaGreatDoor
open Go Go.RowKit

end Go.Proofs.YticbmpjdcanjkaaGreatDoor
