/- BoundsIn of both. Conditions: Env; bounds. -/
import Derived.Test.YticbmpjdcanjkaaGreatDoorBnds
import Derived.Test.YticbmpjdcanjkaaGreatDoorJRecs
import Derived.Deep.RegionHeld3
namespace Go.Proofs.YticbmpjdcanjkaaGreatDoor
open Go Go.RowKit

def biV (D P : ByteArray) (a b : Int) : Int × Int × Bool := if jrOk D P = true ∧ curveB a b = true then bndV a b (jrV D P) else (0, 0, false)
end Go.Proofs.YticbmpjdcanjkaaGreatDoor
