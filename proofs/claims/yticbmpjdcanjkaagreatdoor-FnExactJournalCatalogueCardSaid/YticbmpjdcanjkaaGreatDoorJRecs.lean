/- JournalRecords of both. Conditions: Env; bounds. -/
import Derived.Test.YticbmpjdcanjkaaGreatDoorJour2
import Derived.Test.YticbmpjdcanjkaaGreatDoorSRecord
namespace Go.Proofs.YticbmpjdcanjkaaGreatDoor
open Go Go.RowKit
theorem jrV_len (D P : ByteArray) : (jrV D P).length ≤ 30 := by
  unfold jrV
  split
  · exact jrRecs_len D P
  · exact Nat.zero_le _
end Go.Proofs.YticbmpjdcanjkaaGreatDoor
