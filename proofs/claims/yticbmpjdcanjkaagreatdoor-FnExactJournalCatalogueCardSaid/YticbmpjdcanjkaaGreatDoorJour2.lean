/- SyncJournal and RecoverJournal of both; equal journals. Conditions: Env; bounds. -/
import Derived.Test.YticbmpjdcanjkaaGreatDoorJour
namespace Go.Proofs.YticbmpjdcanjkaaGreatDoor
open Go Go.RowKit

/-- What both hand back. -/
def syV (D P : ByteArray) : ByteArray × Bool := if jrOk D P = true then (D ++ P, true) else (⟨#[]⟩, false)
def reV (s : ByteArray) : ByteArray × Nat × Bool := if s.size ≤ 4000 then (s.extract 0 (jrA s).2, (jrA s).2, true) else (⟨#[]⟩, 0, false)
end Go.Proofs.YticbmpjdcanjkaaGreatDoor
