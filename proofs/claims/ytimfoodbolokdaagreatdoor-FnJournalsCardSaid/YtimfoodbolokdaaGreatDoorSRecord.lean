/- The laws' own helpers at slices of Record: what they compute. Conditions: lengths of at most 1048576. -/
import Derived.Test.YtimfoodbolokdaaGreatDoorEtM2
import Derived.Test.YtimfoodbolokdaaGreatDoorEtM1
import Derived.Test.YtimfoodbolokdaaGreatDoorJour
namespace Go.Proofs.YtimfoodbolokdaaGreatDoor
open Go Go.RowKit

theorem rc_cells {w : World} {g off n : Nat} {es : List Rc} (h : ∀ k, k < n → ∀ j, j < rcS.size → w.cell? ⟨g, off + k * rcS.size + j, none⟩ = some (rcS.cell (rcS.get es k) j)) (k : Nat) (hk : k < n) :
    w.cell? ⟨g, off + k * 4, none⟩ = some (.int .i64 (rcS.get es k).a) ∧ w.cell? ⟨g, off + k * 4 + 1, none⟩ = some (.int .i64 (rcS.get es k).b) ∧ w.cell? ⟨g, off + k * 4 + 2, none⟩ = some (.int .i64 (rcS.get es k).lo) ∧
      w.cell? ⟨g, off + k * 4 + 3, none⟩ = some (.int .i64 (rcS.get es k).hi) :=
  ⟨h k hk 0 (by decide), h k hk 1 (by decide), h k hk 2 (by decide), h k hk 3 (by decide)⟩
end Go.Proofs.YtimfoodbolokdaaGreatDoor
