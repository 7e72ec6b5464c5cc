/- Closed facts of the card of CompactJournal. Conditions: none. -/
import Derived.Test.YtegnommappmegaaDoorCards
import Derived.SevenTiedAt
import Derived.KernelRfl
namespace Go.Proofs.YtegnommappmegaaDoor
open Go
theorem compC_goes : false = Rows.fnExactCompactJournalRow.goesBy Tryd.pinned.checked.prog := by kernel_rfl
end Go.Proofs.YtegnommappmegaaDoor
