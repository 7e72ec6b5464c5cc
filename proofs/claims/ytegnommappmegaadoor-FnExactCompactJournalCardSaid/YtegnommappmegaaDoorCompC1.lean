/- Closed facts of the card of CompactJournal. Conditions: none. -/
import Derived.Test.YtegnommappmegaaDoorCards
import Derived.SevenTiedAt
import Derived.KernelRfl
namespace Go.Proofs.YtegnommappmegaaDoor
open Go
theorem compC_wf : Rows.fnExactCompactJournalRow.wfByText (OpenSpec.ofChange Rows.fnExactCompactJournalSpec) = true := by kernel_rfl
end Go.Proofs.YtegnommappmegaaDoor
