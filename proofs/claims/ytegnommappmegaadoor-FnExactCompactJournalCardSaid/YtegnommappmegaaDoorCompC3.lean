/- Closed facts of the card of CompactJournal. Conditions: none. -/
import Derived.Test.YtegnommappmegaaDoorCards
import Derived.SevenTiedAt
import Derived.KernelRfl
namespace Go.Proofs.YtegnommappmegaaDoor
open Go
theorem compC_looks : true = Tryd.pinned.checked.prog.looks [] := by kernel_rfl
theorem compC_main : Tryd.pinned.checked.prog.mainIs = some (true, "fe6689c953cf34b2516cf44cbca2f30bcdb6e88459cca52bc4d8a0854e218c26".toList) := by kernel_rfl
end Go.Proofs.YtegnommappmegaaDoor
