/- Closed facts of the row of FnExactJournalCatalogue. Conditions: none. -/
import Derived.Test.YticbmpjdcanjkaaGreatDoorRows
import Derived.JoinedOf
import Derived.KernelRfl
namespace Go.Proofs.YticbmpjdcanjkaaGreatDoor
open Go
theorem and_mk_fnExactJournalCatalogue {a b : Bool} (ha : a = true) (hb : b = true) : (a && b) = true := by rw [ha, hb]; rfl
set_option maxRecDepth 100000 in
set_option maxHeartbeats 40000000 in
theorem fnExactJournalCatalogue_facts : joinedFacts Tryz.prog 4 Tryz.f4 Rows.fnExactJournalCatalogueSpec Rows.fnExactJournalCatalogueRow = true := by
  unfold joinedFacts
  repeat' (with_reducible refine and_mk_fnExactJournalCatalogue ?_ ?_)
  all_goals (as_aux_lemma => kernel_rfl)
end Go.Proofs.YticbmpjdcanjkaaGreatDoor
