/- Closed facts of the row of FnExactJournalRecords. Conditions: none. -/
import Derived.Test.YtegnommappmegaaDoorRows
import Derived.JoinedOf
import Derived.KernelRfl
namespace Go.Proofs.YtegnommappmegaaDoor
open Go
theorem and_mk_fnExactJournalRecords {a b : Bool} (ha : a = true) (hb : b = true) : (a && b) = true := by rw [ha, hb]; rfl
set_option maxRecDepth 100000 in
set_option maxHeartbeats 40000000 in
theorem fnExactJournalRecords_facts : joinedFacts Tryd.prog 12 Tryd.f12 Rows.fnExactJournalRecordsSpec Rows.fnExactJournalRecordsRow = true := by
  unfold joinedFacts
  repeat' (with_reducible refine and_mk_fnExactJournalRecords ?_ ?_)
  all_goals (as_aux_lemma => kernel_rfl)
end Go.Proofs.YtegnommappmegaaDoor
