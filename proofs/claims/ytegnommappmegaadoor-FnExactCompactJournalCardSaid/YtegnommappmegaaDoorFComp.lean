/- Closed facts of the row of FnExactCompactJournal. Conditions: none. -/
import Derived.Test.YtegnommappmegaaDoorRows
import Derived.JoinedOf
import Derived.KernelRfl
namespace Go.Proofs.YtegnommappmegaaDoor
open Go
theorem and_mk_fnExactCompactJournal {a b : Bool} (ha : a = true) (hb : b = true) : (a && b) = true := by rw [ha, hb]; rfl
set_option maxRecDepth 100000 in
set_option maxHeartbeats 40000000 in
theorem fnExactCompactJournal_facts : joinedFacts Tryd.prog 13 Tryd.f13 Rows.fnExactCompactJournalSpec Rows.fnExactCompactJournalRow = true := by
  unfold joinedFacts
  repeat' (with_reducible refine and_mk_fnExactCompactJournal ?_ ?_)
  all_goals (as_aux_lemma => kernel_rfl)
end Go.Proofs.YtegnommappmegaaDoor
