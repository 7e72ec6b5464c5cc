/- Closed facts of the row of FnExactIsJournal. Conditions: none. -/
import Derived.Test.YtegnommappmegaaDoorRows
import Derived.JoinedOf
import Derived.KernelRfl
namespace Go.Proofs.YtegnommappmegaaDoor
open Go
theorem and_mk_fnExactIsJournal {a b : Bool} (ha : a = true) (hb : b = true) : (a && b) = true := by rw [ha, hb]; rfl
set_option maxRecDepth 100000 in
set_option maxHeartbeats 40000000 in
theorem fnExactIsJournal_facts : joinedFacts Tryd.prog 8 Tryd.f8 Rows.fnExactIsJournalSpec Rows.fnExactIsJournalRow = true := by
  unfold joinedFacts
  repeat' (with_reducible refine and_mk_fnExactIsJournal ?_ ?_)
  all_goals (as_aux_lemma => kernel_rfl)
end Go.Proofs.YtegnommappmegaaDoor
