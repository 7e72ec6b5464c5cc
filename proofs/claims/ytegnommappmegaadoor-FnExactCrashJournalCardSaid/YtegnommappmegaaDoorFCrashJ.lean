/- Closed facts of the row of FnExactCrashJournal. Conditions: none. -/
import Derived.Test.YtegnommappmegaaDoorRows
import Derived.JoinedOf
import Derived.KernelRfl
namespace Go.Proofs.YtegnommappmegaaDoor
open Go
theorem and_mk_fnExactCrashJournal {a b : Bool} (ha : a = true) (hb : b = true) : (a && b) = true := by rw [ha, hb]; rfl
set_option maxRecDepth 100000 in
set_option maxHeartbeats 40000000 in
theorem fnExactCrashJournal_facts : joinedFacts Tryd.prog 9 Tryd.f9 Rows.fnExactCrashJournalSpec Rows.fnExactCrashJournalRow = true := by
  unfold joinedFacts
  repeat' (with_reducible refine and_mk_fnExactCrashJournal ?_ ?_)
  all_goals (as_aux_lemma => kernel_rfl)
end Go.Proofs.YtegnommappmegaaDoor
