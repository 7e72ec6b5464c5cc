/- Closed facts of the row of FnExactAppendRecord. Conditions: none. -/
import Derived.Test.YtegnommappmegaaDoorRows
import Derived.JoinedOf
import Derived.KernelRfl
namespace Go.Proofs.YtegnommappmegaaDoor
open Go
theorem and_mk_fnExactAppendRecord {a b : Bool} (ha : a = true) (hb : b = true) : (a && b) = true := by rw [ha, hb]; rfl
set_option maxRecDepth 100000 in
set_option maxHeartbeats 40000000 in
theorem fnExactAppendRecord_facts : joinedFacts Tryd.prog 11 Tryd.f11 Rows.fnExactAppendRecordSpec Rows.fnExactAppendRecordRow = true := by
  unfold joinedFacts
  repeat' (with_reducible refine and_mk_fnExactAppendRecord ?_ ?_)
  all_goals (as_aux_lemma => kernel_rfl)
end Go.Proofs.YtegnommappmegaaDoor
